/- The law of the trees. -/
import Derived.Test.YtabfekfbdacboaaTrAll
import Derived.Test.YtabfekfbdacboaaTrq
import Derived.Test.YtabfekfbdacboaaRand
import Derived.Test.YtabfekfbdacboaaSplit
import Derived.Test.YtabfekfbdacboaaSame
import Derived.Deep.DeepCutAuto
import Derived.Deep.RegionHeld3
import Derived.BigQuiet
namespace Go.Proofs.Ytabfekfbdacboaa
open Go.RowKit
set_option linter.unusedVariables false

set_option maxRecDepth 100000 in
set_option maxHeartbeats 8000000 in
theorem law_FnTrees (w : World) (v0 : Value) (xs : List Int) (r0 : Rd .u8 w 0 w.heap.size v0 xs) (f0 : Wf .u8 xs) :
    Calls Try.prog 7 #[v0] w fun e w' => e = .returned (.bool true) ∧ Below w.heap.size w w' := by
  by_cases b0 : xs.length ≤ 1048576
  rotate_left
  · go_enter Try.func7, Try.ntmps7
    go_wp2_with fail
    refine (big_yes _ xs _ _ _ r0 b0).mono ?_
    rintro e w1 ⟨rfl, rfl⟩
    go_wp2_with fail
    go_ret
    exact ⟨rfl, Below.refl _ _⟩
  have T0 := at_any _ xs 0 w _ _ r0 f0 b0 (by omega)
  have T1 := fun w' (r : Rd .u8 w' 0 w.heap.size v0 xs) => at_any _ xs 1 w' _ _ r f0 b0 (by omega)
  have T2 := fun w' (r : Rd .u8 w' 0 w.heap.size v0 xs) => at_any _ xs 2 w' _ _ r f0 b0 (by omega)
  have T3 := fun w' (r : Rd .u8 w' 0 w.heap.size v0 xs) => at_any _ xs 3 w' _ _ r f0 b0 (by omega)
  obtain ⟨x0, hx0⟩ : ∃ x, x = atI xs 0 := ⟨_, rfl⟩
  obtain ⟨x1, hx1⟩ : ∃ x, x = atI xs 1 := ⟨_, rfl⟩
  obtain ⟨x2, hx2⟩ : ∃ x, x = atI xs 2 := ⟨_, rfl⟩
  obtain ⟨x3, hx3⟩ : ∃ x, x = atI xs 3 := ⟨_, rfl⟩
  obtain ⟨a0, a1⟩ := atI_bd f0 0
  obtain ⟨b0', b1⟩ := atI_bd f0 1
  obtain ⟨c0, c1⟩ := atI_bd f0 2
  obtain ⟨d0, d1⟩ := atI_bd f0 3
  rw [← hx0] at T0 a0 a1
  simp only [← hx1] at T1
  rw [← hx1] at b0' b1
  simp only [← hx2] at T2
  rw [← hx2] at c0 c1
  simp only [← hx3] at T3
  rw [← hx3] at d0 d1
  clear hx0 hx1 hx2 hx3
  have e1 : x0.tmod 5 = x0 % 5 := Int.tmod_eq_emod_of_nonneg a0
  obtain ⟨D, hD⟩ : ∃ D : Nat, (D : Int) = 1 + x0 % 5 := ⟨(1 + x0 % 5).toNat, by omega⟩
  have hD1 : 1 ≤ D ∧ D ≤ 5 := by omega
  have HD := Lib.hid hD
  clear hD
  go_enter Try.func7, Try.ntmps7
  go_wp2_with fail
  refine (big_no _ xs _ _ _ r0 b0).mono ?_
  rintro e w1 ⟨rfl, rfl⟩
  go_wp2_with fail
  refine T0.mono ?_
  rintro e w1 ⟨rfl, rfl⟩
  obtain ⟨p64, p0⟩ := pow6 (D := D) (by omega)
  have p32 : (2 : Int) ^ D ≤ 32 := by
    have : (2 : Int) ^ D ≤ 2 ^ 5 := by exact_mod_cast Nat.pow_le_pow_right (by decide) (by omega : D ≤ 5)
    omega
  have i0 : 0 ≤ x1 % 2 ^ D := Int.emod_nonneg _ (by omega)
  have i1 : x1 % 2 ^ D < 2 ^ D := Int.emod_lt_of_pos _ p0
  go_upto_region 4 with fail
  rw [← HD.out]
  go_cut [4] from 13 to 143 (fun s wx => s = .int .i64 (x1 % 2 ^ D) ∧ Below w.heap.size w wx)
  case first =>
    have E1 : min D 64 = D := by omega
    have E2 : IntKind.i64.wrap (2 ^ D) = 2 ^ D := IntWalk.i64_in _ (by omega)
    have E3 : x1.tmod (2 ^ D) = x1 % 2 ^ D := Int.tmod_eq_emod_of_nonneg b0'
    have E4 : ¬ (2 : Int) ^ D = 0 := by omega
    have E5 : IntKind.i64.wrap (x1 % 2 ^ D) = x1 % 2 ^ D := IntWalk.i64_in _ (by omega)
    have E6 : ¬ (D : Int) < 0 := by omega
    have E7 : (0 : Int) ≤ (D : Int) := by omega
    go_region_held3 (fun _ => True) (trivial) (first | (go_at_call 21; refine (T1 _ (by first | exact r0 | exact r0.drew)).mono ?_; rintro e w' ⟨rfl, rfl⟩))
    go_wp2_with fail
    go_meet
    exact ⟨rfl, by first | exact Below.refl _ _ | exact (Below.refl _ _).drew⟩
  case rest =>
  obtain ⟨rfl, B1⟩ := hcut
  have z1 := B1.size
  obtain ⟨I, hI⟩ : ∃ I : Nat, (I : Int) = x1 % 2 ^ D := ⟨(x1 % 2 ^ D).toNat, by omega⟩
  obtain ⟨R, hR⟩ : ∃ R : Nat, (R : Int) = x2 * 256 + x3 := ⟨(x2 * 256 + x3).toNat, by omega⟩
  have hIl : I < 2 ^ D := by
    have : ((2 ^ D : Nat) : Int) = 2 ^ D := by simp
    omega
  have hRl : R < 65536 := by omega
  have r1 := r0.below B1 (Nat.le_refl _)
  have HI := Lib.hid hI
  have HR := Lib.hid hR
  have HP : Hid (((2 ^ D : Nat) : Int) = 2 ^ D) := by unfold Hid; simp
  obtain ⟨L, P, hL, hPu, hLl, hPl, wfP, F1, F2, F3, F4, F5⟩ := tree_facts D R I hD1 hRl hIl
  have HL := Lib.hid hL
  have HPu := Lib.hid hPu
  have HLl := Lib.hid hLl
  have HPl := Lib.hid hPl
  have WP := Lib.hid wfP
  have G1 := Lib.hid F1
  have G2 := Lib.hid F2
  have G3 := Lib.hid F3
  have G4 := Lib.hid F4
  have G5 := Lib.hid F5
  have hLs : L.length ≤ 32 := by
    rw [hLl]
    have : (2 : Nat) ^ D ≤ 2 ^ 5 := Nat.pow_le_pow_right (by decide) hD1.2
    omega
  have hPs : P.length ≤ 5 := by omega
  have hR64 : In64 (R : Int) := by unfold In64; omega
  have hI64 : In64 (I : Int) := by unfold In64; omega
  have HR64 := Lib.hid hR64
  have HI64 := Lib.hid hI64
  clear hL hPu hLl hPl wfP F1 F2 F3 F4 F5 hR64 hI64 hI hR T0 T1 i0 i1
  rw [← HI.out]
  go_wp2_with fail
  refine (T2 _ r1).mono ?_
  rintro e w' ⟨rfl, rfl⟩
  go_wp2_with fail
  refine (T3 _ r1).mono ?_
  rintro e w' ⟨rfl, rfl⟩
  clear T2 T3
  go_wp2_with fail
  rw [← HR.out]
  refine (implLeaves R D _ HR64.out).mono ?_
  rw [← HL.out]
  rintro e w2 ⟨v2, rfl, o2, bel2⟩
  have B2 := B1.trans (bel2.mono z1)
  have z2 := bel2.size
  have q2 := o2.rd
  clear o2
  go_wp2_with fail
  refine (implPunct R D I _ HR64.out HI64.out).mono ?_
  rw [← HPu.out]
  rintro e w3 ⟨v3, rfl, o3, bel3⟩
  have B3 := B2.trans (bel3.mono (by omega))
  have z3 := bel3.size
  have q3 := o3.rd
  replace q2 := q2.below bel3 (Nat.le_refl _)
  clear o3
  obtain ⟨A2, c2, rfl, hc2, hm2⟩ := q2.form
  obtain ⟨A3, c3, rfl, hc3, hm3⟩ := q3.form
  unfold maxLen at hm2 hm3
  have t1 : ((L.length : Int) != 2 ^ D) = false := by rw [HLl.out, HP.out]; simp
  have t2 : ((P.length : Int) != (D : Int)) = false := by rw [HPl.out]; simp
  obtain ⟨b, off, rfl, hb, hcells⟩ : ∃ b off, A2 = some ⟨b, off, none⟩ ∧ b < w2.heap.size ∧ ∀ (i : Nat) (h : i < L.length) (W : World), Below w3.heap.size w3 W → W.cell? ⟨b, off + i, none⟩ = some (.int .i64 L[i]) := by
    have hq := q2
    obtain ⟨A', c', e1', _, _, hr'⟩ := hq
    obtain ⟨b, off, hA, _, hb, hc⟩ := hr' (by have := HLl.out; have := hIl; omega)
    simp at e1'
    refine ⟨b, off, by rw [e1'.1, hA], hb, fun i h W bel => ?_⟩
    exact (bel.cell (p := ⟨b, off + i, none⟩) (by show b < w3.heap.size; omega)).trans (hc i L[i] (by simp [h]))
  have HC := Lib.hid hcells
  clear hcells q2 HL HPu HI HR HD e1 a0 a1 b0' b1 c0 c1 d0 d1 r0 r1 B1 B2 bel2 bel3
  go_wp2_with fail
  go_loopw [8] (fun i wr => ∃ k : Nat, k ≤ L.length ∧ i = .int .i64 k ∧ Below w3.heap.size w3 wr) (fun i _ => L.length - (intOf i).toNat)
  case atStart => exact ⟨0, Nat.zero_le _, rfl, Below.refl _ _⟩
  case round =>
    obtain ⟨k, hk, rfl, bel⟩ := hrel
    have zr := bel.size
    by_cases hlt : k < L.length
    · obtain ⟨y0, y1⟩ := G1.out k hlt
      have q3r := q3.below bel (Nat.le_refl _)
      go_wp2_with fail
      refine (implPleaf _ P I k _ _ _ q3r WP.out HI64.out (by unfold In64; omega) (by omega) (by omega)).mono ?_
      rintro e w4 ⟨rfl, bel4⟩
      have z4 := bel4.size
      have B4 := bel.trans (bel4.mono zr)
      have d4 := HC.out k hlt w4 B4
      have hb4 : b < w4.heap.size := by omega
      have LF : ∀ W : World, W.cell? ⟨b, off + k, none⟩ = some (.int .i64 L[k]) → b < W.heap.size → Calls Try.prog 46 #[.int .i64 R, .int .i64 D, .int .i64 k] W fun e W' => e = .returned (.int .i64 L[k]) ∧ W'.cell? ⟨b, off + k, none⟩ = some (.int .i64 L[k]) ∧ Below W.heap.size W W' := by
        intro W hW hbW
        refine (implLeaf R D k W HR64.out (by unfold In64; omega)).mono ?_
        rintro e W' ⟨rfl, belW⟩
        exact ⟨ret_int (G2.out k hlt), (belW.cell (p := ⟨b, off + k, none⟩) hbW).trans hW, belW⟩
      have HG3 : Hid (¬ k = I → pleaf P I k = (L[k], true)) := G3.out k hlt
      generalize hy : L[k] = y at y0 y1 d4 LF HG3
      have HY := Lib.hid hy
      clear hy q3r bel4
      have k0 : (0 : Int) ≤ (k : Int) := by omega
      have k1 : (k : Int) < (L.length : Int) := by omega
      go_upto_region 14 with fail
      go_cut [9, 10, 101] from 48 to 115 (fun _ _ c wx => c = .bool false ∧ Below w4.heap.size w4 wx)
      case first =>
        have n1 : decide (y < 0) = false := by simp; omega
        have n2 : decide (2147483647 ≤ y) = false := by simp; omega
        have n3 : decide (y ≥ 2147483647) = false := by simp; omega
        have n4 : (y != y) = false := by simp
        by_cases hkI : k = I
        · subst hkI
          rw [G4.out]
          dsimp only
          have m1 : ((k : Int) != (k : Int)) = false := by simp
          refine wp_region_noPanic ?_
          refine wp_region_held_drew (S := fun w' => w'.cell? ⟨b, off + k, none⟩ = some (.int .i64 y)) (by kernel_rfl) d4 (fun hHeld => ?_)
          refine wpAnyH_take (i := 0) (oi := { dst := some 61, op := Op.move (Operand.tmp 10), type := 4, pos := "laws.go:246", after := #[], guard := none }) (v := ?v0) rfl (by kernel_rfl) (by kernel_rfl) (by kernel_rfl) (fun _ _ _ h => h) (Or.inl ⟨by rfl, ?hy0⟩) (by assumption) ?rest0
          case hy0 => (intro w hSw; (try dsimp only at hSw); go_simp; try (with_reducible rfl))
          simp only [Act.put, List.setIfInBounds_toArray, List.set_cons_zero, List.set_cons_succ]
          refine wpAnyH_take (i := 1) (oi := { dst := some 62, op := Op.move (Operand.tmp 8), type := 3, pos := "laws.go:246", after := #[], guard := none }) (v := ?v1) rfl (by kernel_rfl) (by kernel_rfl) (by kernel_rfl) (fun _ _ _ h => h) (Or.inl ⟨by rfl, ?hy1⟩) (by assumption) ?rest1
          case hy1 => (intro w hSw; (try dsimp only at hSw); go_simp; try (with_reducible rfl))
          simp only [Act.put, List.setIfInBounds_toArray, List.set_cons_zero, List.set_cons_succ]
          refine wpAnyH_take (i := 2) (oi := { dst := some 63, op := Op.move (Operand.tmp 4), type := 3, pos := "laws.go:246", after := #[], guard := none }) (v := ?v2) rfl (by kernel_rfl) (by kernel_rfl) (by kernel_rfl) (fun _ _ _ h => h) (Or.inl ⟨by rfl, ?hy2⟩) (by assumption) ?rest2
          case hy2 => (intro w hSw; (try dsimp only at hSw); go_simp; try (with_reducible rfl))
          simp only [Act.put, List.setIfInBounds_toArray, List.set_cons_zero, List.set_cons_succ]
          refine wpAnyH_take (i := 3) (oi := { dst := some 64, op := Op.binOp BinOp.neq 3 (Operand.tmp 62) (Operand.tmp 63) 3, type := 4, pos := "laws.go:246", after := #[{ on := 1, ground := Ground.data }, { on := 2, ground := Ground.data }], guard := none }) (v := ?v3) rfl (by kernel_rfl) (by kernel_rfl) (by kernel_rfl) (fun _ _ _ h => h) (Or.inl ⟨by rfl, ?hy3⟩) (by assumption) ?rest3
          case hy3 => (intro w hSw; (try dsimp only at hSw); go_simp; try (with_reducible rfl))
          simp only [Act.put, List.setIfInBounds_toArray, List.set_cons_zero, List.set_cons_succ]
          refine wpAnyH_take (i := 4) (oi := { dst := some 65, op := Op.binOp BinOp.neq 4 (Operand.tmp 61) (Operand.tmp 64) 4, type := 4, pos := "laws.go:246", after := #[{ on := 0, ground := Ground.data }, { on := 3, ground := Ground.data }], guard := none }) (v := ?v4) rfl (by kernel_rfl) (by kernel_rfl) (by kernel_rfl) (fun _ _ _ h => h) (Or.inl ⟨by rfl, ?hy4⟩) (by assumption) ?rest4
          case hy4 => (intro w hSw; (try dsimp only at hSw); go_simp; try (with_reducible rfl))
          simp only [Act.put, List.setIfInBounds_toArray, List.set_cons_zero, List.set_cons_succ]
          refine wpAnyH_take (i := 5) (oi := { dst := some 66, op := Op.move (Operand.tmp 65), type := 4, pos := "laws.go:246", after := #[{ on := 4, ground := Ground.data }], guard := none }) (v := ?v5) rfl (by kernel_rfl) (by kernel_rfl) (by kernel_rfl) (fun _ _ _ h => h) (Or.inl ⟨by rfl, ?hy5⟩) (by assumption) ?rest5
          case hy5 => (intro w hSw; (try dsimp only at hSw); go_simp; try (with_reducible rfl))
          simp only [Act.put, List.setIfInBounds_toArray, List.set_cons_zero, List.set_cons_succ]
          refine wpAnyH_take (i := 6) (oi := { dst := some 67, op := Op.move (Operand.tmp 10), type := 4, pos := "laws.go:246", after := #[{ on := 5, ground := Ground.guard }], guard := some (5, false) }) (v := ?v6) rfl (by kernel_rfl) (by kernel_rfl) (by kernel_rfl) (fun _ _ _ h => h) (Or.inl ⟨by rfl, ?hy6⟩) (by assumption) ?rest6
          case hy6 => (intro w hSw; (try dsimp only at hSw); go_simp; try (with_reducible rfl))
          simp only [Act.put, List.setIfInBounds_toArray, List.set_cons_zero, List.set_cons_succ]
          refine wpAnyH_take (i := 7) (oi := { dst := some 68, op := Op.move (Operand.tmp 67), type := 4, pos := "laws.go:246", after := #[{ on := 6, ground := Ground.data }, { on := 5, ground := Ground.chain }, { on := 5, ground := Ground.guard }], guard := some (5, false) }) (v := ?v7) rfl (by kernel_rfl) (by kernel_rfl) (by kernel_rfl) (fun _ _ _ h => h) (Or.inl ⟨by rfl, ?hy7⟩) (by assumption) ?rest7
          case hy7 => (intro w hSw; (try dsimp only at hSw); go_simp; try (with_reducible rfl))
          simp only [Act.put, List.setIfInBounds_toArray, List.set_cons_zero, List.set_cons_succ]
          refine wpAnyH_take (i := 8) (oi := { dst := some 69, op := Op.move (Operand.tmp 9), type := 3, pos := "laws.go:246", after := #[{ on := 7, ground := Ground.guard }], guard := some (7, true) }) (v := undef) rfl (by kernel_rfl) (by kernel_rfl) (by kernel_rfl) (fun _ _ _ h => h) (Or.inr ⟨by kernel_rfl, rfl⟩) (by assumption) ?rest8
          simp only [Act.put, List.setIfInBounds_toArray, List.set_cons_zero, List.set_cons_succ]
          refine wpAnyH_take (i := 9) (oi := { dst := some 70, op := Op.move (Operand.tmp 6), type := 24, pos := "laws.go:246", after := #[{ on := 7, ground := Ground.guard }], guard := some (7, true) }) (v := undef) rfl (by kernel_rfl) (by kernel_rfl) (by kernel_rfl) (fun _ _ _ h => h) (Or.inr ⟨by kernel_rfl, rfl⟩) (by assumption) ?rest9
          simp only [Act.put, List.setIfInBounds_toArray, List.set_cons_zero, List.set_cons_succ]
          refine wpAnyH_take (i := 10) (oi := { dst := some 71, op := Op.move (Operand.tmp 8), type := 3, pos := "laws.go:246", after := #[{ on := 7, ground := Ground.guard }], guard := some (7, true) }) (v := undef) rfl (by kernel_rfl) (by kernel_rfl) (by kernel_rfl) (fun _ _ _ h => h) (Or.inr ⟨by kernel_rfl, rfl⟩) (by assumption) ?rest10
          simp only [Act.put, List.setIfInBounds_toArray, List.set_cons_zero, List.set_cons_succ]
          refine wpAnyH_take (i := 11) (oi := { dst := some 72, op := Op.indexAddr 24 (Operand.tmp 70) (Operand.tmp 71), type := 0, pos := "laws.go:246", after := #[{ on := 9, ground := Ground.data }, { on := 10, ground := Ground.data }, { on := 7, ground := Ground.guard }], guard := some (7, true) }) (v := undef) rfl (by kernel_rfl) (by kernel_rfl) (by kernel_rfl) (fun _ _ _ h => h) (Or.inr ⟨by kernel_rfl, rfl⟩) (by assumption) ?rest11
          simp only [Act.put, List.setIfInBounds_toArray, List.set_cons_zero, List.set_cons_succ]
          refine wpAnyH_take (i := 12) (oi := { dst := some 73, op := Op.load 3 (Operand.tmp 72), type := 3, pos := "laws.go:246", after := #[{ on := 11, ground := Ground.data }, { on := 7, ground := Ground.guard }], guard := some (7, true) }) (v := undef) rfl (by kernel_rfl) (by kernel_rfl) (by kernel_rfl) (fun _ _ _ h => h) (Or.inr ⟨by kernel_rfl, rfl⟩) (by assumption) ?rest12
          simp only [Act.put, List.setIfInBounds_toArray, List.set_cons_zero, List.set_cons_succ]
          refine wpAnyH_take (i := 13) (oi := { dst := some 74, op := Op.binOp BinOp.neq 3 (Operand.tmp 69) (Operand.tmp 73) 3, type := 4, pos := "laws.go:246", after := #[{ on := 8, ground := Ground.data }, { on := 12, ground := Ground.data }, { on := 7, ground := Ground.guard }], guard := some (7, true) }) (v := undef) rfl (by kernel_rfl) (by kernel_rfl) (by kernel_rfl) (fun _ _ _ h => h) (Or.inr ⟨by kernel_rfl, rfl⟩) (by assumption) ?rest13
          simp only [Act.put, List.setIfInBounds_toArray, List.set_cons_zero, List.set_cons_succ]
          refine wpAnyH_take (i := 14) (oi := { dst := some 75, op := Op.pick (Operand.tmp 68) (Operand.tmp 74) (Operand.const (Value.bool false)), type := 4, pos := "laws.go:246", after := #[{ on := 7, ground := Ground.data }, { on := 13, ground := Ground.data }, { on := 5, ground := Ground.guard }], guard := some (5, false) }) (v := ?v14) rfl (by kernel_rfl) (by kernel_rfl) (by kernel_rfl) (fun _ _ _ h => h) (Or.inl ⟨by rfl, ?hy14⟩) (by assumption) ?rest14
          case hy14 => (intro w hSw; (try dsimp only at hSw); go_simp; try (with_reducible rfl))
          simp only [Act.put, List.setIfInBounds_toArray, List.set_cons_zero, List.set_cons_succ]
          refine wpAnyH_take (i := 15) (oi := { dst := some 76, op := Op.pick (Operand.tmp 66) (Operand.const (Value.bool true)) (Operand.tmp 75), type := 4, pos := "laws.go:246", after := #[{ on := 5, ground := Ground.data }, { on := 14, ground := Ground.data }], guard := none }) (v := ?v15) rfl (by kernel_rfl) (by kernel_rfl) (by kernel_rfl) (fun _ _ _ h => h) (Or.inl ⟨by rfl, ?hy15⟩) (by assumption) ?rest15
          case hy15 => (intro w hSw; (try dsimp only at hSw); go_simp; try (with_reducible rfl))
          simp only [Act.put, List.setIfInBounds_toArray, List.set_cons_zero, List.set_cons_succ]
          refine wpAnyH_take (i := 16) (oi := { dst := some 77, op := Op.move (Operand.tmp 76), type := 4, pos := "laws.go:246", after := #[{ on := 15, ground := Ground.data }, { on := 7, ground := Ground.chain }], guard := none }) (v := ?v16) rfl (by kernel_rfl) (by kernel_rfl) (by kernel_rfl) (fun _ _ _ h => h) (Or.inl ⟨by rfl, ?hy16⟩) (by assumption) ?rest16
          case hy16 => (intro w hSw; (try dsimp only at hSw); go_simp; try (with_reducible rfl))
          simp only [Act.put, List.setIfInBounds_toArray, List.set_cons_zero, List.set_cons_succ]
          refine wpAnyH_take (i := 17) (oi := { dst := some 78, op := Op.move (Operand.tmp 6), type := 24, pos := "laws.go:246", after := #[{ on := 16, ground := Ground.guard }], guard := some (16, false) }) (v := ?v17) rfl (by kernel_rfl) (by kernel_rfl) (by kernel_rfl) (fun _ _ _ h => h) (Or.inl ⟨by rfl, ?hy17⟩) (by assumption) ?rest17
          case hy17 => (intro w hSw; (try dsimp only at hSw); go_simp; try (with_reducible rfl))
          simp only [Act.put, List.setIfInBounds_toArray, List.set_cons_zero, List.set_cons_succ]
          refine wpAnyH_take (i := 18) (oi := { dst := some 79, op := Op.move (Operand.tmp 8), type := 3, pos := "laws.go:246", after := #[{ on := 16, ground := Ground.guard }], guard := some (16, false) }) (v := ?v18) rfl (by kernel_rfl) (by kernel_rfl) (by kernel_rfl) (fun _ _ _ h => h) (Or.inl ⟨by rfl, ?hy18⟩) (by assumption) ?rest18
          case hy18 => (intro w hSw; (try dsimp only at hSw); go_simp; try (with_reducible rfl))
          simp only [Act.put, List.setIfInBounds_toArray, List.set_cons_zero, List.set_cons_succ]
          refine wpAnyH_take (i := 19) (oi := { dst := some 80, op := Op.indexAddr 24 (Operand.tmp 78) (Operand.tmp 79), type := 0, pos := "laws.go:246", after := #[{ on := 17, ground := Ground.data }, { on := 18, ground := Ground.data }, { on := 16, ground := Ground.guard }], guard := some (16, false) }) (v := ?v19) rfl (by kernel_rfl) (by kernel_rfl) (by kernel_rfl) (fun _ _ _ h => h) (Or.inl ⟨by rfl, ?hy19⟩) (by assumption) ?rest19
          case hy19 => (intro w hSw; (try dsimp only at hSw); go_simp; try (with_reducible rfl))
          simp only [Act.put, List.setIfInBounds_toArray, List.set_cons_zero, List.set_cons_succ]
          refine wpAnyH_take (i := 20) (oi := { dst := some 81, op := Op.load 3 (Operand.tmp 80), type := 3, pos := "laws.go:246", after := #[{ on := 19, ground := Ground.data }, { on := 16, ground := Ground.guard }], guard := some (16, false) }) (v := ?v20) rfl (by kernel_rfl) (by kernel_rfl) (by kernel_rfl) (fun _ _ _ h => h) (Or.inl ⟨by rfl, ?hy20⟩) (by assumption) ?rest20
          case hy20 => (intro w hSw; (try dsimp only at hSw); go_simp; try (with_reducible rfl))
          simp only [Act.put, List.setIfInBounds_toArray, List.set_cons_zero, List.set_cons_succ]
          refine wpAnyH_take (i := 21) (oi := { dst := some 82, op := Op.move (Operand.tmp 5), type := 3, pos := "laws.go:246", after := #[{ on := 16, ground := Ground.guard }], guard := some (16, false) }) (v := ?v21) rfl (by kernel_rfl) (by kernel_rfl) (by kernel_rfl) (fun _ _ _ h => h) (Or.inl ⟨by rfl, ?hy21⟩) (by assumption) ?rest21
          case hy21 => (intro w hSw; (try dsimp only at hSw); go_simp; try (with_reducible rfl))
          simp only [Act.put, List.setIfInBounds_toArray, List.set_cons_zero, List.set_cons_succ]
          refine wpAnyH_take (i := 22) (oi := { dst := some 83, op := Op.move (Operand.tmp 3), type := 3, pos := "laws.go:246", after := #[{ on := 16, ground := Ground.guard }], guard := some (16, false) }) (v := ?v22) rfl (by kernel_rfl) (by kernel_rfl) (by kernel_rfl) (fun _ _ _ h => h) (Or.inl ⟨by rfl, ?hy22⟩) (by assumption) ?rest22
          case hy22 => (intro w hSw; (try dsimp only at hSw); go_simp; try (with_reducible rfl))
          simp only [Act.put, List.setIfInBounds_toArray, List.set_cons_zero, List.set_cons_succ]
          refine wpAnyH_take (i := 23) (oi := { dst := some 84, op := Op.move (Operand.tmp 8), type := 3, pos := "laws.go:246", after := #[{ on := 16, ground := Ground.guard }], guard := some (16, false) }) (v := ?v23) rfl (by kernel_rfl) (by kernel_rfl) (by kernel_rfl) (fun _ _ _ h => h) (Or.inl ⟨by rfl, ?hy23⟩) (by assumption) ?rest23
          case hy23 => (intro w hSw; (try dsimp only at hSw); go_simp; try (with_reducible rfl))
          simp only [Act.put, List.setIfInBounds_toArray, List.set_cons_zero, List.set_cons_succ]
          refine wpAnyH_ready (rs := [24]) (by kernel_rfl) (by simp) ?_
          refine AllReadyH.cons (o := { dst := some 85, op := Op.call { callee := Callee.value (Operand.func 46), args := #[Operand.tmp 82, Operand.tmp 83, Operand.tmp 84], argTypes := #[3, 3, 3] }, type := 3, pos := "laws.go:246", after := #[{ on := 21, ground := Ground.data }, { on := 22, ground := Ground.data }, { on := 23, ground := Ground.data }, { on := 16, ground := Ground.chain }, { on := 16, ground := Ground.guard }], guard := some (16, false) }) rfl (fun K hK => ?_) AllReadyH.nil
          rw [if_pos (by rfl)]
          go_simp
          go_at_call 46
          refine (LF w4.drew d4 hb4).mono ?_
          rintro e w6 ⟨rfl, hc6, bel6⟩
          go_wp2_with fail
          refine hK.out _ _ hc6 (fun hHeld2 => ?_)
          clear hK K
          try simp only [Act.put, List.setIfInBounds_toArray, List.set_cons_zero, List.set_cons_succ]
          refine wpAnyH_take (i := 25) (oi := { dst := some 86, op := Op.binOp BinOp.neq 3 (Operand.tmp 81) (Operand.tmp 85) 3, type := 4, pos := "laws.go:246", after := #[{ on := 20, ground := Ground.data }, { on := 24, ground := Ground.data }, { on := 16, ground := Ground.guard }], guard := some (16, false) }) (v := ?v25) rfl (by kernel_rfl) (by kernel_rfl) (by kernel_rfl) (fun _ _ _ h => h) (Or.inl ⟨by rfl, ?hy25⟩) (by assumption) ?rest25
          case hy25 => (intro w hSw; (try dsimp only at hSw); go_simp; try (with_reducible rfl))
          simp only [Act.put, List.setIfInBounds_toArray, List.set_cons_zero, List.set_cons_succ]
          refine wpAnyH_take (i := 26) (oi := { dst := some 87, op := Op.pick (Operand.tmp 77) (Operand.const (Value.bool true)) (Operand.tmp 86), type := 4, pos := "laws.go:246", after := #[{ on := 16, ground := Ground.data }, { on := 25, ground := Ground.data }], guard := none }) (v := ?v26) rfl (by kernel_rfl) (by kernel_rfl) (by kernel_rfl) (fun _ _ _ h => h) (Or.inl ⟨by rfl, ?hy26⟩) (by assumption) ?rest26
          case hy26 => (intro w hSw; (try dsimp only at hSw); go_simp; try (with_reducible rfl))
          simp only [Act.put, List.setIfInBounds_toArray, List.set_cons_zero, List.set_cons_succ]
          refine wpAnyH_take (i := 27) (oi := { dst := some 88, op := Op.move (Operand.tmp 87), type := 4, pos := "laws.go:246", after := #[{ on := 26, ground := Ground.data }, { on := 24, ground := Ground.chain }], guard := none }) (v := ?v27) rfl (by kernel_rfl) (by kernel_rfl) (by kernel_rfl) (fun _ _ _ h => h) (Or.inl ⟨by rfl, ?hy27⟩) (by assumption) ?rest27
          case hy27 => (intro w hSw; (try dsimp only at hSw); go_simp; try (with_reducible rfl))
          simp only [Act.put, List.setIfInBounds_toArray, List.set_cons_zero, List.set_cons_succ]
          refine wpAnyH_take (i := 28) (oi := { dst := some 89, op := Op.move (Operand.tmp 6), type := 24, pos := "laws.go:246", after := #[{ on := 27, ground := Ground.guard }], guard := some (27, false) }) (v := ?v28) rfl (by kernel_rfl) (by kernel_rfl) (by kernel_rfl) (fun _ _ _ h => h) (Or.inl ⟨by rfl, ?hy28⟩) (by assumption) ?rest28
          case hy28 => (intro w hSw; (try dsimp only at hSw); go_simp; try (with_reducible rfl))
          simp only [Act.put, List.setIfInBounds_toArray, List.set_cons_zero, List.set_cons_succ]
          refine wpAnyH_take (i := 29) (oi := { dst := some 90, op := Op.move (Operand.tmp 8), type := 3, pos := "laws.go:246", after := #[{ on := 27, ground := Ground.guard }], guard := some (27, false) }) (v := ?v29) rfl (by kernel_rfl) (by kernel_rfl) (by kernel_rfl) (fun _ _ _ h => h) (Or.inl ⟨by rfl, ?hy29⟩) (by assumption) ?rest29
          case hy29 => (intro w hSw; (try dsimp only at hSw); go_simp; try (with_reducible rfl))
          simp only [Act.put, List.setIfInBounds_toArray, List.set_cons_zero, List.set_cons_succ]
          refine wpAnyH_take (i := 30) (oi := { dst := some 91, op := Op.indexAddr 24 (Operand.tmp 89) (Operand.tmp 90), type := 0, pos := "laws.go:246", after := #[{ on := 28, ground := Ground.data }, { on := 29, ground := Ground.data }, { on := 27, ground := Ground.guard }], guard := some (27, false) }) (v := ?v30) rfl (by kernel_rfl) (by kernel_rfl) (by kernel_rfl) (fun _ _ _ h => h) (Or.inl ⟨by rfl, ?hy30⟩) (by assumption) ?rest30
          case hy30 => (intro w hSw; (try dsimp only at hSw); go_simp; try (with_reducible rfl))
          simp only [Act.put, List.setIfInBounds_toArray, List.set_cons_zero, List.set_cons_succ]
          refine wpAnyH_take (i := 31) (oi := { dst := some 92, op := Op.load 3 (Operand.tmp 91), type := 3, pos := "laws.go:246", after := #[{ on := 30, ground := Ground.data }, { on := 27, ground := Ground.guard }], guard := some (27, false) }) (v := ?v31) rfl (by kernel_rfl) (by kernel_rfl) (by kernel_rfl) (fun _ _ _ h => h) (Or.inl ⟨by rfl, ?hy31⟩) (by assumption) ?rest31
          case hy31 => (intro w hSw; (try dsimp only at hSw); go_simp; try (with_reducible rfl))
          simp only [Act.put, List.setIfInBounds_toArray, List.set_cons_zero, List.set_cons_succ]
          refine wpAnyH_take (i := 32) (oi := { dst := some 93, op := Op.binOp BinOp.lss 3 (Operand.tmp 92) (Operand.const (Value.int IntKind.i64 0)) 3, type := 4, pos := "laws.go:246", after := #[{ on := 31, ground := Ground.data }, { on := 27, ground := Ground.guard }], guard := some (27, false) }) (v := ?v32) rfl (by kernel_rfl) (by kernel_rfl) (by kernel_rfl) (fun _ _ _ h => h) (Or.inl ⟨by rfl, ?hy32⟩) (by assumption) ?rest32
          case hy32 => (intro w hSw; (try dsimp only at hSw); go_simp; try (with_reducible rfl))
          simp only [Act.put, List.setIfInBounds_toArray, List.set_cons_zero, List.set_cons_succ]
          refine wpAnyH_take (i := 33) (oi := { dst := some 94, op := Op.pick (Operand.tmp 88) (Operand.const (Value.bool true)) (Operand.tmp 93), type := 4, pos := "laws.go:246", after := #[{ on := 27, ground := Ground.data }, { on := 32, ground := Ground.data }], guard := none }) (v := ?v33) rfl (by kernel_rfl) (by kernel_rfl) (by kernel_rfl) (fun _ _ _ h => h) (Or.inl ⟨by rfl, ?hy33⟩) (by assumption) ?rest33
          case hy33 => (intro w hSw; (try dsimp only at hSw); go_simp; try (with_reducible rfl))
          simp only [Act.put, List.setIfInBounds_toArray, List.set_cons_zero, List.set_cons_succ]
          refine wpAnyH_take (i := 34) (oi := { dst := some 95, op := Op.move (Operand.tmp 94), type := 4, pos := "laws.go:246", after := #[{ on := 33, ground := Ground.data }, { on := 27, ground := Ground.chain }], guard := none }) (v := ?v34) rfl (by kernel_rfl) (by kernel_rfl) (by kernel_rfl) (fun _ _ _ h => h) (Or.inl ⟨by rfl, ?hy34⟩) (by assumption) ?rest34
          case hy34 => (intro w hSw; (try dsimp only at hSw); go_simp; try (with_reducible rfl))
          simp only [Act.put, List.setIfInBounds_toArray, List.set_cons_zero, List.set_cons_succ]
          refine wpAnyH_take (i := 35) (oi := { dst := some 96, op := Op.move (Operand.tmp 6), type := 24, pos := "laws.go:246", after := #[{ on := 34, ground := Ground.guard }], guard := some (34, false) }) (v := ?v35) rfl (by kernel_rfl) (by kernel_rfl) (by kernel_rfl) (fun _ _ _ h => h) (Or.inl ⟨by rfl, ?hy35⟩) (by assumption) ?rest35
          case hy35 => (intro w hSw; (try dsimp only at hSw); go_simp; try (with_reducible rfl))
          simp only [Act.put, List.setIfInBounds_toArray, List.set_cons_zero, List.set_cons_succ]
          refine wpAnyH_take (i := 36) (oi := { dst := some 97, op := Op.move (Operand.tmp 8), type := 3, pos := "laws.go:246", after := #[{ on := 34, ground := Ground.guard }], guard := some (34, false) }) (v := ?v36) rfl (by kernel_rfl) (by kernel_rfl) (by kernel_rfl) (fun _ _ _ h => h) (Or.inl ⟨by rfl, ?hy36⟩) (by assumption) ?rest36
          case hy36 => (intro w hSw; (try dsimp only at hSw); go_simp; try (with_reducible rfl))
          simp only [Act.put, List.setIfInBounds_toArray, List.set_cons_zero, List.set_cons_succ]
          refine wpAnyH_take (i := 37) (oi := { dst := some 98, op := Op.indexAddr 24 (Operand.tmp 96) (Operand.tmp 97), type := 0, pos := "laws.go:246", after := #[{ on := 35, ground := Ground.data }, { on := 36, ground := Ground.data }, { on := 34, ground := Ground.guard }], guard := some (34, false) }) (v := ?v37) rfl (by kernel_rfl) (by kernel_rfl) (by kernel_rfl) (fun _ _ _ h => h) (Or.inl ⟨by rfl, ?hy37⟩) (by assumption) ?rest37
          case hy37 => (intro w hSw; (try dsimp only at hSw); go_simp; try (with_reducible rfl))
          simp only [Act.put, List.setIfInBounds_toArray, List.set_cons_zero, List.set_cons_succ]
          refine wpAnyH_take (i := 38) (oi := { dst := some 99, op := Op.load 3 (Operand.tmp 98), type := 3, pos := "laws.go:246", after := #[{ on := 37, ground := Ground.data }, { on := 34, ground := Ground.guard }], guard := some (34, false) }) (v := ?v38) rfl (by kernel_rfl) (by kernel_rfl) (by kernel_rfl) (fun _ _ _ h => h) (Or.inl ⟨by rfl, ?hy38⟩) (by assumption) ?rest38
          case hy38 => (intro w hSw; (try dsimp only at hSw); go_simp; try (with_reducible rfl))
          simp only [Act.put, List.setIfInBounds_toArray, List.set_cons_zero, List.set_cons_succ]
          refine wpAnyH_take (i := 39) (oi := { dst := some 100, op := Op.binOp BinOp.geq 3 (Operand.tmp 99) (Operand.const (Value.int IntKind.i64 2147483647)) 3, type := 4, pos := "laws.go:246", after := #[{ on := 38, ground := Ground.data }, { on := 34, ground := Ground.guard }], guard := some (34, false) }) (v := ?v39) rfl (by kernel_rfl) (by kernel_rfl) (by kernel_rfl) (fun _ _ _ h => h) (Or.inl ⟨by rfl, ?hy39⟩) (by assumption) ?rest39
          case hy39 => (intro w hSw; (try dsimp only at hSw); go_simp; try (with_reducible rfl))
          simp only [Act.put, List.setIfInBounds_toArray, List.set_cons_zero, List.set_cons_succ]
          refine wpAnyH_take (i := 40) (oi := { dst := some 101, op := Op.pick (Operand.tmp 95) (Operand.const (Value.bool true)) (Operand.tmp 100), type := 4, pos := "laws.go:246", after := #[{ on := 34, ground := Ground.data }, { on := 39, ground := Ground.data }], guard := none }) (v := ?v40) rfl (by kernel_rfl) (by kernel_rfl) (by kernel_rfl) (fun _ _ _ h => h) (Or.inl ⟨by rfl, ?hy40⟩) (by assumption) ?rest40
          case hy40 => (intro w hSw; (try dsimp only at hSw); go_simp; try (with_reducible rfl))
          simp only [Act.put, List.setIfInBounds_toArray, List.set_cons_zero, List.set_cons_succ]
          refine wpAnyH_done (by kernel_rfl) ?_ _
          refine NoPanic.normal ?_
          go_wp2_with fail
          go_meet
          exact ⟨rfl, by first | exact bel6 | exact (Below.refl _ _).drew.trans bel6⟩
        · rw [HG3.out hkI]
          dsimp only
          have m1 : ((k : Int) != (I : Int)) = true := by simp; omega
          go_region_held3 (fun w' => w'.cell? ⟨b, off + k, none⟩ = some (.int .i64 y)) (first | assumption) (first | (go_at_call 46; refine (LF w4.drew d4 hb4).mono ?_; rintro e w6 ⟨rfl, hc6, bel6⟩))
          go_wp2_with fail
          go_meet
          exact ⟨rfl, by first | exact bel6 | exact (Below.refl _ _).drew.trans bel6⟩
      case rest =>
      obtain ⟨rfl, B5⟩ := hcut
      have z5 := B5.size
      have C5 := B4.trans (B5.mono (by omega))
      clear d4 LF HG3 bel B4 B5
      go_wp2_with fail
      go_loopw [11] (fun j wr => ∃ m : Nat, m ≤ k ∧ j = .int .i64 m ∧ Below w3.heap.size w3 wr) (fun j _ => k - (intOf j).toNat)
      case atStart => exact ⟨0, Nat.zero_le _, rfl, C5⟩
      case round =>
        obtain ⟨m, hm, rfl, bel⟩ := hrel
        by_cases hmk : m < k
        · have e1 := HC.out m (by omega) _ bel
          have e2 := HC.out k hlt _ bel
          have e3 := G5.out k m hlt hmk
          generalize L[m]'(by omega) = x at e1 e3
          generalize L[k] = y' at e2 e3
          have m0 : (0 : Int) ≤ (m : Int) := by omega
          have m1 : (m : Int) < (L.length : Int) := by omega
          have m2 : (m : Int) < (k : Int) := by omega
          go_wp2_with fail
          go_quiet (fail)
          go_wp2_with fail
          exact ⟨⟨m + 1, by omega, by go_num, bel.trans (below_drewN _ wr _)⟩, by simp [intOf]; omega⟩
        · obtain rfl : m = k := by omega
          go_wp2_with fail
          exact ⟨⟨m + 1, by omega, by go_num, bel⟩, by simp [intOf]; omega⟩
    · obtain rfl : k = L.length := by omega
      have z3' := bel.size
      have C5 := B3.trans (bel.mono (by omega))
      go_wp2_with fail
      refine (implCtrl R 0 _ HR64.out (by unfold In64; omega)).mono ?_
      rintro e w4 ⟨rfl, bel4⟩
      have z4 := bel4.size
      have C6 := C5.trans (bel4.mono (by omega))
      have STR : ∀ (z : Int) (hz : 0 < z ∧ z ≤ 400) (W : World), Calls Try.prog 48 #[.int .i64 R, .int .i64 z] W fun e W' => ∃ (g o c n : Nat), (n : Int) = z ∧ e = .returned (.slice (some ⟨g, o, none⟩) n c) ∧ n ≤ c ∧ Rd .u8 W' W.heap.size W'.heap.size (.slice (some ⟨g, o, none⟩) n c) (strL R n) ∧ Below W.heap.size W W' := by
        intro z hz W
        obtain ⟨n, rfl⟩ := Int.eq_ofNat_of_zero_le (show 0 ≤ z by omega)
        refine (implStr R n W HR64.out (by unfold In64; omega)).mono ?_
        rintro e W' ⟨v', rfl, own, belW⟩
        have r := own.rd
        rw [strAll_yes (by omega) (by omega), Int.toNat_natCast] at r
        have hsl := strL_length (R : Int) n
        have r' := r
        obtain ⟨A', c', rfl, hc', _, hr'⟩ := r'
        obtain ⟨g, o, rfl, _⟩ := hr' (by omega)
        rw [hsl] at r hc'
        exact ⟨g, o, c', n, rfl, by rw [hsl], hc', r, belW⟩
      have L0 : Hid (leafI (R : Int) 0 0 = (R : Int)) := by
        unfold Hid
        rw [leafI, if_pos (by decide)]
        rfl
      have RR : ((R : Int) == (R : Int)) = true := by simp
      clear HC q3 G1 G2 G3 G4 G5
      have hb := ctrlI_bd (R : Int) 0
      go_upto_region 22 with fail
      rcases hb with hb | hb
      · rw [hb]
        clear hb
        refine wp_region_noPanic ?_
        refine wp_region_held_drew (S := fun _ => True) (by kernel_rfl) trivial (fun hHeld => ?_)
        refine wpAnyH_take (i := 0) (oi := { dst := some 118, op := Op.move (Operand.tmp 12), type := 3, pos := "laws.go:256", after := #[], guard := none }) (v := ?va0) rfl (by kernel_rfl) (by kernel_rfl) (by kernel_rfl) (fun _ _ _ h => h) (Or.inl ⟨by rfl, ?hya0⟩) (by assumption) ?resta0
        case hya0 => (intro w hSw; (try dsimp only at hSw); go_simp; try (with_reducible rfl))
        simp only [Act.put, List.setIfInBounds_toArray, List.set_cons_zero, List.set_cons_succ]
        refine wpAnyH_take (i := 1) (oi := { dst := some 119, op := Op.binOp BinOp.eql 3 (Operand.tmp 118) (Operand.const (Value.int IntKind.i64 0)) 3, type := 4, pos := "laws.go:256", after := #[{ on := 0, ground := Ground.data }], guard := none }) (v := ?va1) rfl (by kernel_rfl) (by kernel_rfl) (by kernel_rfl) (fun _ _ _ h => h) (Or.inl ⟨by rfl, ?hya1⟩) (by assumption) ?resta1
        case hya1 => (intro w hSw; (try dsimp only at hSw); go_simp; try (with_reducible rfl))
        simp only [Act.put, List.setIfInBounds_toArray, List.set_cons_zero, List.set_cons_succ]
        refine wpAnyH_take (i := 2) (oi := { dst := some 120, op := Op.move (Operand.tmp 119), type := 4, pos := "laws.go:256", after := #[{ on := 1, ground := Ground.data }], guard := none }) (v := ?va2) rfl (by kernel_rfl) (by kernel_rfl) (by kernel_rfl) (fun _ _ _ h => h) (Or.inl ⟨by rfl, ?hya2⟩) (by assumption) ?resta2
        case hya2 => (intro w hSw; (try dsimp only at hSw); go_simp; try (with_reducible rfl))
        simp only [Act.put, List.setIfInBounds_toArray, List.set_cons_zero, List.set_cons_succ]
        refine wpAnyH_take (i := 3) (oi := { dst := some 121, op := Op.move (Operand.tmp 12), type := 3, pos := "laws.go:256", after := #[{ on := 2, ground := Ground.guard }], guard := some (2, false) }) (v := undef) rfl (by kernel_rfl) (by kernel_rfl) (by kernel_rfl) (fun _ _ _ h => h) (Or.inr ⟨by kernel_rfl, rfl⟩) (by assumption) ?resta3
        simp only [Act.put, List.setIfInBounds_toArray, List.set_cons_zero, List.set_cons_succ]
        refine wpAnyH_take (i := 4) (oi := { dst := some 122, op := Op.binOp BinOp.eql 3 (Operand.tmp 121) (Operand.const (Value.int IntKind.i64 1)) 3, type := 4, pos := "laws.go:256", after := #[{ on := 3, ground := Ground.data }, { on := 2, ground := Ground.guard }], guard := some (2, false) }) (v := undef) rfl (by kernel_rfl) (by kernel_rfl) (by kernel_rfl) (fun _ _ _ h => h) (Or.inr ⟨by kernel_rfl, rfl⟩) (by assumption) ?resta4
        simp only [Act.put, List.setIfInBounds_toArray, List.set_cons_zero, List.set_cons_succ]
        refine wpAnyH_take (i := 5) (oi := { dst := some 123, op := Op.pick (Operand.tmp 120) (Operand.const (Value.bool true)) (Operand.tmp 122), type := 4, pos := "laws.go:256", after := #[{ on := 2, ground := Ground.data }, { on := 4, ground := Ground.data }], guard := none }) (v := ?va5) rfl (by kernel_rfl) (by kernel_rfl) (by kernel_rfl) (fun _ _ _ h => h) (Or.inl ⟨by rfl, ?hya5⟩) (by assumption) ?resta5
        case hya5 => (intro w hSw; (try dsimp only at hSw); go_simp; try (with_reducible rfl))
        simp only [Act.put, List.setIfInBounds_toArray, List.set_cons_zero, List.set_cons_succ]
        refine wpAnyH_take (i := 6) (oi := { dst := some 124, op := Op.move (Operand.tmp 123), type := 4, pos := "laws.go:256", after := #[{ on := 5, ground := Ground.data }, { on := 2, ground := Ground.chain }], guard := none }) (v := ?va6) rfl (by kernel_rfl) (by kernel_rfl) (by kernel_rfl) (fun _ _ _ h => h) (Or.inl ⟨by rfl, ?hya6⟩) (by assumption) ?resta6
        case hya6 => (intro w hSw; (try dsimp only at hSw); go_simp; try (with_reducible rfl))
        simp only [Act.put, List.setIfInBounds_toArray, List.set_cons_zero, List.set_cons_succ]
        refine wpAnyH_take (i := 7) (oi := { dst := some 125, op := Op.move (Operand.tmp 5), type := 3, pos := "laws.go:256", after := #[{ on := 6, ground := Ground.guard }], guard := some (6, true) }) (v := ?va7) rfl (by kernel_rfl) (by kernel_rfl) (by kernel_rfl) (fun _ _ _ h => h) (Or.inl ⟨by rfl, ?hya7⟩) (by assumption) ?resta7
        case hya7 => (intro w hSw; (try dsimp only at hSw); go_simp; try (with_reducible rfl))
        simp only [Act.put, List.setIfInBounds_toArray, List.set_cons_zero, List.set_cons_succ]
        refine wpAnyH_ready (rs := [8]) (by kernel_rfl) (by simp) ?_
        refine AllReadyH.cons (o := { dst := some 126, op := Op.call { callee := Callee.value (Operand.func 48), args := #[Operand.tmp 125, Operand.const (Value.int IntKind.i64 9)], argTypes := #[3, 3] }, type := 22, pos := "laws.go:256", after := #[{ on := 7, ground := Ground.data }, { on := 6, ground := Ground.chain }, { on := 6, ground := Ground.guard }], guard := some (6, true) }) rfl (fun K hK => ?_) AllReadyH.nil
        rw [if_pos (by rfl)]
        go_simp
        go_at_call 48
        refine (STR 9 (by omega) _).mono ?_
        rintro e w5 ⟨g5, o5, c5, n, hn, rfl, hc5, q5, bel5⟩
        obtain rfl : n = 9 := by omega
        clear hn
        go_wp2_with fail
        refine hK.out _ _ trivial (fun hHeld2 => ?_)
        clear hK K
        try simp only [Act.put, List.setIfInBounds_toArray, List.set_cons_zero, List.set_cons_succ]
        refine wpAnyH_take (i := 9) (oi := { dst := some 127, op := Op.call { callee := Callee.builtin Builtin.len, args := #[Operand.tmp 126], argTypes := #[22] }, type := 3, pos := "laws.go:256", after := #[{ on := 8, ground := Ground.data }, { on := 6, ground := Ground.guard }], guard := some (6, true) }) (v := ?va9) rfl (by kernel_rfl) (by kernel_rfl) (by kernel_rfl) (fun _ _ _ h => h) (Or.inl ⟨by rfl, ?hya9⟩) (by assumption) ?resta9
        case hya9 => (intro w hSw; (try dsimp only at hSw); go_simp; try (with_reducible rfl))
        simp only [Act.put, List.setIfInBounds_toArray, List.set_cons_zero, List.set_cons_succ]
        refine wpAnyH_take (i := 10) (oi := { dst := some 128, op := Op.binOp BinOp.eql 3 (Operand.tmp 127) (Operand.const (Value.int IntKind.i64 9)) 3, type := 4, pos := "laws.go:256", after := #[{ on := 9, ground := Ground.data }, { on := 6, ground := Ground.guard }], guard := some (6, true) }) (v := ?va10) rfl (by kernel_rfl) (by kernel_rfl) (by kernel_rfl) (fun _ _ _ h => h) (Or.inl ⟨by rfl, ?hya10⟩) (by assumption) ?resta10
        case hya10 => (intro w hSw; (try dsimp only at hSw); go_simp; try (with_reducible rfl))
        simp only [Act.put, List.setIfInBounds_toArray, List.set_cons_zero, List.set_cons_succ]
        refine wpAnyH_take (i := 11) (oi := { dst := some 129, op := Op.pick (Operand.tmp 124) (Operand.tmp 128) (Operand.const (Value.bool false)), type := 4, pos := "laws.go:256", after := #[{ on := 6, ground := Ground.data }, { on := 10, ground := Ground.data }], guard := none }) (v := ?va11) rfl (by kernel_rfl) (by kernel_rfl) (by kernel_rfl) (fun _ _ _ h => h) (Or.inl ⟨by rfl, ?hya11⟩) (by assumption) ?resta11
        case hya11 => (intro w hSw; (try dsimp only at hSw); go_simp; try (with_reducible rfl))
        simp only [Act.put, List.setIfInBounds_toArray, List.set_cons_zero, List.set_cons_succ]
        refine wpAnyH_take (i := 12) (oi := { dst := some 130, op := Op.move (Operand.tmp 129), type := 4, pos := "laws.go:256", after := #[{ on := 11, ground := Ground.data }, { on := 8, ground := Ground.chain }], guard := none }) (v := ?va12) rfl (by kernel_rfl) (by kernel_rfl) (by kernel_rfl) (fun _ _ _ h => h) (Or.inl ⟨by rfl, ?hya12⟩) (by assumption) ?resta12
        case hya12 => (intro w hSw; (try dsimp only at hSw); go_simp; try (with_reducible rfl))
        simp only [Act.put, List.setIfInBounds_toArray, List.set_cons_zero, List.set_cons_succ]
        refine wpAnyH_take (i := 13) (oi := { dst := some 131, op := Op.move (Operand.tmp 5), type := 3, pos := "laws.go:256", after := #[{ on := 12, ground := Ground.guard }], guard := some (12, true) }) (v := ?va13) rfl (by kernel_rfl) (by kernel_rfl) (by kernel_rfl) (fun _ _ _ h => h) (Or.inl ⟨by rfl, ?hya13⟩) (by assumption) ?resta13
        case hya13 => (intro w hSw; (try dsimp only at hSw); go_simp; try (with_reducible rfl))
        simp only [Act.put, List.setIfInBounds_toArray, List.set_cons_zero, List.set_cons_succ]
        refine wpAnyH_take (i := 16) (oi := { dst := some 134, op := Op.move (Operand.tmp 5), type := 3, pos := "laws.go:256", after := #[{ on := 12, ground := Ground.guard }], guard := some (12, true) }) (v := ?va16) rfl (by kernel_rfl) (by kernel_rfl) (by kernel_rfl) (fun _ _ _ h => h) (Or.inl ⟨by rfl, ?hya16⟩) (by assumption) ?resta16
        case hya16 => (intro w hSw; (try dsimp only at hSw); go_simp; try (with_reducible rfl))
        simp only [Act.put, List.setIfInBounds_toArray, List.set_cons_zero, List.set_cons_succ]
        refine wpAnyH_ready (rs := [14]) (by kernel_rfl) (by simp) ?_
        refine AllReadyH.cons (o := { dst := some 132, op := Op.call { callee := Callee.value (Operand.func 48), args := #[Operand.tmp 131, Operand.const (Value.int IntKind.i64 9)], argTypes := #[3, 3] }, type := 22, pos := "laws.go:256", after := #[{ on := 13, ground := Ground.data }, { on := 12, ground := Ground.chain }, { on := 12, ground := Ground.guard }], guard := some (12, true) }) rfl (fun K hK => ?_) AllReadyH.nil
        rw [if_pos (by rfl)]
        go_simp
        go_at_call 48
        refine (STR 9 (by omega) _).mono ?_
        rintro e w6 ⟨g6, o6, c6, n, hn, rfl, hc6, q6, bel6⟩
        obtain rfl : n = 9 := by omega
        clear hn
        have i6 : (5 : Int) ≤ (c6 : Int) := by omega
        have q6' := q6.part 0 5 (by rw [strL_length]; omega)
        rw [List.drop_zero, strL_take _ _ _ (by omega)] at q6'
        go_wp2_with fail
        refine hK.out _ _ trivial (fun hHeld2 => ?_)
        clear hK K
        try simp only [Act.put, List.setIfInBounds_toArray, List.set_cons_zero, List.set_cons_succ]
        refine wpAnyH_take (i := 15) (oi := { dst := some 133, op := Op.slice 22 (Operand.tmp 132) none (some (Operand.const (Value.int IntKind.i64 5))) none, type := 22, pos := "laws.go:256", after := #[{ on := 14, ground := Ground.data }, { on := 12, ground := Ground.guard }], guard := some (12, true) }) (v := ?va15) rfl (by kernel_rfl) (by kernel_rfl) (by kernel_rfl) (fun _ _ _ h => h) (Or.inl ⟨by rfl, ?hya15⟩) (by assumption) ?resta15
        case hya15 => (intro w hSw; (try dsimp only at hSw); go_simp; try (with_reducible rfl))
        simp only [Act.put, List.setIfInBounds_toArray, List.set_cons_zero, List.set_cons_succ]
        refine wpAnyH_ready (rs := [17]) (by kernel_rfl) (by simp) ?_
        refine AllReadyH.cons (o := { dst := some 135, op := Op.call { callee := Callee.value (Operand.func 48), args := #[Operand.tmp 134, Operand.const (Value.int IntKind.i64 5)], argTypes := #[3, 3] }, type := 22, pos := "laws.go:256", after := #[{ on := 16, ground := Ground.data }, { on := 14, ground := Ground.chain }, { on := 12, ground := Ground.guard }], guard := some (12, true) }) rfl (fun K hK => ?_) AllReadyH.nil
        rw [if_pos (by rfl)]
        go_simp
        go_at_call 48
        refine (STR 5 (by omega) _).mono ?_
        rintro e w7 ⟨g7, o7, c7, n, hn, rfl, hc7, q7, bel7⟩
        obtain rfl : n = 5 := by omega
        clear hn
        replace q6' := q6'.below bel7 (Nat.le_refl _)
        go_wp2_with fail
        refine hK.out _ _ trivial (fun hHeld2 => ?_)
        clear hK K
        try simp only [Act.put, List.setIfInBounds_toArray, List.set_cons_zero, List.set_cons_succ]
        refine wpAnyH_ready (rs := [18]) (by kernel_rfl) (by simp) ?_
        refine AllReadyH.cons (o := { dst := some 136, op := Op.call { callee := Callee.value (Operand.func 17), args := #[Operand.tmp 133, Operand.tmp 135], argTypes := #[22, 22] }, type := 4, pos := "laws.go:256", after := #[{ on := 15, ground := Ground.data }, { on := 17, ground := Ground.data }, { on := 17, ground := Ground.chain }, { on := 12, ground := Ground.guard }], guard := some (12, true) }) rfl (fun K hK => ?_) AllReadyH.nil
        rw [if_pos (by rfl)]
        go_simp
        go_at_call 17
        refine (sameBytes_same _ _ (strL R 5) _ _ _ _ _ q6' q7).mono ?_
        rintro e w8 ⟨rfl, bel8⟩
        go_wp2_with fail
        refine hK.out _ _ trivial (fun hHeld2 => ?_)
        clear hK K
        try simp only [Act.put, List.setIfInBounds_toArray, List.set_cons_zero, List.set_cons_succ]
        refine wpAnyH_take (i := 19) (oi := { dst := some 137, op := Op.pick (Operand.tmp 130) (Operand.tmp 136) (Operand.const (Value.bool false)), type := 4, pos := "laws.go:256", after := #[{ on := 12, ground := Ground.data }, { on := 18, ground := Ground.data }], guard := none }) (v := ?va19) rfl (by kernel_rfl) (by kernel_rfl) (by kernel_rfl) (fun _ _ _ h => h) (Or.inl ⟨by rfl, ?hya19⟩) (by assumption) ?resta19
        case hya19 => (intro w hSw; (try dsimp only at hSw); go_simp; try (with_reducible rfl))
        simp only [Act.put, List.setIfInBounds_toArray, List.set_cons_zero, List.set_cons_succ]
        refine wpAnyH_take (i := 20) (oi := { dst := some 138, op := Op.move (Operand.tmp 137), type := 4, pos := "laws.go:256", after := #[{ on := 19, ground := Ground.data }, { on := 18, ground := Ground.chain }], guard := none }) (v := ?va20) rfl (by kernel_rfl) (by kernel_rfl) (by kernel_rfl) (fun _ _ _ h => h) (Or.inl ⟨by rfl, ?hya20⟩) (by assumption) ?resta20
        case hya20 => (intro w hSw; (try dsimp only at hSw); go_simp; try (with_reducible rfl))
        simp only [Act.put, List.setIfInBounds_toArray, List.set_cons_zero, List.set_cons_succ]
        refine wpAnyH_take (i := 21) (oi := { dst := some 139, op := Op.move (Operand.tmp 5), type := 3, pos := "laws.go:256", after := #[{ on := 20, ground := Ground.guard }], guard := some (20, true) }) (v := ?va21) rfl (by kernel_rfl) (by kernel_rfl) (by kernel_rfl) (fun _ _ _ h => h) (Or.inl ⟨by rfl, ?hya21⟩) (by assumption) ?resta21
        case hya21 => (intro w hSw; (try dsimp only at hSw); go_simp; try (with_reducible rfl))
        simp only [Act.put, List.setIfInBounds_toArray, List.set_cons_zero, List.set_cons_succ]
        refine wpAnyH_take (i := 23) (oi := { dst := some 141, op := Op.move (Operand.tmp 5), type := 3, pos := "laws.go:256", after := #[{ on := 20, ground := Ground.guard }], guard := some (20, true) }) (v := ?va23) rfl (by kernel_rfl) (by kernel_rfl) (by kernel_rfl) (fun _ _ _ h => h) (Or.inl ⟨by rfl, ?hya23⟩) (by assumption) ?resta23
        case hya23 => (intro w hSw; (try dsimp only at hSw); go_simp; try (with_reducible rfl))
        simp only [Act.put, List.setIfInBounds_toArray, List.set_cons_zero, List.set_cons_succ]
        refine wpAnyH_ready (rs := [22]) (by kernel_rfl) (by simp) ?_
        refine AllReadyH.cons (o := { dst := some 140, op := Op.call { callee := Callee.value (Operand.func 46), args := #[Operand.tmp 139, Operand.const (Value.int IntKind.i64 0), Operand.const (Value.int IntKind.i64 0)], argTypes := #[3, 3, 3] }, type := 3, pos := "laws.go:256", after := #[{ on := 21, ground := Ground.data }, { on := 20, ground := Ground.chain }, { on := 20, ground := Ground.guard }], guard := some (20, true) }) rfl (fun K hK => ?_) AllReadyH.nil
        rw [if_pos (by rfl)]
        go_simp
        go_at_call 46
        refine (implLeaf R 0 0 _ HR64.out (by unfold In64; omega)).mono ?_
        rw [L0.out]
        rintro e w9 ⟨rfl, bel9⟩
        go_wp2_with fail
        refine hK.out _ _ trivial (fun hHeld2 => ?_)
        clear hK K
        try simp only [Act.put, List.setIfInBounds_toArray, List.set_cons_zero, List.set_cons_succ]
        refine wpAnyH_take (i := 24) (oi := { dst := some 142, op := Op.binOp BinOp.eql 3 (Operand.tmp 140) (Operand.tmp 141) 3, type := 4, pos := "laws.go:256", after := #[{ on := 22, ground := Ground.data }, { on := 23, ground := Ground.data }, { on := 20, ground := Ground.guard }], guard := some (20, true) }) (v := ?va24) rfl (by kernel_rfl) (by kernel_rfl) (by kernel_rfl) (fun _ _ _ h => h) (Or.inl ⟨by rfl, ?hya24⟩) (by assumption) ?resta24
        case hya24 => (intro w hSw; (try dsimp only at hSw); go_simp; try (with_reducible rfl))
        simp only [Act.put, List.setIfInBounds_toArray, List.set_cons_zero, List.set_cons_succ]
        refine wpAnyH_take (i := 25) (oi := { dst := some 143, op := Op.pick (Operand.tmp 138) (Operand.tmp 142) (Operand.const (Value.bool false)), type := 4, pos := "laws.go:256", after := #[{ on := 20, ground := Ground.data }, { on := 24, ground := Ground.data }], guard := none }) (v := ?va25) rfl (by kernel_rfl) (by kernel_rfl) (by kernel_rfl) (fun _ _ _ h => h) (Or.inl ⟨by rfl, ?hya25⟩) (by assumption) ?resta25
        case hya25 => (intro w hSw; (try dsimp only at hSw); go_simp; try (with_reducible rfl))
        simp only [Act.put, List.setIfInBounds_toArray, List.set_cons_zero, List.set_cons_succ]
        refine wpAnyH_take (i := 26) (oi := { dst := some 2, op := Op.assign (Operand.tmp 143), type := 4, pos := "laws.go:256", after := #[{ on := 25, ground := Ground.data }, { on := 22, ground := Ground.chain }, { on := 0, ground := Ground.phase }, { on := 1, ground := Ground.phase }, { on := 2, ground := Ground.phase }, { on := 3, ground := Ground.phase }, { on := 4, ground := Ground.phase }, { on := 5, ground := Ground.phase }, { on := 6, ground := Ground.phase }, { on := 7, ground := Ground.phase }, { on := 8, ground := Ground.phase }, { on := 9, ground := Ground.phase }, { on := 10, ground := Ground.phase }, { on := 11, ground := Ground.phase }, { on := 12, ground := Ground.phase }, { on := 13, ground := Ground.phase }, { on := 14, ground := Ground.phase }, { on := 15, ground := Ground.phase }, { on := 16, ground := Ground.phase }, { on := 17, ground := Ground.phase }, { on := 18, ground := Ground.phase }, { on := 19, ground := Ground.phase }, { on := 20, ground := Ground.phase }, { on := 21, ground := Ground.phase }, { on := 22, ground := Ground.phase }, { on := 23, ground := Ground.phase }, { on := 24, ground := Ground.phase }, { on := 25, ground := Ground.phase }], guard := none }) (v := ?va26) rfl (by kernel_rfl) (by kernel_rfl) (by kernel_rfl) (fun _ _ _ h => h) (Or.inl ⟨by rfl, ?hya26⟩) (by assumption) ?resta26
        case hya26 => (intro w hSw; (try dsimp only at hSw); go_simp; try (with_reducible rfl))
        simp only [Act.put, List.setIfInBounds_toArray, List.set_cons_zero, List.set_cons_succ]
        refine wpAnyH_done (by kernel_rfl) ?_ _
        refine NoPanic.normal ?_
        have C7 := C6.drew.trans (bel5.mono (show w.heap.size ≤ w4.heap.size by omega))
        have C8 := C7.trans (bel6.mono C7.size)
        have C9 := C8.trans (bel7.mono C8.size)
        have C10 := C9.trans (bel8.mono C9.size)
        have C11 := C10.trans (bel9.mono C10.size)
        clear bel5 bel6 bel7 bel8 bel9 q5 q6 q6' q7 C7 C8 C9 C10
        go_wp2_with fail
        go_ret
        exact ⟨rfl, C11⟩
      · rw [hb]
        clear hb
        refine wp_region_noPanic ?_
        refine wp_region_held_drew (S := fun _ => True) (by kernel_rfl) trivial (fun hHeld => ?_)
        refine wpAnyH_take (i := 0) (oi := { dst := some 118, op := Op.move (Operand.tmp 12), type := 3, pos := "laws.go:256", after := #[], guard := none }) (v := ?vb0) rfl (by kernel_rfl) (by kernel_rfl) (by kernel_rfl) (fun _ _ _ h => h) (Or.inl ⟨by rfl, ?hyb0⟩) (by assumption) ?restb0
        case hyb0 => (intro w hSw; (try dsimp only at hSw); go_simp; try (with_reducible rfl))
        simp only [Act.put, List.setIfInBounds_toArray, List.set_cons_zero, List.set_cons_succ]
        refine wpAnyH_take (i := 1) (oi := { dst := some 119, op := Op.binOp BinOp.eql 3 (Operand.tmp 118) (Operand.const (Value.int IntKind.i64 0)) 3, type := 4, pos := "laws.go:256", after := #[{ on := 0, ground := Ground.data }], guard := none }) (v := ?vb1) rfl (by kernel_rfl) (by kernel_rfl) (by kernel_rfl) (fun _ _ _ h => h) (Or.inl ⟨by rfl, ?hyb1⟩) (by assumption) ?restb1
        case hyb1 => (intro w hSw; (try dsimp only at hSw); go_simp; try (with_reducible rfl))
        simp only [Act.put, List.setIfInBounds_toArray, List.set_cons_zero, List.set_cons_succ]
        refine wpAnyH_take (i := 2) (oi := { dst := some 120, op := Op.move (Operand.tmp 119), type := 4, pos := "laws.go:256", after := #[{ on := 1, ground := Ground.data }], guard := none }) (v := ?vb2) rfl (by kernel_rfl) (by kernel_rfl) (by kernel_rfl) (fun _ _ _ h => h) (Or.inl ⟨by rfl, ?hyb2⟩) (by assumption) ?restb2
        case hyb2 => (intro w hSw; (try dsimp only at hSw); go_simp; try (with_reducible rfl))
        simp only [Act.put, List.setIfInBounds_toArray, List.set_cons_zero, List.set_cons_succ]
        refine wpAnyH_take (i := 3) (oi := { dst := some 121, op := Op.move (Operand.tmp 12), type := 3, pos := "laws.go:256", after := #[{ on := 2, ground := Ground.guard }], guard := some (2, false) }) (v := ?vb3) rfl (by kernel_rfl) (by kernel_rfl) (by kernel_rfl) (fun _ _ _ h => h) (Or.inl ⟨by rfl, ?hyb3⟩) (by assumption) ?restb3
        case hyb3 => (intro w hSw; (try dsimp only at hSw); go_simp; try (with_reducible rfl))
        simp only [Act.put, List.setIfInBounds_toArray, List.set_cons_zero, List.set_cons_succ]
        refine wpAnyH_take (i := 4) (oi := { dst := some 122, op := Op.binOp BinOp.eql 3 (Operand.tmp 121) (Operand.const (Value.int IntKind.i64 1)) 3, type := 4, pos := "laws.go:256", after := #[{ on := 3, ground := Ground.data }, { on := 2, ground := Ground.guard }], guard := some (2, false) }) (v := ?vb4) rfl (by kernel_rfl) (by kernel_rfl) (by kernel_rfl) (fun _ _ _ h => h) (Or.inl ⟨by rfl, ?hyb4⟩) (by assumption) ?restb4
        case hyb4 => (intro w hSw; (try dsimp only at hSw); go_simp; try (with_reducible rfl))
        simp only [Act.put, List.setIfInBounds_toArray, List.set_cons_zero, List.set_cons_succ]
        refine wpAnyH_take (i := 5) (oi := { dst := some 123, op := Op.pick (Operand.tmp 120) (Operand.const (Value.bool true)) (Operand.tmp 122), type := 4, pos := "laws.go:256", after := #[{ on := 2, ground := Ground.data }, { on := 4, ground := Ground.data }], guard := none }) (v := ?vb5) rfl (by kernel_rfl) (by kernel_rfl) (by kernel_rfl) (fun _ _ _ h => h) (Or.inl ⟨by rfl, ?hyb5⟩) (by assumption) ?restb5
        case hyb5 => (intro w hSw; (try dsimp only at hSw); go_simp; try (with_reducible rfl))
        simp only [Act.put, List.setIfInBounds_toArray, List.set_cons_zero, List.set_cons_succ]
        refine wpAnyH_take (i := 6) (oi := { dst := some 124, op := Op.move (Operand.tmp 123), type := 4, pos := "laws.go:256", after := #[{ on := 5, ground := Ground.data }, { on := 2, ground := Ground.chain }], guard := none }) (v := ?vb6) rfl (by kernel_rfl) (by kernel_rfl) (by kernel_rfl) (fun _ _ _ h => h) (Or.inl ⟨by rfl, ?hyb6⟩) (by assumption) ?restb6
        case hyb6 => (intro w hSw; (try dsimp only at hSw); go_simp; try (with_reducible rfl))
        simp only [Act.put, List.setIfInBounds_toArray, List.set_cons_zero, List.set_cons_succ]
        refine wpAnyH_take (i := 7) (oi := { dst := some 125, op := Op.move (Operand.tmp 5), type := 3, pos := "laws.go:256", after := #[{ on := 6, ground := Ground.guard }], guard := some (6, true) }) (v := ?vb7) rfl (by kernel_rfl) (by kernel_rfl) (by kernel_rfl) (fun _ _ _ h => h) (Or.inl ⟨by rfl, ?hyb7⟩) (by assumption) ?restb7
        case hyb7 => (intro w hSw; (try dsimp only at hSw); go_simp; try (with_reducible rfl))
        simp only [Act.put, List.setIfInBounds_toArray, List.set_cons_zero, List.set_cons_succ]
        refine wpAnyH_ready (rs := [8]) (by kernel_rfl) (by simp) ?_
        refine AllReadyH.cons (o := { dst := some 126, op := Op.call { callee := Callee.value (Operand.func 48), args := #[Operand.tmp 125, Operand.const (Value.int IntKind.i64 9)], argTypes := #[3, 3] }, type := 22, pos := "laws.go:256", after := #[{ on := 7, ground := Ground.data }, { on := 6, ground := Ground.chain }, { on := 6, ground := Ground.guard }], guard := some (6, true) }) rfl (fun K hK => ?_) AllReadyH.nil
        rw [if_pos (by rfl)]
        go_simp
        go_at_call 48
        refine (STR 9 (by omega) _).mono ?_
        rintro e w5 ⟨g5, o5, c5, n, hn, rfl, hc5, q5, bel5⟩
        obtain rfl : n = 9 := by omega
        clear hn
        go_wp2_with fail
        refine hK.out _ _ trivial (fun hHeld2 => ?_)
        clear hK K
        try simp only [Act.put, List.setIfInBounds_toArray, List.set_cons_zero, List.set_cons_succ]
        refine wpAnyH_take (i := 9) (oi := { dst := some 127, op := Op.call { callee := Callee.builtin Builtin.len, args := #[Operand.tmp 126], argTypes := #[22] }, type := 3, pos := "laws.go:256", after := #[{ on := 8, ground := Ground.data }, { on := 6, ground := Ground.guard }], guard := some (6, true) }) (v := ?vb9) rfl (by kernel_rfl) (by kernel_rfl) (by kernel_rfl) (fun _ _ _ h => h) (Or.inl ⟨by rfl, ?hyb9⟩) (by assumption) ?restb9
        case hyb9 => (intro w hSw; (try dsimp only at hSw); go_simp; try (with_reducible rfl))
        simp only [Act.put, List.setIfInBounds_toArray, List.set_cons_zero, List.set_cons_succ]
        refine wpAnyH_take (i := 10) (oi := { dst := some 128, op := Op.binOp BinOp.eql 3 (Operand.tmp 127) (Operand.const (Value.int IntKind.i64 9)) 3, type := 4, pos := "laws.go:256", after := #[{ on := 9, ground := Ground.data }, { on := 6, ground := Ground.guard }], guard := some (6, true) }) (v := ?vb10) rfl (by kernel_rfl) (by kernel_rfl) (by kernel_rfl) (fun _ _ _ h => h) (Or.inl ⟨by rfl, ?hyb10⟩) (by assumption) ?restb10
        case hyb10 => (intro w hSw; (try dsimp only at hSw); go_simp; try (with_reducible rfl))
        simp only [Act.put, List.setIfInBounds_toArray, List.set_cons_zero, List.set_cons_succ]
        refine wpAnyH_take (i := 11) (oi := { dst := some 129, op := Op.pick (Operand.tmp 124) (Operand.tmp 128) (Operand.const (Value.bool false)), type := 4, pos := "laws.go:256", after := #[{ on := 6, ground := Ground.data }, { on := 10, ground := Ground.data }], guard := none }) (v := ?vb11) rfl (by kernel_rfl) (by kernel_rfl) (by kernel_rfl) (fun _ _ _ h => h) (Or.inl ⟨by rfl, ?hyb11⟩) (by assumption) ?restb11
        case hyb11 => (intro w hSw; (try dsimp only at hSw); go_simp; try (with_reducible rfl))
        simp only [Act.put, List.setIfInBounds_toArray, List.set_cons_zero, List.set_cons_succ]
        refine wpAnyH_take (i := 12) (oi := { dst := some 130, op := Op.move (Operand.tmp 129), type := 4, pos := "laws.go:256", after := #[{ on := 11, ground := Ground.data }, { on := 8, ground := Ground.chain }], guard := none }) (v := ?vb12) rfl (by kernel_rfl) (by kernel_rfl) (by kernel_rfl) (fun _ _ _ h => h) (Or.inl ⟨by rfl, ?hyb12⟩) (by assumption) ?restb12
        case hyb12 => (intro w hSw; (try dsimp only at hSw); go_simp; try (with_reducible rfl))
        simp only [Act.put, List.setIfInBounds_toArray, List.set_cons_zero, List.set_cons_succ]
        refine wpAnyH_take (i := 13) (oi := { dst := some 131, op := Op.move (Operand.tmp 5), type := 3, pos := "laws.go:256", after := #[{ on := 12, ground := Ground.guard }], guard := some (12, true) }) (v := ?vb13) rfl (by kernel_rfl) (by kernel_rfl) (by kernel_rfl) (fun _ _ _ h => h) (Or.inl ⟨by rfl, ?hyb13⟩) (by assumption) ?restb13
        case hyb13 => (intro w hSw; (try dsimp only at hSw); go_simp; try (with_reducible rfl))
        simp only [Act.put, List.setIfInBounds_toArray, List.set_cons_zero, List.set_cons_succ]
        refine wpAnyH_take (i := 16) (oi := { dst := some 134, op := Op.move (Operand.tmp 5), type := 3, pos := "laws.go:256", after := #[{ on := 12, ground := Ground.guard }], guard := some (12, true) }) (v := ?vb16) rfl (by kernel_rfl) (by kernel_rfl) (by kernel_rfl) (fun _ _ _ h => h) (Or.inl ⟨by rfl, ?hyb16⟩) (by assumption) ?restb16
        case hyb16 => (intro w hSw; (try dsimp only at hSw); go_simp; try (with_reducible rfl))
        simp only [Act.put, List.setIfInBounds_toArray, List.set_cons_zero, List.set_cons_succ]
        refine wpAnyH_ready (rs := [14]) (by kernel_rfl) (by simp) ?_
        refine AllReadyH.cons (o := { dst := some 132, op := Op.call { callee := Callee.value (Operand.func 48), args := #[Operand.tmp 131, Operand.const (Value.int IntKind.i64 9)], argTypes := #[3, 3] }, type := 22, pos := "laws.go:256", after := #[{ on := 13, ground := Ground.data }, { on := 12, ground := Ground.chain }, { on := 12, ground := Ground.guard }], guard := some (12, true) }) rfl (fun K hK => ?_) AllReadyH.nil
        rw [if_pos (by rfl)]
        go_simp
        go_at_call 48
        refine (STR 9 (by omega) _).mono ?_
        rintro e w6 ⟨g6, o6, c6, n, hn, rfl, hc6, q6, bel6⟩
        obtain rfl : n = 9 := by omega
        clear hn
        have i6 : (5 : Int) ≤ (c6 : Int) := by omega
        have q6' := q6.part 0 5 (by rw [strL_length]; omega)
        rw [List.drop_zero, strL_take _ _ _ (by omega)] at q6'
        go_wp2_with fail
        refine hK.out _ _ trivial (fun hHeld2 => ?_)
        clear hK K
        try simp only [Act.put, List.setIfInBounds_toArray, List.set_cons_zero, List.set_cons_succ]
        refine wpAnyH_take (i := 15) (oi := { dst := some 133, op := Op.slice 22 (Operand.tmp 132) none (some (Operand.const (Value.int IntKind.i64 5))) none, type := 22, pos := "laws.go:256", after := #[{ on := 14, ground := Ground.data }, { on := 12, ground := Ground.guard }], guard := some (12, true) }) (v := ?vb15) rfl (by kernel_rfl) (by kernel_rfl) (by kernel_rfl) (fun _ _ _ h => h) (Or.inl ⟨by rfl, ?hyb15⟩) (by assumption) ?restb15
        case hyb15 => (intro w hSw; (try dsimp only at hSw); go_simp; try (with_reducible rfl))
        simp only [Act.put, List.setIfInBounds_toArray, List.set_cons_zero, List.set_cons_succ]
        refine wpAnyH_ready (rs := [17]) (by kernel_rfl) (by simp) ?_
        refine AllReadyH.cons (o := { dst := some 135, op := Op.call { callee := Callee.value (Operand.func 48), args := #[Operand.tmp 134, Operand.const (Value.int IntKind.i64 5)], argTypes := #[3, 3] }, type := 22, pos := "laws.go:256", after := #[{ on := 16, ground := Ground.data }, { on := 14, ground := Ground.chain }, { on := 12, ground := Ground.guard }], guard := some (12, true) }) rfl (fun K hK => ?_) AllReadyH.nil
        rw [if_pos (by rfl)]
        go_simp
        go_at_call 48
        refine (STR 5 (by omega) _).mono ?_
        rintro e w7 ⟨g7, o7, c7, n, hn, rfl, hc7, q7, bel7⟩
        obtain rfl : n = 5 := by omega
        clear hn
        replace q6' := q6'.below bel7 (Nat.le_refl _)
        go_wp2_with fail
        refine hK.out _ _ trivial (fun hHeld2 => ?_)
        clear hK K
        try simp only [Act.put, List.setIfInBounds_toArray, List.set_cons_zero, List.set_cons_succ]
        refine wpAnyH_ready (rs := [18]) (by kernel_rfl) (by simp) ?_
        refine AllReadyH.cons (o := { dst := some 136, op := Op.call { callee := Callee.value (Operand.func 17), args := #[Operand.tmp 133, Operand.tmp 135], argTypes := #[22, 22] }, type := 4, pos := "laws.go:256", after := #[{ on := 15, ground := Ground.data }, { on := 17, ground := Ground.data }, { on := 17, ground := Ground.chain }, { on := 12, ground := Ground.guard }], guard := some (12, true) }) rfl (fun K hK => ?_) AllReadyH.nil
        rw [if_pos (by rfl)]
        go_simp
        go_at_call 17
        refine (sameBytes_same _ _ (strL R 5) _ _ _ _ _ q6' q7).mono ?_
        rintro e w8 ⟨rfl, bel8⟩
        go_wp2_with fail
        refine hK.out _ _ trivial (fun hHeld2 => ?_)
        clear hK K
        try simp only [Act.put, List.setIfInBounds_toArray, List.set_cons_zero, List.set_cons_succ]
        refine wpAnyH_take (i := 19) (oi := { dst := some 137, op := Op.pick (Operand.tmp 130) (Operand.tmp 136) (Operand.const (Value.bool false)), type := 4, pos := "laws.go:256", after := #[{ on := 12, ground := Ground.data }, { on := 18, ground := Ground.data }], guard := none }) (v := ?vb19) rfl (by kernel_rfl) (by kernel_rfl) (by kernel_rfl) (fun _ _ _ h => h) (Or.inl ⟨by rfl, ?hyb19⟩) (by assumption) ?restb19
        case hyb19 => (intro w hSw; (try dsimp only at hSw); go_simp; try (with_reducible rfl))
        simp only [Act.put, List.setIfInBounds_toArray, List.set_cons_zero, List.set_cons_succ]
        refine wpAnyH_take (i := 20) (oi := { dst := some 138, op := Op.move (Operand.tmp 137), type := 4, pos := "laws.go:256", after := #[{ on := 19, ground := Ground.data }, { on := 18, ground := Ground.chain }], guard := none }) (v := ?vb20) rfl (by kernel_rfl) (by kernel_rfl) (by kernel_rfl) (fun _ _ _ h => h) (Or.inl ⟨by rfl, ?hyb20⟩) (by assumption) ?restb20
        case hyb20 => (intro w hSw; (try dsimp only at hSw); go_simp; try (with_reducible rfl))
        simp only [Act.put, List.setIfInBounds_toArray, List.set_cons_zero, List.set_cons_succ]
        refine wpAnyH_take (i := 21) (oi := { dst := some 139, op := Op.move (Operand.tmp 5), type := 3, pos := "laws.go:256", after := #[{ on := 20, ground := Ground.guard }], guard := some (20, true) }) (v := ?vb21) rfl (by kernel_rfl) (by kernel_rfl) (by kernel_rfl) (fun _ _ _ h => h) (Or.inl ⟨by rfl, ?hyb21⟩) (by assumption) ?restb21
        case hyb21 => (intro w hSw; (try dsimp only at hSw); go_simp; try (with_reducible rfl))
        simp only [Act.put, List.setIfInBounds_toArray, List.set_cons_zero, List.set_cons_succ]
        refine wpAnyH_take (i := 23) (oi := { dst := some 141, op := Op.move (Operand.tmp 5), type := 3, pos := "laws.go:256", after := #[{ on := 20, ground := Ground.guard }], guard := some (20, true) }) (v := ?vb23) rfl (by kernel_rfl) (by kernel_rfl) (by kernel_rfl) (fun _ _ _ h => h) (Or.inl ⟨by rfl, ?hyb23⟩) (by assumption) ?restb23
        case hyb23 => (intro w hSw; (try dsimp only at hSw); go_simp; try (with_reducible rfl))
        simp only [Act.put, List.setIfInBounds_toArray, List.set_cons_zero, List.set_cons_succ]
        refine wpAnyH_ready (rs := [22]) (by kernel_rfl) (by simp) ?_
        refine AllReadyH.cons (o := { dst := some 140, op := Op.call { callee := Callee.value (Operand.func 46), args := #[Operand.tmp 139, Operand.const (Value.int IntKind.i64 0), Operand.const (Value.int IntKind.i64 0)], argTypes := #[3, 3, 3] }, type := 3, pos := "laws.go:256", after := #[{ on := 21, ground := Ground.data }, { on := 20, ground := Ground.chain }, { on := 20, ground := Ground.guard }], guard := some (20, true) }) rfl (fun K hK => ?_) AllReadyH.nil
        rw [if_pos (by rfl)]
        go_simp
        go_at_call 46
        refine (implLeaf R 0 0 _ HR64.out (by unfold In64; omega)).mono ?_
        rw [L0.out]
        rintro e w9 ⟨rfl, bel9⟩
        go_wp2_with fail
        refine hK.out _ _ trivial (fun hHeld2 => ?_)
        clear hK K
        try simp only [Act.put, List.setIfInBounds_toArray, List.set_cons_zero, List.set_cons_succ]
        refine wpAnyH_take (i := 24) (oi := { dst := some 142, op := Op.binOp BinOp.eql 3 (Operand.tmp 140) (Operand.tmp 141) 3, type := 4, pos := "laws.go:256", after := #[{ on := 22, ground := Ground.data }, { on := 23, ground := Ground.data }, { on := 20, ground := Ground.guard }], guard := some (20, true) }) (v := ?vb24) rfl (by kernel_rfl) (by kernel_rfl) (by kernel_rfl) (fun _ _ _ h => h) (Or.inl ⟨by rfl, ?hyb24⟩) (by assumption) ?restb24
        case hyb24 => (intro w hSw; (try dsimp only at hSw); go_simp; try (with_reducible rfl))
        simp only [Act.put, List.setIfInBounds_toArray, List.set_cons_zero, List.set_cons_succ]
        refine wpAnyH_take (i := 25) (oi := { dst := some 143, op := Op.pick (Operand.tmp 138) (Operand.tmp 142) (Operand.const (Value.bool false)), type := 4, pos := "laws.go:256", after := #[{ on := 20, ground := Ground.data }, { on := 24, ground := Ground.data }], guard := none }) (v := ?vb25) rfl (by kernel_rfl) (by kernel_rfl) (by kernel_rfl) (fun _ _ _ h => h) (Or.inl ⟨by rfl, ?hyb25⟩) (by assumption) ?restb25
        case hyb25 => (intro w hSw; (try dsimp only at hSw); go_simp; try (with_reducible rfl))
        simp only [Act.put, List.setIfInBounds_toArray, List.set_cons_zero, List.set_cons_succ]
        refine wpAnyH_take (i := 26) (oi := { dst := some 2, op := Op.assign (Operand.tmp 143), type := 4, pos := "laws.go:256", after := #[{ on := 25, ground := Ground.data }, { on := 22, ground := Ground.chain }, { on := 0, ground := Ground.phase }, { on := 1, ground := Ground.phase }, { on := 2, ground := Ground.phase }, { on := 3, ground := Ground.phase }, { on := 4, ground := Ground.phase }, { on := 5, ground := Ground.phase }, { on := 6, ground := Ground.phase }, { on := 7, ground := Ground.phase }, { on := 8, ground := Ground.phase }, { on := 9, ground := Ground.phase }, { on := 10, ground := Ground.phase }, { on := 11, ground := Ground.phase }, { on := 12, ground := Ground.phase }, { on := 13, ground := Ground.phase }, { on := 14, ground := Ground.phase }, { on := 15, ground := Ground.phase }, { on := 16, ground := Ground.phase }, { on := 17, ground := Ground.phase }, { on := 18, ground := Ground.phase }, { on := 19, ground := Ground.phase }, { on := 20, ground := Ground.phase }, { on := 21, ground := Ground.phase }, { on := 22, ground := Ground.phase }, { on := 23, ground := Ground.phase }, { on := 24, ground := Ground.phase }, { on := 25, ground := Ground.phase }], guard := none }) (v := ?vb26) rfl (by kernel_rfl) (by kernel_rfl) (by kernel_rfl) (fun _ _ _ h => h) (Or.inl ⟨by rfl, ?hyb26⟩) (by assumption) ?restb26
        case hyb26 => (intro w hSw; (try dsimp only at hSw); go_simp; try (with_reducible rfl))
        simp only [Act.put, List.setIfInBounds_toArray, List.set_cons_zero, List.set_cons_succ]
        refine wpAnyH_done (by kernel_rfl) ?_ _
        refine NoPanic.normal ?_
        have C7 := C6.drew.trans (bel5.mono (show w.heap.size ≤ w4.heap.size by omega))
        have C8 := C7.trans (bel6.mono C7.size)
        have C9 := C8.trans (bel7.mono C8.size)
        have C10 := C9.trans (bel8.mono C9.size)
        have C11 := C10.trans (bel9.mono C10.size)
        clear bel5 bel6 bel7 bel8 bel9 q5 q6 q6' q7 C7 C8 C9 C10
        go_wp2_with fail
        go_ret
        exact ⟨rfl, C11⟩
end Go.Proofs.Ytabfekfbdacboaa
