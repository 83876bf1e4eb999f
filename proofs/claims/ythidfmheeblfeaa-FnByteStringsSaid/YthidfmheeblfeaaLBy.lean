/- The law of byte strings and lists of integers. -/
import Derived.Test.YthidfmheeblfeaaByp
import Derived.Test.YthidfmheeblfeaaLVar2
namespace Go.Proofs.Ythidfmheeblfeaa
open Go.RowKit
set_option linter.unusedVariables false

set_option maxRecDepth 100000 in
set_option maxHeartbeats 1000000 in
theorem law_FnByteStrings (w : World) (v0 : Value) (xs : List Int) (r0 : Rd .u8 w 0 w.heap.size v0 xs) (f0 : Wf .u8 xs) :
    Calls Try.prog 11 #[v0] w fun e w' => e = .returned (.bool true) ∧ Below w.heap.size w w' := by
  obtain ⟨i0, hi0, hz0, hz1, hz2⟩ := info_parts info_int
  by_cases b0 : xs.length ≤ 1048576
  rotate_left
  · go_enter Try.func11, Try.ntmps11
    go_wp2_with fail
    refine (big_yes _ xs _ _ _ r0 b0).mono ?_
    rintro e w1 ⟨rfl, rfl⟩
    go_wp2_with fail
    go_ret
    exact ⟨rfl, Below.refl _ _⟩
  go_enter Try.func11, Try.ntmps11
  go_wp2_with fail
  refine (big_no _ xs _ _ _ r0 b0).mono ?_
  rintro e w1 ⟨rfl, rfl⟩
  go_wp2_with fail
  refine (drawApB_any _ xs _ _ _ r0 f0 (Nat.le_refl _) b0).mono ?_
  rintro e w1 ⟨v1, ys, v2, zs, rfl, o1, o2, hy, hz, fy, fz, B1⟩
  have q1 := o1.rd
  have q2 := o2.rd
  have s1 := B1.size
  clear o1 o2
  obtain ⟨A1, c1, rfl, hc1, hm1⟩ := q1.form
  obtain ⟨A2, c2, rfl, hc2, hm2⟩ := q2.form
  unfold maxLen at hm1 hm2
  have FY := Lib.hid fy
  have FZ := Lib.hid fz
  have F0 := Lib.hid f0
  clear fy fz f0
  go_wp2_with fail
  refine (implApB _ _ ys zs _ _ _ _ _ q1 q2 (Nat.le_refl _) (Nat.le_refl _) (by omega) (by omega)).mono ?_
  rintro e w2 ⟨v3, rfl, o3, bel2⟩
  have s2 := bel2.size
  have B2 := B1.trans (bel2.mono s1)
  replace q2 := q2.below bel2 (Nat.le_refl _)
  have q3 := o3.rd
  clear o3
  obtain ⟨X, hX⟩ : ∃ X, X = ys ++ (uvE (zs.length : Int) ++ zs) := ⟨_, rfl⟩
  have hXl : X.length ≤ 20 := by have := uvE_length (zs.length : Int); rw [hX, List.length_append, List.length_append]; omega
  have HXw : Hid (Wf .u8 X) := by
    intro n hn
    rw [hX] at hn
    rcases List.mem_append.1 hn with hn | hn
    · exact FY.out n hn
    · rcases List.mem_append.1 hn with hn | hn
      · exact uvE_wf _ n hn
      · exact FZ.out n hn
  have HR1 : Hid (rdB X (ys.length : Int) (zs.length : Int) = (zs, (X.length : Int), true)) := by unfold Hid; rw [hX]; exact rdB_apB ys zs _ (by omega) (by omega)
  have HR2 : Hid (rdB X (ys.length : Int) ((zs.length : Int) - 1) = ([], 0, false)) := by unfold Hid; rw [hX]; exact rdB_short ys zs _ (by omega) (by omega)
  rw [← hX] at q3
  clear hX
  obtain ⟨A3, c3, rfl, hc3, hm3⟩ := q3.form
  unfold maxLen at hm3
  go_wp2_with fail
  refine (implRdB _ X ys.length zs.length _ _ _ q3 HXw.out (by unfold In64; omega) (by unfold In64; omega) (Nat.le_refl _) (by omega)).mono ?_
  rw [HR1.out]
  rintro e w3 ⟨v4, rfl, o4, bel3⟩
  have s3 := bel3.size
  have B3 := B2.trans (bel3.mono (by omega))
  replace q2 := q2.below bel3 (by omega)
  replace q3 := q3.below bel3 (by omega)
  have q4 := o4.rd
  clear o4
  go_wp2_with fail
  refine (implRdB _ X ys.length ((zs.length : Int) - 1) _ _ _ q3 HXw.out (by unfold In64; omega) (by unfold In64; omega) (by omega) (by omega)).mono ?_
  rw [HR2.out]
  rintro e w4 ⟨v5, rfl, -, bel4⟩
  have s4 := bel4.size
  have B4 := B3.trans (bel4.mono (by omega))
  replace q2 := q2.below bel4 (by omega)
  replace q4 := q4.below bel4 (by omega)
  go_wp2_with fail
  refine (sameBytes_same _ _ zs _ _ _ _ _ q4 q2).mono ?_
  rintro e w5 ⟨rfl, bel5⟩
  have s5 := bel5.size
  have B5 := B4.trans (bel5.mono (by omega))
  clear q2 q3 q4
  have r5 := r0.below B5 (Nat.le_refl _)
  obtain ⟨a0, a1⟩ := atI_bd F0.out 0
  have e1 : (atI xs 0).tmod 6 = atI xs 0 % 6 := Int.tmod_eq_emod_of_nonneg a0
  obtain ⟨n, hn⟩ : ∃ n : Nat, (n : Int) = atI xs 0 % 6 := ⟨(atI xs 0 % 6).toNat, by omega⟩
  have hn5 : n ≤ 5 := by omega
  rw [← hn] at e1
  clear hn
  go_wp2_with fail
  go_loopw [12, 13] (fun o i wr => ∃ (k : Nat) (l : List Int), k ≤ n ∧ i = .int .i64 k ∧ Own .i64 3 wr w.heap.size o l ∧ l.length = k ∧ (∀ x ∈ l, 0 ≤ x ∧ x ≤ 1000000000000) ∧ Below w.heap.size w wr) (fun _ i _ => n - (intOf i).toNat)
  case atStart => exact ⟨0, [], Nat.zero_le _, rfl, Own.of_empty _ _ _ _ _, rfl, fun _ h => (by cases h), B5.alloc (by omega) _⟩
  case round =>
    obtain ⟨k, l, hk, rfl, own, hll, wfl, bel⟩ := hrel
    have sz := bel.size
    have rk := r0.below bel (Nat.le_refl _)
    have OWN := Lib.hid own
    have HLL := Lib.hid hll
    have WFL := Lib.hid wfl
    clear own hll wfl
    by_cases hlt : k < n
    · have c1 : ((k + 1 : Nat) : Int) = (k : Int) + 1 := by omega
      have c2 : ((k + 2 : Nat) : Int) = (k : Int) + 2 := by omega
      have c3 : ((k + 3 : Nat) : Int) = (k : Int) + 3 := by omega
      have A1 := at_any _ xs (k + 1) wr _ _ rk F0.out b0 (by omega)
      have A2 := at_any _ xs (k + 2) wr _ _ rk F0.out b0 (by omega)
      have A3 := at_any _ xs (k + 3) wr _ _ rk F0.out b0 (by omega)
      rw [c1] at A1
      rw [c2] at A2
      rw [c3] at A3
      clear c1 c2 c3
      obtain ⟨x, hx⟩ : ∃ x, x = atI xs (k + 1) := ⟨_, rfl⟩
      obtain ⟨y, hy'⟩ : ∃ y, y = atI xs (k + 2) := ⟨_, rfl⟩
      obtain ⟨z, hz'⟩ : ∃ z, z = atI xs (k + 3) := ⟨_, rfl⟩
      obtain ⟨x0, x1⟩ := atI_bd F0.out (k + 1)
      obtain ⟨y0, y1⟩ := atI_bd F0.out (k + 2)
      obtain ⟨z0, z1⟩ := atI_bd F0.out (k + 3)
      rw [← hx] at A1 x0 x1
      rw [← hy'] at A2 y0 y1
      rw [← hz'] at A3 z0 z1
      clear hx hy' hz'
      have p0 : 0 ≤ x * y := Int.mul_nonneg x0 y0
      have p1 : x * y ≤ 255 * 255 := Int.mul_le_mul x1 y1 y0 (by omega)
      have p2 : 0 ≤ x * y * z := Int.mul_nonneg p0 z0
      have p3 : x * y * z ≤ 65025 * 255 := Int.mul_le_mul (by omega) z1 z0 (by omega)
      have hA : l.length + [x * y * z].length ≤ maxLen := by have := HLL.out; simp [maxLen]; omega
      have hB : (l.length + [x * y * z].length) * 8 ≤ 140737488355328 := by have := HLL.out; simp; omega
      go_wp2_with fail
      refine (at_any _ xs 0 _ _ _ rk F0.out b0 (by omega)).mono ?_
      rintro e w' ⟨rfl, rfl⟩
      go_wp2_with fail
      refine A1.mono ?_
      rintro e w' ⟨rfl, rfl⟩
      go_wp2_with fail
      refine A2.mono ?_
      rintro e w' ⟨rfl, rfl⟩
      go_wp2_with fail
      refine A3.mono ?_
      rintro e w' ⟨rfl, rfl⟩
      go_wp2_with (at_builtin; refine wpList_append_Own _ rfl (.tmp 77) (.tmp 92) 34 rfl w.heap.size 3 i0 (.int .i64 0) .i64 8 Try.underlying34 hi0 hz0 hz1 hz2 rfl _ _ rfl (OWN.out.alloc _) _ _ _ [x * y * z] rfl (Own.lit1 .i64 3 _ 0 (x * y * z) (Nat.zero_le _)).rd hA hB ?_ ?_)
      · first | omega | (simp; omega)
      · intro v6 w6 hO6 hW6
        have B6 : Below w.heap.size w w6 := hW6.below (bel.alloc sz _) (Nat.le_refl _) (by simp; omega)
        have O6 := Lib.hid hO6
        have WF6 : Hid (∀ u ∈ l ++ [x * y * z], 0 ≤ u ∧ u ≤ 1000000000000) := fun u hu => by
          rcases List.mem_append.1 hu with hu | hu
          · exact WFL.out u hu
          · simp at hu; subst hu; omega
        clear hO6 hW6 A1 A2 A3
        go_wp2_with fail
        exact ⟨⟨k + 1, l ++ [x * y * z], by omega, by go_num, O6.out, by have := HLL.out; simp [this], WF6.out, B6⟩, by simp [intOf]; omega⟩
    · have hl5 : l.length ≤ 5 := by have := HLL.out; omega
      have qL := OWN.out.rd
      obtain ⟨AL, cL, rfl, hcL, hmL⟩ := qL.form
      unfold maxLen at hmL
      have wfl : Hid (Wf .i64 l) := fun u hu => WalkArith.wf_i64 (by have := WFL.out u hu; omega)
      go_wp2_with fail
      refine (at_any _ xs 0 _ _ _ rk F0.out b0 (by omega)).mono ?_
      rintro e w' ⟨rfl, rfl⟩
      go_wp2_with fail
      refine (implEnI _ l _ _ _ qL wfl.out (Nat.le_refl _) (by omega)).mono ?_
      rintro e w7 ⟨v7, rfl, o7, bel7⟩
      have s7 := bel7.size
      have B7 := bel.trans (bel7.mono sz)
      have q7 := o7.rd
      clear o7
      replace qL := qL.below bel7 (Nat.le_refl _)
      have hEl := encL_length l
      have hEw : Hid (Wf .u8 (encL l)) := by
        intro u hu
        unfold encL at hu
        obtain ⟨a, ha, hu⟩ := List.mem_flatten.1 hu
        obtain ⟨b, _, rfl⟩ := List.mem_map.1 ha
        exact uvE_wf _ u hu
      obtain ⟨A7, c7, rfl, hc7, hm7⟩ := q7.form
      unfold maxLen at hm7
      have HD1 := Lib.hid (decI_encL l WFL.out (by omega))
      have HD2 := Lib.hid (decI_more l WFL.out (by omega))
      go_wp2_with fail
      refine (implDeI _ (encL l) 0 l.length _ _ _ q7 hEw.out (by unfold In64; omega) (by unfold In64; omega) (Nat.le_refl _) (by omega)).mono ?_
      rw [HD1.out]
      rintro e w8 ⟨v8, rfl, o8, bel8⟩
      have s8 := bel8.size
      have B8 := B7.trans (bel8.mono (by omega))
      have q8 := o8.rd
      clear o8
      replace qL := qL.below bel8 (by omega)
      replace q7 := q7.below bel8 (by omega)
      go_wp2_with fail
      refine (implDeI _ (encL l) 0 ((l.length : Int) + 1) _ _ _ q7 hEw.out (by unfold In64; omega) (by unfold In64; omega) (by omega) (by omega)).mono ?_
      rw [HD2.out]
      rintro e w9 ⟨v9, rfl, -, bel9⟩
      have s9 := bel9.size
      have B9 := B8.trans (bel9.mono (by omega))
      replace qL := qL.below bel9 (by omega)
      replace q8 := q8.below bel9 (by omega)
      go_wp2_with fail
      refine (sameInts_same _ _ l _ _ _ _ _ q8 qL).mono ?_
      rintro e w10 ⟨rfl, bel10⟩
      have B10 := B9.trans (bel10.mono (by omega))
      clear q7 q8 qL
      go_wp2_with fail
      go_ret
      exact ⟨ret_bool (by simp), B10⟩
end Go.Proofs.Ythidfmheeblfeaa
