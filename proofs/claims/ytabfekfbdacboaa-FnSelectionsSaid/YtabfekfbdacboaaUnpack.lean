/- Selections out of their bytes, of the program and of the reference. -/
import Derived.Test.YtabfekfbdacboaaPack
import Derived.Test.YtabfekfbdacboaaSmall
namespace Go.Proofs.Ytabfekfbdacboaa
open Go.RowKit
set_option linter.unusedVariables false

/-- Bit i of the bytes behind the first one. -/
def bitAt (xs : List Int) (i : Nat) : Int := xs.getD (1 + i / 8) 0 / 2 ^ (i % 8) % 2
def bitsOf (xs : List Int) (n : Nat) : List Int := (List.range n).map (bitAt xs)
/-- The bytes have the form of a packed selection. -/
def Packed (xs : List Int) : Prop := 0 < xs.length ∧ xs.headD 0 ≤ 64 ∧ (xs.length : Int) = 1 + (xs.headD 0 + 7) / 8
instance (xs : List Int) : Decidable (Packed xs) := by unfold Packed; infer_instance
/-- What UnpackSelection gives. -/
def unpL (xs : List Int) : List Int × Bool :=
  if Packed xs ∧ packAll (bitsOf xs (xs.headD 0).toNat) = xs then (bitsOf xs (xs.headD 0).toNat, true) else ([], false)
theorem unpL_no {xs : List Int} (h : ¬ Packed xs) : unpL xs = ([], false) := if_neg (fun hh => h hh.1)
theorem unpL_bad {xs : List Int} {n : Nat} (hn : xs.headD 0 = n) (h : ¬ packAll (bitsOf xs n) = xs) : unpL xs = ([], false) := if_neg (fun hh => h (by rw [hn, Int.toNat_natCast] at hh; exact hh.2))
theorem unpL_yes {xs : List Int} {n : Nat} (hn : xs.headD 0 = n) (hp : Packed xs) (h : packAll (bitsOf xs n) = xs) : unpL xs = (bitsOf xs n, true) := by
  unfold unpL
  rw [hn, Int.toNat_natCast, if_pos ⟨hp, h⟩]
theorem bitsOf_length (xs : List Int) (n : Nat) : (bitsOf xs n).length = n := by simp [bitsOf]
theorem bitsOf_succ (xs : List Int) (n : Nat) : bitsOf xs (n + 1) = bitsOf xs n ++ [bitAt xs n] := by simp [bitsOf, List.range_succ]
theorem bitAt_bd (xs : List Int) (i : Nat) : 0 ≤ bitAt xs i ∧ bitAt xs i ≤ 1 := by unfold bitAt; omega
theorem bitsOf_wf (xs : List Int) (n : Nat) : Wf .i64 (bitsOf xs n) := by
  intro u hu
  unfold bitsOf at hu
  obtain ⟨i, _, rfl⟩ := List.mem_map.1 hu
  have := bitAt_bd xs i
  exact WalkArith.wf_i64 (by omega)
theorem unpL_le (xs : List Int) (f : Wf .u8 xs) : (unpL xs).1.length ≤ 64 := by
  unfold unpL
  split
  · rename_i h
    rw [bitsOf_length]
    have := h.1.2.1
    omega
  · simp
theorem packB_u8 (l : List Int) (h : ∀ x ∈ l, 0 ≤ x ∧ x ≤ 1) (hl : l.length ≤ 8) : 0 ≤ packB l ∧ packB l ≤ 255 := by
  have h1 := packB_bd l h
  have h2 : (2 : Int) ^ l.length ≤ 2 ^ 8 := by exact_mod_cast Nat.pow_le_pow_right (by decide) hl
  omega
theorem packAll_wf (v : List Int) : Wf .u8 (packAll v) := by
  by_cases s1 : isSel v v.length = true
  · rw [packAll_yes s1]
    obtain ⟨hb, h0, h1⟩ := isSel_iff s1
    intro u hu
    unfold packSt at hu
    rcases List.mem_cons.1 hu with rfl | hu
    · exact WalkArith.wf_u8 (by omega)
    · obtain ⟨j, _, rfl⟩ := List.mem_map.1 hu
      refine WalkArith.wf_u8 (packB_u8 _ (fun x hx => ?_) (by unfold chunk; rw [List.length_take]; omega))
      have hx' := List.mem_of_mem_take (List.mem_of_mem_drop (List.mem_of_mem_take hx))
      obtain ⟨i, hi, rfl⟩ := List.getElem_of_mem hx'
      exact bitsB_at hb hi
  · rw [packAll_no s1]
    intro u hu; cases hu
theorem head_get {xs : List Int} (h : 0 < xs.length) : xs.headD 0 = xs[0] := by
  cases xs with
  | nil => simp at h
  | cons x xs => rfl

set_option maxRecDepth 100000 in
set_option maxHeartbeats 1000000 in
theorem specUnp (v : Value) (xs : List Int) (w : World) (l h : Nat) (r : Rd .u8 w l h v xs) (f : Wf .u8 xs) (hh : h ≤ w.heap.size) :
    Calls Try.prog 18 #[v] w fun e w' => ∃ v', e = .returned (.tuple #[v', .bool (unpL xs).2]) ∧ Own .i64 3 w' w.heap.size v' (unpL xs).1 ∧ Below w.heap.size w w' := by
  obtain ⟨i0, hi, hz0, hz1, hz2⟩ := info_parts info_int
  obtain ⟨A, c, rfl, hc1, hc2⟩ := r.form
  unfold maxLen at hc2
  by_cases h0 : 0 < xs.length
  rotate_left
  · rw [unpL_no (fun hp : Packed xs => h0 hp.1)]
    obtain rfl : xs = [] := List.eq_nil_of_length_eq_zero (by omega)
    clear r
    go_enter Try.func18, Try.ntmps18
    go_wp2_with fail
    go_ret2
    exact ⟨_, rfl, Own.of_empty _ _ _ _ _, by first | exact Below.refl _ w | exact (Below.refl _ w).alloc (Nat.le_refl _) _⟩
  obtain ⟨x, hx⟩ : ∃ x, x = xs[0] := ⟨_, rfl⟩
  have hxb := bd8 (f _ (List.getElem_mem h0))
  rw [← hx] at hxb
  obtain ⟨x0, x1⟩ := hxb
  have hd : xs.headD 0 = x := by rw [head_get h0, hx]
  obtain ⟨A', c', e1, _, _, hr⟩ := id r
  obtain ⟨b, off, hA, _, hb, hcell⟩ := hr h0
  simp at e1
  obtain ⟨rfl, rfl⟩ := e1
  subst hA
  have d1 := hcell 0 x (by rw [hx]; simp [h0])
  have HD := Lib.hid hd
  have R := Lib.hid r
  have I0 : (0 : Int) < (xs.length : Int) := by omega
  have I1 : ((xs.length : Int) == 0) = false := by rw [beq_eq_false_iff_ne]; omega
  rw [Nat.add_zero] at d1
  clear hx hd hcell hr r
  by_cases h1 : 64 < x
  · rw [unpL_no (fun hp : Packed xs => by have h3 := hp.2.1; have h4 := HD.out; omega)]
    go_enter Try.func18, Try.ntmps18
    go_wp2_with fail
    go_ret2
    exact ⟨_, rfl, Own.of_empty _ _ _ _ _, by first | exact Below.refl _ w | exact (Below.refl _ w).alloc (Nat.le_refl _) _⟩
  have E1 : (x + 7).tdiv 8 = (x + 7) / 8 := Int.tdiv_eq_ediv_of_nonneg (by omega)
  by_cases h2 : (xs.length : Int) = 1 + (x + 7) / 8
  rotate_left
  · rw [unpL_no (fun hp : Packed xs => by have := hp.2.2; rw [HD.out] at this; omega)]
    have I2 : ((xs.length : Int) != 1 + (x + 7) / 8) = true := by simp; omega
    go_enter Try.func18, Try.ntmps18
    go_wp2_with fail
    go_ret2
    exact ⟨_, rfl, Own.of_empty _ _ _ _ _, by first | exact Below.refl _ w | exact (Below.refl _ w).alloc (Nat.le_refl _) _⟩
  have HPK : Hid (Packed xs) := ⟨h0, by rw [HD.out]; omega, by rw [HD.out]; exact h2⟩
  have I2 : ((xs.length : Int) != 1 + (x + 7) / 8) = false := by simp; omega
  have H2 := Lib.hid h2
  clear h2
  obtain ⟨n, rfl⟩ := Int.eq_ofNat_of_zero_le x0
  have hn : n ≤ 64 := by omega
  go_enter Try.func18, Try.ntmps18
  go_wp2_with fail
  go_loopw [4, 5] (fun o i wr => ∃ k : Nat, k ≤ n ∧ i = .int .i64 k ∧ Own .i64 3 wr w.heap.size o (bitsOf xs k) ∧ Below w.heap.size w wr) (fun _ i _ => n - (intOf i).toNat)
  case atStart => exact ⟨0, Nat.zero_le _, rfl, Own.of_empty _ _ _ _ _, (Below.refl _ w).alloc (Nat.le_refl _) _⟩
  case round =>
    obtain ⟨k, hk, rfl, own, bel⟩ := hrel
    have sz := bel.size
    have OWN := Lib.hid own
    clear own
    have rk := R.out.below bel hh
    obtain ⟨A', c', e1, _, _, hr⟩ := rk
    obtain ⟨b', off', hA, _, hb', hcell⟩ := hr h0
    simp at e1
    obtain ⟨e1, rfl⟩ := e1
    rw [← e1] at hA
    simp at hA
    obtain ⟨rfl, rfl⟩ := hA
    have d2 : wr.cell? ⟨b, off, none⟩ = some (.int .u8 (n : Int)) := by
      have := hcell 0 xs[0] (by simp [h0])
      rw [Nat.add_zero, ← head_get h0, HD.out] at this
      exact this
    clear e1 hr d1
    by_cases hlt : k < n
    · have hq : 1 + k / 8 < xs.length := by have := H2.out; omega
      have HBT : Hid (bitAt xs k = xs[1 + k / 8] / 2 ^ (k % 8) % 2) := by
        unfold Hid bitAt
        rw [List.getD_eq_getElem?_getD, List.getElem?_eq_getElem hq]; rfl
      have d3 := hcell (1 + k / 8) xs[1 + k / 8] (by simp [hq])
      have hyb := bd8 (f _ (List.getElem_mem hq))
      generalize xs[1 + k / 8] = y at HBT d3 hyb
      obtain ⟨y0, y1⟩ := hyb
      have p0 : (0 : Int) < 2 ^ (k % 8) := Int.pow_pos (by decide)
      have q0 : 0 ≤ y / 2 ^ (k % 8) := Int.ediv_nonneg y0 (by omega)
      have q1 : y / 2 ^ (k % 8) ≤ y := Int.ediv_le_self _ y0
      have HB : Hid (bits .and .i64 (y / 2 ^ (k % 8)) 1 = bitAt xs k) := by
        unfold Hid; rw [HBT.out]; exact and1 _ q0 (by omega)
      have HBL := Lib.hid (bitsOf_length xs k)
      have hA : (bitsOf xs k).length + [bitAt xs k].length ≤ maxLen := by rw [HBL.out]; simp [maxLen]; omega
      have hB : ((bitsOf xs k).length + [bitAt xs k].length) * 8 ≤ 140737488355328 := by rw [HBL.out]; simp; omega
      clear hcell q0 q1 p0
      go_wp2_with (at_builtin; rw [HB.out]; refine wpList_append_Own _ rfl (.tmp 38) (.tmp 50) 24 rfl w.heap.size 3 i0 (.int .i64 0) .i64 8 Try.underlying24 hi hz0 hz1 hz2 rfl _ _ rfl (OWN.out.alloc _) _ _ _ [bitAt xs k] rfl (Own.lit1 .i64 3 _ 0 _ (Nat.zero_le _)).rd hA hB (by simp; omega) ?_)
      all_goals
        intro v2 w2 hO2 hW2
        have b2 : Below w.heap.size w w2 := hW2.below (bel.alloc sz _) (Nat.le_refl _) (by simp; omega)
        rw [← bitsOf_succ] at hO2
        have O2 := Lib.hid hO2
        clear hO2 hW2
        go_wp2_with fail
        exact ⟨⟨k + 1, by omega, by go_num, O2.out, b2⟩, by simp [intOf]; omega⟩
    · obtain rfl : k = n := by omega
      have hge : ¬ (k : Int) < (k : Int) := by omega
      have HBL := Lib.hid (bitsOf_length xs k)
      clear hcell
      go_wp2_with fail
      refine (specPack _ _ _ _ _ OWN.out.rd (bitsOf_wf xs k) (Nat.le_refl _) (by rw [HBL.out]; omega)).mono ?_
      rintro e w2 ⟨v2, rfl, o2, bel2⟩
      have B2 := bel.trans (bel2.mono sz)
      have s2 := bel2.size
      have OWN2 := Lib.hid (OWN.out.below bel2 (Nat.le_refl _))
      go_wp2_with fail
      refine (ofQuiet (specEqualBytes _ _ _ xs _ _ _ _ _ o2.rd (R.out.below B2 hh) (packAll_wf _) f)).mono ?_
      rintro e w3 ⟨rfl, bel3⟩
      have B3 := B2.trans (bel3.mono (by omega))
      have OWN3 := Lib.hid (OWN2.out.below bel3 (Nat.le_refl _))
      by_cases hp : packAll (bitsOf xs k) = xs
      · have HU := Lib.hid (unpL_yes HD.out HPK.out hp)
        rw [decide_eq_true hp]
        clear hp OWN OWN2 bel2 bel3 o2
        go_wp2_with fail
        go_ret2
        exact ⟨_, by rw [HU.out]; rfl, by rw [HU.out]; exact OWN3.out, B3⟩
      · have HU := Lib.hid (unpL_bad HD.out hp)
        rw [decide_eq_false hp]
        clear hp OWN OWN2 OWN3 bel2 bel3 o2
        go_wp2_with fail
        go_ret2
        exact ⟨_, by rw [HU.out]; rfl, by rw [HU.out]; exact Own.of_empty _ _ _ _ _, by first | exact B3 | exact B3.alloc (by have := B3.size; omega) _⟩
set_option maxRecDepth 100000 in
set_option maxHeartbeats 1000000 in
theorem implUnp (v : Value) (xs : List Int) (w : World) (l h : Nat) (r : Rd .u8 w l h v xs) (f : Wf .u8 xs) (hh : h ≤ w.heap.size) :
    Calls Try.prog 12 #[v] w fun e w' => ∃ v', e = .returned (.tuple #[v', .bool (unpL xs).2]) ∧ Own .i64 3 w' w.heap.size v' (unpL xs).1 ∧ Below w.heap.size w w' := by
  obtain ⟨i0, hi, hz0, hz1, hz2⟩ := info_parts info_int
  obtain ⟨A, c, rfl, hc1, hc2⟩ := r.form
  unfold maxLen at hc2
  by_cases h0 : 0 < xs.length
  rotate_left
  · rw [unpL_no (fun hp : Packed xs => h0 hp.1)]
    obtain rfl : xs = [] := List.eq_nil_of_length_eq_zero (by omega)
    clear r
    go_enter Try.func12, Try.ntmps12
    go_wp2_with fail
    go_ret2
    exact ⟨_, rfl, Own.of_empty _ _ _ _ _, by first | exact Below.refl _ w | exact (Below.refl _ w).alloc (Nat.le_refl _) _⟩
  obtain ⟨x, hx⟩ : ∃ x, x = xs[0] := ⟨_, rfl⟩
  have hxb := bd8 (f _ (List.getElem_mem h0))
  rw [← hx] at hxb
  obtain ⟨x0, x1⟩ := hxb
  have hd : xs.headD 0 = x := by rw [head_get h0, hx]
  obtain ⟨A', c', e1, _, _, hr⟩ := id r
  obtain ⟨b, off, hA, _, hb, hcell⟩ := hr h0
  simp at e1
  obtain ⟨rfl, rfl⟩ := e1
  subst hA
  have d1 := hcell 0 x (by rw [hx]; simp [h0])
  have HD := Lib.hid hd
  have R := Lib.hid r
  have I0 : (0 : Int) < (xs.length : Int) := by omega
  have I1 : ((xs.length : Int) == 0) = false := by rw [beq_eq_false_iff_ne]; omega
  rw [Nat.add_zero] at d1
  clear hx hd hcell hr r
  by_cases h1 : 64 < x
  · rw [unpL_no (fun hp : Packed xs => by have h3 := hp.2.1; have h4 := HD.out; omega)]
    go_enter Try.func12, Try.ntmps12
    go_wp2_with fail
    go_ret2
    exact ⟨_, rfl, Own.of_empty _ _ _ _ _, by first | exact Below.refl _ w | exact (Below.refl _ w).alloc (Nat.le_refl _) _⟩
  have E1 : (x + 7).tdiv 8 = (x + 7) / 8 := Int.tdiv_eq_ediv_of_nonneg (by omega)
  by_cases h2 : (xs.length : Int) = 1 + (x + 7) / 8
  rotate_left
  · rw [unpL_no (fun hp : Packed xs => by have := hp.2.2; rw [HD.out] at this; omega)]
    have I2 : ((xs.length : Int) != 1 + (x + 7) / 8) = true := by simp; omega
    go_enter Try.func12, Try.ntmps12
    go_wp2_with fail
    go_ret2
    exact ⟨_, rfl, Own.of_empty _ _ _ _ _, by first | exact Below.refl _ w | exact (Below.refl _ w).alloc (Nat.le_refl _) _⟩
  have HPK : Hid (Packed xs) := ⟨h0, by rw [HD.out]; omega, by rw [HD.out]; exact h2⟩
  have I2 : ((xs.length : Int) != 1 + (x + 7) / 8) = false := by simp; omega
  have H2 := Lib.hid h2
  clear h2
  obtain ⟨n, rfl⟩ := Int.eq_ofNat_of_zero_le x0
  have hn : n ≤ 64 := by omega
  have d0 : (w.alloc (.cells #[] 3)).cell? ⟨b, off, none⟩ = some (.int .u8 (n : Int)) := (((Below.refl _ w).alloc (Nat.le_refl _) (.cells #[] 3)).cell (p := ⟨b, off, none⟩) (by show b < w.heap.size; omega)).trans d1
  go_enter Try.func12, Try.ntmps12
  go_wp2_with fail
  go_loopw [4, 33] (fun o i wr => ∃ k : Nat, k ≤ n ∧ i = .int .i64 k ∧ Own .i64 3 wr w.heap.size o (bitsOf xs k) ∧ Below w.heap.size w wr) (fun _ i _ => n - (intOf i).toNat)
  case atStart => exact ⟨0, Nat.zero_le _, rfl, Own.of_empty _ _ _ _ _, (Below.refl _ w).alloc (Nat.le_refl _) _⟩
  case round =>
    obtain ⟨k, hk, rfl, own, bel⟩ := hrel
    have sz := bel.size
    have OWN := Lib.hid own
    clear own
    have rk := R.out.below bel hh
    obtain ⟨A', c', e1, _, _, hr⟩ := rk
    obtain ⟨b', off', hA, _, hb', hcell⟩ := hr h0
    simp at e1
    obtain ⟨e1, rfl⟩ := e1
    rw [← e1] at hA
    simp at hA
    obtain ⟨rfl, rfl⟩ := hA
    have d2 : wr.cell? ⟨b, off, none⟩ = some (.int .u8 (n : Int)) := by
      have := hcell 0 xs[0] (by simp [h0])
      rw [Nat.add_zero, ← head_get h0, HD.out] at this
      exact this
    clear e1 hr d1 d0
    by_cases hlt : k < n
    · have hq : 1 + k / 8 < xs.length := by have := H2.out; omega
      have HBT : Hid (bitAt xs k = xs[1 + k / 8] / 2 ^ (k % 8) % 2) := by
        unfold Hid bitAt
        rw [List.getD_eq_getElem?_getD, List.getElem?_eq_getElem hq]; rfl
      have d3 := hcell (1 + k / 8) xs[1 + k / 8] (by simp [hq])
      have hyb := bd8 (f _ (List.getElem_mem hq))
      generalize xs[1 + k / 8] = y at HBT d3 hyb
      obtain ⟨y0, y1⟩ := hyb
      have p0 : (0 : Int) < 2 ^ (k % 8) := Int.pow_pos (by decide)
      have q0 : 0 ≤ y / 2 ^ (k % 8) := Int.ediv_nonneg y0 (by omega)
      have q1 : y / 2 ^ (k % 8) ≤ y := Int.ediv_le_self _ y0
      have HB : Hid (bits .and .i64 (y / 2 ^ (k % 8)) 1 = bitAt xs k) := by
        unfold Hid; rw [HBT.out]; exact and1 _ q0 (by omega)
      have HBL := Lib.hid (bitsOf_length xs k)
      have hA : (bitsOf xs k).length + [bitAt xs k].length ≤ maxLen := by rw [HBL.out]; simp [maxLen]; omega
      have hB : ((bitsOf xs k).length + [bitAt xs k].length) * 8 ≤ 140737488355328 := by rw [HBL.out]; simp; omega
      clear hcell q0 q1 p0
      go_wp2_with (at_builtin; rw [HB.out]; refine wpList_append_Own _ rfl (.tmp 36) (.tmp 48) 24 rfl w.heap.size 3 i0 (.int .i64 0) .i64 8 Try.underlying24 hi hz0 hz1 hz2 rfl _ _ rfl (OWN.out.alloc _) _ _ _ [bitAt xs k] rfl (Own.lit1 .i64 3 _ 0 _ (Nat.zero_le _)).rd hA hB (by simp; omega) ?_)
      all_goals
        intro v2 w2 hO2 hW2
        have b2 : Below w.heap.size w w2 := hW2.below (bel.alloc sz _) (Nat.le_refl _) (by simp; omega)
        rw [← bitsOf_succ] at hO2
        have O2 := Lib.hid hO2
        clear hO2 hW2
        go_wp2_with fail
        exact ⟨⟨k + 1, by omega, by go_num, O2.out, b2⟩, by simp [intOf]; omega⟩
    · obtain rfl : k = n := by omega
      have hge : ¬ (k : Int) < (k : Int) := by omega
      have HBL := Lib.hid (bitsOf_length xs k)
      clear hcell
      go_wp2_with fail
      refine (implPack _ _ _ _ _ OWN.out.rd (bitsOf_wf xs k) (Nat.le_refl _) (by rw [HBL.out]; omega)).mono ?_
      rintro e w2 ⟨v2, rfl, o2, bel2⟩
      have B2 := bel.trans (bel2.mono sz)
      have s2 := bel2.size
      have OWN2 := Lib.hid (OWN.out.below bel2 (Nat.le_refl _))
      go_wp2_with fail
      refine (ofQuiet (slicesEqualu8 _ _ _ xs _ _ _ _ _ o2.rd (R.out.below B2 hh))).mono ?_
      rintro e w3 ⟨rfl, bel3⟩
      have B3 := B2.trans (bel3.mono (by omega))
      have OWN3 := Lib.hid (OWN2.out.below bel3 (Nat.le_refl _))
      by_cases hp : packAll (bitsOf xs k) = xs
      · have HU := Lib.hid (unpL_yes HD.out HPK.out hp)
        rw [decide_eq_true hp]
        clear hp OWN OWN2 bel2 bel3 o2
        go_wp2_with fail
        go_ret2
        exact ⟨_, by rw [HU.out]; rfl, by rw [HU.out]; exact OWN3.out, B3⟩
      · have HU := Lib.hid (unpL_bad HD.out hp)
        rw [decide_eq_false hp]
        clear hp OWN OWN2 OWN3 bel2 bel3 o2
        go_wp2_with fail
        go_ret2
        exact ⟨_, by rw [HU.out]; rfl, by rw [HU.out]; exact Own.of_empty _ _ _ _ _, by first | exact B3 | exact B3.alloc (by have := B3.size; omega) _⟩
end Go.Proofs.Ytabfekfbdacboaa
