/- Unit selections, sums of selections, and bytes as integers, of the program and of the reference. -/
import Derived.Test.YtfbahbpddhakmaaSel
import Derived.Test.YtfbahbpddhakmaaConcat
import Derived.Test.YtfbahbpddhakmaaStep
import Derived.Test.YtfbahbpddhakmaaMark
namespace Go.Proofs.Ytfbahbpddhakmaa
open Go.RowKit
set_option linter.unusedVariables false

/-- What UnitSelection gives. -/
def unitL (n i : Int) : List Int := if (1 ≤ n ∧ n ≤ 64) ∧ (0 ≤ i ∧ i ≤ n - 1) then (List.replicate n.toNat 0).set i.toNat 1 else []
theorem unitL_yes {n i : Int} (h : (1 ≤ n ∧ n ≤ 64) ∧ (0 ≤ i ∧ i ≤ n - 1)) : unitL n i = (List.replicate n.toNat 0).set i.toNat 1 := if_pos h
theorem unitL_no {n i : Int} (h : ¬ ((1 ≤ n ∧ n ≤ 64) ∧ (0 ≤ i ∧ i ≤ n - 1))) : unitL n i = [] := if_neg h
theorem unitL_le (n i : Int) : (unitL n i).length ≤ 64 := by
  unfold unitL
  split
  · simp; omega
  · simp


set_option maxRecDepth 100000 in
theorem specB2I (v : Value) (xs : List Int) (w : World) (l h : Nat) (r : Rd .u8 w l h v xs) (f : Wf .u8 xs) (hh : h ≤ w.heap.size) (hl : xs.length ≤ 1048576) :
    Calls Try.prog 53 #[v] w fun e w' => ∃ v', e = .returned v' ∧ Own .i64 3 w' w.heap.size v' ((xs.length : Int) :: xs) ∧ Below w.heap.size w w' := by
  obtain ⟨i0, hi, hz0, hz1, hz2⟩ := info_parts info_int
  obtain ⟨A, c, rfl, hc1, hc2⟩ := r.form
  unfold maxLen at hc2
  go_enter Try.func53, Try.ntmps53
  go_wp2_with fail
  go_loopw [3, 4] (fun o i wr => ∃ k : Nat, k ≤ xs.length ∧ i = .int .i64 k ∧ Own .i64 3 wr w.heap.size o ((xs.length : Int) :: xs.take k) ∧ Below w.heap.size w wr) (fun _ i _ => xs.length - (intOf i).toNat)
  case atStart => exact ⟨0, Nat.zero_le _, rfl, Own.lit1 _ _ _ _ _ (Nat.le_refl _), (Below.refl _ w).alloc (Nat.le_refl _) _⟩
  case round =>
    obtain ⟨k, hk, rfl, own, bel⟩ := hrel
    have sz := bel.size
    by_cases hlt : k < xs.length
    · have r' := r.below bel hh
      obtain ⟨A', c', e1, _, _, hr'⟩ := r'
      obtain ⟨b, off, hA, _, hb, hcell⟩ := hr' (by omega)
      simp at e1
      obtain ⟨rfl, rfl⟩ := e1
      subst hA
      obtain ⟨x, hx⟩ : ∃ x, x = xs[k] := ⟨_, rfl⟩
      have c1 := hcell k x (by rw [hx]; simp [hlt])
      have hxb := bd8 (f _ (List.getElem_mem hlt))
      rw [← hx] at hxb
      obtain ⟨x0, x1⟩ := hxb
      have HT : Hid ((xs.length : Int) :: xs.take (k + 1) = ((xs.length : Int) :: xs.take k) ++ [x]) := by
        unfold Hid
        rw [List.take_succ_eq_append_getElem hlt, hx]; rfl
      have hol : ((xs.length : Int) :: xs.take k).length ≤ 1048577 := by rw [List.length_cons, List.length_take]; omega
      have hA : ((xs.length : Int) :: xs.take k).length + 1 ≤ maxLen := by simp only [maxLen]; omega
      have hB : (((xs.length : Int) :: xs.take k).length + 1) * 8 ≤ 140737488355328 := by omega
      clear hcell hr' r hx hol
      go_wp2_with (at_builtin; refine wpList_append_Own _ rfl (.tmp 14) (.tmp 20) 22 rfl w.heap.size 3 i0 (.int .i64 0) .i64 8 Try.underlying22 hi hz0 hz1 hz2 rfl _ _ rfl (own.alloc _) _ _ _ [x] rfl (Own.lit1 .i64 3 _ 0 x (Nat.zero_le _)).rd hA hB ?_ ?_)
      · simp; omega
      · intro v2 w2 hO2 hW2
        have b2 := Lib.hid (hW2.below (bel.alloc sz _) (Nat.le_refl _) (by simp; omega))
        have hO3 : Own .i64 3 w2 w.heap.size v2 ((xs.length : Int) :: xs.take (k + 1)) := by rw [HT.out]; exact hO2
        have O2 := Lib.hid hO3
        clear hO2 hO3 hW2 own bel hA hB
        go_wp2_with fail
        go_roundw
        case rel => exact ⟨k + 1, by omega, by go_num, O2.out, b2.out⟩
        case measure => simp [intOf]; omega
    · have O := Lib.hid own
      clear own r
      go_wp2_with fail
      go_ret
      have h1 := O.out
      rw [List.take_of_length_le (by omega)] at h1
      exact ⟨_, rfl, h1, bel⟩
set_option maxRecDepth 100000 in
theorem implB2I (v : Value) (xs : List Int) (w : World) (l h : Nat) (r : Rd .u8 w l h v xs) (f : Wf .u8 xs) (hh : h ≤ w.heap.size) (hl : xs.length ≤ 1048576) :
    Calls Try.prog 55 #[v] w fun e w' => ∃ v', e = .returned v' ∧ Own .i64 3 w' w.heap.size v' ((xs.length : Int) :: xs) ∧ Below w.heap.size w w' := by
  obtain ⟨i0, hi, hz0, hz1, hz2⟩ := info_parts info_int
  obtain ⟨A, c, rfl, hc1, hc2⟩ := r.form
  unfold maxLen at hc2
  go_enter Try.func55, Try.ntmps55
  go_wp2_with fail
  go_loopw [3, 5, 11] (fun o _ i wr => ∃ k : Nat, k ≤ xs.length ∧ i = .int .i64 k ∧ Own .i64 3 wr w.heap.size o ((xs.length : Int) :: xs.take k) ∧ Below w.heap.size w wr) (fun _ _ i _ => xs.length - (intOf i).toNat)
  case atStart => exact ⟨0, Nat.zero_le _, rfl, Own.lit1 _ _ _ _ _ (Nat.le_refl _), (Below.refl _ w).alloc (Nat.le_refl _) _⟩
  case round =>
    obtain ⟨k, hk, rfl, own, bel⟩ := hrel
    have sz := bel.size
    by_cases hlt : k < xs.length
    · have r' := r.below bel hh
      obtain ⟨A', c', e1, _, _, hr'⟩ := r'
      obtain ⟨b, off, hA, _, hb, hcell⟩ := hr' (by omega)
      simp at e1
      obtain ⟨rfl, rfl⟩ := e1
      subst hA
      obtain ⟨x, hx⟩ : ∃ x, x = xs[k] := ⟨_, rfl⟩
      have c1 := hcell k x (by rw [hx]; simp [hlt])
      have hxb := bd8 (f _ (List.getElem_mem hlt))
      rw [← hx] at hxb
      obtain ⟨x0, x1⟩ := hxb
      have HT : Hid ((xs.length : Int) :: xs.take (k + 1) = ((xs.length : Int) :: xs.take k) ++ [x]) := by
        unfold Hid
        rw [List.take_succ_eq_append_getElem hlt, hx]; rfl
      have hol : ((xs.length : Int) :: xs.take k).length ≤ 1048577 := by rw [List.length_cons, List.length_take]; omega
      have hA : ((xs.length : Int) :: xs.take k).length + 1 ≤ maxLen := by simp only [maxLen]; omega
      have hB : (((xs.length : Int) :: xs.take k).length + 1) * 8 ≤ 140737488355328 := by omega
      clear hcell hr' r hx hol
      go_wp2_with (at_builtin; refine wpList_append_Own _ rfl (.tmp 15) (.tmp 18) 22 rfl w.heap.size 3 i0 (.int .i64 0) .i64 8 Try.underlying22 hi hz0 hz1 hz2 rfl _ _ rfl (own.alloc _) _ _ _ [x] rfl (Own.lit1 .i64 3 _ 0 x (Nat.zero_le _)).rd hA hB ?_ ?_)
      · simp; omega
      · intro v2 w2 hO2 hW2
        have b2 := Lib.hid (hW2.below (bel.alloc sz _) (Nat.le_refl _) (by simp; omega))
        have hO3 : Own .i64 3 w2 w.heap.size v2 ((xs.length : Int) :: xs.take (k + 1)) := by rw [HT.out]; exact hO2
        have O2 := Lib.hid hO3
        clear hO2 hO3 hW2 own bel hA hB
        go_wp2_with fail
        go_roundw
        case rel => exact ⟨k + 1, by omega, by go_num, O2.out, b2.out⟩
        case measure => simp [intOf]; omega
    · have O := Lib.hid own
      clear own r
      go_wp2_with fail
      go_ret
      have h1 := O.out
      rw [List.take_of_length_le (by omega)] at h1
      exact ⟨_, rfl, h1, bel⟩

/-- The sum of two selections. -/
def xorS (xs ys : List Int) : List Int := List.zipWith (fun x y => bits .xor .i64 x y) xs ys
/-- What XorSelections gives. -/
def xorSel (xs ys : List Int) : List Int := if isSel xs xs.length = true ∧ isSel ys xs.length = true then xorS xs ys else []
theorem xorSel_yes {xs ys : List Int} (h1 : isSel xs xs.length = true) (h2 : isSel ys xs.length = true) : xorSel xs ys = xorS xs ys := if_pos ⟨h1, h2⟩
theorem xorSel_no1 {xs ys : List Int} (h1 : ¬ isSel xs xs.length = true) : xorSel xs ys = [] := if_neg fun h => h1 h.1
theorem xorSel_no2 {xs ys : List Int} (h1 : ¬ isSel ys xs.length = true) : xorSel xs ys = [] := if_neg fun h => h1 h.2
theorem xorS_take (xs ys : List Int) (k : Nat) (h1 : k < xs.length) (h2 : k < ys.length) : xorS (xs.take (k + 1)) (ys.take (k + 1)) = xorS (xs.take k) (ys.take k) ++ [bits .xor .i64 xs[k] ys[k]] := by
  rw [List.take_succ_eq_append_getElem h1, List.take_succ_eq_append_getElem h2]
  unfold xorS
  rw [List.zipWith_append (by simp; omega)]
  rfl
theorem xorS_length (xs ys : List Int) (h : xs.length = ys.length) : (xorS xs ys).length = xs.length := by simp [xorS, h]
theorem xorSel_le (xs ys : List Int) : (xorSel xs ys).length ≤ xs.length := by
  unfold xorSel
  split
  · simp [xorS]; omega
  · simp

end Go.Proofs.Ytfbahbpddhakmaa
