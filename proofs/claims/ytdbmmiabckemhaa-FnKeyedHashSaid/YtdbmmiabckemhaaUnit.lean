/- Unit selections, sums of selections, and bytes as integers, of the program and of the reference. -/
import Derived.Test.YtdbmmiabckemhaaSel
import Derived.Test.YtdbmmiabckemhaaConcat
import Derived.Test.YtdbmmiabckemhaaStep
import Derived.Test.YtdbmmiabckemhaaMark
namespace Go.Proofs.Ytdbmmiabckemhaa
open Go.RowKit
set_option linter.unusedVariables false

/-- What UnitSelection gives. -/
def unitL (n i : Int) : List Int := if (1 ≤ n ∧ n ≤ 64) ∧ (0 ≤ i ∧ i ≤ n - 1) then (List.replicate n.toNat 0).set i.toNat 1 else []
theorem unitL_yes {n i : Int} (h : (1 ≤ n ∧ n ≤ 64) ∧ (0 ≤ i ∧ i ≤ n - 1)) : unitL n i = (List.replicate n.toNat 0).set i.toNat 1 := if_pos h
theorem unitL_no {n i : Int} (h : ¬ ((1 ≤ n ∧ n ≤ 64) ∧ (0 ≤ i ∧ i ≤ n - 1))) : unitL n i = [] := if_neg h
theorem unitL_le (n i : Int) : (unitL n i).length ≤ 64 := by
  unfold unitL
  split
  · simp; omega
  · simp

set_option maxRecDepth 100000 in
theorem specUnit (n i : Int) (w : World) (hn : In64 n) (hi' : In64 i) :
    Calls Try.prog 19 #[.int .i64 n, .int .i64 i] w fun e w' => ∃ v', e = .returned v' ∧ Own .i64 3 w' w.heap.size v' (unitL n i) ∧ Below w.heap.size w w' := by
  obtain ⟨i0, hi, hz0, hz1, hz2⟩ := info_parts info_int
  by_cases h1 : 1 ≤ n ∧ n ≤ 64
  rotate_left
  · have HE := Lib.hid (unitL_no (n := n) (i := i) (fun h => h1 h.1))
    have H1 := Lib.hid h1
    clear h1
    go_enter Try.func19, Try.ntmps19
    go_wp2_with (go_at_call 57; refine (l1In_no _ _ _ _ H1.out).mono ?_; rintro e w' ⟨rfl, rfl⟩)
    go_ret
    exact ⟨_, rfl, by rw [HE.out]; exact Own.of_empty _ _ _ _ _, by first | exact Below.refl _ _ | exact (Below.refl _ w).alloc (Nat.le_refl _) _⟩
  obtain ⟨n1, n2⟩ := h1
  by_cases h2 : 0 ≤ i ∧ i ≤ n - 1
  rotate_left
  · have HE := Lib.hid (unitL_no (n := n) (i := i) (fun h => h2 h.2))
    have H2 := Lib.hid h2
    clear h2
    go_enter Try.func19, Try.ntmps19
    go_wp2_with fail
    refine (l1In_yes _ _ _ _ n1 n2).mono ?_
    rintro e w' ⟨rfl, rfl⟩
    go_wp2_with fail
    refine (l1In_no _ _ _ _ H2.out).mono ?_
    rintro e w' ⟨rfl, rfl⟩
    go_wp2_with fail
    go_ret
    exact ⟨_, rfl, by rw [HE.out]; exact Own.of_empty _ _ _ _ _, by first | exact Below.refl _ _ | exact (Below.refl _ w).alloc (Nat.le_refl _) _⟩
  · obtain ⟨m1, m2⟩ := h2
    have HE := Lib.hid (unitL_yes ⟨⟨n1, n2⟩, m1, m2⟩)
    obtain ⟨N, rfl⟩ := Int.eq_ofNat_of_zero_le (show 0 ≤ n by omega)
    obtain ⟨I, rfl⟩ := Int.eq_ofNat_of_zero_le m1
    have hI : I < N := by omega
    go_enter Try.func19, Try.ntmps19
    go_wp2_with fail
    refine (l1In_yes _ _ _ _ n1 n2).mono ?_
    rintro e w' ⟨rfl, rfl⟩
    go_wp2_with fail
    refine (l1In_yes _ _ _ _ m1 m2).mono ?_
    rintro e w' ⟨rfl, rfl⟩
    go_wp2_with (at_make; refine wpList_make_full _ rfl _ _ 22 rfl w.heap.size 3 i0 (.int .i64 0) 1 Try.underlying22 hi hz0 hz1 _ _ _ _ N rfl rfl rfl rfl ?_ ?_ ?_ ?_)
    · rw [hz2]; omega
    · unfold maxLen; omega
    · exact Nat.le_refl _
    · intro w1 hown hg
      have own0 : w1.ownsRow w.heap.size 3 1 (.slice (some ⟨w.heap.size, 0, none⟩) N N) N ((List.replicate N 0).map (.int .i64)) := by
        rw [List.map_replicate]
        have e := toList_madeCells_one (.int .i64 0) N
        simpa [Value.cells, e] using hown
      have bel0 : Below w.heap.size w w1 := (Below.refl _ _).grown hg (Nat.le_refl _) (fun _ h => by cases h)
      have c2 : w1.cell? ⟨w.heap.size, I, none⟩ = some (.int .i64 0) := by
        rw [own0.cellAt I (by omega)]
        simp [hI]
      have c3 := own0.frozenAt I
      have st := (own0.stored I (.int .i64 1)).1
      rw [map_set] at st
      have ST := Lib.hid st
      clear hown hg hi hz0 hz1 hz2 own0 st
      go_wp2_with fail
      go_ret
      refine ⟨_, rfl, .inl ?_, bel0.setCell (Nat.le_refl _) _⟩
      have h := ST.out
      rw [HE.out, Int.toNat_natCast, Int.toNat_natCast, List.length_set, List.length_replicate]
      exact h
set_option maxRecDepth 100000 in
theorem implUnit (n i : Int) (w : World) (hn : In64 n) (hi' : In64 i) :
    Calls Try.prog 20 #[.int .i64 n, .int .i64 i] w fun e w' => ∃ v', e = .returned v' ∧ Own .i64 3 w' w.heap.size v' (unitL n i) ∧ Below w.heap.size w w' := by
  obtain ⟨i0, hi, hz0, hz1, hz2⟩ := info_parts info_int
  by_cases h1 : 1 ≤ n ∧ n ≤ 64
  rotate_left
  · have HE := Lib.hid (unitL_no (n := n) (i := i) (fun h => h1 h.1))
    have H1 := Lib.hid h1
    clear h1
    go_enter Try.func20, Try.ntmps20
    go_wp2_with (go_at_call 58; refine (inRange_no _ _ _ _ H1.out).mono ?_; rintro e w' ⟨rfl, rfl⟩)
    go_ret
    exact ⟨_, rfl, by rw [HE.out]; exact Own.of_empty _ _ _ _ _, by first | exact Below.refl _ _ | exact (Below.refl _ w).alloc (Nat.le_refl _) _⟩
  obtain ⟨n1, n2⟩ := h1
  by_cases h2 : 0 ≤ i ∧ i ≤ n - 1
  rotate_left
  · have HE := Lib.hid (unitL_no (n := n) (i := i) (fun h => h2 h.2))
    have H2 := Lib.hid h2
    clear h2
    go_enter Try.func20, Try.ntmps20
    go_wp2_with fail
    refine (inRange_yes _ _ _ _ n1 n2).mono ?_
    rintro e w' ⟨rfl, rfl⟩
    go_wp2_with fail
    refine (inRange_no _ _ _ _ H2.out).mono ?_
    rintro e w' ⟨rfl, rfl⟩
    go_wp2_with fail
    go_ret
    exact ⟨_, rfl, by rw [HE.out]; exact Own.of_empty _ _ _ _ _, by first | exact Below.refl _ _ | exact (Below.refl _ w).alloc (Nat.le_refl _) _⟩
  · obtain ⟨m1, m2⟩ := h2
    have HE := Lib.hid (unitL_yes ⟨⟨n1, n2⟩, m1, m2⟩)
    obtain ⟨N, rfl⟩ := Int.eq_ofNat_of_zero_le (show 0 ≤ n by omega)
    obtain ⟨I, rfl⟩ := Int.eq_ofNat_of_zero_le m1
    have hI : I < N := by omega
    go_enter Try.func20, Try.ntmps20
    go_wp2_with fail
    refine (inRange_yes _ _ _ _ n1 n2).mono ?_
    rintro e w' ⟨rfl, rfl⟩
    go_wp2_with fail
    refine (inRange_yes _ _ _ _ m1 m2).mono ?_
    rintro e w' ⟨rfl, rfl⟩
    go_wp2_with (at_make; refine wpList_make_full _ rfl _ _ 22 rfl w.heap.size 3 i0 (.int .i64 0) 1 Try.underlying22 hi hz0 hz1 _ _ _ _ N rfl rfl rfl rfl ?_ ?_ ?_ ?_)
    · rw [hz2]; omega
    · unfold maxLen; omega
    · exact Nat.le_refl _
    · intro w1 hown hg
      have own0 : w1.ownsRow w.heap.size 3 1 (.slice (some ⟨w.heap.size, 0, none⟩) N N) N ((List.replicate N 0).map (.int .i64)) := by
        rw [List.map_replicate]
        have e := toList_madeCells_one (.int .i64 0) N
        simpa [Value.cells, e] using hown
      have bel0 : Below w.heap.size w w1 := (Below.refl _ _).grown hg (Nat.le_refl _) (fun _ h => by cases h)
      have c2 : w1.cell? ⟨w.heap.size, I, none⟩ = some (.int .i64 0) := by
        rw [own0.cellAt I (by omega)]
        simp [hI]
      have c3 := own0.frozenAt I
      have st := (own0.stored I (.int .i64 1)).1
      rw [map_set] at st
      have ST := Lib.hid st
      clear hown hg hi hz0 hz1 hz2 own0 st
      go_wp2_with fail
      go_ret
      refine ⟨_, rfl, .inl ?_, bel0.setCell (Nat.le_refl _) _⟩
      have h := ST.out
      rw [HE.out, Int.toNat_natCast, Int.toNat_natCast, List.length_set, List.length_replicate]
      exact h

set_option maxRecDepth 100000 in
theorem specB2I (v : Value) (xs : List Int) (w : World) (l h : Nat) (r : Rd .u8 w l h v xs) (f : Wf .u8 xs) (hh : h ≤ w.heap.size) (hl : xs.length ≤ 1048576) :
    Calls Try.prog 23 #[v] w fun e w' => ∃ v', e = .returned v' ∧ Own .i64 3 w' w.heap.size v' ((xs.length : Int) :: xs) ∧ Below w.heap.size w w' := by
  obtain ⟨i0, hi, hz0, hz1, hz2⟩ := info_parts info_int
  obtain ⟨A, c, rfl, hc1, hc2⟩ := r.form
  unfold maxLen at hc2
  go_enter Try.func23, Try.ntmps23
  go_wp2_with fail
  go_loopw [3, 4] (fun o i wr => ∃ k : Nat, k ≤ xs.length ∧ i = .int .i64 k ∧ Own .i64 3 wr w.heap.size o ((xs.length : Int) :: xs.take k) ∧ Below w.heap.size w wr) (fun _ i _ => xs.length - (intOf i).toNat)
  case atStart => exact ⟨0, Nat.zero_le _, rfl, Own.lit1 _ _ _ _ _ (Nat.le_refl _), (Below.refl _ w).alloc (Nat.le_refl _) _⟩
  case round =>
    obtain ⟨k, hk, rfl, own, bel⟩ := hrel
    have sz := bel.size
    by_cases hlt : k < xs.length
    · have r' := r.below bel hh
      obtain ⟨A', c', e1, _, _, hr'⟩ := r'
      obtain ⟨b, off, hA, _, hb, hcell⟩ := hr' (by omega)
      simp at e1
      obtain ⟨rfl, rfl⟩ := e1
      subst hA
      obtain ⟨x, hx⟩ : ∃ x, x = xs[k] := ⟨_, rfl⟩
      have c1 := hcell k x (by rw [hx]; simp [hlt])
      have hxb := bd8 (f _ (List.getElem_mem hlt))
      rw [← hx] at hxb
      obtain ⟨x0, x1⟩ := hxb
      have HT : Hid ((xs.length : Int) :: xs.take (k + 1) = ((xs.length : Int) :: xs.take k) ++ [x]) := by
        unfold Hid
        rw [List.take_succ_eq_append_getElem hlt, hx]; rfl
      have hol : ((xs.length : Int) :: xs.take k).length ≤ 1048577 := by rw [List.length_cons, List.length_take]; omega
      have hA : ((xs.length : Int) :: xs.take k).length + 1 ≤ maxLen := by simp only [maxLen]; omega
      have hB : (((xs.length : Int) :: xs.take k).length + 1) * 8 ≤ 140737488355328 := by omega
      clear hcell hr' r hx hol
      go_wp2_with (at_builtin; refine wpList_append_Own _ rfl (.tmp 14) (.tmp 20) 22 rfl w.heap.size 3 i0 (.int .i64 0) .i64 8 Try.underlying22 hi hz0 hz1 hz2 rfl _ _ rfl (own.alloc _) _ _ _ [x] rfl (Own.lit1 .i64 3 _ 0 x (Nat.zero_le _)).rd hA hB ?_ ?_)
      · simp; omega
      · intro v2 w2 hO2 hW2
        have b2 := Lib.hid (hW2.below (bel.alloc sz _) (Nat.le_refl _) (by simp; omega))
        have hO3 : Own .i64 3 w2 w.heap.size v2 ((xs.length : Int) :: xs.take (k + 1)) := by rw [HT.out]; exact hO2
        have O2 := Lib.hid hO3
        clear hO2 hO3 hW2 own bel hA hB
        go_wp2_with fail
        go_roundw
        case rel => exact ⟨k + 1, by omega, by go_num, O2.out, b2.out⟩
        case measure => simp [intOf]; omega
    · have O := Lib.hid own
      clear own r
      go_wp2_with fail
      go_ret
      have h1 := O.out
      rw [List.take_of_length_le (by omega)] at h1
      exact ⟨_, rfl, h1, bel⟩
set_option maxRecDepth 100000 in
theorem implB2I (v : Value) (xs : List Int) (w : World) (l h : Nat) (r : Rd .u8 w l h v xs) (f : Wf .u8 xs) (hh : h ≤ w.heap.size) (hl : xs.length ≤ 1048576) :
    Calls Try.prog 25 #[v] w fun e w' => ∃ v', e = .returned v' ∧ Own .i64 3 w' w.heap.size v' ((xs.length : Int) :: xs) ∧ Below w.heap.size w w' := by
  obtain ⟨i0, hi, hz0, hz1, hz2⟩ := info_parts info_int
  obtain ⟨A, c, rfl, hc1, hc2⟩ := r.form
  unfold maxLen at hc2
  go_enter Try.func25, Try.ntmps25
  go_wp2_with fail
  go_loopw [3, 5, 11] (fun o _ i wr => ∃ k : Nat, k ≤ xs.length ∧ i = .int .i64 k ∧ Own .i64 3 wr w.heap.size o ((xs.length : Int) :: xs.take k) ∧ Below w.heap.size w wr) (fun _ _ i _ => xs.length - (intOf i).toNat)
  case atStart => exact ⟨0, Nat.zero_le _, rfl, Own.lit1 _ _ _ _ _ (Nat.le_refl _), (Below.refl _ w).alloc (Nat.le_refl _) _⟩
  case round =>
    obtain ⟨k, hk, rfl, own, bel⟩ := hrel
    have sz := bel.size
    by_cases hlt : k < xs.length
    · have r' := r.below bel hh
      obtain ⟨A', c', e1, _, _, hr'⟩ := r'
      obtain ⟨b, off, hA, _, hb, hcell⟩ := hr' (by omega)
      simp at e1
      obtain ⟨rfl, rfl⟩ := e1
      subst hA
      obtain ⟨x, hx⟩ : ∃ x, x = xs[k] := ⟨_, rfl⟩
      have c1 := hcell k x (by rw [hx]; simp [hlt])
      have hxb := bd8 (f _ (List.getElem_mem hlt))
      rw [← hx] at hxb
      obtain ⟨x0, x1⟩ := hxb
      have HT : Hid ((xs.length : Int) :: xs.take (k + 1) = ((xs.length : Int) :: xs.take k) ++ [x]) := by
        unfold Hid
        rw [List.take_succ_eq_append_getElem hlt, hx]; rfl
      have hol : ((xs.length : Int) :: xs.take k).length ≤ 1048577 := by rw [List.length_cons, List.length_take]; omega
      have hA : ((xs.length : Int) :: xs.take k).length + 1 ≤ maxLen := by simp only [maxLen]; omega
      have hB : (((xs.length : Int) :: xs.take k).length + 1) * 8 ≤ 140737488355328 := by omega
      clear hcell hr' r hx hol
      go_wp2_with (at_builtin; refine wpList_append_Own _ rfl (.tmp 15) (.tmp 18) 22 rfl w.heap.size 3 i0 (.int .i64 0) .i64 8 Try.underlying22 hi hz0 hz1 hz2 rfl _ _ rfl (own.alloc _) _ _ _ [x] rfl (Own.lit1 .i64 3 _ 0 x (Nat.zero_le _)).rd hA hB ?_ ?_)
      · simp; omega
      · intro v2 w2 hO2 hW2
        have b2 := Lib.hid (hW2.below (bel.alloc sz _) (Nat.le_refl _) (by simp; omega))
        have hO3 : Own .i64 3 w2 w.heap.size v2 ((xs.length : Int) :: xs.take (k + 1)) := by rw [HT.out]; exact hO2
        have O2 := Lib.hid hO3
        clear hO2 hO3 hW2 own bel hA hB
        go_wp2_with fail
        go_roundw
        case rel => exact ⟨k + 1, by omega, by go_num, O2.out, b2.out⟩
        case measure => simp [intOf]; omega
    · have O := Lib.hid own
      clear own r
      go_wp2_with fail
      go_ret
      have h1 := O.out
      rw [List.take_of_length_le (by omega)] at h1
      exact ⟨_, rfl, h1, bel⟩

/-- The sum of two selections. -/
def xorS (xs ys : List Int) : List Int := List.zipWith (fun x y => bits .xor .i64 x y) xs ys
/-- What XorSelections gives. -/
def xorSel (xs ys : List Int) : List Int := if isSel xs xs.length = true ∧ isSel ys xs.length = true then xorS xs ys else []
theorem xorSel_yes {xs ys : List Int} (h1 : isSel xs xs.length = true) (h2 : isSel ys xs.length = true) : xorSel xs ys = xorS xs ys := if_pos ⟨h1, h2⟩
theorem xorSel_no1 {xs ys : List Int} (h1 : ¬ isSel xs xs.length = true) : xorSel xs ys = [] := if_neg fun h => h1 h.1
theorem xorSel_no2 {xs ys : List Int} (h1 : ¬ isSel ys xs.length = true) : xorSel xs ys = [] := if_neg fun h => h1 h.2
theorem xorS_take (xs ys : List Int) (k : Nat) (h1 : k < xs.length) (h2 : k < ys.length) : xorS (xs.take (k + 1)) (ys.take (k + 1)) = xorS (xs.take k) (ys.take k) ++ [bits .xor .i64 xs[k] ys[k]] := by
  rw [List.take_succ_eq_append_getElem h1, List.take_succ_eq_append_getElem h2]
  unfold xorS
  rw [List.zipWith_append (by simp; omega)]
  rfl
theorem xorS_length (xs ys : List Int) (h : xs.length = ys.length) : (xorS xs ys).length = xs.length := by simp [xorS, h]
theorem xorSel_le (xs ys : List Int) : (xorSel xs ys).length ≤ xs.length := by
  unfold xorSel
  split
  · simp [xorS]; omega
  · simp

set_option maxRecDepth 100000 in
set_option maxHeartbeats 1000000 in
theorem specXorSel (v1 v2 : Value) (xs ys : List Int) (w : World) (l1 h1 l2 h2 : Nat) (r1 : Rd .i64 w l1 h1 v1 xs) (r2 : Rd .i64 w l2 h2 v2 ys) (f1 : Wf .i64 xs) (f2 : Wf .i64 ys) (hh1 : h1 ≤ w.heap.size) (hh2 : h2 ≤ w.heap.size) (hl1 : xs.length ≤ 1048576) (hl2 : ys.length ≤ 1048576) :
    Calls Try.prog 28 #[v1, v2] w fun e w' => ∃ v', e = .returned v' ∧ Own .i64 3 w' w.heap.size v' (xorSel xs ys) ∧ Below w.heap.size w w' := by
  obtain ⟨i0, hi, hz0, hz1, hz2⟩ := info_parts info_int
  obtain ⟨A, c, rfl, hc1, hc2⟩ := r1.form
  obtain ⟨B, d, rfl, hd1, hd2⟩ := r2.form
  unfold maxLen at hc2 hd2
  have rx1 := r1.alloc hh1 (.cells #[] 3)
  have rx2 := r2.alloc hh2 (.cells #[] 3)
  have hn64 : In64 (xs.length : Int) := by unfold In64; omega
  by_cases s1 : isSel xs xs.length = true
  rotate_left
  · have HE := Lib.hid (xorSel_no1 (ys := ys) s1)
    have s1' : isSel xs xs.length = false := by simpa using s1
    have H := Lib.hid s1'
    clear s1 s1'
    go_enter Try.func28, Try.ntmps28
    go_wp2_with fail
    refine (specIsSel _ xs _ _ _ _ rx1 hn64).mono ?_
    rw [H.out]
    rintro e w' ⟨rfl, rfl⟩
    go_wp2_with fail
    go_ret
    exact ⟨_, rfl, by rw [HE.out]; exact Own.of_empty _ _ _ _ _, (Below.refl _ w).alloc (Nat.le_refl _) _⟩
  by_cases s2 : isSel ys xs.length = true
  rotate_left
  · have HE := Lib.hid (xorSel_no2 (xs := xs) s2)
    have s2' : isSel ys xs.length = false := by simpa using s2
    have H1 := Lib.hid s1
    have H := Lib.hid s2'
    clear s1 s2 s2'
    go_enter Try.func28, Try.ntmps28
    go_wp2_with fail
    refine (specIsSel _ xs _ _ _ _ rx1 hn64).mono ?_
    rw [H1.out]
    rintro e w' ⟨rfl, rfl⟩
    go_wp2_with fail
    refine (specIsSel _ ys _ _ _ _ rx2 hn64).mono ?_
    rw [H.out]
    rintro e w' ⟨rfl, rfl⟩
    go_wp2_with fail
    go_ret
    exact ⟨_, rfl, by rw [HE.out]; exact Own.of_empty _ _ _ _ _, (Below.refl _ w).alloc (Nat.le_refl _) _⟩
  · have HE := Lib.hid (xorSel_yes s1 s2)
    have hlen : ys.length = xs.length := by have := (isSel_iff s2).2.1; omega
    have h64 : xs.length ≤ 64 := by have := (isSel_iff s1).2.2; omega
    have HL := Lib.hid hlen
    have H1 := Lib.hid s1
    have H2 := Lib.hid s2
    clear s1 s2 hlen
    go_enter Try.func28, Try.ntmps28
    go_wp2_with fail
    refine (specIsSel _ xs _ _ _ _ rx1 hn64).mono ?_
    rw [H1.out]
    rintro e w' ⟨rfl, rfl⟩
    go_wp2_with fail
    refine (specIsSel _ ys _ _ _ _ rx2 hn64).mono ?_
    rw [H2.out]
    rintro e w' ⟨rfl, rfl⟩
    clear rx1 rx2
    go_wp2_with fail
    go_loopw [5, 6] (fun o i wr => ∃ k : Nat, k ≤ xs.length ∧ i = .int .i64 k ∧ Own .i64 3 wr w.heap.size o (xorS (xs.take k) (ys.take k)) ∧ Below w.heap.size w wr) (fun _ i _ => xs.length - (intOf i).toNat)
    case atStart => exact ⟨0, Nat.zero_le _, rfl, Own.of_empty _ _ _ _ _, (Below.refl _ w).alloc (Nat.le_refl _) _⟩
    case round =>
      obtain ⟨k, hk, rfl, own, bel⟩ := hrel
      have sz := bel.size
      by_cases hlt : k < xs.length
      · have hlt2 : k < ys.length := by have := HL.out; omega
        obtain ⟨A', c', e1, _, _, hr'⟩ := r1.below bel hh1
        obtain ⟨b, off, hA, _, hb, hcell⟩ := hr' (by omega)
        obtain ⟨B', d', e2, _, _, hs'⟩ := r2.below bel hh2
        obtain ⟨b2, off2, hB, _, hb2, hcell2⟩ := hs' (by omega)
        simp at e1 e2
        obtain ⟨rfl, rfl⟩ := e1
        obtain ⟨rfl, rfl⟩ := e2
        subst hA
        subst hB
        obtain ⟨x, hx⟩ : ∃ x, x = xs[k] := ⟨_, rfl⟩
        obtain ⟨y, hy⟩ : ∃ y, y = ys[k] := ⟨_, rfl⟩
        have c1 := hcell k x (by rw [hx]; simp [hlt])
        have c2 := hcell2 k y (by rw [hy]; simp [hlt2])
        have hT := xorS_take xs ys k hlt hlt2
        rw [← hx, ← hy] at hT
        have HT := Lib.hid hT
        have hol : (xorS (xs.take k) (ys.take k)).length ≤ 64 := by
          rw [xorS_length _ _ (by simp; omega), List.length_take]; omega
        have hA : (xorS (xs.take k) (ys.take k)).length + 1 ≤ maxLen := by simp only [maxLen]; omega
        have hB : ((xorS (xs.take k) (ys.take k)).length + 1) * 8 ≤ 140737488355328 := by omega
        have k0 : (0 : Int) ≤ (k : Int) := by omega
        have k1 : (k : Int) < (xs.length : Int) := by omega
        have k2 : (k : Int) < (ys.length : Int) := by omega
        have hbw : b < wr.heap.size := by omega
        have hbw2 : b2 < wr.heap.size := by omega
        have hb0 : b < w.heap.size := by omega
        have hb02 : b2 < w.heap.size := by omega
        clear hcell hcell2 hr' hs' hx hy hT hol r1 r2
        go_wp2_with fail
        go_region_held3 (fun w' => w'.cell? ⟨b, off + k, none⟩ = some (.int .i64 x) ∧ w'.cell? ⟨b2, off2 + k, none⟩ = some (.int .i64 y)) (first | go_keep | exact ⟨d1, d2⟩)
          ((refine step_append_Own (by rfl) (.tmp 27) (.tmp 37) 22 (by rfl) w.heap.size 3 i0 (.int .i64 0) .i64 8 Try.underlying22 hi hz0 hz1 hz2 rfl _ _ (by rfl) (by first | exact own.alloc _ | exact (own.alloc _).drew) _ 0 (wr.heap.size + 1) [_] (by rfl) (by exact Rd.lit1) hA hB (by simp; omega) ?_; intro v2 w2 hO2 hW2; have d1 := (hW2.cell (by omega) (by simp; omega)).trans (cell_past hbw c1); have d2 := (hW2.cell (by omega) (by simp; omega)).trans (cell_past hbw2 c2)))
        have b2' : Below w.heap.size w w2 := by first | exact hW2.below (bel.alloc sz _) (Nat.le_refl _) (by simp; omega) | exact hW2.below ((bel.alloc sz _).drew) (Nat.le_refl _) (by simp; omega)
        have hO3 : Own .i64 3 w2 w.heap.size v2 (xorS (xs.take (k + 1)) (ys.take (k + 1))) := by rw [HT.out]; exact hO2
        have O2 := Lib.hid hO3
        clear hO2 hO3 hW2 own bel hA hB
        go_wp2_with fail
        exact ⟨⟨k + 1, by omega, by go_num, O2.out, b2'⟩, by simp [intOf]; omega⟩
      · have O := Lib.hid own
        clear own r1 r2
        go_wp2_with fail
        go_ret
        have h1 := O.out
        rw [List.take_of_length_le (by omega), List.take_of_length_le (by have := HL.out; omega)] at h1
        exact ⟨_, rfl, by rw [HE.out]; exact h1, bel⟩
set_option maxRecDepth 100000 in
set_option maxHeartbeats 1000000 in
theorem implXorSel (v1 v2 : Value) (xs ys : List Int) (w : World) (l1 h1 l2 h2 : Nat) (r1 : Rd .i64 w l1 h1 v1 xs) (r2 : Rd .i64 w l2 h2 v2 ys) (f1 : Wf .i64 xs) (f2 : Wf .i64 ys) (hh1 : h1 ≤ w.heap.size) (hh2 : h2 ≤ w.heap.size) (hl1 : xs.length ≤ 1048576) (hl2 : ys.length ≤ 1048576) :
    Calls Try.prog 29 #[v1, v2] w fun e w' => ∃ v', e = .returned v' ∧ Own .i64 3 w' w.heap.size v' (xorSel xs ys) ∧ Below w.heap.size w w' := by
  obtain ⟨A, c, rfl, hc1, hc2⟩ := r1.form
  obtain ⟨B, d, rfl, hd1, hd2⟩ := r2.form
  unfold maxLen at hc2 hd2
  have hn64 : In64 (xs.length : Int) := by unfold In64; omega
  by_cases s1 : isSel xs xs.length = true
  rotate_left
  · have HE := Lib.hid (xorSel_no1 (ys := ys) s1)
    have s1' : isSel xs xs.length = false := by simpa using s1
    have H := Lib.hid s1'
    clear s1 s1'
    go_enter Try.func29, Try.ntmps29
    go_wp2_with fail
    refine (implIsSel _ xs _ _ _ _ r1 hn64).mono ?_
    rw [H.out]
    rintro e w' ⟨rfl, rfl⟩
    go_wp2_with fail
    go_ret
    exact ⟨_, rfl, by rw [HE.out]; exact Own.of_empty _ _ _ _ _, Below.refl _ w⟩
  by_cases s2 : isSel ys xs.length = true
  rotate_left
  · have HE := Lib.hid (xorSel_no2 (xs := xs) s2)
    have s2' : isSel ys xs.length = false := by simpa using s2
    have H1 := Lib.hid s1
    have H := Lib.hid s2'
    clear s1 s2 s2'
    go_enter Try.func29, Try.ntmps29
    go_wp2_with fail
    refine (implIsSel _ xs _ _ _ _ r1 hn64).mono ?_
    rw [H1.out]
    rintro e w' ⟨rfl, rfl⟩
    go_wp2_with fail
    refine (implIsSel _ ys _ _ _ _ r2 hn64).mono ?_
    rw [H.out]
    rintro e w' ⟨rfl, rfl⟩
    go_wp2_with fail
    go_ret
    exact ⟨_, rfl, by rw [HE.out]; exact Own.of_empty _ _ _ _ _, Below.refl _ w⟩
  · have HE := Lib.hid (xorSel_yes s1 s2)
    have hlen : ys.length = xs.length := by have := (isSel_iff s2).2.1; omega
    have h64 : xs.length ≤ 64 := by have := (isSel_iff s1).2.2; omega
    have HL := Lib.hid hlen
    have H1 := Lib.hid s1
    have H2 := Lib.hid s2
    clear s1 s2 hlen
    go_enter Try.func29, Try.ntmps29
    go_wp2_with fail
    refine (implIsSel _ xs _ _ _ _ r1 hn64).mono ?_
    rw [H1.out]
    rintro e w' ⟨rfl, rfl⟩
    go_wp2_with fail
    refine (implIsSel _ ys _ _ _ _ r2 hn64).mono ?_
    rw [H2.out]
    rintro e w' ⟨rfl, rfl⟩
    go_wp2_with fail
    refine (cloneInt _ xs _ _ _ r1 hh1 (by omega)).mono ?_
    rintro e w1 ⟨v1, rfl, o1, bel1⟩
    obtain ⟨C, cc, rfl, hcc1, hcc2⟩ := o1.rd.form
    unfold maxLen at hcc2
    clear r1
    go_wp2_with fail
    go_loopw [6, 7, 24] (fun _ _ i wr => ∃ k : Nat, k ≤ xs.length ∧ i = .int .i64 k ∧ Own .i64 3 wr w.heap.size (.slice C xs.length cc) (xorS (xs.take k) (ys.take k) ++ xs.drop k) ∧ Below w.heap.size w wr) (fun _ _ i _ => xs.length - (intOf i).toNat)
    case atStart => exact ⟨0, Nat.zero_le _, rfl, by simpa [xorS] using o1, bel1⟩
    case round =>
      obtain ⟨k, hk, rfl, own, bel⟩ := hrel
      clear o1 bel1
      have sz := bel.size
      have hml : (xorS (xs.take k) (ys.take k)).length = k := by
        rw [xorS_length _ _ (by have := HL.out; simp; omega), List.length_take]; omega
      by_cases hlt : k < xs.length
      · have hlt2 : k < ys.length := by have := HL.out; omega
        obtain ⟨B', d', e2, _, _, hs'⟩ := r2.below bel hh2
        obtain ⟨b2, off2, hB, _, hb2, hcell2⟩ := hs' (by omega)
        simp at e2
        obtain ⟨rfl, rfl⟩ := e2
        subst hB
        obtain ⟨g, rfl, hg0, hg1, -, row⟩ := own.open_ (by simp only [List.length_append, List.length_drop, hml]; omega)
        obtain ⟨x, hx⟩ : ∃ x, x = xs[k] := ⟨_, rfl⟩
        obtain ⟨y, hy⟩ : ∃ y, y = ys[k] := ⟨_, rfl⟩
        have c2 := hcell2 k y (by rw [hy]; simp [hlt2])
        have hge := over_get (xorS (xs.take k) (ys.take k)) xs (by omega)
        simp only [hml] at hge
        rw [← hx] at hge
        have hlen : (xorS (xs.take k) (ys.take k) ++ xs.drop k).length = xs.length := by simp only [List.length_append, List.length_drop, hml]; omega
        have c1 : wr.cell? ⟨g, k, none⟩ = some (.int .i64 x) := by
          rw [row.cellAt k (by omega), List.getElem?_map, hge]; rfl
        have c0 := row.frozenAt k
        have hT := xorS_take xs ys k hlt hlt2
        rw [← hx, ← hy] at hT
        have HT := Lib.hid hT
        have own2 := own.store k (by omega) (bits .xor .i64 x y)
        have hos := over_set (xorS (xs.take k) (ys.take k)) xs (bits .xor .i64 x y) (by omega)
        simp only [hml] at hos
        rw [hos, ← hT] at own2
        have O2 := Lib.hid own2
        have k0 : (0 : Int) ≤ (k : Int) := by omega
        have k1 : (k : Int) < (xs.length : Int) := by omega
        have k2 : (k : Int) < (ys.length : Int) := by omega
        clear hcell2 hs' hx hy hT hge hml hlen hos own own2 row r2
        go_wp2_with fail
        have b2' := bel.setCell (p := ⟨g, k, none⟩) hg0 (.int .i64 (bits .xor .i64 x y))
        exact ⟨⟨k + 1, by omega, by go_num, O2.out, b2'⟩, by simp [intOf]; omega⟩
      · have O := Lib.hid own
        have hlt2 : ¬ k < ys.length := by have := HL.out; omega
        clear own hml r2
        go_wp2_with fail
        go_ret
        have h1 := O.out
        rw [List.take_of_length_le (by omega), List.take_of_length_le (by have := HL.out; omega), List.drop_of_length_le (by omega), List.append_nil] at h1
        exact ⟨_, rfl, by rw [HE.out]; exact h1, bel⟩
end Go.Proofs.Ytdbmmiabckemhaa
