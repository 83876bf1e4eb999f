/- Pseudorandom selections and streams, and bytes as integers, of the program and of the reference. -/
import Derived.Test.YtabfekfbdacboaaPrg
import Derived.Test.YtabfekfbdacboaaRange
import Derived.Test.YtabfekfbdacboaaMark
namespace Go.Proofs.Ytabfekfbdacboaa
open Go.RowKit
set_option linter.unusedVariables false

/-- One bit of a pseudorandom selection; one byte of a stream. -/
def randAt (s : Int) (i : Nat) : Int := keyed s [(i : Int), 41] * keyed s [(i : Int), 41] % 2147483647 / 512 % 2
def strAt (s : Int) (i : Nat) : Int := childI s (100 + (i : Int)) / 256 % 256
def randL (s : Int) (n : Nat) : List Int := (List.range n).map (randAt s)
def strL (s : Int) (n : Nat) : List Int := (List.range n).map (strAt s)
/-- What RandomSelection and StreamBytes give. -/
def randAll (s n : Int) : List Int := if 0 ≤ n ∧ n ≤ 64 then randL s n.toNat else []
def strAll (s n : Int) : List Int := if 0 ≤ n ∧ n ≤ 400 then strL s n.toNat else []
theorem randL_succ (s : Int) (n : Nat) : randL s (n + 1) = randL s n ++ [randAt s n] := by simp [randL, List.range_succ]
theorem strL_succ (s : Int) (n : Nat) : strL s (n + 1) = strL s n ++ [strAt s n] := by simp [strL, List.range_succ]
theorem randL_length (s : Int) (n : Nat) : (randL s n).length = n := by simp [randL]
theorem strL_length (s : Int) (n : Nat) : (strL s n).length = n := by simp [strL]
theorem randAll_yes {s n : Int} (h0 : 0 ≤ n) (h1 : n ≤ 64) : randAll s n = randL s n.toNat := if_pos ⟨h0, h1⟩
theorem randAll_no {s n : Int} (h : ¬ (0 ≤ n ∧ n ≤ 64)) : randAll s n = [] := if_neg h
theorem strAll_yes {s n : Int} (h0 : 0 ≤ n) (h1 : n ≤ 400) : strAll s n = strL s n.toNat := if_pos ⟨h0, h1⟩
theorem strAll_no {s n : Int} (h : ¬ (0 ≤ n ∧ n ≤ 400)) : strAll s n = [] := if_neg h
theorem randAll_le (s n : Int) : (randAll s n).length ≤ 64 := by
  unfold randAll
  split
  · rw [randL_length]; omega
  · simp
theorem strAll_le (s n : Int) : (strAll s n).length ≤ 400 := by
  unfold strAll
  split
  · rw [strL_length]; omega
  · simp

set_option maxRecDepth 100000 in
theorem specRand (s n : Int) (w : World) (hs : In64 s) (hn : In64 n) :
    Calls Try.prog 20 #[.int .i64 s, .int .i64 n] w fun e w' => ∃ v', e = .returned v' ∧ Own .i64 3 w' w.heap.size v' (randAll s n) ∧ Below w.heap.size w w' := by
  obtain ⟨i0, hi, hz0, hz1, hz2⟩ := info_parts info_int
  by_cases hin : 0 ≤ n ∧ n ≤ 64
  · obtain ⟨h0, h1⟩ := hin
    have HE := Lib.hid (randAll_yes (s := s) h0 h1)
    obtain ⟨D, rfl⟩ := Int.eq_ofNat_of_zero_le h0
    go_enter Try.func20, Try.ntmps20
    go_wp2_with fail
    go_loopw [5, 6, 7] (fun o i _ wr => ∃ k : Nat, k ≤ D ∧ i = .int .i64 k ∧ Own .i64 3 wr w.heap.size o (randL s k) ∧ Below w.heap.size w wr) (fun _ i _ _ => D - (intOf i).toNat)
    case atStart => exact ⟨0, Nat.zero_le _, rfl, Own.of_empty _ _ _ _ _, (Below.refl _ w).alloc (Nat.le_refl _) _⟩
    case round =>
      obtain ⟨k, hk, rfl, own, bel⟩ := hrel
      have sz := bel.size
      by_cases hlt : k < D
      · go_wp2_with fail
        refine (specKeyed s _ [(k : Int), 41] _ 0 _ (Own.lit2 .i64 3 wr 0 k 41 (Nat.zero_le _)).rd (wf2 (by unfold In64; omega) (by unfold In64; omega)) hs (Nat.le_refl _) (by simp)).mono ?_
        rintro e w1 ⟨rfl, bel1⟩
        have own1 := (own.alloc (.cells #[.int .i64 k, .int .i64 41] 3)).below bel1 (Nat.le_refl _)
        have b1 : Below w.heap.size w w1 := (bel.alloc sz _).trans (bel1.mono (by simp; omega))
        have s1 := b1.size
        have hq := keyed_bd s [(k : Int), 41]
        have hfin : randAt s k = keyed s [(k : Int), 41] * keyed s [(k : Int), 41] % 2147483647 / 512 % 2 := rfl
        generalize keyed s [(k : Int), 41] = q at hq hfin ⊢
        have HF := Lib.hid hfin
        obtain ⟨q0, q1⟩ := sq_bd hq
        have hol := randL_length s k
        have hA : (randL s k).length + 1 ≤ maxLen := by rw [hol]; simp only [maxLen]; omega
        have hB : ((randL s k).length + 1) * 8 ≤ 140737488355328 := by rw [hol]; omega
        clear hq hfin own bel bel1 hol
        go_wp2_with (at_builtin; refine wpList_append_Own _ rfl (.tmp 22) (.tmp 29) 24 rfl w.heap.size 3 i0 (.int .i64 0) .i64 8 Try.underlying24 hi hz0 hz1 hz2 rfl _ _ rfl (own1.alloc _) _ _ _ [_] rfl (Own.lit1 .i64 3 _ 0 _ (Nat.zero_le _)).rd ?_ ?_ ?_ ?_)
        · exact hA
        · exact hB
        · simp; omega
        · intro v2 w2 hO2 hW2
          have b2 := Lib.hid (hW2.below (b1.alloc s1 _) (Nat.le_refl _) (by simp; omega))
          rw [and1 _ (by omega) (by omega), ← HF.out, ← randL_succ] at hO2
          have O2 := Lib.hid hO2
          clear hO2 hW2 own1 b1
          go_wp2_with fail
          go_roundw
          case rel => exact ⟨k + 1, by omega, by go_num, O2.out, b2.out⟩
          case measure => simp [intOf]; omega
      · obtain rfl : k = D := by omega
        have O := Lib.hid own
        clear own
        go_wp2_with fail
        go_ret
        exact ⟨_, rfl, by rw [HE.out, Int.toNat_natCast]; exact O.out, bel⟩
  · have HE := Lib.hid (randAll_no (s := s) hin)
    by_cases h0 : 0 ≤ n
    · have h1 : ¬ n ≤ 64 := fun h => hin ⟨h0, h⟩
      have h2 : (0 : Int) < n := by omega
      have h3 : decide (n ≤ 64) = false := by simpa using h1
      clear hin
      go_enter Try.func20, Try.ntmps20
      go_wp2_with fail
      refine wp_loop_rounds 1 ?_
      rw [rounds_succ]
      go_wp2_with fail
      go_ret
      exact ⟨_, rfl, by rw [HE.out]; exact Own.of_empty _ _ _ _ _, (Below.refl _ w).alloc (Nat.le_refl _) _⟩
    · have h2 : ¬ (0 : Int) < n := by omega
      clear hin
      go_enter Try.func20, Try.ntmps20
      go_wp2_with fail
      refine wp_loop_rounds 1 ?_
      rw [rounds_succ]
      go_wp2_with fail
      go_ret
      exact ⟨_, rfl, by rw [HE.out]; exact Own.of_empty _ _ _ _ _, (Below.refl _ w).alloc (Nat.le_refl _) _⟩

set_option maxRecDepth 100000 in
theorem implRand (s n : Int) (w : World) (hs : In64 s) (hn : In64 n) :
    Calls Try.prog 27 #[.int .i64 s, .int .i64 n] w fun e w' => ∃ v', e = .returned v' ∧ Own .i64 3 w' w.heap.size v' (randAll s n) ∧ Below w.heap.size w w' := by
  obtain ⟨i0, hi, hz0, hz1, hz2⟩ := info_parts info_int
  by_cases hin : 0 ≤ n ∧ n ≤ 64
  · obtain ⟨h0, h1⟩ := hin
    have HE := Lib.hid (randAll_yes (s := s) h0 h1)
    obtain ⟨D, rfl⟩ := Int.eq_ofNat_of_zero_le h0
    go_enter Try.func27, Try.ntmps27
    go_wp2_with (go_at_call 75; refine (inRange_yes _ _ _ _ h0 h1).mono ?_; rintro e w' ⟨rfl, rfl⟩)
    go_loopw [5, 6, 7, 13] (fun o _ _ i wr => ∃ k : Nat, k ≤ D ∧ i = .int .i64 k ∧ Own .i64 3 wr w.heap.size o (randL s k) ∧ Below w.heap.size w wr) (fun _ _ _ i _ => D - (intOf i).toNat)
    case atStart => exact ⟨0, Nat.zero_le _, rfl, Own.of_empty _ _ _ _ _, (Below.refl _ w).alloc (Nat.le_refl _) _⟩
    case round =>
      obtain ⟨k, hk, rfl, own, bel⟩ := hrel
      have sz := bel.size
      by_cases hlt : k < D
      · go_wp2_with fail
        refine (implKeyed s _ [(k : Int), 41] _ 0 _ (Own.lit2 .i64 3 wr 0 k 41 (Nat.zero_le _)).rd (wf2 (by unfold In64; omega) (by unfold In64; omega)) hs (Nat.le_refl _) (by simp)).mono ?_
        rintro e w1 ⟨rfl, bel1⟩
        have own1 := (own.alloc (.cells #[.int .i64 k, .int .i64 41] 3)).below bel1 (Nat.le_refl _)
        have b1 : Below w.heap.size w w1 := (bel.alloc sz _).trans (bel1.mono (by simp; omega))
        have s1 := b1.size
        have hq := keyed_bd s [(k : Int), 41]
        have hfin : randAt s k = keyed s [(k : Int), 41] * keyed s [(k : Int), 41] % 2147483647 / 512 % 2 := rfl
        generalize keyed s [(k : Int), 41] = q at hq hfin ⊢
        have HF := Lib.hid hfin
        obtain ⟨q0, q1⟩ := sq_bd hq
        have hol := randL_length s k
        have hA : (randL s k).length + 1 ≤ maxLen := by rw [hol]; simp only [maxLen]; omega
        have hB : ((randL s k).length + 1) * 8 ≤ 140737488355328 := by rw [hol]; omega
        clear hq hfin own bel bel1 hol
        go_wp2_with (at_builtin; refine wpList_append_Own _ rfl (.tmp 20) (.tmp 27) 24 rfl w.heap.size 3 i0 (.int .i64 0) .i64 8 Try.underlying24 hi hz0 hz1 hz2 rfl _ _ rfl (own1.alloc _) _ _ _ [_] rfl (Own.lit1 .i64 3 _ 0 _ (Nat.zero_le _)).rd ?_ ?_ ?_ ?_)
        · exact hA
        · exact hB
        · simp; omega
        · intro v2 w2 hO2 hW2
          have b2 := Lib.hid (hW2.below (b1.alloc s1 _) (Nat.le_refl _) (by simp; omega))
          rw [and1 _ (by omega) (by omega), ← HF.out, ← randL_succ] at hO2
          have O2 := Lib.hid hO2
          clear hO2 hW2 own1 b1
          go_wp2_with fail
          go_roundw
          case rel => exact ⟨k + 1, by omega, by go_num, O2.out, b2.out⟩
          case measure => simp [intOf]; omega
      · obtain rfl : k = D := by omega
        have O := Lib.hid own
        clear own
        go_wp2_with fail
        go_ret
        exact ⟨_, rfl, by rw [HE.out, Int.toNat_natCast]; exact O.out, bel⟩
  · have HE := Lib.hid (randAll_no (s := s) hin)
    have HD := Lib.hid hin
    clear hin
    go_enter Try.func27, Try.ntmps27
    go_wp2_with (go_at_call 75; refine (inRange_no _ _ _ _ HD.out).mono ?_; rintro e w' ⟨rfl, rfl⟩)
    go_ret
    exact ⟨_, rfl, by rw [HE.out]; exact Own.of_empty _ _ _ _ _, Below.refl _ _⟩
set_option maxRecDepth 100000 in
theorem implStr (s n : Int) (w : World) (hs : In64 s) (hn : In64 n) :
    Calls Try.prog 48 #[.int .i64 s, .int .i64 n] w fun e w' => ∃ v', e = .returned v' ∧ Own .u8 5 w' w.heap.size v' (strAll s n) ∧ Below w.heap.size w w' := by
  obtain ⟨i0, hi, hz0, hz1, hz2⟩ := info_parts info_u8
  by_cases hin : 0 ≤ n ∧ n ≤ 400
  · obtain ⟨h0, h1⟩ := hin
    have HE := Lib.hid (strAll_yes (s := s) h0 h1)
    obtain ⟨D, rfl⟩ := Int.eq_ofNat_of_zero_le h0
    go_enter Try.func48, Try.ntmps48
    go_wp2_with (go_at_call 75; refine (inRange_yes _ _ _ _ h0 h1).mono ?_; rintro e w' ⟨rfl, rfl⟩)
    go_loopw [5, 6, 12] (fun o _ i wr => ∃ k : Nat, k ≤ D ∧ i = .int .i64 k ∧ Own .u8 5 wr w.heap.size o (strL s k) ∧ Below w.heap.size w wr) (fun _ _ i _ => D - (intOf i).toNat)
    case atStart => exact ⟨0, Nat.zero_le _, rfl, Own.of_empty _ _ _ _ _, (Below.refl _ w).alloc (Nat.le_refl _) _⟩
    case round =>
      obtain ⟨k, hk, rfl, own, bel⟩ := hrel
      have sz := bel.size
      by_cases hlt : k < D
      · go_wp2_with fail
        refine (implChild s (100 + (k : Int)) _ hs (by unfold In64; omega)).mono ?_
        rintro e w1 ⟨rfl, bel1⟩
        have own1 := own.below bel1 (Nat.le_refl _)
        have b1 : Below w.heap.size w w1 := bel.trans (bel1.mono sz)
        have s1 := b1.size
        have hq := childI_bd s (100 + (k : Int))
        have hfin : strAt s k = childI s (100 + (k : Int)) / 256 % 256 := rfl
        generalize childI s (100 + (k : Int)) = q at hq hfin ⊢
        have HF := Lib.hid hfin
        obtain ⟨q0, q1⟩ := hq
        have hol := strL_length s k
        have hA : (strL s k).length + 1 ≤ maxLen := by rw [hol]; simp only [maxLen]; omega
        have hB : ((strL s k).length + 1) * 1 ≤ 140737488355328 := by rw [hol]; omega
        clear hfin own bel bel1 hol
        go_wp2_with (at_builtin; refine wpList_append_Own _ rfl (.tmp 15) (.tmp 22) 22 rfl w.heap.size 5 i0 (.int .u8 0) .u8 1 Try.underlying22 hi hz0 hz1 hz2 rfl _ _ rfl (own1.alloc _) _ _ _ [_] rfl (Own.lit1 .u8 5 _ 0 _ (Nat.zero_le _)).rd ?_ ?_ ?_ ?_)
        · exact hA
        · exact hB
        · simp; omega
        · intro v2 w2 hO2 hW2
          have b2 := Lib.hid (hW2.below (b1.alloc s1 _) (Nat.le_refl _) (by simp; omega))
          first | rw [IntKind.wrap_u8, ← HF.out, ← strL_succ] at hO2 | rw [← HF.out, ← strL_succ] at hO2
          have O2 := Lib.hid hO2
          clear hO2 hW2 own1 b1
          go_wp2_with fail
          go_roundw
          case rel => exact ⟨k + 1, by omega, by go_num, O2.out, b2.out⟩
          case measure => simp [intOf]; omega
      · obtain rfl : k = D := by omega
        have O := Lib.hid own
        clear own
        go_wp2_with fail
        go_ret
        exact ⟨_, rfl, by rw [HE.out, Int.toNat_natCast]; exact O.out, bel⟩
  · have HE := Lib.hid (strAll_no (s := s) hin)
    have HD := Lib.hid hin
    clear hin
    go_enter Try.func48, Try.ntmps48
    go_wp2_with (go_at_call 75; refine (inRange_no _ _ _ _ HD.out).mono ?_; rintro e w' ⟨rfl, rfl⟩)
    go_ret
    exact ⟨_, rfl, by rw [HE.out]; exact Own.of_empty _ _ _ _ _, Below.refl _ _⟩
end Go.Proofs.Ytabfekfbdacboaa
