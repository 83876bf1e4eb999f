/- Selections: the test, of the program and of the reference. -/
import Derived.Test.YtabfekfbdacboaaHash
import Derived.Test.YtabfekfbdacboaaRange
namespace Go.Proofs.Ytabfekfbdacboaa
open Go.RowKit
set_option linter.unusedVariables false

/-- Zeros and ones alone? -/
def bitsB (xs : List Int) : Bool := xs.all fun x => decide (0 ≤ x ∧ x ≤ 1)
/-- What IsSelection gives. -/
def isSel (xs : List Int) (n : Int) : Bool := bitsB xs && decide ((xs.length : Int) = n ∧ n ≤ 64)
theorem bitsB_no {xs : List Int} {k : Nat} (hk : k < xs.length) (h : ¬ (0 ≤ xs[k] ∧ xs[k] ≤ 1)) : bitsB xs = false := by
  unfold bitsB
  rw [List.all_eq_false]
  exact ⟨xs[k], List.getElem_mem hk, by simpa using h⟩
theorem bitsB_take {xs : List Int} {k : Nat} (hk : k < xs.length) (h : 0 ≤ xs[k] ∧ xs[k] ≤ 1) (hz : bitsB (xs.take k) = true) : bitsB (xs.take (k + 1)) = true := by
  unfold bitsB at *
  rw [List.take_succ_eq_append_getElem hk, List.all_append, hz]
  simpa using h
theorem bitsB_all {xs : List Int} {k : Nat} (hk : ¬ k < xs.length) (hz : bitsB (xs.take k) = true) : bitsB xs = true := by
  rwa [List.take_of_length_le (by omega)] at hz
theorem bitsB_at {xs : List Int} (h : bitsB xs = true) {k : Nat} (hk : k < xs.length) : 0 ≤ xs[k] ∧ xs[k] ≤ 1 := by
  unfold bitsB at h
  rw [List.all_eq_true] at h
  simpa using h xs[k] (List.getElem_mem hk)
theorem isSel_bits {xs : List Int} {n : Int} (h : bitsB xs = false) : isSel xs n = false := by simp [isSel, h]
theorem isSel_len {xs : List Int} {n : Int} (h : ¬ ((xs.length : Int) = n ∧ n ≤ 64)) : isSel xs n = false := by
  rw [isSel, decide_eq_false h, Bool.and_false]
theorem isSel_yes {xs : List Int} {n : Int} (h : bitsB xs = true) (h1 : (xs.length : Int) = n) (h2 : n ≤ 64) : isSel xs n = true := by
  rw [isSel, decide_eq_true ⟨h1, h2⟩, h]; rfl
theorem isSel_iff {xs : List Int} {n : Int} (h : isSel xs n = true) : bitsB xs = true ∧ (xs.length : Int) = n ∧ n ≤ 64 := by
  rw [isSel, Bool.and_eq_true, decide_eq_true_iff] at h
  exact h

theorem specIsSel (v : Value) (xs : List Int) (n : Int) (w : World) (l h : Nat) (r : Rd .i64 w l h v xs) (hn : In64 n) :
    Calls Try.prog 15 #[v, .int .i64 n] w fun e w' => e = .returned (.bool (isSel xs n)) ∧ w = w' := by
  obtain ⟨A, c, rfl, hc1, hc2, hr⟩ := r
  unfold maxLen at hc2
  go_enter Try.func15, Try.ntmps15
  go_wp2_with fail
  go_loop [5] (fun i => ∃ k : Nat, k ≤ xs.length ∧ i = .int .i64 k ∧ bitsB (xs.take k) = true) (fun i => xs.length - (intOf i).toNat)
  case atStart => exact ⟨0, Nat.zero_le _, rfl, rfl⟩
  case round =>
    obtain ⟨k, hk, rfl, hz⟩ := hrel
    have HZ := Lib.hid hz
    clear hz
    by_cases hlt : k < xs.length
    · obtain ⟨b, off, rfl, _, _, hcell⟩ := hr (by omega)
      have c1 := hcell k xs[k] (by simp [hlt])
      clear hcell hr
      by_cases h1 : 0 ≤ xs[k] ∧ xs[k] ≤ 1
      · have HF := Lib.hid (bitsB_take hlt h1 HZ.out)
        have H1 := Lib.hid h1
        clear h1
        go_wp2_with (go_at_call 67; refine (l1In_yes _ _ _ _ H1.out.1 H1.out.2).mono ?_; rintro e w' ⟨rfl, rfl⟩)
        go_round
        case rel => exact ⟨k + 1, by omega, by go_num, HF.out⟩
        case measure => simp [intOf]; omega
      · have HF := Lib.hid (isSel_bits (n := n) (bitsB_no hlt h1))
        have H1 := Lib.hid h1
        clear h1
        go_wp2_with (go_at_call 67; refine (l1In_no _ _ _ _ H1.out).mono ?_; rintro e w' ⟨rfl, rfl⟩)
        go_ret
        exact ⟨ret_bool HF.out.symm, rfl⟩
    · clear hr
      have HB := Lib.hid (bitsB_all hlt HZ.out)
      by_cases h1 : (xs.length : Int) = n
      · have e1 : ((xs.length : Int) == n) = true := by simpa using h1
        by_cases h2 : n ≤ 64
        · have HF := Lib.hid (isSel_yes HB.out h1 h2)
          clear h1
          go_wp2_with fail
          go_ret
          exact ⟨ret_bool HF.out.symm, rfl⟩
        · have HF := Lib.hid (isSel_len (xs := xs) (n := n) (fun h => h2 h.2))
          have e2 : decide (n ≤ 64) = false := by simpa using h2
          clear h1
          go_wp2_with fail
          go_ret
          exact ⟨ret_bool HF.out.symm, rfl⟩
      · have e1 : ((xs.length : Int) == n) = false := by simpa using h1
        have HF := Lib.hid (isSel_len (xs := xs) (n := n) (fun h => h1 h.1))
        clear h1
        go_wp2_with fail
        go_ret
        exact ⟨ret_bool HF.out.symm, rfl⟩

theorem implIsSel (v : Value) (xs : List Int) (n : Int) (w : World) (l h : Nat) (r : Rd .i64 w l h v xs) (hn : In64 n) :
    Calls Try.prog 61 #[v, .int .i64 n] w fun e w' => e = .returned (.bool (isSel xs n)) ∧ w = w' := by
  obtain ⟨A, c, rfl, hc1, hc2, hr⟩ := r
  unfold maxLen at hc2
  by_cases h0 : 0 ≤ n ∧ n ≤ 64
  rotate_left
  · have HF := Lib.hid (isSel_len (xs := xs) (n := n) (fun h => h0 ⟨by omega, h.2⟩))
    go_enter Try.func61, Try.ntmps61
    go_wp2_with fail
    refine (inRange_no _ _ _ _ h0).mono ?_
    rintro e w' ⟨rfl, rfl⟩
    go_wp2_with fail
    go_ret
    exact ⟨ret_bool HF.out.symm, rfl⟩
  by_cases h1 : (xs.length : Int) = n
  rotate_left
  · have e1 : ((xs.length : Int) == n) = false := by simpa using h1
    have HF := Lib.hid (isSel_len (xs := xs) (n := n) (fun h => h1 h.1))
    have H0 := Lib.hid h0
    clear h1 h0
    go_enter Try.func61, Try.ntmps61
    go_wp2_with fail
    refine (inRange_yes _ _ _ _ H0.out.1 H0.out.2).mono ?_
    rintro e w' ⟨rfl, rfl⟩
    go_wp2_with fail
    go_ret
    exact ⟨ret_bool HF.out.symm, rfl⟩
  · have e1 : ((xs.length : Int) == n) = true := by simpa using h1
    have H0 := Lib.hid h0
    have H1 := Lib.hid h1
    clear h1 h0
    go_enter Try.func61, Try.ntmps61
    go_wp2_with fail
    refine (inRange_yes _ _ _ _ H0.out.1 H0.out.2).mono ?_
    rintro e w' ⟨rfl, rfl⟩
    go_wp2_with go_in
    go_loop [5, 8] (fun _ i => ∃ k : Nat, k ≤ xs.length ∧ i = .int .i64 k ∧ bitsB (xs.take k) = true) (fun _ i => xs.length - (intOf i).toNat)
    case atStart => exact ⟨0, Nat.zero_le _, rfl, rfl⟩
    case round =>
      obtain ⟨k, hk, rfl, hz⟩ := hrel
      have HZ := Lib.hid hz
      clear hz
      by_cases hlt : k < xs.length
      · obtain ⟨b, off, rfl, _, _, hcell⟩ := hr (by omega)
        have c1 := hcell k xs[k] (by simp [hlt])
        clear hcell hr
        by_cases h1 : 0 ≤ xs[k] ∧ xs[k] ≤ 1
        · have HF := Lib.hid (bitsB_take hlt h1 HZ.out)
          have H1 := Lib.hid h1
          clear h1
          go_wp2_with (first | (go_at_call 75; refine (inRange_yes _ _ _ _ H1.out.1 H1.out.2).mono ?_; rintro e w' ⟨rfl, rfl⟩) | go_in)
          go_round
          case rel => exact ⟨k + 1, by omega, by go_num, HF.out⟩
          case measure => simp [intOf]; omega
        · have HF := Lib.hid (isSel_bits (n := n) (bitsB_no hlt h1))
          have H1 := Lib.hid h1
          clear h1
          go_wp2_with (first | (go_at_call 75; refine (inRange_no _ _ _ _ H1.out).mono ?_; rintro e w' ⟨rfl, rfl⟩) | go_in)
          go_ret
          exact ⟨ret_bool HF.out.symm, rfl⟩
      · clear hr
        have HB := Lib.hid (bitsB_all hlt HZ.out)
        have HF := Lib.hid (isSel_yes HB.out H1.out H0.out.2)
        go_wp2_with go_in
        go_ret
        exact ⟨ret_bool HF.out.symm, rfl⟩
end Go.Proofs.Ytabfekfbdacboaa
