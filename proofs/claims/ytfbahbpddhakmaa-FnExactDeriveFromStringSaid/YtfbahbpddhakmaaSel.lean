/- Selections: the test, of the program and of the reference. -/
import Derived.Test.YtfbahbpddhakmaaHash
import Derived.Test.YtfbahbpddhakmaaRange
namespace Go.Proofs.Ytfbahbpddhakmaa
open Go.RowKit
set_option linter.unusedVariables false

/-- Zeros and ones alone? -/
def bitsB (xs : List Int) : Bool := xs.all fun x => decide (0 ≤ x ∧ x ≤ 1)
/-- What IsSelection gives. -/
def isSel (xs : List Int) (n : Int) : Bool := bitsB xs && decide ((xs.length : Int) = n ∧ n ≤ 64)
theorem bitsB_no {xs : List Int} {k : Nat} (hk : k < xs.length) (h : ¬ (0 ≤ xs[k] ∧ xs[k] ≤ 1)) : bitsB xs = false := by
  unfold bitsB
  rw [List.all_eq_false]
  exact ⟨xs[k], List.getElem_mem hk, by simpa using h⟩
theorem bitsB_take {xs : List Int} {k : Nat} (hk : k < xs.length) (h : 0 ≤ xs[k] ∧ xs[k] ≤ 1) (hz : bitsB (xs.take k) = true) : bitsB (xs.take (k + 1)) = true := by
  unfold bitsB at *
  rw [List.take_succ_eq_append_getElem hk, List.all_append, hz]
  simpa using h
theorem bitsB_all {xs : List Int} {k : Nat} (hk : ¬ k < xs.length) (hz : bitsB (xs.take k) = true) : bitsB xs = true := by
  rwa [List.take_of_length_le (by omega)] at hz
theorem bitsB_at {xs : List Int} (h : bitsB xs = true) {k : Nat} (hk : k < xs.length) : 0 ≤ xs[k] ∧ xs[k] ≤ 1 := by
  unfold bitsB at h
  rw [List.all_eq_true] at h
  simpa using h xs[k] (List.getElem_mem hk)
theorem isSel_bits {xs : List Int} {n : Int} (h : bitsB xs = false) : isSel xs n = false := by simp [isSel, h]
theorem isSel_len {xs : List Int} {n : Int} (h : ¬ ((xs.length : Int) = n ∧ n ≤ 64)) : isSel xs n = false := by
  rw [isSel, decide_eq_false h, Bool.and_false]
theorem isSel_yes {xs : List Int} {n : Int} (h : bitsB xs = true) (h1 : (xs.length : Int) = n) (h2 : n ≤ 64) : isSel xs n = true := by
  rw [isSel, decide_eq_true ⟨h1, h2⟩, h]; rfl
theorem isSel_iff {xs : List Int} {n : Int} (h : isSel xs n = true) : bitsB xs = true ∧ (xs.length : Int) = n ∧ n ≤ 64 := by
  rw [isSel, Bool.and_eq_true, decide_eq_true_iff] at h
  exact h

end Go.Proofs.Ytfbahbpddhakmaa
