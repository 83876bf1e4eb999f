/- Range tests, of the program and of the reference: decided. -/
import Derived.Test.YtabfekfbdacboaaBase
namespace Go.Proofs.Ytabfekfbdacboaa
open Go.RowKit
set_option linter.unusedVariables false

theorem l1In_yes (x a b : Int) (w : World) (h1 : a ≤ x) (h2 : x ≤ b) : Calls Try.prog 67 #[.int .i64 x, .int .i64 a, .int .i64 b] w fun e w' => e = .returned (.bool true) ∧ w = w' := by
  go_enter Try.func67, Try.ntmps67
  go_wp2
  go_ret
  exact ⟨rfl, rfl⟩
theorem l1In_no (x a b : Int) (w : World) (h : ¬ (a ≤ x ∧ x ≤ b)) : Calls Try.prog 67 #[.int .i64 x, .int .i64 a, .int .i64 b] w fun e w' => e = .returned (.bool false) ∧ w = w' := by
  by_cases h1 : a ≤ x
  · have h2 : ¬ x ≤ b := fun h2 => h ⟨h1, h2⟩
    clear h
    go_enter Try.func67, Try.ntmps67
    go_wp2
    go_ret
    exact ⟨rfl, rfl⟩
  · clear h
    go_enter Try.func67, Try.ntmps67
    go_wp2
    go_ret
    exact ⟨rfl, rfl⟩
theorem inRange_yes (x a b : Int) (w : World) (h1 : a ≤ x) (h2 : x ≤ b) : Calls Try.prog 75 #[.int .i64 x, .int .i64 a, .int .i64 b] w fun e w' => e = .returned (.bool true) ∧ w = w' := by
  go_enter Try.func75, Try.ntmps75
  go_wp2
  go_ret
  exact ⟨rfl, rfl⟩
theorem inRange_no (x a b : Int) (w : World) (h : ¬ (a ≤ x ∧ x ≤ b)) : Calls Try.prog 75 #[.int .i64 x, .int .i64 a, .int .i64 b] w fun e w' => e = .returned (.bool false) ∧ w = w' := by
  by_cases h1 : a ≤ x
  · have h2 : ¬ x ≤ b := fun h2 => h ⟨h1, h2⟩
    clear h
    go_enter Try.func75, Try.ntmps75
    go_wp2
    go_ret
    exact ⟨rfl, rfl⟩
  · clear h
    go_enter Try.func75, Try.ntmps75
    go_wp2
    go_ret
    exact ⟨rfl, rfl⟩

theorem isS_yes (x : Int) (w : World) (h1 : 2 ≤ x) (h2 : x ≤ 4) : Calls Try.prog 79 #[.int .i64 x] w fun e w' => e = .returned (.bool true) ∧ w = w' := by
  go_enter Try.func79, Try.ntmps79
  go_wp2_with fail
  refine (inRange_yes _ _ _ _ h1 h2).mono ?_
  rintro e w' ⟨rfl, rfl⟩
  go_wp2_with fail
  go_ret
  exact ⟨rfl, rfl⟩
theorem isS_no (x : Int) (w : World) (h : ¬ (2 ≤ x ∧ x ≤ 4)) : Calls Try.prog 79 #[.int .i64 x] w fun e w' => e = .returned (.bool false) ∧ w = w' := by
  have H := Lib.hid h
  clear h
  go_enter Try.func79, Try.ntmps79
  go_wp2_with fail
  refine (inRange_no _ _ _ _ H.out).mono ?_
  rintro e w' ⟨rfl, rfl⟩
  go_wp2_with fail
  go_ret
  exact ⟨rfl, rfl⟩

/-- Has a tree of a depth such a leaf? -/
def IsLeaf (d i : Int) : Prop := 0 ≤ d ∧ d ≤ 6 ∧ 0 ≤ i ∧ i < 2 ^ d.toNat
theorem pow_cases {d : Int} (h0 : 0 ≤ d) (h6 : d ≤ 6) : (d = 0 ∨ d = 1 ∨ d = 2 ∨ d = 3 ∨ d = 4 ∨ d = 5 ∨ d = 6) := by omega

theorem isL_yes (d i : Int) (w : World) (h : IsLeaf d i) : Calls Try.prog 83 #[.int .i64 d, .int .i64 i] w fun e w' => e = .returned (.bool true) ∧ w = w' := by
  obtain ⟨h0, h6, i0, i1⟩ := h
  rcases pow_cases h0 h6 with rfl | rfl | rfl | rfl | rfl | rfl | rfl
  all_goals
    simp at i1
    go_enter Try.func83, Try.ntmps83
    go_wp2_with (go_at_call 75; refine (inRange_yes _ _ _ _ (by omega) (by omega)).mono ?_; rintro e w' ⟨rfl, rfl⟩)
    go_ret
    exact ⟨rfl, rfl⟩
theorem isL_no (d i : Int) (w : World) (h : ¬ IsLeaf d i) : Calls Try.prog 83 #[.int .i64 d, .int .i64 i] w fun e w' => e = .returned (.bool false) ∧ w = w' := by
  by_cases hd : 0 ≤ d ∧ d ≤ 6
  · obtain ⟨h0, h6⟩ := hd
    have hi : ¬ (0 ≤ i ∧ i < 2 ^ d.toNat) := fun hh => h ⟨h0, h6, hh.1, hh.2⟩
    clear h
    rcases pow_cases h0 h6 with rfl | rfl | rfl | rfl | rfl | rfl | rfl
    all_goals
      simp only [Int.toNat_zero, Int.toNat_one, Int.reduceToNat, Int.reducePow] at hi
      have HI := Lib.hid hi
      clear hi
      go_enter Try.func83, Try.ntmps83
      go_wp2_with fail
      refine (inRange_yes _ _ _ _ (by omega) (by omega)).mono ?_
      rintro e w' ⟨rfl, rfl⟩
      go_wp2_with fail
      refine (inRange_no _ _ _ _ (by have := HI.out; omega)).mono ?_
      rintro e w' ⟨rfl, rfl⟩
      go_wp2_with fail
      go_ret
      exact ⟨rfl, rfl⟩
  · have HD := Lib.hid hd
    clear hd h
    go_enter Try.func83, Try.ntmps83
    go_wp2_with fail
    refine (inRange_no _ _ _ _ HD.out).mono ?_
    rintro e w' ⟨rfl, rfl⟩
    go_wp2_with fail
    go_ret
    exact ⟨rfl, rfl⟩
end Go.Proofs.Ytabfekfbdacboaa
