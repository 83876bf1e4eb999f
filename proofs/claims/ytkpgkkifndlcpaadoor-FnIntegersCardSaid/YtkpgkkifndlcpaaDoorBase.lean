/- Contracts of the laws' own helpers: copies, comparisons, marks. -/
import Derived.Test.YtkpgkkifndlcpaaDoorCore
import Derived.Test.YtkpgkkifndlcpaaDoorChecked
import Derived.WalkSpells
import Derived.WalkLawsBesides
import Derived.Deep.QuietTactic
import Derived.BigQuiet
namespace Go.Proofs.YtkpgkkifndlcpaaDoor
open Go.RowKit
set_option linter.unusedVariables false

theorem take_succ_eq {xs ys : List Int} {k : Nat} (h : xs.take k = ys.take k) (hx : k < xs.length) (hy : k < ys.length) (he : (xs[k] != ys[k]) = false) : xs.take (k + 1) = ys.take (k + 1) := by
  rw [List.take_succ_eq_append_getElem hx, List.take_succ_eq_append_getElem hy, h, show xs[k] = ys[k] by simpa using he]
theorem take_all_eq {xs ys : List Int} {k : Nat} (h : xs.take k = ys.take k) (hl : xs.length = ys.length) (hk : ¬ k < xs.length) : xs = ys := by
  rwa [List.take_of_length_le (by omega), List.take_of_length_le (by omega)] at h
theorem ne_of_at {xs ys : List Int} {k : Nat} (hx : k < xs.length) (hy : k < ys.length) (he : (xs[k] != ys[k]) = true) : decide (xs = ys) = false := by
  rw [decide_eq_false_iff_not]
  rintro rfl
  simp at he
theorem ret_bool {a b : Bool} (h : a = b) : Ending.returned (.bool a) = .returned (.bool b) := by rw [h]
theorem ret_int {k : IntKind} {a b : Int} (h : a = b) : Ending.returned (.int k a) = .returned (.int k b) := by rw [h]
theorem info_u8 : (Tryd.prog.info? 5).map (fun i => (i.zero, i.size, i.bytes)) = some (some (.int .u8 0), 1, 1) := by kernel_rfl
theorem info_int : (Tryd.prog.info? 3).map (fun i => (i.zero, i.size, i.bytes)) = some (some (.int .i64 0), 1, 8) := by kernel_rfl

/-- A row of zeros that is being filled from its head. -/
def filled (xs : List Int) (k : Nat) : List Int := xs.take k ++ List.replicate (xs.length - k) 0
theorem filled_length (xs : List Int) (k : Nat) (h : k ≤ xs.length) : (filled xs k).length = xs.length := by simp [filled]; omega
theorem filled_zero (xs : List Int) : filled xs 0 = List.replicate xs.length 0 := by simp [filled]
theorem filled_all (xs : List Int) {k : Nat} (h : ¬ k < xs.length) : filled xs k = xs := by
  simp [filled, List.take_of_length_le (show xs.length ≤ k by omega), show xs.length - k = 0 by omega]
theorem filled_set (xs : List Int) (k : Nat) (h : k < xs.length) : (filled xs k).set k xs[k] = filled xs (k + 1) := by
  have e : xs.length - k = (xs.length - (k + 1)) + 1 := by omega
  have hl : (xs.take k).length = k := by rw [List.length_take]; omega
  unfold filled
  rw [e, List.replicate_succ, List.set_append_right _ _ (by omega), hl, Nat.sub_self, List.set_cons_zero, List.take_succ_eq_append_getElem h, List.append_assoc]
  rfl
theorem map_set (k : IntKind) (xs : List Int) (i : Nat) (x : Int) : (xs.map (Value.int k)).set i (.int k x) = (xs.set i x).map (.int k) := by rw [List.map_set]

/-- The numbers that a mark lays: k, k+1, .. (as bytes: modulo 256). -/
def marks (k : Int) : Nat → List Int
  | 0 => []
  | n + 1 => marks k n ++ [k + n]
theorem marks_length (k : Int) (n : Nat) : (marks k n).length = n := by
  induction n with
  | zero => rfl
  | succ n ih => simp [marks, ih]
theorem marks_get (k : Int) (n i : Nat) (h : i < n) : (marks k n)[i]? = some (k + i) := by
  induction n with
  | zero => omega
  | succ n ih =>
    by_cases hi : i < n
    · rw [marks, List.getElem?_append_left (by rw [marks_length]; exact hi)]; exact ih hi
    · obtain rfl : i = n := by omega
      rw [marks, List.getElem?_append_right (by rw [marks_length]; omega), marks_length]
      simp

end Go.Proofs.YtkpgkkifndlcpaaDoor
