/- The laws of this seat over integers alone: their walks. -/
import Derived.Test.YtdhnogjggihmdaaCore
import Derived.Test.YtdhnogjggihmdaaChecked
import Derived.WalkSpells
import Derived.WalkLawsBesides
namespace Go.Proofs.Ytdhnogjggihmdaa
open Go.RowKit
set_option linter.unusedVariables false

theorem law_FnExactMax (a : Int) (wa : In64 a) (b : Int) (wb : In64 b) (w : World) : Calls Try.prog 6 #[.int .i64 a, .int .i64 b] w fun e w' => e = .returned (.bool true) ∧ Below w.heap.size w w' := by
  by_cases h : a < b
  all_goals
    go_enter Try.func6, Try.ntmps6
    go_wp2
    go_ret
    exact ⟨rfl, Below.refl _ _⟩

theorem law_FnExactMin (a : Int) (wa : In64 a) (b : Int) (wb : In64 b) (w : World) : Calls Try.prog 7 #[.int .i64 a, .int .i64 b] w fun e w' => e = .returned (.bool true) ∧ Below w.heap.size w w' := by
  by_cases h : b < a
  all_goals
    go_enter Try.func7, Try.ntmps7
    go_wp2
    go_ret
    exact ⟨rfl, Below.refl _ _⟩

theorem law_FnExactInRange (n : Int) (wn : In64 n) (a : Int) (wa : In64 a) (b : Int) (wb : In64 b) (w : World) : Calls Try.prog 4 #[.int .i64 n, .int .i64 a, .int .i64 b] w fun e w' => e = .returned (.bool true) ∧ Below w.heap.size w w' := by
  by_cases h : a ≤ n <;> by_cases h2 : n ≤ b
  all_goals
    go_enter Try.func4, Try.ntmps4
    go_wp2
    go_ret
    exact ⟨rfl, Below.refl _ _⟩

theorem law_FnExactIsValidKey (n : Int) (wn : In64 n) (w : World) : Calls Try.prog 5 #[.int .i64 n] w fun e w' => e = .returned (.bool true) ∧ Below w.heap.size w w' := by
  by_cases h : 1 ≤ n <;> by_cases h2 : n ≤ 2147483646
  all_goals
    go_enter Try.func5, Try.ntmps5
    go_wp2
    go_ret
    exact ⟨rfl, Below.refl _ _⟩

theorem law_FnExactConstants (w : World) : Calls Try.prog 3 #[] w fun e w' => e = .returned (.bool true) ∧ Below w.heap.size w w' := by
  go_enter Try.func3, Try.ntmps3
  go_wp2
  go_ret
  exact ⟨rfl, Below.refl _ _⟩

theorem law_FnExactCeilDiv (a : Int) (wa : In64 a) (b : Int) (wb : In64 b) (w : World) : Calls Try.prog 8 #[.int .i64 a, .int .i64 b] w fun e w' => e = .returned (.bool true) ∧ Below w.heap.size w w' := by
  by_cases h1 : 0 ≤ a <;> by_cases h2 : a ≤ 1000000000000 <;> by_cases h3 : 1 ≤ b <;> by_cases h4 : b ≤ 1000000000000
  all_goals
    go_enter Try.func8, Try.ntmps8
    go_wp2
    go_ret
    exact ⟨rfl, Below.refl _ _⟩

/-- What Mod gives. -/
def modI (p q : Int) : Int := if 1 ≤ q ∧ q ≤ 1000000000000 then p % q else 0

theorem tmod_mod (p q : Int) (h : 0 < q) : (p.tmod q + q) % q = p % q ∧ -q < p.tmod q ∧ p.tmod q < q := by
  have h1 := Int.tmod_lt_of_pos p h
  have h2 : -q < p.tmod q := Int.lt_tmod_of_pos p h
  refine ⟨?_, h2, h1⟩
  rw [Int.add_emod_right]
  have := Int.tmod_add_mul_tdiv p q
  have e : p.tmod q = p - q * p.tdiv q := by omega
  rw [e, Int.sub_mul_emod_self_left]

end Go.Proofs.Ytdhnogjggihmdaa
