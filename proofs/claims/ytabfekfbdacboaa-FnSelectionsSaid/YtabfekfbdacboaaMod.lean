/- Mod, of the program and of the reference: what both give; and the law that they agree. -/
import Derived.Test.YtabfekfbdacboaaCore
import Derived.Test.YtabfekfbdacboaaChecked
import Derived.WalkSpells
import Derived.WalkLawsBesides
namespace Go.Proofs.Ytabfekfbdacboaa
open Go.RowKit
set_option linter.unusedVariables false

theorem ret_int0 {k : IntKind} {a b : Int} (h : a = b) : Ending.returned (.int k a) = .returned (.int k b) := by rw [h]

/-- What Mod gives. -/
def modI (p q : Int) : Int := if 1 ≤ q ∧ q ≤ 1000000000000 then p % q else 0

theorem tmod_facts (p q : Int) (h : 0 < q) : (p.tmod q + q) % q = p % q ∧ -q < p.tmod q ∧ p.tmod q < q := by
  have h1 := Int.tmod_lt_of_pos p h
  have h2 : -q < p.tmod q := Int.lt_tmod_of_pos p h
  refine ⟨?_, h2, h1⟩
  have e := Int.tmod_add_mul_tdiv p q
  have e2 : p.tmod q + q = p + q * (1 - p.tdiv q) := by rw [Int.mul_sub]; omega
  rw [e2, Int.add_mul_emod_self_left]

theorem modI_in (p q : Int) (h1 : 1 ≤ q) (h2 : q ≤ 1000000000000) : modI p q = p % q := by rw [modI, if_pos ⟨h1, h2⟩]
theorem modI_out (p q : Int) (h : ¬ (1 ≤ q ∧ q ≤ 1000000000000)) : modI p q = 0 := by rw [modI, if_neg h]

theorem specMod (p q : Int) (hp : In64 p) (w : World) : Calls Try.prog 37 #[.int .i64 p, .int .i64 q] w fun e w' => e = .returned (.int .i64 (modI p q)) ∧ w = w' := by
  unfold In64 at hp
  by_cases h1 : 1 ≤ q
  · by_cases h2 : q ≤ 1000000000000
    · obtain ⟨f1, f2, f3⟩ := tmod_facts p q (by omega)
      have F1 := Lib.hid f1
      have hz : (q == 0) = false := by simp; omega
      clear f1
      go_enter Try.func37, Try.ntmps37
      go_wp2
      go_ret
      exact ⟨ret_int0 (by rw [modI_in p q h1 h2, ← F1.out]), rfl⟩
    · have F1 := Lib.hid (modI_out p q (by omega))
      go_enter Try.func37, Try.ntmps37
      go_wp2
      go_ret
      exact ⟨ret_int0 (by rw [F1.out]), rfl⟩
  · have F1 := Lib.hid (modI_out p q (by omega))
    go_enter Try.func37, Try.ntmps37
    go_wp2
    go_ret
    exact ⟨ret_int0 (by rw [F1.out]), rfl⟩
theorem implMod (p q : Int) (hp : In64 p) (w : World) : Calls Try.prog 80 #[.int .i64 p, .int .i64 q] w fun e w' => e = .returned (.int .i64 (modI p q)) ∧ w = w' := by
  unfold In64 at hp
  by_cases h1 : 1 ≤ q
  · by_cases h2 : q ≤ 1000000000000
    · obtain ⟨f1, f2, f3⟩ := tmod_facts p q (by omega)
      have F1 := Lib.hid f1
      have hz : (q == 0) = false := by simp; omega
      clear f1
      go_enter Try.func80, Try.ntmps80
      go_wp2
      go_ret
      exact ⟨ret_int0 (by rw [modI_in p q h1 h2, ← F1.out]), rfl⟩
    · have F1 := Lib.hid (modI_out p q (by omega))
      go_enter Try.func80, Try.ntmps80
      go_wp2
      go_ret
      exact ⟨ret_int0 (by rw [F1.out]), rfl⟩
  · have F1 := Lib.hid (modI_out p q (by omega))
    go_enter Try.func80, Try.ntmps80
    go_wp2
    go_ret
    exact ⟨ret_int0 (by rw [F1.out]), rfl⟩

end Go.Proofs.Ytabfekfbdacboaa
