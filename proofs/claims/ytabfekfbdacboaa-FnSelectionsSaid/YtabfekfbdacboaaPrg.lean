/- Seeds and bits of the pseudorandom trees, of the program and of the reference. -/
import Derived.Test.YtabfekfbdacboaaKeyed
namespace Go.Proofs.Ytabfekfbdacboaa
open Go.RowKit
set_option linter.unusedVariables false

/-- A child's seed. -/
def childI (s b : Int) : Int := (keyed s [47, b] * keyed s [47, b] + 5) % 2147483647
/-- A control bit. -/
def ctrlI (s b : Int) : Int := keyed s [53, b] * keyed s [53, b] % 2147483647 / 128 % 2

theorem sq_bd {q : Int} (h : 0 ≤ q ∧ q ≤ 2147483646) : 0 ≤ q * q ∧ q * q ≤ 4611686009837453316 := by
  refine ⟨Int.mul_nonneg h.1 h.1, ?_⟩
  have := Int.mul_le_mul h.2 h.2 h.1 (by omega : (0 : Int) ≤ 2147483646)
  omega
theorem childI_bd (s b : Int) : 0 ≤ childI s b ∧ childI s b ≤ 2147483646 := by unfold childI; omega
theorem ctrlI_bd (s b : Int) : ctrlI s b = 0 ∨ ctrlI s b = 1 := by unfold ctrlI; omega
theorem in64_lit {n : Int} (h : -9223372036854775808 ≤ n ∧ n ≤ 9223372036854775807) : In64 n := h
theorem in64_of {n : Int} (h : 0 ≤ n ∧ n ≤ 2147483646) : In64 n := by unfold In64; omega

theorem wraps_i64 (n : Int) (h₀ : 0 ≤ n) (h₁ : n < 2 ^ 62) : IntKind.i64.wrap n = n := by rw [IntKind.wrap_i64]; omega
theorem and1 (x : Int) (h : 0 ≤ x) (h2 : x < 4611686018427387904) : bits .and .i64 x 1 = x % 2 := bits_mask .i64 62 (by decide) wraps_i64 1 (by decide) x h h2

/-- A block of two numbers that was just laid. -/
theorem Own.lit2 (k : IntKind) (e : TypeId) (w : World) (lo : Nat) (x y : Int) (h : lo ≤ w.heap.size) : Own k e (w.alloc (.cells #[.int k x, .int k y] e)) lo (.slice (some ⟨w.heap.size, 0, none⟩) 2 2) [x, y] :=
  .inl (World.ownsRow_lit w #[.int k x, .int k y] 2 h (by simp [maxLen]) (by simp))
theorem wf2 {x y : Int} (hx : In64 x) (hy : In64 y) : Wf .i64 [x, y] := Wf.cons (wf64 hx) (Wf.cons (wf64 hy) Wf.nil)

theorem implChild (s b : Int) (w : World) (hs : In64 s) (hb : In64 b) :
    Calls Try.prog 84 #[.int .i64 s, .int .i64 b] w fun e w' => e = .returned (.int .i64 (childI s b)) ∧ Below w.heap.size w w' := by
  go_enter Try.func84, Try.ntmps84
  go_wp2_with fail
  refine (implKeyed s _ [47, b] _ 0 _ (Own.lit2 .i64 3 w 0 47 b (Nat.zero_le _)).rd (wf2 (by unfold In64; omega) hb) hs (Nat.le_refl _) (by simp)).mono ?_
  rintro e w1 ⟨rfl, bel⟩
  have bel' : Below w.heap.size w w1 := ((Below.refl _ w).alloc (Nat.le_refl _) _).trans (bel.mono (by simp))
  have hq := keyed_bd s [47, b]
  have hfin : childI s b = (keyed s [47, b] * keyed s [47, b] + 5) % 2147483647 := rfl
  generalize keyed s [47, b] = q at hq hfin ⊢
  have HF := Lib.hid hfin
  obtain ⟨q0, q1⟩ := sq_bd hq
  clear hq bel hfin
  go_wp2_with fail
  go_ret
  exact ⟨ret_int HF.out.symm, bel'⟩

theorem implCtrl (s b : Int) (w : World) (hs : In64 s) (hb : In64 b) :
    Calls Try.prog 47 #[.int .i64 s, .int .i64 b] w fun e w' => e = .returned (.int .i64 (ctrlI s b)) ∧ Below w.heap.size w w' := by
  go_enter Try.func47, Try.ntmps47
  go_wp2_with fail
  refine (implKeyed s _ [53, b] _ 0 _ (Own.lit2 .i64 3 w 0 53 b (Nat.zero_le _)).rd (wf2 (by unfold In64; omega) hb) hs (Nat.le_refl _) (by simp)).mono ?_
  rintro e w1 ⟨rfl, bel⟩
  have bel' : Below w.heap.size w w1 := ((Below.refl _ w).alloc (Nat.le_refl _) _).trans (bel.mono (by simp))
  have hq := keyed_bd s [53, b]
  have hfin : ctrlI s b = keyed s [53, b] * keyed s [53, b] % 2147483647 / 128 % 2 := rfl
  generalize keyed s [53, b] = q at hq hfin ⊢
  have HF := Lib.hid hfin
  obtain ⟨q0, q1⟩ := sq_bd hq
  clear hq bel hfin
  go_wp2_with fail
  go_ret
  exact ⟨ret_int (by rw [HF.out, and1 _ (by omega) (by omega)]), bel'⟩
end Go.Proofs.Ytabfekfbdacboaa
