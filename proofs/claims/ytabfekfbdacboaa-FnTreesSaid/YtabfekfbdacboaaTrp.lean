/- The leaves of trees in plain words: children as natural numbers; a check that the leaves of depth 5 are different. -/
import Derived.Test.YtabfekfbdacboaaPrg
namespace Go.Proofs.Ytabfekfbdacboaa
open Go.RowKit
set_option linter.unusedVariables false

/-- A node's children. -/
def tc0 (s : Nat) : Nat := Nat.mod (Nat.add (Nat.pow (Nat.mod (Nat.add (Nat.mul (nat_lit 1049561762) s) (nat_lit 909670663)) (nat_lit 2147483647)) (nat_lit 2)) (nat_lit 5)) (nat_lit 2147483647)
def tc1 (s : Nat) : Nat := Nat.mod (Nat.add (Nat.pow (Nat.mod (Nat.add (Nat.mul (nat_lit 1049561762) s) (nat_lit 910670666)) (nat_lit 2147483647)) (nat_lit 2)) (nat_lit 5)) (nat_lit 2147483647)
/-- The leaves below s, d levels down. -/
def lv : Nat → Nat → List Nat
  | 0, s => [s]
  | d + 1, s => lv d (tc0 s) ++ lv d (tc1 s)
/-- A set of bits m, one more; 0 if it was there. -/
def tbit (M x m : Nat) : Nat := cond (Nat.beq (Nat.land m (Nat.pow (nat_lit 2) (Nat.mod x M))) (nat_lit 0)) (Nat.lor m (Nat.pow (nat_lit 2) (Nat.mod x M))) (nat_lit 0)
def tnz (m : Nat) (f : Nat → Nat) : Nat := cond (Nat.beq m (nat_lit 0)) (nat_lit 0) (f m)
def tk1 (M s m : Nat) : Nat := tnz (tbit M (tc0 s) m) (fun m' => tbit M (tc1 s) m')
def tk2 (M s m : Nat) : Nat := tnz (tk1 M (tc0 s) m) (fun m' => tk1 M (tc1 s) m')
def tk3 (M s m : Nat) : Nat := tnz (tk2 M (tc0 s) m) (fun m' => tk2 M (tc1 s) m')
def tk4 (M s m : Nat) : Nat := tnz (tk3 M (tc0 s) m) (fun m' => tk3 M (tc1 s) m')
def tk5 (M s m : Nat) : Nat := tnz (tk4 M (tc0 s) m) (fun m' => tk4 M (tc1 s) m')
def tok1 (M r : Nat) : Bool := cond (Nat.beq (tk5 M r (Nat.pow (nat_lit 2) M)) (nat_lit 0)) false true
def tok (r : Nat) : Bool := or (tok1 (nat_lit 4096) r) (or (tok1 (nat_lit 4095) r) (or (tok1 (nat_lit 4093) r) (or (tok1 (nat_lit 4091) r) (or (tok1 (nat_lit 4079) r) (tok1 (nat_lit 8191) r)))))
def tall : Nat → Nat → Bool
  | 0, a => tok a
  | k + 1, a => and (tall k a) (tall k (Nat.add a (Nat.pow (nat_lit 2) k)))
theorem tall_get (k a : Nat) (h : tall k a = true) (r : Nat) (h0 : a ≤ r) (h1 : r < a + 2 ^ k) : tok r = true := by
  induction k generalizing a with
  | zero => obtain rfl : r = a := by simp at h1; omega
            exact h
  | succ k ih =>
    have h' : (tall k a && tall k (a + 2 ^ k)) = true := h
    rw [Bool.and_eq_true] at h'
    rw [Nat.pow_succ] at h1
    rcases Nat.lt_or_ge r (a + 2 ^ k) with hl | hl
    · exact ih a h'.1 h0 hl
    · exact ih _ h'.2 hl (by omega)
/-- k takes the leaves at depth d into the set. -/
def TGood (d : Nat) (k : Nat → Nat → Nat → Nat) : Prop :=
  ∀ M s m, k M s m ≠ 0 → ((lv d s).map (· % M)).Nodup ∧ (∀ x ∈ (lv d s).map (· % M), m.testBit x = false) ∧ ∀ y, (k M s m).testBit y = (m.testBit y || decide (y ∈ (lv d s).map (· % M)))
theorem tbit_eq (M x m : Nat) : tbit M x m = if m &&& 2 ^ (x % M) = 0 then m ||| 2 ^ (x % M) else 0 := by
  show cond (Nat.beq (m &&& 2 ^ (x % M)) 0) (m ||| 2 ^ (x % M)) 0 = _
  by_cases h : m &&& 2 ^ (x % M) = 0
  · rw [if_pos h, h]; rfl
  · rw [if_neg h]
    have : Nat.beq (m &&& 2 ^ (x % M)) 0 = false := by
      rw [← Bool.not_eq_true]; intro hb; exact h (Nat.eq_of_beq_eq_true hb)
    rw [this]; rfl
theorem tgood0 : TGood 0 tbit := by
  intro M s m h
  rw [tbit_eq] at h ⊢
  split at h
  · rename_i hz
    rw [if_pos hz]
    refine ⟨by simp [lv], ?_, ?_⟩
    · intro x hx
      simp [lv] at hx
      subst hx
      have : (m &&& 2 ^ (s % M)).testBit (s % M) = false := by rw [hz]; exact Nat.zero_testBit _
      rw [Nat.testBit_and, Nat.testBit_two_pow_self, Bool.and_true] at this
      exact this
    · intro y
      rw [Nat.testBit_or, Nat.testBit_two_pow]
      congr 1
      simp [lv, eq_comm]
  · exact absurd rfl h
theorem tnz_eq (m : Nat) (f : Nat → Nat) (h : tnz m f ≠ 0) : m ≠ 0 ∧ tnz m f = f m := by
  unfold tnz at h ⊢
  cases hb : Nat.beq m 0 with
  | true => simp only [hb] at h; exact absurd rfl h
  | false =>
    refine ⟨fun e => ?_, rfl⟩
    rw [e] at hb
    cases hb
theorem tgood_succ {d : Nat} {k : Nat → Nat → Nat → Nat} (hk : TGood d k) : TGood (d + 1) (fun M s m => tnz (k M (tc0 s) m) (fun m' => k M (tc1 s) m')) := by
  intro M s m h
  obtain ⟨h1, h2⟩ := tnz_eq _ _ h
  simp only at h ⊢
  rw [h2] at h ⊢
  obtain ⟨a1, a2, a3⟩ := hk M (tc0 s) m h1
  obtain ⟨b1, b2, b3⟩ := hk M (tc1 s) _ h
  have e : (lv (d + 1) s).map (· % M) = (lv d (tc0 s)).map (· % M) ++ (lv d (tc1 s)).map (· % M) := by rw [lv, List.map_append]
  rw [e]
  refine ⟨?_, ?_, ?_⟩
  · rw [List.nodup_append]
    refine ⟨a1, b1, fun x hx y hy hxy => ?_⟩
    subst hxy
    have h3 := b2 x hy
    rw [a3, Bool.or_eq_false_iff] at h3
    have := h3.2
    simp at this
    exact absurd hx (by simpa using this)
  · intro x hx
    rcases List.mem_append.1 hx with hx | hx
    · exact a2 x hx
    · have h3 := b2 x hx
      rw [a3, Bool.or_eq_false_iff] at h3
      exact h3.1
  · intro y
    rw [b3, a3, Bool.or_assoc]
    congr 1
    rw [← Bool.decide_or]
    simp only [List.mem_append]
theorem tgood5 : TGood 5 tk5 := tgood_succ (tgood_succ (tgood_succ (tgood_succ (tgood_succ tgood0))))
theorem tok1_nodup {M r : Nat} (h : tok1 M r = true) : (lv 5 r).Nodup := by
  unfold tok1 at h
  have h0 : tk5 M r (Nat.pow 2 M) ≠ 0 := by
    intro e
    rw [e] at h
    cases h
  exact (List.pairwise_map.1 (tgood5 M r _ h0).1).imp (fun hn e => hn (by rw [e]))
theorem tok_nodup {r : Nat} (h : tok r = true) : (lv 5 r).Nodup := by
  unfold tok at h
  simp only [Bool.or_eq_true] at h
  rcases h with h | h | h | h | h | h <;> exact tok1_nodup h
theorem lv_add (D e s : Nat) : lv (D + e) s = (lv D s).flatMap (lv e) := by
  induction D generalizing s with
  | zero => simp [lv]
  | succ D ih => rw [show D + 1 + e = (D + e) + 1 by omega, lv, ih, ih, lv, List.flatMap_append]
theorem lv_ne (d s : Nat) : lv d s ≠ [] := by
  induction d generalizing s with
  | zero => simp [lv]
  | succ d ih => simp [lv, ih]
theorem nodup_of_flat {l : List Nat} {f : Nat → List Nat} (hf : ∀ x, f x ≠ []) (h : (l.flatMap f).Nodup) : l.Nodup := by
  induction l with
  | nil => exact List.nodup_nil
  | cons x xs ih =>
    rw [List.flatMap_cons, List.nodup_append] at h
    rw [List.nodup_cons]
    refine ⟨fun hx => ?_, ih h.2.1⟩
    obtain ⟨y, hy⟩ := List.exists_mem_of_ne_nil _ (hf x)
    exact h.2.2 y hy y (List.mem_flatMap.2 ⟨x, hx, hy⟩) rfl
theorem lv_nodup {D r : Nat} (hD : D ≤ 5) (h : (lv 5 r).Nodup) : (lv D r).Nodup := by
  rw [show (5 : Nat) = D + (5 - D) by omega, lv_add] at h
  exact nodup_of_flat (lv_ne _) h
end Go.Proofs.Ytabfekfbdacboaa
