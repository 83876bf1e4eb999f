/- Varints in plain words: the bytes of one, and what is read out of bytes. -/
import Derived.Test.YthidfmheeblfeaaBase
import Derived.Laws.Bits128
namespace Go.Proofs.Ythidfmheeblfeaa
open Go.RowKit
set_option linter.unusedVariables false

/-- The bytes of a varint, at most f + 1 of them. -/
def uvF : Nat → Int → List Int
  | 0, n => [n]
  | f + 1, n => if n < 128 then [n] else (n % 128 + 128) :: uvF f (n / 128)
/-- What AppendUvarint appends. -/
def uvE (n : Int) : List Int := if 0 ≤ n ∧ n ≤ 1000000000000 then uvF 5 n else []
/-- What is read out of bytes, in at most f steps, where k have been read and yield n. -/
def uvRd : Nat → Nat → Int → List Int → Option (Int × Nat)
  | 0, _, _, _ => none
  | _ + 1, _, _, [] => none
  | f + 1, k, n, c :: cs =>
    if c < 128 then (if (c = 0 ∧ 0 < k) ∨ 1000000000000 < n + c % 128 * 2 ^ (7 * k) then none else some (n + c % 128 * 2 ^ (7 * k), k + 1))
    else uvRd f (k + 1) (n + c % 128 * 2 ^ (7 * k)) cs
/-- What ReadUvarint gives. -/
def uvR (xs : List Int) (i : Int) : Int × Int × Bool :=
  if i < 0 then (0, 0, false) else match uvRd 6 0 0 (xs.drop i.toNat) with
    | none => (0, 0, false)
    | some (m, k) => (m, i + k, true)

theorem uvF_small {f : Nat} {n : Int} (h : n < 128) : uvF f n = [n] := by
  cases f with
  | zero => rfl
  | succ f => exact if_pos h
theorem uvF_big {f : Nat} {n : Int} (h : ¬ n < 128) : uvF (f + 1) n = (n % 128 + 128) :: uvF f (n / 128) := if_neg h
theorem uvF_length (f : Nat) (n : Int) : 1 ≤ (uvF f n).length ∧ (uvF f n).length ≤ f + 1 := by
  induction f generalizing n with
  | zero => simp [uvF]
  | succ f ih =>
    by_cases h : n < 128
    · rw [uvF_small h]; simp
    · rw [uvF_big h, List.length_cons]; have := ih (n / 128); omega
theorem uvE_length (n : Int) : (uvE n).length ≤ 6 := by
  unfold uvE
  split
  · exact (uvF_length 5 n).2
  · simp
theorem pow128 (f : Nat) : (128 : Int) ^ (f + 1) = 128 ^ f * 128 := Int.pow_succ _ _
theorem uvF_wf (f : Nat) (n : Int) (h0 : 0 ≤ n) (h1 : n < 128 ^ (f + 1)) : ∀ x ∈ uvF f n, 0 ≤ x ∧ x ≤ 255 := by
  induction f generalizing n with
  | zero =>
    intro x hx
    simp [uvF] at hx
    subst hx
    simp at h1
    omega
  | succ f ih =>
    by_cases h : n < 128
    · rw [uvF_small h]
      intro x hx
      simp at hx
      omega
    · rw [uvF_big h]
      intro x hx
      rcases List.mem_cons.1 hx with rfl | hx
      · omega
      · exact ih (n / 128) (by omega) (by rw [pow128 (f + 1)] at h1; omega) x hx
theorem uvE_wf (n : Int) : Wf .u8 (uvE n) := by
  unfold uvE
  split
  · rename_i h
    intro x hx
    have := uvF_wf 5 n h.1 (by omega) x hx
    exact WalkArith.wf_u8 this
  · intro x hx; cases hx

/-- A varint is read back. -/
theorem uvRd_uvF (f k : Nat) (acc n : Int) (rest : List Int) (h0 : 0 ≤ n) (h1 : n < 128 ^ (f + 1)) (hk : 0 < k → n ≠ 0) (hm : acc + n * 2 ^ (7 * k) ≤ 1000000000000) (ha : 0 ≤ acc) :
    uvRd (f + 1) k acc (uvF f n ++ rest) = some (acc + n * 2 ^ (7 * k), k + (uvF f n).length) := by
  induction f generalizing k acc n with
  | zero =>
    simp at h1
    have e : n % 128 = n := by omega
    simp only [uvF, List.cons_append, List.nil_append, uvRd, e, if_pos h1, List.length_singleton]
    rw [if_neg]
    rintro (⟨h2, h3⟩ | h2)
    · exact hk h3 h2
    · omega
  | succ f ih =>
    by_cases h : n < 128
    · have e : n % 128 = n := by omega
      rw [uvF_small h]
      simp only [List.cons_append, List.nil_append, uvRd, e, if_pos h, List.length_singleton]
      rw [if_neg]
      rintro (⟨h2, h3⟩ | h2)
      · exact hk h3 h2
      · omega
    · rw [uvF_big h, List.cons_append, uvRd, if_neg (by omega)]
      have e : (n % 128 + 128) % 128 = n % 128 := by omega
      rw [e]
      have hp : (2 : Int) ^ (7 * (k + 1)) = 2 ^ (7 * k) * 128 := by rw [show 7 * (k + 1) = 7 * k + 7 by omega, Int.pow_add]; rfl
      have hs : acc + n % 128 * 2 ^ (7 * k) + n / 128 * 2 ^ (7 * (k + 1)) = acc + n * 2 ^ (7 * k) := by
        rw [hp, Int.mul_comm (2 ^ (7 * k)) 128, ← Int.mul_assoc, Int.add_assoc, ← Int.add_mul, show n % 128 + n / 128 * 128 = n by omega]
      have p0 : (0 : Int) < 2 ^ (7 * k) := Int.pow_pos (by decide)
      rw [ih (k + 1) (acc + n % 128 * 2 ^ (7 * k)) (n / 128) (by omega) (by rw [pow128 (f + 1)] at h1; omega) (by intro _; omega) (by rw [hs]; exact hm) (by have := Int.mul_nonneg (show 0 ≤ n % 128 by omega) (Int.le_of_lt p0); omega), hs]
      rw [List.length_cons]
      congr 2
      omega

/-- What was read is a varint's bytes. -/
theorem uvRd_take (f k : Nat) (acc : Int) (cs : List Int) (hcs : ∀ c ∈ cs, 0 ≤ c ∧ c ≤ 255) {m : Int} {j : Nat} (h : uvRd f k acc cs = some (m, j)) :
    ∃ q, m = acc + q * 2 ^ (7 * k) ∧ 0 ≤ q ∧ k < j ∧ j - k ≤ cs.length ∧ 1 ≤ f ∧ cs.take (j - k) = uvF (f - 1) q ∧ (0 < k → q ≠ 0) ∧ m ≤ 1000000000000 := by
  induction f generalizing k acc cs with
  | zero => cases h
  | succ f ih =>
    cases cs with
    | nil => cases h
    | cons c cs =>
      have hc := hcs c (by simp)
      rw [uvRd] at h
      split at h
      · rename_i hlt
        split at h
        · cases h
        · rename_i hn
          have e : c % 128 = c := by omega
          rw [e] at h hn
          cases h
          refine ⟨c, rfl, hc.1, by omega, by simp, by omega, ?_, ?_, ?_⟩
          · rw [show k + 1 - k = 1 by omega, uvF_small hlt]; rfl
          · intro hk he; exact hn (.inl ⟨he, hk⟩)
          · have := fun hh => hn (.inr hh); omega
      · rename_i hge
        obtain ⟨q, h1, h2, h3, h4, h5, h6, h7, h8⟩ := ih (k + 1) (acc + c % 128 * 2 ^ (7 * k)) cs (fun x hx => hcs x (by simp [hx])) h
        have hq := h7 (by omega)
        refine ⟨c % 128 + q * 128, ?_, by omega, by omega, by rw [List.length_cons]; omega, by omega, ?_, by intro _; omega, h8⟩
        · have hp : (2 : Int) ^ (7 * (k + 1)) = 2 ^ (7 * k) * 128 := by rw [show 7 * (k + 1) = 7 * k + 7 by omega, Int.pow_add]; rfl
          rw [h1, hp, Int.mul_comm (2 ^ (7 * k)) 128, ← Int.mul_assoc, Int.add_assoc, ← Int.add_mul]
        · rw [show j - k = (j - (k + 1)) + 1 by omega, List.take_succ_cons, h6]
          obtain ⟨g, rfl⟩ : ∃ g, f = g + 1 := ⟨f - 1, by omega⟩
          rw [show g + 1 + 1 - 1 = g + 1 by omega, uvF_big (by omega), show g + 1 - 1 = g by omega]
          congr 1
          · omega
          · congr 1
            omega
end Go.Proofs.Ythidfmheeblfeaa
