/- Encodings in plain words: what was encoded is decoded. -/
import Derived.Test.YthidfmheeblfeaaEnc
namespace Go.Proofs.Ythidfmheeblfeaa
open Go.RowKit
set_option linter.unusedVariables false

theorem uvR_uvE (b rest : List Int) (n : Int) (h : 0 ≤ n ∧ n ≤ 1000000000000) : uvR (b ++ (uvE n ++ rest)) (b.length : Int) = (n, (b.length : Int) + (uvE n).length, true) := by
  have e : uvRd 6 0 0 ((b ++ (uvE n ++ rest)).drop (b.length : Int).toNat) = some (n, (uvE n).length) := by
    rw [Int.toNat_natCast, List.drop_left, uvE_yes h]
    have := uvRd_uvF 5 0 0 n rest h.1 (by omega) (by omega) (by omega) (by omega)
    simpa using this
  exact uvR_some (by omega) e
theorem uvR_end (xs : List Int) : uvR xs (xs.length : Int) = (0, 0, false) :=
  uvR_none (by omega) (by rw [Int.toNat_natCast, List.drop_length]; rfl)
theorem rdB_apB (b data : List Int) (m : Int) (h : data.length ≤ 1000000) (hm : data.length ≤ m) : rdB (b ++ (uvE (data.length : Int) ++ data)) (b.length : Int) m = (data, ((b ++ (uvE (data.length : Int) ++ data)).length : Int), true) := by
  have hu := uvR_uvE b data (data.length : Int) ⟨by omega, by omega⟩
  rw [rdB_ok hu hm (by simp only [List.length_append]; omega)]
  have e1 : ((b.length : Int) + (uvE (data.length : Int)).length).toNat = (b ++ uvE (data.length : Int)).length := by rw [List.length_append]; omega
  rw [e1, ← List.append_assoc, List.drop_left, Int.toNat_natCast, List.take_length]
  simp only [List.length_append]
  congr 2
theorem rdB_short (b data : List Int) (m : Int) (h : data.length ≤ 1000000) (hm : m < data.length) : rdB (b ++ (uvE (data.length : Int) ++ data)) (b.length : Int) m = ([], 0, false) :=
  rdB_no (uvR_uvE b data (data.length : Int) ⟨by omega, by omega⟩) (fun hh => by omega)
theorem decF_encL (pre l : List Int) (hl : ∀ x ∈ l, 0 ≤ x ∧ x ≤ 1000000000000) (n : Nat) : decF (pre ++ encL l) (l.length + n) (pre.length : Int) = (decF (pre ++ encL l) n ((pre ++ encL l).length : Int)).map fun p => (l ++ p.1, p.2) := by
  induction l generalizing pre with
  | nil => simp [encL]
  | cons x xs ih =>
    have hx := hl x (by simp)
    have e : encL (x :: xs) = uvE x ++ encL xs := by simp [encL]
    rw [e, List.length_cons, show xs.length + 1 + n = (xs.length + n) + 1 by omega, decF_ok (uvR_uvE pre (encL xs) x hx)]
    have e2 : (pre.length : Int) + (uvE x).length = ((pre ++ uvE x).length : Int) := by rw [List.length_append]; omega
    rw [e2, ← List.append_assoc, ih (pre ++ uvE x) (fun y hy => hl y (by simp [hy])), Option.map_map]
    rfl
theorem decI_encL (l : List Int) (hl : ∀ x ∈ l, 0 ≤ x ∧ x ≤ 1000000000000) (h : l.length ≤ 99) : decI (encL l) 0 l.length = (l, ((encL l).length : Int), true) := by
  have e := decF_encL [] l hl 0
  simp only [List.nil_append, List.length_nil, Nat.add_zero, decF, Option.map_some, List.append_nil] at e
  exact decI_ok (p := (l, ((encL l).length : Int))) ⟨⟨by omega, by omega⟩, by omega, by omega⟩ (by rw [Int.toNat_natCast]; exact e)
theorem decI_more (l : List Int) (hl : ∀ x ∈ l, 0 ≤ x ∧ x ≤ 1000000000000) (h : l.length ≤ 99) : decI (encL l) 0 (l.length + 1) = ([], 0, false) := by
  have e := decF_encL [] l hl 1
  simp only [List.nil_append, List.length_nil] at e
  refine decI_bad ⟨⟨by omega, by omega⟩, by omega, by omega⟩ ?_
  rw [show ((l.length : Int) + 1).toNat = l.length + 1 by omega]
  refine e.trans ?_
  rw [decF_bad (uvR_end _)]
  rfl
end Go.Proofs.Ythidfmheeblfeaa
