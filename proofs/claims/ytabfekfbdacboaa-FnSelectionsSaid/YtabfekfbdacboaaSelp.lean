/- Selections in plain words: packed and unpacked, added up, and what they select. -/
import Derived.Test.YtabfekfbdacboaaUnpack
import Derived.Test.YtabfekfbdacboaaDraw5
import Derived.Test.YtabfekfbdacboaaXor2
import Derived.Test.YtabfekfbdacboaaUnit
namespace Go.Proofs.Ytabfekfbdacboaa
open Go.RowKit
set_option linter.unusedVariables false

theorem packB_bit (l : List Int) (h : ∀ x ∈ l, 0 ≤ x ∧ x ≤ 1) (j : Nat) (hj : j < l.length) : packB l / 2 ^ j % 2 = l[j] := by
  induction l generalizing j with
  | nil => simp at hj
  | cons x xs ih =>
    have hx := h x (by simp)
    have hb := packB_bd xs (fun y hy => h y (by simp [hy]))
    cases j with
    | zero =>
      simp only [packB, Int.pow_zero, Int.ediv_one, List.getElem_cons_zero]
      omega
    | succ j =>
      rw [List.getElem_cons_succ, ← ih (fun y hy => h y (by simp [hy])) j (by simpa using hj), packB, Int.pow_succ, Int.mul_comm (2 ^ j) 2, ← Int.ediv_ediv_of_nonneg (by omega)]
      congr 2
      omega
theorem chunk_get {v : List Int} {i : Nat} (h : i < v.length) : (chunk v (i / 8))[i % 8]? = some v[i] := by
  unfold chunk
  rw [List.getElem?_take_of_lt (by omega), List.getElem?_drop, show 8 * (i / 8) + i % 8 = i by omega, List.getElem?_eq_getElem h]
theorem bitAt_pack {v : List Int} (hb : bitsB v = true) {i : Nat} (h : i < v.length) : bitAt (packSt v v.length) i = v[i] := by
  have e : (packSt v v.length)[1 + i / 8]? = some (packB (chunk v (i / 8))) := by
    unfold packSt
    rw [show 1 + i / 8 = i / 8 + 1 by omega, List.getElem?_cons_succ, List.getElem?_map, List.getElem?_range (by omega), List.take_of_length_le (Nat.le_refl _)]
    rfl
  have hg := chunk_get h
  obtain ⟨hl, hv⟩ := List.getElem?_eq_some_iff.1 hg
  unfold bitAt
  rw [List.getD_eq_getElem?_getD, e, Option.getD_some, packB_bit _ (fun x hx => ?_) _ hl, hv]
  have hx' : x ∈ v := List.mem_of_mem_drop (List.mem_of_mem_take hx)
  obtain ⟨k, hk, rfl⟩ := List.getElem_of_mem hx'
  exact bitsB_at hb hk
theorem bitsOf_pack {v : List Int} (hb : bitsB v = true) : bitsOf (packSt v v.length) v.length = v := by
  apply List.ext_getElem (by simp [bitsOf])
  intro i h1 h2
  simp only [bitsOf, List.getElem_map, List.getElem_range]
  exact bitAt_pack hb h2
theorem unp_pack (v : List Int) (h : isSel v v.length = true) : unpL (packAll v) = (v, true) := by
  obtain ⟨hb, _, h64⟩ := isSel_iff h
  have hh : (packSt v v.length).headD 0 = (v.length : Int) := rfl
  have hp : Packed (packSt v v.length) := ⟨by rw [packSt_length]; omega, by rw [hh]; omega, by rw [hh, packSt_length]; omega⟩
  rw [packAll_yes h, unpL_yes hh hp (by rw [bitsOf_pack hb, packAll_yes h]), bitsOf_pack hb]
theorem unp_nopack (v : List Int) (h : ¬ isSel v v.length = true) : unpL (packAll v) = ([], false) := by
  rw [packAll_no h]
  exact unpL_no (fun hp => by have := hp.1; simp at this)
theorem pack_unp (b : List Int) (h : (unpL b).2 = true) : packAll (unpL b).1 = b := by
  unfold unpL at h ⊢
  split
  · rename_i hq; exact hq.2
  · rename_i hq; rw [if_neg hq] at h; cases h

/-- A number of a byte string, 0 beyond its end. -/
def val (xs : List Int) (i : Nat) : Int := xs[i]?.getD 0
theorem val_bd {xs : List Int} (f : Wf .u8 xs) (i : Nat) : 0 ≤ val xs i ∧ val xs i ≤ 255 := by
  unfold val
  rcases h : xs[i]? with _ | x
  · simp
  · exact bd8 (f x (List.mem_of_getElem? h))
theorem val_xor {xs ys : List Int} (f : Wf .u8 xs) (g : Wf .u8 ys) (i : Nat) : val (xorL xs ys) i = x8 (val xs i) (val ys i) := by
  by_cases h1 : i < xs.length
  · by_cases h2 : i < ys.length
    · unfold val
      rw [xorL_both h1 h2, List.getElem?_eq_getElem h1, List.getElem?_eq_getElem h2]; rfl
    · have hb := bd8 (f xs[i] (List.getElem_mem h1))
      unfold val
      rw [xorL_left h1 h2, List.getElem?_eq_getElem h1, List.getElem?_eq_none (by omega)]
      simp only [Option.getD_some, Option.getD_none]
      rw [x8_comm, x8_zero hb]
  · by_cases h2 : i < ys.length
    · have hb := bd8 (g ys[i] (List.getElem_mem h2))
      unfold val
      rw [xorL_right h1 h2, List.getElem?_eq_getElem h2, List.getElem?_eq_none (by omega)]
      simp only [Option.getD_some, Option.getD_none]
      rw [x8_zero hb]
    · unfold val
      rw [List.getElem?_eq_none (by rw [xorL_length]; omega), List.getElem?_eq_none (by omega), List.getElem?_eq_none (by omega)]
      simp only [Option.getD_none]
      exact (x8_zero ⟨by omega, by omega⟩).symm
theorem zeros_val {xs : List Int} (h : ∀ i, val xs i = 0) : zeros xs = true := by
  unfold zeros
  rw [List.all_eq_true]
  intro x hx
  obtain ⟨i, hi, rfl⟩ := List.getElem_of_mem hx
  have := h i
  unfold val at this
  rw [List.getElem?_eq_getElem hi] at this
  simpa using this
theorem x8_nat (m n : Nat) (hm : m < 256) (hn : n < 256) : x8 (m : Int) (n : Int) = ((m ^^^ n : Nat) : Int) ∧ m ^^^ n < 256 :=
  ⟨x8_int ⟨by omega, by omega⟩ ⟨by omega, by omega⟩, Nat.xor_lt_two_pow (n := 8) hm hn⟩
theorem x8_step (a b c r : Int) (ha : 0 ≤ a ∧ a ≤ 255) (hb : 0 ≤ b ∧ b ≤ 255) (hc : 0 ≤ c ∧ c ≤ 255) (hr : 0 ≤ r ∧ r ≤ 255) :
    x8 (x8 (x8 a r) (x8 b r)) c = x8 (x8 a b) c ∧ x8 (x8 (x8 a r) b) (x8 c r) = x8 (x8 a b) c ∧ x8 (x8 a (x8 b r)) (x8 c r) = x8 (x8 a b) c := by
  obtain ⟨A, rfl⟩ := Int.eq_ofNat_of_zero_le ha.1
  obtain ⟨B, rfl⟩ := Int.eq_ofNat_of_zero_le hb.1
  obtain ⟨C, rfl⟩ := Int.eq_ofNat_of_zero_le hc.1
  obtain ⟨R, rfl⟩ := Int.eq_ofNat_of_zero_le hr.1
  have hA : A < 256 := by omega
  have hB : B < 256 := by omega
  have hC : C < 256 := by omega
  have hR : R < 256 := by omega
  obtain ⟨e1, l1⟩ := x8_nat A R hA hR
  obtain ⟨e2, l2⟩ := x8_nat B R hB hR
  obtain ⟨e3, l3⟩ := x8_nat C R hC hR
  obtain ⟨e4, l4⟩ := x8_nat A B hA hB
  obtain ⟨e5, l5⟩ := x8_nat _ _ l1 l2
  obtain ⟨e6, l6⟩ := x8_nat _ _ l1 hB
  obtain ⟨e7, l7⟩ := x8_nat _ _ hA l2
  refine ⟨?_, ?_, ?_⟩
  · rw [e1, e2, e5, (x8_nat _ _ l5 hC).1, e4, (x8_nat _ _ l4 hC).1]
    congr 1
    apply Nat.eq_of_testBit_eq
    intro i
    simp only [Nat.testBit_xor]
    cases A.testBit i <;> cases B.testBit i <;> cases C.testBit i <;> cases R.testBit i <;> rfl
  · rw [e1, e3, e6, (x8_nat _ _ l6 l3).1, e4, (x8_nat _ _ l4 hC).1]
    congr 1
    apply Nat.eq_of_testBit_eq
    intro i
    simp only [Nat.testBit_xor]
    cases A.testBit i <;> cases B.testBit i <;> cases C.testBit i <;> cases R.testBit i <;> rfl
  · rw [e2, e3, e7, (x8_nat _ _ l7 l3).1, e4, (x8_nat _ _ l4 hC).1]
    congr 1
    apply Nat.eq_of_testBit_eq
    intro i
    simp only [Nat.testBit_xor]
    cases A.testBit i <;> cases B.testBit i <;> cases C.testBit i <;> cases R.testBit i <;> rfl
theorem bit_cases {x : Int} (h : 0 ≤ x ∧ x ≤ 1) : x = 0 ∨ x = 1 := by omega
theorem sel_inv (xss : List (List Int)) (p q : List Int) (hp : p.length = xss.length) (hq : q.length = xss.length) (bp : bitsB p = true) (bq : bitsB q = true) (f : ∀ zs ∈ xss, Wf .u8 zs)
    (a1 a2 a3 : List Int) (f1 : Wf .u8 a1) (f2 : Wf .u8 a2) (f3 : Wf .u8 a3) (h : ∀ i, x8 (x8 (val a1 i) (val a2 i)) (val a3 i) = 0) (i : Nat) :
    x8 (x8 (val (selF a1 xss p) i) (val (selF a2 xss q) i)) (val (selF a3 xss (xorS p q)) i) = 0 := by
  induction xss generalizing p q a1 a2 a3 with
  | nil => simp only [selF]; exact h i
  | cons r xss ih =>
    cases p with
    | nil => simp at hp
    | cons x p => cases q with
      | nil => simp at hq
      | cons y q =>
        have fr := f r (by simp)
        have hx : 0 ≤ x ∧ x ≤ 1 := bitsB_at bp (k := 0) (by simp)
        have hy : 0 ≤ y ∧ y ≤ 1 := bitsB_at bq (k := 0) (by simp)
        have bp' : bitsB p = true := by unfold bitsB at bp ⊢; rw [List.all_cons, Bool.and_eq_true] at bp; exact bp.2
        have bq' : bitsB q = true := by unfold bitsB at bq ⊢; rw [List.all_cons, Bool.and_eq_true] at bq; exact bq.2
        have go := ih p q (by simpa using hp) (by simpa using hq) bp' bq' (fun z hz => f z (by simp [hz]))
        have st := fun j => x8_step (val a1 j) (val a2 j) (val a3 j) (val r j) (val_bd f1 j) (val_bd f2 j) (val_bd f3 j) (val_bd fr j)
        have e : xorS (x :: p) (y :: q) = bits .xor .i64 x y :: xorS p q := rfl
        rw [e]
        rcases bit_cases hx with rfl | rfl <;> rcases bit_cases hy with rfl | rfl
        · rw [show bits .xor .i64 0 0 = 0 by decide]
          exact go a1 a2 a3 f1 f2 f3 h
        · rw [show bits .xor .i64 0 1 = 1 by decide]
          exact go a1 (xorL a2 r) (xorL a3 r) f1 (xorL_wf f2 fr) (xorL_wf f3 fr) (fun j => by rw [val_xor f2 fr, val_xor f3 fr, (st j).2.2]; exact h j)
        · rw [show bits .xor .i64 1 0 = 1 by decide]
          exact go (xorL a1 r) a2 (xorL a3 r) (xorL_wf f1 fr) f2 (xorL_wf f3 fr) (fun j => by rw [val_xor f1 fr, val_xor f3 fr, (st j).2.1]; exact h j)
        · rw [show bits .xor .i64 1 1 = 0 by decide]
          exact go (xorL a1 r) (xorL a2 r) a3 (xorL_wf f1 fr) (xorL_wf f2 fr) f3 (fun j => by rw [val_xor f1 fr, val_xor f2 fr, (st j).1]; exact h j)
theorem sel_zero (xss : List (List Int)) (p q : List Int) (hp : p.length = xss.length) (hq : q.length = xss.length) (bp : bitsB p = true) (bq : bitsB q = true) (f : ∀ zs ∈ xss, Wf .u8 zs) :
    zeros (xorL (xorL (selX xss p) (selX xss q)) (selX xss (xorS p q))) = true := by
  apply zeros_val
  intro i
  have n : Wf .u8 [] := fun u hu => by cases hu
  rw [val_xor (xorL_wf (selX_wf p f) (selX_wf q f)) (selX_wf _ f), val_xor (selX_wf p f) (selX_wf q f)]
  exact sel_inv xss p q hp hq bp bq f [] [] [] n n n (fun j => by rw [show val [] j = 0 by unfold val; simp]; decide) i
end Go.Proofs.Ytabfekfbdacboaa
