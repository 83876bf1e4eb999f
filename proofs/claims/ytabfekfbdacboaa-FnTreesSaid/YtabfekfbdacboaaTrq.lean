/- Leaves, punctured leaves and streams in plain words. -/
import Derived.Test.YtabfekfbdacboaaTrp
import Derived.Test.YtabfekfbdacboaaPleaf
import Derived.Test.YtabfekfbdacboaaTrAll
import Derived.Test.YtabfekfbdacboaaRand
namespace Go.Proofs.Ytabfekfbdacboaa
open Go.RowKit
set_option linter.unusedVariables false

theorem keyed2 (s b : Int) : keyed s [47, b] = ((((11 * 1000003 + s % 2147483647 + 13) % 2147483647 * 1000003 + 47 + 13) % 2147483647 * 1000003 + b % 2147483647 + 13) % 2147483647 * 1000003 + s % 2147483647 + 13) % 2147483647 := rfl
theorem keyed_0 (s : Int) : keyed s [47, 0] = (1049561762 * s + 909670663) % 2147483647 := by
  rw [keyed2]
  omega
theorem keyed_1 (s : Int) : keyed s [47, 1] = (1049561762 * s + 910670666) % 2147483647 := by
  rw [keyed2]
  omega
theorem child_0 (s : Nat) : childI s 0 = (tc0 s : Int) := by
  have h : tc0 s = ((1049561762 * s + 909670663) % 2147483647 * ((1049561762 * s + 909670663) % 2147483647) + 5) % 2147483647 := by
    have h2 : tc0 s = (((1049561762 * s + 909670663) % 2147483647) ^ 2 + 5) % 2147483647 := by kernel_rfl
    rw [h2, Nat.pow_two]
  have hx : (1049561762 * (s : Int) + 909670663) % 2147483647 = (((1049561762 * s + 909670663) % 2147483647 : Nat) : Int) := by omega
  rw [h, childI, keyed_0, hx]
  generalize (1049561762 * s + 909670663) % 2147483647 = y
  have e : (y : Int) * y = ((y * y : Nat) : Int) := (Int.natCast_mul y y).symm
  rw [e]
  generalize y * y = z
  omega
theorem child_1 (s : Nat) : childI s 1 = (tc1 s : Int) := by
  have h : tc1 s = ((1049561762 * s + 910670666) % 2147483647 * ((1049561762 * s + 910670666) % 2147483647) + 5) % 2147483647 := by
    have h2 : tc1 s = (((1049561762 * s + 910670666) % 2147483647) ^ 2 + 5) % 2147483647 := by kernel_rfl
    rw [h2, Nat.pow_two]
  have hx : (1049561762 * (s : Int) + 910670666) % 2147483647 = (((1049561762 * s + 910670666) % 2147483647 : Nat) : Int) := by omega
  rw [h, childI, keyed_1, hx]
  generalize (1049561762 * s + 910670666) % 2147483647 = y
  have e : (y : Int) * y = ((y * y : Nat) : Int) := (Int.natCast_mul y y).symm
  rw [e]
  generalize y * y = z
  omega
theorem bitI_nat (j d : Nat) : bitI (j : Int) d = ((j / 2 ^ d % 2 : Nat) : Int) := by
  unfold bitI
  push_cast
  rfl
theorem descendI_succ (s : Int) (d : Nat) (i : Int) : descendI s (d + 1) i = descendI (childI s (bitI i d)) d i := by kernel_rfl
theorem punctI_succ (s : Int) (d : Nat) (i : Int) : punctI s (d + 1) i = childI s (1 - bitI i d) :: punctI (childI s (bitI i d)) d i := by kernel_rfl
theorem lv_succ (d s : Nat) : lv (d + 1) s = lv d (tc0 s) ++ lv d (tc1 s) := rfl
theorem descend_mod (s : Int) (k j : Nat) : descendI s k ((j % 2 ^ k : Nat) : Int) = descendI s k j := by
  induction k generalizing s j with
  | zero => rfl
  | succ k ih =>
    have e : bitI ((j % 2 ^ (k + 1) : Nat) : Int) k = bitI (j : Int) k := by
      rw [bitI_nat, bitI_nat, Nat.pow_succ, Nat.mod_mul_right_div_self, Nat.mod_mod]
    rw [descendI_succ, descendI_succ, e, ← ih _ (j % 2 ^ (k + 1)), Nat.mod_mod_of_dvd _ (Nat.pow_dvd_pow 2 (Nat.le_succ k)), ih]
theorem leaves_lv (D r : Nat) : (List.range (2 ^ D)).map (fun (i : Nat) => descendI (r : Int) D (i : Int)) = (lv D r).map (fun (n : Nat) => (n : Int)) := by
  induction D generalizing r with
  | zero => rfl
  | succ D ih =>
    rw [Nat.pow_succ, Nat.mul_two, List.range_add, List.map_append, List.map_map, lv_succ, List.map_append, ← ih, ← ih]
    refine congr (congrArg HAppend.hAppend ?_) ?_
    · refine List.map_congr_left fun i hi => ?_
      have hi' := List.mem_range.1 hi
      have e : bitI (i : Int) D = 0 := by rw [bitI_nat, Nat.div_eq_of_lt hi']; rfl
      rw [descendI_succ, e, child_0]
    · refine List.map_congr_left fun i hi => ?_
      have hi' := List.mem_range.1 hi
      have hp : 0 < 2 ^ D := Nat.pow_pos (by decide)
      have e : bitI ((2 ^ D + i : Nat) : Int) D = 1 := by rw [bitI_nat, Nat.add_div_left _ hp, Nat.div_eq_of_lt hi']; rfl
      show descendI (r : Int) (D + 1) ((2 ^ D + i : Nat) : Int) = _
      rw [descendI_succ, e, child_1, ← descend_mod, Nat.add_mod_left, descend_mod]
theorem punct_get (D : Nat) (s : Int) (i j k : Nat) (h : seekI (i : Int) (j : Int) D = some k) : descendI ((punctI s D i)[D - 1 - k]?.getD 0) k ((j : Int) % 2 ^ k) = descendI s D j := by
  induction D generalizing s with
  | zero => cases h
  | succ D ih =>
    by_cases hb : bitI (i : Int) D = bitI (j : Int) D
    · rw [seek_same hb] at h
      have hk := seek_lt h
      rw [punctI_succ, show D + 1 - 1 - k = (D - 1 - k) + 1 by omega, List.getElem?_cons_succ, descendI_succ, ← hb]
      exact ih _ h
    · rw [seek_hit hb] at h
      obtain rfl : D = k := Option.some.inj h
      have hbi := bitI_bd (i : Int) D
      have hbj := bitI_bd (j : Int) D
      have e : 1 - bitI (i : Int) D = bitI (j : Int) D := by omega
      rw [punctI_succ, show D + 1 - 1 - D = 0 by omega, List.getElem?_cons_zero, Option.getD_some, e, descendI_succ]
      have := descend_mod (childI s (bitI (j : Int) D)) D j
      push_cast at this
      exact this
theorem leavesL_lv (D r : Nat) : leavesL (r : Int) D (2 ^ D) = (lv D r).map (fun (n : Nat) => (n : Int)) := leaves_lv D r
theorem lv_bd (D r : Nat) (h : 1 ≤ D) : ∀ x ∈ lv D r, x ≤ 2147483646 := by
  induction D generalizing r with
  | zero => omega
  | succ D ih =>
    rcases Nat.eq_zero_or_pos D with rfl | hp
    · intro x hx
      have h0 : tc0 r ≤ 2147483646 := by have := childI_bd (r : Int) 0; rw [child_0] at this; omega
      have h1 : tc1 r ≤ 2147483646 := by have := childI_bd (r : Int) 1; rw [child_1] at this; omega
      have z : ∀ s, lv 0 s = [s] := fun s => rfl
      rw [lv_succ, z, z, List.mem_append, List.mem_singleton, List.mem_singleton] at hx
      rcases hx with hx | hx
      · rw [hx]; exact h0
      · rw [hx]; exact h1
    · intro x hx
      rw [lv_succ] at hx
      rcases List.mem_append.1 hx with hx | hx
      · exact ih _ hp x hx
      · exact ih _ hp x hx
/-- What the law needs of a tree: the leaves L, the siblings P of place I. -/
theorem tree_facts (D r I : Nat) (hD : 1 ≤ D ∧ D ≤ 5) (hr : r < 65536) (hI : I < 2 ^ D) :
    ∃ L P : List Int, L = leavesAll r D ∧ P = punctAll r D I ∧ L.length = 2 ^ D ∧ P.length = D ∧ Wf .i64 P ∧
      (∀ (i : Nat) (h : i < L.length), 0 ≤ L[i] ∧ L[i] ≤ 2147483646) ∧ (∀ (i : Nat) (h : i < L.length), leafI r D i = L[i]) ∧
      (∀ (i : Nat) (h : i < L.length), i ≠ I → pleaf P I i = (L[i], true)) ∧ pleaf P I I = (0, false) ∧
      (∀ (i k : Nat) (h : i < L.length) (g : k < i), (L[k]'(by omega) == L[i]) = false) := by
  have hT : ((D : Int)).toNat = D := Int.toNat_natCast D
  have hP : ((2 ^ D : Nat) : Int) = 2 ^ D := by simp
  have isL : ∀ i : Nat, i < 2 ^ D → IsLeaf (D : Int) (i : Int) := fun i hi => ⟨by omega, by omega, by omega, by rw [hT, ← hP]; exact_mod_cast hi⟩
  have eL : leavesAll (r : Int) D = leavesL r D (2 ^ D) := by rw [leavesAll_yes (by omega) (by omega), hT]
  have eP : punctAll (r : Int) D I = punctI r D I := by rw [punctAll_yes (isL I hI), hT]
  have hl : (leavesL (r : Int) D (2 ^ D)).length = 2 ^ D := leavesL_length _ _ _
  have hpl : (punctI (r : Int) D I).length = D := punctI_length _ _ _
  have hg : ∀ (i : Nat) (h : i < (leavesL (r : Int) D (2 ^ D)).length), (leavesL (r : Int) D (2 ^ D))[i] = descendI r D i := by
    intro i h
    simp [leavesL]
  have bnd : ∀ (i : Nat) (h : i < (leavesL (r : Int) D (2 ^ D)).length), 0 ≤ (leavesL (r : Int) D (2 ^ D))[i] ∧ (leavesL (r : Int) D (2 ^ D))[i] ≤ 2147483646 := by
    intro i h
    have hm : ∀ y ∈ leavesL (r : Int) D (2 ^ D), 0 ≤ y ∧ y ≤ 2147483646 := by
      intro y hy
      rw [leavesL_lv] at hy
      obtain ⟨n, hn, rfl⟩ := List.mem_map.1 hy
      have := lv_bd D r hD.1 n hn
      omega
    exact hm _ (List.getElem_mem h)
  refine ⟨_, _, eL.symm, eP.symm, hl, hpl, ?_, bnd, ?_, ?_, ?_, ?_⟩
  · clear bnd hg hl eL eP isL hI
    have : ∀ (s : Int) (d : Nat) (i : Int), Wf .i64 (punctI s d i) := by
      intro s d i
      induction d generalizing s with
      | zero => intro n hn; cases hn
      | succ d ih =>
        rw [punctI_succ]
        exact Wf.cons (wf64 (in64_of (childI_bd _ _))) (ih _)
    exact this _ _ _
  · intro i h
    rw [hg, leafI_yes (isL i (by omega)), hT]
  · intro i h hne
    have hs : ∃ k, seekI (I : Int) (i : Int) D = some k := by
      rcases e : seekI (I : Int) (i : Int) D with _ | k
      · have a := (isL I hI)
        have b := (isL i (by omega))
        have := seek_none ⟨a.2.2.1, by have := a.2.2.2; rwa [hT] at this⟩ ⟨b.2.2.1, by have := b.2.2.2; rwa [hT] at this⟩ e
        omega
      · exact ⟨k, rfl⟩
    obtain ⟨k, hk⟩ := hs
    have c := pleaf_hit (xs := punctI (r : Int) D I) (i := (I : Int)) (j := (i : Int)) (k := k) (by rw [hpl]; exact isL I hI) (by rw [hpl]; exact isL i (by omega)) (by omega) (by rw [hpl]; exact hk)
    rw [c, hpl, punct_get D r I i k hk, hg]
  · exact pleaf_no (fun hh => hh.2.2.2 rfl)
  · intro i k h g
    have nd := tr_nodup D r hD.2 hr
    rw [beq_eq_false_iff_ne]
    intro he
    have nd2 : (leavesL (r : Int) D (2 ^ D)).Nodup := by
      rw [leavesL_lv]
      exact List.pairwise_map.2 (nd.imp (fun hn e => hn (by exact_mod_cast e)))
    have := (List.pairwise_iff_getElem.1 nd2) k i (by omega) h g
    exact this he
theorem strL_take (s : Int) (m n : Nat) (h : m ≤ n) : (strL s n).take m = strL s m := by
  unfold strL
  rw [← List.map_take, List.take_range, Nat.min_eq_left h]
end Go.Proofs.Ytabfekfbdacboaa
