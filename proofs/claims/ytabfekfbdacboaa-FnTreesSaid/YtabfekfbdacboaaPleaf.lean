/- PuncturedLeaf, of the program and of the reference. -/
import Derived.Test.YtabfekfbdacboaaLeaf
import Derived.Deep.RegionWith
import Derived.Deep.RegionHeld3
namespace Go.Proofs.Ytabfekfbdacboaa
open Go.RowKit
set_option linter.unusedVariables false

/-- The highest of the d lowest bits in which two numbers differ. -/
def seekI (i j : Int) : Nat → Option Nat
  | 0 => none
  | d + 1 => if bitI i d = bitI j d then seekI i j d else some d
/-- What PuncturedLeaf gives. -/
def pleaf (xs : List Int) (i j : Int) : Int × Bool :=
  if (0 ≤ i ∧ i < 2 ^ xs.length) ∧ (0 ≤ j ∧ j < 2 ^ xs.length) ∧ xs.length ≤ 6 ∧ i ≠ j then
    match seekI i j xs.length with
    | some k => (descendI (xs[xs.length - 1 - k]?.getD 0) k (j % 2 ^ k), true)
    | none => (0, false)
  else (0, false)
theorem seek_lt {i j : Int} {d k : Nat} (h : seekI i j d = some k) : k < d := by
  induction d with
  | zero => cases h
  | succ d ih =>
    rw [seekI] at h
    split at h
    · have := ih h; omega
    · cases h; omega
theorem seek_mod {i j : Nat} {d : Nat} (h : seekI i j d = none) : i % 2 ^ d = j % 2 ^ d := by
  induction d with
  | zero => simp [Nat.mod_one]
  | succ d ih =>
    rw [seekI] at h
    split at h
    · rename_i hb
      have e : i / 2 ^ d % 2 = j / 2 ^ d % 2 := by unfold bitI at hb; exact_mod_cast hb
      rw [Nat.pow_succ, Nat.mod_mul, Nat.mod_mul, ih h, e]
    · cases h
theorem seek_none {i j : Int} {d : Nat} (hi : 0 ≤ i ∧ i < 2 ^ d) (hj : 0 ≤ j ∧ j < 2 ^ d) (h : seekI i j d = none) : i = j := by
  obtain ⟨a, rfl⟩ := Int.eq_ofNat_of_zero_le hi.1
  obtain ⟨b, rfl⟩ := Int.eq_ofNat_of_zero_le hj.1
  have e := seek_mod h
  rw [Nat.mod_eq_of_lt (by exact_mod_cast hi.2), Nat.mod_eq_of_lt (by exact_mod_cast hj.2)] at e
  rw [e]
theorem seek_same {i j : Int} {d : Nat} (h : bitI i d = bitI j d) : seekI i j (d + 1) = seekI i j d := if_pos h
theorem seek_hit {i j : Int} {d : Nat} (h : ¬ bitI i d = bitI j d) : seekI i j (d + 1) = some d := if_neg h
theorem pleaf_hit {xs : List Int} {i j : Int} {k : Nat} (h1 : IsLeaf xs.length i) (h2 : IsLeaf xs.length j) (h3 : ¬ i = j) (hk : seekI i j xs.length = some k) : pleaf xs i j = (descendI (xs[xs.length - 1 - k]?.getD 0) k (j % 2 ^ k), true) := by
  have a := h1.2.2
  have b := h2.2.2
  have c := h1.2.1
  rw [Int.toNat_natCast] at a b
  rw [pleaf, if_pos ⟨a, b, by omega, h3⟩, hk]
theorem and_mask {j : Int} (k : Nat) (h0 : 0 ≤ j) (h1 : j < 64) (hk : k ≤ 6) : bits .and .i64 j (2 ^ k - 1) = j % 2 ^ k :=
  bits_mask .i64 62 (by decide) wraps_i64 k (by omega) j h0 (by omega)
theorem pleaf_no {xs : List Int} {i j : Int} (h : ¬ ((0 ≤ i ∧ i < 2 ^ xs.length) ∧ (0 ≤ j ∧ j < 2 ^ xs.length) ∧ xs.length ≤ 6 ∧ i ≠ j)) : pleaf xs i j = (0, false) := if_neg h
theorem ret_two {a b : Int} {c d : Bool} (h : (a, c) = (b, d)) : Ending.returned (.tuple #[.int .i64 a, .bool c]) = .returned (.tuple #[.int .i64 b, .bool d]) := by cases h; rfl
theorem ret_ib {a : Int} {c : Bool} {p : Int × Bool} (h : p = (a, c)) : Ending.returned (.tuple #[.int .i64 a, .bool c]) = .returned (.tuple #[.int .i64 p.1, .bool p.2]) := by rw [h]

set_option maxRecDepth 100000 in
theorem implPleaf (v : Value) (xs : List Int) (i j : Int) (w : World) (l h : Nat) (r : Rd .i64 w l h v xs) (f : Wf .i64 xs) (hi : In64 i) (hj : In64 j) (hh : h ≤ w.heap.size) (hn : xs.length ≤ 1048576) :
    Calls Try.prog 45 #[v, .int .i64 i, .int .i64 j] w fun e w' => e = .returned (.tuple #[.int .i64 (pleaf xs i j).1, .bool (pleaf xs i j).2]) ∧ Below w.heap.size w w' := by
  obtain ⟨A, c, rfl, hc1, hc2⟩ := r.form
  unfold maxLen at hc2
  by_cases h1 : IsLeaf xs.length i
  rotate_left
  · have HP : Hid (pleaf xs i j = (0, false)) := pleaf_no (fun hh => h1 ⟨by omega, by omega, hh.1.1, by simpa using hh.1.2⟩)
    go_enter Try.func45, Try.ntmps45
    go_wp2_with fail
    refine (isL_no _ _ _ h1).mono ?_
    rintro e w' ⟨rfl, rfl⟩
    go_wp2_with fail
    go_ret2
    exact ⟨ret_ib HP.out, Below.refl _ _⟩
  by_cases h2 : IsLeaf xs.length j
  rotate_left
  · have HP : Hid (pleaf xs i j = (0, false)) := pleaf_no (fun hh => h2 ⟨by omega, by omega, hh.2.1.1, by simpa using hh.2.1.2⟩)
    go_enter Try.func45, Try.ntmps45
    go_wp2_with fail
    refine (isL_yes _ _ _ h1).mono ?_
    rintro e w' ⟨rfl, rfl⟩
    go_wp2_with fail
    refine (isL_no _ _ _ h2).mono ?_
    rintro e w' ⟨rfl, rfl⟩
    go_wp2_with fail
    go_ret2
    exact ⟨ret_ib HP.out, Below.refl _ _⟩
  by_cases h3 : i = j
  · have HP : Hid (pleaf xs i j = (0, false)) := pleaf_no (fun hh => hh.2.2.2 h3)
    subst h3
    have hb : (i == i) = true := by simp
    go_enter Try.func45, Try.ntmps45
    go_wp2_with fail
    refine (isL_yes _ _ _ h1).mono ?_
    rintro e w' ⟨rfl, rfl⟩
    go_wp2_with fail
    refine (isL_yes _ _ _ h2).mono ?_
    rintro e w' ⟨rfl, rfl⟩
    go_wp2_with fail
    go_ret2
    exact ⟨ret_ib HP.out, Below.refl _ _⟩
  · have hb : (i == j) = false := by simpa using h3
    go_enter Try.func45, Try.ntmps45
    go_wp2_with fail
    refine (isL_yes _ _ _ h1).mono ?_
    rintro e w' ⟨rfl, rfl⟩
    go_wp2_with fail
    refine (isL_yes _ _ _ h2).mono ?_
    rintro e w' ⟨rfl, rfl⟩
    go_wp2_with fail
    have D6 : xs.length ≤ 6 := by have := h1.2.1; omega
    have i0 : 0 ≤ i := h1.2.2.1
    have j0 : 0 ≤ j := h2.2.2.1
    have i2 : i < 64 := by have := h1.2.2.2; rw [Int.toNat_natCast] at this; have := (pow6 D6).1; omega
    have j2 : j < 64 := by have := h2.2.2.2; rw [Int.toNat_natCast] at this; have := (pow6 D6).1; omega
    go_loopw [9] (fun k wr => ∃ (g n : Nat), g ≤ xs.length ∧ k = .int .i64 ((g : Int) - 1) ∧ seekI i j g = seekI i j xs.length ∧ wr = w.drewN n) (fun k _ => (intOf k + 1).toNat)
    case atStart => exact ⟨xs.length, 0, Nat.le_refl _, rfl, rfl, rfl⟩
    case round =>
      obtain ⟨g, n, hg, rfl, he, rfl⟩ := hrel
      have HQ := Lib.hid he
      have H1 := Lib.hid h1
      have H2 := Lib.hid h2
      have H3 := Lib.hid h3
      clear he h1 h2 h3
      rcases g with _ | g
      · have h1 := H1.out.2.2
        have h2 := H2.out.2.2
        rw [Int.toNat_natCast] at h1 h2
        exact absurd (seek_none h1 h2 HQ.out.symm) H3.out
      · rw [show ((g + 1 : Nat) : Int) - 1 = (g : Int) by omega]
        have a1 := and_bit g i0 i2
        have a2 := and_bit g j0 j2
        by_cases hbit : bitI i g = bitI j g
        · have HS := Lib.hid (seek_same hbit)
          have hne : (bits BinOp.and IntKind.i64 (i / 2 ^ g) 1 == bits BinOp.and IntKind.i64 (j / 2 ^ g) 1) = true := by rw [a1, a2, hbit]; simp
          clear a1 a2 hbit
          go_wp2_with fail
          go_quiet (fail)
          go_wp2_with fail
          exact ⟨⟨g, _, by omega, rfl, by rw [← HS.out]; exact HQ.out, rfl⟩, by simp [intOf]⟩
        · have HS := Lib.hid (seek_hit hbit)
          have hne : (bits BinOp.and IntKind.i64 (i / 2 ^ g) 1 == bits BinOp.and IntKind.i64 (j / 2 ^ g) 1) = false := by rw [a1, a2]; simpa using hbit
          have HP := Lib.hid (pleaf_hit H1.out H2.out H3.out (HQ.out.symm.trans HS.out))
          clear a1 a2 hbit
          go_wp2_with fail
          go_quiet (fail)
          go_wp2_with fail
          have hgl : g < xs.length := by omega
          obtain ⟨A', c', e1, _, _, hr'⟩ := r
          obtain ⟨b, off, hA, _, _, hcell⟩ := hr' (by omega)
          simp at e1
          obtain ⟨rfl, rfl⟩ := e1
          subst hA
          have hidx : xs.length - 1 - g < xs.length := by omega
          obtain ⟨x, hxe⟩ : ∃ x, xs[xs.length - 1 - g]? = some x := ⟨_, List.getElem?_eq_getElem hidx⟩
          have c1 := hcell (xs.length - 1 - g) x hxe
          have hx := Lib.hid (bd64 (f x (List.mem_of_getElem? hxe)))
          have HPx : Hid (pleaf xs i j = (descendI x g (j % 2 ^ g), true)) := by
            have := HP.out
            rwa [hxe] at this
          have hmask := and_mask g j0 j2 (by omega)
          obtain ⟨p64, p0⟩ := pow6 (D := g) (by omega)
          have m0 : 0 ≤ j % 2 ^ g := Int.emod_nonneg _ (by omega)
          have m1 : j % 2 ^ g < 2 ^ g := Int.emod_lt_of_pos _ p0
          have m2 : j % 2 ^ g < 64 := by omega
          clear hcell hr'
          have w1 : IntKind.i64.wrap ((xs.length : Int) - 1) = (xs.length : Int) - 1 := IntWalk.i64_in _ (by omega)
          have w2 : IntKind.i64.wrap ((xs.length : Int) - 1 - g) = (xs.length : Int) - 1 - g := IntWalk.i64_in _ (by omega)
          have w3 : (0 : Int) ≤ (xs.length : Int) - 1 - g := by omega
          have w4 : ((xs.length : Int) - 1 - g).toNat = xs.length - 1 - g := by omega
          have w5 : (xs.length : Int) - 1 - g < xs.length := by omega
          have HM3 := Lib.hid hmask
          have HM2 : Hid (bits BinOp.and IntKind.i64 j (wrap64 (wrap64 (2 ^ min g 64) - 1)) = j % 2 ^ g) := by
            unfold Hid
            rw [show min g 64 = g by omega, IntWalk.wrap64_in (2 ^ g) (by omega), IntWalk.wrap64_in _ (by omega)]
            exact hmask
          clear hmask hne m1 hgl hidx hxe hc1 hc2 i0 i2 hb
          go_region_with (go_at_call 82; (first | rw [HM2.out] | rw [HM3.out]); refine (implDescend x g (j % 2 ^ g) _ hx.out (by omega) m0 m2).mono ?_; rintro e w1 ⟨rfl, bel1⟩)
          all_goals
            go_wp2_with fail
            go_ret2
            exact ⟨ret_ib HPx.out, (below_drewN w.heap.size w _).trans bel1⟩
end Go.Proofs.Ytabfekfbdacboaa
