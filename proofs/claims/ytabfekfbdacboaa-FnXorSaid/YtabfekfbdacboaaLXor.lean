/- The law of exclusive or. -/
import Derived.Test.YtabfekfbdacboaaXor2
import Derived.Test.YtabfekfbdacboaaEqL
import Derived.Test.YtabfekfbdacboaaPad
import Derived.Test.YtabfekfbdacboaaSplit
import Derived.Test.YtabfekfbdacboaaDraw4
import Derived.Test.YtabfekfbdacboaaHdr
import Derived.Test.YtabfekfbdacboaaSame
import Derived.Test.YtabfekfbdacboaaSmall
import Derived.BigRegion
import Derived.Deep.DeepCutAuto
namespace Go.Proofs.Ytabfekfbdacboaa
open Go.RowKit
set_option linter.unusedVariables false

theorem x8_inv {a b : Int} (ha : 0 ≤ a ∧ a ≤ 255) (hb : 0 ≤ b ∧ b ≤ 255) : x8 (x8 a b) b = a := by
  rw [x8_int (x8_bd a b) hb, x8_int ha hb, Int.toNat_natCast, Nat.xor_assoc, Nat.xor_self, Nat.xor_zero]
  omega
theorem x8_self {a : Int} (ha : 0 ≤ a ∧ a ≤ 255) : x8 a a = 0 := by
  rw [x8_int ha ha, Nat.xor_self]; rfl
theorem xorL_self {a : List Int} (f : Wf .u8 a) : xorL a a = List.replicate a.length 0 := by
  induction a with
  | nil => rfl
  | cons x xs ih =>
    rw [xorL, x8_self (bd8 (f x (by simp))), ih (fun y hy => f y (by simp [hy])), List.length_cons, List.replicate_succ]
theorem xorL_inv {a b : List Int} (f : Wf .u8 a) (g : Wf .u8 b) : xorL (xorL a b) b = a ++ List.replicate (b.length - a.length) 0 := by
  induction a generalizing b with
  | nil => rw [xorL, xorL_self g]; simp
  | cons x xs ih => cases b with
    | nil => rw [xorL_nil, xorL_nil]; simp
    | cons y ys =>
      rw [xorL, xorL, x8_inv (bd8 (f x (by simp))) (bd8 (g y (by simp))), ih (fun z hz => f z (by simp [hz])) (fun z hz => g z (by simp [hz]))]
      simp
theorem zeros_rep (n : Nat) : zeros (List.replicate n 0) = true := by
  unfold zeros
  rw [List.all_eq_true]
  intro x hx
  rw [List.eq_of_mem_replicate hx]
  rfl
theorem Own.cases {k : IntKind} {e : TypeId} {w : World} {lo n c : Nat} {A : Option Addr} {xs : List Int} (h : Own k e w lo (.slice A n c) xs) : c = 0 ∨ ∃ g, A = some ⟨g, 0, none⟩ := by
  rcases h with h | ⟨_, B, hB⟩
  · rcases h.2 with ⟨h1, _⟩ | ⟨g, cap, cur, h1, _⟩
    · cases h1; exact .inl rfl
    · cases h1; exact .inr ⟨g, rfl⟩
  · cases hB; exact .inl rfl

theorem specMax (a b e : Int) (w : World) (h : (a ≤ b ∧ e = b) ∨ (b ≤ a ∧ e = a)) : Calls Try.prog 53 #[.int .i64 a, .int .i64 b] w fun x w' => x = .returned (.int .i64 e) ∧ w = w' := by
  by_cases hb : a < b
  · obtain rfl : e = b := by omega
    clear h
    go_enter Try.func53, Try.ntmps53
    go_wp2
    go_ret
    exact ⟨rfl, rfl⟩
  · by_cases hc : b < a
    · obtain rfl : e = a := by omega
      clear h
      go_enter Try.func53, Try.ntmps53
      go_wp2
      go_ret
      exact ⟨rfl, rfl⟩
    · obtain rfl : a = b := by omega
      obtain rfl : e = a := by omega
      clear h
      go_enter Try.func53, Try.ntmps53
      go_wp2
      go_ret
      exact ⟨rfl, rfl⟩
set_option maxRecDepth 100000 in
set_option maxHeartbeats 2000000 in
theorem law_FnXor (w : World) (v0 : Value) (xs : List Int) (r0 : Rd .u8 w 0 w.heap.size v0 xs) (f0 : Wf .u8 xs) :
    Calls Try.prog 9 #[v0] w fun e w' => e = .returned (.bool true) ∧ Below w.heap.size w w' := by
  by_cases b0 : xs.length ≤ 1048576
  rotate_left
  · go_enter Try.func9, Try.ntmps9
    go_wp2_with fail
    refine (big_yes _ xs _ _ _ r0 b0).mono ?_
    rintro e w1 ⟨rfl, rfl⟩
    go_wp2_with fail
    go_ret
    exact ⟨rfl, Below.refl _ _⟩
  go_enter Try.func9, Try.ntmps9
  go_wp2_with fail
  refine (big_no _ xs _ _ _ r0 b0).mono ?_
  rintro e w1 ⟨rfl, rfl⟩
  go_wp2_with fail
  refine (drawXor_any _ xs _ _ _ r0 f0 (Nat.le_refl _) b0).mono ?_
  rintro e w1 ⟨v1, ps, v2, bs, rfl, o1, o2, ha, hb, fa, fb, B1⟩
  have q1 := o1.rd
  have q2 := o2.rd
  have s1 := B1.size
  clear o1 o2
  obtain ⟨A1, c1, rfl, hc1, hm1⟩ := q1.form
  obtain ⟨A2, c2, rfl, hc2, hm2⟩ := q2.form
  unfold maxLen at hm1 hm2
  have FA := Lib.hid fa
  have FB := Lib.hid fb
  have F0 := Lib.hid f0
  clear fa fb f0
  obtain ⟨X, hX⟩ : ∃ X, X = xorL ps bs := ⟨_, rfl⟩
  have hXl : (ps.length ≤ bs.length ∧ X.length = bs.length) ∨ (bs.length ≤ ps.length ∧ X.length = ps.length) := by rw [hX, xorL_length]; omega
  have FX : Hid (Wf .u8 X) := by unfold Hid; rw [hX]; exact xorL_wf FA.out FB.out
  go_wp2_with fail
  refine (implXor _ _ ps bs _ _ _ _ _ q1 q2 (Nat.le_refl _) (Nat.le_refl _) (by omega) (by omega)).mono ?_
  rw [← hX]
  have HX := Lib.hid hX
  clear hX
  rintro e w2 ⟨v3, rfl, o3, bel2⟩
  have s2 := bel2.size
  have B2 := B1.trans (bel2.mono s1)
  replace q1 := q1.below bel2 (Nat.le_refl _)
  replace q2 := q2.below bel2 (Nat.le_refl _)
  have q3 := o3.rd
  clear o3
  obtain ⟨A3, c3, rfl, hc3, hm3⟩ := q3.form
  unfold maxLen at hm3
  obtain ⟨Y, hY⟩ : ∃ Y, Y = xorL X bs := ⟨_, rfl⟩
  have hYe : Y = ps ++ List.replicate (bs.length - ps.length) 0 := by rw [hY, HX.out, xorL_inv FA.out FB.out]
  have hYl : Y.length = X.length := by rw [hYe, List.length_append, List.length_replicate]; omega
  go_wp2_with fail
  refine (implXor _ _ X bs _ _ _ _ _ q3 q2 (Nat.le_refl _) (by omega) (by omega) (by omega)).mono ?_
  rw [← hY]
  have HY := Lib.hid hYe
  have HYL := Lib.hid hYl
  clear hY hYe hYl
  rintro e w3 ⟨v4, rfl, o4, bel3⟩
  have s3 := bel3.size
  have B3 := B2.trans (bel3.mono (by omega))
  replace q1 := q1.below bel3 (by omega)
  replace q2 := q2.below bel3 (by omega)
  replace q3 := q3.below bel3 (by omega)
  obtain ⟨A4, c4, rfl, hc4, hm4⟩ := o4.rd.form
  unfold maxLen at hm4
  have O4 := Lib.hid o4
  clear o4
  rw [HYL.out] at hc4 ⊢
  have hXl' := Lib.hid hXl
  go_upto_region 6 with fail
  go_cut [70] from 11 to 119 (fun c wx => c = .bool false ∧ Below w3.heap.size w3 wx)
  case first =>
    have hla : ps.length ≤ X.length := by omega
    clear hXl
    have q4 := O4.out.rd
    rw [HYL.out] at q4
    rcases O4.out.cases with hz | ⟨g, rfl⟩
    · subst hz
      obtain rfl : X = [] := List.eq_nil_of_length_eq_zero (by omega)
      obtain rfl : ps = [] := List.eq_nil_of_length_eq_zero (by simp at hla; simp [hla])
      obtain rfl : bs = [] := List.eq_nil_of_length_eq_zero (by have h := hXl'.out; simp only [List.length_nil] at h; omega)
      rcases A4 with _ | a4
      · have P1 : Rd .u8 w3 0 0 (.slice none 0 0) [] := Rd.nil_ _ _ _ _ _ _ (by decide)
        have P2 := P1
        clear HX HY HYL hXl' O4
        go_wp2_with fail
        refine (specMax _ _ 0 _ (by simp)).mono ?_
        rintro e w' ⟨rfl, rfl⟩
        go_wp2_with fail
        refine (sameBytes_same _ _ [] _ _ _ _ _ P1 q1).mono ?_
        rintro e w4 ⟨rfl, bel4⟩
        have s4 := bel4.size
        replace q1 := q1.below bel4 (by first | omega | simp)
        replace q2 := q2.below bel4 (by first | omega | simp)
        replace q3 := q3.below bel4 (by first | omega | simp)
        replace P2 := P2.below bel4 (by first | omega | simp)
        go_wp2_with fail
        refine (ofQuiet (implIsZeroBytes _ _ _ _ _ P2)).mono ?_
        rw [show zeros [] = true from rfl]
        rintro e w5 ⟨rfl, bel5⟩
        have s5 := bel5.size
        have B5 := bel4.trans (bel5.mono s4)
        replace q1 := q1.below bel5 (by first | omega | simp)
        replace q2 := q2.below bel5 (by first | omega | simp)
        replace q3 := q3.below bel5 (by first | omega | simp)
        go_wp2_with fail
        refine (implXor _ _ [] [] _ _ _ _ _ q2 q1 (by first | omega | simp) (by first | omega | simp) (by first | omega | simp) (by first | omega | simp)).mono ?_
        rw [show xorL [] [] = [] from rfl]
        rintro e w6 ⟨v6, rfl, o6, bel6⟩
        have s6 := bel6.size
        have B6 := B5.trans (bel6.mono (by first | omega | simp))
        replace q1 := q1.below bel6 (by first | omega | simp)
        replace q3 := q3.below bel6 (by first | omega | simp)
        go_wp2_with fail
        refine (sameBytes_same _ _ [] _ _ _ _ _ q3 o6.rd).mono ?_
        rintro e w7 ⟨rfl, bel7⟩
        have s7 := bel7.size
        have B7 := B6.trans (bel7.mono (by first | omega | simp))
        replace q1 := q1.below bel7 (by first | omega | simp)
        clear o6
        go_wp2_with fail
        refine (implXor _ _ [] [] _ _ _ _ _ q1 q1 (by first | omega | simp) (by first | omega | simp) (by first | omega | simp) (by first | omega | simp)).mono ?_
        rw [show xorL [] [] = [] from rfl]
        rintro e w8 ⟨v8, rfl, o8, bel8⟩
        have s8 := bel8.size
        have B8 := B7.trans (bel8.mono (by first | omega | simp))
        go_wp2_with fail
        refine (ofQuiet (implIsZeroBytes _ _ _ _ _ o8.rd)).mono ?_
        rw [show zeros [] = true from rfl]
        rintro e w9 ⟨rfl, bel9⟩
        have B9 := B8.trans (bel9.mono (by first | omega | simp))
        clear o8
        go_wp2_with fail
        go_meet
        exact ⟨rfl, B9⟩
      · have P1 : Rd .u8 w3 0 0 (.slice (some a4) 0 0) [] := Rd.nil_ _ _ _ _ _ _ (by decide)
        have P2 := P1
        clear HX HY HYL hXl' O4
        go_wp2_with fail
        refine (specMax _ _ 0 _ (by simp)).mono ?_
        rintro e w' ⟨rfl, rfl⟩
        go_wp2_with fail
        refine (sameBytes_same _ _ [] _ _ _ _ _ P1 q1).mono ?_
        rintro e w4 ⟨rfl, bel4⟩
        have s4 := bel4.size
        replace q1 := q1.below bel4 (by first | omega | simp)
        replace q2 := q2.below bel4 (by first | omega | simp)
        replace q3 := q3.below bel4 (by first | omega | simp)
        replace P2 := P2.below bel4 (by first | omega | simp)
        go_wp2_with fail
        refine (ofQuiet (implIsZeroBytes _ _ _ _ _ P2)).mono ?_
        rw [show zeros [] = true from rfl]
        rintro e w5 ⟨rfl, bel5⟩
        have s5 := bel5.size
        have B5 := bel4.trans (bel5.mono s4)
        replace q1 := q1.below bel5 (by first | omega | simp)
        replace q2 := q2.below bel5 (by first | omega | simp)
        replace q3 := q3.below bel5 (by first | omega | simp)
        go_wp2_with fail
        refine (implXor _ _ [] [] _ _ _ _ _ q2 q1 (by first | omega | simp) (by first | omega | simp) (by first | omega | simp) (by first | omega | simp)).mono ?_
        rw [show xorL [] [] = [] from rfl]
        rintro e w6 ⟨v6, rfl, o6, bel6⟩
        have s6 := bel6.size
        have B6 := B5.trans (bel6.mono (by first | omega | simp))
        replace q1 := q1.below bel6 (by first | omega | simp)
        replace q3 := q3.below bel6 (by first | omega | simp)
        go_wp2_with fail
        refine (sameBytes_same _ _ [] _ _ _ _ _ q3 o6.rd).mono ?_
        rintro e w7 ⟨rfl, bel7⟩
        have s7 := bel7.size
        have B7 := B6.trans (bel7.mono (by first | omega | simp))
        replace q1 := q1.below bel7 (by first | omega | simp)
        clear o6
        go_wp2_with fail
        refine (implXor _ _ [] [] _ _ _ _ _ q1 q1 (by first | omega | simp) (by first | omega | simp) (by first | omega | simp) (by first | omega | simp)).mono ?_
        rw [show xorL [] [] = [] from rfl]
        rintro e w8 ⟨v8, rfl, o8, bel8⟩
        have s8 := bel8.size
        have B8 := B7.trans (bel8.mono (by first | omega | simp))
        go_wp2_with fail
        refine (ofQuiet (implIsZeroBytes _ _ _ _ _ o8.rd)).mono ?_
        rw [show zeros [] = true from rfl]
        rintro e w9 ⟨rfl, bel9⟩
        have B9 := B8.trans (bel9.mono (by first | omega | simp))
        clear o8
        go_wp2_with fail
        go_meet
        exact ⟨rfl, B9⟩
    · by_cases hcl : c4 = ps.length
      · subst hcl
        have P1 := q4.part 0 ps.length (by have := HYL.out; omega)
        rw [List.drop_zero] at P1
        have hd : X.length - ps.length = 0 := by omega
        have P2 : Rd .u8 w3 0 0 (.slice (some ⟨g, 0, none⟩) 0 0) ((Y.drop ps.length).take (X.length - ps.length)) := by
          rw [hd]; exact Rd.nil_ _ _ _ _ _ _ (by decide)
        have I1 : (ps.length : Int) ≤ (X.length : Int) := by omega
        have I3 : (0 : Int) ≤ (ps.length : Int) := by omega
        clear hd
        have hMX : Hid ((((ps.length : Int) ≤ (bs.length : Int) ∧ (X.length : Int) = (bs.length : Int)) ∨ ((bs.length : Int) ≤ (ps.length : Int) ∧ (X.length : Int) = (ps.length : Int)))) := by have := hXl'.out; unfold Hid; omega
        have HT : Hid (Y.take ps.length = ps) := by unfold Hid; rw [HY.out, List.take_left]
        rw [HT.out] at P1
        have HZ : Hid (zeros ((Y.drop ps.length).take (X.length - ps.length)) = true) := by
          unfold Hid
          rw [HY.out, List.drop_left, List.take_of_length_le (by have := hXl'.out; rw [List.length_replicate]; omega)]
          exact zeros_rep _
        go_wp2_with fail
        refine (specMax _ _ (X.length : Int) _ hMX.out).mono ?_
        rintro e w' ⟨rfl, rfl⟩
        go_wp2_with fail
        refine (sameBytes_same _ _ ps _ _ _ _ _ P1 q1).mono ?_
        rintro e w4 ⟨rfl, bel4⟩
        have s4 := bel4.size
        replace q1 := q1.below bel4 (by omega)
        replace q2 := q2.below bel4 (by omega)
        replace q3 := q3.below bel4 (by omega)
        replace P2 := P2.below bel4 (by omega)
        go_wp2_with fail
        refine (ofQuiet (implIsZeroBytes _ _ _ _ _ P2)).mono ?_
        rw [HZ.out]
        rintro e w5 ⟨rfl, bel5⟩
        have s5 := bel5.size
        have B5 := bel4.trans (bel5.mono s4)
        replace q1 := q1.below bel5 (by omega)
        replace q2 := q2.below bel5 (by omega)
        replace q3 := q3.below bel5 (by omega)
        go_wp2_with fail
        refine (implXor _ _ bs ps _ _ _ _ _ q2 q1 (by omega) (by omega) (by omega) (by omega)).mono ?_
        rw [xorL_comm bs ps, ← HX.out]
        rintro e w6 ⟨v6, rfl, o6, bel6⟩
        have s6 := bel6.size
        have B6 := B5.trans (bel6.mono (by omega))
        replace q1 := q1.below bel6 (by omega)
        replace q3 := q3.below bel6 (by omega)
        go_wp2_with fail
        refine (sameBytes_same _ _ X _ _ _ _ _ q3 o6.rd).mono ?_
        rintro e w7 ⟨rfl, bel7⟩
        have s7 := bel7.size
        have B7 := B6.trans (bel7.mono (by omega))
        replace q1 := q1.below bel7 (by omega)
        clear o6
        go_wp2_with fail
        refine (implXor _ _ ps ps _ _ _ _ _ q1 q1 (by omega) (by omega) (by omega) (by omega)).mono ?_
        rw [xorL_self FA.out]
        rintro e w8 ⟨v8, rfl, o8, bel8⟩
        have s8 := bel8.size
        have B8 := B7.trans (bel8.mono (by omega))
        go_wp2_with fail
        refine (ofQuiet (implIsZeroBytes _ _ _ _ _ o8.rd)).mono ?_
        rw [zeros_rep]
        rintro e w9 ⟨rfl, bel9⟩
        have B9 := B8.trans (bel9.mono (by omega))
        clear o8
        go_wp2_with fail
        go_meet
        exact ⟨rfl, B9⟩
      · have hcl' : ps.length < c4 := by omega
        have P1 := q4.part 0 ps.length (by have := HYL.out; omega)
        rw [List.drop_zero] at P1
        have P2 := q4.part ps.length (X.length - ps.length) (by have := HYL.out; omega)
        rw [Nat.zero_add] at P2
        have I1 : (ps.length : Int) ≤ (X.length : Int) := by omega
        have I2 : (ps.length : Int) ≤ (c4 : Int) := by omega
        have I3 : (0 : Int) ≤ (ps.length : Int) := by omega
        have hMX : Hid ((((ps.length : Int) ≤ (bs.length : Int) ∧ (X.length : Int) = (bs.length : Int)) ∨ ((bs.length : Int) ≤ (ps.length : Int) ∧ (X.length : Int) = (ps.length : Int)))) := by have := hXl'.out; unfold Hid; omega
        have HT : Hid (Y.take ps.length = ps) := by unfold Hid; rw [HY.out, List.take_left]
        rw [HT.out] at P1
        have HZ : Hid (zeros ((Y.drop ps.length).take (X.length - ps.length)) = true) := by
          unfold Hid
          rw [HY.out, List.drop_left, List.take_of_length_le (by have := hXl'.out; rw [List.length_replicate]; omega)]
          exact zeros_rep _
        go_wp2_with fail
        refine (specMax _ _ (X.length : Int) _ hMX.out).mono ?_
        rintro e w' ⟨rfl, rfl⟩
        go_wp2_with fail
        refine (sameBytes_same _ _ ps _ _ _ _ _ P1 q1).mono ?_
        rintro e w4 ⟨rfl, bel4⟩
        have s4 := bel4.size
        replace q1 := q1.below bel4 (by omega)
        replace q2 := q2.below bel4 (by omega)
        replace q3 := q3.below bel4 (by omega)
        replace P2 := P2.below bel4 (by omega)
        go_wp2_with fail
        refine (ofQuiet (implIsZeroBytes _ _ _ _ _ P2)).mono ?_
        rw [HZ.out]
        rintro e w5 ⟨rfl, bel5⟩
        have s5 := bel5.size
        have B5 := bel4.trans (bel5.mono s4)
        replace q1 := q1.below bel5 (by omega)
        replace q2 := q2.below bel5 (by omega)
        replace q3 := q3.below bel5 (by omega)
        go_wp2_with fail
        refine (implXor _ _ bs ps _ _ _ _ _ q2 q1 (by omega) (by omega) (by omega) (by omega)).mono ?_
        rw [xorL_comm bs ps, ← HX.out]
        rintro e w6 ⟨v6, rfl, o6, bel6⟩
        have s6 := bel6.size
        have B6 := B5.trans (bel6.mono (by omega))
        replace q1 := q1.below bel6 (by omega)
        replace q3 := q3.below bel6 (by omega)
        go_wp2_with fail
        refine (sameBytes_same _ _ X _ _ _ _ _ q3 o6.rd).mono ?_
        rintro e w7 ⟨rfl, bel7⟩
        have s7 := bel7.size
        have B7 := B6.trans (bel7.mono (by omega))
        replace q1 := q1.below bel7 (by omega)
        clear o6
        go_wp2_with fail
        refine (implXor _ _ ps ps _ _ _ _ _ q1 q1 (by omega) (by omega) (by omega) (by omega)).mono ?_
        rw [xorL_self FA.out]
        rintro e w8 ⟨v8, rfl, o8, bel8⟩
        have s8 := bel8.size
        have B8 := B7.trans (bel8.mono (by omega))
        go_wp2_with fail
        refine (ofQuiet (implIsZeroBytes _ _ _ _ _ o8.rd)).mono ?_
        rw [zeros_rep]
        rintro e w9 ⟨rfl, bel9⟩
        have B9 := B8.trans (bel9.mono (by omega))
        clear o8
        go_wp2_with fail
        go_meet
        exact ⟨rfl, B9⟩
  case rest =>
  obtain ⟨rfl, Bc⟩ := hcut
  have sc := Bc.size
  have B4 := B3.trans (Bc.mono (by omega))
  replace q1 := q1.below Bc (by omega)
  have z4 := B4.size
  have q1' := q1.more (lo' := 0) (Nat.zero_le _) (show w1.heap.size ≤ wc.heap.size by omega)
  clear q1
  have q1 := q1'
  clear q1' q2 q3 O4 HX HY HYL hXl hXl' B1 B2 B3 Bc bel2 bel3 FX hc3 hm3 hc4 hm4 hc2 hm2
  obtain ⟨j0, hj, hy0, hy1, hy2⟩ := info_parts info_rows
  have r4 := r0.below B4 (Nat.le_refl _)
  go_wp2_with fail
  refine (drawXorAll_any _ xs _ _ _ r4 F0.out z4 b0).mono ?_
  rintro e w5 ⟨v5, ls, rfl, o5, hn5, hw5, ht5, bel5⟩
  have s5 := bel5.size
  have B5 := B4.trans (bel5.mono z4)
  have r5 := r0.below B5 (Nat.le_refl _)
  replace q1 := q1.below bel5 (Nat.le_refl _)
  have q5 := o5.rd
  obtain ⟨A5, c5, rfl, hc5, hm5⟩ := q5.form
  unfold maxLen at hm5
  have W5 := Lib.hid hw5
  clear o5 r4 hw5
  go_wp2_with fail
  refine (drawSplit_any _ xs _ _ _ r5 F0.out (by omega) b0).mono ?_
  rintro e w6 ⟨v6, ds, k, hk, rfl, o6, hd6, fd, bel6⟩
  have s6 := bel6.size
  have B6 := B5.trans (bel6.mono (by omega))
  replace q1 := q1.below bel6 (by omega)
  replace q5 := q5.below bel6 (by omega)
  have q6 := o6.rd
  obtain ⟨A6, c6, rfl, hc6, hm6⟩ := q6.form
  unfold maxLen at hm6
  have FD := Lib.hid fd
  clear o6 r5 fd
  have hL := splitL_total ds k
  go_wp2_with fail
  refine (implSplit _ ds k _ _ _ q6 (by omega) (by omega) (by unfold In64; omega)).mono ?_
  rintro e w7 ⟨v7, rfl, o7, bel7⟩
  have s7 := bel7.size
  have B7 := B6.trans (bel7.mono (by omega))
  replace q1 := q1.below bel7 (by omega)
  replace q5 := q5.below bel7 (by omega)
  replace q6 := q6.below bel7 (by omega)
  have q7 := o7.rd
  clear o7
  go_upto_region 11 with fail
  go_cut [93] from 11 to 119 (fun c wx => c = .bool false ∧ Below w7.heap.size w7 wx)
  case first =>
    by_cases k1 : 1 ≤ k
    · by_cases k2 : k ≤ 400
      · have HF := Lib.hid (splitL_flat (xs := ds) ⟨k1, k2⟩)
        go_wp2_with fail
        refine (implJoin _ (splitL ds k) _ _ _ q7 (Nat.le_refl _) (by omega) (by omega)).mono ?_
        rw [HF.out]
        rintro e w8 ⟨v8, rfl, o8, bel8⟩
        have s8 := bel8.size
        replace q6 := q6.below bel8 (by omega)
        go_wp2_with fail
        refine (sameBytes_same _ _ ds _ _ _ _ _ o8.rd q6).mono ?_
        rintro e w9 ⟨rfl, bel9⟩
        have B9 := bel8.trans (bel9.mono s8)
        clear o8
        go_wp2_with fail
        go_meet
        exact ⟨rfl, B9⟩
      · clear hL
        go_wp2_with fail
        go_meet
        exact ⟨rfl, Below.refl _ _⟩
    · clear hL
      go_wp2_with fail
      go_meet
      exact ⟨rfl, Below.refl _ _⟩
  case rest =>
  obtain ⟨rfl, Bd⟩ := hcut
  have sd := Bd.size
  have B8 := B7.trans (Bd.mono (by omega))
  replace q1 := q1.below Bd (by omega)
  replace q5 := q5.below Bd (by omega)
  have z8 := B8.size
  clear q6 q7 B4 B5 B6 B7 bel5 bel6 bel7 Bd FD hL hk hd6 hc6 hm6
  have q5a := q5.alloc (by omega) (.cells #[] 22)
  obtain ⟨us, A5', c5', e5, hus, hrd, hcell⟩ := q5a.vals
  simp only [Value.slice.injEq, true_and] at e5
  obtain ⟨rfl, rfl⟩ := e5
  have hone : ∀ u ∈ us, u.oneCell' = true := fun u hu => by
    obtain ⟨i, hi, rfl⟩ := List.getElem_of_mem hu
    exact (hrd i us[i] ls[i] (by simp [hi]) (by simp [hus ▸ hi])).one
  have hcell' : 0 < us.length → ∃ a, A5 = some a ∧ ∀ (j : Nat) u, us[j]? = some u → (wc.alloc (.cells #[] 22)).cell? (a.add j) = some u := fun hp => by
    obtain ⟨b, off, h1, _, _, h2⟩ := hcell (by omega)
    exact ⟨_, h1, fun j u hu => by rw [Addr.add_lit]; exact h2 j u hu⟩
  have HC := Lib.hid hcell'
  have HO := Lib.hid hone
  have HU := Lib.hid hus
  have HR := Lib.hid hrd
  clear hcell hcell' hone hus hrd q5a
  go_wp2_with (at_builtin; refine wpList_append_Vals _ rfl (.tmp 94) (.tmp 95) 33 rfl 22 j0 (.slice none 0 0) 24 Try.underlying33 hj hy0 hy1 hy2 rfl (some ⟨wc.heap.size, 0, none⟩) A5 us c5 ls.length HU.out.symm rfl rfl HC.out HO.out (by have := HU.out; unfold maxLen; omega) (by have := HU.out; omega) ?_)
  intro v8 w8 hO8 hB8
  have e8 : Below wc.heap.size wc w8 := ((Below.refl _ wc).alloc (Nat.le_refl _) _).trans (hB8.mono (by simp))
  have s8 := e8.size
  have z9 := hB8.size
  simp only [World.size_alloc] at z9
  have O8 := Lib.hid hO8
  obtain ⟨A8, c8, rfl, -, -⟩ := hO8.form
  have EB := Lib.hid hB8
  clear hO8 hB8
  rw [HU.out] at O8 ⊢
  go_wp2_with (at_builtin; refine wpList_append_OwnV _ rfl (.tmp 96) (.tmp 98) 33 rfl (wc.heap.size + 1) w8.heap.size 22 j0 (.slice none 0 0) 24 Try.underlying33 hj hy0 hy1 hy2 rfl _ us rfl ((by simpa using O8.out : OwnVB 22 w8 (wc.heap.size + 1) w8.heap.size (.slice A8 ls.length c8) us).keep (w' := w8.alloc (.cells #[.slice A1 ps.length c1] 22)) (fun b cur h1 h2 h3 => heap_alloc_old w8 _ h2)) (by simp) ⟨w8.heap.size, 0, none⟩ 1 rfl (.slice A1 ps.length c1) (cell_one4 w8 _ _) rfl (by have := HU.out; unfold maxLen; omega) (by have := HU.out; omega) (by simp; omega) ?_)
  intro v9 w9 hO9 hB9
  have e9 : Below wc.heap.size wc w9 := (e8.alloc (by omega) _).trans (hB9.mono (by omega))
  have s9 := e9.size
  have z10 := hB9.size
  simp only [World.size_alloc] at z10
  have B9 := B8.trans (e9.mono (by omega))
  replace q1 := q1.below e9 (by omega)
  replace q5 := q5.below e9 (by omega)
  have q9 : Rds .u8 w9 0 w9.heap.size v9 (ls ++ [ps]) := by
    refine hO9.rds (by have := HU.out; simp [this]) (fun i u ys hu hy => ?_) (Nat.le_refl _)
    rcases Nat.lt_or_ge i ls.length with hi | hi
    · rw [List.getElem?_append_left (by rw [HU.out]; exact hi)] at hu
      rw [List.getElem?_append_left hi] at hy
      have h1 := HR.out i u ys hu hy
      exact ((h1.below EB.out (by first | omega | (simp; omega))).below ((Below.refl w8.heap.size w8).alloc (Nat.le_refl _) _) (by omega) |>.below hB9 (by omega)).more (Nat.zero_le _) (by omega)
    · rw [List.getElem?_append_right (by rw [HU.out]; exact hi)] at hu
      rw [List.getElem?_append_right hi] at hy
      have hi0 : i - ls.length = 0 := by
        have := (List.getElem?_eq_some_iff.1 hy).1
        simp at this
        omega
      rw [HU.out, hi0] at hu
      rw [hi0] at hy
      simp at hu hy
      subst hu
      subst hy
      exact q1.more (Nat.zero_le _) (by omega)
  have tl : total (ls ++ [ps]) = total ls + ps.length := by rw [total_append]; simp [total]
  have W9 : Hid (∀ zs ∈ ls ++ [ps], Wf .u8 zs) := fun zs hz => by
    rcases List.mem_append.1 hz with hz | hz
    · exact W5.out zs hz
    · simp at hz; subst hz; exact FA.out
  have HS := Lib.hid (xorAll_snoc ls ps)
  have hl9 : (ls ++ [ps]).length = ls.length + 1 := by simp
  generalize ls ++ [ps] = LS at q9 tl W9 HS hl9
  have hl9' : LS.length ≤ 5 := by omega
  have tl' : total LS ≤ 26 := by omega
  clear hl9 tl
  obtain ⟨A9, c9, rfl, hc9, hm9⟩ := q9.form
  clear hO9 hB9 EB O8 HR HC HO B8 e9 e8
  have hx1 := xorAll_len ls
  have hx2 : (xorAllL LS).length ≤ 26 := by have := xorAll_len LS; omega
  have WX := Lib.hid (xorAll_wf W5.out)
  have hpd : Hid ((padL ps 20).length = max ps.length 20) := (padL_length ps 20).2 (by omega)
  go_wp2_with fail
  refine (implXorAll _ LS _ _ _ q9 W9.out (Nat.le_refl _) (by omega)).mono ?_
  rintro e w10 ⟨v10, rfl, o10, bel10⟩
  have s10 := bel10.size
  have B10 := B9.trans (bel10.mono (by omega))
  replace q1 := q1.below bel10 (by omega)
  replace q5 := q5.below bel10 (by omega)
  have q10 := o10.rd
  rw [HS.out] at q10
  clear o10 q9
  go_wp2_with fail
  refine (implXorAll _ ls _ _ _ q5 W5.out (by omega) (by omega)).mono ?_
  rintro e w11 ⟨v11, rfl, o11, bel11⟩
  have s11 := bel11.size
  have B11 := B10.trans (bel11.mono (by omega))
  replace q1 := q1.below bel11 (by omega)
  replace q5 := q5.below bel11 (by omega)
  replace q10 := q10.below bel11 (by omega)
  go_wp2_with fail
  refine (implXor _ _ (xorAllL ls) ps _ _ _ _ _ o11.rd q1 (Nat.le_refl _) (by omega) (by omega) (by omega)).mono ?_
  rintro e w12 ⟨v12, rfl, o12, bel12⟩
  have s12 := bel12.size
  have B12 := B11.trans (bel12.mono (by omega))
  replace q1 := q1.below bel12 (by omega)
  replace q5 := q5.below bel12 (by omega)
  replace q10 := q10.below bel12 (by omega)
  have q12 := o12.rd
  clear o12 o11
  go_wp2_with fail
  refine (sameBytes_same _ _ (xorL (xorAllL ls) ps) _ _ _ _ _ q10 q12).mono ?_
  rintro e w13 ⟨rfl, bel13⟩
  have s13 := bel13.size
  have B13 := B12.trans (bel13.mono (by omega))
  replace q1 := q1.below bel13 (by omega)
  replace q5 := q5.below bel13 (by omega)
  clear q10 q12
  go_wp2_with fail
  refine (ofQuiet (implEqL _ _ ls ls _ _ _ _ _ q5 q5)).mono ?_
  rw [decide_eq_true (rfl : ls = ls)]
  rintro e w14 ⟨rfl, bel14⟩
  have s14 := bel14.size
  have B14 := B13.trans (bel14.mono (by omega))
  replace q1 := q1.below bel14 (by omega)
  clear q5
  go_wp2_with fail
  refine (implPad _ ps 20 _ _ _ q1 (by omega) (by omega) (by unfold In64; omega)).mono ?_
  rintro e w15 ⟨v15, rfl, o15, bel15⟩
  have B15 := B14.trans (bel15.mono (by omega))
  obtain ⟨A15, c15, rfl, hc15, hm15⟩ := o15.rd.form
  rw [hpd.out] at hc15 ⊢
  clear o15 q1
  go_wp2_with fail
  refine (specMax _ _ ((max ps.length 20 : Nat) : Int) _ (by omega)).mono ?_
  rintro e w' ⟨rfl, rfl⟩
  go_wp2_with fail
  go_ret
  exact ⟨ret_bool (by simp), B15⟩
end Go.Proofs.Ytabfekfbdacboaa
