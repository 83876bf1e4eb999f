/- The law of varints. -/
import Derived.Test.YthidfmheeblfeaaByp
import Derived.Test.YthidfmheeblfeaaLVar3
import Derived.BigRegion
import Derived.Deep.DeepCutAuto
import Derived.Deep.RegionHeld3
namespace Go.Proofs.Ythidfmheeblfeaa
open Go.RowKit
set_option linter.unusedVariables false

set_option maxRecDepth 100000 in
set_option maxHeartbeats 1000000 in
theorem law_FnVarints (w : World) (v0 : Value) (xs : List Int) (r0 : Rd .u8 w 0 w.heap.size v0 xs) (f0 : Wf .u8 xs) :
    Calls Try.prog 12 #[v0] w fun e w' => e = .returned (.bool true) ∧ Below w.heap.size w w' := by
  by_cases b0 : xs.length ≤ 1048576
  rotate_left
  · go_enter Try.func12, Try.ntmps12
    go_wp2_with fail
    refine (big_yes _ xs _ _ _ r0 b0).mono ?_
    rintro e w1 ⟨rfl, rfl⟩
    go_wp2_with fail
    go_ret
    exact ⟨rfl, Below.refl _ _⟩
  go_enter Try.func12, Try.ntmps12
  go_wp2_with fail
  refine (big_no _ xs _ _ _ r0 b0).mono ?_
  rintro e w1 ⟨rfl, rfl⟩
  go_wp2_with fail
  refine (drawApU_any _ xs _ _ _ r0 f0 (Nat.le_refl _) b0).mono ?_
  rintro e w1 ⟨v1, ys, n, hn, rfl, o1, hy, fy, B1⟩
  have q1 := o1.rd
  have s1 := B1.size
  clear o1
  obtain ⟨A1, c1, rfl, hc1, hm1⟩ := q1.form
  unfold maxLen at hm1
  have FY := Lib.hid fy
  have F0 := Lib.hid f0
  have HN := Lib.hid hn
  clear fy f0
  unfold In64 at hn
  obtain ⟨n0, n1⟩ := hn
  have hEl := uvE_length n
  go_wp2_with fail
  refine (implApU _ ys n _ _ _ q1 HN.out (Nat.le_refl _) (by omega)).mono ?_
  rintro e w2 ⟨v2, rfl, o2, bel2⟩
  have s2 := bel2.size
  have B2 := B1.trans (bel2.mono s1)
  replace q1 := q1.below bel2 (Nat.le_refl _)
  have q2 := o2.rd
  clear o2
  obtain ⟨X, hX⟩ : ∃ X, X = ys ++ uvE n := ⟨_, rfl⟩
  have WFX : Hid (Wf .u8 X) := fun u hu => by
    rw [hX] at hu
    rcases List.mem_append.1 hu with hu | hu
    · exact FY.out u hu
    · exact uvE_wf n u hu
  rw [← hX] at q2
  have HX := Lib.hid hX
  clear hX
  obtain ⟨A2, c2, rfl, hc2, hm2⟩ := q2.form
  unfold maxLen at hm2
  have U := implUr _ X ys.length _ _ _ q2 WFX.out (by unfold In64; omega)
  obtain ⟨R, hR⟩ : ∃ R, R = uvR X (ys.length : Int) := ⟨_, rfl⟩
  obtain ⟨R1, R2, R3⟩ := R
  rw [← hR] at U
  have HR := Lib.hid hR
  clear hR
  go_wp2_with fail
  refine U.mono ?_
  rintro e w' ⟨rfl, rfl⟩
  clear U
  have S1 := sameBytes_any _ _ X ys _ _ _ _ _ q2 q1
  go_upto_region 6 with fail
  go_cut [40] from 17 to 114 (fun c wx => c = .bool (decide ¬ (0 ≤ n ∧ n ≤ 1000000000000)) ∧ wx = w2)
  case first =>
    by_cases h1 : n < 0
    · go_wp2_with fail
      go_meet
      exact ⟨congrArg Value.bool (by simp; omega), rfl⟩
    · by_cases h2 : 1000000000000 < n
      · go_wp2_with fail
        go_meet
        exact ⟨congrArg Value.bool (by simp; omega), rfl⟩
      · go_wp2_with fail
        go_meet
        exact ⟨congrArg Value.bool (by simp; omega), rfl⟩
  case rest =>
  obtain ⟨rfl, rfl⟩ := hcut
  go_upto_if 40 with fail
  go_cut [3, 4, 5, 6, 7, 8] from 17 to 114 (fun _ _ _ _ _ _ wx => Below w.heap.size w wx)
  case first =>
    by_cases hr : 0 ≤ n ∧ n ≤ 1000000000000
    · have hb0 : (decide ¬ (0 ≤ n ∧ n ≤ 1000000000000)) = false := by simp [hr]
      rw [hb0]
      have hu := uvR_uvE ys [] n hr
      rw [List.append_nil, ← HX.out, ← HR.out] at hu
      cases hu
      have hXl : (ys.length : Int) + ((uvE n).length : Int) = (X.length : Int) := by rw [HX.out, List.length_append]; omega
      rw [hXl]
      clear hXl hb0 HR S1
      have hb1 : (n != n) = false := by simp
      have hb2 : ((X.length : Int) != (X.length : Int)) = false := by simp
      go_wp2_with fail
      go_meet
      exact B2
    · have hb0 : (decide ¬ (0 ≤ n ∧ n ≤ 1000000000000)) = true := by simp [hr]
      rw [hb0]
      have hXe : X = ys := by rw [HX.out, uvE_no hr, List.append_nil]
      subst hXe
      have hu := uvR_end X
      rw [← HR.out] at hu
      cases hu
      rw [decide_eq_true (rfl : X = X)] at S1
      clear hb0 HR
      go_wp2_with fail
      refine (ofQuiet S1).mono ?_
      rintro e w3 ⟨rfl, bel3⟩
      clear S1
      have B3 := B2.trans (bel3.mono (by omega))
      go_wp2_with fail
      go_meet
      exact B3
  case rest =>
  have s3 := hcut.size
  have B3 := hcut
  clear hcut S1 HR HX WFX q1 q2 B2 bel2 hEl FY HN hc1 hc2 hm1 hm2 n0 n1 hy
  have r3 := r0.below B3 (Nat.le_refl _)
  go_wp2_with fail
  refine (drawUr_any _ xs _ _ _ r3 F0.out s3 b0).mono ?_
  rintro e w4 ⟨v4, zs, o, ⟨o0, o1⟩, rfl, o4, hz, fz, bel4⟩
  have s4 := bel4.size
  have B4 := B3.trans (bel4.mono s3)
  have q4 := o4.rd
  clear o4
  have FZ := Lib.hid fz
  clear fz
  have HO : Hid (In64 o) := by unfold Hid In64; omega
  obtain ⟨A4, c4, rfl, hc4, hm4⟩ := q4.form
  unfold maxLen at hm4
  have U := implUr _ zs o _ _ _ q4 FZ.out HO.out
  have V := specUr _ zs o _ _ _ q4 FZ.out HO.out
  rcases uvR_cases zs o FZ.out with hu | ⟨q, k, hu, h0, h1, h2, h3, h4, h5⟩
  · rw [hu] at U V
    clear hu
    go_wp2_with fail
    refine U.mono ?_
    rintro e w' ⟨rfl, rfl⟩
    go_wp2_with fail
    refine V.mono ?_
    rintro e w' ⟨rfl, rfl⟩
    go_wp2_with fail
    go_ret
    exact ⟨rfl, B4⟩
  · rw [hu] at U
    clear hu V
    obtain ⟨b, hb⟩ : ∃ b : Nat, (b : Int) = o + k := ⟨(o + k).toNat, by omega⟩
    obtain ⟨a, ha⟩ : ∃ a : Nat, (a : Int) = o := ⟨o.toNat, by omega⟩
    rw [← hb] at U
    subst ha
    rw [Int.toNat_natCast] at h5
    have hk : k = b - a := by omega
    subst hk
    have la : a < b := by omega
    have lb : b ≤ zs.length := by omega
    obtain ⟨bk, off, rfl⟩ : ∃ bk off, A4 = some ⟨bk, off, none⟩ := by
      obtain ⟨A', c', e1, _, _, hr⟩ := q4
      obtain ⟨bk, off, hA, _⟩ := hr (by omega)
      simp at e1
      exact ⟨bk, off, by rw [e1.1, hA]⟩
    have rs := q4.sub a (b - a) (by omega)
    rw [h5] at rs
    have H5 := Lib.hid h5
    clear h5 hb h1 h2 o0 o1 HO h0
    have hc3 : a < c4 := by omega
    have hc5 : ¬ c4 = a := by omega
    have I1 : (0 : Int) ≤ (a : Int) := by omega
    have I2 : (b : Int) ≤ (zs.length : Int) := by omega
    have I3 : (a : Int) < (b : Int) := by omega
    have I4 : (b : Int) ≤ (c4 : Int) := by omega
    have I5 : (a : Int) ≤ (b : Int) := by omega
    have I6 : a ≤ b := by omega
    have I7 : b ≤ c4 := by omega
    have AP : ∀ (W : World) (A : Option Addr), _ := fun W A => implApU (.slice A 0 0) [] q W 0 0 (Rd.nil_ .u8 W 0 0 A 0 (by decide)) (by unfold In64; omega) (Nat.zero_le _) (by simp)
    go_wp2_with fail
    refine U.mono ?_
    rintro e w' ⟨rfl, rfl⟩
    clear U
    go_wp2_with fail
    go_region_held3 (fun _ => True) (trivial) (first | (go_at_call 22; refine (AP _ _).mono ?_; rintro e w5 ⟨v5, rfl, o5, bel5⟩) | (go_at_call 39; refine (sameBytes_same _ _ (uvE q) _ _ _ _ _ o5.rd (((rs.alloc (by omega) (.cells #[] 5)).drew).below bel5 (by simp <;> omega))).mono ?_; rintro e w6 ⟨rfl, bel6⟩))
    have B5 : Below w.heap.size w w5 := (B4.alloc (by omega) (.cells #[] 5)).drew.trans (bel5.mono (by simp <;> omega))
    have s5 := B5.size
    have B6 := B5.trans (bel6.mono s5)
    go_wp2_with fail
    go_ret
    exact ⟨rfl, B6⟩
end Go.Proofs.Ythidfmheeblfeaa
