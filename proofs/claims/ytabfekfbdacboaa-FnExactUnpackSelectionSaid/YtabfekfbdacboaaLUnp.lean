/- The exact law of UnpackSelection: its walk (printed by genlaw.py). -/
import Derived.Test.YtabfekfbdacboaaUnpack
import Derived.Test.YtabfekfbdacboaaMark
namespace Go.Proofs.Ytabfekfbdacboaa
open Go.RowKit
set_option linter.unusedVariables false

set_option maxRecDepth 100000 in
theorem law_FnExactUnpackSelection (w : World) (v0 : Value) (xs : List Int) (r0 : Rd .u8 w 0 w.heap.size v0 xs) (f0 : Wf .u8 xs) :
    Calls Try.prog 8 #[v0] w fun e w' => e = .returned (.bool true) ∧ Below w.heap.size w w' := by
  obtain ⟨A0, c0, rfl, hc0, hm0⟩ := r0.form
  unfold maxLen at hm0
  by_cases b0 : xs.length ≤ 1048576
  rotate_left
  · go_enter Try.func8, Try.ntmps8
    go_wp2_with fail
    go_ret
    exact ⟨rfl, Below.refl _ _⟩
  have hL := unpL_le xs f0
  go_enter Try.func8, Try.ntmps8
  go_wp2_with fail
  refine (toByteS_any _ xs _ _ _ r0 b0 (by omega)).mono ?_
  rintro e w1 ⟨t1, rfl, o1, bel1⟩
  have s1 := bel1.size
  have B1 := bel1
  replace r0 := r0.below bel1 (by omega)
  have q1 := o1.rd
  go_wp2_with fail
  refine (specUnp _ xs _ _ _ q1 f0 (by omega)).mono ?_
  rintro e w2 ⟨w0_2, rfl, wo0_2, bel2⟩
  have s2 := bel2.size
  have B2 := B1.trans (bel2.mono (by omega))
  replace r0 := r0.below bel2 (by omega)
  replace q1 := q1.below bel2 (by omega)
  clear q1
  clear o1
  have qw0 := wo0_2.rd
  clear wo0_2
  go_wp2_with fail
  refine (toByteS_any _ xs _ _ _ r0 b0 (by omega)).mono ?_
  rintro e w3 ⟨t3, rfl, o3, bel3⟩
  have s3 := bel3.size
  have B3 := B2.trans (bel3.mono (by omega))
  replace r0 := r0.below bel3 (by omega)
  replace qw0 := qw0.below bel3 (by omega)
  have q3 := o3.rd
  have ox0 := o3
  clear o3
  have qx0 := q3
  clear q3
  go_wp2_with fail
  refine (implUnp _ xs _ _ _ qx0 f0 (by omega)).mono ?_
  rintro e w4 ⟨g0_4, rfl, go0_4, bel4⟩
  have s4 := bel4.size
  have B4 := B3.trans (bel4.mono (by omega))
  replace r0 := r0.below bel4 (by omega)
  replace qw0 := qw0.below bel4 (by omega)
  replace qx0 := qx0.below bel4 (by omega)
  replace ox0 := ox0.below bel4 (by omega)
  have qg0 := go0_4.rd
  have og0 := go0_4
  clear go0_4
  go_wp2_with fail
  refine (eqIntS_same _ _ _ _ _ _ _ _ qg0 qw0).mono ?_
  rintro e w5 ⟨rfl, bel5⟩
  have s5 := bel5.size
  have B5 := B4.trans (bel5.mono (by omega))
  replace r0 := r0.below bel5 (by omega)
  replace qw0 := qw0.below bel5 (by omega)
  replace qx0 := qx0.below bel5 (by omega)
  replace ox0 := ox0.below bel5 (by omega)
  replace qg0 := qg0.below bel5 (by omega)
  replace og0 := og0.below bel5 (by omega)
  go_wp2_with fail
  refine (toByteS_any _ xs _ _ _ r0 b0 (by omega)).mono ?_
  rintro e w6 ⟨t6, rfl, o6, bel6⟩
  have s6 := bel6.size
  have B6 := B5.trans (bel6.mono (by omega))
  replace r0 := r0.below bel6 (by omega)
  replace qw0 := qw0.below bel6 (by omega)
  replace qx0 := qx0.below bel6 (by omega)
  replace ox0 := ox0.below bel6 (by omega)
  replace qg0 := qg0.below bel6 (by omega)
  replace og0 := og0.below bel6 (by omega)
  have q6 := o6.rd
  clear o6
  go_wp2_with fail
  refine (eqByteS_same _ _ _ _ _ _ _ _ qx0 q6).mono ?_
  rintro e w7 ⟨rfl, bel7⟩
  have s7 := bel7.size
  have B7 := B6.trans (bel7.mono (by omega))
  replace r0 := r0.below bel7 (by omega)
  replace qw0 := qw0.below bel7 (by omega)
  replace qx0 := qx0.below bel7 (by omega)
  replace ox0 := ox0.below bel7 (by omega)
  replace qg0 := qg0.below bel7 (by omega)
  replace og0 := og0.below bel7 (by omega)
  replace q6 := q6.below bel7 (by omega)
  clear q6
  go_wp2_with fail
  refine (markByteS_any _ _ (1) _ _ _ ox0 qx0 (by omega) (by omega)).mono ?_
  rintro e w8 ⟨rfl, o8', q8', tch8⟩
  have s8 := tch8.size
  have B8 := tch8.below B7 (by omega)
  replace r0 := r0.touch tch8 (by omega)
  replace qw0 := qw0.touch tch8 (by omega)
  replace qg0 := qg0.touch tch8 (by omega)
  replace og0 := og0.touch tch8 (by omega)
  clear ox0 qx0 o8' q8'
  go_wp2_with fail
  refine (eqIntS_same _ _ _ _ _ _ _ _ qg0 qw0).mono ?_
  rintro e w9 ⟨rfl, bel9⟩
  have s9 := bel9.size
  have B9 := B8.trans (bel9.mono (by omega))
  replace r0 := r0.below bel9 (by omega)
  replace qw0 := qw0.below bel9 (by omega)
  replace qg0 := qg0.below bel9 (by omega)
  replace og0 := og0.below bel9 (by omega)
  go_wp2_with fail
  refine (markIntS_any _ _ (1) _ _ _ og0 qg0 (by omega) (by omega)).mono ?_
  rintro e w10 ⟨rfl, o10', q10', tch10⟩
  have s10 := tch10.size
  have B10 := tch10.below B9 (by omega)
  replace r0 := r0.touch tch10 (by omega)
  replace qw0 := qw0.touch tch10 (by omega)
  clear og0 qg0 o10'
  have qm0 := q10'
  clear q10'
  go_wp2_with fail
  refine (heldIntS_any _ (1) _ _ _ _ qm0 (by omega) (by omega)).mono ?_
  rintro e w11 ⟨rfl, bel11⟩
  have s11 := bel11.size
  have B11 := B10.trans (bel11.mono (by omega))
  replace r0 := r0.below bel11 (by omega)
  replace qw0 := qw0.below bel11 (by omega)
  replace qm0 := qm0.below bel11 (by omega)
  go_wp2_with fail
  refine (toByteS_any _ xs _ _ _ r0 b0 (by omega)).mono ?_
  rintro e w12 ⟨t12, rfl, o12, bel12⟩
  have s12 := bel12.size
  have B12 := B11.trans (bel12.mono (by omega))
  replace r0 := r0.below bel12 (by omega)
  replace qw0 := qw0.below bel12 (by omega)
  replace qm0 := qm0.below bel12 (by omega)
  have q12 := o12.rd
  go_wp2_with fail
  refine (implUnp _ xs _ _ _ q12 f0 (by omega)).mono ?_
  rintro e w13 ⟨h0_13, rfl, ho0_13, bel13⟩
  have s13 := bel13.size
  have B13 := B12.trans (bel13.mono (by omega))
  replace r0 := r0.below bel13 (by omega)
  replace qw0 := qw0.below bel13 (by omega)
  replace qm0 := qm0.below bel13 (by omega)
  replace q12 := q12.below bel13 (by omega)
  have qh0 := ho0_13.rd
  go_wp2_with fail
  refine (eqIntS_same _ _ _ _ _ _ _ _ qh0 qw0).mono ?_
  rintro e w14 ⟨rfl, bel14⟩
  have s14 := bel14.size
  have B14 := B13.trans (bel14.mono (by omega))
  replace r0 := r0.below bel14 (by omega)
  replace qw0 := qw0.below bel14 (by omega)
  replace qm0 := qm0.below bel14 (by omega)
  replace q12 := q12.below bel14 (by omega)
  replace qh0 := qh0.below bel14 (by omega)
  go_wp2_with fail
  refine (heldIntS_any _ (1) _ _ _ _ qm0 (by omega) (by omega)).mono ?_
  rintro e w15 ⟨rfl, bel15⟩
  have s15 := bel15.size
  have B15 := B14.trans (bel15.mono (by omega))
  replace r0 := r0.below bel15 (by omega)
  replace qw0 := qw0.below bel15 (by omega)
  replace qm0 := qm0.below bel15 (by omega)
  replace q12 := q12.below bel15 (by omega)
  replace qh0 := qh0.below bel15 (by omega)
  go_wp2_with fail
  go_ret
  exact ⟨rfl, B15⟩

end Go.Proofs.Ytabfekfbdacboaa
