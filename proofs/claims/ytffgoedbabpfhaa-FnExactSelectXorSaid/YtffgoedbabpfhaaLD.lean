/- The exact laws of this seat: their walks (printed by genlaw.py). -/
import Derived.Test.YtffgoedbabpfhaaXor2
namespace Go.Proofs.Ytffgoedbabpfhaa
open Go.RowKit
set_option linter.unusedVariables false

set_option maxRecDepth 100000 in
theorem law_FnExactXorBytes (w : World) (v0 : Value) (xs : List Int) (r0 : Rd .u8 w 0 w.heap.size v0 xs) (f0 : Wf .u8 xs) (v1 : Value) (ys : List Int) (r1 : Rd .u8 w 0 w.heap.size v1 ys) (f1 : Wf .u8 ys) :
    Calls Try.prog 3 #[v0, v1] w fun e w' => e = .returned (.bool true) ∧ Below w.heap.size w w' := by
  obtain ⟨A0, c0, rfl, hc0, hm0⟩ := r0.form
  obtain ⟨A1, c1, rfl, hc1, hm1⟩ := r1.form
  unfold maxLen at hm0 hm1
  by_cases b0 : xs.length ≤ 1048576
  rotate_left
  · go_enter Try.func3, Try.ntmps3
    go_wp2_with fail
    go_ret
    exact ⟨rfl, Below.refl _ _⟩
  by_cases b1 : ys.length ≤ 1048576
  rotate_left
  · go_enter Try.func3, Try.ntmps3
    go_wp2_with fail
    go_ret
    exact ⟨rfl, Below.refl _ _⟩
  have hL : (xorL xs ys).length ≤ 1048576 := by rw [xorL_length]; omega
  go_enter Try.func3, Try.ntmps3
  go_wp2_with fail
  refine (toByteS_any _ xs _ _ _ r0 b0 (by omega)).mono ?_
  rintro e w1 ⟨t1, rfl, o1, bel1⟩
  have s1 := bel1.size
  have B1 := bel1
  replace r0 := r0.below bel1 (by omega)
  replace r1 := r1.below bel1 (by omega)
  have q1 := o1.rd
  go_wp2_with fail
  refine (toByteS_any _ ys _ _ _ r1 b1 (by omega)).mono ?_
  rintro e w2 ⟨t2, rfl, o2, bel2⟩
  have s2 := bel2.size
  have B2 := B1.trans (bel2.mono (by omega))
  replace r0 := r0.below bel2 (by omega)
  replace r1 := r1.below bel2 (by omega)
  replace q1 := q1.below bel2 (by omega)
  have q2 := o2.rd
  go_wp2_with fail
  refine (specXor _ _ xs ys _ _ _ _ _ q1 q2 f0 f1 (by omega) (by omega) (by omega) (by omega)).mono ?_
  rintro e w3 ⟨w0_3, rfl, wo0_3, bel3⟩
  have s3 := bel3.size
  have B3 := B2.trans (bel3.mono (by omega))
  replace r0 := r0.below bel3 (by omega)
  replace r1 := r1.below bel3 (by omega)
  replace q1 := q1.below bel3 (by omega)
  replace q2 := q2.below bel3 (by omega)
  clear q1 q2
  clear o1
  clear o2
  have qw0 := wo0_3.rd
  clear wo0_3
  go_wp2_with fail
  refine (toByteS_any _ xs _ _ _ r0 b0 (by omega)).mono ?_
  rintro e w4 ⟨t4, rfl, o4, bel4⟩
  have s4 := bel4.size
  have B4 := B3.trans (bel4.mono (by omega))
  replace r0 := r0.below bel4 (by omega)
  replace r1 := r1.below bel4 (by omega)
  replace qw0 := qw0.below bel4 (by omega)
  have q4 := o4.rd
  have ox0 := o4
  clear o4
  have qx0 := q4
  clear q4
  go_wp2_with fail
  refine (toByteS_any _ ys _ _ _ r1 b1 (by omega)).mono ?_
  rintro e w5 ⟨t5, rfl, o5, bel5⟩
  have s5 := bel5.size
  have B5 := B4.trans (bel5.mono (by omega))
  replace r0 := r0.below bel5 (by omega)
  replace r1 := r1.below bel5 (by omega)
  replace qw0 := qw0.below bel5 (by omega)
  replace qx0 := qx0.below bel5 (by omega)
  replace ox0 := ox0.below bel5 (by omega)
  have q5 := o5.rd
  have ox1 := o5
  clear o5
  have qx1 := q5
  clear q5
  go_wp2_with fail
  refine (implXor _ _ xs ys _ _ _ _ _ qx0 qx1 (by omega) (by omega) (by omega) (by omega)).mono ?_
  rintro e w6 ⟨g0_6, rfl, go0_6, bel6⟩
  have s6 := bel6.size
  have B6 := B5.trans (bel6.mono (by omega))
  replace r0 := r0.below bel6 (by omega)
  replace r1 := r1.below bel6 (by omega)
  replace qw0 := qw0.below bel6 (by omega)
  replace qx0 := qx0.below bel6 (by omega)
  replace ox0 := ox0.below bel6 (by omega)
  replace qx1 := qx1.below bel6 (by omega)
  replace ox1 := ox1.below bel6 (by omega)
  have qg0 := go0_6.rd
  have og0 := go0_6
  clear go0_6
  go_wp2_with fail
  refine (eqByteS_same _ _ _ _ _ _ _ _ qg0 qw0).mono ?_
  rintro e w7 ⟨rfl, bel7⟩
  have s7 := bel7.size
  have B7 := B6.trans (bel7.mono (by omega))
  replace r0 := r0.below bel7 (by omega)
  replace r1 := r1.below bel7 (by omega)
  replace qw0 := qw0.below bel7 (by omega)
  replace qx0 := qx0.below bel7 (by omega)
  replace ox0 := ox0.below bel7 (by omega)
  replace qx1 := qx1.below bel7 (by omega)
  replace ox1 := ox1.below bel7 (by omega)
  replace qg0 := qg0.below bel7 (by omega)
  replace og0 := og0.below bel7 (by omega)
  go_wp2_with fail
  refine (toByteS_any _ xs _ _ _ r0 b0 (by omega)).mono ?_
  rintro e w8 ⟨t8, rfl, o8, bel8⟩
  have s8 := bel8.size
  have B8 := B7.trans (bel8.mono (by omega))
  replace r0 := r0.below bel8 (by omega)
  replace r1 := r1.below bel8 (by omega)
  replace qw0 := qw0.below bel8 (by omega)
  replace qx0 := qx0.below bel8 (by omega)
  replace ox0 := ox0.below bel8 (by omega)
  replace qx1 := qx1.below bel8 (by omega)
  replace ox1 := ox1.below bel8 (by omega)
  replace qg0 := qg0.below bel8 (by omega)
  replace og0 := og0.below bel8 (by omega)
  have q8 := o8.rd
  clear o8
  go_wp2_with fail
  refine (eqByteS_same _ _ _ _ _ _ _ _ qx0 q8).mono ?_
  rintro e w9 ⟨rfl, bel9⟩
  have s9 := bel9.size
  have B9 := B8.trans (bel9.mono (by omega))
  replace r0 := r0.below bel9 (by omega)
  replace r1 := r1.below bel9 (by omega)
  replace qw0 := qw0.below bel9 (by omega)
  replace qx0 := qx0.below bel9 (by omega)
  replace ox0 := ox0.below bel9 (by omega)
  replace qx1 := qx1.below bel9 (by omega)
  replace ox1 := ox1.below bel9 (by omega)
  replace qg0 := qg0.below bel9 (by omega)
  replace og0 := og0.below bel9 (by omega)
  replace q8 := q8.below bel9 (by omega)
  clear q8
  go_wp2_with fail
  refine (toByteS_any _ ys _ _ _ r1 b1 (by omega)).mono ?_
  rintro e w10 ⟨t10, rfl, o10, bel10⟩
  have s10 := bel10.size
  have B10 := B9.trans (bel10.mono (by omega))
  replace r0 := r0.below bel10 (by omega)
  replace r1 := r1.below bel10 (by omega)
  replace qw0 := qw0.below bel10 (by omega)
  replace qx0 := qx0.below bel10 (by omega)
  replace ox0 := ox0.below bel10 (by omega)
  replace qx1 := qx1.below bel10 (by omega)
  replace ox1 := ox1.below bel10 (by omega)
  replace qg0 := qg0.below bel10 (by omega)
  replace og0 := og0.below bel10 (by omega)
  have q10 := o10.rd
  clear o10
  go_wp2_with fail
  refine (eqByteS_same _ _ _ _ _ _ _ _ qx1 q10).mono ?_
  rintro e w11 ⟨rfl, bel11⟩
  have s11 := bel11.size
  have B11 := B10.trans (bel11.mono (by omega))
  replace r0 := r0.below bel11 (by omega)
  replace r1 := r1.below bel11 (by omega)
  replace qw0 := qw0.below bel11 (by omega)
  replace qx0 := qx0.below bel11 (by omega)
  replace ox0 := ox0.below bel11 (by omega)
  replace qx1 := qx1.below bel11 (by omega)
  replace ox1 := ox1.below bel11 (by omega)
  replace qg0 := qg0.below bel11 (by omega)
  replace og0 := og0.below bel11 (by omega)
  replace q10 := q10.below bel11 (by omega)
  clear q10
  go_wp2_with fail
  refine (markByteS_any _ _ (1) _ _ _ ox0 qx0 (by omega) (by omega)).mono ?_
  rintro e w12 ⟨rfl, o12', q12', tch12⟩
  have s12 := tch12.size
  have B12 := tch12.below B11 (by omega)
  replace r0 := r0.touch tch12 (by omega)
  replace r1 := r1.touch tch12 (by omega)
  replace qw0 := qw0.touch tch12 (by omega)
  replace qx1 := qx1.touch tch12 (by omega)
  replace ox1 := ox1.touch tch12 (by omega)
  replace qg0 := qg0.touch tch12 (by omega)
  replace og0 := og0.touch tch12 (by omega)
  clear ox0 qx0 o12' q12'
  go_wp2_with fail
  refine (markByteS_any _ _ (1 + ((xs).length : Int)) _ _ _ ox1 qx1 (by omega) (by omega)).mono ?_
  rintro e w13 ⟨rfl, o13', q13', tch13⟩
  have s13 := tch13.size
  have B13 := tch13.below B12 (by omega)
  replace r0 := r0.touch tch13 (by omega)
  replace r1 := r1.touch tch13 (by omega)
  replace qw0 := qw0.touch tch13 (by omega)
  replace qg0 := qg0.touch tch13 (by omega)
  replace og0 := og0.touch tch13 (by omega)
  clear ox1 qx1 o13' q13'
  go_wp2_with fail
  refine (eqByteS_same _ _ _ _ _ _ _ _ qg0 qw0).mono ?_
  rintro e w14 ⟨rfl, bel14⟩
  have s14 := bel14.size
  have B14 := B13.trans (bel14.mono (by omega))
  replace r0 := r0.below bel14 (by omega)
  replace r1 := r1.below bel14 (by omega)
  replace qw0 := qw0.below bel14 (by omega)
  replace qg0 := qg0.below bel14 (by omega)
  replace og0 := og0.below bel14 (by omega)
  go_wp2_with fail
  refine (markByteS_any _ _ (1) _ _ _ og0 qg0 (by omega) (by omega)).mono ?_
  rintro e w15 ⟨rfl, o15', q15', tch15⟩
  have s15 := tch15.size
  have B15 := tch15.below B14 (by omega)
  replace r0 := r0.touch tch15 (by omega)
  replace r1 := r1.touch tch15 (by omega)
  replace qw0 := qw0.touch tch15 (by omega)
  clear og0 qg0 o15'
  have qm0 := q15'
  clear q15'
  go_wp2_with fail
  refine (heldByteS_any _ (1) _ _ _ _ qm0 (by omega) (by omega)).mono ?_
  rintro e w16 ⟨rfl, bel16⟩
  have s16 := bel16.size
  have B16 := B15.trans (bel16.mono (by omega))
  replace r0 := r0.below bel16 (by omega)
  replace r1 := r1.below bel16 (by omega)
  replace qw0 := qw0.below bel16 (by omega)
  replace qm0 := qm0.below bel16 (by omega)
  go_wp2_with fail
  refine (toByteS_any _ xs _ _ _ r0 b0 (by omega)).mono ?_
  rintro e w17 ⟨t17, rfl, o17, bel17⟩
  have s17 := bel17.size
  have B17 := B16.trans (bel17.mono (by omega))
  replace r0 := r0.below bel17 (by omega)
  replace r1 := r1.below bel17 (by omega)
  replace qw0 := qw0.below bel17 (by omega)
  replace qm0 := qm0.below bel17 (by omega)
  have q17 := o17.rd
  go_wp2_with fail
  refine (toByteS_any _ ys _ _ _ r1 b1 (by omega)).mono ?_
  rintro e w18 ⟨t18, rfl, o18, bel18⟩
  have s18 := bel18.size
  have B18 := B17.trans (bel18.mono (by omega))
  replace r0 := r0.below bel18 (by omega)
  replace r1 := r1.below bel18 (by omega)
  replace qw0 := qw0.below bel18 (by omega)
  replace qm0 := qm0.below bel18 (by omega)
  replace q17 := q17.below bel18 (by omega)
  have q18 := o18.rd
  go_wp2_with fail
  refine (implXor _ _ xs ys _ _ _ _ _ q17 q18 (by omega) (by omega) (by omega) (by omega)).mono ?_
  rintro e w19 ⟨h0_19, rfl, ho0_19, bel19⟩
  have s19 := bel19.size
  have B19 := B18.trans (bel19.mono (by omega))
  replace r0 := r0.below bel19 (by omega)
  replace r1 := r1.below bel19 (by omega)
  replace qw0 := qw0.below bel19 (by omega)
  replace qm0 := qm0.below bel19 (by omega)
  replace q17 := q17.below bel19 (by omega)
  replace q18 := q18.below bel19 (by omega)
  have qh0 := ho0_19.rd
  go_wp2_with fail
  refine (eqByteS_same _ _ _ _ _ _ _ _ qh0 qw0).mono ?_
  rintro e w20 ⟨rfl, bel20⟩
  have s20 := bel20.size
  have B20 := B19.trans (bel20.mono (by omega))
  replace r0 := r0.below bel20 (by omega)
  replace r1 := r1.below bel20 (by omega)
  replace qw0 := qw0.below bel20 (by omega)
  replace qm0 := qm0.below bel20 (by omega)
  replace q17 := q17.below bel20 (by omega)
  replace q18 := q18.below bel20 (by omega)
  replace qh0 := qh0.below bel20 (by omega)
  go_wp2_with fail
  refine (heldByteS_any _ (1) _ _ _ _ qm0 (by omega) (by omega)).mono ?_
  rintro e w21 ⟨rfl, bel21⟩
  have s21 := bel21.size
  have B21 := B20.trans (bel21.mono (by omega))
  replace r0 := r0.below bel21 (by omega)
  replace r1 := r1.below bel21 (by omega)
  replace qw0 := qw0.below bel21 (by omega)
  replace qm0 := qm0.below bel21 (by omega)
  replace q17 := q17.below bel21 (by omega)
  replace q18 := q18.below bel21 (by omega)
  replace qh0 := qh0.below bel21 (by omega)
  go_wp2_with fail
  go_ret
  exact ⟨rfl, B21⟩

set_option maxRecDepth 100000 in
theorem law_FnExactXorAll (w : World) (v0 : Value) (xss : List (List Int)) (r0 : Rds .u8 w 0 w.heap.size v0 xss) (f0 : ∀ zs ∈ xss, Wf .u8 zs) :
    Calls Try.prog 7 #[v0] w fun e w' => e = .returned (.bool true) ∧ Below w.heap.size w w' := by
  obtain ⟨A0, c0, rfl, hc0, hm0⟩ := r0.form
  unfold maxLen at hm0
  have hL := xorAll_len xss
  go_enter Try.func7, Try.ntmps7
  go_wp2_with fail
  refine (szByteSS_any _ xss _ _ _ r0 (1048576) (by omega)).mono ?_
  rintro e w1 ⟨left1, rfl, hl1, bel1⟩
  have s1 := bel1.size
  have B1 := bel1
  replace r0 := r0.below bel1 (by omega)
  by_cases g1 : left1 < 0
  · go_wp2_with fail
    go_ret
    exact ⟨rfl, B1⟩
  have b0 := hl1.resolve_left g1
  go_wp2_with fail
  refine (toByteSS_any _ xss _ _ _ r0 (by omega) (by omega)).mono ?_
  rintro e w2 ⟨t2, rfl, o2, bel2⟩
  have s2 := bel2.size
  have B2 := B1.trans (bel2.mono (by omega))
  replace r0 := r0.below bel2 (by omega)
  have q2 := o2.rd
  go_wp2_with fail
  refine (specXorAll _ xss _ _ _ q2 f0 (by omega) (by omega)).mono ?_
  rintro e w3 ⟨w0_3, rfl, wo0_3, bel3⟩
  have s3 := bel3.size
  have B3 := B2.trans (bel3.mono (by omega))
  replace r0 := r0.below bel3 (by omega)
  replace q2 := q2.below bel3 (by omega)
  clear q2
  clear o2
  have qw0 := wo0_3.rd
  clear wo0_3
  go_wp2_with fail
  refine (toByteSS_any _ xss _ _ _ r0 (by omega) (by omega)).mono ?_
  rintro e w4 ⟨t4, rfl, o4, bel4⟩
  have s4 := bel4.size
  have B4 := B3.trans (bel4.mono (by omega))
  replace r0 := r0.below bel4 (by omega)
  replace qw0 := qw0.below bel4 (by omega)
  have q4 := o4.rd
  have ox0 := o4
  clear o4
  have qx0 := q4
  clear q4
  go_wp2_with fail
  refine (implXorAll _ xss _ _ _ qx0 f0 (by omega) (by omega)).mono ?_
  rintro e w5 ⟨g0_5, rfl, go0_5, bel5⟩
  have s5 := bel5.size
  have B5 := B4.trans (bel5.mono (by omega))
  replace r0 := r0.below bel5 (by omega)
  replace qw0 := qw0.below bel5 (by omega)
  replace qx0 := qx0.below bel5 (by omega)
  replace ox0 := ox0.below bel5 (by omega)
  have qg0 := go0_5.rd
  have og0 := go0_5
  clear go0_5
  go_wp2_with fail
  refine (eqByteS_same _ _ _ _ _ _ _ _ qg0 qw0).mono ?_
  rintro e w6 ⟨rfl, bel6⟩
  have s6 := bel6.size
  have B6 := B5.trans (bel6.mono (by omega))
  replace r0 := r0.below bel6 (by omega)
  replace qw0 := qw0.below bel6 (by omega)
  replace qx0 := qx0.below bel6 (by omega)
  replace ox0 := ox0.below bel6 (by omega)
  replace qg0 := qg0.below bel6 (by omega)
  replace og0 := og0.below bel6 (by omega)
  go_wp2_with fail
  refine (toByteSS_any _ xss _ _ _ r0 (by omega) (by omega)).mono ?_
  rintro e w7 ⟨t7, rfl, o7, bel7⟩
  have s7 := bel7.size
  have B7 := B6.trans (bel7.mono (by omega))
  replace r0 := r0.below bel7 (by omega)
  replace qw0 := qw0.below bel7 (by omega)
  replace qx0 := qx0.below bel7 (by omega)
  replace ox0 := ox0.below bel7 (by omega)
  replace qg0 := qg0.below bel7 (by omega)
  replace og0 := og0.below bel7 (by omega)
  have q7 := o7.rd
  clear o7
  go_wp2_with fail
  refine (eqByteSS_same _ _ _ _ _ _ _ _ qx0 q7).mono ?_
  rintro e w8 ⟨rfl, bel8⟩
  have s8 := bel8.size
  have B8 := B7.trans (bel8.mono (by omega))
  replace r0 := r0.below bel8 (by omega)
  replace qw0 := qw0.below bel8 (by omega)
  replace qx0 := qx0.below bel8 (by omega)
  replace ox0 := ox0.below bel8 (by omega)
  replace qg0 := qg0.below bel8 (by omega)
  replace og0 := og0.below bel8 (by omega)
  replace q7 := q7.below bel8 (by omega)
  clear q7
  go_wp2_with fail
  refine (markByteSS_any _ _ (1) _ _ _ ox0 qx0 (by omega) (by omega)).mono ?_
  rintro e w9 ⟨rfl, o9', q9', tch9⟩
  have s9 := tch9.size
  have B9 := tch9.below B8 (by omega)
  replace r0 := r0.touch tch9 (by omega)
  replace qw0 := qw0.touch tch9 (by omega)
  replace qg0 := qg0.touch tch9 (by omega)
  replace og0 := og0.touch tch9 (by omega)
  clear ox0 qx0 o9' q9'
  go_wp2_with fail
  refine (eqByteS_same _ _ _ _ _ _ _ _ qg0 qw0).mono ?_
  rintro e w10 ⟨rfl, bel10⟩
  have s10 := bel10.size
  have B10 := B9.trans (bel10.mono (by omega))
  replace r0 := r0.below bel10 (by omega)
  replace qw0 := qw0.below bel10 (by omega)
  replace qg0 := qg0.below bel10 (by omega)
  replace og0 := og0.below bel10 (by omega)
  go_wp2_with fail
  refine (markByteS_any _ _ (1) _ _ _ og0 qg0 (by omega) (by omega)).mono ?_
  rintro e w11 ⟨rfl, o11', q11', tch11⟩
  have s11 := tch11.size
  have B11 := tch11.below B10 (by omega)
  replace r0 := r0.touch tch11 (by omega)
  replace qw0 := qw0.touch tch11 (by omega)
  clear og0 qg0 o11'
  have qm0 := q11'
  clear q11'
  go_wp2_with fail
  refine (heldByteS_any _ (1) _ _ _ _ qm0 (by omega) (by omega)).mono ?_
  rintro e w12 ⟨rfl, bel12⟩
  have s12 := bel12.size
  have B12 := B11.trans (bel12.mono (by omega))
  replace r0 := r0.below bel12 (by omega)
  replace qw0 := qw0.below bel12 (by omega)
  replace qm0 := qm0.below bel12 (by omega)
  go_wp2_with fail
  refine (toByteSS_any _ xss _ _ _ r0 (by omega) (by omega)).mono ?_
  rintro e w13 ⟨t13, rfl, o13, bel13⟩
  have s13 := bel13.size
  have B13 := B12.trans (bel13.mono (by omega))
  replace r0 := r0.below bel13 (by omega)
  replace qw0 := qw0.below bel13 (by omega)
  replace qm0 := qm0.below bel13 (by omega)
  have q13 := o13.rd
  go_wp2_with fail
  refine (implXorAll _ xss _ _ _ q13 f0 (by omega) (by omega)).mono ?_
  rintro e w14 ⟨h0_14, rfl, ho0_14, bel14⟩
  have s14 := bel14.size
  have B14 := B13.trans (bel14.mono (by omega))
  replace r0 := r0.below bel14 (by omega)
  replace qw0 := qw0.below bel14 (by omega)
  replace qm0 := qm0.below bel14 (by omega)
  replace q13 := q13.below bel14 (by omega)
  have qh0 := ho0_14.rd
  go_wp2_with fail
  refine (eqByteS_same _ _ _ _ _ _ _ _ qh0 qw0).mono ?_
  rintro e w15 ⟨rfl, bel15⟩
  have s15 := bel15.size
  have B15 := B14.trans (bel15.mono (by omega))
  replace r0 := r0.below bel15 (by omega)
  replace qw0 := qw0.below bel15 (by omega)
  replace qm0 := qm0.below bel15 (by omega)
  replace q13 := q13.below bel15 (by omega)
  replace qh0 := qh0.below bel15 (by omega)
  go_wp2_with fail
  refine (heldByteS_any _ (1) _ _ _ _ qm0 (by omega) (by omega)).mono ?_
  rintro e w16 ⟨rfl, bel16⟩
  have s16 := bel16.size
  have B16 := B15.trans (bel16.mono (by omega))
  replace r0 := r0.below bel16 (by omega)
  replace qw0 := qw0.below bel16 (by omega)
  replace qm0 := qm0.below bel16 (by omega)
  replace q13 := q13.below bel16 (by omega)
  replace qh0 := qh0.below bel16 (by omega)
  go_wp2_with fail
  go_ret
  exact ⟨rfl, B16⟩

set_option maxRecDepth 100000 in
theorem law_FnExactJoinBytes (w : World) (v0 : Value) (xss : List (List Int)) (r0 : Rds .u8 w 0 w.heap.size v0 xss) (f0 : ∀ zs ∈ xss, Wf .u8 zs) :
    Calls Try.prog 6 #[v0] w fun e w' => e = .returned (.bool true) ∧ Below w.heap.size w w' := by
  obtain ⟨A0, c0, rfl, hc0, hm0⟩ := r0.form
  unfold maxLen at hm0
  have hL : xss.flatten.length = total xss := rfl
  go_enter Try.func6, Try.ntmps6
  go_wp2_with fail
  refine (szByteSS_any _ xss _ _ _ r0 (1048576) (by omega)).mono ?_
  rintro e w1 ⟨left1, rfl, hl1, bel1⟩
  have s1 := bel1.size
  have B1 := bel1
  replace r0 := r0.below bel1 (by omega)
  by_cases g1 : left1 < 0
  · go_wp2_with fail
    go_ret
    exact ⟨rfl, B1⟩
  have b0 := hl1.resolve_left g1
  go_wp2_with fail
  refine (toByteSS_any _ xss _ _ _ r0 (by omega) (by omega)).mono ?_
  rintro e w2 ⟨t2, rfl, o2, bel2⟩
  have s2 := bel2.size
  have B2 := B1.trans (bel2.mono (by omega))
  replace r0 := r0.below bel2 (by omega)
  have q2 := o2.rd
  go_wp2_with fail
  refine (specJoin _ xss _ _ _ q2 (by omega) (by omega)).mono ?_
  rintro e w3 ⟨w0_3, rfl, wo0_3, bel3⟩
  have s3 := bel3.size
  have B3 := B2.trans (bel3.mono (by omega))
  replace r0 := r0.below bel3 (by omega)
  replace q2 := q2.below bel3 (by omega)
  clear q2
  clear o2
  have qw0 := wo0_3.rd
  clear wo0_3
  go_wp2_with fail
  refine (toByteSS_any _ xss _ _ _ r0 (by omega) (by omega)).mono ?_
  rintro e w4 ⟨t4, rfl, o4, bel4⟩
  have s4 := bel4.size
  have B4 := B3.trans (bel4.mono (by omega))
  replace r0 := r0.below bel4 (by omega)
  replace qw0 := qw0.below bel4 (by omega)
  have q4 := o4.rd
  have ox0 := o4
  clear o4
  have qx0 := q4
  clear q4
  go_wp2_with fail
  refine (implJoin _ xss _ _ _ qx0 (by omega) (by omega) (by omega)).mono ?_
  rintro e w5 ⟨g0_5, rfl, go0_5, bel5⟩
  have s5 := bel5.size
  have B5 := B4.trans (bel5.mono (by omega))
  replace r0 := r0.below bel5 (by omega)
  replace qw0 := qw0.below bel5 (by omega)
  replace qx0 := qx0.below bel5 (by omega)
  replace ox0 := ox0.below bel5 (by omega)
  have qg0 := go0_5.rd
  have og0 := go0_5
  clear go0_5
  go_wp2_with fail
  refine (eqByteS_same _ _ _ _ _ _ _ _ qg0 qw0).mono ?_
  rintro e w6 ⟨rfl, bel6⟩
  have s6 := bel6.size
  have B6 := B5.trans (bel6.mono (by omega))
  replace r0 := r0.below bel6 (by omega)
  replace qw0 := qw0.below bel6 (by omega)
  replace qx0 := qx0.below bel6 (by omega)
  replace ox0 := ox0.below bel6 (by omega)
  replace qg0 := qg0.below bel6 (by omega)
  replace og0 := og0.below bel6 (by omega)
  go_wp2_with fail
  refine (toByteSS_any _ xss _ _ _ r0 (by omega) (by omega)).mono ?_
  rintro e w7 ⟨t7, rfl, o7, bel7⟩
  have s7 := bel7.size
  have B7 := B6.trans (bel7.mono (by omega))
  replace r0 := r0.below bel7 (by omega)
  replace qw0 := qw0.below bel7 (by omega)
  replace qx0 := qx0.below bel7 (by omega)
  replace ox0 := ox0.below bel7 (by omega)
  replace qg0 := qg0.below bel7 (by omega)
  replace og0 := og0.below bel7 (by omega)
  have q7 := o7.rd
  clear o7
  go_wp2_with fail
  refine (eqByteSS_same _ _ _ _ _ _ _ _ qx0 q7).mono ?_
  rintro e w8 ⟨rfl, bel8⟩
  have s8 := bel8.size
  have B8 := B7.trans (bel8.mono (by omega))
  replace r0 := r0.below bel8 (by omega)
  replace qw0 := qw0.below bel8 (by omega)
  replace qx0 := qx0.below bel8 (by omega)
  replace ox0 := ox0.below bel8 (by omega)
  replace qg0 := qg0.below bel8 (by omega)
  replace og0 := og0.below bel8 (by omega)
  replace q7 := q7.below bel8 (by omega)
  clear q7
  go_wp2_with fail
  refine (markByteSS_any _ _ (1) _ _ _ ox0 qx0 (by omega) (by omega)).mono ?_
  rintro e w9 ⟨rfl, o9', q9', tch9⟩
  have s9 := tch9.size
  have B9 := tch9.below B8 (by omega)
  replace r0 := r0.touch tch9 (by omega)
  replace qw0 := qw0.touch tch9 (by omega)
  replace qg0 := qg0.touch tch9 (by omega)
  replace og0 := og0.touch tch9 (by omega)
  clear ox0 qx0 o9' q9'
  go_wp2_with fail
  refine (eqByteS_same _ _ _ _ _ _ _ _ qg0 qw0).mono ?_
  rintro e w10 ⟨rfl, bel10⟩
  have s10 := bel10.size
  have B10 := B9.trans (bel10.mono (by omega))
  replace r0 := r0.below bel10 (by omega)
  replace qw0 := qw0.below bel10 (by omega)
  replace qg0 := qg0.below bel10 (by omega)
  replace og0 := og0.below bel10 (by omega)
  go_wp2_with fail
  refine (markByteS_any _ _ (1) _ _ _ og0 qg0 (by omega) (by omega)).mono ?_
  rintro e w11 ⟨rfl, o11', q11', tch11⟩
  have s11 := tch11.size
  have B11 := tch11.below B10 (by omega)
  replace r0 := r0.touch tch11 (by omega)
  replace qw0 := qw0.touch tch11 (by omega)
  clear og0 qg0 o11'
  have qm0 := q11'
  clear q11'
  go_wp2_with fail
  refine (heldByteS_any _ (1) _ _ _ _ qm0 (by omega) (by omega)).mono ?_
  rintro e w12 ⟨rfl, bel12⟩
  have s12 := bel12.size
  have B12 := B11.trans (bel12.mono (by omega))
  replace r0 := r0.below bel12 (by omega)
  replace qw0 := qw0.below bel12 (by omega)
  replace qm0 := qm0.below bel12 (by omega)
  go_wp2_with fail
  refine (toByteSS_any _ xss _ _ _ r0 (by omega) (by omega)).mono ?_
  rintro e w13 ⟨t13, rfl, o13, bel13⟩
  have s13 := bel13.size
  have B13 := B12.trans (bel13.mono (by omega))
  replace r0 := r0.below bel13 (by omega)
  replace qw0 := qw0.below bel13 (by omega)
  replace qm0 := qm0.below bel13 (by omega)
  have q13 := o13.rd
  go_wp2_with fail
  refine (implJoin _ xss _ _ _ q13 (by omega) (by omega) (by omega)).mono ?_
  rintro e w14 ⟨h0_14, rfl, ho0_14, bel14⟩
  have s14 := bel14.size
  have B14 := B13.trans (bel14.mono (by omega))
  replace r0 := r0.below bel14 (by omega)
  replace qw0 := qw0.below bel14 (by omega)
  replace qm0 := qm0.below bel14 (by omega)
  replace q13 := q13.below bel14 (by omega)
  have qh0 := ho0_14.rd
  go_wp2_with fail
  refine (eqByteS_same _ _ _ _ _ _ _ _ qh0 qw0).mono ?_
  rintro e w15 ⟨rfl, bel15⟩
  have s15 := bel15.size
  have B15 := B14.trans (bel15.mono (by omega))
  replace r0 := r0.below bel15 (by omega)
  replace qw0 := qw0.below bel15 (by omega)
  replace qm0 := qm0.below bel15 (by omega)
  replace q13 := q13.below bel15 (by omega)
  replace qh0 := qh0.below bel15 (by omega)
  go_wp2_with fail
  refine (heldByteS_any _ (1) _ _ _ _ qm0 (by omega) (by omega)).mono ?_
  rintro e w16 ⟨rfl, bel16⟩
  have s16 := bel16.size
  have B16 := B15.trans (bel16.mono (by omega))
  replace r0 := r0.below bel16 (by omega)
  replace qw0 := qw0.below bel16 (by omega)
  replace qm0 := qm0.below bel16 (by omega)
  replace q13 := q13.below bel16 (by omega)
  replace qh0 := qh0.below bel16 (by omega)
  go_wp2_with fail
  go_ret
  exact ⟨rfl, B16⟩

set_option maxRecDepth 100000 in
theorem law_FnExactMissingShare (w : World) (v0 : Value) (xss : List (List Int)) (r0 : Rds .u8 w 0 w.heap.size v0 xss) (f0 : ∀ zs ∈ xss, Wf .u8 zs) (v1 : Value) (ys : List Int) (r1 : Rd .u8 w 0 w.heap.size v1 ys) (f1 : Wf .u8 ys) :
    Calls Try.prog 8 #[v0, v1] w fun e w' => e = .returned (.bool true) ∧ Below w.heap.size w w' := by
  obtain ⟨A0, c0, rfl, hc0, hm0⟩ := r0.form
  obtain ⟨A1, c1, rfl, hc1, hm1⟩ := r1.form
  unfold maxLen at hm0 hm1
  by_cases b1 : ys.length ≤ 1048576
  rotate_left
  · go_enter Try.func8, Try.ntmps8
    go_wp2_with fail
    go_ret
    exact ⟨rfl, Below.refl _ _⟩
  have hL : (xorL (xorAllL xss) ys).length ≤ total xss + ys.length := by rw [xorL_length]; have := xorAll_len xss; omega
  go_enter Try.func8, Try.ntmps8
  go_wp2_with fail
  refine (szByteSS_any _ xss _ _ _ r0 (1048576) (by omega)).mono ?_
  rintro e w1 ⟨left1, rfl, hl1, bel1⟩
  have s1 := bel1.size
  have B1 := bel1
  replace r0 := r0.below bel1 (by omega)
  replace r1 := r1.below bel1 (by omega)
  by_cases g1 : left1 < 0
  · go_wp2_with fail
    go_ret
    exact ⟨rfl, B1⟩
  have b0 := hl1.resolve_left g1
  go_wp2_with fail
  refine (toByteSS_any _ xss _ _ _ r0 (by omega) (by omega)).mono ?_
  rintro e w2 ⟨t2, rfl, o2, bel2⟩
  have s2 := bel2.size
  have B2 := B1.trans (bel2.mono (by omega))
  replace r0 := r0.below bel2 (by omega)
  replace r1 := r1.below bel2 (by omega)
  have q2 := o2.rd
  go_wp2_with fail
  refine (toByteS_any _ ys _ _ _ r1 b1 (by omega)).mono ?_
  rintro e w3 ⟨t3, rfl, o3, bel3⟩
  have s3 := bel3.size
  have B3 := B2.trans (bel3.mono (by omega))
  replace r0 := r0.below bel3 (by omega)
  replace r1 := r1.below bel3 (by omega)
  replace q2 := q2.below bel3 (by omega)
  have q3 := o3.rd
  go_wp2_with fail
  refine (specMiss _ _ xss ys _ _ _ _ _ q2 q3 f0 f1 (by omega) (by omega) (by omega) (by omega)).mono ?_
  rintro e w4 ⟨w0_4, rfl, wo0_4, bel4⟩
  have s4 := bel4.size
  have B4 := B3.trans (bel4.mono (by omega))
  replace r0 := r0.below bel4 (by omega)
  replace r1 := r1.below bel4 (by omega)
  replace q2 := q2.below bel4 (by omega)
  replace q3 := q3.below bel4 (by omega)
  clear q2 q3
  clear o2
  clear o3
  have qw0 := wo0_4.rd
  clear wo0_4
  go_wp2_with fail
  refine (toByteSS_any _ xss _ _ _ r0 (by omega) (by omega)).mono ?_
  rintro e w5 ⟨t5, rfl, o5, bel5⟩
  have s5 := bel5.size
  have B5 := B4.trans (bel5.mono (by omega))
  replace r0 := r0.below bel5 (by omega)
  replace r1 := r1.below bel5 (by omega)
  replace qw0 := qw0.below bel5 (by omega)
  have q5 := o5.rd
  have ox0 := o5
  clear o5
  have qx0 := q5
  clear q5
  go_wp2_with fail
  refine (toByteS_any _ ys _ _ _ r1 b1 (by omega)).mono ?_
  rintro e w6 ⟨t6, rfl, o6, bel6⟩
  have s6 := bel6.size
  have B6 := B5.trans (bel6.mono (by omega))
  replace r0 := r0.below bel6 (by omega)
  replace r1 := r1.below bel6 (by omega)
  replace qw0 := qw0.below bel6 (by omega)
  replace qx0 := qx0.below bel6 (by omega)
  replace ox0 := ox0.below bel6 (by omega)
  have q6 := o6.rd
  have ox1 := o6
  clear o6
  have qx1 := q6
  clear q6
  go_wp2_with fail
  refine (implMiss _ _ xss ys _ _ _ _ _ qx0 qx1 f0 f1 (by omega) (by omega) (by omega) (by omega)).mono ?_
  rintro e w7 ⟨g0_7, rfl, go0_7, bel7⟩
  have s7 := bel7.size
  have B7 := B6.trans (bel7.mono (by omega))
  replace r0 := r0.below bel7 (by omega)
  replace r1 := r1.below bel7 (by omega)
  replace qw0 := qw0.below bel7 (by omega)
  replace qx0 := qx0.below bel7 (by omega)
  replace ox0 := ox0.below bel7 (by omega)
  replace qx1 := qx1.below bel7 (by omega)
  replace ox1 := ox1.below bel7 (by omega)
  have qg0 := go0_7.rd
  have og0 := go0_7
  clear go0_7
  go_wp2_with fail
  refine (eqByteS_same _ _ _ _ _ _ _ _ qg0 qw0).mono ?_
  rintro e w8 ⟨rfl, bel8⟩
  have s8 := bel8.size
  have B8 := B7.trans (bel8.mono (by omega))
  replace r0 := r0.below bel8 (by omega)
  replace r1 := r1.below bel8 (by omega)
  replace qw0 := qw0.below bel8 (by omega)
  replace qx0 := qx0.below bel8 (by omega)
  replace ox0 := ox0.below bel8 (by omega)
  replace qx1 := qx1.below bel8 (by omega)
  replace ox1 := ox1.below bel8 (by omega)
  replace qg0 := qg0.below bel8 (by omega)
  replace og0 := og0.below bel8 (by omega)
  go_wp2_with fail
  refine (toByteSS_any _ xss _ _ _ r0 (by omega) (by omega)).mono ?_
  rintro e w9 ⟨t9, rfl, o9, bel9⟩
  have s9 := bel9.size
  have B9 := B8.trans (bel9.mono (by omega))
  replace r0 := r0.below bel9 (by omega)
  replace r1 := r1.below bel9 (by omega)
  replace qw0 := qw0.below bel9 (by omega)
  replace qx0 := qx0.below bel9 (by omega)
  replace ox0 := ox0.below bel9 (by omega)
  replace qx1 := qx1.below bel9 (by omega)
  replace ox1 := ox1.below bel9 (by omega)
  replace qg0 := qg0.below bel9 (by omega)
  replace og0 := og0.below bel9 (by omega)
  have q9 := o9.rd
  clear o9
  go_wp2_with fail
  refine (eqByteSS_same _ _ _ _ _ _ _ _ qx0 q9).mono ?_
  rintro e w10 ⟨rfl, bel10⟩
  have s10 := bel10.size
  have B10 := B9.trans (bel10.mono (by omega))
  replace r0 := r0.below bel10 (by omega)
  replace r1 := r1.below bel10 (by omega)
  replace qw0 := qw0.below bel10 (by omega)
  replace qx0 := qx0.below bel10 (by omega)
  replace ox0 := ox0.below bel10 (by omega)
  replace qx1 := qx1.below bel10 (by omega)
  replace ox1 := ox1.below bel10 (by omega)
  replace qg0 := qg0.below bel10 (by omega)
  replace og0 := og0.below bel10 (by omega)
  replace q9 := q9.below bel10 (by omega)
  clear q9
  go_wp2_with fail
  refine (toByteS_any _ ys _ _ _ r1 b1 (by omega)).mono ?_
  rintro e w11 ⟨t11, rfl, o11, bel11⟩
  have s11 := bel11.size
  have B11 := B10.trans (bel11.mono (by omega))
  replace r0 := r0.below bel11 (by omega)
  replace r1 := r1.below bel11 (by omega)
  replace qw0 := qw0.below bel11 (by omega)
  replace qx0 := qx0.below bel11 (by omega)
  replace ox0 := ox0.below bel11 (by omega)
  replace qx1 := qx1.below bel11 (by omega)
  replace ox1 := ox1.below bel11 (by omega)
  replace qg0 := qg0.below bel11 (by omega)
  replace og0 := og0.below bel11 (by omega)
  have q11 := o11.rd
  clear o11
  go_wp2_with fail
  refine (eqByteS_same _ _ _ _ _ _ _ _ qx1 q11).mono ?_
  rintro e w12 ⟨rfl, bel12⟩
  have s12 := bel12.size
  have B12 := B11.trans (bel12.mono (by omega))
  replace r0 := r0.below bel12 (by omega)
  replace r1 := r1.below bel12 (by omega)
  replace qw0 := qw0.below bel12 (by omega)
  replace qx0 := qx0.below bel12 (by omega)
  replace ox0 := ox0.below bel12 (by omega)
  replace qx1 := qx1.below bel12 (by omega)
  replace ox1 := ox1.below bel12 (by omega)
  replace qg0 := qg0.below bel12 (by omega)
  replace og0 := og0.below bel12 (by omega)
  replace q11 := q11.below bel12 (by omega)
  clear q11
  go_wp2_with fail
  refine (markByteSS_any _ _ (1) _ _ _ ox0 qx0 (by omega) (by omega)).mono ?_
  rintro e w13 ⟨rfl, o13', q13', tch13⟩
  have s13 := tch13.size
  have B13 := tch13.below B12 (by omega)
  replace r0 := r0.touch tch13 (by omega)
  replace r1 := r1.touch tch13 (by omega)
  replace qw0 := qw0.touch tch13 (by omega)
  replace qx1 := qx1.touch tch13 (by omega)
  replace ox1 := ox1.touch tch13 (by omega)
  replace qg0 := qg0.touch tch13 (by omega)
  replace og0 := og0.touch tch13 (by omega)
  clear ox0 qx0 o13' q13'
  go_wp2_with fail
  refine (markByteS_any _ _ (1 + (total (xss) : Int)) _ _ _ ox1 qx1 (by omega) (by omega)).mono ?_
  rintro e w14 ⟨rfl, o14', q14', tch14⟩
  have s14 := tch14.size
  have B14 := tch14.below B13 (by omega)
  replace r0 := r0.touch tch14 (by omega)
  replace r1 := r1.touch tch14 (by omega)
  replace qw0 := qw0.touch tch14 (by omega)
  replace qg0 := qg0.touch tch14 (by omega)
  replace og0 := og0.touch tch14 (by omega)
  clear ox1 qx1 o14' q14'
  go_wp2_with fail
  refine (eqByteS_same _ _ _ _ _ _ _ _ qg0 qw0).mono ?_
  rintro e w15 ⟨rfl, bel15⟩
  have s15 := bel15.size
  have B15 := B14.trans (bel15.mono (by omega))
  replace r0 := r0.below bel15 (by omega)
  replace r1 := r1.below bel15 (by omega)
  replace qw0 := qw0.below bel15 (by omega)
  replace qg0 := qg0.below bel15 (by omega)
  replace og0 := og0.below bel15 (by omega)
  go_wp2_with fail
  refine (markByteS_any _ _ (1) _ _ _ og0 qg0 (by omega) (by omega)).mono ?_
  rintro e w16 ⟨rfl, o16', q16', tch16⟩
  have s16 := tch16.size
  have B16 := tch16.below B15 (by omega)
  replace r0 := r0.touch tch16 (by omega)
  replace r1 := r1.touch tch16 (by omega)
  replace qw0 := qw0.touch tch16 (by omega)
  clear og0 qg0 o16'
  have qm0 := q16'
  clear q16'
  go_wp2_with fail
  refine (heldByteS_any _ (1) _ _ _ _ qm0 (by omega) (by omega)).mono ?_
  rintro e w17 ⟨rfl, bel17⟩
  have s17 := bel17.size
  have B17 := B16.trans (bel17.mono (by omega))
  replace r0 := r0.below bel17 (by omega)
  replace r1 := r1.below bel17 (by omega)
  replace qw0 := qw0.below bel17 (by omega)
  replace qm0 := qm0.below bel17 (by omega)
  go_wp2_with fail
  refine (toByteSS_any _ xss _ _ _ r0 (by omega) (by omega)).mono ?_
  rintro e w18 ⟨t18, rfl, o18, bel18⟩
  have s18 := bel18.size
  have B18 := B17.trans (bel18.mono (by omega))
  replace r0 := r0.below bel18 (by omega)
  replace r1 := r1.below bel18 (by omega)
  replace qw0 := qw0.below bel18 (by omega)
  replace qm0 := qm0.below bel18 (by omega)
  have q18 := o18.rd
  go_wp2_with fail
  refine (toByteS_any _ ys _ _ _ r1 b1 (by omega)).mono ?_
  rintro e w19 ⟨t19, rfl, o19, bel19⟩
  have s19 := bel19.size
  have B19 := B18.trans (bel19.mono (by omega))
  replace r0 := r0.below bel19 (by omega)
  replace r1 := r1.below bel19 (by omega)
  replace qw0 := qw0.below bel19 (by omega)
  replace qm0 := qm0.below bel19 (by omega)
  replace q18 := q18.below bel19 (by omega)
  have q19 := o19.rd
  go_wp2_with fail
  refine (implMiss _ _ xss ys _ _ _ _ _ q18 q19 f0 f1 (by omega) (by omega) (by omega) (by omega)).mono ?_
  rintro e w20 ⟨h0_20, rfl, ho0_20, bel20⟩
  have s20 := bel20.size
  have B20 := B19.trans (bel20.mono (by omega))
  replace r0 := r0.below bel20 (by omega)
  replace r1 := r1.below bel20 (by omega)
  replace qw0 := qw0.below bel20 (by omega)
  replace qm0 := qm0.below bel20 (by omega)
  replace q18 := q18.below bel20 (by omega)
  replace q19 := q19.below bel20 (by omega)
  have qh0 := ho0_20.rd
  go_wp2_with fail
  refine (eqByteS_same _ _ _ _ _ _ _ _ qh0 qw0).mono ?_
  rintro e w21 ⟨rfl, bel21⟩
  have s21 := bel21.size
  have B21 := B20.trans (bel21.mono (by omega))
  replace r0 := r0.below bel21 (by omega)
  replace r1 := r1.below bel21 (by omega)
  replace qw0 := qw0.below bel21 (by omega)
  replace qm0 := qm0.below bel21 (by omega)
  replace q18 := q18.below bel21 (by omega)
  replace q19 := q19.below bel21 (by omega)
  replace qh0 := qh0.below bel21 (by omega)
  go_wp2_with fail
  refine (heldByteS_any _ (1) _ _ _ _ qm0 (by omega) (by omega)).mono ?_
  rintro e w22 ⟨rfl, bel22⟩
  have s22 := bel22.size
  have B22 := B21.trans (bel22.mono (by omega))
  replace r0 := r0.below bel22 (by omega)
  replace r1 := r1.below bel22 (by omega)
  replace qw0 := qw0.below bel22 (by omega)
  replace qm0 := qm0.below bel22 (by omega)
  replace q18 := q18.below bel22 (by omega)
  replace q19 := q19.below bel22 (by omega)
  replace qh0 := qh0.below bel22 (by omega)
  go_wp2_with fail
  go_ret
  exact ⟨rfl, B22⟩

set_option maxRecDepth 100000 in
theorem law_FnExactSelectXor (w : World) (v0 : Value) (xss : List (List Int)) (r0 : Rds .u8 w 0 w.heap.size v0 xss) (f0 : ∀ zs ∈ xss, Wf .u8 zs) (v1 : Value) (ys : List Int) (r1 : Rd .i64 w 0 w.heap.size v1 ys) (f1 : Wf .i64 ys) :
    Calls Try.prog 9 #[v0, v1] w fun e w' => e = .returned (.bool true) ∧ Below w.heap.size w w' := by
  obtain ⟨A0, c0, rfl, hc0, hm0⟩ := r0.form
  obtain ⟨A1, c1, rfl, hc1, hm1⟩ := r1.form
  unfold maxLen at hm0 hm1
  by_cases b1 : ys.length ≤ 1048576
  rotate_left
  · go_enter Try.func9, Try.ntmps9
    go_wp2_with fail
    go_ret
    exact ⟨rfl, Below.refl _ _⟩
  have hL := selX_len xss ys
  go_enter Try.func9, Try.ntmps9
  go_wp2_with fail
  refine (szByteSS_any _ xss _ _ _ r0 (1048576) (by omega)).mono ?_
  rintro e w1 ⟨left1, rfl, hl1, bel1⟩
  have s1 := bel1.size
  have B1 := bel1
  replace r0 := r0.below bel1 (by omega)
  replace r1 := r1.below bel1 (by omega)
  by_cases g1 : left1 < 0
  · go_wp2_with fail
    go_ret
    exact ⟨rfl, B1⟩
  have b0 := hl1.resolve_left g1
  go_wp2_with fail
  refine (toByteSS_any _ xss _ _ _ r0 (by omega) (by omega)).mono ?_
  rintro e w2 ⟨t2, rfl, o2, bel2⟩
  have s2 := bel2.size
  have B2 := B1.trans (bel2.mono (by omega))
  replace r0 := r0.below bel2 (by omega)
  replace r1 := r1.below bel2 (by omega)
  have q2 := o2.rd
  go_wp2_with fail
  refine (toIntS_any _ ys _ _ _ r1 b1 (by omega)).mono ?_
  rintro e w3 ⟨t3, rfl, o3, bel3⟩
  have s3 := bel3.size
  have B3 := B2.trans (bel3.mono (by omega))
  replace r0 := r0.below bel3 (by omega)
  replace r1 := r1.below bel3 (by omega)
  replace q2 := q2.below bel3 (by omega)
  have q3 := o3.rd
  go_wp2_with fail
  refine (specSelX _ _ xss ys _ _ _ _ _ q2 q3 f0 (by omega) (by omega) (by omega)).mono ?_
  rintro e w4 ⟨w0_4, rfl, wo0_4, bel4⟩
  have s4 := bel4.size
  have B4 := B3.trans (bel4.mono (by omega))
  replace r0 := r0.below bel4 (by omega)
  replace r1 := r1.below bel4 (by omega)
  replace q2 := q2.below bel4 (by omega)
  replace q3 := q3.below bel4 (by omega)
  clear q2 q3
  clear o2
  clear o3
  have qw0 := wo0_4.rd
  clear wo0_4
  go_wp2_with fail
  refine (toByteSS_any _ xss _ _ _ r0 (by omega) (by omega)).mono ?_
  rintro e w5 ⟨t5, rfl, o5, bel5⟩
  have s5 := bel5.size
  have B5 := B4.trans (bel5.mono (by omega))
  replace r0 := r0.below bel5 (by omega)
  replace r1 := r1.below bel5 (by omega)
  replace qw0 := qw0.below bel5 (by omega)
  have q5 := o5.rd
  have ox0 := o5
  clear o5
  have qx0 := q5
  clear q5
  go_wp2_with fail
  refine (toIntS_any _ ys _ _ _ r1 b1 (by omega)).mono ?_
  rintro e w6 ⟨t6, rfl, o6, bel6⟩
  have s6 := bel6.size
  have B6 := B5.trans (bel6.mono (by omega))
  replace r0 := r0.below bel6 (by omega)
  replace r1 := r1.below bel6 (by omega)
  replace qw0 := qw0.below bel6 (by omega)
  replace qx0 := qx0.below bel6 (by omega)
  replace ox0 := ox0.below bel6 (by omega)
  have q6 := o6.rd
  have ox1 := o6
  clear o6
  have qx1 := q6
  clear q6
  go_wp2_with fail
  refine (implSelX _ _ xss ys _ _ _ _ _ qx0 qx1 f0 (by omega) (by omega) (by omega)).mono ?_
  rintro e w7 ⟨g0_7, rfl, go0_7, bel7⟩
  have s7 := bel7.size
  have B7 := B6.trans (bel7.mono (by omega))
  replace r0 := r0.below bel7 (by omega)
  replace r1 := r1.below bel7 (by omega)
  replace qw0 := qw0.below bel7 (by omega)
  replace qx0 := qx0.below bel7 (by omega)
  replace ox0 := ox0.below bel7 (by omega)
  replace qx1 := qx1.below bel7 (by omega)
  replace ox1 := ox1.below bel7 (by omega)
  have qg0 := go0_7.rd
  have og0 := go0_7
  clear go0_7
  go_wp2_with fail
  refine (eqByteS_same _ _ _ _ _ _ _ _ qg0 qw0).mono ?_
  rintro e w8 ⟨rfl, bel8⟩
  have s8 := bel8.size
  have B8 := B7.trans (bel8.mono (by omega))
  replace r0 := r0.below bel8 (by omega)
  replace r1 := r1.below bel8 (by omega)
  replace qw0 := qw0.below bel8 (by omega)
  replace qx0 := qx0.below bel8 (by omega)
  replace ox0 := ox0.below bel8 (by omega)
  replace qx1 := qx1.below bel8 (by omega)
  replace ox1 := ox1.below bel8 (by omega)
  replace qg0 := qg0.below bel8 (by omega)
  replace og0 := og0.below bel8 (by omega)
  go_wp2_with fail
  refine (toByteSS_any _ xss _ _ _ r0 (by omega) (by omega)).mono ?_
  rintro e w9 ⟨t9, rfl, o9, bel9⟩
  have s9 := bel9.size
  have B9 := B8.trans (bel9.mono (by omega))
  replace r0 := r0.below bel9 (by omega)
  replace r1 := r1.below bel9 (by omega)
  replace qw0 := qw0.below bel9 (by omega)
  replace qx0 := qx0.below bel9 (by omega)
  replace ox0 := ox0.below bel9 (by omega)
  replace qx1 := qx1.below bel9 (by omega)
  replace ox1 := ox1.below bel9 (by omega)
  replace qg0 := qg0.below bel9 (by omega)
  replace og0 := og0.below bel9 (by omega)
  have q9 := o9.rd
  clear o9
  go_wp2_with fail
  refine (eqByteSS_same _ _ _ _ _ _ _ _ qx0 q9).mono ?_
  rintro e w10 ⟨rfl, bel10⟩
  have s10 := bel10.size
  have B10 := B9.trans (bel10.mono (by omega))
  replace r0 := r0.below bel10 (by omega)
  replace r1 := r1.below bel10 (by omega)
  replace qw0 := qw0.below bel10 (by omega)
  replace qx0 := qx0.below bel10 (by omega)
  replace ox0 := ox0.below bel10 (by omega)
  replace qx1 := qx1.below bel10 (by omega)
  replace ox1 := ox1.below bel10 (by omega)
  replace qg0 := qg0.below bel10 (by omega)
  replace og0 := og0.below bel10 (by omega)
  replace q9 := q9.below bel10 (by omega)
  clear q9
  go_wp2_with fail
  refine (toIntS_any _ ys _ _ _ r1 b1 (by omega)).mono ?_
  rintro e w11 ⟨t11, rfl, o11, bel11⟩
  have s11 := bel11.size
  have B11 := B10.trans (bel11.mono (by omega))
  replace r0 := r0.below bel11 (by omega)
  replace r1 := r1.below bel11 (by omega)
  replace qw0 := qw0.below bel11 (by omega)
  replace qx0 := qx0.below bel11 (by omega)
  replace ox0 := ox0.below bel11 (by omega)
  replace qx1 := qx1.below bel11 (by omega)
  replace ox1 := ox1.below bel11 (by omega)
  replace qg0 := qg0.below bel11 (by omega)
  replace og0 := og0.below bel11 (by omega)
  have q11 := o11.rd
  clear o11
  go_wp2_with fail
  refine (eqIntS_same _ _ _ _ _ _ _ _ qx1 q11).mono ?_
  rintro e w12 ⟨rfl, bel12⟩
  have s12 := bel12.size
  have B12 := B11.trans (bel12.mono (by omega))
  replace r0 := r0.below bel12 (by omega)
  replace r1 := r1.below bel12 (by omega)
  replace qw0 := qw0.below bel12 (by omega)
  replace qx0 := qx0.below bel12 (by omega)
  replace ox0 := ox0.below bel12 (by omega)
  replace qx1 := qx1.below bel12 (by omega)
  replace ox1 := ox1.below bel12 (by omega)
  replace qg0 := qg0.below bel12 (by omega)
  replace og0 := og0.below bel12 (by omega)
  replace q11 := q11.below bel12 (by omega)
  clear q11
  go_wp2_with fail
  refine (markByteSS_any _ _ (1) _ _ _ ox0 qx0 (by omega) (by omega)).mono ?_
  rintro e w13 ⟨rfl, o13', q13', tch13⟩
  have s13 := tch13.size
  have B13 := tch13.below B12 (by omega)
  replace r0 := r0.touch tch13 (by omega)
  replace r1 := r1.touch tch13 (by omega)
  replace qw0 := qw0.touch tch13 (by omega)
  replace qx1 := qx1.touch tch13 (by omega)
  replace ox1 := ox1.touch tch13 (by omega)
  replace qg0 := qg0.touch tch13 (by omega)
  replace og0 := og0.touch tch13 (by omega)
  clear ox0 qx0 o13' q13'
  go_wp2_with fail
  refine (markIntS_any _ _ (1 + (total (xss) : Int)) _ _ _ ox1 qx1 (by omega) (by omega)).mono ?_
  rintro e w14 ⟨rfl, o14', q14', tch14⟩
  have s14 := tch14.size
  have B14 := tch14.below B13 (by omega)
  replace r0 := r0.touch tch14 (by omega)
  replace r1 := r1.touch tch14 (by omega)
  replace qw0 := qw0.touch tch14 (by omega)
  replace qg0 := qg0.touch tch14 (by omega)
  replace og0 := og0.touch tch14 (by omega)
  clear ox1 qx1 o14' q14'
  go_wp2_with fail
  refine (eqByteS_same _ _ _ _ _ _ _ _ qg0 qw0).mono ?_
  rintro e w15 ⟨rfl, bel15⟩
  have s15 := bel15.size
  have B15 := B14.trans (bel15.mono (by omega))
  replace r0 := r0.below bel15 (by omega)
  replace r1 := r1.below bel15 (by omega)
  replace qw0 := qw0.below bel15 (by omega)
  replace qg0 := qg0.below bel15 (by omega)
  replace og0 := og0.below bel15 (by omega)
  go_wp2_with fail
  refine (markByteS_any _ _ (1) _ _ _ og0 qg0 (by omega) (by omega)).mono ?_
  rintro e w16 ⟨rfl, o16', q16', tch16⟩
  have s16 := tch16.size
  have B16 := tch16.below B15 (by omega)
  replace r0 := r0.touch tch16 (by omega)
  replace r1 := r1.touch tch16 (by omega)
  replace qw0 := qw0.touch tch16 (by omega)
  clear og0 qg0 o16'
  have qm0 := q16'
  clear q16'
  go_wp2_with fail
  refine (heldByteS_any _ (1) _ _ _ _ qm0 (by omega) (by omega)).mono ?_
  rintro e w17 ⟨rfl, bel17⟩
  have s17 := bel17.size
  have B17 := B16.trans (bel17.mono (by omega))
  replace r0 := r0.below bel17 (by omega)
  replace r1 := r1.below bel17 (by omega)
  replace qw0 := qw0.below bel17 (by omega)
  replace qm0 := qm0.below bel17 (by omega)
  go_wp2_with fail
  refine (toByteSS_any _ xss _ _ _ r0 (by omega) (by omega)).mono ?_
  rintro e w18 ⟨t18, rfl, o18, bel18⟩
  have s18 := bel18.size
  have B18 := B17.trans (bel18.mono (by omega))
  replace r0 := r0.below bel18 (by omega)
  replace r1 := r1.below bel18 (by omega)
  replace qw0 := qw0.below bel18 (by omega)
  replace qm0 := qm0.below bel18 (by omega)
  have q18 := o18.rd
  go_wp2_with fail
  refine (toIntS_any _ ys _ _ _ r1 b1 (by omega)).mono ?_
  rintro e w19 ⟨t19, rfl, o19, bel19⟩
  have s19 := bel19.size
  have B19 := B18.trans (bel19.mono (by omega))
  replace r0 := r0.below bel19 (by omega)
  replace r1 := r1.below bel19 (by omega)
  replace qw0 := qw0.below bel19 (by omega)
  replace qm0 := qm0.below bel19 (by omega)
  replace q18 := q18.below bel19 (by omega)
  have q19 := o19.rd
  go_wp2_with fail
  refine (implSelX _ _ xss ys _ _ _ _ _ q18 q19 f0 (by omega) (by omega) (by omega)).mono ?_
  rintro e w20 ⟨h0_20, rfl, ho0_20, bel20⟩
  have s20 := bel20.size
  have B20 := B19.trans (bel20.mono (by omega))
  replace r0 := r0.below bel20 (by omega)
  replace r1 := r1.below bel20 (by omega)
  replace qw0 := qw0.below bel20 (by omega)
  replace qm0 := qm0.below bel20 (by omega)
  replace q18 := q18.below bel20 (by omega)
  replace q19 := q19.below bel20 (by omega)
  have qh0 := ho0_20.rd
  go_wp2_with fail
  refine (eqByteS_same _ _ _ _ _ _ _ _ qh0 qw0).mono ?_
  rintro e w21 ⟨rfl, bel21⟩
  have s21 := bel21.size
  have B21 := B20.trans (bel21.mono (by omega))
  replace r0 := r0.below bel21 (by omega)
  replace r1 := r1.below bel21 (by omega)
  replace qw0 := qw0.below bel21 (by omega)
  replace qm0 := qm0.below bel21 (by omega)
  replace q18 := q18.below bel21 (by omega)
  replace q19 := q19.below bel21 (by omega)
  replace qh0 := qh0.below bel21 (by omega)
  go_wp2_with fail
  refine (heldByteS_any _ (1) _ _ _ _ qm0 (by omega) (by omega)).mono ?_
  rintro e w22 ⟨rfl, bel22⟩
  have s22 := bel22.size
  have B22 := B21.trans (bel22.mono (by omega))
  replace r0 := r0.below bel22 (by omega)
  replace r1 := r1.below bel22 (by omega)
  replace qw0 := qw0.below bel22 (by omega)
  replace qm0 := qm0.below bel22 (by omega)
  replace q18 := q18.below bel22 (by omega)
  replace q19 := q19.below bel22 (by omega)
  replace qh0 := qh0.below bel22 (by omega)
  go_wp2_with fail
  go_ret
  exact ⟨rfl, B22⟩

end Go.Proofs.Ytffgoedbabpfhaa
