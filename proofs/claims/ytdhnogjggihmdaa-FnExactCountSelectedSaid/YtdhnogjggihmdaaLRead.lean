/- The laws over functions that only read byte and integer slices: their walks (printed by genlaw.py). -/
import Derived.Test.YtdhnogjggihmdaaSmall
namespace Go.Proofs.Ytdhnogjggihmdaa
open Go.RowKit
set_option linter.unusedVariables false

set_option maxRecDepth 100000 in
theorem law_FnExactEqualBytes (w : World) (v0 : Value) (xs : List Int) (r0 : Rd .u8 w 0 w.heap.size v0 xs) (f0 : Wf .u8 xs) (v1 : Value) (ys : List Int) (r1 : Rd .u8 w 0 w.heap.size v1 ys) (f1 : Wf .u8 ys) :
    Calls Try.prog 11 #[v0, v1] w fun e w' => e = .returned (.bool true) ∧ Below w.heap.size w w' := by
  obtain ⟨A0, c0, rfl, hc0, hm0⟩ := r0.form
  obtain ⟨A1, c1, rfl, hc1, hm1⟩ := r1.form
  unfold maxLen at hm0 hm1
  by_cases b0 : xs.length ≤ 1048576
  rotate_left
  · go_enter Try.func11, Try.ntmps11
    go_wp2_with fail
    go_ret
    exact ⟨rfl, Below.refl _ _⟩
  by_cases b1 : ys.length ≤ 1048576
  rotate_left
  · go_enter Try.func11, Try.ntmps11
    go_wp2_with fail
    go_ret
    exact ⟨rfl, Below.refl _ _⟩
  go_enter Try.func11, Try.ntmps11
  go_wp2_with fail
  refine (toByteS_any _ xs _ _ _ r0 b0 (by omega)).mono ?_
  rintro e w1 ⟨t1, rfl, o1, bel1⟩
  have s1 := bel1.size
  have B1 := bel1
  replace r0 := r0.below bel1 (by omega)
  replace r1 := r1.below bel1 (by omega)
  have q1 := o1.rd
  go_wp2_with fail
  refine (toByteS_any _ ys _ _ _ r1 b1 (by omega)).mono ?_
  rintro e w2 ⟨t2, rfl, o2, bel2⟩
  have s2 := bel2.size
  have B2 := B1.trans (bel2.mono (by omega))
  replace r0 := r0.below bel2 (by omega)
  replace r1 := r1.below bel2 (by omega)
  replace q1 := q1.below bel2 (by omega)
  have q2 := o2.rd
  go_wp2_with fail
  refine (ofQuiet (specEqualBytes _ _ xs ys _ _ _ _ _ q1 q2 f0 f1)).mono ?_
  rintro e w3 ⟨rfl, bel3⟩
  have s3 := bel3.size
  have B3 := B2.trans (bel3.mono (by omega))
  replace r0 := r0.below bel3 (by omega)
  replace r1 := r1.below bel3 (by omega)
  replace q1 := q1.below bel3 (by omega)
  replace q2 := q2.below bel3 (by omega)
  clear q1 q2
  clear o1
  clear o2
  go_wp2_with fail
  refine (toByteS_any _ xs _ _ _ r0 b0 (by omega)).mono ?_
  rintro e w4 ⟨t4, rfl, o4, bel4⟩
  have s4 := bel4.size
  have B4 := B3.trans (bel4.mono (by omega))
  replace r0 := r0.below bel4 (by omega)
  replace r1 := r1.below bel4 (by omega)
  have q4 := o4.rd
  have ox0 := o4
  clear o4
  have qx0 := q4
  clear q4
  clear ox0
  go_wp2_with fail
  refine (toByteS_any _ ys _ _ _ r1 b1 (by omega)).mono ?_
  rintro e w5 ⟨t5, rfl, o5, bel5⟩
  have s5 := bel5.size
  have B5 := B4.trans (bel5.mono (by omega))
  replace r0 := r0.below bel5 (by omega)
  replace r1 := r1.below bel5 (by omega)
  replace qx0 := qx0.below bel5 (by omega)
  have q5 := o5.rd
  have ox1 := o5
  clear o5
  have qx1 := q5
  clear q5
  clear ox1
  go_wp2_with fail
  refine (ofQuiet (implEqualBytes _ _ xs ys _ _ _ _ _ qx0 qx1)).mono ?_
  rintro e w6 ⟨rfl, bel6⟩
  have s6 := bel6.size
  have B6 := B5.trans (bel6.mono (by omega))
  replace r0 := r0.below bel6 (by omega)
  replace r1 := r1.below bel6 (by omega)
  replace qx0 := qx0.below bel6 (by omega)
  replace qx1 := qx1.below bel6 (by omega)
  go_wp2_with fail
  refine (toByteS_any _ xs _ _ _ r0 b0 (by omega)).mono ?_
  rintro e w7 ⟨t7, rfl, o7, bel7⟩
  have s7 := bel7.size
  have B7 := B6.trans (bel7.mono (by omega))
  replace r0 := r0.below bel7 (by omega)
  replace r1 := r1.below bel7 (by omega)
  replace qx0 := qx0.below bel7 (by omega)
  replace qx1 := qx1.below bel7 (by omega)
  have q7 := o7.rd
  clear o7
  go_wp2_with fail
  refine (eqByteS_same _ _ _ _ _ _ _ _ qx0 q7).mono ?_
  rintro e w8 ⟨rfl, bel8⟩
  have s8 := bel8.size
  have B8 := B7.trans (bel8.mono (by omega))
  replace r0 := r0.below bel8 (by omega)
  replace r1 := r1.below bel8 (by omega)
  replace qx0 := qx0.below bel8 (by omega)
  replace qx1 := qx1.below bel8 (by omega)
  replace q7 := q7.below bel8 (by omega)
  clear q7
  go_wp2_with fail
  refine (toByteS_any _ ys _ _ _ r1 b1 (by omega)).mono ?_
  rintro e w9 ⟨t9, rfl, o9, bel9⟩
  have s9 := bel9.size
  have B9 := B8.trans (bel9.mono (by omega))
  replace r0 := r0.below bel9 (by omega)
  replace r1 := r1.below bel9 (by omega)
  replace qx0 := qx0.below bel9 (by omega)
  replace qx1 := qx1.below bel9 (by omega)
  have q9 := o9.rd
  clear o9
  go_wp2_with fail
  refine (eqByteS_same _ _ _ _ _ _ _ _ qx1 q9).mono ?_
  rintro e w10 ⟨rfl, bel10⟩
  have s10 := bel10.size
  have B10 := B9.trans (bel10.mono (by omega))
  replace r0 := r0.below bel10 (by omega)
  replace r1 := r1.below bel10 (by omega)
  replace qx0 := qx0.below bel10 (by omega)
  replace qx1 := qx1.below bel10 (by omega)
  replace q9 := q9.below bel10 (by omega)
  clear q9
  go_wp2_with fail
  go_ret
  exact ⟨rfl, B10⟩

set_option maxRecDepth 100000 in
theorem law_FnExactEqualInts (w : World) (v0 : Value) (xs : List Int) (r0 : Rd .i64 w 0 w.heap.size v0 xs) (f0 : Wf .i64 xs) (v1 : Value) (ys : List Int) (r1 : Rd .i64 w 0 w.heap.size v1 ys) (f1 : Wf .i64 ys) :
    Calls Try.prog 14 #[v0, v1] w fun e w' => e = .returned (.bool true) ∧ Below w.heap.size w w' := by
  obtain ⟨A0, c0, rfl, hc0, hm0⟩ := r0.form
  obtain ⟨A1, c1, rfl, hc1, hm1⟩ := r1.form
  unfold maxLen at hm0 hm1
  by_cases b0 : xs.length ≤ 1048576
  rotate_left
  · go_enter Try.func14, Try.ntmps14
    go_wp2_with fail
    go_ret
    exact ⟨rfl, Below.refl _ _⟩
  by_cases b1 : ys.length ≤ 1048576
  rotate_left
  · go_enter Try.func14, Try.ntmps14
    go_wp2_with fail
    go_ret
    exact ⟨rfl, Below.refl _ _⟩
  go_enter Try.func14, Try.ntmps14
  go_wp2_with fail
  refine (toIntS_any _ xs _ _ _ r0 b0 (by omega)).mono ?_
  rintro e w1 ⟨t1, rfl, o1, bel1⟩
  have s1 := bel1.size
  have B1 := bel1
  replace r0 := r0.below bel1 (by omega)
  replace r1 := r1.below bel1 (by omega)
  have q1 := o1.rd
  go_wp2_with fail
  refine (toIntS_any _ ys _ _ _ r1 b1 (by omega)).mono ?_
  rintro e w2 ⟨t2, rfl, o2, bel2⟩
  have s2 := bel2.size
  have B2 := B1.trans (bel2.mono (by omega))
  replace r0 := r0.below bel2 (by omega)
  replace r1 := r1.below bel2 (by omega)
  replace q1 := q1.below bel2 (by omega)
  have q2 := o2.rd
  go_wp2_with fail
  refine (ofQuiet (specEqualInts _ _ xs ys _ _ _ _ _ q1 q2)).mono ?_
  rintro e w3 ⟨rfl, bel3⟩
  have s3 := bel3.size
  have B3 := B2.trans (bel3.mono (by omega))
  replace r0 := r0.below bel3 (by omega)
  replace r1 := r1.below bel3 (by omega)
  replace q1 := q1.below bel3 (by omega)
  replace q2 := q2.below bel3 (by omega)
  clear q1 q2
  clear o1
  clear o2
  go_wp2_with fail
  refine (toIntS_any _ xs _ _ _ r0 b0 (by omega)).mono ?_
  rintro e w4 ⟨t4, rfl, o4, bel4⟩
  have s4 := bel4.size
  have B4 := B3.trans (bel4.mono (by omega))
  replace r0 := r0.below bel4 (by omega)
  replace r1 := r1.below bel4 (by omega)
  have q4 := o4.rd
  have ox0 := o4
  clear o4
  have qx0 := q4
  clear q4
  clear ox0
  go_wp2_with fail
  refine (toIntS_any _ ys _ _ _ r1 b1 (by omega)).mono ?_
  rintro e w5 ⟨t5, rfl, o5, bel5⟩
  have s5 := bel5.size
  have B5 := B4.trans (bel5.mono (by omega))
  replace r0 := r0.below bel5 (by omega)
  replace r1 := r1.below bel5 (by omega)
  replace qx0 := qx0.below bel5 (by omega)
  have q5 := o5.rd
  have ox1 := o5
  clear o5
  have qx1 := q5
  clear q5
  clear ox1
  go_wp2_with fail
  refine (ofQuiet (implEqualInts _ _ xs ys _ _ _ _ _ qx0 qx1)).mono ?_
  rintro e w6 ⟨rfl, bel6⟩
  have s6 := bel6.size
  have B6 := B5.trans (bel6.mono (by omega))
  replace r0 := r0.below bel6 (by omega)
  replace r1 := r1.below bel6 (by omega)
  replace qx0 := qx0.below bel6 (by omega)
  replace qx1 := qx1.below bel6 (by omega)
  go_wp2_with fail
  refine (toIntS_any _ xs _ _ _ r0 b0 (by omega)).mono ?_
  rintro e w7 ⟨t7, rfl, o7, bel7⟩
  have s7 := bel7.size
  have B7 := B6.trans (bel7.mono (by omega))
  replace r0 := r0.below bel7 (by omega)
  replace r1 := r1.below bel7 (by omega)
  replace qx0 := qx0.below bel7 (by omega)
  replace qx1 := qx1.below bel7 (by omega)
  have q7 := o7.rd
  clear o7
  go_wp2_with fail
  refine (eqIntS_same _ _ _ _ _ _ _ _ qx0 q7).mono ?_
  rintro e w8 ⟨rfl, bel8⟩
  have s8 := bel8.size
  have B8 := B7.trans (bel8.mono (by omega))
  replace r0 := r0.below bel8 (by omega)
  replace r1 := r1.below bel8 (by omega)
  replace qx0 := qx0.below bel8 (by omega)
  replace qx1 := qx1.below bel8 (by omega)
  replace q7 := q7.below bel8 (by omega)
  clear q7
  go_wp2_with fail
  refine (toIntS_any _ ys _ _ _ r1 b1 (by omega)).mono ?_
  rintro e w9 ⟨t9, rfl, o9, bel9⟩
  have s9 := bel9.size
  have B9 := B8.trans (bel9.mono (by omega))
  replace r0 := r0.below bel9 (by omega)
  replace r1 := r1.below bel9 (by omega)
  replace qx0 := qx0.below bel9 (by omega)
  replace qx1 := qx1.below bel9 (by omega)
  have q9 := o9.rd
  clear o9
  go_wp2_with fail
  refine (eqIntS_same _ _ _ _ _ _ _ _ qx1 q9).mono ?_
  rintro e w10 ⟨rfl, bel10⟩
  have s10 := bel10.size
  have B10 := B9.trans (bel10.mono (by omega))
  replace r0 := r0.below bel10 (by omega)
  replace r1 := r1.below bel10 (by omega)
  replace qx0 := qx0.below bel10 (by omega)
  replace qx1 := qx1.below bel10 (by omega)
  replace q9 := q9.below bel10 (by omega)
  clear q9
  go_wp2_with fail
  go_ret
  exact ⟨rfl, B10⟩

set_option maxRecDepth 100000 in
theorem law_FnExactCountSelected (w : World) (v0 : Value) (xs : List Int) (r0 : Rd .i64 w 0 w.heap.size v0 xs) (f0 : Wf .i64 xs) :
    Calls Try.prog 12 #[v0] w fun e w' => e = .returned (.bool true) ∧ Below w.heap.size w w' := by
  obtain ⟨A0, c0, rfl, hc0, hm0⟩ := r0.form
  unfold maxLen at hm0
  by_cases b0 : xs.length ≤ 1048576
  rotate_left
  · go_enter Try.func12, Try.ntmps12
    go_wp2_with fail
    go_ret
    exact ⟨rfl, Below.refl _ _⟩
  go_enter Try.func12, Try.ntmps12
  go_wp2_with fail
  refine (toIntS_any _ xs _ _ _ r0 b0 (by omega)).mono ?_
  rintro e w1 ⟨t1, rfl, o1, bel1⟩
  have s1 := bel1.size
  have B1 := bel1
  replace r0 := r0.below bel1 (by omega)
  have q1 := o1.rd
  go_wp2_with fail
  refine (ofStill (specCountSelected _ xs _ _ _ q1)).mono ?_
  rintro e w2 ⟨rfl, bel2⟩
  have s2 := bel2.size
  have B2 := B1.trans (bel2.mono (by omega))
  replace r0 := r0.below bel2 (by omega)
  replace q1 := q1.below bel2 (by omega)
  clear q1
  clear o1
  go_wp2_with fail
  refine (toIntS_any _ xs _ _ _ r0 b0 (by omega)).mono ?_
  rintro e w3 ⟨t3, rfl, o3, bel3⟩
  have s3 := bel3.size
  have B3 := B2.trans (bel3.mono (by omega))
  replace r0 := r0.below bel3 (by omega)
  have q3 := o3.rd
  have ox0 := o3
  clear o3
  have qx0 := q3
  clear q3
  clear ox0
  go_wp2_with fail
  refine (ofStill (implCountSelected _ xs _ _ _ qx0)).mono ?_
  rintro e w4 ⟨rfl, bel4⟩
  have s4 := bel4.size
  have B4 := B3.trans (bel4.mono (by omega))
  replace r0 := r0.below bel4 (by omega)
  replace qx0 := qx0.below bel4 (by omega)
  go_wp2_with fail
  refine (toIntS_any _ xs _ _ _ r0 b0 (by omega)).mono ?_
  rintro e w5 ⟨t5, rfl, o5, bel5⟩
  have s5 := bel5.size
  have B5 := B4.trans (bel5.mono (by omega))
  replace r0 := r0.below bel5 (by omega)
  replace qx0 := qx0.below bel5 (by omega)
  have q5 := o5.rd
  clear o5
  go_wp2_with fail
  refine (eqIntS_same _ _ _ _ _ _ _ _ qx0 q5).mono ?_
  rintro e w6 ⟨rfl, bel6⟩
  have s6 := bel6.size
  have B6 := B5.trans (bel6.mono (by omega))
  replace r0 := r0.below bel6 (by omega)
  replace qx0 := qx0.below bel6 (by omega)
  replace q5 := q5.below bel6 (by omega)
  clear q5
  go_wp2_with fail
  go_ret
  exact ⟨rfl, B6⟩

set_option maxRecDepth 100000 in
theorem law_FnExactIsZeroBytes (w : World) (v0 : Value) (xs : List Int) (r0 : Rd .u8 w 0 w.heap.size v0 xs) (f0 : Wf .u8 xs) :
    Calls Try.prog 13 #[v0] w fun e w' => e = .returned (.bool true) ∧ Below w.heap.size w w' := by
  obtain ⟨A0, c0, rfl, hc0, hm0⟩ := r0.form
  unfold maxLen at hm0
  by_cases b0 : xs.length ≤ 1048576
  rotate_left
  · go_enter Try.func13, Try.ntmps13
    go_wp2_with fail
    go_ret
    exact ⟨rfl, Below.refl _ _⟩
  go_enter Try.func13, Try.ntmps13
  go_wp2_with fail
  refine (toByteS_any _ xs _ _ _ r0 b0 (by omega)).mono ?_
  rintro e w1 ⟨t1, rfl, o1, bel1⟩
  have s1 := bel1.size
  have B1 := bel1
  replace r0 := r0.below bel1 (by omega)
  have q1 := o1.rd
  go_wp2_with fail
  refine (ofQuiet (specIsZeroBytes _ xs _ _ _ q1)).mono ?_
  rintro e w2 ⟨rfl, bel2⟩
  have s2 := bel2.size
  have B2 := B1.trans (bel2.mono (by omega))
  replace r0 := r0.below bel2 (by omega)
  replace q1 := q1.below bel2 (by omega)
  clear q1
  clear o1
  go_wp2_with fail
  refine (toByteS_any _ xs _ _ _ r0 b0 (by omega)).mono ?_
  rintro e w3 ⟨t3, rfl, o3, bel3⟩
  have s3 := bel3.size
  have B3 := B2.trans (bel3.mono (by omega))
  replace r0 := r0.below bel3 (by omega)
  have q3 := o3.rd
  have ox0 := o3
  clear o3
  have qx0 := q3
  clear q3
  clear ox0
  go_wp2_with fail
  refine (ofQuiet (implIsZeroBytes _ xs _ _ _ qx0)).mono ?_
  rintro e w4 ⟨rfl, bel4⟩
  have s4 := bel4.size
  have B4 := B3.trans (bel4.mono (by omega))
  replace r0 := r0.below bel4 (by omega)
  replace qx0 := qx0.below bel4 (by omega)
  go_wp2_with fail
  refine (toByteS_any _ xs _ _ _ r0 b0 (by omega)).mono ?_
  rintro e w5 ⟨t5, rfl, o5, bel5⟩
  have s5 := bel5.size
  have B5 := B4.trans (bel5.mono (by omega))
  replace r0 := r0.below bel5 (by omega)
  replace qx0 := qx0.below bel5 (by omega)
  have q5 := o5.rd
  clear o5
  go_wp2_with fail
  refine (eqByteS_same _ _ _ _ _ _ _ _ qx0 q5).mono ?_
  rintro e w6 ⟨rfl, bel6⟩
  have s6 := bel6.size
  have B6 := B5.trans (bel6.mono (by omega))
  replace r0 := r0.below bel6 (by omega)
  replace qx0 := qx0.below bel6 (by omega)
  replace q5 := q5.below bel6 (by omega)
  clear q5
  go_wp2_with fail
  go_ret
  exact ⟨rfl, B6⟩

end Go.Proofs.Ytdhnogjggihmdaa
