/- The exact laws of this seat: their walks (printed by genlaw.py). -/
import Derived.Test.YthidfmheeblfeaaEnc
import Derived.Test.YthidfmheeblfeaaMark
namespace Go.Proofs.Ythidfmheeblfeaa
open Go.RowKit
set_option linter.unusedVariables false

theorem rdB_le (xs : List Int) (i m : Int) : (rdB xs i m).1.length ≤ xs.length := by
  unfold rdB
  split
  · simp only [List.length_take, List.length_drop]; omega
  · simp
theorem decF_len (xs : List Int) (n : Nat) (i : Int) {p : List Int × Int} (h : decF xs n i = some p) : p.1.length = n := by
  induction n generalizing i p with
  | zero => cases h; rfl
  | succ n ih =>
    rw [decF] at h
    split at h
    · rcases e : decF xs n (uvR xs i).2.1 with _ | q
      · rw [e] at h; cases h
      · rw [e] at h
        cases h
        simp [ih _ e]
    · cases h
theorem decI_le (xs : List Int) (i n : Int) : (decI xs i n).1.length ≤ 100 := by
  unfold decI
  split
  · rename_i hq
    split
    · rename_i p e
      have := decF_len xs _ _ e
      show p.1.length ≤ 100
      omega
    · simp
  · simp

set_option maxRecDepth 100000 in
theorem law_FnExactReadUvarint (w : World) (v0 : Value) (xs : List Int) (r0 : Rd .u8 w 0 w.heap.size v0 xs) (f0 : Wf .u8 xs) (i : Int) (i1 : In64 i) :
    Calls Try.prog 3 #[v0, .int .i64 i] w fun e w' => e = .returned (.bool true) ∧ Below w.heap.size w w' := by
  obtain ⟨A0, c0, rfl, hc0, hm0⟩ := r0.form
  unfold maxLen at hm0
  by_cases b0 : xs.length ≤ 1048576
  rotate_left
  · go_enter Try.func3, Try.ntmps3
    go_wp2_with fail
    go_ret
    exact ⟨rfl, Below.refl _ _⟩
  go_enter Try.func3, Try.ntmps3
  go_wp2_with fail
  refine (toByteS_any _ xs _ _ _ r0 b0 (by omega)).mono ?_
  rintro e w1 ⟨t1, rfl, o1, bel1⟩
  have s1 := bel1.size
  have B1 := bel1
  replace r0 := r0.below bel1 (by omega)
  have q1 := o1.rd
  go_wp2_with fail
  refine (ofStill (specUr _ xs i _ _ _ q1 f0 i1)).mono ?_
  rintro e w2 ⟨rfl, bel2⟩
  have s2 := bel2.size
  have B2 := B1.trans (bel2.mono (by omega))
  replace r0 := r0.below bel2 (by omega)
  replace q1 := q1.below bel2 (by omega)
  clear q1
  clear o1
  go_wp2_with fail
  refine (toByteS_any _ xs _ _ _ r0 b0 (by omega)).mono ?_
  rintro e w3 ⟨t3, rfl, o3, bel3⟩
  have s3 := bel3.size
  have B3 := B2.trans (bel3.mono (by omega))
  replace r0 := r0.below bel3 (by omega)
  have q3 := o3.rd
  have ox0 := o3
  clear o3
  have qx0 := q3
  clear q3
  clear ox0
  go_wp2_with fail
  refine (ofStill (implUr _ xs i _ _ _ qx0 f0 i1)).mono ?_
  rintro e w4 ⟨rfl, bel4⟩
  have s4 := bel4.size
  have B4 := B3.trans (bel4.mono (by omega))
  replace r0 := r0.below bel4 (by omega)
  replace qx0 := qx0.below bel4 (by omega)
  go_wp2_with fail
  refine (toByteS_any _ xs _ _ _ r0 b0 (by omega)).mono ?_
  rintro e w5 ⟨t5, rfl, o5, bel5⟩
  have s5 := bel5.size
  have B5 := B4.trans (bel5.mono (by omega))
  replace r0 := r0.below bel5 (by omega)
  replace qx0 := qx0.below bel5 (by omega)
  have q5 := o5.rd
  clear o5
  go_wp2_with fail
  refine (eqByteS_same _ _ _ _ _ _ _ _ qx0 q5).mono ?_
  rintro e w6 ⟨rfl, bel6⟩
  have s6 := bel6.size
  have B6 := B5.trans (bel6.mono (by omega))
  replace r0 := r0.below bel6 (by omega)
  replace qx0 := qx0.below bel6 (by omega)
  replace q5 := q5.below bel6 (by omega)
  clear q5
  go_wp2_with fail
  go_ret
  exact ⟨rfl, B6⟩

set_option maxRecDepth 100000 in
theorem law_FnExactAppendUvarint (w : World) (v0 : Value) (xs : List Int) (r0 : Rd .u8 w 0 w.heap.size v0 xs) (f0 : Wf .u8 xs) (n : Int) (i1 : In64 n) :
    Calls Try.prog 5 #[v0, .int .i64 n] w fun e w' => e = .returned (.bool true) ∧ Below w.heap.size w w' := by
  obtain ⟨A0, c0, rfl, hc0, hm0⟩ := r0.form
  unfold maxLen at hm0
  by_cases b0 : xs.length ≤ 1048576
  rotate_left
  · go_enter Try.func5, Try.ntmps5
    go_wp2_with fail
    go_ret
    exact ⟨rfl, Below.refl _ _⟩
  have hL : (xs ++ uvE n).length ≤ 1048582 := by rw [List.length_append]; have := uvE_length n; omega
  go_enter Try.func5, Try.ntmps5
  go_wp2_with fail
  refine (toByteS_any _ xs _ _ _ r0 b0 (by omega)).mono ?_
  rintro e w1 ⟨t1, rfl, o1, bel1⟩
  have s1 := bel1.size
  have B1 := bel1
  replace r0 := r0.below bel1 (by omega)
  have q1 := o1.rd
  go_wp2_with fail
  refine (specApU _ xs n _ _ _ q1 i1 (by omega) (by omega)).mono ?_
  rintro e w2 ⟨w0_2, rfl, wo0_2, bel2⟩
  have s2 := bel2.size
  have B2 := B1.trans (bel2.mono (by omega))
  replace r0 := r0.below bel2 (by omega)
  replace q1 := q1.below bel2 (by omega)
  clear q1
  clear o1
  have qw0 := wo0_2.rd
  clear wo0_2
  go_wp2_with fail
  refine (toByteS_any _ xs _ _ _ r0 b0 (by omega)).mono ?_
  rintro e w3 ⟨t3, rfl, o3, bel3⟩
  have s3 := bel3.size
  have B3 := B2.trans (bel3.mono (by omega))
  replace r0 := r0.below bel3 (by omega)
  replace qw0 := qw0.below bel3 (by omega)
  have q3 := o3.rd
  have ox0 := o3
  clear o3
  have qx0 := q3
  clear q3
  go_wp2_with fail
  refine (implApU _ xs n _ _ _ qx0 i1 (by omega) (by omega)).mono ?_
  rintro e w4 ⟨g0_4, rfl, go0_4, bel4⟩
  have s4 := bel4.size
  have B4 := B3.trans (bel4.mono (by omega))
  replace r0 := r0.below bel4 (by omega)
  replace qw0 := qw0.below bel4 (by omega)
  replace qx0 := qx0.below bel4 (by omega)
  replace ox0 := ox0.below bel4 (by omega)
  have qg0 := go0_4.rd
  have og0 := go0_4
  clear go0_4
  go_wp2_with fail
  refine (eqByteS_same _ _ _ _ _ _ _ _ qg0 qw0).mono ?_
  rintro e w5 ⟨rfl, bel5⟩
  have s5 := bel5.size
  have B5 := B4.trans (bel5.mono (by omega))
  replace r0 := r0.below bel5 (by omega)
  replace qw0 := qw0.below bel5 (by omega)
  replace qx0 := qx0.below bel5 (by omega)
  replace ox0 := ox0.below bel5 (by omega)
  replace qg0 := qg0.below bel5 (by omega)
  replace og0 := og0.below bel5 (by omega)
  go_wp2_with fail
  refine (toByteS_any _ xs _ _ _ r0 b0 (by omega)).mono ?_
  rintro e w6 ⟨t6, rfl, o6, bel6⟩
  have s6 := bel6.size
  have B6 := B5.trans (bel6.mono (by omega))
  replace r0 := r0.below bel6 (by omega)
  replace qw0 := qw0.below bel6 (by omega)
  replace qx0 := qx0.below bel6 (by omega)
  replace ox0 := ox0.below bel6 (by omega)
  replace qg0 := qg0.below bel6 (by omega)
  replace og0 := og0.below bel6 (by omega)
  have q6 := o6.rd
  clear o6
  go_wp2_with fail
  refine (eqByteS_same _ _ _ _ _ _ _ _ qx0 q6).mono ?_
  rintro e w7 ⟨rfl, bel7⟩
  have s7 := bel7.size
  have B7 := B6.trans (bel7.mono (by omega))
  replace r0 := r0.below bel7 (by omega)
  replace qw0 := qw0.below bel7 (by omega)
  replace qx0 := qx0.below bel7 (by omega)
  replace ox0 := ox0.below bel7 (by omega)
  replace qg0 := qg0.below bel7 (by omega)
  replace og0 := og0.below bel7 (by omega)
  replace q6 := q6.below bel7 (by omega)
  clear q6
  go_wp2_with fail
  refine (markByteS_any _ _ (1) _ _ _ ox0 qx0 (by omega) (by omega)).mono ?_
  rintro e w8 ⟨rfl, o8', q8', tch8⟩
  have s8 := tch8.size
  have B8 := tch8.below B7 (by omega)
  replace r0 := r0.touch tch8 (by omega)
  replace qw0 := qw0.touch tch8 (by omega)
  replace qg0 := qg0.touch tch8 (by omega)
  replace og0 := og0.touch tch8 (by omega)
  clear ox0 qx0 o8' q8'
  go_wp2_with fail
  refine (eqByteS_same _ _ _ _ _ _ _ _ qg0 qw0).mono ?_
  rintro e w9 ⟨rfl, bel9⟩
  have s9 := bel9.size
  have B9 := B8.trans (bel9.mono (by omega))
  replace r0 := r0.below bel9 (by omega)
  replace qw0 := qw0.below bel9 (by omega)
  replace qg0 := qg0.below bel9 (by omega)
  replace og0 := og0.below bel9 (by omega)
  go_wp2_with fail
  refine (markByteS_any _ _ (1) _ _ _ og0 qg0 (by omega) (by omega)).mono ?_
  rintro e w10 ⟨rfl, o10', q10', tch10⟩
  have s10 := tch10.size
  have B10 := tch10.below B9 (by omega)
  replace r0 := r0.touch tch10 (by omega)
  replace qw0 := qw0.touch tch10 (by omega)
  clear og0 qg0 o10'
  have qm0 := q10'
  clear q10'
  go_wp2_with fail
  refine (heldByteS_any _ (1) _ _ _ _ qm0 (by omega) (by omega)).mono ?_
  rintro e w11 ⟨rfl, bel11⟩
  have s11 := bel11.size
  have B11 := B10.trans (bel11.mono (by omega))
  replace r0 := r0.below bel11 (by omega)
  replace qw0 := qw0.below bel11 (by omega)
  replace qm0 := qm0.below bel11 (by omega)
  go_wp2_with fail
  refine (toByteS_any _ xs _ _ _ r0 b0 (by omega)).mono ?_
  rintro e w12 ⟨t12, rfl, o12, bel12⟩
  have s12 := bel12.size
  have B12 := B11.trans (bel12.mono (by omega))
  replace r0 := r0.below bel12 (by omega)
  replace qw0 := qw0.below bel12 (by omega)
  replace qm0 := qm0.below bel12 (by omega)
  have q12 := o12.rd
  go_wp2_with fail
  refine (implApU _ xs n _ _ _ q12 i1 (by omega) (by omega)).mono ?_
  rintro e w13 ⟨h0_13, rfl, ho0_13, bel13⟩
  have s13 := bel13.size
  have B13 := B12.trans (bel13.mono (by omega))
  replace r0 := r0.below bel13 (by omega)
  replace qw0 := qw0.below bel13 (by omega)
  replace qm0 := qm0.below bel13 (by omega)
  replace q12 := q12.below bel13 (by omega)
  have qh0 := ho0_13.rd
  go_wp2_with fail
  refine (eqByteS_same _ _ _ _ _ _ _ _ qh0 qw0).mono ?_
  rintro e w14 ⟨rfl, bel14⟩
  have s14 := bel14.size
  have B14 := B13.trans (bel14.mono (by omega))
  replace r0 := r0.below bel14 (by omega)
  replace qw0 := qw0.below bel14 (by omega)
  replace qm0 := qm0.below bel14 (by omega)
  replace q12 := q12.below bel14 (by omega)
  replace qh0 := qh0.below bel14 (by omega)
  go_wp2_with fail
  refine (heldByteS_any _ (1) _ _ _ _ qm0 (by omega) (by omega)).mono ?_
  rintro e w15 ⟨rfl, bel15⟩
  have s15 := bel15.size
  have B15 := B14.trans (bel15.mono (by omega))
  replace r0 := r0.below bel15 (by omega)
  replace qw0 := qw0.below bel15 (by omega)
  replace qm0 := qm0.below bel15 (by omega)
  replace q12 := q12.below bel15 (by omega)
  replace qh0 := qh0.below bel15 (by omega)
  go_wp2_with fail
  go_ret
  exact ⟨rfl, B15⟩

set_option maxRecDepth 100000 in
theorem law_FnExactAppendBytes (w : World) (v0 : Value) (xs : List Int) (r0 : Rd .u8 w 0 w.heap.size v0 xs) (f0 : Wf .u8 xs) (v1 : Value) (ys : List Int) (r1 : Rd .u8 w 0 w.heap.size v1 ys) (f1 : Wf .u8 ys) :
    Calls Try.prog 6 #[v0, v1] w fun e w' => e = .returned (.bool true) ∧ Below w.heap.size w w' := by
  obtain ⟨A0, c0, rfl, hc0, hm0⟩ := r0.form
  obtain ⟨A1, c1, rfl, hc1, hm1⟩ := r1.form
  unfold maxLen at hm0 hm1
  by_cases b0 : xs.length ≤ 1048576
  rotate_left
  · go_enter Try.func6, Try.ntmps6
    go_wp2_with fail
    go_ret
    exact ⟨rfl, Below.refl _ _⟩
  by_cases b1 : ys.length ≤ 1048576
  rotate_left
  · go_enter Try.func6, Try.ntmps6
    go_wp2_with fail
    go_ret
    exact ⟨rfl, Below.refl _ _⟩
  have hL : (xs ++ (uvE (ys.length : Int) ++ ys)).length ≤ 2097158 := by rw [List.length_append, List.length_append]; have := uvE_length (ys.length : Int); omega
  go_enter Try.func6, Try.ntmps6
  go_wp2_with fail
  refine (toByteS_any _ xs _ _ _ r0 b0 (by omega)).mono ?_
  rintro e w1 ⟨t1, rfl, o1, bel1⟩
  have s1 := bel1.size
  have B1 := bel1
  replace r0 := r0.below bel1 (by omega)
  replace r1 := r1.below bel1 (by omega)
  have q1 := o1.rd
  go_wp2_with fail
  refine (toByteS_any _ ys _ _ _ r1 b1 (by omega)).mono ?_
  rintro e w2 ⟨t2, rfl, o2, bel2⟩
  have s2 := bel2.size
  have B2 := B1.trans (bel2.mono (by omega))
  replace r0 := r0.below bel2 (by omega)
  replace r1 := r1.below bel2 (by omega)
  replace q1 := q1.below bel2 (by omega)
  have q2 := o2.rd
  go_wp2_with fail
  refine (specApB _ _ xs ys _ _ _ _ _ q1 q2 (by omega) (by omega) b0 b1).mono ?_
  rintro e w3 ⟨w0_3, rfl, wo0_3, bel3⟩
  have s3 := bel3.size
  have B3 := B2.trans (bel3.mono (by omega))
  replace r0 := r0.below bel3 (by omega)
  replace r1 := r1.below bel3 (by omega)
  replace q1 := q1.below bel3 (by omega)
  replace q2 := q2.below bel3 (by omega)
  clear q1 q2
  clear o1
  clear o2
  have qw0 := wo0_3.rd
  clear wo0_3
  go_wp2_with fail
  refine (toByteS_any _ xs _ _ _ r0 b0 (by omega)).mono ?_
  rintro e w4 ⟨t4, rfl, o4, bel4⟩
  have s4 := bel4.size
  have B4 := B3.trans (bel4.mono (by omega))
  replace r0 := r0.below bel4 (by omega)
  replace r1 := r1.below bel4 (by omega)
  replace qw0 := qw0.below bel4 (by omega)
  have q4 := o4.rd
  have ox0 := o4
  clear o4
  have qx0 := q4
  clear q4
  go_wp2_with fail
  refine (toByteS_any _ ys _ _ _ r1 b1 (by omega)).mono ?_
  rintro e w5 ⟨t5, rfl, o5, bel5⟩
  have s5 := bel5.size
  have B5 := B4.trans (bel5.mono (by omega))
  replace r0 := r0.below bel5 (by omega)
  replace r1 := r1.below bel5 (by omega)
  replace qw0 := qw0.below bel5 (by omega)
  replace qx0 := qx0.below bel5 (by omega)
  replace ox0 := ox0.below bel5 (by omega)
  have q5 := o5.rd
  have ox1 := o5
  clear o5
  have qx1 := q5
  clear q5
  go_wp2_with fail
  refine (implApB _ _ xs ys _ _ _ _ _ qx0 qx1 (by omega) (by omega) b0 b1).mono ?_
  rintro e w6 ⟨g0_6, rfl, go0_6, bel6⟩
  have s6 := bel6.size
  have B6 := B5.trans (bel6.mono (by omega))
  replace r0 := r0.below bel6 (by omega)
  replace r1 := r1.below bel6 (by omega)
  replace qw0 := qw0.below bel6 (by omega)
  replace qx0 := qx0.below bel6 (by omega)
  replace ox0 := ox0.below bel6 (by omega)
  replace qx1 := qx1.below bel6 (by omega)
  replace ox1 := ox1.below bel6 (by omega)
  have qg0 := go0_6.rd
  have og0 := go0_6
  clear go0_6
  go_wp2_with fail
  refine (eqByteS_same _ _ _ _ _ _ _ _ qg0 qw0).mono ?_
  rintro e w7 ⟨rfl, bel7⟩
  have s7 := bel7.size
  have B7 := B6.trans (bel7.mono (by omega))
  replace r0 := r0.below bel7 (by omega)
  replace r1 := r1.below bel7 (by omega)
  replace qw0 := qw0.below bel7 (by omega)
  replace qx0 := qx0.below bel7 (by omega)
  replace ox0 := ox0.below bel7 (by omega)
  replace qx1 := qx1.below bel7 (by omega)
  replace ox1 := ox1.below bel7 (by omega)
  replace qg0 := qg0.below bel7 (by omega)
  replace og0 := og0.below bel7 (by omega)
  go_wp2_with fail
  refine (toByteS_any _ xs _ _ _ r0 b0 (by omega)).mono ?_
  rintro e w8 ⟨t8, rfl, o8, bel8⟩
  have s8 := bel8.size
  have B8 := B7.trans (bel8.mono (by omega))
  replace r0 := r0.below bel8 (by omega)
  replace r1 := r1.below bel8 (by omega)
  replace qw0 := qw0.below bel8 (by omega)
  replace qx0 := qx0.below bel8 (by omega)
  replace ox0 := ox0.below bel8 (by omega)
  replace qx1 := qx1.below bel8 (by omega)
  replace ox1 := ox1.below bel8 (by omega)
  replace qg0 := qg0.below bel8 (by omega)
  replace og0 := og0.below bel8 (by omega)
  have q8 := o8.rd
  clear o8
  go_wp2_with fail
  refine (eqByteS_same _ _ _ _ _ _ _ _ qx0 q8).mono ?_
  rintro e w9 ⟨rfl, bel9⟩
  have s9 := bel9.size
  have B9 := B8.trans (bel9.mono (by omega))
  replace r0 := r0.below bel9 (by omega)
  replace r1 := r1.below bel9 (by omega)
  replace qw0 := qw0.below bel9 (by omega)
  replace qx0 := qx0.below bel9 (by omega)
  replace ox0 := ox0.below bel9 (by omega)
  replace qx1 := qx1.below bel9 (by omega)
  replace ox1 := ox1.below bel9 (by omega)
  replace qg0 := qg0.below bel9 (by omega)
  replace og0 := og0.below bel9 (by omega)
  replace q8 := q8.below bel9 (by omega)
  clear q8
  go_wp2_with fail
  refine (toByteS_any _ ys _ _ _ r1 b1 (by omega)).mono ?_
  rintro e w10 ⟨t10, rfl, o10, bel10⟩
  have s10 := bel10.size
  have B10 := B9.trans (bel10.mono (by omega))
  replace r0 := r0.below bel10 (by omega)
  replace r1 := r1.below bel10 (by omega)
  replace qw0 := qw0.below bel10 (by omega)
  replace qx0 := qx0.below bel10 (by omega)
  replace ox0 := ox0.below bel10 (by omega)
  replace qx1 := qx1.below bel10 (by omega)
  replace ox1 := ox1.below bel10 (by omega)
  replace qg0 := qg0.below bel10 (by omega)
  replace og0 := og0.below bel10 (by omega)
  have q10 := o10.rd
  clear o10
  go_wp2_with fail
  refine (eqByteS_same _ _ _ _ _ _ _ _ qx1 q10).mono ?_
  rintro e w11 ⟨rfl, bel11⟩
  have s11 := bel11.size
  have B11 := B10.trans (bel11.mono (by omega))
  replace r0 := r0.below bel11 (by omega)
  replace r1 := r1.below bel11 (by omega)
  replace qw0 := qw0.below bel11 (by omega)
  replace qx0 := qx0.below bel11 (by omega)
  replace ox0 := ox0.below bel11 (by omega)
  replace qx1 := qx1.below bel11 (by omega)
  replace ox1 := ox1.below bel11 (by omega)
  replace qg0 := qg0.below bel11 (by omega)
  replace og0 := og0.below bel11 (by omega)
  replace q10 := q10.below bel11 (by omega)
  clear q10
  go_wp2_with fail
  refine (markByteS_any _ _ (1) _ _ _ ox0 qx0 (by omega) (by omega)).mono ?_
  rintro e w12 ⟨rfl, o12', q12', tch12⟩
  have s12 := tch12.size
  have B12 := tch12.below B11 (by omega)
  replace r0 := r0.touch tch12 (by omega)
  replace r1 := r1.touch tch12 (by omega)
  replace qw0 := qw0.touch tch12 (by omega)
  replace qx1 := qx1.touch tch12 (by omega)
  replace ox1 := ox1.touch tch12 (by omega)
  replace qg0 := qg0.touch tch12 (by omega)
  replace og0 := og0.touch tch12 (by omega)
  clear ox0 qx0 o12' q12'
  go_wp2_with fail
  refine (markByteS_any _ _ (1 + ((xs).length : Int)) _ _ _ ox1 qx1 (by omega) (by omega)).mono ?_
  rintro e w13 ⟨rfl, o13', q13', tch13⟩
  have s13 := tch13.size
  have B13 := tch13.below B12 (by omega)
  replace r0 := r0.touch tch13 (by omega)
  replace r1 := r1.touch tch13 (by omega)
  replace qw0 := qw0.touch tch13 (by omega)
  replace qg0 := qg0.touch tch13 (by omega)
  replace og0 := og0.touch tch13 (by omega)
  clear ox1 qx1 o13' q13'
  go_wp2_with fail
  refine (eqByteS_same _ _ _ _ _ _ _ _ qg0 qw0).mono ?_
  rintro e w14 ⟨rfl, bel14⟩
  have s14 := bel14.size
  have B14 := B13.trans (bel14.mono (by omega))
  replace r0 := r0.below bel14 (by omega)
  replace r1 := r1.below bel14 (by omega)
  replace qw0 := qw0.below bel14 (by omega)
  replace qg0 := qg0.below bel14 (by omega)
  replace og0 := og0.below bel14 (by omega)
  go_wp2_with fail
  refine (markByteS_any _ _ (1) _ _ _ og0 qg0 (by omega) (by omega)).mono ?_
  rintro e w15 ⟨rfl, o15', q15', tch15⟩
  have s15 := tch15.size
  have B15 := tch15.below B14 (by omega)
  replace r0 := r0.touch tch15 (by omega)
  replace r1 := r1.touch tch15 (by omega)
  replace qw0 := qw0.touch tch15 (by omega)
  clear og0 qg0 o15'
  have qm0 := q15'
  clear q15'
  go_wp2_with fail
  refine (heldByteS_any _ (1) _ _ _ _ qm0 (by omega) (by omega)).mono ?_
  rintro e w16 ⟨rfl, bel16⟩
  have s16 := bel16.size
  have B16 := B15.trans (bel16.mono (by omega))
  replace r0 := r0.below bel16 (by omega)
  replace r1 := r1.below bel16 (by omega)
  replace qw0 := qw0.below bel16 (by omega)
  replace qm0 := qm0.below bel16 (by omega)
  go_wp2_with fail
  refine (toByteS_any _ xs _ _ _ r0 b0 (by omega)).mono ?_
  rintro e w17 ⟨t17, rfl, o17, bel17⟩
  have s17 := bel17.size
  have B17 := B16.trans (bel17.mono (by omega))
  replace r0 := r0.below bel17 (by omega)
  replace r1 := r1.below bel17 (by omega)
  replace qw0 := qw0.below bel17 (by omega)
  replace qm0 := qm0.below bel17 (by omega)
  have q17 := o17.rd
  go_wp2_with fail
  refine (toByteS_any _ ys _ _ _ r1 b1 (by omega)).mono ?_
  rintro e w18 ⟨t18, rfl, o18, bel18⟩
  have s18 := bel18.size
  have B18 := B17.trans (bel18.mono (by omega))
  replace r0 := r0.below bel18 (by omega)
  replace r1 := r1.below bel18 (by omega)
  replace qw0 := qw0.below bel18 (by omega)
  replace qm0 := qm0.below bel18 (by omega)
  replace q17 := q17.below bel18 (by omega)
  have q18 := o18.rd
  go_wp2_with fail
  refine (implApB _ _ xs ys _ _ _ _ _ q17 q18 (by omega) (by omega) b0 b1).mono ?_
  rintro e w19 ⟨h0_19, rfl, ho0_19, bel19⟩
  have s19 := bel19.size
  have B19 := B18.trans (bel19.mono (by omega))
  replace r0 := r0.below bel19 (by omega)
  replace r1 := r1.below bel19 (by omega)
  replace qw0 := qw0.below bel19 (by omega)
  replace qm0 := qm0.below bel19 (by omega)
  replace q17 := q17.below bel19 (by omega)
  replace q18 := q18.below bel19 (by omega)
  have qh0 := ho0_19.rd
  go_wp2_with fail
  refine (eqByteS_same _ _ _ _ _ _ _ _ qh0 qw0).mono ?_
  rintro e w20 ⟨rfl, bel20⟩
  have s20 := bel20.size
  have B20 := B19.trans (bel20.mono (by omega))
  replace r0 := r0.below bel20 (by omega)
  replace r1 := r1.below bel20 (by omega)
  replace qw0 := qw0.below bel20 (by omega)
  replace qm0 := qm0.below bel20 (by omega)
  replace q17 := q17.below bel20 (by omega)
  replace q18 := q18.below bel20 (by omega)
  replace qh0 := qh0.below bel20 (by omega)
  go_wp2_with fail
  refine (heldByteS_any _ (1) _ _ _ _ qm0 (by omega) (by omega)).mono ?_
  rintro e w21 ⟨rfl, bel21⟩
  have s21 := bel21.size
  have B21 := B20.trans (bel21.mono (by omega))
  replace r0 := r0.below bel21 (by omega)
  replace r1 := r1.below bel21 (by omega)
  replace qw0 := qw0.below bel21 (by omega)
  replace qm0 := qm0.below bel21 (by omega)
  replace q17 := q17.below bel21 (by omega)
  replace q18 := q18.below bel21 (by omega)
  replace qh0 := qh0.below bel21 (by omega)
  go_wp2_with fail
  go_ret
  exact ⟨rfl, B21⟩

set_option maxRecDepth 100000 in
theorem law_FnExactReadBytes (w : World) (v0 : Value) (xs : List Int) (r0 : Rd .u8 w 0 w.heap.size v0 xs) (f0 : Wf .u8 xs) (i : Int) (i1 : In64 i) (m : Int) (i2 : In64 m) :
    Calls Try.prog 7 #[v0, .int .i64 i, .int .i64 m] w fun e w' => e = .returned (.bool true) ∧ Below w.heap.size w w' := by
  obtain ⟨A0, c0, rfl, hc0, hm0⟩ := r0.form
  unfold maxLen at hm0
  by_cases b0 : xs.length ≤ 1048576
  rotate_left
  · go_enter Try.func7, Try.ntmps7
    go_wp2_with fail
    go_ret
    exact ⟨rfl, Below.refl _ _⟩
  have hL : (rdB xs i m).1.length ≤ 1048576 := by have := rdB_le xs i m; omega
  go_enter Try.func7, Try.ntmps7
  go_wp2_with fail
  refine (toByteS_any _ xs _ _ _ r0 b0 (by omega)).mono ?_
  rintro e w1 ⟨t1, rfl, o1, bel1⟩
  have s1 := bel1.size
  have B1 := bel1
  replace r0 := r0.below bel1 (by omega)
  have q1 := o1.rd
  go_wp2_with fail
  refine (specRdB _ xs i m _ _ _ q1 f0 i1 i2 (by omega) (by omega)).mono ?_
  rintro e w2 ⟨w0_2, rfl, wo0_2, bel2⟩
  have s2 := bel2.size
  have B2 := B1.trans (bel2.mono (by omega))
  replace r0 := r0.below bel2 (by omega)
  replace q1 := q1.below bel2 (by omega)
  clear q1
  clear o1
  have qw0 := wo0_2.rd
  clear wo0_2
  go_wp2_with fail
  refine (toByteS_any _ xs _ _ _ r0 b0 (by omega)).mono ?_
  rintro e w3 ⟨t3, rfl, o3, bel3⟩
  have s3 := bel3.size
  have B3 := B2.trans (bel3.mono (by omega))
  replace r0 := r0.below bel3 (by omega)
  replace qw0 := qw0.below bel3 (by omega)
  have q3 := o3.rd
  have ox0 := o3
  clear o3
  have qx0 := q3
  clear q3
  go_wp2_with fail
  refine (implRdB _ xs i m _ _ _ qx0 f0 i1 i2 (by omega) (by omega)).mono ?_
  rintro e w4 ⟨g0_4, rfl, go0_4, bel4⟩
  have s4 := bel4.size
  have B4 := B3.trans (bel4.mono (by omega))
  replace r0 := r0.below bel4 (by omega)
  replace qw0 := qw0.below bel4 (by omega)
  replace qx0 := qx0.below bel4 (by omega)
  replace ox0 := ox0.below bel4 (by omega)
  have qg0 := go0_4.rd
  have og0 := go0_4
  clear go0_4
  go_wp2_with fail
  refine (eqByteS_same _ _ _ _ _ _ _ _ qg0 qw0).mono ?_
  rintro e w5 ⟨rfl, bel5⟩
  have s5 := bel5.size
  have B5 := B4.trans (bel5.mono (by omega))
  replace r0 := r0.below bel5 (by omega)
  replace qw0 := qw0.below bel5 (by omega)
  replace qx0 := qx0.below bel5 (by omega)
  replace ox0 := ox0.below bel5 (by omega)
  replace qg0 := qg0.below bel5 (by omega)
  replace og0 := og0.below bel5 (by omega)
  go_wp2_with fail
  refine (toByteS_any _ xs _ _ _ r0 b0 (by omega)).mono ?_
  rintro e w6 ⟨t6, rfl, o6, bel6⟩
  have s6 := bel6.size
  have B6 := B5.trans (bel6.mono (by omega))
  replace r0 := r0.below bel6 (by omega)
  replace qw0 := qw0.below bel6 (by omega)
  replace qx0 := qx0.below bel6 (by omega)
  replace ox0 := ox0.below bel6 (by omega)
  replace qg0 := qg0.below bel6 (by omega)
  replace og0 := og0.below bel6 (by omega)
  have q6 := o6.rd
  clear o6
  go_wp2_with fail
  refine (eqByteS_same _ _ _ _ _ _ _ _ qx0 q6).mono ?_
  rintro e w7 ⟨rfl, bel7⟩
  have s7 := bel7.size
  have B7 := B6.trans (bel7.mono (by omega))
  replace r0 := r0.below bel7 (by omega)
  replace qw0 := qw0.below bel7 (by omega)
  replace qx0 := qx0.below bel7 (by omega)
  replace ox0 := ox0.below bel7 (by omega)
  replace qg0 := qg0.below bel7 (by omega)
  replace og0 := og0.below bel7 (by omega)
  replace q6 := q6.below bel7 (by omega)
  clear q6
  go_wp2_with fail
  refine (markByteS_any _ _ (1) _ _ _ ox0 qx0 (by omega) (by omega)).mono ?_
  rintro e w8 ⟨rfl, o8', q8', tch8⟩
  have s8 := tch8.size
  have B8 := tch8.below B7 (by omega)
  replace r0 := r0.touch tch8 (by omega)
  replace qw0 := qw0.touch tch8 (by omega)
  replace qg0 := qg0.touch tch8 (by omega)
  replace og0 := og0.touch tch8 (by omega)
  clear ox0 qx0 o8' q8'
  go_wp2_with fail
  refine (eqByteS_same _ _ _ _ _ _ _ _ qg0 qw0).mono ?_
  rintro e w9 ⟨rfl, bel9⟩
  have s9 := bel9.size
  have B9 := B8.trans (bel9.mono (by omega))
  replace r0 := r0.below bel9 (by omega)
  replace qw0 := qw0.below bel9 (by omega)
  replace qg0 := qg0.below bel9 (by omega)
  replace og0 := og0.below bel9 (by omega)
  go_wp2_with fail
  refine (markByteS_any _ _ (1) _ _ _ og0 qg0 (by omega) (by omega)).mono ?_
  rintro e w10 ⟨rfl, o10', q10', tch10⟩
  have s10 := tch10.size
  have B10 := tch10.below B9 (by omega)
  replace r0 := r0.touch tch10 (by omega)
  replace qw0 := qw0.touch tch10 (by omega)
  clear og0 qg0 o10'
  have qm0 := q10'
  clear q10'
  go_wp2_with fail
  refine (heldByteS_any _ (1) _ _ _ _ qm0 (by omega) (by omega)).mono ?_
  rintro e w11 ⟨rfl, bel11⟩
  have s11 := bel11.size
  have B11 := B10.trans (bel11.mono (by omega))
  replace r0 := r0.below bel11 (by omega)
  replace qw0 := qw0.below bel11 (by omega)
  replace qm0 := qm0.below bel11 (by omega)
  go_wp2_with fail
  refine (toByteS_any _ xs _ _ _ r0 b0 (by omega)).mono ?_
  rintro e w12 ⟨t12, rfl, o12, bel12⟩
  have s12 := bel12.size
  have B12 := B11.trans (bel12.mono (by omega))
  replace r0 := r0.below bel12 (by omega)
  replace qw0 := qw0.below bel12 (by omega)
  replace qm0 := qm0.below bel12 (by omega)
  have q12 := o12.rd
  go_wp2_with fail
  refine (implRdB _ xs i m _ _ _ q12 f0 i1 i2 (by omega) (by omega)).mono ?_
  rintro e w13 ⟨h0_13, rfl, ho0_13, bel13⟩
  have s13 := bel13.size
  have B13 := B12.trans (bel13.mono (by omega))
  replace r0 := r0.below bel13 (by omega)
  replace qw0 := qw0.below bel13 (by omega)
  replace qm0 := qm0.below bel13 (by omega)
  replace q12 := q12.below bel13 (by omega)
  have qh0 := ho0_13.rd
  go_wp2_with fail
  refine (eqByteS_same _ _ _ _ _ _ _ _ qh0 qw0).mono ?_
  rintro e w14 ⟨rfl, bel14⟩
  have s14 := bel14.size
  have B14 := B13.trans (bel14.mono (by omega))
  replace r0 := r0.below bel14 (by omega)
  replace qw0 := qw0.below bel14 (by omega)
  replace qm0 := qm0.below bel14 (by omega)
  replace q12 := q12.below bel14 (by omega)
  replace qh0 := qh0.below bel14 (by omega)
  go_wp2_with fail
  refine (heldByteS_any _ (1) _ _ _ _ qm0 (by omega) (by omega)).mono ?_
  rintro e w15 ⟨rfl, bel15⟩
  have s15 := bel15.size
  have B15 := B14.trans (bel15.mono (by omega))
  replace r0 := r0.below bel15 (by omega)
  replace qw0 := qw0.below bel15 (by omega)
  replace qm0 := qm0.below bel15 (by omega)
  replace q12 := q12.below bel15 (by omega)
  replace qh0 := qh0.below bel15 (by omega)
  go_wp2_with fail
  go_ret
  exact ⟨rfl, B15⟩

set_option maxRecDepth 100000 in
theorem law_FnExactEncodeInts (w : World) (v0 : Value) (xs : List Int) (r0 : Rd .i64 w 0 w.heap.size v0 xs) (f0 : Wf .i64 xs) :
    Calls Try.prog 8 #[v0] w fun e w' => e = .returned (.bool true) ∧ Below w.heap.size w w' := by
  obtain ⟨A0, c0, rfl, hc0, hm0⟩ := r0.form
  unfold maxLen at hm0
  by_cases b0 : xs.length ≤ 1048576
  rotate_left
  · go_enter Try.func8, Try.ntmps8
    go_wp2_with fail
    go_ret
    exact ⟨rfl, Below.refl _ _⟩
  have hL : (encL xs).length ≤ 6291456 := by have := encL_length xs; omega
  go_enter Try.func8, Try.ntmps8
  go_wp2_with fail
  refine (toIntS_any _ xs _ _ _ r0 b0 (by omega)).mono ?_
  rintro e w1 ⟨t1, rfl, o1, bel1⟩
  have s1 := bel1.size
  have B1 := bel1
  replace r0 := r0.below bel1 (by omega)
  have q1 := o1.rd
  go_wp2_with fail
  refine (specEnI _ xs _ _ _ q1 f0 (by omega) b0).mono ?_
  rintro e w2 ⟨w0_2, rfl, wo0_2, bel2⟩
  have s2 := bel2.size
  have B2 := B1.trans (bel2.mono (by omega))
  replace r0 := r0.below bel2 (by omega)
  replace q1 := q1.below bel2 (by omega)
  clear q1
  clear o1
  have qw0 := wo0_2.rd
  clear wo0_2
  go_wp2_with fail
  refine (toIntS_any _ xs _ _ _ r0 b0 (by omega)).mono ?_
  rintro e w3 ⟨t3, rfl, o3, bel3⟩
  have s3 := bel3.size
  have B3 := B2.trans (bel3.mono (by omega))
  replace r0 := r0.below bel3 (by omega)
  replace qw0 := qw0.below bel3 (by omega)
  have q3 := o3.rd
  have ox0 := o3
  clear o3
  have qx0 := q3
  clear q3
  go_wp2_with fail
  refine (implEnI _ xs _ _ _ qx0 f0 (by omega) b0).mono ?_
  rintro e w4 ⟨g0_4, rfl, go0_4, bel4⟩
  have s4 := bel4.size
  have B4 := B3.trans (bel4.mono (by omega))
  replace r0 := r0.below bel4 (by omega)
  replace qw0 := qw0.below bel4 (by omega)
  replace qx0 := qx0.below bel4 (by omega)
  replace ox0 := ox0.below bel4 (by omega)
  have qg0 := go0_4.rd
  have og0 := go0_4
  clear go0_4
  go_wp2_with fail
  refine (eqByteS_same _ _ _ _ _ _ _ _ qg0 qw0).mono ?_
  rintro e w5 ⟨rfl, bel5⟩
  have s5 := bel5.size
  have B5 := B4.trans (bel5.mono (by omega))
  replace r0 := r0.below bel5 (by omega)
  replace qw0 := qw0.below bel5 (by omega)
  replace qx0 := qx0.below bel5 (by omega)
  replace ox0 := ox0.below bel5 (by omega)
  replace qg0 := qg0.below bel5 (by omega)
  replace og0 := og0.below bel5 (by omega)
  go_wp2_with fail
  refine (toIntS_any _ xs _ _ _ r0 b0 (by omega)).mono ?_
  rintro e w6 ⟨t6, rfl, o6, bel6⟩
  have s6 := bel6.size
  have B6 := B5.trans (bel6.mono (by omega))
  replace r0 := r0.below bel6 (by omega)
  replace qw0 := qw0.below bel6 (by omega)
  replace qx0 := qx0.below bel6 (by omega)
  replace ox0 := ox0.below bel6 (by omega)
  replace qg0 := qg0.below bel6 (by omega)
  replace og0 := og0.below bel6 (by omega)
  have q6 := o6.rd
  clear o6
  go_wp2_with fail
  refine (eqIntS_same _ _ _ _ _ _ _ _ qx0 q6).mono ?_
  rintro e w7 ⟨rfl, bel7⟩
  have s7 := bel7.size
  have B7 := B6.trans (bel7.mono (by omega))
  replace r0 := r0.below bel7 (by omega)
  replace qw0 := qw0.below bel7 (by omega)
  replace qx0 := qx0.below bel7 (by omega)
  replace ox0 := ox0.below bel7 (by omega)
  replace qg0 := qg0.below bel7 (by omega)
  replace og0 := og0.below bel7 (by omega)
  replace q6 := q6.below bel7 (by omega)
  clear q6
  go_wp2_with fail
  refine (markIntS_any _ _ (1) _ _ _ ox0 qx0 (by omega) (by omega)).mono ?_
  rintro e w8 ⟨rfl, o8', q8', tch8⟩
  have s8 := tch8.size
  have B8 := tch8.below B7 (by omega)
  replace r0 := r0.touch tch8 (by omega)
  replace qw0 := qw0.touch tch8 (by omega)
  replace qg0 := qg0.touch tch8 (by omega)
  replace og0 := og0.touch tch8 (by omega)
  clear ox0 qx0 o8' q8'
  go_wp2_with fail
  refine (eqByteS_same _ _ _ _ _ _ _ _ qg0 qw0).mono ?_
  rintro e w9 ⟨rfl, bel9⟩
  have s9 := bel9.size
  have B9 := B8.trans (bel9.mono (by omega))
  replace r0 := r0.below bel9 (by omega)
  replace qw0 := qw0.below bel9 (by omega)
  replace qg0 := qg0.below bel9 (by omega)
  replace og0 := og0.below bel9 (by omega)
  go_wp2_with fail
  refine (markByteS_any _ _ (1) _ _ _ og0 qg0 (by omega) (by omega)).mono ?_
  rintro e w10 ⟨rfl, o10', q10', tch10⟩
  have s10 := tch10.size
  have B10 := tch10.below B9 (by omega)
  replace r0 := r0.touch tch10 (by omega)
  replace qw0 := qw0.touch tch10 (by omega)
  clear og0 qg0 o10'
  have qm0 := q10'
  clear q10'
  go_wp2_with fail
  refine (heldByteS_any _ (1) _ _ _ _ qm0 (by omega) (by omega)).mono ?_
  rintro e w11 ⟨rfl, bel11⟩
  have s11 := bel11.size
  have B11 := B10.trans (bel11.mono (by omega))
  replace r0 := r0.below bel11 (by omega)
  replace qw0 := qw0.below bel11 (by omega)
  replace qm0 := qm0.below bel11 (by omega)
  go_wp2_with fail
  refine (toIntS_any _ xs _ _ _ r0 b0 (by omega)).mono ?_
  rintro e w12 ⟨t12, rfl, o12, bel12⟩
  have s12 := bel12.size
  have B12 := B11.trans (bel12.mono (by omega))
  replace r0 := r0.below bel12 (by omega)
  replace qw0 := qw0.below bel12 (by omega)
  replace qm0 := qm0.below bel12 (by omega)
  have q12 := o12.rd
  go_wp2_with fail
  refine (implEnI _ xs _ _ _ q12 f0 (by omega) b0).mono ?_
  rintro e w13 ⟨h0_13, rfl, ho0_13, bel13⟩
  have s13 := bel13.size
  have B13 := B12.trans (bel13.mono (by omega))
  replace r0 := r0.below bel13 (by omega)
  replace qw0 := qw0.below bel13 (by omega)
  replace qm0 := qm0.below bel13 (by omega)
  replace q12 := q12.below bel13 (by omega)
  have qh0 := ho0_13.rd
  go_wp2_with fail
  refine (eqByteS_same _ _ _ _ _ _ _ _ qh0 qw0).mono ?_
  rintro e w14 ⟨rfl, bel14⟩
  have s14 := bel14.size
  have B14 := B13.trans (bel14.mono (by omega))
  replace r0 := r0.below bel14 (by omega)
  replace qw0 := qw0.below bel14 (by omega)
  replace qm0 := qm0.below bel14 (by omega)
  replace q12 := q12.below bel14 (by omega)
  replace qh0 := qh0.below bel14 (by omega)
  go_wp2_with fail
  refine (heldByteS_any _ (1) _ _ _ _ qm0 (by omega) (by omega)).mono ?_
  rintro e w15 ⟨rfl, bel15⟩
  have s15 := bel15.size
  have B15 := B14.trans (bel15.mono (by omega))
  replace r0 := r0.below bel15 (by omega)
  replace qw0 := qw0.below bel15 (by omega)
  replace qm0 := qm0.below bel15 (by omega)
  replace q12 := q12.below bel15 (by omega)
  replace qh0 := qh0.below bel15 (by omega)
  go_wp2_with fail
  go_ret
  exact ⟨rfl, B15⟩

set_option maxRecDepth 100000 in
theorem law_FnExactDecodeInts (w : World) (v0 : Value) (xs : List Int) (r0 : Rd .u8 w 0 w.heap.size v0 xs) (f0 : Wf .u8 xs) (i : Int) (i1 : In64 i) (n : Int) (i2 : In64 n) :
    Calls Try.prog 9 #[v0, .int .i64 i, .int .i64 n] w fun e w' => e = .returned (.bool true) ∧ Below w.heap.size w w' := by
  obtain ⟨A0, c0, rfl, hc0, hm0⟩ := r0.form
  unfold maxLen at hm0
  by_cases b0 : xs.length ≤ 1048576
  rotate_left
  · go_enter Try.func9, Try.ntmps9
    go_wp2_with fail
    go_ret
    exact ⟨rfl, Below.refl _ _⟩
  have hL := decI_le xs i n
  go_enter Try.func9, Try.ntmps9
  go_wp2_with fail
  refine (toByteS_any _ xs _ _ _ r0 b0 (by omega)).mono ?_
  rintro e w1 ⟨t1, rfl, o1, bel1⟩
  have s1 := bel1.size
  have B1 := bel1
  replace r0 := r0.below bel1 (by omega)
  have q1 := o1.rd
  go_wp2_with fail
  refine (specDeI _ xs i n _ _ _ q1 f0 i1 i2 (by omega) b0).mono ?_
  rintro e w2 ⟨w0_2, rfl, wo0_2, bel2⟩
  have s2 := bel2.size
  have B2 := B1.trans (bel2.mono (by omega))
  replace r0 := r0.below bel2 (by omega)
  replace q1 := q1.below bel2 (by omega)
  clear q1
  clear o1
  have qw0 := wo0_2.rd
  clear wo0_2
  go_wp2_with fail
  refine (toByteS_any _ xs _ _ _ r0 b0 (by omega)).mono ?_
  rintro e w3 ⟨t3, rfl, o3, bel3⟩
  have s3 := bel3.size
  have B3 := B2.trans (bel3.mono (by omega))
  replace r0 := r0.below bel3 (by omega)
  replace qw0 := qw0.below bel3 (by omega)
  have q3 := o3.rd
  have ox0 := o3
  clear o3
  have qx0 := q3
  clear q3
  go_wp2_with fail
  refine (implDeI _ xs i n _ _ _ qx0 f0 i1 i2 (by omega) b0).mono ?_
  rintro e w4 ⟨g0_4, rfl, go0_4, bel4⟩
  have s4 := bel4.size
  have B4 := B3.trans (bel4.mono (by omega))
  replace r0 := r0.below bel4 (by omega)
  replace qw0 := qw0.below bel4 (by omega)
  replace qx0 := qx0.below bel4 (by omega)
  replace ox0 := ox0.below bel4 (by omega)
  have qg0 := go0_4.rd
  have og0 := go0_4
  clear go0_4
  go_wp2_with fail
  refine (eqIntS_same _ _ _ _ _ _ _ _ qg0 qw0).mono ?_
  rintro e w5 ⟨rfl, bel5⟩
  have s5 := bel5.size
  have B5 := B4.trans (bel5.mono (by omega))
  replace r0 := r0.below bel5 (by omega)
  replace qw0 := qw0.below bel5 (by omega)
  replace qx0 := qx0.below bel5 (by omega)
  replace ox0 := ox0.below bel5 (by omega)
  replace qg0 := qg0.below bel5 (by omega)
  replace og0 := og0.below bel5 (by omega)
  go_wp2_with fail
  refine (toByteS_any _ xs _ _ _ r0 b0 (by omega)).mono ?_
  rintro e w6 ⟨t6, rfl, o6, bel6⟩
  have s6 := bel6.size
  have B6 := B5.trans (bel6.mono (by omega))
  replace r0 := r0.below bel6 (by omega)
  replace qw0 := qw0.below bel6 (by omega)
  replace qx0 := qx0.below bel6 (by omega)
  replace ox0 := ox0.below bel6 (by omega)
  replace qg0 := qg0.below bel6 (by omega)
  replace og0 := og0.below bel6 (by omega)
  have q6 := o6.rd
  clear o6
  go_wp2_with fail
  refine (eqByteS_same _ _ _ _ _ _ _ _ qx0 q6).mono ?_
  rintro e w7 ⟨rfl, bel7⟩
  have s7 := bel7.size
  have B7 := B6.trans (bel7.mono (by omega))
  replace r0 := r0.below bel7 (by omega)
  replace qw0 := qw0.below bel7 (by omega)
  replace qx0 := qx0.below bel7 (by omega)
  replace ox0 := ox0.below bel7 (by omega)
  replace qg0 := qg0.below bel7 (by omega)
  replace og0 := og0.below bel7 (by omega)
  replace q6 := q6.below bel7 (by omega)
  clear q6
  go_wp2_with fail
  refine (markByteS_any _ _ (1) _ _ _ ox0 qx0 (by omega) (by omega)).mono ?_
  rintro e w8 ⟨rfl, o8', q8', tch8⟩
  have s8 := tch8.size
  have B8 := tch8.below B7 (by omega)
  replace r0 := r0.touch tch8 (by omega)
  replace qw0 := qw0.touch tch8 (by omega)
  replace qg0 := qg0.touch tch8 (by omega)
  replace og0 := og0.touch tch8 (by omega)
  clear ox0 qx0 o8' q8'
  go_wp2_with fail
  refine (eqIntS_same _ _ _ _ _ _ _ _ qg0 qw0).mono ?_
  rintro e w9 ⟨rfl, bel9⟩
  have s9 := bel9.size
  have B9 := B8.trans (bel9.mono (by omega))
  replace r0 := r0.below bel9 (by omega)
  replace qw0 := qw0.below bel9 (by omega)
  replace qg0 := qg0.below bel9 (by omega)
  replace og0 := og0.below bel9 (by omega)
  go_wp2_with fail
  refine (markIntS_any _ _ (1) _ _ _ og0 qg0 (by omega) (by omega)).mono ?_
  rintro e w10 ⟨rfl, o10', q10', tch10⟩
  have s10 := tch10.size
  have B10 := tch10.below B9 (by omega)
  replace r0 := r0.touch tch10 (by omega)
  replace qw0 := qw0.touch tch10 (by omega)
  clear og0 qg0 o10'
  have qm0 := q10'
  clear q10'
  go_wp2_with fail
  refine (heldIntS_any _ (1) _ _ _ _ qm0 (by omega) (by omega)).mono ?_
  rintro e w11 ⟨rfl, bel11⟩
  have s11 := bel11.size
  have B11 := B10.trans (bel11.mono (by omega))
  replace r0 := r0.below bel11 (by omega)
  replace qw0 := qw0.below bel11 (by omega)
  replace qm0 := qm0.below bel11 (by omega)
  go_wp2_with fail
  refine (toByteS_any _ xs _ _ _ r0 b0 (by omega)).mono ?_
  rintro e w12 ⟨t12, rfl, o12, bel12⟩
  have s12 := bel12.size
  have B12 := B11.trans (bel12.mono (by omega))
  replace r0 := r0.below bel12 (by omega)
  replace qw0 := qw0.below bel12 (by omega)
  replace qm0 := qm0.below bel12 (by omega)
  have q12 := o12.rd
  go_wp2_with fail
  refine (implDeI _ xs i n _ _ _ q12 f0 i1 i2 (by omega) b0).mono ?_
  rintro e w13 ⟨h0_13, rfl, ho0_13, bel13⟩
  have s13 := bel13.size
  have B13 := B12.trans (bel13.mono (by omega))
  replace r0 := r0.below bel13 (by omega)
  replace qw0 := qw0.below bel13 (by omega)
  replace qm0 := qm0.below bel13 (by omega)
  replace q12 := q12.below bel13 (by omega)
  have qh0 := ho0_13.rd
  go_wp2_with fail
  refine (eqIntS_same _ _ _ _ _ _ _ _ qh0 qw0).mono ?_
  rintro e w14 ⟨rfl, bel14⟩
  have s14 := bel14.size
  have B14 := B13.trans (bel14.mono (by omega))
  replace r0 := r0.below bel14 (by omega)
  replace qw0 := qw0.below bel14 (by omega)
  replace qm0 := qm0.below bel14 (by omega)
  replace q12 := q12.below bel14 (by omega)
  replace qh0 := qh0.below bel14 (by omega)
  go_wp2_with fail
  refine (heldIntS_any _ (1) _ _ _ _ qm0 (by omega) (by omega)).mono ?_
  rintro e w15 ⟨rfl, bel15⟩
  have s15 := bel15.size
  have B15 := B14.trans (bel15.mono (by omega))
  replace r0 := r0.below bel15 (by omega)
  replace qw0 := qw0.below bel15 (by omega)
  replace qm0 := qm0.below bel15 (by omega)
  replace q12 := q12.below bel15 (by omega)
  replace qh0 := qh0.below bel15 (by omega)
  go_wp2_with fail
  go_ret
  exact ⟨rfl, B15⟩

end Go.Proofs.Ythidfmheeblfeaa
