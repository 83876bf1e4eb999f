/- The exact law of EqualLists: its walk (printed by genlaw.py). -/
import Derived.Test.YtffgoedbabpfhaaEqL
namespace Go.Proofs.Ytffgoedbabpfhaa
open Go.RowKit
set_option linter.unusedVariables false

set_option maxRecDepth 100000 in
theorem law_FnExactEqualLists (w : World) (v0 : Value) (xss : List (List Int)) (r0 : Rds .u8 w 0 w.heap.size v0 xss) (f0 : ∀ zs ∈ xss, Wf .u8 zs) (v1 : Value) (yss : List (List Int)) (r1 : Rds .u8 w 0 w.heap.size v1 yss) (f1 : ∀ zs ∈ yss, Wf .u8 zs) :
    Calls Try.prog 5 #[v0, v1] w fun e w' => e = .returned (.bool true) ∧ Below w.heap.size w w' := by
  obtain ⟨A0, c0, rfl, hc0, hm0⟩ := r0.form
  obtain ⟨A1, c1, rfl, hc1, hm1⟩ := r1.form
  unfold maxLen at hm0 hm1
  go_enter Try.func5, Try.ntmps5
  go_wp2_with fail
  refine (szByteSS_any _ xss _ _ _ r0 (1048576) (by omega)).mono ?_
  rintro e w1 ⟨left1, rfl, hl1, bel1⟩
  have s1 := bel1.size
  have B1 := bel1
  replace r0 := r0.below bel1 (by omega)
  replace r1 := r1.below bel1 (by omega)
  by_cases g1 : left1 < 0
  · go_wp2_with fail
    go_ret
    exact ⟨rfl, B1⟩
  have b0 := hl1.resolve_left g1
  go_wp2_with fail
  refine (szByteSS_any _ yss _ _ _ r1 (left1) (by omega)).mono ?_
  rintro e w2 ⟨left2, rfl, hl2, bel2⟩
  have s2 := bel2.size
  have B2 := B1.trans (bel2.mono (by omega))
  replace r0 := r0.below bel2 (by omega)
  replace r1 := r1.below bel2 (by omega)
  by_cases g2 : left2 < 0
  · go_wp2_with fail
    go_ret
    exact ⟨rfl, B2⟩
  have b1 := hl2.resolve_left g2
  go_wp2_with fail
  refine (toByteSS_any _ xss _ _ _ r0 (by omega) (by omega)).mono ?_
  rintro e w3 ⟨t3, rfl, o3, bel3⟩
  have s3 := bel3.size
  have B3 := B2.trans (bel3.mono (by omega))
  replace r0 := r0.below bel3 (by omega)
  replace r1 := r1.below bel3 (by omega)
  have q3 := o3.rd
  go_wp2_with fail
  refine (toByteSS_any _ yss _ _ _ r1 (by omega) (by omega)).mono ?_
  rintro e w4 ⟨t4, rfl, o4, bel4⟩
  have s4 := bel4.size
  have B4 := B3.trans (bel4.mono (by omega))
  replace r0 := r0.below bel4 (by omega)
  replace r1 := r1.below bel4 (by omega)
  replace q3 := q3.below bel4 (by omega)
  have q4 := o4.rd
  go_wp2_with fail
  refine (ofQuiet (specEqL _ _ xss yss _ _ _ _ _ q3 q4 f0 f1)).mono ?_
  rintro e w5 ⟨rfl, bel5⟩
  have s5 := bel5.size
  have B5 := B4.trans (bel5.mono (by omega))
  replace r0 := r0.below bel5 (by omega)
  replace r1 := r1.below bel5 (by omega)
  replace q3 := q3.below bel5 (by omega)
  replace q4 := q4.below bel5 (by omega)
  clear q3 q4
  clear o3
  clear o4
  go_wp2_with fail
  refine (toByteSS_any _ xss _ _ _ r0 (by omega) (by omega)).mono ?_
  rintro e w6 ⟨t6, rfl, o6, bel6⟩
  have s6 := bel6.size
  have B6 := B5.trans (bel6.mono (by omega))
  replace r0 := r0.below bel6 (by omega)
  replace r1 := r1.below bel6 (by omega)
  have q6 := o6.rd
  have ox0 := o6
  clear o6
  have qx0 := q6
  clear q6
  clear ox0
  go_wp2_with fail
  refine (toByteSS_any _ yss _ _ _ r1 (by omega) (by omega)).mono ?_
  rintro e w7 ⟨t7, rfl, o7, bel7⟩
  have s7 := bel7.size
  have B7 := B6.trans (bel7.mono (by omega))
  replace r0 := r0.below bel7 (by omega)
  replace r1 := r1.below bel7 (by omega)
  replace qx0 := qx0.below bel7 (by omega)
  have q7 := o7.rd
  have ox1 := o7
  clear o7
  have qx1 := q7
  clear q7
  clear ox1
  go_wp2_with fail
  refine (ofQuiet (implEqL _ _ xss yss _ _ _ _ _ qx0 qx1)).mono ?_
  rintro e w8 ⟨rfl, bel8⟩
  have s8 := bel8.size
  have B8 := B7.trans (bel8.mono (by omega))
  replace r0 := r0.below bel8 (by omega)
  replace r1 := r1.below bel8 (by omega)
  replace qx0 := qx0.below bel8 (by omega)
  replace qx1 := qx1.below bel8 (by omega)
  go_wp2_with fail
  refine (toByteSS_any _ xss _ _ _ r0 (by omega) (by omega)).mono ?_
  rintro e w9 ⟨t9, rfl, o9, bel9⟩
  have s9 := bel9.size
  have B9 := B8.trans (bel9.mono (by omega))
  replace r0 := r0.below bel9 (by omega)
  replace r1 := r1.below bel9 (by omega)
  replace qx0 := qx0.below bel9 (by omega)
  replace qx1 := qx1.below bel9 (by omega)
  have q9 := o9.rd
  clear o9
  go_wp2_with fail
  refine (eqByteSS_same _ _ _ _ _ _ _ _ qx0 q9).mono ?_
  rintro e w10 ⟨rfl, bel10⟩
  have s10 := bel10.size
  have B10 := B9.trans (bel10.mono (by omega))
  replace r0 := r0.below bel10 (by omega)
  replace r1 := r1.below bel10 (by omega)
  replace qx0 := qx0.below bel10 (by omega)
  replace qx1 := qx1.below bel10 (by omega)
  replace q9 := q9.below bel10 (by omega)
  clear q9
  go_wp2_with fail
  refine (toByteSS_any _ yss _ _ _ r1 (by omega) (by omega)).mono ?_
  rintro e w11 ⟨t11, rfl, o11, bel11⟩
  have s11 := bel11.size
  have B11 := B10.trans (bel11.mono (by omega))
  replace r0 := r0.below bel11 (by omega)
  replace r1 := r1.below bel11 (by omega)
  replace qx0 := qx0.below bel11 (by omega)
  replace qx1 := qx1.below bel11 (by omega)
  have q11 := o11.rd
  clear o11
  go_wp2_with fail
  refine (eqByteSS_same _ _ _ _ _ _ _ _ qx1 q11).mono ?_
  rintro e w12 ⟨rfl, bel12⟩
  have s12 := bel12.size
  have B12 := B11.trans (bel12.mono (by omega))
  replace r0 := r0.below bel12 (by omega)
  replace r1 := r1.below bel12 (by omega)
  replace qx0 := qx0.below bel12 (by omega)
  replace qx1 := qx1.below bel12 (by omega)
  replace q11 := q11.below bel12 (by omega)
  clear q11
  go_wp2_with fail
  go_ret
  exact ⟨rfl, B12⟩

end Go.Proofs.Ytffgoedbabpfhaa
