/- The law of selections. -/
import Derived.Test.YtabfekfbdacboaaSelp
import Derived.Test.YtabfekfbdacboaaSame
import Derived.Test.YtabfekfbdacboaaSmall
import Derived.Deep.DeepCutAuto
namespace Go.Proofs.Ytabfekfbdacboaa
open Go.RowKit
set_option linter.unusedVariables false

set_option maxRecDepth 100000 in
set_option maxHeartbeats 4000000 in
theorem law_FnSelections (w : World) (v0 : Value) (xs : List Int) (r0 : Rd .u8 w 0 w.heap.size v0 xs) (f0 : Wf .u8 xs) :
    Calls Try.prog 3 #[v0] w fun e w' => e = .returned (.bool true) ∧ Below w.heap.size w w' := by
  by_cases b0 : xs.length ≤ 1048576
  rotate_left
  · go_enter Try.func3, Try.ntmps3
    go_wp2_with fail
    refine (big_yes _ xs _ _ _ r0 b0).mono ?_
    rintro e w1 ⟨rfl, rfl⟩
    go_wp2_with fail
    go_ret
    exact ⟨rfl, Below.refl _ _⟩
  have F0 := Lib.hid f0
  clear f0
  go_enter Try.func3, Try.ntmps3
  go_wp2_with fail
  refine (big_no _ xs _ _ _ r0 b0).mono ?_
  rintro e w1 ⟨rfl, rfl⟩
  go_wp2_with fail
  refine (drawPack_any _ xs _ _ _ r0 F0.out (Nat.le_refl _) b0).mono ?_
  rintro e w1 ⟨v1, vs, rfl, o1, hv, wv, B1⟩
  have q1 := o1.rd
  have s1 := B1.size
  have WV := Lib.hid wv
  clear o1 wv
  obtain ⟨A1, c1, rfl, hc1, hm1⟩ := q1.form
  unfold maxLen at hm1
  go_wp2_with fail
  refine (implPack _ vs _ _ _ q1 WV.out (Nat.le_refl _) (by omega)).mono ?_
  rintro e w2 ⟨v2, rfl, o2, bel2⟩
  have s2 := bel2.size
  have B2 := B1.trans (bel2.mono s1)
  replace q1 := q1.below bel2 (Nat.le_refl _)
  have q2 := o2.rd
  clear o2
  have WP := Lib.hid (packAll_wf vs)
  have HU1 : Hid (∀ (h : isSel vs vs.length = true), unpL (packAll vs) = (vs, true)) := unp_pack vs
  have HU2 : Hid (∀ (h : ¬ isSel vs vs.length = true), unpL (packAll vs) = ([], false)) := unp_nopack vs
  generalize packAll vs = ps at q2 WP HU1 HU2
  go_wp2_with fail
  refine (implUnp _ ps _ _ _ q2 WP.out (Nat.le_refl _)).mono ?_
  rintro e w3 ⟨v3, rfl, o3, bel3⟩
  have s3 := bel3.size
  have B3 := B2.trans (bel3.mono (by omega))
  replace q1 := q1.below bel3 (by omega)
  have q3 := o3.rd
  clear o3 q2
  have r3 := r0.below B3 (Nat.le_refl _)
  go_wp2_with fail
  refine (drawUnp_any _ xs _ _ _ r3 F0.out (by omega) b0).mono ?_
  rintro e w4 ⟨v4, bs, rfl, q4, hb, wb, bel4⟩
  have s4 := bel4.size
  have B4 := B3.trans (bel4.mono (by omega))
  replace q1 := q1.below bel4 (by omega)
  replace q3 := q3.below bel4 (by omega)
  have WB := Lib.hid wb
  clear wb r3
  obtain ⟨A4, c4, rfl, hc4, hm4⟩ := q4.form
  unfold maxLen at hm4
  go_wp2_with fail
  refine (implUnp _ bs _ _ _ q4 WB.out (Nat.le_refl _)).mono ?_
  rintro e w5 ⟨v5, rfl, o5, bel5⟩
  have s5 := bel5.size
  have B5 := B4.trans (bel5.mono (by omega))
  replace q1 := q1.below bel5 (by omega)
  replace q3 := q3.below bel5 (by omega)
  replace q4 := q4.below bel5 (by omega)
  have q5 := o5.rd
  clear o5
  have HF : Hid ((unpL bs).2 = true → packAll (unpL bs).1 = bs) := pack_unp bs
  obtain ⟨U1, hU1⟩ : ∃ U, U = (unpL bs).1 := ⟨_, rfl⟩
  obtain ⟨U2, hU2⟩ : ∃ U, U = (unpL bs).2 := ⟨_, rfl⟩
  have HLU : Hid (U1.length ≤ 64 ∧ Wf .i64 U1) := by
    unfold Hid
    rw [hU1]
    refine ⟨unpL_le bs WB.out, ?_⟩
    unfold unpL
    split
    · exact bitsOf_wf _ _
    · exact wf_nil _
  have HU4 : Hid (unpL bs = (U1, U2)) := by unfold Hid; rw [hU1, hU2]
  rw [← hU1, ← hU2] at HF
  rw [← hU1] at q5
  rw [← hU2]
  clear hU1 hU2
  go_upto_region 7 with fail
  go_cut [5, 8, 60] from 19 to 124 (fun _ s8 c wx => s8 = .bool U2 ∧ c = .bool false ∧ Below w5.heap.size w5 wx)
  case first =>
    have hn64 : In64 (vs.length : Int) := by unfold In64; omega
    have HUL := Lib.hid HLU.out.1
    by_cases hs : isSel vs vs.length = true
    · rw [HU1.out hs] at q3 ⊢
      dsimp only at q3 ⊢
      obtain ⟨A3, c3, rfl, hc3, hm3⟩ := q3.form
      unfold maxLen at hm3
      have HS := Lib.hid hs
      clear hs
      go_wp2_with fail
      refine (specIsSel _ vs _ _ _ _ q1 hn64).mono ?_
      rw [HS.out]
      rintro e w' ⟨rfl, rfl⟩
      go_wp2_with fail
      refine (sameInts_same _ _ vs _ _ _ _ _ q3 q1).mono ?_
      rintro e w7 ⟨rfl, bel7⟩
      have s7 := bel7.size
      replace q4 := q4.below bel7 (by omega)
      replace q5 := q5.below bel7 (by omega)
      cases hU : U2
      · subst hU
        go_wp2_with fail
        go_meet
        exact ⟨rfl, rfl, bel7⟩
      · subst hU
        have HFF := Lib.hid (HF.out rfl)
        go_wp2_with fail
        refine (implPack _ U1 _ _ _ q5 HLU.out.2 (by omega) (by have := HLU.out.1; omega)).mono ?_
        rw [HFF.out]
        rintro e w8 ⟨v8, rfl, o8, bel8⟩
        have s8 := bel8.size
        replace q4 := q4.below bel8 (by omega)
        go_wp2_with fail
        refine (sameBytes_same _ _ bs _ _ _ _ _ o8.rd q4).mono ?_
        rintro e w9 ⟨rfl, bel9⟩
        have B9 := bel7.trans ((bel8.trans (bel9.mono s8)).mono (by omega))
        clear o8
        go_wp2_with fail
        go_meet
        exact ⟨rfl, rfl, B9⟩
    · rw [HU2.out hs] at q3 ⊢
      dsimp only at q3 ⊢
      have hs' : isSel vs vs.length = false := by simpa using hs
      have HS := Lib.hid hs'
      clear hs hs'
      go_wp2_with fail
      refine (specIsSel _ vs _ _ _ _ q1 hn64).mono ?_
      rw [HS.out]
      rintro e w' ⟨rfl, rfl⟩
      have bel7 := Below.refl w5.heap.size w5
      cases hU : U2
      · subst hU
        go_wp2_with fail
        go_meet
        exact ⟨rfl, rfl, bel7⟩
      · subst hU
        have HFF := Lib.hid (HF.out rfl)
        go_wp2_with fail
        refine (implPack _ U1 _ _ _ q5 HLU.out.2 (by omega) (by have := HLU.out.1; omega)).mono ?_
        rw [HFF.out]
        rintro e w8 ⟨v8, rfl, o8, bel8⟩
        have s8 := bel8.size
        replace q4 := q4.below bel8 (by omega)
        go_wp2_with fail
        refine (sameBytes_same _ _ bs _ _ _ _ _ o8.rd q4).mono ?_
        rintro e w9 ⟨rfl, bel9⟩
        have B9 := bel7.trans ((bel8.trans (bel9.mono s8)).mono (by omega))
        clear o8
        go_wp2_with fail
        go_meet
        exact ⟨rfl, rfl, B9⟩
  case rest =>
  obtain ⟨rfl, rfl, B6⟩ := hcut
  have C6 := B5.trans (B6.mono (by omega))
  have z6 := C6.size
  have s6 := B6.size
  replace q4 := q4.below B6 (by omega)
  clear q1 q3 q5 HU1 HU2 HF HLU WP WV B1 B2 B3 B4 B5 B6 bel2 bel3 bel4 bel5 hc1 hm1
  go_wp2_with fail
  refine (specUnp _ bs _ _ _ q4 WB.out (by omega)).mono ?_
  rw [HU4.out]
  rintro e w7 ⟨v7, rfl, -, bel7⟩
  have s7 := bel7.size
  have C7 := C6.trans (bel7.mono z6)
  clear q4 C6 bel7
  have hUU : (U2 != U2) = false := by simp
  have r7 := r0.below C7 (Nat.le_refl _)
  go_wp2_with fail
  refine (drawSelX_any _ xs _ _ _ r7 F0.out (by omega) b0).mono ?_
  rintro e w8 ⟨v8, rows, v9, rfl, o8, hn8, hw8, ht8, bel8⟩
  have s8 := bel8.size
  have C8 := C7.trans (bel8.mono (by omega))
  have q8 := o8.rd
  clear o8
  obtain ⟨A8, c8, rfl, hc8, hm8⟩ := q8.form
  unfold maxLen at hm8
  have W8 := Lib.hid hw8
  clear hw8
  have T := fun (i : Nat) (hi : i ≤ 1000) (W : World) (B : Below w.heap.size w W) => at_any _ xs i W _ _ (r0.below B (Nat.le_refl _)) F0.out b0 hi
  obtain ⟨x0, hx0⟩ : ∃ x, x = atI xs 0 := ⟨_, rfl⟩
  obtain ⟨x1, hx1⟩ : ∃ x, x = atI xs 1 := ⟨_, rfl⟩
  have T0 := fun (W : World) (B : Below w.heap.size w W) => T 0 (by omega) W B
  have T1 := fun (W : World) (B : Below w.heap.size w W) => T 1 (by omega) W B
  obtain ⟨a0, a1⟩ := atI_bd F0.out 0
  obtain ⟨b0', b1⟩ := atI_bd F0.out 1
  simp only [← hx0] at T0
  simp only [← hx1] at T1
  rw [← hx0] at a0 a1
  rw [← hx1] at b0' b1
  clear T hx0 hx1 r7
  obtain ⟨P, hP⟩ : ∃ P, P = randAll x0 (rows.length : Int) := ⟨_, rfl⟩
  obtain ⟨Q, hQ⟩ : ∃ Q, Q = randAll x1 (rows.length : Int) := ⟨_, rfl⟩
  have hPl : P.length = rows.length := by rw [hP, randAll_yes (by omega) (by omega), randL_length, Int.toNat_natCast]
  have hQl : Q.length = rows.length := by rw [hQ, randAll_yes (by omega) (by omega), randL_length, Int.toNat_natCast]
  have bP : bitsB P = true := by rw [hP]; exact randAll_bits _ _
  have bQ : bitsB Q = true := by rw [hQ]; exact randAll_bits _ _
  have hZ := Lib.hid (sel_zero rows P Q hPl hQl bP bQ W8.out)
  have hXS : xorSel P Q = xorS P Q := xorSel_yes (isSel_yes bP rfl (by omega)) (isSel_yes bQ (by omega) (by omega))
  have hSl : (xorS P Q).length = rows.length := by rw [xorS_length _ _ (by omega), hPl]
  have HPl := Lib.hid hPl
  have HQl := Lib.hid hQl
  have WPi := Lib.hid (bits_wf bP)
  have WQi := Lib.hid (bits_wf bQ)
  have HXS := Lib.hid hXS
  have HP := Lib.hid hP
  have HQ := Lib.hid hQ
  generalize xorS P Q = S at hZ HXS hSl
  have HSl := Lib.hid hSl
  have lp := selX_len rows P
  have lq := selX_len rows Q
  have ls := selX_len rows S
  have on := ones_le S
  have fp := Lib.hid (selX_wf P W8.out)
  have fq := Lib.hid (selX_wf Q W8.out)
  have hPs : P.length ≤ 4 := by omega
  have hQs : Q.length ≤ 4 := by omega
  have hSs : S.length ≤ 4 := by omega
  have hon : (ones S : Int) ≤ (rows.length : Int) := by omega
  clear hP hQ hPl hQl bP bQ hXS hSl on
  go_wp2_with fail
  refine (T0 _ C8).mono ?_
  rintro e w' ⟨rfl, rfl⟩
  go_wp2_with fail
  refine (specRand x0 rows.length _ (by unfold In64; omega) (by unfold In64; omega)).mono ?_
  rw [← HP.out]
  rintro e w9 ⟨v9', rfl, o9, bel9⟩
  have s9 := bel9.size
  have C9 := C8.trans (bel9.mono (by omega))
  have p9 := o9.rd
  replace q8 := q8.below bel9 (by omega)
  clear o9
  obtain ⟨A9, c9, rfl, hc9, hm9⟩ := p9.form
  go_wp2_with fail
  refine (T1 _ C9).mono ?_
  rintro e w' ⟨rfl, rfl⟩
  go_wp2_with fail
  refine (specRand x1 rows.length _ (by unfold In64; omega) (by unfold In64; omega)).mono ?_
  rw [← HQ.out]
  rintro e w10 ⟨v10, rfl, o10, bel10⟩
  have s10 := bel10.size
  have C10 := C9.trans (bel10.mono (by omega))
  have p10 := o10.rd
  replace q8 := q8.below bel10 (by omega)
  replace p9 := p9.below bel10 (by omega)
  clear o10
  obtain ⟨A10, c10, rfl, hc10, hm10⟩ := p10.form
  go_wp2_with fail
  refine (implXorSel _ _ P Q _ _ _ _ _ p9 p10 WPi.out WQi.out (by omega) (by omega) (by omega) (by omega)).mono ?_
  rw [HXS.out]
  rintro e w11 ⟨v11, rfl, o11, bel11⟩
  have s11 := bel11.size
  have C11 := C10.trans (bel11.mono (by omega))
  have p11 := o11.rd
  replace q8 := q8.below bel11 (by omega)
  replace p9 := p9.below bel11 (by omega)
  replace p10 := p10.below bel11 (by omega)
  clear o11
  obtain ⟨A11, c11, rfl, hc11, hm11⟩ := p11.form
  go_wp2_with fail
  refine (implCountSelected _ S _ _ _ p11).mono ?_
  rintro e w' ⟨rfl, rfl⟩
  go_wp2_with fail
  refine (implSelX _ _ rows P _ _ _ _ _ q8 p9 W8.out (by omega) (by omega) (by omega)).mono ?_
  rintro e w12 ⟨v12, rfl, o12, bel12⟩
  have s12 := bel12.size
  have C12 := C11.trans (bel12.mono (by omega))
  have p12 := o12.rd
  replace q8 := q8.below bel12 (by omega)
  replace p9 := p9.below bel12 (by omega)
  replace p10 := p10.below bel12 (by omega)
  replace p11 := p11.below bel12 (by omega)
  clear o12
  go_wp2_with fail
  refine (implSelX _ _ rows Q _ _ _ _ _ q8 p10 W8.out (by omega) (by omega) (by omega)).mono ?_
  rintro e w13 ⟨v13, rfl, o13, bel13⟩
  have s13 := bel13.size
  have C13 := C12.trans (bel13.mono (by omega))
  have p13 := o13.rd
  replace q8 := q8.below bel13 (by omega)
  replace p9 := p9.below bel13 (by omega)
  replace p11 := p11.below bel13 (by omega)
  replace p12 := p12.below bel13 (by omega)
  clear o13 p10
  go_wp2_with fail
  refine (implXor _ _ (selX rows P) (selX rows Q) _ _ _ _ _ p12 p13 (by omega) (by omega) (by omega) (by omega)).mono ?_
  have lx : (xorL (selX rows P) (selX rows Q)).length ≤ 20 := by rw [xorL_length]; omega
  generalize xorL (selX rows P) (selX rows Q) = X at hZ lx
  rintro e w14 ⟨v14, rfl, o14, bel14⟩
  have s14 := bel14.size
  have C14 := C13.trans (bel14.mono (by omega))
  have p14 := o14.rd
  replace q8 := q8.below bel14 (by omega)
  replace p9 := p9.below bel14 (by omega)
  replace p11 := p11.below bel14 (by omega)
  clear o14 p12 p13
  go_wp2_with fail
  refine (implSelX _ _ rows S _ _ _ _ _ q8 p11 W8.out (by omega) (by omega) (by omega)).mono ?_
  generalize selX rows S = Y at hZ ls
  rintro e w15 ⟨v15, rfl, o15, bel15⟩
  have s15 := bel15.size
  have C15 := C14.trans (bel15.mono (by omega))
  have p15 := o15.rd
  replace p9 := p9.below bel15 (by omega)
  replace p14 := p14.below bel15 (by omega)
  clear o15 q8 p11
  have t1 : ((S.length : Int) == (rows.length : Int)) = true := by rw [HSl.out]; simp
  go_wp2_with fail
  refine (implXor _ _ X Y _ _ _ _ _ p14 p15 (by omega) (by omega) (by omega) (by omega)).mono ?_
  rintro e w16 ⟨v16, rfl, o16, bel16⟩
  have s16 := bel16.size
  have C16 := C15.trans (bel16.mono (by omega))
  replace p9 := p9.below bel16 (by omega)
  go_wp2_with fail
  refine (ofQuiet (implIsZeroBytes _ _ _ _ _ o16.rd)).mono ?_
  rw [hZ.out]
  rintro e w17 ⟨rfl, bel17⟩
  have s17 := bel17.size
  have C17 := C16.trans (bel17.mono (by omega))
  replace p9 := p9.below bel17 (by omega)
  clear o16
  go_wp2_with fail
  refine (T0 _ C17).mono ?_
  rintro e w' ⟨rfl, rfl⟩
  go_wp2_with fail
  refine (implRand x0 rows.length _ (by unfold In64; omega) (by unfold In64; omega)).mono ?_
  rw [← HP.out]
  rintro e w18 ⟨v18, rfl, o18, bel18⟩
  have s18 := bel18.size
  have C18 := C17.trans (bel18.mono (by omega))
  replace p9 := p9.below bel18 (by omega)
  go_wp2_with fail
  refine (sameInts_same _ _ P _ _ _ _ _ o18.rd p9).mono ?_
  rintro e w19 ⟨rfl, bel19⟩
  have C19 := C18.trans (bel19.mono (by omega))
  clear o18
  go_wp2_with fail
  go_ret
  exact ⟨rfl, C19⟩
end Go.Proofs.Ytabfekfbdacboaa
