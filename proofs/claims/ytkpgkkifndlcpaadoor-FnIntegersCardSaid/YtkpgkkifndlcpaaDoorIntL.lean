/- The law of integers: its walk. -/
import Derived.Test.YtkpgkkifndlcpaaDoorIntD
namespace Go.Proofs.YtkpgkkifndlcpaaDoor
open Go.RowKit
set_option linter.unusedVariables false

set_option maxRecDepth 100000 in
set_option maxHeartbeats 4000000 in
theorem law_FnIntegers (w : World) (v0 : Value) (xs : List Int) (r0 : Rd .u8 w 0 w.heap.size v0 xs) (f0 : Wf .u8 xs) (htab : Lib.TabIs Tryd.prog w "internal/strconv.uint64pow10" .u64 Lib.pow10Tab) (tp : TypeId) (p : Value) (hvar0 : ∀ w' : World, Below w.heap.size w w' → w'.var? Tryd.prog "strconv.ErrSyntax" = some #[.iface tp p]) :
    Calls Tryd.prog 4 #[v0] w fun e w' => e = .returned (.bool true) ∧ Below w.heap.size w w' := by
  have tb := Lib.tabBelow_of_tabIs htab
  have hvar := Lib.hid hvar0
  have rd := Lib.hid (fun (w' : World) (h : Below w.heap.size w w') => r0.below h (Nat.le_refl _))
  clear hvar0
  by_cases b0 : xs.length ≤ 1048576
  rotate_left
  · go_enter Tryd.func4, Tryd.ntmps4
    go_wp2_with fail
    refine (big_yes _ xs _ _ _ r0 b0).mono ?_
    rintro e w1 ⟨rfl, rfl⟩
    go_wp2_with fail
    go_ret
    exact ⟨rfl, Below.refl _ _⟩
  go_enter Tryd.func4, Tryd.ntmps4
  go_wp2_with fail
  refine (big_no _ xs _ _ _ r0 b0).mono ?_
  rintro e w1 ⟨rfl, rfl⟩
  go_wp2_with fail
  refine (drawParse_any _ xs _ _ _ r0 f0 (Nat.le_refl _) b0).mono ?_
  rintro e w1 ⟨s, hs, rfl, B1⟩
  have s1 := B1.size
  have F0 := Lib.hid f0
  clear f0
  go_wp2_with fail
  refine (implParse s _ (by omega) (tb _ B1) tp p (hvar.out _ B1)).mono ?_
  rintro e w2 ⟨n, ok, rfl, p2, b2⟩
  have B2 := B1.trans (b2.mono s1)
  have s2 := B2.size
  have P2 := Lib.hid p2
  clear p2 b2
  go_wp2_with fail
  refine (drawOne_any _ xs _ _ _ (rd.out _ B2) F0.out s2 b0).mono ?_
  rintro e w3 ⟨m, hm, rfl, b3⟩
  have B3 := B2.trans (b3.mono s2)
  have s3 := B3.size
  have HM := Lib.hid hm
  clear hm b3
  go_wp2_with fail
  refine (implFmt m _ HM.out (tb _ B3)).mono ?_
  rintro e w4 ⟨rfl, b4⟩
  have B4 := B3.trans (b4.mono s3)
  have s4 := B4.size
  clear b4
  go_wp2_with fail
  refine (implParse (strI m) _ (by have := strI_len HM.out; omega) (tb _ B4) tp p (hvar.out _ B4)).mono ?_
  rintro e w5 ⟨k, fine, rfl, p5, b5⟩
  have B5 := B4.trans (b5.mono s4)
  have s5 := B5.size
  have P5 := Lib.hid (IsP.own HM.out p5)
  clear p5 b5
  go_wp2_with fail
  refine (drawTwo_any _ xs _ _ _ (rd.out _ B5) F0.out s5 b0).mono ?_
  rintro e w6 ⟨a, b, ha, hb, rfl, b6⟩
  have B6 := B5.trans (b6.mono s5)
  have s6 := B6.size
  have HA := Lib.hid ha
  have HB := Lib.hid hb
  clear ha hb b6
  go_wp2_with fail
  refine (ceilDiv_any a b _ HA.out HB.out).mono ?_
  rintro e w7 ⟨rfl, e7⟩
  subst e7
  go_wp2_with fail
  refine (mod_any a b _ HA.out HB.out).mono ?_
  rintro e w8 ⟨rfl, e8⟩
  subst e8
  have TB := Lib.hid (tb _ B6)
  have WY := Lib.hid (ways a b HA.out HB.out)
  have hm' := HM.out
  have ha' := HA.out
  have hb' := HB.out
  unfold In64 at hm' ha' hb'
  rcases P5.out with ⟨rfl, hmr, rfl⟩ | ⟨rfl, hmr | hmr⟩
  all_goals rcases WY.out with ⟨hb1, hq, hr⟩ | ⟨hb1, hq, hr⟩ | ⟨T, R, hb1, hb2, hT, hr, t0, t1, r2, r1, hz, ⟨ha1, hq⟩ | ⟨ha1, hq⟩ | ⟨Q, ha1, ha2, hq, q0, q1⟩⟩
  all_goals rw [hq, hr]
  all_goals clear hq hr
  all_goals rcases P2.out with ⟨rfl, n0, n1, hs2⟩ | ⟨rfl, rfl, hs2⟩
  all_goals have HS := Lib.hid hs2
  all_goals clear hs2
  all_goals try (have nb : ¬ b = 0 := by omega)
  all_goals try (have q2 : Q * b - a < b := by omega)
  all_goals first
    | (go_wp2_with fail
       go_ret
       first
         | exact ⟨rfl, B6⟩
         | exact ⟨ret_bool (decide_eq_true (by omega)), B6⟩
         | exact ⟨ret_bool (by simp; omega), B6⟩)
    | (go_wp2_with fail
       refine (implFmt n _ (by unfold In64; omega) TB.out).mono ?_
       rintro e w9 ⟨rfl, b9⟩
       have B9 := B6.trans (b9.mono s6)
       rw [HS.out]
       go_wp2_with fail
       go_ret
       first
         | exact ⟨rfl, B9⟩
         | exact ⟨ret_bool (decide_eq_true (by omega)), B9⟩
         | exact ⟨ret_bool (by simp; omega), B9⟩)
end Go.Proofs.YtkpgkkifndlcpaaDoor
