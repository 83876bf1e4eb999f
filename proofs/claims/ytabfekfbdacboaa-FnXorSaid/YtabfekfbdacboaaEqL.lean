/- Slices of byte strings compared, of the program and of the reference. -/
import Derived.Test.YtabfekfbdacboaaXor2
namespace Go.Proofs.Ytabfekfbdacboaa
open Go.RowKit
set_option linter.unusedVariables false

theorem rows_ne {xss yss : List (List Int)} {k : Nat} (hx : k < xss.length) (hy : k < yss.length) (he : ¬ xss[k] = yss[k]) : decide (xss = yss) = false := by
  rw [decide_eq_false_iff_not]
  rintro rfl
  exact he rfl
theorem rows_succ {xss yss : List (List Int)} {k : Nat} (h : xss.take k = yss.take k) (hx : k < xss.length) (hy : k < yss.length) (he : xss[k] = yss[k]) : xss.take (k + 1) = yss.take (k + 1) := by
  rw [List.take_succ_eq_append_getElem hx, List.take_succ_eq_append_getElem hy, h, he]
theorem rows_all {xss yss : List (List Int)} {k : Nat} (h : xss.take k = yss.take k) (hl : xss.length = yss.length) (hk : ¬ k < xss.length) : xss = yss := by
  rwa [List.take_of_length_le (by omega), List.take_of_length_le (by omega)] at h

set_option maxRecDepth 100000 in
theorem implEqL (v1 v2 : Value) (xss yss : List (List Int)) (w : World) (l1 h1 l2 h2 : Nat) (r1 : Rds .u8 w l1 h1 v1 xss) (r2 : Rds .u8 w l2 h2 v2 yss) :
    Calls Try.prog 58 #[v1, v2] w fun e w' => e = .returned (.bool (decide (xss = yss))) ∧ ∃ n, w' = w.drewN n := by
  obtain ⟨A, c, rfl, hc1, hc2⟩ := r1.form
  obtain ⟨B, d, rfl, hd1, hd2⟩ := r2.form
  unfold maxLen at hc2 hd2
  by_cases hlen : xss.length = yss.length
  · have hne : ((xss.length : Int) != (yss.length : Int)) = false := by simp [hlen]
    have HL := Lib.hid hlen
    clear hlen
    go_enter Try.func58, Try.ntmps58
    go_wp2_with go_in
    go_loopw [7, 8, 9, 17] (fun _ _ _ i wr => ∃ k n : Nat, k ≤ xss.length ∧ i = .int .i64 k ∧ xss.take k = yss.take k ∧ wr = w.drewN n) (fun _ _ _ i _ => xss.length - (intOf i).toNat)
    case atStart => exact ⟨0, 0, Nat.zero_le _, rfl, by simp, rfl⟩
    case round =>
      obtain ⟨k, n, hk, rfl, htk, rfl⟩ := hrel
      have HT := Lib.hid htk
      clear htk
      by_cases hlt : k < xss.length
      · have hlt2 : k < yss.length := by have := HL.out; omega
        obtain ⟨b, off, c', u, hv, hb1, hb2, c1, ru⟩ := r1.at_ hlt
        simp at hv
        obtain ⟨rfl, rfl⟩ := hv
        obtain ⟨b', off', c'', u', hv', hb1', hb2', c1', ru'⟩ := r2.at_ hlt2
        simp at hv'
        obtain ⟨rfl, rfl⟩ := hv'
        by_cases he : xss[k] = yss[k]
        · have HS := Lib.hid (rows_succ HT.out hlt hlt2 he)
          have HD := Lib.hid (decide_eq_true he)
          clear he
          go_wp2_with (first | (go_at_call 88; refine (implEqualBytes _ _ xss[k] yss[k] _ _ _ _ _ (ru.drewN n) (ru'.drewN n)).mono ?_; rw [HD.out]; rintro e w1 ⟨rfl, m, rfl⟩))
          exact ⟨⟨k + 1, _, by omega, by go_num, HS.out, by first | rfl | exact World.drewN_drewN _ _ _ | simp only [World.drewN_drewN]⟩, by simp [intOf]; omega⟩
        · have HN := Lib.hid (rows_ne hlt hlt2 he)
          have HD := Lib.hid (decide_eq_false he)
          clear he
          go_wp2_with (first | (go_at_call 88; refine (implEqualBytes _ _ xss[k] yss[k] _ _ _ _ _ (ru.drewN n) (ru'.drewN n)).mono ?_; rw [HD.out]; rintro e w1 ⟨rfl, m, rfl⟩))
          go_ret
          exact ⟨ret_bool HN.out.symm, _, by first | rfl | exact World.drewN_drewN _ _ _ | simp only [World.drewN_drewN]⟩
      · have HA := Lib.hid (rows_all HT.out HL.out hlt)
        go_wp2_with fail
        go_ret
        exact ⟨ret_bool (by rw [decide_eq_true HA.out]), _, rfl⟩
  · have hne : ((xss.length : Int) != (yss.length : Int)) = true := by simp; omega
    have hf : decide (xss = yss) = false := by
      rw [decide_eq_false_iff_not]; rintro rfl; exact hlen rfl
    have HF := Lib.hid hf
    clear hf hlen
    go_enter Try.func58, Try.ntmps58
    go_wp2_with go_in
    go_ret
    exact ⟨ret_bool HF.out.symm, 0, rfl⟩
end Go.Proofs.Ytabfekfbdacboaa
