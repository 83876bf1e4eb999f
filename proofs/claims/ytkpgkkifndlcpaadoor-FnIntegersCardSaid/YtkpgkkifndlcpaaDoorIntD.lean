/- The draws of FnIntegers, CeilDiv and Mod. -/
import Derived.Test.YtkpgkkifndlcpaaDoorParse
import Derived.Test.YtkpgkkifndlcpaaDoorNums
import Derived.Test.YtkpgkkifndlcpaaDoorDraw3
import Derived.Test.YtkpgkkifndlcpaaDoorSame
namespace Go.Proofs.YtkpgkkifndlcpaaDoor
open Go.RowKit
set_option linter.unusedVariables false

theorem drawOne_any (v : Value) (xs : List Int) (w : World) (l h : Nat) (r : Rd .u8 w l h v xs) (f : Wf .u8 xs) (hh : h ≤ w.heap.size) (hl : xs.length ≤ 1048576) :
    Calls Tryd.prog 10 #[v] w fun e w' => ∃ x : Int, In64 x ∧ e = .returned (.int .i64 x) ∧ Below w.heap.size w w' := by
  go_enter Tryd.func10, Tryd.ntmps10
  go_wp2_with fail
  refine (l1New_any _ xs _ _ _ r f hh hl).mono ?_
  rintro e w1 ⟨rfl, c1, b1, s1⟩
  go_wp2_with fail
  refine (l1One_any _ _ _ c1).mono ?_
  rintro e w2 ⟨k, hk, rfl, c2, t2⟩
  have HK := Lib.hid hk
  clear hk
  go_wp2_with fail
  go_ret
  exact ⟨k, HK.out, rfl, t2.below b1 (by omega)⟩
theorem drawTwo_any (v : Value) (xs : List Int) (w : World) (l h : Nat) (r : Rd .u8 w l h v xs) (f : Wf .u8 xs) (hh : h ≤ w.heap.size) (hl : xs.length ≤ 1048576) :
    Calls Tryd.prog 12 #[v] w fun e w' => ∃ x y : Int, In64 x ∧ In64 y ∧ e = .returned (.tuple #[.int .i64 x, .int .i64 y]) ∧ Below w.heap.size w w' := by
  go_enter Tryd.func12, Tryd.ntmps12
  go_wp2_with fail
  refine (l1New_any _ xs _ _ _ r f hh hl).mono ?_
  rintro e w1 ⟨rfl, c1, b1, s1⟩
  go_wp2_with fail
  refine (l1One_any _ _ _ c1).mono ?_
  rintro e w2 ⟨k, hk, rfl, c2, t2⟩
  have HK := Lib.hid hk
  clear hk
  go_wp2_with fail
  refine (l1One_any _ _ _ c2).mono ?_
  rintro e w3 ⟨m, hm, rfl, c3, t3⟩
  have HM := Lib.hid hm
  clear hm
  go_wp2_with fail
  go_ret2
  exact ⟨k, m, HK.out, HM.out, rfl, (t2.trans t3).below b1 (by omega)⟩
theorem strI_len {n : Int} (hn : In64 n) : (strI n).size ≤ 20 := by
  unfold In64 at hn
  have hd := dec_len hn.1 hn.2
  by_cases h : n < 0
  · rw [strI_neg h]
    have e : (ByteArray.mk (45 :: Lib.decDigits n.natAbs).toArray).size = (45 :: Lib.decDigits n.natAbs).length := by simp [ByteArray.size]
    rw [e, List.length_cons]
    omega
  · rw [strI_pos h]
    have e : (ByteArray.mk (Lib.decDigits n.natAbs).toArray).size = (Lib.decDigits n.natAbs).length := by simp [ByteArray.size]
    rw [e]
    omega
set_option maxRecDepth 100000 in
theorem drawParse_any (v : Value) (xs : List Int) (w : World) (l h : Nat) (r : Rd .u8 w l h v xs) (f : Wf .u8 xs) (hh : h ≤ w.heap.size) (hl : xs.length ≤ 1048576) :
    Calls Tryd.prog 9 #[v] w fun e w' => ∃ s : ByteArray, s.size ≤ 20 ∧ e = .returned (.string s) ∧ Below w.heap.size w w' := by
  go_enter Tryd.func9, Tryd.ntmps9
  go_wp2_with fail
  refine (l1New_any _ xs _ _ _ r f hh hl).mono ?_
  rintro e w1 ⟨rfl, c1, b1, s1⟩
  go_wp2_with fail
  refine (l1Once_any 2 _ _ _ c1 (by omega)).mono ?_
  rintro e w2 ⟨b, rfl, c2, t2⟩
  have z2 := t2.size
  cases b
  · go_wp2_with fail
    refine (l1Num_any _ _ _ c2).mono ?_
    rintro e w3 ⟨k, hk, rfl, c3, t3⟩
    have B3 := (t2.trans t3).below b1 (by omega)
    have s3 := B3.size
    have HK : Hid (In64 k) := by unfold Hid In64; omega
    clear hk
    go_wp2_with fail
    refine (specFmt k _ HK.out).mono ?_
    rintro e w4 ⟨rfl, b4⟩
    have HS := Lib.hid (strI_len HK.out)
    generalize strI k = S at HS
    go_wp2_with fail
    go_ret
    exact ⟨S, HS.out, rfl, B3.trans (b4.mono s3)⟩
  · go_wp2_with fail
    refine (l1Str_any _ 11 _ _ _ (c2.alloc _) (RdT.lit (by omega) rfl (by omega) ?_) (by omega)).mono ?_
    · intro i hi
      rcases (show i = 0 ∨ i = 1 ∨ i = 2 ∨ i = 3 ∨ i = 4 ∨ i = 5 ∨ i = 6 ∨ i = 7 ∨ i = 8 ∨ i = 9 ∨ i = 10 by omega) with rfl | rfl | rfl | rfl | rfl | rfl | rfl | rfl | rfl | rfl | rfl
      all_goals exact ⟨_, by decide, rfl⟩
    · rintro e w4 ⟨s, hs, rfl, c4, t4⟩
      have HS := Lib.hid hs
      clear hs
      go_wp2_with fail
      go_ret
      exact ⟨s, HS.out, rfl, ((t2.alloc _).trans t4).below b1 (by omega)⟩

/-- What CeilDiv answers. -/
def cdL (a b : Int) : Int := if (0 ≤ a ∧ a ≤ 1000000000000) ∧ 1 ≤ b ∧ b ≤ 1000000000000 then (a + b - 1) / b else 0
/-- What Mod answers. -/
def mdL (a b : Int) : Int := if 1 ≤ b ∧ b ≤ 1000000000000 then a % b else 0
theorem ceilDiv_any (a b : Int) (w : World) (ha : In64 a) (hb : In64 b) : Calls Tryd.prog 13 #[.int .i64 a, .int .i64 b] w fun e w' => e = .returned (.int .i64 (cdL a b)) ∧ w' = w := by
  unfold In64 at ha hb
  by_cases h0 : 0 ≤ a ∧ a ≤ 1000000000000
  · by_cases h1 : 1 ≤ b ∧ b ≤ 1000000000000
    · have e1 : (a + b - 1).tdiv b = (a + b - 1) / b := Int.tdiv_eq_ediv_of_nonneg (by omega)
      have HC : Hid (cdL a b = (a + b - 1) / b) := if_pos ⟨h0, h1⟩
      have d0 : 0 ≤ (a + b - 1) / b := Int.ediv_nonneg (by omega) (by omega)
      have d1 : (a + b - 1) / b ≤ a + b - 1 := Int.ediv_le_self _ (by omega)
      have nb : ¬ b = 0 := by omega
      go_enter Tryd.func13, Tryd.ntmps13
      go_wp2_with fail
      refine (inRange_any _ _ _ _).mono ?_
      rintro e w1 ⟨rfl, e1⟩
      subst e1
      rw [inB_true h0]
      go_wp2_with fail
      refine (inRange_any _ _ _ _).mono ?_
      rintro e w2 ⟨rfl, e2⟩
      subst e2
      rw [inB_true h1]
      go_wp2_with fail
      go_ret
      exact ⟨by rw [HC.out]; rfl, rfl⟩
    · have HC : Hid (cdL a b = 0) := if_neg (fun h => h1 h.2)
      go_enter Tryd.func13, Tryd.ntmps13
      go_wp2_with fail
      refine (inRange_any _ _ _ _).mono ?_
      rintro e w1 ⟨rfl, e1⟩
      subst e1
      rw [inB_true h0]
      go_wp2_with fail
      refine (inRange_any _ _ _ _).mono ?_
      rintro e w2 ⟨rfl, e2⟩
      subst e2
      rw [inB_false h1]
      go_wp2_with fail
      go_ret
      exact ⟨by rw [HC.out]; rfl, rfl⟩
  · have HC : Hid (cdL a b = 0) := if_neg (fun h => h0 h.1)
    go_enter Tryd.func13, Tryd.ntmps13
    go_wp2_with fail
    refine (inRange_any _ _ _ _).mono ?_
    rintro e w1 ⟨rfl, e1⟩
    subst e1
    rw [inB_false h0]
    go_wp2_with fail
    go_ret
    exact ⟨by rw [HC.out]; rfl, rfl⟩
theorem mod_any (a b : Int) (w : World) (ha : In64 a) (hb : In64 b) : Calls Tryd.prog 14 #[.int .i64 a, .int .i64 b] w fun e w' => e = .returned (.int .i64 (mdL a b)) ∧ w' = w := by
  unfold In64 at ha hb
  by_cases h1 : 1 ≤ b ∧ b ≤ 1000000000000
  · have nb : ¬ b = 0 := by omega
    have k0 : -b < a.tmod b := by have := Int.lt_tmod_of_pos a (show 0 < b by omega); omega
    have k1 : a.tmod b < b := Int.tmod_lt_of_pos a (by omega)
    have e1 : (a.tmod b + b).tmod b = (a.tmod b + b) % b := Int.tmod_eq_emod_of_nonneg (by omega)
    have e2 : (a.tmod b + b) % b = a % b := by
      rw [Int.add_emod_right]
      have e3 : a.tmod b = a - b * a.tdiv b := by have := Int.mul_tdiv_add_tmod a b; omega
      rw [e3, Int.sub_mul_emod_self_left]
    have HC : Hid (mdL a b = (a.tmod b + b) % b) := by unfold Hid mdL; rw [if_pos h1, e2]
    clear e1 e2
    go_enter Tryd.func14, Tryd.ntmps14
    go_wp2_with fail
    refine (inRange_any _ _ _ _).mono ?_
    rintro e w1 ⟨rfl, e1⟩
    subst e1
    rw [inB_true h1]
    go_wp2_with fail
    go_ret
    exact ⟨by rw [HC.out]; rfl, rfl⟩
  · have HC : Hid (mdL a b = 0) := if_neg h1
    go_enter Tryd.func14, Tryd.ntmps14
    go_wp2_with fail
    refine (inRange_any _ _ _ _).mono ?_
    rintro e w1 ⟨rfl, e1⟩
    subst e1
    rw [inB_false h1]
    go_wp2_with fail
    go_ret
    exact ⟨by rw [HC.out]; rfl, rfl⟩
theorem IsP.own {m k : Int} {f : Bool} (hm : In64 m) (h : IsP (strI m) k f) : (f = true ∧ (0 ≤ m ∧ m ≤ 1000000000000) ∧ k = m) ∨ (f = false ∧ (m < 0 ∨ 1000000000000 < m)) := by
  rcases h with ⟨rfl, k0, k1, hk⟩ | ⟨rfl, rfl, hk⟩
  · by_cases hneg : m < 0
    · have h2 := str_dec k0 hk
      rw [strI_neg hneg] at h2
      simp [Lib.decFrom, Lib.digitVal] at h2
    · have e := strI_inj k0 (by omega) hk (rfl : strI m = strI m)
      exact Or.inl ⟨rfl, by omega, e⟩
  · refine Or.inr ⟨rfl, ?_⟩
    by_cases hr : 0 ≤ m ∧ m ≤ 1000000000000
    · exact absurd rfl (hk m hr.1 hr.2)
    · omega
/-- The ways of CeilDiv and Mod. -/
theorem ways (a b : Int) (ha : In64 a) (hb : In64 b) :
    (b < 1 ∧ cdL a b = 0 ∧ mdL a b = 0) ∨ (1000000000000 < b ∧ cdL a b = 0 ∧ mdL a b = 0) ∨
    (∃ T R : Int, 1 ≤ b ∧ b ≤ 1000000000000 ∧ a.tmod b = T ∧ mdL a b = R ∧ -b < T ∧ T < b ∧ 0 ≤ R ∧ R < b ∧ (T - R).tmod b = 0 ∧
      ((a < 0 ∧ cdL a b = 0) ∨ (1000000000000 < a ∧ cdL a b = 0) ∨ (∃ Q : Int, 0 ≤ a ∧ a ≤ 1000000000000 ∧ cdL a b = Q ∧ a ≤ Q * b ∧ Q * b ≤ a + b - 1))) := by
  by_cases h0 : b < 1
  · exact Or.inl ⟨h0, if_neg (by omega), if_neg (by omega)⟩
  by_cases h1 : 1000000000000 < b
  · exact Or.inr (Or.inl ⟨h1, if_neg (by omega), if_neg (by omega)⟩)
  refine Or.inr (Or.inr ⟨_, a % b, by omega, by omega, rfl, if_pos (by omega), ?_, Int.tmod_lt_of_pos a (by omega), Int.emod_nonneg _ (by omega), Int.emod_lt_of_pos a (by omega), ?_, ?_⟩)
  · have := Int.lt_tmod_of_pos a (show 0 < b by omega); omega
  · have e1 := Int.mul_tdiv_add_tmod a b
    have e2 := Int.mul_ediv_add_emod a b
    have e3 : a.tmod b - a % b = b * (a / b - a.tdiv b) := by rw [Int.mul_sub]; omega
    rw [e3]
    exact Int.mul_tmod_right b _
  · by_cases a0 : a < 0
    · exact Or.inl ⟨a0, if_neg (by omega)⟩
    by_cases a1 : 1000000000000 < a
    · exact Or.inr (Or.inl ⟨a1, if_neg (by omega)⟩)
    refine Or.inr (Or.inr ⟨(a + b - 1) / b, by omega, by omega, if_pos (by omega), ?_, ?_⟩)
    · have e2 := Int.mul_ediv_add_emod (a + b - 1) b
      have e3 := Int.emod_lt_of_pos (a + b - 1) (show 0 < b by omega)
      rw [Int.mul_comm] at e2
      omega
    · have e2 := Int.mul_ediv_add_emod (a + b - 1) b
      have e3 := Int.emod_nonneg (a + b - 1) (show b ≠ 0 by omega)
      rw [Int.mul_comm] at e2
      omega
end Go.Proofs.YtkpgkkifndlcpaaDoor
