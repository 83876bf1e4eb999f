/- The laws' own small words: too long an input, a byte of it, two lists the same. -/
import Derived.Test.YtabfekfbdacboaaBase
namespace Go.Proofs.Ytabfekfbdacboaa
open Go.RowKit
set_option linter.unusedVariables false

theorem sameBytes_any (v1 v2 : Value) (xs ys : List Int) (w : World) (l1 h1 l2 h2 : Nat) (r1 : Rd .u8 w l1 h1 v1 xs) (r2 : Rd .u8 w l2 h2 v2 ys) :
    Calls Try.prog 17 #[v1, v2] w fun e w' => e = .returned (.bool (decide (xs = ys))) ∧ ∃ n, w' = w.drewN n := by
  obtain ⟨A, c, rfl, hc1, hc2, hr⟩ := r1
  obtain ⟨B, d, rfl, hd1, hd2, hs⟩ := r2
  unfold maxLen at hc2 hd2
  by_cases hlen : xs.length = ys.length
  · have hne : ((xs.length : Int) != (ys.length : Int)) = false := by simp [hlen]
    have HL := Lib.hid hlen
    clear hlen
    go_enter Try.func17, Try.ntmps17
    go_wp2
    go_loopw [5] (fun i wr => ∃ k n : Nat, k ≤ xs.length ∧ i = .int .i64 k ∧ xs.take k = ys.take k ∧ wr = w.drewN n) (fun i _ => xs.length - (intOf i).toNat)
    case atStart => exact ⟨0, 0, Nat.zero_le _, rfl, by simp, rfl⟩
    case round =>
      obtain ⟨k, n, hk, rfl, htk, rfl⟩ := hrel
      have HT := Lib.hid htk
      clear htk
      by_cases hlt : k < xs.length
      · obtain ⟨b, off, rfl, _, _, hcell⟩ := hr (by omega)
        obtain ⟨b2, off2, rfl, _, _, hcell2⟩ := hs (by have := HL.out; omega)
        have hlt2 : k < ys.length := by have := HL.out; omega
        have c1 := hcell k xs[k] (by simp [hlt])
        have c2 := hcell2 k ys[k] (by simp [hlt2])
        clear hcell hcell2 hr hs
        go_wp2
        go_quiet (fail)
        go_wp2
        · have he : (xs[k] != ys[k]) = true := by assumption
          go_ret
          exact ⟨ret_bool (ne_of_at hlt hlt2 he).symm, _, World.drewN_drewN _ _ _⟩
        · have he : (xs[k] != ys[k]) = false := by assumption
          exact ⟨⟨k + 1, _, by omega, by go_num, take_succ_eq HT.out hlt hlt2 he, rfl⟩, by simp [intOf]; omega⟩
      · clear hr hs
        go_wp2
        go_ret
        exact ⟨ret_bool (by rw [decide_eq_true (take_all_eq HT.out HL.out hlt)]), _, rfl⟩
  · have hne : ((xs.length : Int) != (ys.length : Int)) = true := by simp; omega
    have hf : decide (xs = ys) = false := by
      rw [decide_eq_false_iff_not]; rintro rfl; exact hlen rfl
    have HF := Lib.hid hf
    clear hf hlen hr hs
    go_enter Try.func17, Try.ntmps17
    go_wp2
    go_ret
    exact ⟨ret_bool HF.out.symm, 0, rfl⟩
theorem sameBytes_same (v1 v2 : Value) (xs : List Int) (w : World) (l1 h1 l2 h2 : Nat) (r1 : Rd .u8 w l1 h1 v1 xs) (r2 : Rd .u8 w l2 h2 v2 xs) :
    Calls Try.prog 17 #[v1, v2] w fun e w' => e = .returned (.bool true) ∧ Below w.heap.size w w' := by
  have h := ofQuiet (sameBytes_any v1 v2 xs xs w l1 h1 l2 h2 r1 r2)
  rwa [decide_eq_true (rfl : xs = xs)] at h
theorem sameInts_any (v1 v2 : Value) (xs ys : List Int) (w : World) (l1 h1 l2 h2 : Nat) (r1 : Rd .i64 w l1 h1 v1 xs) (r2 : Rd .i64 w l2 h2 v2 ys) :
    Calls Try.prog 16 #[v1, v2] w fun e w' => e = .returned (.bool (decide (xs = ys))) ∧ ∃ n, w' = w.drewN n := by
  obtain ⟨A, c, rfl, hc1, hc2, hr⟩ := r1
  obtain ⟨B, d, rfl, hd1, hd2, hs⟩ := r2
  unfold maxLen at hc2 hd2
  by_cases hlen : xs.length = ys.length
  · have hne : ((xs.length : Int) != (ys.length : Int)) = false := by simp [hlen]
    have HL := Lib.hid hlen
    clear hlen
    go_enter Try.func16, Try.ntmps16
    go_wp2
    go_loopw [5] (fun i wr => ∃ k n : Nat, k ≤ xs.length ∧ i = .int .i64 k ∧ xs.take k = ys.take k ∧ wr = w.drewN n) (fun i _ => xs.length - (intOf i).toNat)
    case atStart => exact ⟨0, 0, Nat.zero_le _, rfl, by simp, rfl⟩
    case round =>
      obtain ⟨k, n, hk, rfl, htk, rfl⟩ := hrel
      have HT := Lib.hid htk
      clear htk
      by_cases hlt : k < xs.length
      · obtain ⟨b, off, rfl, _, _, hcell⟩ := hr (by omega)
        obtain ⟨b2, off2, rfl, _, _, hcell2⟩ := hs (by have := HL.out; omega)
        have hlt2 : k < ys.length := by have := HL.out; omega
        have c1 := hcell k xs[k] (by simp [hlt])
        have c2 := hcell2 k ys[k] (by simp [hlt2])
        clear hcell hcell2 hr hs
        go_wp2
        go_quiet (fail)
        go_wp2
        · have he : (xs[k] != ys[k]) = true := by assumption
          go_ret
          exact ⟨ret_bool (ne_of_at hlt hlt2 he).symm, _, World.drewN_drewN _ _ _⟩
        · have he : (xs[k] != ys[k]) = false := by assumption
          exact ⟨⟨k + 1, _, by omega, by go_num, take_succ_eq HT.out hlt hlt2 he, rfl⟩, by simp [intOf]; omega⟩
      · clear hr hs
        go_wp2
        go_ret
        exact ⟨ret_bool (by rw [decide_eq_true (take_all_eq HT.out HL.out hlt)]), _, rfl⟩
  · have hne : ((xs.length : Int) != (ys.length : Int)) = true := by simp; omega
    have hf : decide (xs = ys) = false := by
      rw [decide_eq_false_iff_not]; rintro rfl; exact hlen rfl
    have HF := Lib.hid hf
    clear hf hlen hr hs
    go_enter Try.func16, Try.ntmps16
    go_wp2
    go_ret
    exact ⟨ret_bool HF.out.symm, 0, rfl⟩
theorem sameInts_same (v1 v2 : Value) (xs : List Int) (w : World) (l1 h1 l2 h2 : Nat) (r1 : Rd .i64 w l1 h1 v1 xs) (r2 : Rd .i64 w l2 h2 v2 xs) :
    Calls Try.prog 16 #[v1, v2] w fun e w' => e = .returned (.bool true) ∧ Below w.heap.size w w' := by
  have h := ofQuiet (sameInts_any v1 v2 xs xs w l1 h1 l2 h2 r1 r2)
  rwa [decide_eq_true (rfl : xs = xs)] at h

theorem big_no (v : Value) (xs : List Int) (w : World) (l h : Nat) (r : Rd .u8 w l h v xs) (hl : xs.length ≤ 1048576) :
    Calls Try.prog 10 #[v] w fun e w' => e = .returned (.bool false) ∧ w = w' := by
  obtain ⟨A, c, rfl, hc1, hc2⟩ := r.form
  go_enter Try.func10, Try.ntmps10
  go_wp2
  go_ret
  exact ⟨ret_bool (by simp; omega), rfl⟩
theorem big_yes (v : Value) (xs : List Int) (w : World) (l h : Nat) (r : Rd .u8 w l h v xs) (hl : ¬ xs.length ≤ 1048576) :
    Calls Try.prog 10 #[v] w fun e w' => e = .returned (.bool true) ∧ w = w' := by
  obtain ⟨A, c, rfl, hc1, hc2⟩ := r.form
  go_enter Try.func10, Try.ntmps10
  go_wp2
  go_ret
  exact ⟨ret_bool (by simp; omega), rfl⟩

/-- A byte of the input, or what stands for it. -/
def atI (xs : List Int) (i : Nat) : Int := match xs[i]? with
  | some x => x
  | none => (i * 31 + xs.length * 7) % 256
theorem atI_bd {xs : List Int} (f : Wf .u8 xs) (i : Nat) : 0 ≤ atI xs i ∧ atI xs i ≤ 255 := by
  unfold atI
  split
  · rename_i x hx
    exact bd8 (f x (List.mem_of_getElem? hx))
  · omega
theorem at_any (v : Value) (xs : List Int) (i : Nat) (w : World) (l h : Nat) (r : Rd .u8 w l h v xs) (f : Wf .u8 xs) (hl : xs.length ≤ 1048576) (hi : i ≤ 1000) :
    Calls Try.prog 21 #[v, .int .i64 i] w fun e w' => e = .returned (.int .i64 (atI xs i)) ∧ w = w' := by
  obtain ⟨A, c, rfl, hc1, hc2, hr⟩ := r
  by_cases hlt : i < xs.length
  · obtain ⟨b, off, rfl, _, _, hcell⟩ := hr (by omega)
    have c1 := hcell i xs[i] (by simp [hlt])
    have HA : Hid (atI xs i = xs[i]) := by unfold Hid atI; rw [List.getElem?_eq_getElem hlt]
    obtain ⟨x0, x1⟩ := bd8 (f _ (List.getElem_mem hlt))
    clear hcell hr
    go_enter Try.func21, Try.ntmps21
    go_wp2
    go_ret
    exact ⟨ret_int HA.out.symm, rfl⟩
  · have HA : Hid (atI xs i = (i * 31 + xs.length * 7) % 256) := by unfold Hid atI; rw [List.getElem?_eq_none (by omega)]
    clear hr
    have e1 : ((i : Int) * 31 + (xs.length : Int) * 7).tmod 256 = ((i : Int) * 31 + (xs.length : Int) * 7) % 256 := Int.tmod_eq_emod_of_nonneg (by omega)
    go_enter Try.func21, Try.ntmps21
    go_wp2
    go_ret
    exact ⟨ret_int HA.out.symm, rfl⟩
end Go.Proofs.Ytabfekfbdacboaa
