/- Shares of numbers, of the program and of the reference. -/
import Derived.Test.YtabfekfbdacboaaHash
import Derived.Test.YtabfekfbdacboaaRange
namespace Go.Proofs.Ytabfekfbdacboaa
open Go.RowKit
set_option linter.unusedVariables false

/-- The sum, as Go's int wraps it. -/
def sumW (xs : List Int) : Int := xs.foldl (fun a x => wrap64 (a + x)) 0
theorem wrap64_in64 (n : Int) : In64 (wrap64 n) := by unfold In64 wrap64; omega
theorem sumW_take (xs : List Int) (k : Nat) (h : k < xs.length) : sumW (xs.take (k + 1)) = wrap64 (sumW (xs.take k) + xs[k]) := by
  rw [List.take_succ_eq_append_getElem h, sumW, List.foldl_append]
  rfl
theorem sumW_in (xs : List Int) : In64 (sumW xs) := by
  unfold sumW
  rcases List.eq_nil_or_concat xs with rfl | ⟨l', x, rfl⟩
  · simp [In64]
  · rw [List.concat_eq_append, List.foldl_append]
    exact wrap64_in64 _

theorem implJoinN (v : Value) (xs : List Int) (w : World) (l h : Nat) (r : Rd .i64 w l h v xs) :
    Calls Try.prog 36 #[v] w fun e w' => e = .returned (.int .i64 (sumW xs % 1019)) ∧ w = w' := by
  obtain ⟨A, c, rfl, hc1, hc2, hr⟩ := r
  unfold maxLen at hc2
  go_enter Try.func36, Try.ntmps36
  go_wp2_with fail
  go_loop [3, 5, 8] (fun c _ i => ∃ (k : Nat) (g : Int), k ≤ xs.length ∧ i = .int .i64 k ∧ c = .int .i64 g ∧ sumW (xs.take k) = g) (fun _ _ i => xs.length - (intOf i).toNat)
  case atStart => exact ⟨0, 0, Nat.zero_le _, rfl, rfl, rfl⟩
  case round =>
    obtain ⟨k, g, hk, rfl, rfl, hg⟩ := hrel
    have HG := Lib.hid hg
    clear hg
    by_cases hlt : k < xs.length
    · obtain ⟨b, off, rfl, _, _, hcell⟩ := hr (by omega)
      have c1 := hcell k xs[k] (by simp [hlt])
      have HS := Lib.hid (sumW_take xs k hlt)
      clear hcell hr
      go_wp2_with fail
      go_round
      case rel => exact ⟨k + 1, _, by omega, by go_num, rfl, by rw [HS.out, HG.out]⟩
      case measure => simp [intOf]; omega
    · have HI : In64 g := by rw [← HG.out]; exact sumW_in _
      have HM := Lib.hid (modI_in g 1019 (by omega) (by omega))
      clear hr
      go_wp2_with fail
      refine (implMod g 1019 HI _).mono ?_
      rw [HM.out]
      rintro e w' ⟨rfl, rfl⟩
      go_wp2_with fail
      go_ret
      exact ⟨ret_int (by rw [← HG.out, List.take_of_length_le (by omega)]), rfl⟩

/-- The sum of some numbers modulo 1019. -/
def sumM (xs : List Int) : Int := (xs.map (· % 1019)).sum
/-- Each number modulo 1019. -/
def mods (xs : List Int) : List Int := xs.map (· % 1019)
theorem mods_length (xs : List Int) : (mods xs).length = xs.length := List.length_map _
/-- The shares of a number: each seed modulo 1019, and what is left. -/
def shareL (n : Int) (xs : List Int) : List Int := mods xs ++ [(n - sumM xs) % 1019]
/-- What ShareNumber gives. -/
def shares (n : Int) (xs : List Int) : List Int := if 1 ≤ xs.length ∧ xs.length ≤ 3 then shareL n xs else []

theorem sumM_take (xs : List Int) (k : Nat) (h : k < xs.length) : sumM (xs.take (k + 1)) = sumM (xs.take k) + xs[k] % 1019 := by
  rw [List.take_succ_eq_append_getElem h, sumM, List.map_append, List.sum_append]
  simp [sumM]
theorem sumM_bd (xs : List Int) : 0 ≤ sumM xs ∧ sumM xs ≤ 1018 * xs.length := by
  induction xs with
  | nil => simp [sumM]
  | cons x xs ih => simp [sumM] at *; omega
theorem mods_take (xs : List Int) (k : Nat) (h : k < xs.length) : mods (xs.take (k + 1)) = mods (xs.take k) ++ [xs[k] % 1019] := by
  rw [List.take_succ_eq_append_getElem h, mods, List.map_append]; rfl
theorem shares_yes (n : Int) (xs : List Int) (h1 : 1 ≤ xs.length) (h2 : xs.length ≤ 3) : shares n xs = shareL n xs := by rw [shares, if_pos ⟨h1, h2⟩]
theorem shares_no (n : Int) (xs : List Int) (h : ¬ (1 ≤ xs.length ∧ xs.length ≤ 3)) : shares n xs = [] := by rw [shares, if_neg h]
theorem shares_le (n : Int) (xs : List Int) : (shares n xs).length ≤ 4 := by
  unfold shares
  split
  · rw [shareL, List.length_append, mods_length]; simp; omega
  · simp
theorem in64_small {n : Int} (h : -1000000 ≤ n ∧ n ≤ 1000000) : In64 n := by unfold In64; omega

set_option maxRecDepth 100000 in
theorem implShare (n : Int) (v : Value) (xs : List Int) (w : World) (l h : Nat) (r : Rd .i64 w l h v xs) (f : Wf .i64 xs) (hn : In64 n) (hh : h ≤ w.heap.size) (hl : xs.length ≤ 1048576) :
    Calls Try.prog 35 #[.int .i64 n, v] w fun e w' => ∃ v', e = .returned v' ∧ Own .i64 3 w' w.heap.size v' (shares n xs) ∧ Below w.heap.size w w' := by
  obtain ⟨i0, hi, hz0, hz1, hz2⟩ := info_parts info_int
  obtain ⟨A, c, rfl, hc1, hc2⟩ := r.form
  unfold maxLen at hc2
  by_cases hin : 1 ≤ xs.length ∧ xs.length ≤ 3
  rotate_left
  · have HS := Lib.hid (shares_no n xs hin)
    have HN := Lib.hid (show ¬ (2 ≤ (xs.length : Int) + 1 ∧ (xs.length : Int) + 1 ≤ 4) by omega)
    clear hin
    go_enter Try.func35, Try.ntmps35
    go_wp2_with (go_at_call 79; refine (isS_no _ _ HN.out).mono ?_; rintro e w' ⟨rfl, rfl⟩)
    go_ret
    exact ⟨_, rfl, by rw [HS.out]; exact Own.of_empty _ _ _ _ _, Below.refl _ w⟩
  · obtain ⟨hp, hq⟩ := hin
    have HS := Lib.hid (shares_yes n xs hp hq)
    have HM0 := Lib.hid (modI_in n 1019 (by omega) (by omega))
    go_enter Try.func35, Try.ntmps35
    go_wp2_with (first | (go_at_call 80; refine (implMod n 1019 hn _).mono ?_; rw [HM0.out]; rintro e w' ⟨rfl, rfl⟩) | (go_at_call 79; refine (isS_yes _ _ (by omega) (by omega)).mono ?_; rintro e w' ⟨rfl, rfl⟩))
    go_loopw [5, 6, 8, 19] (fun o s _ i wr => ∃ k : Nat, k ≤ xs.length ∧ i = .int .i64 k ∧ s = .int .i64 (n % 1019 - sumM (xs.take k)) ∧ Own .i64 3 wr w.heap.size o (mods (xs.take k)) ∧ Below w.heap.size w wr) (fun _ _ _ i _ => xs.length - (intOf i).toNat)
    case atStart => exact ⟨0, Nat.zero_le _, rfl, by simp [sumM], Own.of_empty _ _ _ _ _, (Below.refl _ w).alloc (Nat.le_refl _) _⟩
    case round =>
      obtain ⟨k, hk, rfl, rfl, own, bel⟩ := hrel
      have sz := bel.size
      have sb := sumM_bd (xs.take k)
      have sl : (xs.take k).length ≤ 3 := by rw [List.length_take]; omega
      obtain ⟨sb1, sb2⟩ := sb
      have sb3 : sumM (xs.take k) ≤ 3054 := by omega
      generalize hq' : n % 1019 - sumM (xs.take k) = q
      have q0 : -3054 ≤ q := by omega
      have q1 : q ≤ 1018 := by omega
      have HQ := Lib.hid hq'
      clear hq' sb2 sl
      by_cases hlt : k < xs.length
      · have r' := r.below bel hh
        obtain ⟨A', c', e1, _, _, hr'⟩ := r'
        obtain ⟨b, off, hA, _, _, hcell⟩ := hr' (by omega)
        simp at e1
        obtain ⟨rfl, rfl⟩ := e1
        subst hA
        have c1 := hcell k xs[k] (by simp [hlt])
        have HT := Lib.hid (sumM_take xs k hlt)
        have HP := Lib.hid (mods_take xs k hlt)
        have hv := Lib.hid (wf_at f hlt)
        have HM := Lib.hid (modI_in xs[k] 1019 (by omega) (by omega))
        generalize hm : xs[k] % 1019 = m at HT HP HM
        have m0 : 0 ≤ m := by omega
        have m1 : m ≤ 1018 := by omega
        have HE := Lib.hid hm
        clear hcell hr' r hm
        go_wp2_with fail
        refine (implMod xs[k] 1019 hv.out _).mono ?_
        rw [HM.out]
        rintro e w' ⟨rfl, rfl⟩
        have hol : (mods (xs.take k)).length ≤ 3 := by rw [mods_length, List.length_take]; omega
        go_wp2_with (at_builtin; refine wpList_append_Own _ rfl (.tmp 23) (.tmp 26) 24 rfl w.heap.size 3 i0 (.int .i64 0) .i64 8 Try.underlying24 hi hz0 hz1 hz2 rfl _ _ rfl (own.alloc _) _ _ _ [m] rfl (Own.lit1 .i64 3 _ 0 m (Nat.zero_le _)).rd ?_ ?_ ?_ ?_)
        · simp only [maxLen, List.length_singleton]; omega
        · simp only [List.length_singleton]; omega
        · simp; omega
        · intro v2 w2 hO2 hW2
          have b2 := Lib.hid (hW2.below (bel.alloc sz _) (Nat.le_refl _) (by simp; omega))
          have O2 := Lib.hid hO2
          clear hO2 hW2 own bel
          go_wp2_with fail
          refine (implMod xs[k] 1019 hv.out _).mono ?_
          rw [HM.out]
          rintro e w' ⟨rfl, rfl⟩
          go_wp2_with fail
          go_roundw
          case rel =>
            refine ⟨k + 1, by omega, by go_num, ?_, by rw [HP.out]; exact O2.out, b2.out⟩
            congr 1
            have h1 := HQ.out
            rw [HT.out]
            omega
          case measure => simp [intOf]; omega
      · obtain rfl : k = xs.length := by omega
        have hol : (mods (xs.take xs.length)).length ≤ 3 := by rw [mods_length, List.length_take]; omega
        have hn2 : In64 q := in64_small (by omega)
        have HN := Lib.hid (modI_in q 1019 (by omega) (by omega))
        generalize hm : q % 1019 = m at HN
        have m0 : 0 ≤ m := by omega
        have m1 : m ≤ 1018 := by omega
        have HE := Lib.hid hm
        clear r hm
        go_wp2_with fail
        refine (implMod q 1019 hn2 _).mono ?_
        rw [HN.out]
        rintro e w' ⟨rfl, rfl⟩
        go_wp2_with (at_builtin; refine wpList_append_Own _ rfl (.tmp 33) (.tmp 36) 24 rfl w.heap.size 3 i0 (.int .i64 0) .i64 8 Try.underlying24 hi hz0 hz1 hz2 rfl _ _ rfl (own.alloc _) _ _ _ [m] rfl (Own.lit1 .i64 3 _ 0 m (Nat.zero_le _)).rd ?_ ?_ ?_ ?_)
        · simp only [maxLen, List.length_singleton]; omega
        · simp only [List.length_singleton]; omega
        · simp; omega
        · intro v2 w2 hO2 hW2
          have b2 := Lib.hid (hW2.below (bel.alloc sz _) (Nat.le_refl _) (by simp; omega))
          have O2 := Lib.hid hO2
          clear hO2 hW2 own bel
          go_wp2_with fail
          go_ret
          refine ⟨_, rfl, ?_, b2.out⟩
          have h2 := O2.out
          rw [HS.out, shareL]
          have h1 := HQ.out
          have h3 := HE.out
          rw [List.take_length] at h1
          have e : (n - sumM xs) % 1019 = m := by omega
          rw [e]
          simpa using h2
end Go.Proofs.Ytabfekfbdacboaa
