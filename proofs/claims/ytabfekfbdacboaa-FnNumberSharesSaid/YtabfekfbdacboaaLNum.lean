/- The law of the shares of numbers. -/
import Derived.Test.YtabfekfbdacboaaShare
import Derived.Test.YtabfekfbdacboaaDraw
import Derived.Test.YtabfekfbdacboaaSame
namespace Go.Proofs.Ytabfekfbdacboaa
open Go.RowKit
set_option linter.unusedVariables false

theorem foldW (xs : List Int) (h : ∀ x ∈ xs, 0 ≤ x ∧ x ≤ 1018) (acc : Int) (h0 : 0 ≤ acc) (h1 : acc + 1018 * xs.length ≤ 1000000000) : xs.foldl (fun a x => wrap64 (a + x)) acc = acc + xs.sum := by
  induction xs generalizing acc with
  | nil => simp
  | cons x xs ih =>
    have hx := h x (by simp)
    rw [List.length_cons] at h1
    have e : wrap64 (acc + x) = acc + x := by unfold wrap64; omega
    rw [List.foldl_cons, e, ih (fun y hy => h y (by simp [hy])) (acc + x) (by omega) (by omega), List.sum_cons]
    omega
theorem shareL_bd (n : Int) (xs : List Int) : ∀ x ∈ shareL n xs, 0 ≤ x ∧ x ≤ 1018 := by
  intro x hx
  unfold shareL at hx
  rcases List.mem_append.1 hx with hx | hx
  · obtain ⟨y, _, rfl⟩ := List.mem_map.1 hx; omega
  · simp at hx; subst hx; omega
theorem shareL_length (n : Int) (xs : List Int) : (shareL n xs).length = xs.length + 1 := by rw [shareL, List.length_append, mods_length]; rfl
theorem shareL_sum (n : Int) (xs : List Int) (h : xs.length ≤ 1000) : sumW (shareL n xs) % 1019 = n % 1019 := by
  have e := foldW (shareL n xs) (shareL_bd n xs) 0 (by omega) (by rw [shareL_length]; omega)
  unfold sumW
  rw [e, shareL, List.sum_append, show (mods xs).sum = sumM xs from rfl]
  simp only [List.sum_cons, List.sum_nil]
  omega
theorem shareL_at {n : Int} {xs : List Int} {k : Nat} (h : k < (shareL n xs).length) : 0 ≤ (shareL n xs)[k] ∧ (shareL n xs)[k] ≤ 1018 := shareL_bd n xs _ (List.getElem_mem h)

theorem l6Seed_any (w : World) (g hi : Nat) (c : Cur w g hi) :
    Calls Try.prog 97 #[.pointer (some ⟨g, 0, none⟩)] w fun e w' => ∃ x : Int, (-1 ≤ x ∧ x ≤ 2147483647) ∧ e = .returned (.int .i64 x) ∧ Cur w' g hi ∧ Touch w w' g (g + 1) := by
  go_enter Try.func97, Try.ntmps97
  go_wp2_with fail
  refine (l1Once_any 8 _ g hi c (by omega)).mono ?_
  rintro e w1 ⟨b1, rfl, c1, t1⟩
  have s1 := c1.lt
  cases b1
  · go_wp2_with fail
    refine (l1Below_any 1000000 _ g hi c1 (by omega)).mono ?_
    rintro e w2 ⟨y, ⟨y0, y1⟩, rfl, c2, t2⟩
    go_wp2_with fail
    go_ret
    exact ⟨_, ⟨by omega, by omega⟩, rfl, c2, t1.trans t2⟩
  · go_wp2_with fail
    refine (l1Int_any _ [-1, 0, 2147483646, 2147483647] _ g hi _ (c1.alloc _) ((Rd.lit (e := 3) _ 4 rfl rfl (by decide)).more (by omega) (Nat.le_refl _)) (by simp) (by decide)).mono ?_
    rintro e w2 ⟨y, hy, rfl, c2, t2⟩
    have hy' : -1 ≤ y ∧ y ≤ 2147483647 := by simp at hy; omega
    clear hy
    go_wp2_with fail
    go_ret
    exact ⟨_, hy', rfl, c2, (t1.alloc _).trans t2⟩
set_option maxRecDepth 100000 in
theorem l7Seeds_any (w : World) (g hi : Nat) (c : Cur w g hi) :
    Calls Try.prog 78 #[.pointer (some ⟨g, 0, none⟩)] w fun e w' => ∃ v' xs, e = .returned v' ∧ Own .i64 3 w' w.heap.size v' xs ∧ xs.length ≤ 4 ∧ Wf .i64 xs ∧ Cur w' g hi ∧ Touch w w' g (g + 1) := by
  obtain ⟨i0, hi0, hz0, hz1, hz2⟩ := info_parts info_int
  have hg := c.lt
  have RL : Rd .i64 ((w.alloc (.cells #[] 3)).alloc (.cells #[.int .i64 1, .int .i64 2, .int .i64 2, .int .i64 3, .int .i64 0, .int .i64 4] 3)) (g + 1) (w.heap.size + 2) (.slice (some ⟨w.heap.size + 1, 0, none⟩) 6 6) [1, 2, 2, 3, 0, 4] := by
    have h := Rd.lit (k := .i64) (e := 3) (w := w.alloc (.cells #[] 3)) [1, 2, 2, 3, 0, 4] 6 rfl rfl (by decide)
    simp only [World.size_alloc] at h
    exact h.more (by omega) (Nat.le_refl _)
  go_enter Try.func78, Try.ntmps78
  go_wp2_with fail
  refine (l1Int_any _ [1, 2, 2, 3, 0, 4] _ g hi _ ((c.alloc (.cells #[] 3)).alloc _) RL (by simp) (by decide)).mono ?_
  rintro e w1 ⟨y, hy, rfl, c1, t1⟩
  have hy' : 0 ≤ y ∧ y ≤ 4 := by simp at hy; omega
  clear hy
  obtain ⟨n, rfl⟩ := Int.eq_ofNat_of_zero_le hy'.1
  have s1 := t1.size
  simp only [World.size_alloc] at s1
  have T1 := (((Touch.refl w g (g + 1)).alloc (.cells #[] 3)).alloc (.cells #[.int .i64 1, .int .i64 2, .int .i64 2, .int .i64 3, .int .i64 0, .int .i64 4] 3)).trans t1
  go_wp2_with fail
  go_loopw [3, 4] (fun o i wr => ∃ (k : Nat) (xs : List Int), k ≤ 4 ∧ i = .int .i64 k ∧ Own .i64 3 wr w.heap.size o xs ∧ xs.length + k ≤ 4 ∧ Wf .i64 xs ∧ Cur wr g hi ∧ Touch w wr g (g + 1)) (fun _ i _ => (intOf i).toNat)
  case atStart => exact ⟨n, [], by omega, rfl, Own.of_empty _ _ _ _ _, by simp; omega, wf_nil _, c1, T1⟩
  case round =>
    obtain ⟨k, xs, hk, rfl, own, hxl, wf, cr, tr⟩ := hrel
    have hsz := tr.size
    have WF := Lib.hid wf
    have OWN := Lib.hid own
    have HXL := Lib.hid hxl
    clear wf own hxl
    by_cases hlt : 0 < k
    · go_wp2_with fail
      refine (l6Seed_any _ g hi cr).mono ?_
      rintro e w2 ⟨x, ⟨x0, x1⟩, rfl, c2, t2⟩
      have s2 := t2.size
      have own2 := Lib.hid (OWN.out.touch t2 (by omega))
      have hA : xs.length + [x].length ≤ maxLen := by have := HXL.out; simp [maxLen]; omega
      have hB : (xs.length + [x].length) * 8 ≤ 140737488355328 := by have := HXL.out; simp; omega
      go_wp2_with (at_builtin; refine wpList_append_Own _ rfl (.tmp 13) (.tmp 16) 24 rfl w.heap.size 3 i0 (.int .i64 0) .i64 8 Try.underlying24 hi0 hz0 hz1 hz2 rfl _ _ rfl (own2.out.alloc _) _ _ _ [x] rfl (Own.lit1 .i64 3 _ 0 x (Nat.zero_le _)).rd hA hB ?_ ?_)
      · first | omega | (simp; omega)
      · intro v3 w3 hO3 hW3
        have t3 : Touch w w3 g (g + 1) := ((tr.trans t2).alloc _).wrote hW3 (Nat.le_refl _)
        have c3 : Cur w3 g hi := (c2.alloc _).wrote hW3 hg
        have wf3 : Hid (Wf .i64 (xs ++ [x])) := fun y hy => by
          rcases List.mem_append.1 hy with hy | hy
          · exact WF.out y hy
          · simp at hy; subst hy; exact WalkArith.wf_i64 (by omega)
        go_wp2_with fail
        exact ⟨⟨k - 1, xs ++ [x], by omega, by go_num, hO3, by have := HXL.out; simp; omega, wf3.out, c3, t3⟩, by simp [intOf]; omega⟩
    · go_wp2_with fail
      go_ret
      exact ⟨_, xs, rfl, OWN.out, by have := HXL.out; omega, WF.out, cr, tr⟩
set_option maxRecDepth 100000 in
theorem drawShareN_any (v : Value) (xs : List Int) (w : World) (l h : Nat) (r : Rd .u8 w l h v xs) (f : Wf .u8 xs) (hh : h ≤ w.heap.size) (hl : xs.length ≤ 1048576) :
    Calls Try.prog 34 #[v] w fun e w' => ∃ n v1 ys, (-1 ≤ n ∧ n ≤ 5000) ∧ e = .returned (.tuple #[.int .i64 n, v1]) ∧ Own .i64 3 w' w.heap.size v1 ys ∧ ys.length ≤ 4 ∧ Wf .i64 ys ∧ Below w.heap.size w w' := by
  go_enter Try.func34, Try.ntmps34
  go_wp2_with fail
  refine (l1New_any _ xs _ _ _ r f hh hl).mono ?_
  rintro e w1 ⟨rfl, c1, b1, s1⟩
  have s1' : w.heap.size + 1 ≤ w1.heap.size := by omega
  clear s1
  go_wp2_with fail
  refine (l1Int_any _ [-1, 0, 5, 1018, 1019, 5000] _ _ _ _ (c1.alloc _) ((Rd.lit (e := 3) _ 6 rfl rfl (by decide)).more (by omega) (Nat.le_refl _)) (by simp) (by decide)).mono ?_
  rintro e w2 ⟨n, hn, rfl, c2, t2⟩
  have hn' : -1 ≤ n ∧ n ≤ 5000 := by simp at hn; omega
  clear hn
  obtain ⟨n0, n1⟩ := hn'
  have z2 := t2.size
  simp only [World.size_alloc] at z2
  have T2 := Lib.hid (((Touch.refl w1 w.heap.size (w.heap.size + 1)).alloc (.cells #[.int .i64 (-1), .int .i64 0, .int .i64 5, .int .i64 1018, .int .i64 1019, .int .i64 5000] 3)).trans t2)
  go_wp2_with fail
  refine (l7Seeds_any _ _ _ c2).mono ?_
  rintro e w3 ⟨v3, ys, rfl, o3, hy, f3, c3, t3⟩
  have HY := Lib.hid hy
  clear hy
  go_wp2_with fail
  go_ret2
  exact ⟨n, v3, ys, ⟨n0, n1⟩, rfl, o3.more (by omega), HY.out, f3, (T2.out.trans t3).below b1 (by omega)⟩
set_option maxRecDepth 100000 in
theorem law_FnNumberShares (w : World) (v0 : Value) (xs : List Int) (r0 : Rd .u8 w 0 w.heap.size v0 xs) (f0 : Wf .u8 xs) :
    Calls Try.prog 5 #[v0] w fun e w' => e = .returned (.bool true) ∧ Below w.heap.size w w' := by
  by_cases b0 : xs.length ≤ 1048576
  rotate_left
  · go_enter Try.func5, Try.ntmps5
    go_wp2_with fail
    refine (big_yes _ xs _ _ _ r0 b0).mono ?_
    rintro e w1 ⟨rfl, rfl⟩
    go_wp2_with fail
    go_ret
    exact ⟨rfl, Below.refl _ _⟩
  go_enter Try.func5, Try.ntmps5
  go_wp2_with fail
  refine (big_no _ xs _ _ _ r0 b0).mono ?_
  rintro e w1 ⟨rfl, rfl⟩
  go_wp2_with fail
  refine (drawShareN_any _ xs _ _ _ r0 f0 (Nat.le_refl _) b0).mono ?_
  rintro e w1 ⟨n, v1, ys, ⟨n0, n1⟩, rfl, o1, hy, fy, B1⟩
  have q1 := o1.rd
  have s1 := B1.size
  clear o1
  obtain ⟨A1, c1, rfl, hc1, hm1⟩ := q1.form
  unfold maxLen at hm1
  have FY := Lib.hid fy
  clear fy f0
  go_wp2_with fail
  refine (implShare n _ ys _ _ _ q1 FY.out (by unfold In64; omega) (Nat.le_refl _) (by omega)).mono ?_
  rintro e w2 ⟨v2, rfl, o2, bel2⟩
  have s2 := bel2.size
  have B2 := B1.trans (bel2.mono s1)
  have q2 := o2.rd
  clear o2
  by_cases hc : 1 ≤ ys.length ∧ ys.length ≤ 3
  rotate_left
  · rw [shares_no n ys hc] at q2
    obtain ⟨A2, c2, rfl, hc2, hm2⟩ := q2.form
    by_cases h1 : ys.length < 1
    · have h1' : (ys.length : Int) < 1 := by omega
      go_wp2_with fail
      go_ret
      exact ⟨ret_bool (by simp), B2⟩
    · have h1' : ¬ (ys.length : Int) < 1 := by omega
      have h2' : (3 : Int) < (ys.length : Int) := by omega
      go_wp2_with fail
      go_ret
      exact ⟨ret_bool (by simp), B2⟩
  obtain ⟨h1, h3⟩ := hc
  rw [shares_yes n ys h1 h3] at q2
  have HL := Lib.hid (shareL_length n ys)
  have HS := Lib.hid (shareL_sum n ys (by omega))
  have HB : Hid (∀ k (h : k < (shareL n ys).length), 0 ≤ (shareL n ys)[k] ∧ (shareL n ys)[k] ≤ 1018) := fun k h => shareL_at h
  generalize shareL n ys = S at q2 HL HS HB
  have hSl : S.length ≤ 4 := by have := HL.out; omega
  obtain ⟨A2, c2, rfl, hc2, hm2⟩ := q2.form
  unfold maxLen at hm2
  have h1' : ¬ (ys.length : Int) < 1 := by omega
  have h2' : ¬ (3 : Int) < (ys.length : Int) := by omega
  go_wp2_with fail
  go_loop [6] (fun i => ∃ k : Nat, k ≤ S.length ∧ i = .int .i64 k) (fun i => S.length - (intOf i).toNat)
  case atStart => exact ⟨0, Nat.zero_le _, rfl⟩
  case round =>
    obtain ⟨k, hk, rfl⟩ := hrel
    by_cases hlt : k < S.length
    · obtain ⟨A', c', e1, _, _, hr⟩ := q2
      obtain ⟨b, off, hA, _, hb, hcell⟩ := hr (by omega)
      simp at e1
      obtain ⟨rfl, rfl⟩ := e1
      subst hA
      have d1 := hcell k S[k] (by simp [hlt])
      obtain ⟨x0, x1⟩ := HB.out k hlt
      generalize S[k] = x at d1 x0 x1
      clear hcell hr
      go_wp2_with fail
      go_round
      case rel => exact ⟨k + 1, by omega, by go_num⟩
      case measure => simp [intOf]; omega
    · obtain rfl : k = S.length := by omega
      have hE : Hid ((S.length : Int) = (ys.length : Int) + 1) := by have := HL.out; unfold Hid; omega
      have HM := Lib.hid (modI_in n 1019 (by omega) (by omega))
      have hb1 : ((S.length : Int) == (ys.length : Int) + 1) = true := by rw [hE.out]; simp
      go_wp2_with fail
      refine (implJoinN _ S _ _ _ q2).mono ?_
      rw [HS.out]
      rintro e w' ⟨rfl, rfl⟩
      go_wp2_with fail
      refine (specMod n 1019 (by unfold In64; omega) _).mono ?_
      rw [HM.out]
      rintro e w' ⟨rfl, rfl⟩
      go_wp2_with fail
      go_ret
      exact ⟨ret_bool (by simp), B2⟩
end Go.Proofs.Ytabfekfbdacboaa
