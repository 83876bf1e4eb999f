/- Sums, selections' sums, joins and comparisons of slices of byte strings, of the program and of the reference. -/
import Derived.Test.YtabfekfbdacboaaXor
import Derived.Test.YtabfekfbdacboaaSmall
namespace Go.Proofs.Ytabfekfbdacboaa
open Go.RowKit
set_option linter.unusedVariables false

/-- The sum of rows. -/
def xorAllL (xss : List (List Int)) : List Int := xss.foldl xorL []
theorem xorAll_take (xss : List (List Int)) (k : Nat) (h : k < xss.length) : xorAllL (xss.take (k + 1)) = xorL (xorAllL (xss.take k)) xss[k] := by
  unfold xorAllL
  rw [List.take_succ_eq_append_getElem h, List.foldl_append]
  rfl
theorem xorAll_snoc (xss : List (List Int)) (x : List Int) : xorAllL (xss ++ [x]) = xorL (xorAllL xss) x := by
  unfold xorAllL
  rw [List.foldl_append]
  rfl
theorem fold_len (acc : List Int) (xss : List (List Int)) : (xss.foldl xorL acc).length ≤ acc.length + total xss := by
  induction xss generalizing acc with
  | nil => simp
  | cons x xs ih =>
    have := ih (xorL acc x)
    rw [xorL_length] at this
    rw [total_cons]
    simp only [List.foldl_cons]
    omega
theorem xorAll_len (xss : List (List Int)) : (xorAllL xss).length ≤ total xss := by have := fold_len [] xss; simpa [xorAllL] using this
theorem fold_wf (acc : List Int) (xss : List (List Int)) (f : Wf .u8 acc) (g : ∀ zs ∈ xss, Wf .u8 zs) : Wf .u8 (xss.foldl xorL acc) := by
  induction xss generalizing acc with
  | nil => exact f
  | cons x xs ih => exact ih _ (xorL_wf f (g x (by simp))) (fun z hz => g z (by simp [hz]))
theorem xorAll_wf {xss : List (List Int)} (g : ∀ zs ∈ xss, Wf .u8 zs) : Wf .u8 (xorAllL xss) := fold_wf [] xss (fun n h => by cases h) g

theorem implXorAll (v : Value) (xss : List (List Int)) (w : World) (l h : Nat) (r : Rds .u8 w l h v xss) (f : ∀ zs ∈ xss, Wf .u8 zs) (hh : h ≤ w.heap.size) (hl : total xss ≤ 16777216) :
    Calls Try.prog 57 #[v] w fun e w' => ∃ v', e = .returned v' ∧ Own .u8 5 w' w.heap.size v' (xorAllL xss) ∧ Below w.heap.size w w' := by
  obtain ⟨A, c, rfl, hc1, hc2⟩ := r.form
  unfold maxLen at hc2
  go_enter Try.func57, Try.ntmps57
  go_wp2_with fail
  go_loopw [3, 5, 9] (fun o _ i wr => ∃ k : Nat, k ≤ xss.length ∧ i = .int .i64 k ∧ Own .u8 5 wr w.heap.size o (xorAllL (xss.take k)) ∧ Below w.heap.size w wr) (fun _ _ i _ => xss.length - (intOf i).toNat)
  case atStart => exact ⟨0, Nat.zero_le _, rfl, Own.of_empty _ _ _ _ _, (Below.refl _ w).alloc (Nat.le_refl _) _⟩
  case round =>
    obtain ⟨k, hk, rfl, own, bel⟩ := hrel
    have sz := bel.size
    by_cases hlt : k < xss.length
    · obtain ⟨b, off, c', u, hv, _, _, c1, hu⟩ := (r.below bel hh).at_ hlt
      simp at hv
      obtain ⟨rfl, rfl⟩ := hv
      have HF := Lib.hid (xorAll_take xss k hlt)
      have ht := total_at xss k hlt
      have hle := xorAll_len (xss.take k)
      have wf := xorAll_wf (xss := xss.take k) (fun z hz => f z (List.mem_of_mem_take hz))
      have wfx := f _ (List.getElem_mem hlt)
      have OWN := Lib.hid own
      have WF := Lib.hid wf
      have WFX := Lib.hid wfx
      clear own wf wfx
      go_wp2_with fail
      refine (implXor _ _ _ xss[k] wr _ _ _ _ OWN.out.rd hu (Nat.le_refl _) (by omega) (by omega) (by omega)).mono ?_
      rintro e w2 ⟨v2, rfl, o2, bel2⟩
      have B2 := Lib.hid (bel.trans (bel2.mono sz))
      have O2 := Lib.hid (o2.more sz)
      clear o2 bel bel2 hu
      go_wp2_with fail
      exact ⟨⟨k + 1, by omega, by go_num, by rw [HF.out]; exact O2.out, B2.out⟩, by simp [intOf]; omega⟩
    · have OWN := Lib.hid own
      clear own
      go_wp2_with fail
      go_ret
      refine ⟨_, rfl, ?_, bel⟩
      have := OWN.out
      rwa [List.take_of_length_le (by omega)] at this

/-- The sum of the rows that are selected. -/
def selF : List Int → List (List Int) → List Int → List Int
  | acc, [], _ => acc
  | acc, _ :: _, [] => acc
  | acc, x :: xs, b :: bs => selF (if b = 1 then xorL acc x else acc) xs bs
theorem selF_nil (acc : List Int) (xss : List (List Int)) : selF acc xss [] = acc := by cases xss <;> rfl
theorem selF_snoc (acc : List Int) (a : List (List Int)) (x : List Int) (v : List Int) : selF acc (a ++ [x]) v = if v[a.length]? = some 1 then xorL (selF acc a v) x else selF acc a v := by
  induction a generalizing acc v with
  | nil => cases v with
    | nil => simp [selF]
    | cons b bs => simp [selF]
  | cons y ys ih => cases v with
    | nil => simp [selF]
    | cons b bs =>
      simp only [List.cons_append, selF, List.length_cons, List.getElem?_cons_succ]
      exact ih _ _
def selX (xss : List (List Int)) (v : List Int) : List Int := selF [] xss v
theorem selX_yes {xss : List (List Int)} {v : List Int} {k : Nat} (h : k < xss.length) (g : k < v.length) (e : v[k] = 1) : selX (xss.take (k + 1)) v = xorL (selX (xss.take k) v) xss[k] := by
  unfold selX
  rw [List.take_succ_eq_append_getElem h, selF_snoc, List.length_take, show min k xss.length = k by omega, if_pos]
  rw [List.getElem?_eq_getElem g, e]
theorem selX_no {xss : List (List Int)} {v : List Int} {k : Nat} (h : k < xss.length) (e : ¬ (∃ g : k < v.length, v[k] = 1)) : selX (xss.take (k + 1)) v = selX (xss.take k) v := by
  unfold selX
  rw [List.take_succ_eq_append_getElem h, selF_snoc, List.length_take, show min k xss.length = k by omega, if_neg]
  intro hh
  obtain ⟨g, e'⟩ := List.getElem?_eq_some_iff.1 hh
  exact e ⟨g, e'⟩
theorem selX_more {xss : List (List Int)} {v : List Int} {k : Nat} (g : v.length ≤ k) : selX (xss.take k) v = selX xss v := by
  have h : ∀ n, selX (xss.take (k + n)) v = selX (xss.take k) v := by
    intro n
    induction n with
    | zero => rfl
    | succ n ih =>
      by_cases hk : k + n < xss.length
      · rw [← Nat.add_assoc, selX_no hk (by rintro ⟨h, _⟩; omega), ih]
      · rw [List.take_of_length_le (by omega : xss.length ≤ k + (n + 1))]
        rw [List.take_of_length_le (by omega : xss.length ≤ k + n)] at ih
        exact ih
  have := h xss.length
  rwa [List.take_of_length_le (by omega), eq_comm] at this
theorem selF_len (acc : List Int) (xss : List (List Int)) (v : List Int) : (selF acc xss v).length ≤ acc.length + total xss := by
  induction xss generalizing acc v with
  | nil => simp [selF]
  | cons x xs ih => cases v with
    | nil => simp [selF]
    | cons b bs =>
      rw [total_cons]
      simp only [selF]
      have := ih (if b = 1 then xorL acc x else acc) bs
      split at this <;> rename_i hb
      · rw [if_pos hb]; rw [xorL_length] at this; omega
      · rw [if_neg hb]; omega
theorem selX_len (xss : List (List Int)) (v : List Int) : (selX xss v).length ≤ total xss := by have := selF_len [] xss v; simpa [selX] using this
theorem selX_zero (xss : List (List Int)) (v : List Int) : selX (xss.take 0) v = [] := by simp [selX, selF]
theorem selF_wf (acc : List Int) (xss : List (List Int)) (v : List Int) (f : Wf .u8 acc) (g : ∀ zs ∈ xss, Wf .u8 zs) : Wf .u8 (selF acc xss v) := by
  induction xss generalizing acc v with
  | nil => simpa [selF] using f
  | cons x xs ih => cases v with
    | nil => simpa [selF] using f
    | cons b bs =>
      simp only [selF]
      refine ih _ bs ?_ (fun z hz => g z (by simp [hz]))
      split
      · exact xorL_wf f (g x (by simp))
      · exact f
theorem selX_wf {xss : List (List Int)} (v : List Int) (g : ∀ zs ∈ xss, Wf .u8 zs) : Wf .u8 (selX xss v) := selF_wf [] xss v (fun n h => by cases h) g

set_option maxRecDepth 100000 in
theorem implSelX (v1 v2 : Value) (xss : List (List Int)) (ys : List Int) (w : World) (l1 h1 l2 h2 : Nat) (r1 : Rds .u8 w l1 h1 v1 xss) (r2 : Rd .i64 w l2 h2 v2 ys) (f1 : ∀ zs ∈ xss, Wf .u8 zs) (g1 : h1 ≤ w.heap.size) (g2 : h2 ≤ w.heap.size) (b1 : total xss ≤ 16777216) :
    Calls Try.prog 25 #[v1, v2] w fun e w' => ∃ v', e = .returned v' ∧ Own .u8 5 w' w.heap.size v' (selX xss ys) ∧ Below w.heap.size w w' := by
  obtain ⟨A, c, rfl, hc1, hc2⟩ := r1.form
  obtain ⟨B, d, rfl, hd1, hd2⟩ := r2.form
  unfold maxLen at hc2 hd2
  go_enter Try.func25, Try.ntmps25
  go_wp2_with fail
  go_loopw [5, 6, 7, 11] (fun o _ _ i wr => ∃ k : Nat, k ≤ xss.length ∧ i = .int .i64 k ∧ Own .u8 5 wr w.heap.size o (selX (xss.take k) ys) ∧ Below w.heap.size w wr) (fun _ _ _ i _ => xss.length - (intOf i).toNat)
  case atStart => exact ⟨0, Nat.zero_le _, rfl, by rw [selX_zero]; exact Own.of_empty _ _ _ _ _, (Below.refl _ w).alloc (Nat.le_refl _) _⟩
  case round =>
    obtain ⟨k, hk, rfl, own, bel⟩ := hrel
    have sz := bel.size
    have OWN := Lib.hid own
    clear own
    by_cases hlt : k < xss.length
    · obtain ⟨b, off, c', u, hv, _, _, c1, hu⟩ := (r1.below bel g1).at_ hlt
      simp at hv
      obtain ⟨rfl, rfl⟩ := hv
      by_cases hlt2 : k < ys.length
      · obtain ⟨B', d', e1, _, _, hr⟩ := r2.below bel g2
        obtain ⟨b', off', hB, _, _, hcell⟩ := hr (by omega)
        simp at e1
        obtain ⟨rfl, rfl⟩ := e1
        subst hB
        have d1 := hcell k ys[k] (by simp [hlt2])
        clear hcell hr
        by_cases hone : ys[k] = 1
        · have hb : (ys[k] == 1) = true := by simpa using hone
          have HF := Lib.hid (selX_yes hlt hlt2 hone)
          have ht := total_at xss k hlt
          have hle := selX_len (xss.take k) ys
          clear hone
          go_wp2_with fail
          refine (implXor _ _ _ xss[k] wr _ _ _ _ OWN.out.rd hu (Nat.le_refl _) (by omega) (by omega) (by omega)).mono ?_
          rintro e w2 ⟨v2, rfl, o2, bel2⟩
          have B2 := Lib.hid (bel.trans (bel2.mono sz))
          have O2 := Lib.hid (o2.more sz)
          clear o2 bel bel2 hu
          go_wp2_with fail
          exact ⟨⟨k + 1, by omega, by go_num, by rw [HF.out]; exact O2.out, B2.out⟩, by simp [intOf]; omega⟩
        · have hb : (ys[k] == 1) = false := by simpa using hone
          have HF := Lib.hid (selX_no hlt (by rintro ⟨_, h⟩; exact hone h))
          clear hone hu
          go_wp2_with fail
          exact ⟨⟨k + 1, by omega, by go_num, by rw [HF.out]; exact OWN.out, bel⟩, by simp [intOf]; omega⟩
      · have HF := Lib.hid (selX_no (v := ys) hlt (by rintro ⟨h, _⟩; omega))
        clear hu
        go_wp2_with fail
        exact ⟨⟨k + 1, by omega, by go_num, by rw [HF.out]; exact OWN.out, bel⟩, by simp [intOf]; omega⟩
    · go_wp2_with fail
      go_ret
      refine ⟨_, rfl, ?_, bel⟩
      have := OWN.out
      rwa [List.take_of_length_le (by omega)] at this

theorem concatByte (v : Value) (xss : List (List Int)) (w : World) (l h : Nat) (r : Rds .u8 w l h v xss) (hh : h ≤ w.heap.size) (hn : xss.length ≤ 1073741824) (ht : xss.flatten.length ≤ 1073741824) :
    Calls Try.prog 86 #[v] w fun e w' => ∃ v', e = .returned v' ∧ Own .u8 5 w' w.heap.size v' xss.flatten ∧ Below w.heap.size w w' := by
  obtain ⟨i0, hi, hz0, hz1, hz2⟩ := info_parts info_u8
  obtain ⟨A, c, rfl, hc1, hc2⟩ := r.form
  unfold maxLen at hc2
  go_enter Try.func86, Try.ntmps86
  go_wp2_with fail
  go_loop [3, 5, 11] (fun s _ i => ∃ k : Nat, k ≤ xss.length ∧ i = .int .i64 k ∧ s = .int .i64 ((xss.take k).flatten.length : Nat)) (fun _ _ i => xss.length - (intOf i).toNat)
  case atStart => exact ⟨0, Nat.zero_le _, rfl, rfl⟩
  case round =>
    obtain ⟨k, hk, rfl, rfl⟩ := hrel
    have hle := flatten_take_le xss k
    obtain ⟨t, hT⟩ : ∃ t, t = (xss.take k).flatten.length := ⟨_, rfl⟩
    rw [← hT] at hle ⊢
    by_cases hlt : k < xss.length
    · obtain ⟨b, off, c', u, hv, _, _, c1, hu⟩ := r.at_ hlt
      obtain ⟨A', d, rfl, hd1, hd2⟩ := hu.form
      have hstep := flatten_step_le xss k hlt
      have HF := Lib.hid (flatten_take xss k hlt)
      rw [← hT] at hstep
      have HT := Lib.hid hT
      simp at hv
      obtain ⟨rfl, rfl⟩ := hv
      unfold maxLen at hd2
      clear hT hu r
      go_wp2_with fail
      go_round
      case rel => exact ⟨k + 1, by omega, by go_num, by rw [HF.out, List.length_append, ← HT.out]; go_num⟩
      case measure => simp [intOf]; omega
    · have HT := Lib.hid hT
      clear hT
      go_wp2_with fail
      refine (growByte t _ (by omega)).mono ?_
      rintro e w1 ⟨v0, rfl, o1, bel1⟩
      go_wp2_with fail
      go_loopw [6, 8, 27] (fun v _ i wr => ∃ k2 : Nat, k2 ≤ xss.length ∧ i = .int .i64 k2 ∧ Own .u8 5 wr w.heap.size v (xss.take k2).flatten ∧ Below w.heap.size w wr) (fun _ _ i _ => xss.length - (intOf i).toNat)
      case atStart => exact ⟨0, Nat.zero_le _, rfl, o1, bel1⟩
      case round =>
        obtain ⟨k2, hk2, rfl, own, bel⟩ := hrel
        clear o1 bel1
        have sz := bel.size
        by_cases hlt2 : k2 < xss.length
        · have r' := r.below bel hh
          obtain ⟨b, off, c', u, hv, _, _, c1, hu⟩ := r'.at_ hlt2
          have hstep := flatten_step_le xss k2 hlt2
          have HF := Lib.hid (flatten_take xss k2 hlt2)
          simp at hv
          obtain ⟨rfl, rfl⟩ := hv
          clear r r'
          go_wp2_with (at_builtin; refine wpList_append_Own _ rfl (.tmp 31) (.tmp 32) 22 rfl w.heap.size 5 i0 (.int .u8 0) .u8 1 Try.underlying22 hi hz0 hz1 hz2 rfl _ _ rfl own u _ _ _ rfl hu ?_ ?_ ?_ ?_)
          · simp only [maxLen]; omega
          · omega
          · exact sz
          · intro v2 w2 hO2 hW2
            have b2 := Lib.hid (hW2.below bel (Nat.le_refl _) sz)
            have O2 := Lib.hid hO2
            clear hO2 hW2 own bel hu
            go_wp2_with fail
            go_roundw
            case rel => exact ⟨k2 + 1, by omega, by go_num, by rw [HF.out]; exact O2.out, b2.out⟩
            case measure => simp [intOf]; omega
        · have OWN := Lib.hid own
          have BEL := Lib.hid bel
          clear own bel r
          go_wp2_with fail
          go_ret
          refine ⟨_, rfl, ?_, BEL.out⟩
          have := OWN.out
          rwa [List.take_of_length_le (by omega)] at this


theorem implJoin (v : Value) (xss : List (List Int)) (w : World) (l h : Nat) (r : Rds .u8 w l h v xss) (hh : h ≤ w.heap.size) (hn : xss.length ≤ 16777216) (hl : total xss ≤ 16777216) :
    Calls Try.prog 56 #[v] w fun e w' => ∃ v', e = .returned v' ∧ Own .u8 5 w' w.heap.size v' xss.flatten ∧ Below w.heap.size w w' := by
  go_enter Try.func56, Try.ntmps56
  go_wp2_with fail
  refine (concatByte _ xss _ _ _ r hh (by omega) (by unfold total at hl; omega)).mono ?_
  rintro e w1 ⟨v', rfl, o1, bel1⟩
  go_wp2_with fail
  go_ret
  exact ⟨_, rfl, o1, bel1⟩
end Go.Proofs.Ytabfekfbdacboaa
