/- SplitBytes, of the program and of the reference. -/
import Derived.Test.YtabfekfbdacboaaConcat
import Derived.Test.YtabfekfbdacboaaRange
import Derived.Test.YtabfekfbdacboaaLists2
namespace Go.Proofs.Ytabfekfbdacboaa
open Go.RowKit
set_option linter.unusedVariables false

/-- Pieces of n numbers, the last one shorter; at most f of them. -/
def spF : Nat → Nat → List Int → List (List Int)
  | 0, _, _ => []
  | f + 1, n, xs => if xs.length = 0 then [] else xs.take n :: spF f n (xs.drop n)
/-- What SplitBytes gives. -/
def splitL (xs : List Int) (n : Int) : List (List Int) := if 1 ≤ n ∧ n ≤ 400 then spF xs.length n.toNat xs else []
theorem splitL_no {xs : List Int} {n : Int} (h : ¬ (1 ≤ n ∧ n ≤ 400)) : splitL xs n = [] := if_neg h
theorem splitL_yes {xs : List Int} {n : Nat} (h : 1 ≤ n ∧ n ≤ 400) : splitL xs n = spF xs.length n xs := by
  unfold splitL
  rw [if_pos ⟨by omega, by omega⟩, Int.toNat_natCast]
theorem spF_nil {f n : Nat} {xs : List Int} (h : xs.length = 0) : spF f n xs = [] := by
  cases f with
  | zero => rfl
  | succ f => exact if_pos h
theorem spF_step {f n k : Nat} {xs : List Int} (h : k < xs.length) : spF (f + 1) n (xs.drop k) = (xs.drop k).take n :: spF f n (xs.drop (k + n)) := by
  rw [spF, if_neg (by rw [List.length_drop]; omega), List.drop_drop]
theorem spF_flat (f n : Nat) (xs : List Int) (hn : 1 ≤ n) (hf : xs.length ≤ f) : (spF f n xs).flatten = xs := by
  induction f generalizing xs with
  | zero => obtain rfl : xs = [] := List.eq_nil_of_length_eq_zero (by omega)
            rfl
  | succ f ih =>
    unfold spF
    split
    · rename_i h; rw [List.eq_nil_of_length_eq_zero h]; rfl
    · rename_i h
      rw [List.flatten_cons, ih (xs.drop n) (by rw [List.length_drop]; omega), List.take_append_drop]
theorem spF_count (f n : Nat) (xs : List Int) (hn : 1 ≤ n) : (spF f n xs).length ≤ xs.length := by
  induction f generalizing xs with
  | zero => simp [spF]
  | succ f ih =>
    unfold spF
    split
    · simp
    · rename_i h
      have := ih (xs.drop n)
      rw [List.length_drop] at this
      rw [List.length_cons]; omega
theorem splitL_total (xs : List Int) (n : Int) : total (splitL xs n) ≤ xs.length ∧ (splitL xs n).length ≤ xs.length := by
  by_cases h : 1 ≤ n ∧ n ≤ 400
  · obtain ⟨m, rfl⟩ := Int.eq_ofNat_of_zero_le (show 0 ≤ n by omega)
    rw [splitL_yes ⟨by omega, by omega⟩]
    unfold total
    rw [spF_flat _ _ _ (by omega) (Nat.le_refl _)]
    exact ⟨Nat.le_refl _, spF_count _ _ _ (by omega)⟩
  · rw [splitL_no h]; simp [total]
theorem splitL_flat {xs : List Int} {n : Int} (h : 1 ≤ n ∧ n ≤ 400) : (splitL xs n).flatten = xs := by
  obtain ⟨m, rfl⟩ := Int.eq_ofNat_of_zero_le (show 0 ≤ n by omega)
  rw [splitL_yes ⟨by omega, by omega⟩]
  exact spF_flat _ _ _ (by omega) (Nat.le_refl _)

theorem Rd.part {k : IntKind} {w : World} {lo hi b off len c : Nat} {xs : List Int} (h : Rd k w lo hi (.slice (some ⟨b, off, none⟩) len c) xs) (a n : Nat) (ha : a + n ≤ xs.length) :
    Rd k w lo hi (.slice (some ⟨b, off + a, none⟩) n (c - a)) ((xs.drop a).take n) := by
  obtain ⟨A, c', hv, h1, h2, h3⟩ := h
  cases hv
  have hl : ((xs.drop a).take n).length = n := by rw [List.length_take, List.length_drop]; omega
  refine ⟨_, _, by rw [hl], by rw [hl]; omega, by omega, fun hp => ?_⟩
  rw [hl] at hp
  obtain ⟨b', off', e, g1, g2, g3⟩ := h3 (by omega)
  cases e
  refine ⟨_, _, rfl, g1, g2, fun i u hu => ?_⟩
  have hi : i < n := by have := (List.getElem?_eq_some_iff.1 hu).1; omega
  rw [List.getElem?_take_of_lt hi, List.getElem?_drop] at hu
  have := g3 (a + i) u hu
  rwa [← Nat.add_assoc] at this
theorem cut_take {xs : List Int} {k n e : Nat} (h : (k + n ≤ xs.length ∧ e = k + n) ∨ (xs.length ≤ k + n ∧ e = xs.length)) : (xs.drop k).take (e - k) = (xs.drop k).take n := by
  rcases h with ⟨h, rfl⟩ | ⟨h, rfl⟩
  · rw [Nat.add_sub_cancel_left]
  · rw [List.take_of_length_le (by rw [List.length_drop]; omega), List.take_of_length_le (by rw [List.length_drop]; omega)]
theorem cell_one (w : World) (u : Value) (e : TypeId) : (w.alloc (.cells #[u] e)).cell? ((⟨w.heap.size, 0, none⟩ : Addr).add 0) = some u :=
  (cell_of_row _ _ 0 _ e (0, 0) (heap_alloc_new w _)).trans rfl

theorem specMin (a b e : Int) (w : World) (h : (a ≤ b ∧ e = a) ∨ (b ≤ a ∧ e = b)) : Calls Try.prog 81 #[.int .i64 a, .int .i64 b] w fun x w' => x = .returned (.int .i64 e) ∧ w = w' := by
  by_cases hb : b < a
  · obtain rfl : e = b := by omega
    clear h
    go_enter Try.func81, Try.ntmps81
    go_wp2
    go_ret
    exact ⟨rfl, rfl⟩
  · obtain rfl : e = a := by omega
    clear h
    go_enter Try.func81, Try.ntmps81
    go_wp2
    go_ret
    exact ⟨rfl, rfl⟩
set_option maxRecDepth 100000 in
set_option maxHeartbeats 1000000 in
theorem specSplit (v : Value) (xs : List Int) (n : Int) (w : World) (l h : Nat) (r : Rd .u8 w l h v xs) (hh : h ≤ w.heap.size) (hl : xs.length ≤ 16777216) (hn : In64 n) :
    Calls Try.prog 38 #[v, .int .i64 n] w fun e w' => ∃ v', e = .returned v' ∧ OwnS 22 5 w' w.heap.size w'.heap.size v' (splitL xs n) ∧ Below w.heap.size w w' := by
  obtain ⟨i0, hi, hz0, hz1, hz2⟩ := info_parts info_u8
  obtain ⟨j0, hj, hy0, hy1, hy2⟩ := info_parts info_rows
  obtain ⟨A, c, rfl, hc1, hc2⟩ := r.form
  unfold maxLen at hc2
  unfold In64 at hn
  have R := Lib.hid r
  clear r
  by_cases hr : 1 ≤ n ∧ n ≤ 400
  rotate_left
  · have HP := Lib.hid (splitL_no (xs := xs) hr)
    by_cases h0 : (0 : Int) < (xs.length : Int)
    · go_enter Try.func38, Try.ntmps38
      go_wp2_with fail
      go_loopw [5, 6] (fun o i wr => o = .slice (some ⟨w.heap.size, 0, none⟩) 0 0 ∧ i = .int .i64 0 ∧ Below w.heap.size w wr) (fun _ i _ => 0)
      case atStart => exact ⟨rfl, rfl, (Below.refl _ w).alloc (Nat.le_refl _) _⟩
      case round =>
        obtain ⟨rfl, rfl, bel⟩ := hrel
        go_wp2_with (go_at_call 67; refine (l1In_no _ _ _ _ hr).mono ?_; rintro e w' ⟨rfl, rfl⟩)
        go_ret
        exact ⟨_, rfl, by rw [HP.out]; exact OwnS.of_nil _ _ _ _ _ _ bel.size, bel⟩
    · go_enter Try.func38, Try.ntmps38
      go_wp2_with fail
      go_loopw [5, 6] (fun o i wr => o = .slice (some ⟨w.heap.size, 0, none⟩) 0 0 ∧ i = .int .i64 0 ∧ Below w.heap.size w wr) (fun _ i _ => 0)
      case atStart => exact ⟨rfl, rfl, (Below.refl _ w).alloc (Nat.le_refl _) _⟩
      case round =>
        obtain ⟨rfl, rfl, bel⟩ := hrel
        go_wp2_with fail
        go_ret
        exact ⟨_, rfl, by rw [HP.out]; exact OwnS.of_nil _ _ _ _ _ _ bel.size, bel⟩
  · obtain ⟨m, rfl⟩ := Int.eq_ofNat_of_zero_le (show 0 ≤ n by omega)
    obtain ⟨r0, r1⟩ := hr
    have HP := Lib.hid (splitL_yes (xs := xs) (n := m) ⟨by omega, by omega⟩)
    go_enter Try.func38, Try.ntmps38
    go_wp2_with fail
    go_loopw [5, 6] (fun o i wr => ∃ (k : Nat) (acc : List (List Int)) (f : Nat), i = .int .i64 k ∧ xs.length ≤ k + f ∧ k ≤ xs.length + 400 ∧ acc ++ spF f m (xs.drop k) = spF xs.length m xs ∧ acc.length ≤ k ∧ OwnS 22 5 wr w.heap.size wr.heap.size o acc ∧ Below w.heap.size w wr) (fun _ i _ => xs.length - (intOf i).toNat)
    case atStart => exact ⟨0, [], xs.length, rfl, by omega, by omega, by simp, Nat.le_refl _, OwnS.of_nil _ _ _ _ _ _ (by simp), (Below.refl _ w).alloc (Nat.le_refl _) _⟩
    case round =>
      obtain ⟨k, acc, f, rfl, hf, hk, hacc, hal, own, bel⟩ := hrel
      have HACC := Lib.hid hacc
      have sz := bel.size
      have OWN := Lib.hid own
      clear own hacc
      obtain ⟨B, d, rfl, hd1, hd2⟩ := OWN.out.rd.form
      unfold maxLen at hd2
      by_cases hlt : k < xs.length
      · obtain ⟨g, rfl⟩ : ∃ g, f = g + 1 := ⟨f - 1, by omega⟩
        obtain ⟨e, he⟩ : ∃ e, (k + m ≤ xs.length ∧ e = k + m) ∨ (xs.length ≤ k + m ∧ e = xs.length) := by
          rcases Nat.le_total (k + m) xs.length with h | h
          · exact ⟨_, .inl ⟨h, rfl⟩⟩
          · exact ⟨_, .inr ⟨h, rfl⟩⟩
        have HT := Lib.hid (cut_take he)
        have hMin : Hid (((xs.length : Int) ≤ (k : Int) + (m : Int) ∧ (e : Int) = (xs.length : Int)) ∨ ((k : Int) + (m : Int) ≤ (xs.length : Int) ∧ (e : Int) = (k : Int) + (m : Int))) := by
          unfold Hid; omega
        have hke : k < e := by omega
        have hel : e ≤ xs.length := by omega
        have HACC2 : Hid ((acc ++ [(xs.drop k).take m]) ++ spF g m (xs.drop (k + m)) = spF xs.length m xs) := by
          unfold Hid; rw [← HACC.out, spF_step hlt, List.append_assoc]; rfl
        clear he HACC
        obtain ⟨A', c', e1, _, _, hr'⟩ := R.out
        obtain ⟨b, off, hA, _⟩ := hr' (by omega)
        simp at e1
        obtain ⟨rfl, rfl⟩ := e1
        subst hA
        clear hr'
        have rk := R.out.below bel hh
        have rp := rk.part k (e - k) (by omega)
        rw [HT.out] at rp
        have hpl : ((xs.drop k).take m).length ≤ 400 := by rw [List.length_take]; omega
        obtain ⟨P, hP⟩ : ∃ P, P = (xs.drop k).take m := ⟨_, rfl⟩
        rw [← hP] at rp hpl HACC2
        have RP := Lib.hid rp
        clear rp rk hP HT
        have I1 : (0 : Int) ≤ (k : Int) := by omega
        have I2 : (k : Int) ≤ (e : Int) := by omega
        have I3 : (e : Int) ≤ (c : Int) := by omega
        have I4 : ¬ c = k := by omega
        have hA : ([] : List Int).length + P.length ≤ maxLen := by simp [maxLen]; omega
        have hB : (([] : List Int).length + P.length) * 1 ≤ 140737488355328 := by simp; omega
        go_wp2_with (first | (go_at_call 67; refine (l1In_yes _ _ _ _ r0 r1).mono ?_; rintro e w' ⟨rfl, rfl⟩) | (go_at_call 81; refine (specMin _ _ (e : Int) _ hMin.out).mono ?_; rintro x w' ⟨rfl, rfl⟩) | (at_builtin; refine wpList_append_Own _ rfl (.tmp 20) (.tmp 29) 22 rfl wr.heap.size 5 i0 (.int .u8 0) .u8 1 Try.underlying22 hi hz0 hz1 hz2 rfl _ [] rfl (Own.lit0 _ _ _ _ _) _ _ _ P rfl (RP.out.alloc (by omega) _) hA hB (by simp) ?_))
        intro v2 w2 hO2 hW2
        have b2 : Below wr.heap.size wr w2 := hW2.below ((Below.refl _ wr).alloc (Nat.le_refl _) _) (Nat.le_refl _) (by simp)
        have s2 := b2.size
        obtain ⟨A2, d2, rfl, -, -⟩ := hO2.rd.form
        have O2 := Lib.hid hO2
        have OWN2 := Lib.hid (OWN.out.below b2 (Nat.le_refl _))
        clear hO2 hW2 OWN
        go_wp2_with (at_builtin; refine wpList_append_OwnS _ rfl (.tmp 19) (.tmp 31) 33 rfl w.heap.size wr.heap.size 22 5 (by decide) j0 (.slice none 0 0) 24 Try.underlying33 hj hy0 hy1 hy2 rfl _ acc rfl (OWN2.out.below ((Below.refl _ w2).alloc (Nat.le_refl _) (.cells #[.slice A2 ([] ++ P).length d2] 22)) (by omega)) (by simp; omega) ⟨w2.heap.size, 0, none⟩ 1 rfl (.slice A2 ([] ++ P).length d2) P wr.heap.size (Nat.le_refl _) (cell_one w2 _ _) (O2.out.alloc (.cells #[.slice A2 ([] ++ P).length d2] 22)).bd (by unfold maxLen; omega) (by omega) (by simp; omega) (by simp; omega) ?_)
        intro v3 w3 hO3 row hg hrow
        have b3 : Below w.heap.size w w3 := ((bel.trans (b2.mono sz)).alloc (by omega) _).grown hg (by simp; omega) (fun g hg' => (hrow g hg').1)
        have O3 := Lib.hid hO3
        clear hO3 hg hrow O2 OWN2 RP bel b2
        go_wp2_with fail
        exact ⟨⟨k + m, acc ++ [P], g, by go_num, by omega, by omega, HACC2.out, by simp; omega, O3.out, b3⟩, by simp [intOf]; omega⟩
      · have hge : ¬ (k : Int) < (xs.length : Int) := by omega
        have HE : Hid (acc = spF xs.length m xs) := by
          unfold Hid; rw [← HACC.out, spF_nil (by rw [List.length_drop]; omega), List.append_nil]
        go_wp2_with fail
        go_ret
        exact ⟨_, rfl, by rw [HP.out, ← HE.out]; exact OWN.out, bel⟩
set_option maxRecDepth 100000 in
set_option maxHeartbeats 1000000 in
theorem implSplit (v : Value) (xs : List Int) (n : Int) (w : World) (l h : Nat) (r : Rd .u8 w l h v xs) (hh : h ≤ w.heap.size) (hl : xs.length ≤ 16777216) (hn : In64 n) :
    Calls Try.prog 39 #[v, .int .i64 n] w fun e w' => ∃ v', e = .returned v' ∧ OwnS 22 5 w' w.heap.size w'.heap.size v' (splitL xs n) ∧ Below w.heap.size w w' := by
  obtain ⟨j0, hj, hy0, hy1, hy2⟩ := info_parts info_rows
  obtain ⟨A, c, rfl, hc1, hc2⟩ := r.form
  unfold maxLen at hc2
  unfold In64 at hn
  have R := Lib.hid r
  clear r
  by_cases hr : 1 ≤ n ∧ n ≤ 400
  rotate_left
  · have HP := Lib.hid (splitL_no (xs := xs) hr)
    go_enter Try.func39, Try.ntmps39
    go_wp2_with (go_at_call 75; refine (inRange_no _ _ _ _ hr).mono ?_; rintro e w' ⟨rfl, rfl⟩)
    go_ret
    exact ⟨_, rfl, by rw [HP.out]; exact OwnS.of_nil _ _ _ _ _ _ (Nat.le_refl _), Below.refl _ _⟩
  · obtain ⟨m, rfl⟩ := Int.eq_ofNat_of_zero_le (show 0 ≤ n by omega)
    obtain ⟨r0, r1⟩ := hr
    have HP := Lib.hid (splitL_yes (xs := xs) (n := m) ⟨by omega, by omega⟩)
    go_enter Try.func39, Try.ntmps39
    go_wp2_with (go_at_call 75; refine (inRange_yes _ _ _ _ r0 r1).mono ?_; rintro e w' ⟨rfl, rfl⟩)
    go_loopw [5, 6] (fun o i wr => ∃ (k : Nat) (acc : List (List Int)) (f : Nat), i = .int .i64 k ∧ xs.length ≤ k + f ∧ k ≤ xs.length + 400 ∧ acc ++ spF f m (xs.drop k) = spF xs.length m xs ∧ acc.length ≤ k ∧ OwnS 22 5 wr w.heap.size wr.heap.size o acc ∧ Below w.heap.size w wr) (fun _ i _ => xs.length - (intOf i).toNat)
    case atStart => exact ⟨0, [], xs.length, rfl, by omega, by omega, by simp, Nat.le_refl _, OwnS.of_nil _ _ _ _ _ _ (by simp), (Below.refl _ w).alloc (Nat.le_refl _) _⟩
    case round =>
      obtain ⟨k, acc, f, rfl, hf, hk, hacc, hal, own, bel⟩ := hrel
      have HACC := Lib.hid hacc
      have sz := bel.size
      have OWN := Lib.hid own
      clear own hacc
      obtain ⟨B, d, rfl, hd1, hd2⟩ := OWN.out.rd.form
      unfold maxLen at hd2
      by_cases hlt : k < xs.length
      · obtain ⟨g, rfl⟩ : ∃ g, f = g + 1 := ⟨f - 1, by omega⟩
        obtain ⟨A', c', e1, _, _, hr'⟩ := R.out
        obtain ⟨b, off, hA, _⟩ := hr' (by omega)
        simp at e1
        obtain ⟨rfl, rfl⟩ := e1
        subst hA
        clear hr'
        have rk := R.out.below bel hh
        have HACC2 : Hid ((acc ++ [(xs.drop k).take m]) ++ spF g m (xs.drop (k + m)) = spF xs.length m xs) := by
          unfold Hid; rw [← HACC.out, spF_step hlt, List.append_assoc]; rfl
        clear HACC
        obtain ⟨P, hP⟩ : ∃ P, P = (xs.drop k).take m := ⟨_, rfl⟩
        have hpl : P.length ≤ 400 := by rw [hP, List.length_take]; omega
        have hR : ∀ e, ((k + m ≤ xs.length ∧ e = k + m) ∨ (xs.length ≤ k + m ∧ e = xs.length)) → Rd .u8 wr l h (.slice (some ⟨b, off + k, none⟩) (e - k) (c - k)) P := fun e he => by
          have rp := rk.part k (e - k) (by omega)
          rwa [cut_take he, ← hP] at rp
        rw [← hP] at HACC2
        clear rk hP
        have I1 : (0 : Int) ≤ (k : Int) := by omega
        have I2 : (k : Int) ≤ (k : Int) + (m : Int) := by omega
        have I3 : (k : Int) ≤ (xs.length : Int) := by omega
        have I4 : ¬ c = k := by omega
        have I5 : (xs.length : Int) ≤ (c : Int) := by omega
        have I6 : ((k : Int) + (m : Int)).toNat = k + m := by omega
        by_cases hcut : k + m < xs.length
        · have rp := hR _ (.inl ⟨by omega, rfl⟩)
          rw [Nat.add_sub_cancel_left] at rp
          clear hR
          have J1 : (k : Int) + (m : Int) < (xs.length : Int) := by omega
          have J2 : (k : Int) + (m : Int) ≤ (c : Int) := by omega
          go_wp2_with fail
          refine (cloneByte _ P _ _ _ rp (by omega) (by omega)).mono ?_
          rintro x w2 ⟨v2, rfl, o2, b2⟩
          have s2 := b2.size
          obtain ⟨A2, d2, rfl, -, -⟩ := o2.rd.form
          have O2 := Lib.hid o2
          have OWN2 := Lib.hid (OWN.out.below b2 (Nat.le_refl _))
          clear o2 OWN rp
          go_wp2_with (at_builtin; refine wpList_append_OwnS _ rfl (.tmp 18) (.tmp 29) 33 rfl w.heap.size wr.heap.size 22 5 (by decide) j0 (.slice none 0 0) 24 Try.underlying33 hj hy0 hy1 hy2 rfl _ acc rfl (OWN2.out.below ((Below.refl _ w2).alloc (Nat.le_refl _) (.cells #[.slice A2 P.length d2] 22)) (by omega)) (by simp; omega) ⟨w2.heap.size, 0, none⟩ 1 rfl (.slice A2 P.length d2) P wr.heap.size (Nat.le_refl _) (cell_one w2 _ _) (O2.out.alloc (.cells #[.slice A2 P.length d2] 22)).bd (by unfold maxLen; omega) (by omega) (by simp; omega) (by simp; omega) ?_)
          intro v3 w3 hO3 row hg hrow
          have b3 : Below w.heap.size w w3 := ((bel.trans (b2.mono sz)).alloc (by omega) _).grown hg (by simp; omega) (fun g hg' => (hrow g hg').1)
          have O3 := Lib.hid hO3
          clear hO3 hg hrow O2 OWN2 bel b2
          go_wp2_with fail
          exact ⟨⟨k + m, acc ++ [P], g, by go_num, by omega, by omega, HACC2.out, by simp; omega, O3.out, b3⟩, by simp [intOf]; omega⟩
        · have rp := hR _ (.inr ⟨by omega, rfl⟩)
          clear hR
          have J1 : ¬ (k : Int) + (m : Int) < (xs.length : Int) := by omega
          have J2 : (xs.length : Int) ≤ (k : Int) + (m : Int) := by omega
          go_wp2_with fail
          refine (cloneByte _ P _ _ _ rp (by omega) (by omega)).mono ?_
          rintro x w2 ⟨v2, rfl, o2, b2⟩
          have s2 := b2.size
          obtain ⟨A2, d2, rfl, -, -⟩ := o2.rd.form
          have O2 := Lib.hid o2
          have OWN2 := Lib.hid (OWN.out.below b2 (Nat.le_refl _))
          clear o2 OWN rp
          go_wp2_with (at_builtin; refine wpList_append_OwnS _ rfl (.tmp 18) (.tmp 29) 33 rfl w.heap.size wr.heap.size 22 5 (by decide) j0 (.slice none 0 0) 24 Try.underlying33 hj hy0 hy1 hy2 rfl _ acc rfl (OWN2.out.below ((Below.refl _ w2).alloc (Nat.le_refl _) (.cells #[.slice A2 P.length d2] 22)) (by omega)) (by simp; omega) ⟨w2.heap.size, 0, none⟩ 1 rfl (.slice A2 P.length d2) P wr.heap.size (Nat.le_refl _) (cell_one w2 _ _) (O2.out.alloc (.cells #[.slice A2 P.length d2] 22)).bd (by unfold maxLen; omega) (by omega) (by simp; omega) (by simp; omega) ?_)
          intro v3 w3 hO3 row hg hrow
          have b3 : Below w.heap.size w w3 := ((bel.trans (b2.mono sz)).alloc (by omega) _).grown hg (by simp; omega) (fun g hg' => (hrow g hg').1)
          have O3 := Lib.hid hO3
          clear hO3 hg hrow O2 OWN2 bel b2
          go_wp2_with fail
          exact ⟨⟨k + m, acc ++ [P], g, by go_num, by omega, by omega, HACC2.out, by simp; omega, O3.out, b3⟩, by simp [intOf]; omega⟩
      · have hge : ¬ (k : Int) < (xs.length : Int) := by omega
        have HE : Hid (acc = spF xs.length m xs) := by
          unfold Hid; rw [← HACC.out, spF_nil (by rw [List.length_drop]; omega), List.append_nil]
        go_wp2_with fail
        go_ret
        exact ⟨_, rfl, by rw [HP.out, ← HE.out]; exact OWN.out, bel⟩
end Go.Proofs.Ytabfekfbdacboaa
