/- The draws of the selections' law. -/
import Derived.Test.YtabfekfbdacboaaDraw4
import Derived.Test.YtabfekfbdacboaaRand
import Derived.Test.YtabfekfbdacboaaPack
import Derived.Test.YtabfekfbdacboaaUnpack
import Derived.Test.YtabfekfbdacboaaSplit
import Derived.Deep.DeepCutAuto
namespace Go.Proofs.Ytabfekfbdacboaa
open Go.RowKit
set_option linter.unusedVariables false

theorem randL_bits (s : Int) (n : Nat) : bitsB (randL s n) = true := by
  unfold bitsB randL
  rw [List.all_eq_true]
  intro x hx
  obtain ⟨i, _, rfl⟩ := List.mem_map.1 hx
  rw [decide_eq_true_iff]
  unfold randAt
  omega
theorem randAll_bits (s n : Int) : bitsB (randAll s n) = true := by
  unfold randAll
  split
  · exact randL_bits _ _
  · rfl
theorem bits_wf {xs : List Int} (h : bitsB xs = true) : Wf .i64 xs := fun u hu => by
  obtain ⟨i, hi, rfl⟩ := List.getElem_of_mem hu
  have := bitsB_at h hi
  exact WalkArith.wf_i64 (by omega)
theorem wf_set {k : IntKind} {xs : List Int} (f : Wf k xs) (i : Nat) {x : Int} (hx : (Lit.int k x).wf = true) : Wf k (xs.set i x) := fun u hu => by
  rcases List.mem_or_eq_of_mem_set hu with h | rfl
  · exact f u h
  · exact hx

theorem grown_set (w : World) (b j : Nat) (v : Value) : w.grownBy (w.setCell ⟨b, j, none⟩ v) (some b) :=
  ⟨rfl, rfl, rfl, Nat.le_of_eq (by simp [World.setCell]), fun k _ hk => heap_setCell_other w ⟨b, j, none⟩ k v (fun e => hk (by rw [e]))⟩

set_option maxRecDepth 100000 in
set_option maxHeartbeats 1000000 in
theorem l5Any_any (w : World) (g hi : Nat) (c : Cur w g hi) :
    Calls Try.prog 89 #[.pointer (some ⟨g, 0, none⟩)] w fun e w' => ∃ v' xs, e = .returned v' ∧ Own .i64 3 w' w.heap.size v' xs ∧ xs.length ≤ 65 ∧ Wf .i64 xs ∧ Cur w' g hi ∧ Touch w w' g (g + 1) := by
  obtain ⟨i0, hi0, hz0, hz1, hz2⟩ := info_parts info_int
  have hg := c.lt
  go_enter Try.func89, Try.ntmps89
  go_wp2_with fail
  refine (l1Below_any 999 _ g hi c (by omega)).mono ?_
  rintro e w1 ⟨s, ⟨s0, s1⟩, rfl, c1, t1⟩
  have z1 := t1.size
  have g1 := c1.lt
  go_wp2_with fail
  refine (l1Int_any _ [0, 1, 4, 8, 9, 64] _ g hi _ (c1.alloc _) ((Rd.lit (e := 3) _ 6 rfl rfl (by decide)).more (by omega) (Nat.le_refl _)) (by simp) (by decide)).mono ?_
  rintro e w2 ⟨n, hn, rfl, c2, t2⟩
  have hn' : 0 ≤ n ∧ n ≤ 64 := by simp at hn; omega
  clear hn
  obtain ⟨n0, n1⟩ := hn'
  have z2 := t2.size
  simp only [World.size_alloc] at z2
  have T2 := (t1.alloc (.cells #[.int .i64 0, .int .i64 1, .int .i64 4, .int .i64 8, .int .i64 9, .int .i64 64] 3)).trans t2
  go_wp2_with fail
  refine (specRand s n _ (by unfold In64; omega) (by unfold In64; omega)).mono ?_
  rintro e w3 ⟨v3, rfl, o3, bel3⟩
  have z3 := bel3.size
  have c3 := c2.below bel3 c2.lt
  have T3 := T2.of_below bel3 (by omega)
  have hl3 : (randAll s n).length ≤ 64 := randAll_le s n
  have W3 := Lib.hid (bits_wf (randAll_bits s n))
  generalize randAll s n = xs at o3 hl3 W3
  have O3 := Lib.hid (o3.more (lo' := w.heap.size) (by omega))
  clear o3 t1 t2 T2
  obtain ⟨A3, d3, rfl, hd3, hm3⟩ := O3.out.rd.form
  unfold maxLen at hm3
  go_upto_region 2 with fail
  go_cut [16] from 4 to 29 (fun v wx => ∃ b : Bool, v = .bool b ∧ (b = true → 0 < xs.length) ∧ Own .i64 3 wx w.heap.size (.slice A3 xs.length d3) xs ∧ Cur wx g hi ∧ Touch w wx g (g + 1))
  case first =>
    by_cases hp : 0 < xs.length
    · have hp' : (0 : Int) < (xs.length : Int) := by omega
      go_wp2_with fail
      refine (l1Once_any 6 _ g hi c3 (by omega)).mono ?_
      rintro e w4 ⟨b, rfl, c4, t4⟩
      have O4 := Lib.hid (O3.out.touch t4 (by omega))
      go_wp2_with fail
      go_meet
      exact ⟨b, rfl, fun _ => hp, O4.out, c4, T3.trans t4⟩
    · have hp' : ¬ (0 : Int) < (xs.length : Int) := by omega
      go_wp2_with fail
      go_meet
      exact ⟨false, rfl, fun h => (by cases h), O3.out, c3, T3⟩
  case rest =>
  obtain ⟨b, rfl, hb, o4, c4, t4⟩ := hcut
  have z4 := t4.size
  have O4 := Lib.hid o4
  clear o4 O3 c3 T3 bel3 c1 c2
  go_upto_if 16 with fail
  go_cut [3] from 4 to 29 (fun v wx => ∃ ys, Own .i64 3 wx w.heap.size v ys ∧ ys.length ≤ 65 ∧ Wf .i64 ys ∧ Cur wx g hi ∧ Touch w wx g (g + 1))
  case first =>
    cases b
    · go_wp2_with fail
      go_meet
      exact ⟨xs, O4.out, by omega, W3.out, c4, t4⟩
    · have hp := hb rfl
      clear hb
      go_wp2_with fail
      refine (l1Below_any (xs.length : Int) _ g hi c4 (by omega)).mono ?_
      rintro e w5 ⟨i, ⟨i0', i1⟩, rfl, c5, t5⟩
      obtain ⟨j, rfl⟩ := Int.eq_ofNat_of_zero_le i0'
      have z5 := t5.size
      have O5 := Lib.hid (O4.out.touch t5 (by omega))
      have g5 := c5.lt
      go_wp2_with fail
      refine (l1Int_any _ [-1, 2] _ g hi _ (c5.alloc _) ((Rd.lit (e := 3) _ 2 rfl rfl (by decide)).more (by omega) (Nat.le_refl _)) (by simp) (by decide)).mono ?_
      rintro e w6 ⟨x, hx, rfl, c6, t6⟩
      have hx' : -1 ≤ x ∧ x ≤ 2 := by simp at hx; omega
      clear hx
      have z6 := t6.size
      simp only [World.size_alloc] at z6
      have T6 := ((t4.trans t5).alloc (.cells #[.int .i64 (-1), .int .i64 2] 3)).trans t6
      have o6 := (O5.out.alloc (.cells #[.int .i64 (-1), .int .i64 2] 3)).touch t6 (by omega)
      obtain ⟨q, hq, hq0, hq1, -, row⟩ := o6.open_ hp
      subst hq
      have hj : j < xs.length := by omega
      have d1 := row.cellAt j (by omega)
      rw [List.getElem?_map, List.getElem?_eq_getElem hj] at d1
      simp only [Option.map_some] at d1
      have d2 := row.frozenAt j
      have o7 := o6.store j hj x
      have WX := Lib.hid (wf_set W3.out j (x := x) (wf64 (by unfold In64; omega)))
      have O7 := Lib.hid o7
      have T7 : Touch w (w6.setCell ⟨q, j, none⟩ (.int .i64 x)) g (g + 1) := T6.grow (grown_set w6 q j (.int .i64 x)) (fun g' e => by have := Option.some.inj e; omega)
      have C7 : Cur (w6.setCell ⟨q, j, none⟩ (.int .i64 x)) g hi := c6.keep (fun k hk => heap_setCell_other w6 ⟨q, j, none⟩ k (.int .i64 x) (by show k ≠ q; omega))
      have I0 : (0 : Int) ≤ (j : Int) := by omega
      have I1 : (j : Int) < (xs.length : Int) := by omega
      generalize xs[j] = u at d1
      clear o6 o7 row hj
      go_wp2_with fail
      go_meet
      exact ⟨xs.set j x, O7.out, by rw [List.length_set]; omega, WX.out, C7, T7⟩
  case rest =>
  obtain ⟨ys, o5, hy, wy, c5, t5⟩ := hcut
  have O5 := Lib.hid o5
  have WY := Lib.hid wy
  have z5 := t5.size
  clear o5 wy O4 c4 t4 hb hl3 W3
  go_wp2_with fail
  refine (l1Once_any 12 _ g hi c5 (by omega)).mono ?_
  rintro e w6 ⟨b6, rfl, c6, t6⟩
  have z6 := t6.size
  have O6 := Lib.hid (O5.out.touch t6 (by omega))
  cases b6
  · go_wp2_with fail
    go_ret
    exact ⟨_, ys, rfl, O6.out, hy, WY.out, c6, t5.trans t6⟩
  · go_wp2_with (at_make; refine wpList_make_full _ rfl _ _ 24 rfl w6.heap.size 3 i0 (.int .i64 0) 1 Try.underlying24 hi0 hz0 hz1 _ _ _ _ 65 rfl rfl (by omega) (by omega) ?_ ?_ ?_ ?_)
    · rw [hz2]; omega
    · unfold maxLen; omega
    · exact Nat.le_refl _
    · intro w7 hown hgr
      have own0 : Own .i64 3 w7 w6.heap.size (.slice (some ⟨w6.heap.size, 0, none⟩) 65 65) (List.replicate 65 0) := by
        refine .inl ?_
        rw [List.length_replicate, List.map_replicate]
        have e := toList_madeCells_one (.int .i64 0) 65
        simpa [Value.cells, e] using hown
      have T7 : Touch w w7 g (g + 1) := (t5.trans t6).grow hgr (fun _ h => by cases h)
      have C7 : Cur w7 g hi := c6.keep (fun k hk => hgr.block k (by have := c6.lt; omega) (fun e => by cases e))
      have WR : Hid (Wf .i64 (List.replicate 65 0)) := fun u hu => by rw [List.eq_of_mem_replicate hu]; exact wf64 (by unfold In64; omega)
      have O7 := Lib.hid (own0.more (lo' := w.heap.size) (by omega))
      clear hown hgr own0
      go_wp2_with fail
      go_ret
      exact ⟨_, _, rfl, O7.out, by simp, WR.out, C7, T7⟩
set_option maxRecDepth 100000 in
theorem drawPack_any (v : Value) (xs : List Int) (w : World) (l h : Nat) (r : Rd .u8 w l h v xs) (f : Wf .u8 xs) (hh : h ≤ w.heap.size) (hl : xs.length ≤ 1048576) :
    Calls Try.prog 11 #[v] w fun e w' => ∃ v1 ys, e = .returned v1 ∧ Own .i64 3 w' w.heap.size v1 ys ∧ ys.length ≤ 65 ∧ Wf .i64 ys ∧ Below w.heap.size w w' := by
  have D : Calls Try.prog 59 #[v] w fun e w' => ∃ v1 ys, e = .returned v1 ∧ Own .i64 3 w' w.heap.size v1 ys ∧ ys.length ≤ 65 ∧ Wf .i64 ys ∧ Below w.heap.size w w' := by
    go_enter Try.func59, Try.ntmps59
    go_wp2_with fail
    refine (l1New_any _ xs _ _ _ r f hh hl).mono ?_
    rintro e w1 ⟨rfl, c1, b1, s1⟩
    have s1' : w.heap.size + 1 ≤ w1.heap.size := by omega
    clear s1
    go_wp2_with fail
    refine (l5Any_any _ _ _ c1).mono ?_
    rintro e w2 ⟨v2, ys, rfl, o2, hy, wy, c2, t2⟩
    have O2 := Lib.hid (o2.more (lo' := w.heap.size) (by omega))
    have HY := Lib.hid hy
    have WY := Lib.hid wy
    clear o2 hy wy
    go_wp2_with fail
    go_ret
    exact ⟨v2, ys, rfl, O2.out, HY.out, WY.out, t2.below b1 (by omega)⟩
  go_enter Try.func11, Try.ntmps11
  go_wp2_with fail
  refine D.mono ?_
  rintro e w2 ⟨v2, ys, rfl, o2, hy, wy, b2⟩
  have O2 := Lib.hid o2
  have HY := Lib.hid hy
  have WY := Lib.hid wy
  clear o2 hy wy D
  go_wp2_with fail
  go_ret
  exact ⟨v2, ys, rfl, O2.out, HY.out, WY.out, b2⟩
set_option maxRecDepth 100000 in
set_option maxHeartbeats 1000000 in
theorem drawSelX_any (v : Value) (xs : List Int) (w : World) (l h : Nat) (r : Rd .u8 w l h v xs) (f : Wf .u8 xs) (hh : h ≤ w.heap.size) (hl : xs.length ≤ 1048576) :
    Calls Try.prog 19 #[v] w fun e w' => ∃ v1 xss v2, e = .returned (.tuple #[v1, v2]) ∧ OwnS 22 5 w' w.heap.size w'.heap.size v1 xss ∧ xss.length ≤ 4 ∧ (∀ zs ∈ xss, Wf .u8 zs) ∧ total xss ≤ 20 ∧ Below w.heap.size w w' := by
  go_enter Try.func19, Try.ntmps19
  go_wp2_with fail
  refine (l1New_any _ xs _ _ _ r f hh hl).mono ?_
  rintro e w1 ⟨rfl, c1, b1, s1⟩
  have s1' : w.heap.size + 1 ≤ w1.heap.size := by omega
  clear s1
  go_wp2_with fail
  refine (l4List_any _ _ _ c1).mono ?_
  rintro e w2 ⟨v2, xss, rfl, o2, hn, hw, ht, c2, t2⟩
  have z2 := t2.size
  have O2 := Lib.hid (o2.more (lo' := w.heap.size) (by omega) (Nat.le_refl _))
  have o2' := Lib.hid o2
  have HN := Lib.hid hn
  have HW := Lib.hid hw
  have HT := Lib.hid ht
  clear o2 hn hw ht
  go_wp2_with fail
  refine (l1Below_any 999 _ _ _ c2 (by omega)).mono ?_
  rintro e w3 ⟨s, ⟨s0, s1⟩, rfl, c3, t3⟩
  have z3 := t3.size
  go_wp2_with fail
  refine (l1Below_any 7 _ _ _ c3 (by omega)).mono ?_
  rintro e w4 ⟨n, ⟨n0, n1⟩, rfl, c4, t4⟩
  have z4 := t4.size
  have OS4 := Lib.hid ((o2'.out.touch t3 (by omega)).touch t4 (by omega))
  clear o2'
  go_wp2_with fail
  refine (specRand s n _ (by unfold In64; omega) (by unfold In64; omega)).mono ?_
  rintro e w5 ⟨v5, rfl, o5, bel5⟩
  have z5 := bel5.size
  have c5 := c4.below bel5 c4.lt
  have OS5 := Lib.hid (OS4.out.below bel5 (by omega))
  have T5 := ((t2.trans t3).trans t4).of_below bel5 (by omega)
  have hl5 : (randAll s n).length ≤ 64 := randAll_le s n
  generalize randAll s n = ys at o5 hl5
  have O5 := Lib.hid o5
  clear o5 OS4 O2 t2 t3 t4 c1 c2 c3 c4
  obtain ⟨A5, d5, rfl, hd5, hm5⟩ := O5.out.rd.form
  unfold maxLen at hm5
  go_upto_region 4 with fail
  go_cut [22] from 7 to 26 (fun u wx => ∃ b : Bool, u = .bool b ∧ (b = true → 0 < ys.length) ∧ Own .i64 3 wx w4.heap.size (.slice A5 ys.length d5) ys ∧ OwnS 22 5 wx w1.heap.size w4.heap.size v2 xss ∧ Touch w1 wx w.heap.size (w.heap.size + 1) ∧ w5.heap.size ≤ wx.heap.size)
  case first =>
    by_cases hp : 0 < ys.length
    · have hp' : (0 : Int) < (ys.length : Int) := by omega
      go_wp2_with fail
      refine (l1Once_any 8 _ _ _ c5 (by omega)).mono ?_
      rintro e w6 ⟨b, rfl, c6, t6⟩
      have O6 := Lib.hid (O5.out.touch t6 (by omega))
      have OS6 := Lib.hid ((OS5.out.more (hi' := w4.heap.size) (Nat.le_refl _) (by omega)).touch t6 (by omega))
      go_wp2_with fail
      go_meet
      exact ⟨b, rfl, fun _ => hp, O6.out, OS6.out, T5.trans t6, t6.size⟩
    · have hp' : ¬ (0 : Int) < (ys.length : Int) := by omega
      go_wp2_with fail
      go_meet
      exact ⟨false, rfl, fun h => (by cases h), O5.out, OS5.out.more (Nat.le_refl _) (by omega), T5, Nat.le_refl _⟩
  case rest =>
  obtain ⟨b, rfl, hb, o6, os6, t6, z6⟩ := hcut
  have O6 := Lib.hid o6
  have OS6 := Lib.hid os6
  clear o6 os6 O5 OS5 c5 T5 bel5
  cases b
  · go_wp2_with fail
    go_ret2
    exact ⟨v2, xss, _, rfl, OS6.out.more (by omega) (by omega), HN.out, HW.out, by have := HT.out; have := HN.out; omega, t6.below b1 (by omega)⟩
  · have hp := hb rfl
    clear hb
    obtain ⟨q, hq, hq0, hq1, -, row⟩ := O6.out.open_ hp
    subst hq
    have d1 := row.cellAt 0 (by omega)
    rw [List.getElem?_map, List.getElem?_eq_getElem hp] at d1
    simp only [Option.map_some] at d1
    have d2 := row.frozenAt 0
    have I1 : (0 : Int) < (ys.length : Int) := by omega
    generalize ys[0] = u at d1
    clear row
    have OS7 := Lib.hid (OS6.out.keep (w' := wc.setCell ⟨q, 0, none⟩ (.int .i64 2)) (fun k _ hk => heap_setCell_other wc ⟨q, 0, none⟩ k (.int .i64 2) (by show k ≠ q; omega)))
    have T7 : Touch w1 (wc.setCell ⟨q, 0, none⟩ (.int .i64 2)) w.heap.size (w.heap.size + 1) := t6.grow (grown_set wc q 0 (.int .i64 2)) (fun g' e => by have := Option.some.inj e; omega)
    have z7 : wc.heap.size ≤ (wc.setCell ⟨q, 0, none⟩ (.int .i64 2)).heap.size := Nat.le_of_eq (by simp [World.setCell])
    go_wp2_with fail
    go_ret2
    exact ⟨v2, xss, _, rfl, OS7.out.more (by omega) (by omega), HN.out, HW.out, by have := HT.out; have := HN.out; omega, T7.below b1 (by omega)⟩
set_option maxRecDepth 100000 in
set_option maxHeartbeats 1000000 in
theorem l1Bent_any (v : Value) (xs : List Int) (w : World) (g hi l h : Nat) (c : Cur w g hi) (r : Rd .u8 w l h v xs) (f : Wf .u8 xs) (hh : h ≤ w.heap.size) (hl : xs.length ≤ 1000) :
    Calls Try.prog 66 #[.pointer (some ⟨g, 0, none⟩), v] w fun e w' => ∃ v' ys, e = .returned v' ∧ Rd .u8 w' w.heap.size w'.heap.size v' ys ∧ ys.length ≤ 1001 ∧ Wf .u8 ys ∧ Cur w' g hi ∧ Touch w w' g (g + 1) := by
  obtain ⟨i0, hi0, hz0, hz1, hz2⟩ := info_parts info_u8
  have hg := c.lt
  obtain ⟨A, c', rfl, hc1, hc2⟩ := r.form
  unfold maxLen at hc2
  have F := Lib.hid f
  clear f
  go_enter Try.func66, Try.ntmps66
  go_wp2_with (at_builtin; refine wpList_append_Own _ rfl (.tmp 6) (.tmp 7) 22 rfl w.heap.size 5 i0 (.int .u8 0) .u8 1 Try.underlying22 hi0 hz0 hz1 hz2 rfl _ [] rfl (Own.lit0 _ _ _ _ _) _ _ _ xs rfl (r.alloc hh _) (by simp [maxLen]; omega) (by simp; omega) (by simp) ?_)
  intro v1 w1 hO1 hW1
  have b1 : Below w.heap.size w w1 := hW1.below ((Below.refl _ w).alloc (Nat.le_refl _) _) (Nat.le_refl _) (by simp)
  have z1 := b1.size
  have c1 := c.below b1 hg
  have T1 := (Touch.refl w g (g + 1)).of_below b1 (Nat.le_refl _)
  have O1 := Lib.hid hO1
  clear hO1 hW1 r
  obtain ⟨A1, d1, rfl, hd1, hm1⟩ := O1.out.rd.form
  unfold maxLen at hm1
  try simp only [List.nil_append] at hd1 O1 ⊢
  go_wp2_with fail
  refine (l1Below_any 6 _ g hi c1 (by omega)).mono ?_
  rintro e w2 ⟨x, ⟨x0, x1⟩, rfl, c2, t2⟩
  have z2 := t2.size
  have O2 := Lib.hid (O1.out.touch t2 (by omega))
  have T2 := T1.trans t2
  clear O1 c1 b1 T1 t2
  rcases (show x = 0 ∨ x = 1 ∨ x = 2 ∨ (3 ≤ x ∧ x < 6) by omega) with rfl | rfl | rfl | hx
  · by_cases hp : 0 < xs.length
    · have hp' : (0 : Int) < (xs.length : Int) := by omega
      go_wp2_with fail
      refine (l1Below_any (xs.length : Int) _ g hi c2 (by omega)).mono ?_
      rintro e w3 ⟨i, ⟨i0', i1⟩, rfl, c3, t3⟩
      obtain ⟨j, rfl⟩ := Int.eq_ofNat_of_zero_le i0'
      have z3 := t3.size
      have O3 := Lib.hid (O2.out.touch t3 (by omega))
      go_wp2_with fail
      refine (l1Below_any 256 _ g hi c3 (by omega)).mono ?_
      rintro e w4 ⟨y, ⟨y0, y1⟩, rfl, c4, t4⟩
      have z4 := t4.size
      have o4 := O3.out.touch t4 (by omega)
      have T4 := (T2.trans t3).trans t4
      obtain ⟨q, hq, hq0, hq1, -, row⟩ := o4.open_ hp
      subst hq
      have hj : j < xs.length := by omega
      have e1 := row.cellAt j (by omega)
      rw [List.getElem?_map, List.getElem?_eq_getElem hj] at e1
      simp only [Option.map_some] at e1
      have e2 := row.frozenAt j
      have e3 : IntKind.u8.wrap y = y := IntWalk.u8_in _ (by omega)
      have o5 := o4.store j hj y
      have WX := Lib.hid (wf_set F.out j (x := y) (WalkArith.wf_u8 (by omega)))
      have O5 := Lib.hid o5.rd
      have T5 : Touch w (w4.setCell ⟨q, j, none⟩ (.int .u8 y)) g (g + 1) := T4.grow (grown_set w4 q j (.int .u8 y)) (fun g' e => by have := Option.some.inj e; omega)
      have C5 : Cur (w4.setCell ⟨q, j, none⟩ (.int .u8 y)) g hi := c4.keep (fun k hk => heap_setCell_other w4 ⟨q, j, none⟩ k (.int .u8 y) (by show k ≠ q; omega))
      have I0 : (0 : Int) ≤ (j : Int) := by omega
      have I1 : (j : Int) < (xs.length : Int) := by omega
      generalize xs[j] = u at e1
      clear o4 o5 row hj
      go_wp2_with fail
      go_ret
      exact ⟨_, xs.set j y, rfl, O5.out, by rw [List.length_set]; omega, WX.out, C5, T5⟩
    · have hp' : ¬ (0 : Int) < (xs.length : Int) := by omega
      go_wp2_with fail
      go_ret
      exact ⟨_, xs, rfl, O2.out.rd, by omega, F.out, c2, T2⟩
  · go_wp2_with fail
    refine (l1Below_any ((xs.length : Int) + 1) _ g hi c2 (by omega)).mono ?_
    rintro e w3 ⟨i, ⟨i0', i1⟩, rfl, c3, t3⟩
    obtain ⟨j, rfl⟩ := Int.eq_ofNat_of_zero_le i0'
    have z3 := t3.size
    have o3 := O2.out.touch t3 (by omega)
    have T3 := T2.trans t3
    have hj : j ≤ xs.length := by omega
    have I0 : (0 : Int) ≤ (j : Int) := by omega
    have I1 : (j : Int) ≤ (d1 : Int) := by omega
    have WT : Hid (Wf .u8 (xs.take j)) := fun u hu => F.out u (List.mem_of_mem_take hu)
    have HL : Hid ((xs.take j).length ≤ 1001) := by unfold Hid; rw [List.length_take]; omega
    rcases Nat.eq_zero_or_pos xs.length with h0 | hp
    · obtain rfl : xs = [] := List.eq_nil_of_length_eq_zero h0
      obtain rfl : j = 0 := by simp at hj; omega
      clear o3
      rcases A1 with _ | a
      · go_wp2_with fail
        go_ret
        exact ⟨_, [], rfl, Rd.nil_ _ _ _ _ _ _ (by unfold maxLen; omega), by simp, wf_nil _, c3, T3⟩
      · go_wp2_with fail
        all_goals
          go_ret
          exact ⟨_, [], rfl, Rd.nil_ _ _ _ _ _ _ (by unfold maxLen; omega), by simp, wf_nil _, c3, T3⟩
    · obtain ⟨q, hq, hq0, hq1, -, row⟩ := o3.open_ hp
      subst hq
      have P := o3.rd.part 0 j (by omega)
      rw [List.drop_zero] at P
      have HP := Lib.hid P
      clear row P o3
      go_wp2_with fail
      go_ret
      exact ⟨_, xs.take j, rfl, by first | exact HP.out.more (by omega) (Nat.le_refl _) | (have := HP.out; simpa using this.more (lo' := w.heap.size) (by omega) (Nat.le_refl _)), HL.out, WT.out, c3, T3⟩
  · go_wp2_with fail
    refine (l1Int_any _ [0, 1, 128, 255] _ g hi _ (c2.alloc _) ((Rd.lit (e := 3) _ 4 rfl rfl (by decide)).more (by omega) (Nat.le_refl _)) (by simp) (by decide)).mono ?_
    rintro e w3 ⟨y, hy, rfl, c3, t3⟩
    have hy' : 0 ≤ y ∧ y ≤ 255 := by simp at hy; omega
    clear hy
    obtain ⟨y0, y1⟩ := hy'
    have z3 := t3.size
    simp only [World.size_alloc] at z3
    have T3 := (T2.alloc (.cells #[.int .i64 0, .int .i64 1, .int .i64 128, .int .i64 255] 3)).trans t3
    have O3 := Lib.hid ((O2.out.alloc (.cells #[.int .i64 0, .int .i64 1, .int .i64 128, .int .i64 255] 3)).touch t3 (by omega))
    have e3 : IntKind.u8.wrap y = y := IntWalk.u8_in _ (by omega)
    go_wp2_with (at_builtin; refine wpList_append_Own _ rfl (.tmp 36) (.tmp 41) 22 rfl w.heap.size 5 i0 (.int .u8 0) .u8 1 Try.underlying22 hi0 hz0 hz1 hz2 rfl _ _ rfl (O3.out.alloc _) _ _ _ [y] rfl (Own.lit1 .u8 5 _ 0 y (Nat.zero_le _)).rd (by simp [maxLen]; omega) (by simp; omega) (by simp; omega) ?_)
    intro v4 w4 hO4 hW4
    have T4 : Touch w w4 g (g + 1) := (T3.alloc _).wrote hW4 (Nat.le_refl _)
    have C4 : Cur w4 g hi := (c3.alloc _).wrote hW4 hg
    have W4 : Hid (Wf .u8 (xs ++ [y])) := fun u hu => by
      rcases List.mem_append.1 hu with hu | hu
      · exact F.out u hu
      · simp at hu; subst hu; exact WalkArith.wf_u8 ⟨y0, y1⟩
    have O4 := Lib.hid hO4.rd
    clear hO4 hW4
    go_wp2_with fail
    go_ret
    exact ⟨_, xs ++ [y], rfl, O4.out, by simp; omega, W4.out, C4, T4⟩
  · have n0 : (x == 0) = false := by rw [beq_eq_false_iff_ne]; omega
    have n1 : (x == 1) = false := by rw [beq_eq_false_iff_ne]; omega
    have n2 : (x == 2) = false := by rw [beq_eq_false_iff_ne]; omega
    go_wp2_with fail
    go_ret
    exact ⟨_, xs, rfl, O2.out.rd, by omega, F.out, c2, T2⟩
set_option maxRecDepth 100000 in
theorem drawUnp_any (v : Value) (xs : List Int) (w : World) (l h : Nat) (r : Rd .u8 w l h v xs) (f : Wf .u8 xs) (hh : h ≤ w.heap.size) (hl : xs.length ≤ 1048576) :
    Calls Try.prog 14 #[v] w fun e w' => ∃ v1 ys, e = .returned v1 ∧ Rd .u8 w' w.heap.size w'.heap.size v1 ys ∧ ys.length ≤ 1001 ∧ Wf .u8 ys ∧ Below w.heap.size w w' := by
  go_enter Try.func14, Try.ntmps14
  go_wp2_with fail
  refine (l1New_any _ xs _ _ _ r f hh hl).mono ?_
  rintro e w1 ⟨rfl, c1, b1, s1⟩
  have s1' : w.heap.size + 1 ≤ w1.heap.size := by omega
  clear s1
  go_wp2_with fail
  refine (l1Below_any 999 _ _ _ c1 (by omega)).mono ?_
  rintro e w2 ⟨s, ⟨s0, s1⟩, rfl, c2, t2⟩
  have z2 := t2.size
  go_wp2_with fail
  refine (l1Below_any 20 _ _ _ c2 (by omega)).mono ?_
  rintro e w3 ⟨n, ⟨n0, n1⟩, rfl, c3, t3⟩
  have z3 := t3.size
  have g3 := c3.lt
  go_wp2_with fail
  refine (specRand s n _ (by unfold In64; omega) (by unfold In64; omega)).mono ?_
  rintro e w4 ⟨v4, rfl, o4, bel4⟩
  have z4 := bel4.size
  have hl4 := randAll_le s n
  have W4 := Lib.hid (bits_wf (randAll_bits s n))
  generalize randAll s n = ys at o4 hl4 W4
  go_wp2_with fail
  refine (specPack _ ys _ _ _ o4.rd W4.out (Nat.le_refl _) (by omega)).mono ?_
  rintro e w5 ⟨v5, rfl, o5, bel5⟩
  have z5 := bel5.size
  have B5 := bel4.trans (bel5.mono z4)
  have c5 := c3.below B5 c3.lt
  have T5 := (t2.trans t3).of_below B5 (by omega)
  have WP := Lib.hid (packAll_wf ys)
  have HPL : (packAll ys).length ≤ 100 := by
    unfold packAll
    split
    · rw [packSt_length]; omega
    · simp
  generalize packAll ys = ps at o5 WP HPL
  have O5 := Lib.hid o5
  clear o5 o4 bel4 bel5 B5 t2 t3 c1 c2 c3
  go_wp2_with fail
  refine (l1Once_any 2 _ _ _ c5 (by omega)).mono ?_
  rintro e w6 ⟨b, rfl, c6, t6⟩
  have z6 := t6.size
  have O6 := Lib.hid (O5.out.touch t6 (by omega))
  have T6 := T5.trans t6
  cases b
  · go_wp2_with fail
    go_ret
    exact ⟨_, ps, rfl, O6.out.rd.more (by omega) (Nat.le_refl _), by omega, WP.out, T6.below b1 (by omega)⟩
  · go_wp2_with fail
    refine (l1Bent_any _ ps _ _ _ _ _ c6 O6.out.rd WP.out (Nat.le_refl _) (by omega)).mono ?_
    rintro e w7 ⟨v7, zs, rfl, r7, hz, wz, c7, t7⟩
    have R7 := Lib.hid (r7.more (lo' := w.heap.size) (by omega) (Nat.le_refl _))
    have HZ := Lib.hid hz
    have WZ := Lib.hid wz
    clear r7 hz wz
    go_wp2_with fail
    go_ret
    exact ⟨v7, zs, rfl, R7.out, HZ.out, WZ.out, (T6.trans t7).below b1 (by omega)⟩
end Go.Proofs.Ytabfekfbdacboaa
