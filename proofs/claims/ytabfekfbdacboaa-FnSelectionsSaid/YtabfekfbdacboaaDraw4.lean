/- The draws of the laws over byte strings and lists of them. -/
import Derived.Test.YtabfekfbdacboaaDraw
import Derived.Test.YtabfekfbdacboaaLists2
namespace Go.Proofs.Ytabfekfbdacboaa
open Go.RowKit
set_option linter.unusedVariables false

theorem cell_one4 (w : World) (u : Value) (e : TypeId) : (w.alloc (.cells #[u] e)).cell? ((⟨w.heap.size, 0, none⟩ : Addr).add 0) = some u :=
  (cell_of_row _ _ 0 _ e (0, 0) (heap_alloc_new w _)).trans rfl

theorem l4List_any (w : World) (g hi : Nat) (c : Cur w g hi) :
    Calls Try.prog 69 #[.pointer (some ⟨g, 0, none⟩)] w fun e w' => ∃ v' xss, e = .returned v' ∧ OwnS 22 5 w' w.heap.size w'.heap.size v' xss ∧ xss.length ≤ 4 ∧ (∀ zs ∈ xss, Wf .u8 zs) ∧ total xss ≤ 5 * xss.length ∧ Cur w' g hi ∧ Touch w w' g (g + 1) := by
  obtain ⟨j0, hj, hy0, hy1, hy2⟩ := info_parts info_rows
  have hg := c.lt
  go_enter Try.func69, Try.ntmps69
  go_wp2_with fail
  refine (l1Below_any 5 _ g hi (c.alloc _) (by omega)).mono ?_
  rintro e w1 ⟨x, ⟨x0, x1⟩, rfl, c1, t1⟩
  obtain ⟨n, rfl⟩ := Int.eq_ofNat_of_zero_le x0
  have s1 := t1.size
  simp only [World.size_alloc] at s1
  have T1 := ((Touch.refl w g (g + 1)).alloc (.cells #[] 22)).trans t1
  go_wp2_with fail
  go_loopw [3, 4] (fun o i wr => ∃ (k : Nat) (xss : List (List Int)), k ≤ 4 ∧ i = .int .i64 k ∧ OwnS 22 5 wr w.heap.size wr.heap.size o xss ∧ xss.length + k ≤ 4 ∧ (∀ zs ∈ xss, Wf .u8 zs) ∧ total xss ≤ 5 * xss.length ∧ Cur wr g hi ∧ Touch w wr g (g + 1)) (fun _ i _ => (intOf i).toNat)
  case atStart => exact ⟨n, [], by omega, rfl, OwnS.of_nil _ _ _ _ _ _ (by omega), by simp; omega, (fun _ h => by cases h), (by simp [total]), c1, T1⟩
  case round =>
    obtain ⟨k, xss, hk, rfl, own, hxl, wf, htot, cr, tr⟩ := hrel
    have hsz := tr.size
    have WF := Lib.hid wf
    have OWN := Lib.hid own
    have HXL := Lib.hid hxl
    have HT := Lib.hid htot
    clear wf own hxl htot
    obtain ⟨B, d, rfl, hd1, hd2⟩ := OWN.out.rd.form
    unfold maxLen at hd2
    by_cases hlt : 0 < k
    · go_wp2_with fail
      refine (l1Below_any 6 _ g hi cr (by omega)).mono ?_
      rintro e w2 ⟨y, ⟨y0, y1⟩, rfl, c2, t2⟩
      obtain ⟨m, rfl⟩ := Int.eq_ofNat_of_zero_le y0
      have s2 := t2.size
      go_wp2_with fail
      refine (l1Bytes_any m _ g hi c2 (by omega)).mono ?_
      rintro e w3 ⟨v3, ys, rfl, o3, hyl, f3, c3, t3⟩
      have s3 := t3.size
      have OWN3 := Lib.hid ((OWN.out.touch t2 (by omega)).touch t3 (by omega))
      have F3 := Lib.hid f3
      have HYL := Lib.hid hyl
      obtain ⟨A3, d3, rfl, -, -⟩ := o3.rd.form
      have O3 := Lib.hid (o3.more s2)
      clear o3 f3 hyl OWN
      go_wp2_with (at_builtin; refine wpList_append_OwnS _ rfl (.tmp 12) (.tmp 17) 33 rfl w.heap.size wr.heap.size 22 5 (by decide) j0 (.slice none 0 0) 24 Try.underlying33 hj hy0 hy1 hy2 rfl _ xss rfl (OWN3.out.below ((Below.refl _ w3).alloc (Nat.le_refl _) (.cells #[.slice A3 ys.length d3] 22)) (by omega)) (by simp; omega) ⟨w3.heap.size, 0, none⟩ 1 rfl (.slice A3 ys.length d3) ys wr.heap.size (Nat.le_refl _) (cell_one4 w3 _ _) (O3.out.alloc (.cells #[.slice A3 ys.length d3] 22)).bd (by have := HXL.out; unfold maxLen; omega) (by have := HXL.out; omega) (by simp; omega) (by simp; omega) ?_)
      intro v4 w4 hO4 row hgr hrow
      have t4 : Touch w w4 g (g + 1) := (((tr.trans t2).trans t3).alloc _).grow hgr (fun g' e => (hrow g' e).1)
      have c4 : Cur w4 g hi := (c3.alloc (.cells #[.slice A3 ys.length d3] 22)).keep fun k' hk' => hgr.block k' (by simp; omega) (fun e => by have := (hrow k' e.symm).1; omega)
      have O4 := Lib.hid hO4
      have WF4 : Hid (∀ zs ∈ xss ++ [ys], Wf .u8 zs) := fun zs hz => by
        rcases List.mem_append.1 hz with hz | hz
        · exact WF.out zs hz
        · simp at hz; subst hz; exact F3.out
      have HT4 : Hid (total (xss ++ [ys]) ≤ 5 * (xss ++ [ys]).length) := by
        have := HT.out
        have := HYL.out
        unfold Hid
        rw [total_append, List.length_append]
        simp [total] at *
        omega
      clear hO4 hgr hrow O3 OWN3
      go_wp2_with fail
      exact ⟨⟨k - 1, xss ++ [ys], by omega, by go_num, O4.out, by have := HXL.out; simp; omega, WF4.out, HT4.out, c4, t4⟩, by simp [intOf]; omega⟩
    · go_wp2_with fail
      go_ret
      exact ⟨_, xss, rfl, OWN.out, by have := HXL.out; omega, WF.out, HT.out, cr, tr⟩

set_option maxRecDepth 100000 in
theorem drawXorAll_any (v : Value) (xs : List Int) (w : World) (l h : Nat) (r : Rd .u8 w l h v xs) (f : Wf .u8 xs) (hh : h ≤ w.heap.size) (hl : xs.length ≤ 1048576) :
    Calls Try.prog 54 #[v] w fun e w' => ∃ v1 xss, e = .returned v1 ∧ OwnS 22 5 w' w.heap.size w'.heap.size v1 xss ∧ xss.length ≤ 4 ∧ (∀ zs ∈ xss, Wf .u8 zs) ∧ total xss ≤ 20 ∧ Below w.heap.size w w' := by
  go_enter Try.func54, Try.ntmps54
  go_wp2_with fail
  refine (l1New_any _ xs _ _ _ r f hh hl).mono ?_
  rintro e w1 ⟨rfl, c1, b1, s1⟩
  go_wp2_with fail
  refine (l4List_any _ _ _ c1).mono ?_
  rintro e w2 ⟨v2, xss, rfl, o2, hn, hw, ht, c2, t2⟩
  have O2 := Lib.hid (o2.more (lo' := w.heap.size) (by omega) (Nat.le_refl _))
  have HN := Lib.hid hn
  have HW := Lib.hid hw
  have HT := Lib.hid ht
  clear o2 hn hw ht
  go_wp2_with fail
  go_ret
  exact ⟨v2, xss, rfl, O2.out, HN.out, HW.out, by have := HT.out; have := HN.out; omega, t2.below b1 (by omega)⟩
set_option maxRecDepth 100000 in
theorem drawXor_any (v : Value) (xs : List Int) (w : World) (l h : Nat) (r : Rd .u8 w l h v xs) (f : Wf .u8 xs) (hh : h ≤ w.heap.size) (hl : xs.length ≤ 1048576) :
    Calls Try.prog 52 #[v] w fun e w' => ∃ v1 ys v2 zs, e = .returned (.tuple #[v1, v2]) ∧ Own .u8 5 w' w.heap.size v1 ys ∧ Own .u8 5 w' w.heap.size v2 zs ∧ ys.length ≤ 6 ∧ zs.length ≤ 6 ∧ Wf .u8 ys ∧ Wf .u8 zs ∧ Below w.heap.size w w' := by
  go_enter Try.func52, Try.ntmps52
  go_wp2_with fail
  refine (l1New_any _ xs _ _ _ r f hh hl).mono ?_
  rintro e w1 ⟨rfl, c1, b1, s1⟩
  go_wp2_with fail
  refine (l1Below_any 7 _ _ _ c1 (by omega)).mono ?_
  rintro e w2 ⟨x, ⟨x0, x1⟩, rfl, c2, t2⟩
  obtain ⟨n, rfl⟩ := Int.eq_ofNat_of_zero_le x0
  go_wp2_with fail
  refine (l1Bytes_any n _ _ _ c2 (by omega)).mono ?_
  rintro e w3 ⟨v1, ys, rfl, o3, hy, f3, c3, t3⟩
  have HY := Lib.hid hy
  clear hy
  go_wp2_with fail
  refine (l1Below_any 7 _ _ _ c3 (by omega)).mono ?_
  rintro e w4 ⟨y, ⟨y0, y1⟩, rfl, c4, t4⟩
  obtain ⟨m, rfl⟩ := Int.eq_ofNat_of_zero_le y0
  have z2 := t2.size
  have z3 := t3.size
  have z4 := t4.size
  have o4 := o3.touch t4 (by omega)
  go_wp2_with fail
  refine (l1Bytes_any m _ _ _ c4 (by omega)).mono ?_
  rintro e w5 ⟨v2, zs, rfl, o5, hz, f5, c5, t5⟩
  have HZ := Lib.hid hz
  clear hz
  have z5 := t5.size
  have o4' := o4.touch t5 (by omega)
  go_wp2_with fail
  go_ret2
  exact ⟨v1, ys, v2, zs, rfl, o4'.more (by omega), o5.more (by omega), by have := HY.out; omega, by have := HZ.out; omega, f3, f5, (((t2.trans t3).trans t4).trans t5).below b1 (by omega)⟩
set_option maxRecDepth 100000 in
theorem drawSplit_any (v : Value) (xs : List Int) (w : World) (l h : Nat) (r : Rd .u8 w l h v xs) (f : Wf .u8 xs) (hh : h ≤ w.heap.size) (hl : xs.length ≤ 1048576) :
    Calls Try.prog 55 #[v] w fun e w' => ∃ v1 ys k, (-1 ≤ k ∧ k ≤ 401) ∧ e = .returned (.tuple #[v1, .int .i64 k]) ∧ Own .u8 5 w' w.heap.size v1 ys ∧ ys.length ≤ 11 ∧ Wf .u8 ys ∧ Below w.heap.size w w' := by
  go_enter Try.func55, Try.ntmps55
  go_wp2_with fail
  refine (l1New_any _ xs _ _ _ r f hh hl).mono ?_
  rintro e w1 ⟨rfl, c1, b1, s1⟩
  go_wp2_with fail
  refine (l1Below_any 12 _ _ _ c1 (by omega)).mono ?_
  rintro e w2 ⟨x, ⟨x0, x1⟩, rfl, c2, t2⟩
  obtain ⟨n, rfl⟩ := Int.eq_ofNat_of_zero_le x0
  go_wp2_with fail
  refine (l1Bytes_any n _ _ _ c2 (by omega)).mono ?_
  rintro e w3 ⟨v1, ys, rfl, o3, hy, f3, c3, t3⟩
  have HY := Lib.hid hy
  clear hy
  have z2 := t2.size
  have z3 := t3.size
  go_wp2_with fail
  refine (l1Int_any _ [-1, 0, 1, 3, 5, 400, 401] _ _ _ _ (c3.alloc _) ((Rd.lit (e := 3) _ 7 rfl rfl (by decide)).more (by omega) (Nat.le_refl _)) (by simp) (by decide)).mono ?_
  rintro e w4 ⟨k, hk, rfl, c4, t4⟩
  have hk' : -1 ≤ k ∧ k ≤ 401 := by simp at hk; omega
  clear hk
  have z4 := t4.size
  simp only [World.size_alloc] at z4
  have o4 := (o3.alloc (.cells #[.int .i64 (-1), .int .i64 0, .int .i64 1, .int .i64 3, .int .i64 5, .int .i64 400, .int .i64 401] 3)).touch t4 (by omega)
  obtain ⟨k0, k1⟩ := hk'
  go_wp2_with fail
  go_ret2
  exact ⟨v1, ys, k, ⟨k0, k1⟩, rfl, o4.more (by omega), by have := HY.out; omega, f3, (((t2.trans t3).alloc _).trans t4).below b1 (by omega)⟩
end Go.Proofs.Ytabfekfbdacboaa
