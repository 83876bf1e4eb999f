/- Contracts of the laws' helpers at slices of byte slices: copies and marks. -/
import Derived.Test.YtffgoedbabpfhaaLists
namespace Go.Proofs.Ytffgoedbabpfhaa
open Go.RowKit
set_option linter.unusedVariables false

section
variable {k : IntKind} {e e2 : TypeId} {w w' : World} {lo hi lo' hi' : Nat} {v u : Value} {us : List Value} {xs ys : List Int}
theorem OwnVB.of_own (ho : Own k e w' lo u ys) (hb : OwnVB e w lo' hi u us) (hl : ys.length = us.length) : OwnVB e w' lo hi u (ys.map (.int k)) := by
  rcases ho with ho | ⟨rfl, h⟩
  · rcases hb with ⟨_, hB⟩ | ⟨rfl, A, rfl⟩
    · exact .inl ⟨by rwa [List.length_map], hB⟩
    · obtain rfl : ys = [] := List.eq_nil_of_length_eq_zero (by simpa using hl)
      exact .inr ⟨rfl, A, rfl⟩
  · exact .inr ⟨rfl, h⟩
theorem OwnVB.tight (h : OwnVB e w lo hi u us) (hlh : lo ≤ hi) : ∃ b b', lo ≤ b ∧ b ≤ b' ∧ b' ≤ hi ∧ OwnVB e w b b' u us ∧ ∀ j, b ≤ j → j < b' → ∃ cur, w.heap[j]? = some (.cells cur e (0, 0)) := by
  rcases h with ⟨⟨h1, ⟨rfl, hn⟩ | ⟨g, cap, cur, rfl, hb, hg, r⟩⟩, hB⟩ | h
  · exact ⟨lo, lo, Nat.le_refl _, Nat.le_refl _, hlh, .inl ⟨⟨h1, .inl ⟨rfl, hn⟩⟩, fun g hg => by cases hg⟩, fun j _ _ => by omega⟩
  · refine ⟨g, g + 1, hb, by omega, hB g rfl, .inl ⟨⟨h1, .inr ⟨g, cap, cur, rfl, Nat.le_refl _, hg, r⟩⟩, fun g' hg' => by cases hg'; exact Nat.lt_succ_self _⟩, fun j h1 h2 => ?_⟩
    obtain rfl : j = g := by omega
    exact ⟨cur, hg⟩
  · exact ⟨lo, lo, Nat.le_refl _, Nat.le_refl _, hlh, .inr h, fun j _ _ => by omega⟩
end
theorem grown_of_below {w w' : World} (hb : Below w.heap.size w w') (row : Option Nat) : w.grownBy w' row := ⟨hb.os, hb.tape, hb.output, hb.size, fun i hi _ => hb.block i hi⟩

theorem toByteSS_any (v : Value) (xss : List (List Int)) (w : World) (l h : Nat) (r : Rds .u8 w l h v xss) (hsm : xss.length + total xss ≤ 1048576) (hh : h ≤ w.heap.size) :
    Calls Try.prog 24 #[v] w fun e w' => ∃ v', e = .returned v' ∧ OwnS 22 5 w' w.heap.size w'.heap.size v' xss ∧ Below w.heap.size w w' := by
  obtain ⟨A, c, rfl, hc1, hc2⟩ := r.form
  unfold maxLen at hc2
  obtain ⟨i0, hi, hz0, hz1, hz2⟩ := info_parts info_rows
  have R := Lib.hid r
  clear r
  go_enter Try.func24, Try.ntmps24
  go_wp2_with (first | (at_make; refine wpList_make_full _ rfl _ _ 27 rfl w.heap.size 22 i0 (.slice none 0 0) 1 Try.underlying27 hi hz0 hz1 _ _ _ _ xss.length rfl rfl rfl rfl ?_ ?_ ?_ ?_))
  · rw [hz2]; omega
  · unfold maxLen; omega
  · exact Nat.le_refl _
  · intro w1 hown hg
    have own0 : w1.ownsRow w.heap.size 22 1 (.slice (some ⟨w.heap.size, 0, none⟩) xss.length xss.length) xss.length ([] ++ List.replicate (xss.length - 0) (.slice none 0 0)) := by
      have e := toList_madeCells_one (.slice none 0 0) xss.length
      simpa [Value.cells, e] using hown
    have bel0 : Below w.heap.size w w1 := (Below.refl _ _).grown hg (Nat.le_refl _) (fun _ h => by cases h)
    have hs0 : w.heap.size < w1.heap.size := (own0.lt w.heap.size rfl).2
    have OWN0 := Lib.hid own0
    clear hown hg hi hz0 hz1 hz2 own0
    go_wp2_with fail
    go_loopw [4] (fun i wr => ∃ (k : Nat) (us : List Value), k ≤ xss.length ∧ i = .int .i64 k ∧ us.length = k ∧ wr.ownsRow w.heap.size 22 1 (.slice (some ⟨w.heap.size, 0, none⟩) xss.length xss.length) xss.length (us ++ List.replicate (xss.length - k) (.slice none 0 0)) ∧ RowsAt 5 wr (w.heap.size + 1) us (xss.take k) wr.heap.size ∧ Below w.heap.size w wr ∧ w.heap.size < wr.heap.size) (fun i _ => xss.length - (intOf i).toNat)
    case atStart => exact ⟨0, [], Nat.zero_le _, rfl, rfl, OWN0.out, hs0, bel0, hs0⟩
    case round =>
      obtain ⟨k, us, hk, rfl, hul, own, rows, bel, hs⟩ := hrel
      clear bel0 hs0
      by_cases hlt : k < xss.length
      · obtain ⟨b, off, c', u, hv, hb1, hb2, c1, ru⟩ := (R.out.below bel hh).at_ hlt
        simp at hv
        obtain ⟨rfl, rfl⟩ := hv
        have hu1 : xss[k].length ≤ 1048576 := by have := total_at xss k hlt; omega
        have OWN := Lib.hid own
        have ROWS := Lib.hid rows
        have HUL := Lib.hid hul
        have BEL := Lib.hid bel
        have hsz := bel.size
        clear own rows hul bel
        go_wp2_with fail
        refine (toByteS_any _ xss[k] _ _ _ ru hu1 (by omega)).mono ?_
        rintro e w2 ⟨u', rfl, o2, bel2⟩
        have hs2 := bel2.size
        obtain ⟨A', d', rfl, -, -⟩ := o2.rd.form
        have own2 := OWN.out.kept (grown_of_below bel2 none) (.inr (by simp [Value.ownBlock]))
        have c2 : ∃ z, w2.cell? ⟨w.heap.size, k, none⟩ = some z := by
          rw [own2.cellAt k (by omega)]
          have : k < (us ++ List.replicate (xss.length - k) (Value.slice none 0 0)).length := by have := HUL.out; simp; omega
          exact ⟨_, List.getElem?_eq_getElem this⟩
        obtain ⟨z, c2⟩ := c2
        have c3 := own2.frozenAt k
        obtain ⟨u', hu'⟩ : ∃ u', u' = Value.slice A' xss[k].length d' := ⟨_, rfl⟩
        rw [← hu'] at o2
        have st := own2.stored k u'
        have rows2 := (ROWS.out.keep (w' := w2) (fun b cur a1 a2 _ => bel2.block b a2)).append (RowsAt.one o2.bd (by omega))
        have rows3 := rows2.keep (w' := w2.setCell ⟨w.heap.size, k, none⟩ u') (fun b cur a1 a2 _ => heap_setCell_other w2 ⟨w.heap.size, k, none⟩ b u' (by show b ≠ w.heap.size; omega))
        have es : (us ++ List.replicate (xss.length - k) (Value.slice none 0 0)).set k u' = (us ++ [u']) ++ List.replicate (xss.length - (k + 1)) (Value.slice none 0 0) := by
          rw [show xss.length - k = (xss.length - (k + 1)) + 1 by omega, List.replicate_succ, List.set_append_right _ _ (by have := HUL.out; omega), HUL.out, Nat.sub_self, List.set_cons_zero, List.append_assoc]
          rfl
        rw [es] at st
        rw [← List.take_succ_eq_append_getElem hlt] at rows3
        have ST := Lib.hid st.1
        have ROWS3 := Lib.hid rows3
        have BEL3 := Lib.hid ((BEL.out.trans (bel2.mono hsz)).setCell (p := ⟨w.heap.size, k, none⟩) (Nat.le_refl _) u')
        have HUL3 : Hid ((us ++ [u']).length = k + 1) := by have := HUL.out; show _ = _; simp [this]
        clear own2 st rows2 rows3 o2 es
        subst hu'
        go_wp2_with fail
        exact ⟨⟨k + 1, us ++ [_], by omega, by go_num, HUL3.out, ST.out, by simpa using ROWS3.out, BEL3.out, by simp; omega⟩, by simp [intOf]; omega⟩
      · obtain rfl : k = xss.length := by omega
        have OWN := Lib.hid own
        have ROWS := Lib.hid rows
        have HUL := Lib.hid hul
        have BEL := Lib.hid bel
        clear own rows hul bel
        go_wp2_with fail
        go_ret
        have o := OWN.out
        have rs := ROWS.out
        rw [List.take_of_length_le (Nat.le_refl _)] at rs
        refine ⟨_, rfl, ⟨us, .inl ⟨?_, fun g hg => by cases hg; exact hs⟩, rs.more (by omega) (Nat.le_refl _)⟩, BEL.out⟩
        have e := HUL.out
        simpa [e] using o

theorem markByteSS_any (v : Value) (xss : List (List Int)) (k : Int) (w : World) (lo hi : Nat) (o : OwnS 22 5 w lo hi v xss) (r : Rds .u8 w lo hi v xss) (hk : 0 ≤ k ∧ k ≤ 1000000000) (hl : total xss ≤ 1000000000) :
    Calls Try.prog 20 #[v, .int .i64 k] w fun e w' => e = .returned (.int .i64 (k + total xss)) ∧ OwnS 22 5 w' lo hi v (markSS k xss) ∧ Rds .u8 w' lo hi v (markSS k xss) ∧ Touch w w' lo hi := by
  obtain ⟨hk0, hk1⟩ := hk
  obtain ⟨A, c, rfl, hc1, hc2⟩ := r.form
  unfold maxLen at hc2
  clear r
  obtain ⟨us, o1, o2⟩ := o
  have hul := Lib.hid o2.len
  have hle := o2.le
  have O1 := Lib.hid o1
  have O2 := Lib.hid o2
  clear o1 o2
  go_enter Try.func20, Try.ntmps20
  go_wp2_with fail
  go_loopw [1, 5] (fun q i wr => ∃ j : Nat, j ≤ xss.length ∧ i = .int .i64 j ∧ q = .int .i64 (k + total (xss.take j)) ∧ OwnVB 22 wr lo hi (.slice A xss.length c) us ∧ RowsAt 5 wr lo us (markSS k (xss.take j) ++ xss.drop j) hi ∧ Touch w wr lo hi) (fun _ i _ => xss.length - (intOf i).toNat)
  case atStart => exact ⟨0, Nat.zero_le _, rfl, by simp [total], O1.out, by simpa [markSS] using O2.out, Touch.refl _ _ _⟩
  case round =>
    obtain ⟨j, hj, rfl, rfl, own, rows, tch⟩ := hrel
    by_cases hlt : j < xss.length
    · have hju : j < us.length := by rw [hul.out]; exact hlt
      obtain ⟨g, c', cur, hv, g1, g2, hg, _, _, _, hcell⟩ := own.at_ (by omega)
      simp at hv
      obtain ⟨rfl, -, rfl⟩ := hv
      have c1 := hcell j us[j] (by simp [hju])
      have hus : us = us.take j ++ us[j] :: us.drop (j + 1) := by rw [← List.drop_eq_getElem_cons hju, List.take_append_drop]
      have hxs : xss.drop j = xss[j] :: xss.drop (j + 1) := List.drop_eq_getElem_cons hlt
      rw [hxs, hus] at rows
      obtain ⟨m1, ra, rb⟩ := rows.split (by rw [List.length_take, markSS_length, List.length_take]; omega)
      obtain ⟨m2, hm, oj, rc⟩ := rb
      have la := ra.le
      have lc := rc.le
      obtain ⟨b, b', t1, t2, t3, tj, tt⟩ := oj.tight hm
      have htot := total_at xss j hlt
      have HT := Lib.hid (total_take xss j hlt)
      have hms := markSS_snoc k (xss.take j) xss[j]
      rw [← List.take_succ_eq_append_getElem hlt] at hms
      have HMS := Lib.hid hms
      have OWN := Lib.hid own
      have RA := Lib.hid ra
      have RC := Lib.hid rc
      have TT := Lib.hid tt
      have TJ := Lib.hid tj
      have OJ := Lib.hid oj
      have TCH := Lib.hid tch
      have HUS := Lib.hid hus
      clear own ra rc rows tt tj oj hcell hus hxs hms tch
      go_wp2_with fail
      refine (markByteS_any _ xss[j] (k + total (xss.take j)) _ b b' TJ.out.own TJ.out.rd (by omega) (by omega)).mono ?_
      rintro e w1 ⟨rfl, p1, p2, p3⟩
      have own1 : OwnVB 22 w1 lo hi (.slice (some ⟨g, 0, none⟩) xss.length c) us := OWN.out.keep (fun x cur' a1 a2 a3 => p3.block x (Array.getElem?_eq_some_iff.1 a3).1 (by
        by_cases hx : b ≤ x ∧ x < b'
        · obtain ⟨cc, hcc⟩ := TT.out x hx.1 hx.2
          rw [a3] at hcc
          simp at hcc
        · omega))
      have ra1 := RA.out.keep (w' := w1) (fun x cur' a1 a2 a3 => p3.block x (Array.getElem?_eq_some_iff.1 a3).1 (by omega))
      have rc1 := RC.out.keep (w' := w1) (fun x cur' a1 a2 a3 => p3.block x (Array.getElem?_eq_some_iff.1 a3).1 (by omega))
      have oj1 : OwnVB 5 w1 m1 m2 us[j] ((markU8 (k + total (xss.take j)) xss[j].length).map (.int .u8)) := (OwnVB.of_own p1 TJ.out (by rw [markU8_length, List.length_map])).more t1 t3
      have rows1 : RowsAt 5 w1 lo us (markSS k (xss.take (j + 1)) ++ xss.drop (j + 1)) hi := by
        rw [HMS.out, List.append_assoc, HUS.out]
        exact ra1.append ⟨m2, hm, oj1, rc1⟩
      have ROWS1 := Lib.hid rows1
      have OWN1 := Lib.hid own1
      have T1 := Lib.hid (TCH.out.trans (p3.more (by omega) (by omega)))
      clear p1 p2 p3 ra1 rc1 oj1 rows1 own1
      go_wp2_with fail
      exact ⟨⟨j + 1, by omega, by go_num, by rw [HT.out]; go_num, OWN1.out, ROWS1.out, T1.out⟩, by simp [intOf]; omega⟩
    · obtain rfl : j = xss.length := by omega
      have OWN := Lib.hid own
      have ROWS := Lib.hid rows
      have TCH := Lib.hid tch
      clear own rows tch
      go_wp2_with fail
      go_ret
      have rs := ROWS.out
      rw [List.take_of_length_le (Nat.le_refl _), List.drop_length, List.append_nil] at rs
      have os : OwnS 22 5 wr lo hi (.slice A xss.length c) (markSS k xss) := ⟨us, OWN.out, rs⟩
      exact ⟨ret_int (by rw [List.take_of_length_le (Nat.le_refl _)]), os, os.rd, TCH.out⟩

theorem heldByteSS_any (v : Value) (k : Int) (xss : List (List Int)) (w : World) (lo hi : Nat) (r : Rds .u8 w lo hi v (markSS k xss)) (hk : 0 ≤ k ∧ k ≤ 1000000000) (hl : total xss ≤ 1000000000 ∧ hi ≤ w.heap.size) :
    Calls Try.prog 21 #[v, .int .i64 k] w fun e w' => e = .returned (.int .i64 (k + total xss)) ∧ Below w.heap.size w w' := by
  obtain ⟨hk0, hk1⟩ := hk
  obtain ⟨hl1, hh⟩ := hl
  obtain ⟨A, c, rfl, hc1, hc2⟩ := r.form
  unfold maxLen at hc2
  have R := Lib.hid r
  clear r
  rw [markSS_length] at *
  go_enter Try.func21, Try.ntmps21
  go_wp2_with fail
  go_loopw [1, 5] (fun q i wr => ∃ j : Nat, j ≤ xss.length ∧ i = .int .i64 j ∧ q = .int .i64 (k + total (xss.take j)) ∧ Below w.heap.size w wr) (fun _ i _ => xss.length - (intOf i).toNat)
  case atStart => exact ⟨0, Nat.zero_le _, rfl, by simp [total], Below.refl _ _⟩
  case round =>
    obtain ⟨j, hj, rfl, rfl, bel⟩ := hrel
    have hsz := bel.size
    by_cases hlt : j < xss.length
    · obtain ⟨b, off, c', u, hv, hb1, hb2, c1, ru⟩ := (R.out.below bel hh).at_ (i := j) (by rw [markSS_length]; omega)
      simp [markSS_length] at hv
      obtain ⟨rfl, rfl⟩ := hv
      have hg := markSS_get k xss j hlt
      rw [List.getElem?_eq_getElem (by rw [markSS_length]; omega)] at hg
      simp only [Option.some.injEq] at hg
      rw [hg] at ru
      have htot := total_at xss j hlt
      have HT := Lib.hid (total_take xss j hlt)
      clear hg
      go_wp2_with fail
      refine (heldByteS_any _ (k + total (xss.take j)) xss[j].length _ _ _ ru (by omega) (by omega)).mono ?_
      rintro e w1 ⟨rfl, bel1⟩
      have BEL1 := Lib.hid (bel.trans (bel1.mono hsz))
      clear bel bel1
      go_wp2_with fail
      exact ⟨⟨j + 1, by omega, by go_num, by rw [HT.out]; go_num, BEL1.out⟩, by simp [intOf]; omega⟩
    · obtain rfl : j = xss.length := by omega
      go_wp2_with fail
      go_ret
      exact ⟨ret_int (by rw [List.take_of_length_le (Nat.le_refl _)]), bel⟩
end Go.Proofs.Ytffgoedbabpfhaa
