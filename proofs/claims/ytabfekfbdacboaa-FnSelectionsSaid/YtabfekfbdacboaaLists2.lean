/- Contracts of the laws' helpers at slices of byte slices: copies and marks. -/
import Derived.Test.YtabfekfbdacboaaLists
namespace Go.Proofs.Ytabfekfbdacboaa
open Go.RowKit
set_option linter.unusedVariables false

section
variable {k : IntKind} {e e2 : TypeId} {w w' : World} {lo hi lo' hi' : Nat} {v u : Value} {us : List Value} {xs ys : List Int}
theorem OwnVB.of_own (ho : Own k e w' lo u ys) (hb : OwnVB e w lo' hi u us) (hl : ys.length = us.length) : OwnVB e w' lo hi u (ys.map (.int k)) := by
  rcases ho with ho | ⟨rfl, h⟩
  · rcases hb with ⟨_, hB⟩ | ⟨rfl, A, rfl⟩
    · exact .inl ⟨by rwa [List.length_map], hB⟩
    · obtain rfl : ys = [] := List.eq_nil_of_length_eq_zero (by simpa using hl)
      exact .inr ⟨rfl, A, rfl⟩
  · exact .inr ⟨rfl, h⟩
theorem OwnVB.tight (h : OwnVB e w lo hi u us) (hlh : lo ≤ hi) : ∃ b b', lo ≤ b ∧ b ≤ b' ∧ b' ≤ hi ∧ OwnVB e w b b' u us ∧ ∀ j, b ≤ j → j < b' → ∃ cur, w.heap[j]? = some (.cells cur e (0, 0)) := by
  rcases h with ⟨⟨h1, ⟨rfl, hn⟩ | ⟨g, cap, cur, rfl, hb, hg, r⟩⟩, hB⟩ | h
  · exact ⟨lo, lo, Nat.le_refl _, Nat.le_refl _, hlh, .inl ⟨⟨h1, .inl ⟨rfl, hn⟩⟩, fun g hg => by cases hg⟩, fun j _ _ => by omega⟩
  · refine ⟨g, g + 1, hb, by omega, hB g rfl, .inl ⟨⟨h1, .inr ⟨g, cap, cur, rfl, Nat.le_refl _, hg, r⟩⟩, fun g' hg' => by cases hg'; exact Nat.lt_succ_self _⟩, fun j h1 h2 => ?_⟩
    obtain rfl : j = g := by omega
    exact ⟨cur, hg⟩
  · exact ⟨lo, lo, Nat.le_refl _, Nat.le_refl _, hlh, .inr h, fun j _ _ => by omega⟩
end
theorem grown_of_below {w w' : World} (hb : Below w.heap.size w w') (row : Option Nat) : w.grownBy w' row := ⟨hb.os, hb.tape, hb.output, hb.size, fun i hi _ => hb.block i hi⟩

theorem markByteSS_any (v : Value) (xss : List (List Int)) (k : Int) (w : World) (lo hi : Nat) (o : OwnS 22 5 w lo hi v xss) (r : Rds .u8 w lo hi v xss) (hk : 0 ≤ k ∧ k ≤ 1000000000) (hl : total xss ≤ 1000000000) :
    Calls Try.prog 41 #[v, .int .i64 k] w fun e w' => e = .returned (.int .i64 (k + total xss)) ∧ OwnS 22 5 w' lo hi v (markSS k xss) ∧ Rds .u8 w' lo hi v (markSS k xss) ∧ Touch w w' lo hi := by
  obtain ⟨hk0, hk1⟩ := hk
  obtain ⟨A, c, rfl, hc1, hc2⟩ := r.form
  unfold maxLen at hc2
  clear r
  obtain ⟨us, o1, o2⟩ := o
  have hul := Lib.hid o2.len
  have hle := o2.le
  have O1 := Lib.hid o1
  have O2 := Lib.hid o2
  clear o1 o2
  go_enter Try.func41, Try.ntmps41
  go_wp2_with fail
  go_loopw [1, 5] (fun q i wr => ∃ j : Nat, j ≤ xss.length ∧ i = .int .i64 j ∧ q = .int .i64 (k + total (xss.take j)) ∧ OwnVB 22 wr lo hi (.slice A xss.length c) us ∧ RowsAt 5 wr lo us (markSS k (xss.take j) ++ xss.drop j) hi ∧ Touch w wr lo hi) (fun _ i _ => xss.length - (intOf i).toNat)
  case atStart => exact ⟨0, Nat.zero_le _, rfl, by simp [total], O1.out, by simpa [markSS] using O2.out, Touch.refl _ _ _⟩
  case round =>
    obtain ⟨j, hj, rfl, rfl, own, rows, tch⟩ := hrel
    by_cases hlt : j < xss.length
    · have hju : j < us.length := by rw [hul.out]; exact hlt
      obtain ⟨g, c', cur, hv, g1, g2, hg, _, _, _, hcell⟩ := own.at_ (by omega)
      simp at hv
      obtain ⟨rfl, -, rfl⟩ := hv
      have c1 := hcell j us[j] (by simp [hju])
      have hus : us = us.take j ++ us[j] :: us.drop (j + 1) := by rw [← List.drop_eq_getElem_cons hju, List.take_append_drop]
      have hxs : xss.drop j = xss[j] :: xss.drop (j + 1) := List.drop_eq_getElem_cons hlt
      rw [hxs, hus] at rows
      obtain ⟨m1, ra, rb⟩ := rows.split (by rw [List.length_take, markSS_length, List.length_take]; omega)
      obtain ⟨m2, hm, oj, rc⟩ := rb
      have la := ra.le
      have lc := rc.le
      obtain ⟨b, b', t1, t2, t3, tj, tt⟩ := oj.tight hm
      have htot := total_at xss j hlt
      have HT := Lib.hid (total_take xss j hlt)
      have hms := markSS_snoc k (xss.take j) xss[j]
      rw [← List.take_succ_eq_append_getElem hlt] at hms
      have HMS := Lib.hid hms
      have OWN := Lib.hid own
      have RA := Lib.hid ra
      have RC := Lib.hid rc
      have TT := Lib.hid tt
      have TJ := Lib.hid tj
      have OJ := Lib.hid oj
      have TCH := Lib.hid tch
      have HUS := Lib.hid hus
      clear own ra rc rows tt tj oj hcell hus hxs hms tch
      go_wp2_with fail
      refine (markByteS_any _ xss[j] (k + total (xss.take j)) _ b b' TJ.out.own TJ.out.rd (by omega) (by omega)).mono ?_
      rintro e w1 ⟨rfl, p1, p2, p3⟩
      have own1 : OwnVB 22 w1 lo hi (.slice (some ⟨g, 0, none⟩) xss.length c) us := OWN.out.keep (fun x cur' a1 a2 a3 => p3.block x (Array.getElem?_eq_some_iff.1 a3).1 (by
        by_cases hx : b ≤ x ∧ x < b'
        · obtain ⟨cc, hcc⟩ := TT.out x hx.1 hx.2
          rw [a3] at hcc
          simp at hcc
        · omega))
      have ra1 := RA.out.keep (w' := w1) (fun x cur' a1 a2 a3 => p3.block x (Array.getElem?_eq_some_iff.1 a3).1 (by omega))
      have rc1 := RC.out.keep (w' := w1) (fun x cur' a1 a2 a3 => p3.block x (Array.getElem?_eq_some_iff.1 a3).1 (by omega))
      have oj1 : OwnVB 5 w1 m1 m2 us[j] ((markU8 (k + total (xss.take j)) xss[j].length).map (.int .u8)) := (OwnVB.of_own p1 TJ.out (by rw [markU8_length, List.length_map])).more t1 t3
      have rows1 : RowsAt 5 w1 lo us (markSS k (xss.take (j + 1)) ++ xss.drop (j + 1)) hi := by
        rw [HMS.out, List.append_assoc, HUS.out]
        exact ra1.append ⟨m2, hm, oj1, rc1⟩
      have ROWS1 := Lib.hid rows1
      have OWN1 := Lib.hid own1
      have T1 := Lib.hid (TCH.out.trans (p3.more (by omega) (by omega)))
      clear p1 p2 p3 ra1 rc1 oj1 rows1 own1
      go_wp2_with fail
      exact ⟨⟨j + 1, by omega, by go_num, by rw [HT.out]; go_num, OWN1.out, ROWS1.out, T1.out⟩, by simp [intOf]; omega⟩
    · obtain rfl : j = xss.length := by omega
      have OWN := Lib.hid own
      have ROWS := Lib.hid rows
      have TCH := Lib.hid tch
      clear own rows tch
      go_wp2_with fail
      go_ret
      have rs := ROWS.out
      rw [List.take_of_length_le (Nat.le_refl _), List.drop_length, List.append_nil] at rs
      have os : OwnS 22 5 wr lo hi (.slice A xss.length c) (markSS k xss) := ⟨us, OWN.out, rs⟩
      exact ⟨ret_int (by rw [List.take_of_length_le (Nat.le_refl _)]), os, os.rd, TCH.out⟩

theorem heldByteSS_any (v : Value) (k : Int) (xss : List (List Int)) (w : World) (lo hi : Nat) (r : Rds .u8 w lo hi v (markSS k xss)) (hk : 0 ≤ k ∧ k ≤ 1000000000) (hl : total xss ≤ 1000000000 ∧ hi ≤ w.heap.size) :
    Calls Try.prog 42 #[v, .int .i64 k] w fun e w' => e = .returned (.int .i64 (k + total xss)) ∧ Below w.heap.size w w' := by
  obtain ⟨hk0, hk1⟩ := hk
  obtain ⟨hl1, hh⟩ := hl
  obtain ⟨A, c, rfl, hc1, hc2⟩ := r.form
  unfold maxLen at hc2
  have R := Lib.hid r
  clear r
  rw [markSS_length] at *
  go_enter Try.func42, Try.ntmps42
  go_wp2_with fail
  go_loopw [1, 5] (fun q i wr => ∃ j : Nat, j ≤ xss.length ∧ i = .int .i64 j ∧ q = .int .i64 (k + total (xss.take j)) ∧ Below w.heap.size w wr) (fun _ i _ => xss.length - (intOf i).toNat)
  case atStart => exact ⟨0, Nat.zero_le _, rfl, by simp [total], Below.refl _ _⟩
  case round =>
    obtain ⟨j, hj, rfl, rfl, bel⟩ := hrel
    have hsz := bel.size
    by_cases hlt : j < xss.length
    · obtain ⟨b, off, c', u, hv, hb1, hb2, c1, ru⟩ := (R.out.below bel hh).at_ (i := j) (by rw [markSS_length]; omega)
      simp [markSS_length] at hv
      obtain ⟨rfl, rfl⟩ := hv
      have hg := markSS_get k xss j hlt
      rw [List.getElem?_eq_getElem (by rw [markSS_length]; omega)] at hg
      simp only [Option.some.injEq] at hg
      rw [hg] at ru
      have htot := total_at xss j hlt
      have HT := Lib.hid (total_take xss j hlt)
      clear hg
      go_wp2_with fail
      refine (heldByteS_any _ (k + total (xss.take j)) xss[j].length _ _ _ ru (by omega) (by omega)).mono ?_
      rintro e w1 ⟨rfl, bel1⟩
      have BEL1 := Lib.hid (bel.trans (bel1.mono hsz))
      clear bel bel1
      go_wp2_with fail
      exact ⟨⟨j + 1, by omega, by go_num, by rw [HT.out]; go_num, BEL1.out⟩, by simp [intOf]; omega⟩
    · obtain rfl : j = xss.length := by omega
      go_wp2_with fail
      go_ret
      exact ⟨ret_int (by rw [List.take_of_length_le (Nat.le_refl _)]), bel⟩
end Go.Proofs.Ytabfekfbdacboaa
