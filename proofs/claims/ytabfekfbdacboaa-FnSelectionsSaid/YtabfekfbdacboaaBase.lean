/- Contracts of the laws' own helpers: copies, comparisons, marks. -/
import Derived.Test.YtabfekfbdacboaaCore
import Derived.Test.YtabfekfbdacboaaChecked
import Derived.WalkSpells
import Derived.WalkLawsBesides
import Derived.Deep.QuietTactic
import Derived.BigQuiet
namespace Go.Proofs.Ytabfekfbdacboaa
open Go.RowKit
set_option linter.unusedVariables false

theorem take_succ_eq {xs ys : List Int} {k : Nat} (h : xs.take k = ys.take k) (hx : k < xs.length) (hy : k < ys.length) (he : (xs[k] != ys[k]) = false) : xs.take (k + 1) = ys.take (k + 1) := by
  rw [List.take_succ_eq_append_getElem hx, List.take_succ_eq_append_getElem hy, h, show xs[k] = ys[k] by simpa using he]
theorem take_all_eq {xs ys : List Int} {k : Nat} (h : xs.take k = ys.take k) (hl : xs.length = ys.length) (hk : ¬ k < xs.length) : xs = ys := by
  rwa [List.take_of_length_le (by omega), List.take_of_length_le (by omega)] at h
theorem ne_of_at {xs ys : List Int} {k : Nat} (hx : k < xs.length) (hy : k < ys.length) (he : (xs[k] != ys[k]) = true) : decide (xs = ys) = false := by
  rw [decide_eq_false_iff_not]
  rintro rfl
  simp at he
theorem ret_bool {a b : Bool} (h : a = b) : Ending.returned (.bool a) = .returned (.bool b) := by rw [h]
theorem ret_int {k : IntKind} {a b : Int} (h : a = b) : Ending.returned (.int k a) = .returned (.int k b) := by rw [h]
theorem info_u8 : (Try.prog.info? 5).map (fun i => (i.zero, i.size, i.bytes)) = some (some (.int .u8 0), 1, 1) := by kernel_rfl
theorem info_int : (Try.prog.info? 3).map (fun i => (i.zero, i.size, i.bytes)) = some (some (.int .i64 0), 1, 8) := by kernel_rfl

/-- A row of zeros that is being filled from its head. -/
def filled (xs : List Int) (k : Nat) : List Int := xs.take k ++ List.replicate (xs.length - k) 0
theorem filled_length (xs : List Int) (k : Nat) (h : k ≤ xs.length) : (filled xs k).length = xs.length := by simp [filled]; omega
theorem filled_zero (xs : List Int) : filled xs 0 = List.replicate xs.length 0 := by simp [filled]
theorem filled_all (xs : List Int) {k : Nat} (h : ¬ k < xs.length) : filled xs k = xs := by
  simp [filled, List.take_of_length_le (show xs.length ≤ k by omega), show xs.length - k = 0 by omega]
theorem filled_set (xs : List Int) (k : Nat) (h : k < xs.length) : (filled xs k).set k xs[k] = filled xs (k + 1) := by
  have e : xs.length - k = (xs.length - (k + 1)) + 1 := by omega
  have hl : (xs.take k).length = k := by rw [List.length_take]; omega
  unfold filled
  rw [e, List.replicate_succ, List.set_append_right _ _ (by omega), hl, Nat.sub_self, List.set_cons_zero, List.take_succ_eq_append_getElem h, List.append_assoc]
  rfl
theorem map_set (k : IntKind) (xs : List Int) (i : Nat) (x : Int) : (xs.map (Value.int k)).set i (.int k x) = (xs.set i x).map (.int k) := by rw [List.map_set]

/-- The numbers that a mark lays: k, k+1, .. (as bytes: modulo 256). -/
def marks (k : Int) : Nat → List Int
  | 0 => []
  | n + 1 => marks k n ++ [k + n]
theorem marks_length (k : Int) (n : Nat) : (marks k n).length = n := by
  induction n with
  | zero => rfl
  | succ n ih => simp [marks, ih]
theorem marks_get (k : Int) (n i : Nat) (h : i < n) : (marks k n)[i]? = some (k + i) := by
  induction n with
  | zero => omega
  | succ n ih =>
    by_cases hi : i < n
    · rw [marks, List.getElem?_append_left (by rw [marks_length]; exact hi)]; exact ih hi
    · obtain rfl : i = n := by omega
      rw [marks, List.getElem?_append_right (by rw [marks_length]; omega), marks_length]
      simp

theorem eqByteS_any (v1 v2 : Value) (xs ys : List Int) (w : World) (l1 h1 l2 h2 : Nat) (r1 : Rd .u8 w l1 h1 v1 xs) (r2 : Rd .u8 w l2 h2 v2 ys) :
    Calls Try.prog 31 #[v1, v2] w fun e w' => e = .returned (.bool (decide (xs = ys))) ∧ ∃ n, w' = w.drewN n := by
  obtain ⟨A, c, rfl, hc1, hc2, hr⟩ := r1
  obtain ⟨B, d, rfl, hd1, hd2, hs⟩ := r2
  unfold maxLen at hc2 hd2
  by_cases hlen : xs.length = ys.length
  · have hne : ((xs.length : Int) != (ys.length : Int)) = false := by simp [hlen]
    have HL := Lib.hid hlen
    clear hlen
    go_enter Try.func31, Try.ntmps31
    go_wp2
    go_loopw [5] (fun i wr => ∃ k n : Nat, k ≤ xs.length ∧ i = .int .i64 k ∧ xs.take k = ys.take k ∧ wr = w.drewN n) (fun i _ => xs.length - (intOf i).toNat)
    case atStart => exact ⟨0, 0, Nat.zero_le _, rfl, by simp, rfl⟩
    case round =>
      obtain ⟨k, n, hk, rfl, htk, rfl⟩ := hrel
      have HT := Lib.hid htk
      clear htk
      by_cases hlt : k < xs.length
      · obtain ⟨b, off, rfl, _, _, hcell⟩ := hr (by omega)
        obtain ⟨b2, off2, rfl, _, _, hcell2⟩ := hs (by have := HL.out; omega)
        have hlt2 : k < ys.length := by have := HL.out; omega
        have c1 := hcell k xs[k] (by simp [hlt])
        have c2 := hcell2 k ys[k] (by simp [hlt2])
        clear hcell hcell2 hr hs
        go_wp2
        go_quiet (fail)
        go_wp2
        · have he : (xs[k] != ys[k]) = true := by assumption
          go_ret
          exact ⟨ret_bool (ne_of_at hlt hlt2 he).symm, _, World.drewN_drewN _ _ _⟩
        · have he : (xs[k] != ys[k]) = false := by assumption
          exact ⟨⟨k + 1, _, by omega, by go_num, take_succ_eq HT.out hlt hlt2 he, rfl⟩, by simp [intOf]; omega⟩
      · clear hr hs
        go_wp2
        go_ret
        exact ⟨ret_bool (by rw [decide_eq_true (take_all_eq HT.out HL.out hlt)]), _, rfl⟩
  · have hne : ((xs.length : Int) != (ys.length : Int)) = true := by simp; omega
    have hf : decide (xs = ys) = false := by
      rw [decide_eq_false_iff_not]; rintro rfl; exact hlen rfl
    have HF := Lib.hid hf
    clear hf hlen hr hs
    go_enter Try.func31, Try.ntmps31
    go_wp2
    go_ret
    exact ⟨ret_bool HF.out.symm, 0, rfl⟩

theorem eqByteS_same (v1 v2 : Value) (xs : List Int) (w : World) (l1 h1 l2 h2 : Nat) (r1 : Rd .u8 w l1 h1 v1 xs) (r2 : Rd .u8 w l2 h2 v2 xs) :
    Calls Try.prog 31 #[v1, v2] w fun e w' => e = .returned (.bool true) ∧ Below w.heap.size w w' := by
  have h := ofQuiet (eqByteS_any v1 v2 xs xs w l1 h1 l2 h2 r1 r2)
  rwa [decide_eq_true (rfl : xs = xs)] at h

theorem toByteS_any (v : Value) (xs : List Int) (w : World) (l h : Nat) (r : Rd .u8 w l h v xs) (hsm : xs.length ≤ 1048576) (hh : h ≤ w.heap.size) :
    Calls Try.prog 29 #[v] w fun e w' => ∃ v', e = .returned v' ∧ Own .u8 5 w' w.heap.size v' xs ∧ Below w.heap.size w w' := by
  obtain ⟨A, c, rfl, hc1, hc2, hr⟩ := r
  unfold maxLen at hc2
  obtain ⟨i0, hi, hz0, hz1, hz2⟩ := info_parts info_u8
  go_enter Try.func29, Try.ntmps29
  go_wp2_with (first | (at_make; refine wpList_make_full _ rfl _ _ 22 rfl w.heap.size 5 i0 (.int .u8 0) 1 Try.underlying22 hi hz0 hz1 _ _ _ _ xs.length rfl rfl rfl rfl ?_ ?_ ?_ ?_))
  · rw [hz2]; omega
  · unfold maxLen; omega
  · exact Nat.le_refl _
  · intro w1 hown hg
    have own0 : w1.ownsRow w.heap.size 5 1 (.slice (some ⟨w.heap.size, 0, none⟩) xs.length xs.length) xs.length ((filled xs 0).map (.int .u8)) := by
      rw [filled_zero, List.map_replicate]
      have e := toList_madeCells_one (.int .u8 0) xs.length
      simpa [Value.cells, e] using hown
    have bel0 : Below w.heap.size w w1 := (Below.refl _ _).grown hg (Nat.le_refl _) (fun _ h => by cases h)
    clear hown hg hi hz0 hz1 hz2
    go_wp2
    go_loopw [4] (fun i wr => ∃ k : Nat, k ≤ xs.length ∧ i = .int .i64 k ∧ wr.ownsRow w.heap.size 5 1 (.slice (some ⟨w.heap.size, 0, none⟩) xs.length xs.length) xs.length ((filled xs k).map (.int .u8)) ∧ Below w.heap.size w wr) (fun i _ => xs.length - (intOf i).toNat)
    case atStart => exact ⟨0, Nat.zero_le _, rfl, own0, bel0⟩
    case round =>
      obtain ⟨k, hk, rfl, own, bel⟩ := hrel
      clear own0 bel0
      by_cases hlt : k < xs.length
      · obtain ⟨b, off, rfl, _, hb, hcell⟩ := hr (by omega)
        have c1 := (bel.cell (p := ⟨b, off + k, none⟩) (by show b < _; omega)).trans (hcell k xs[k] (by simp [hlt]))
        have c2 : wr.cell? ⟨w.heap.size, k, none⟩ = some (.int .u8 ((filled xs k)[k]'(by rw [filled_length xs k hk]; exact hlt))) := by
          rw [own.cellAt k (by omega)]
          simp [filled_length xs k hk, hlt]
        have c3 := own.frozenAt k
        have st := own.stored k (.int .u8 xs[k])
        rw [map_set, filled_set xs k hlt] at st
        have ST := Lib.hid st
        have BEL := Lib.hid bel
        clear st bel own hcell hr
        go_wp2
        exact ⟨⟨k + 1, by omega, by go_num, ST.out.1, BEL.out.setCell (Nat.le_refl _) _⟩, by simp [intOf]; omega⟩
      · have OWN := Lib.hid own
        have BEL := Lib.hid bel
        clear own bel hr
        go_wp2
        go_ret
        refine ⟨_, rfl, .inl ?_, BEL.out⟩
        have := OWN.out
        rwa [filled_all xs hlt] at this
theorem eqIntS_any (v1 v2 : Value) (xs ys : List Int) (w : World) (l1 h1 l2 h2 : Nat) (r1 : Rd .i64 w l1 h1 v1 xs) (r2 : Rd .i64 w l2 h2 v2 ys) :
    Calls Try.prog 49 #[v1, v2] w fun e w' => e = .returned (.bool (decide (xs = ys))) ∧ ∃ n, w' = w.drewN n := by
  obtain ⟨A, c, rfl, hc1, hc2, hr⟩ := r1
  obtain ⟨B, d, rfl, hd1, hd2, hs⟩ := r2
  unfold maxLen at hc2 hd2
  by_cases hlen : xs.length = ys.length
  · have hne : ((xs.length : Int) != (ys.length : Int)) = false := by simp [hlen]
    have HL := Lib.hid hlen
    clear hlen
    go_enter Try.func49, Try.ntmps49
    go_wp2
    go_loopw [5] (fun i wr => ∃ k n : Nat, k ≤ xs.length ∧ i = .int .i64 k ∧ xs.take k = ys.take k ∧ wr = w.drewN n) (fun i _ => xs.length - (intOf i).toNat)
    case atStart => exact ⟨0, 0, Nat.zero_le _, rfl, by simp, rfl⟩
    case round =>
      obtain ⟨k, n, hk, rfl, htk, rfl⟩ := hrel
      have HT := Lib.hid htk
      clear htk
      by_cases hlt : k < xs.length
      · obtain ⟨b, off, rfl, _, _, hcell⟩ := hr (by omega)
        obtain ⟨b2, off2, rfl, _, _, hcell2⟩ := hs (by have := HL.out; omega)
        have hlt2 : k < ys.length := by have := HL.out; omega
        have c1 := hcell k xs[k] (by simp [hlt])
        have c2 := hcell2 k ys[k] (by simp [hlt2])
        clear hcell hcell2 hr hs
        go_wp2
        go_quiet (fail)
        go_wp2
        · have he : (xs[k] != ys[k]) = true := by assumption
          go_ret
          exact ⟨ret_bool (ne_of_at hlt hlt2 he).symm, _, World.drewN_drewN _ _ _⟩
        · have he : (xs[k] != ys[k]) = false := by assumption
          exact ⟨⟨k + 1, _, by omega, by go_num, take_succ_eq HT.out hlt hlt2 he, rfl⟩, by simp [intOf]; omega⟩
      · clear hr hs
        go_wp2
        go_ret
        exact ⟨ret_bool (by rw [decide_eq_true (take_all_eq HT.out HL.out hlt)]), _, rfl⟩
  · have hne : ((xs.length : Int) != (ys.length : Int)) = true := by simp; omega
    have hf : decide (xs = ys) = false := by
      rw [decide_eq_false_iff_not]; rintro rfl; exact hlen rfl
    have HF := Lib.hid hf
    clear hf hlen hr hs
    go_enter Try.func49, Try.ntmps49
    go_wp2
    go_ret
    exact ⟨ret_bool HF.out.symm, 0, rfl⟩

theorem eqIntS_same (v1 v2 : Value) (xs : List Int) (w : World) (l1 h1 l2 h2 : Nat) (r1 : Rd .i64 w l1 h1 v1 xs) (r2 : Rd .i64 w l2 h2 v2 xs) :
    Calls Try.prog 49 #[v1, v2] w fun e w' => e = .returned (.bool true) ∧ Below w.heap.size w w' := by
  have h := ofQuiet (eqIntS_any v1 v2 xs xs w l1 h1 l2 h2 r1 r2)
  rwa [decide_eq_true (rfl : xs = xs)] at h

end Go.Proofs.Ytabfekfbdacboaa
