/- Contracts of the laws' marks: what a mark writes, and that it is still there. -/
import Derived.Test.YtabfekfbdacboaaBase
namespace Go.Proofs.Ytabfekfbdacboaa
open Go.RowKit
set_option linter.unusedVariables false

/-- What a mark from k on leaves in n bytes; in n integers. -/
def markU8 (k : Int) (n : Nat) : List Int := (marks k n).map (· % 256)
def markI64 (k : Int) (n : Nat) : List Int := marks k n
theorem markU8_length (k : Int) (n : Nat) : (markU8 k n).length = n := by simp [markU8, marks_length]
theorem markI64_length (k : Int) (n : Nat) : (markI64 k n).length = n := marks_length k n
theorem markU8_succ (k : Int) (n : Nat) : markU8 k (n + 1) = markU8 k n ++ [(k + n) % 256] := by simp [markU8, marks]
theorem markI64_succ (k : Int) (n : Nat) : markI64 k (n + 1) = markI64 k n ++ [k + n] := rfl
theorem markU8_get (k : Int) (n i : Nat) (h : i < n) : (markU8 k n)[i]? = some ((k + i) % 256) := by simp [markU8, marks_get k n i h]
theorem markI64_get (k : Int) (n i : Nat) (h : i < n) : (markI64 k n)[i]? = some (k + i) := marks_get k n i h

/-- Written over from the head. -/
theorem over_set (ys xs : List Int) (x : Int) (h : ys.length < xs.length) : (ys ++ xs.drop ys.length).set ys.length x = (ys ++ [x]) ++ xs.drop (ys.length + 1) := by
  rw [List.set_append_right _ _ (Nat.le_refl _), Nat.sub_self, List.drop_eq_getElem_cons h, List.set_cons_zero, List.append_assoc]
  rfl

theorem markByteS_any (v : Value) (xs : List Int) (k : Int) (w : World) (lo hi : Nat) (o : Own .u8 5 w lo v xs) (r : Rd .u8 w lo hi v xs) (hk : 0 ≤ k ∧ k ≤ 1099511627776) (hl : xs.length ≤ 1099511627776) :
    Calls Try.prog 32 #[v, .int .i64 k] w fun e w' => e = .returned (.int .i64 (k + xs.length)) ∧ Own .u8 5 w' lo v (markU8 k xs.length) ∧ Rd .u8 w' lo hi v (markU8 k xs.length) ∧ Touch w w' lo hi := by
  obtain ⟨hk0, hk1⟩ := hk
  rcases Nat.eq_zero_or_pos xs.length with h0 | hp
  · obtain rfl : xs = [] := List.eq_nil_of_length_eq_zero h0
    have O := Lib.hid o
    have R := Lib.hid r
    obtain ⟨A, c, rfl, hc1, hc2, hr⟩ := r
    unfold maxLen at hc2
    clear hr o h0
    go_enter Try.func32, Try.ntmps32
    go_wp2
    go_loop [1, 5] (fun q i => q = .int .i64 k ∧ i = .int .i64 0) (fun _ _ => 0)
    case atStart => exact ⟨rfl, rfl⟩
    case round =>
      obtain ⟨rfl, rfl⟩ := hrel
      go_wp2
      go_ret
      exact ⟨ret_int (by simp), O.out, R.out, Touch.refl _ _ _⟩
  · rcases o with o | ⟨rfl, _⟩
    rotate_left
    · simp at hp
    obtain ⟨A, c, rfl, hc1, hc2, hr⟩ := r
    obtain ⟨b, off, rfl, hb1, hb2, _⟩ := hr hp
    obtain rfl : off = 0 := by
      rcases o.2 with ⟨h, _⟩ | ⟨g, cap, cur, h, _⟩
      · cases h
      · simp at h; exact h.1.2
    unfold maxLen at hc2
    clear hr
    go_enter Try.func32, Try.ntmps32
    go_wp2
    go_loopw [1, 5] (fun q i wr => ∃ j : Nat, j ≤ xs.length ∧ i = .int .i64 j ∧ q = .int .i64 (k + j) ∧ wr.ownsRow lo 5 1 (.slice (some ⟨b, 0, none⟩) xs.length c) xs.length ((markU8 k j ++ xs.drop j).map (.int .u8)) ∧ Touch w wr lo hi) (fun _ i _ => xs.length - (intOf i).toNat)
    case atStart => exact ⟨0, Nat.zero_le _, rfl, by simp, by simpa [markU8, markI64, marks] using o, Touch.refl _ _ _⟩
    case round =>
      obtain ⟨j, hj, rfl, rfl, own, tch⟩ := hrel
      by_cases hlt : j < xs.length
      · have c2 : ∃ z, wr.cell? ⟨b, j, none⟩ = some z := by
          rw [own.cellAt j (by omega)]
          have : j < ((markU8 k j ++ xs.drop j).map (Value.int .u8)).length := by simp [markU8_length]; omega
          exact ⟨_, List.getElem?_eq_getElem this⟩
        obtain ⟨z, c2⟩ := c2
        have c3 := own.frozenAt j
        have st := own.stored j (.int .u8 ((k + j) % 256))
        rw [map_set] at st
        have e := over_set (markU8 k j) xs ((k + j) % 256) (by rw [markU8_length]; exact hlt)
        rw [markU8_length] at e
        rw [e, ← markU8_succ] at st
        have ST := Lib.hid st
        have TCH := Lib.hid tch
        clear st tch own e o
        go_wp2
        go_roundw
        case rel =>
          refine ⟨j + 1, by omega, by go_num, by go_num, ST.out.1, TCH.out.trans ?_⟩
          have g := ST.out.2
          exact ⟨g.os, g.tape, g.output, g.size, fun x h1 h2 => g.block x h1 (by intro he; cases he; omega)⟩
        case measure => simp [intOf]; omega
      · obtain rfl : j = xs.length := by omega
        have OWN := Lib.hid own
        have TCH := Lib.hid tch
        clear own tch o
        go_wp2
        go_ret
        have ho : Own .u8 5 wr lo (.slice (some ⟨b, 0, none⟩) xs.length c) (markU8 k xs.length) := by
          have := OWN.out
          rw [List.drop_length, List.append_nil] at this
          exact .inl (by rwa [markU8_length])
        refine ⟨rfl, ho, ?_, TCH.out⟩
        obtain ⟨A', c', e1, e2, e3, e4⟩ := ho.rd
        refine ⟨A', c', e1, e2, e3, fun hp' => ?_⟩
        obtain ⟨b', off', g1, g2, g3, g4⟩ := e4 hp'
        subst g1
        simp at e1
        obtain ⟨⟨rfl, rfl⟩, _⟩ := e1
        exact ⟨_, _, rfl, g2, hb2, g4⟩

theorem heldByteS_any (v : Value) (k : Int) (n : Nat) (w : World) (lo hi : Nat) (r : Rd .u8 w lo hi v (markU8 k n)) (hk : 0 ≤ k ∧ k ≤ 1099511627776) (hl : n ≤ 1099511627776) :
    Calls Try.prog 33 #[v, .int .i64 k] w fun e w' => e = .returned (.int .i64 (k + n)) ∧ Below w.heap.size w w' := by
  obtain ⟨hk0, hk1⟩ := hk
  obtain ⟨A, c, rfl, hc1, hc2, hr⟩ := r
  rw [markU8_length] at *
  unfold maxLen at hc2
  go_enter Try.func33, Try.ntmps33
  go_wp2
  go_loop [1, 5] (fun q i => ∃ j : Nat, j ≤ n ∧ i = .int .i64 j ∧ q = .int .i64 (k + j)) (fun _ i => n - (intOf i).toNat)
  case atStart => exact ⟨0, Nat.zero_le _, rfl, by simp⟩
  case round =>
    obtain ⟨j, hj, rfl, rfl⟩ := hrel
    by_cases hlt : j < n
    · obtain ⟨b, off, rfl, _, _, hcell⟩ := hr (by omega)
      have c1 := hcell j _ (markU8_get k n j hlt)
      clear hcell hr
      go_wp2
      go_round
      case rel => exact ⟨j + 1, by omega, by go_num, by go_num⟩
      case measure => simp [intOf]; omega
    · obtain rfl : j = n := by omega
      clear hr
      go_wp2
      go_ret
      exact ⟨rfl, Below.refl _ _⟩
theorem markIntS_any (v : Value) (xs : List Int) (k : Int) (w : World) (lo hi : Nat) (o : Own .i64 3 w lo v xs) (r : Rd .i64 w lo hi v xs) (hk : 0 ≤ k ∧ k ≤ 1099511627776) (hl : xs.length ≤ 1099511627776) :
    Calls Try.prog 50 #[v, .int .i64 k] w fun e w' => e = .returned (.int .i64 (k + xs.length)) ∧ Own .i64 3 w' lo v (markI64 k xs.length) ∧ Rd .i64 w' lo hi v (markI64 k xs.length) ∧ Touch w w' lo hi := by
  obtain ⟨hk0, hk1⟩ := hk
  rcases Nat.eq_zero_or_pos xs.length with h0 | hp
  · obtain rfl : xs = [] := List.eq_nil_of_length_eq_zero h0
    have O := Lib.hid o
    have R := Lib.hid r
    obtain ⟨A, c, rfl, hc1, hc2, hr⟩ := r
    unfold maxLen at hc2
    clear hr o h0
    go_enter Try.func50, Try.ntmps50
    go_wp2
    go_loop [1, 5] (fun q i => q = .int .i64 k ∧ i = .int .i64 0) (fun _ _ => 0)
    case atStart => exact ⟨rfl, rfl⟩
    case round =>
      obtain ⟨rfl, rfl⟩ := hrel
      go_wp2
      go_ret
      exact ⟨ret_int (by simp), O.out, R.out, Touch.refl _ _ _⟩
  · rcases o with o | ⟨rfl, _⟩
    rotate_left
    · simp at hp
    obtain ⟨A, c, rfl, hc1, hc2, hr⟩ := r
    obtain ⟨b, off, rfl, hb1, hb2, _⟩ := hr hp
    obtain rfl : off = 0 := by
      rcases o.2 with ⟨h, _⟩ | ⟨g, cap, cur, h, _⟩
      · cases h
      · simp at h; exact h.1.2
    unfold maxLen at hc2
    clear hr
    go_enter Try.func50, Try.ntmps50
    go_wp2
    go_loopw [1, 5] (fun q i wr => ∃ j : Nat, j ≤ xs.length ∧ i = .int .i64 j ∧ q = .int .i64 (k + j) ∧ wr.ownsRow lo 3 1 (.slice (some ⟨b, 0, none⟩) xs.length c) xs.length ((markI64 k j ++ xs.drop j).map (.int .i64)) ∧ Touch w wr lo hi) (fun _ i _ => xs.length - (intOf i).toNat)
    case atStart => exact ⟨0, Nat.zero_le _, rfl, by simp, by simpa [markI64, markI64, marks] using o, Touch.refl _ _ _⟩
    case round =>
      obtain ⟨j, hj, rfl, rfl, own, tch⟩ := hrel
      by_cases hlt : j < xs.length
      · have c2 : ∃ z, wr.cell? ⟨b, j, none⟩ = some z := by
          rw [own.cellAt j (by omega)]
          have : j < ((markI64 k j ++ xs.drop j).map (Value.int .i64)).length := by simp [markI64_length]; omega
          exact ⟨_, List.getElem?_eq_getElem this⟩
        obtain ⟨z, c2⟩ := c2
        have c3 := own.frozenAt j
        have st := own.stored j (.int .i64 ((k + j) ))
        rw [map_set] at st
        have e := over_set (markI64 k j) xs ((k + j) ) (by rw [markI64_length]; exact hlt)
        rw [markI64_length] at e
        rw [e, ← markI64_succ] at st
        have ST := Lib.hid st
        have TCH := Lib.hid tch
        clear st tch own e o
        go_wp2
        go_roundw
        case rel =>
          refine ⟨j + 1, by omega, by go_num, by go_num, ST.out.1, TCH.out.trans ?_⟩
          have g := ST.out.2
          exact ⟨g.os, g.tape, g.output, g.size, fun x h1 h2 => g.block x h1 (by intro he; cases he; omega)⟩
        case measure => simp [intOf]; omega
      · obtain rfl : j = xs.length := by omega
        have OWN := Lib.hid own
        have TCH := Lib.hid tch
        clear own tch o
        go_wp2
        go_ret
        have ho : Own .i64 3 wr lo (.slice (some ⟨b, 0, none⟩) xs.length c) (markI64 k xs.length) := by
          have := OWN.out
          rw [List.drop_length, List.append_nil] at this
          exact .inl (by rwa [markI64_length])
        refine ⟨rfl, ho, ?_, TCH.out⟩
        obtain ⟨A', c', e1, e2, e3, e4⟩ := ho.rd
        refine ⟨A', c', e1, e2, e3, fun hp' => ?_⟩
        obtain ⟨b', off', g1, g2, g3, g4⟩ := e4 hp'
        subst g1
        simp at e1
        obtain ⟨⟨rfl, rfl⟩, _⟩ := e1
        exact ⟨_, _, rfl, g2, hb2, g4⟩

theorem heldIntS_any (v : Value) (k : Int) (n : Nat) (w : World) (lo hi : Nat) (r : Rd .i64 w lo hi v (markI64 k n)) (hk : 0 ≤ k ∧ k ≤ 1099511627776) (hl : n ≤ 1099511627776) :
    Calls Try.prog 51 #[v, .int .i64 k] w fun e w' => e = .returned (.int .i64 (k + n)) ∧ Below w.heap.size w w' := by
  obtain ⟨hk0, hk1⟩ := hk
  obtain ⟨A, c, rfl, hc1, hc2, hr⟩ := r
  rw [markI64_length] at *
  unfold maxLen at hc2
  go_enter Try.func51, Try.ntmps51
  go_wp2
  go_loop [1, 5] (fun q i => ∃ j : Nat, j ≤ n ∧ i = .int .i64 j ∧ q = .int .i64 (k + j)) (fun _ i => n - (intOf i).toNat)
  case atStart => exact ⟨0, Nat.zero_le _, rfl, by simp⟩
  case round =>
    obtain ⟨j, hj, rfl, rfl⟩ := hrel
    by_cases hlt : j < n
    · obtain ⟨b, off, rfl, _, _, hcell⟩ := hr (by omega)
      have c1 := hcell j _ (markI64_get k n j hlt)
      clear hcell hr
      go_wp2
      go_round
      case rel => exact ⟨j + 1, by omega, by go_num, by go_num⟩
      case measure => simp [intOf]; omega
    · obtain rfl : j = n := by omega
      clear hr
      go_wp2
      go_ret
      exact ⟨rfl, Below.refl _ _⟩
end Go.Proofs.Ytabfekfbdacboaa
