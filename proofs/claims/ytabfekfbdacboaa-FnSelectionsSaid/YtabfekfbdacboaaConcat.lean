/- What the library's Clone, Grow (of nil) and Concat give, at byte and integer slices. -/
import Derived.Test.YtabfekfbdacboaaBase
import Derived.Lib.AppendZerosOnto
import Derived.Lib.AppendZeros
namespace Go.Proofs.Ytabfekfbdacboaa
open Go.RowKit
set_option linter.unusedVariables false

theorem flatten_take (xss : List (List Int)) (k : Nat) (h : k < xss.length) : (xss.take (k + 1)).flatten = (xss.take k).flatten ++ xss[k] := by
  rw [List.take_succ_eq_append_getElem h, List.flatten_append]
  simp
theorem flatten_take_le (xss : List (List Int)) (k : Nat) : (xss.take k).flatten.length ≤ xss.flatten.length := by
  have e : xss = xss.take k ++ xss.drop k := (List.take_append_drop k xss).symm
  have : xss.flatten.length = (xss.take k).flatten.length + (xss.drop k).flatten.length := by
    rw [← List.length_append, ← List.flatten_append, ← e]
  omega
theorem flatten_step_le (xss : List (List Int)) (k : Nat) (h : k < xss.length) : (xss.take k).flatten.length + xss[k].length ≤ xss.flatten.length := by
  have := flatten_take_le xss (k + 1)
  rwa [flatten_take xss k h, List.length_append] at this

/-- A literal slice of three slices: the outer two of one number each. -/
theorem Rds.lit3 {k : IntKind} (e e2 : TypeId) (w : World) (x y : Int) {v : Value} {xs : List Int} {l h : Nat} (r : Rd k w l h v xs) (hh : h ≤ w.heap.size) :
    Rds k (((w.alloc (.cells #[.int k x] e)).alloc (.cells #[.int k y] e)).alloc (.cells #[.slice (some ⟨w.heap.size, 0, none⟩) 1 1, v, .slice (some ⟨w.heap.size + 1, 0, none⟩) 1 1] e2)) 0 (w.heap.size + 3)
      (.slice (some ⟨w.heap.size + 2, 0, none⟩) 3 3) [[x], xs, [y]] := by
  have a1 : Rd k (((w.alloc (.cells #[.int k x] e)).alloc (.cells #[.int k y] e)).alloc (.cells #[.slice (some ⟨w.heap.size, 0, none⟩) 1 1, v, .slice (some ⟨w.heap.size + 1, 0, none⟩) 1 1] e2)) 0 (w.heap.size + 3) (.slice (some ⟨w.heap.size, 0, none⟩) 1 1) [x] :=
    ((((Own.lit1 k e w 0 x (Nat.zero_le _)).alloc _).alloc _).rd).more (Nat.le_refl _) (by simp)
  have a2 : Rd k (((w.alloc (.cells #[.int k x] e)).alloc (.cells #[.int k y] e)).alloc (.cells #[.slice (some ⟨w.heap.size, 0, none⟩) 1 1, v, .slice (some ⟨w.heap.size + 1, 0, none⟩) 1 1] e2)) 0 (w.heap.size + 3) v xs :=
    ((((r.alloc hh _).alloc (by simp; omega) _).alloc (by simp; omega) _)).more (Nat.zero_le _) (by omega)
  have a3 : Rd k (((w.alloc (.cells #[.int k x] e)).alloc (.cells #[.int k y] e)).alloc (.cells #[.slice (some ⟨w.heap.size, 0, none⟩) 1 1, v, .slice (some ⟨w.heap.size + 1, 0, none⟩) 1 1] e2)) 0 (w.heap.size + 3) (.slice (some ⟨w.heap.size + 1, 0, none⟩) 1 1) [y] := by
    have h1 := ((Own.lit1 k e (w.alloc (.cells #[.int k x] e)) 0 y (Nat.zero_le _)).alloc (.cells #[.slice (some ⟨w.heap.size, 0, none⟩) 1 1, v, .slice (some ⟨w.heap.size + 1, 0, none⟩) 1 1] e2)).rd
    simp only [World.size_alloc] at h1
    exact h1.more (Nat.le_refl _) (by omega)
  refine ⟨_, 3, rfl, Nat.le_refl _, by simp [maxLen], fun _ => ⟨w.heap.size + 2, 0, rfl, Nat.zero_le _, by omega, fun i ys hy => ?_⟩⟩
  have hc : ∀ j, (((w.alloc (.cells #[.int k x] e)).alloc (.cells #[.int k y] e)).alloc (.cells #[.slice (some ⟨w.heap.size, 0, none⟩) 1 1, v, .slice (some ⟨w.heap.size + 1, 0, none⟩) 1 1] e2)).cell? ⟨w.heap.size + 2, j, none⟩ =
      (#[.slice (some ⟨w.heap.size, 0, none⟩) 1 1, v, .slice (some ⟨w.heap.size + 1, 0, none⟩) 1 1] : Array Value)[j]? := by
    intro j
    have hb := heap_alloc_new ((w.alloc (.cells #[.int k x] e)).alloc (.cells #[.int k y] e)) (.cells #[.slice (some ⟨w.heap.size, 0, none⟩) 1 1, v, .slice (some ⟨w.heap.size + 1, 0, none⟩) 1 1] e2)
    simp only [World.size_alloc] at hb
    exact cell_of_row _ _ j _ e2 (0, 0) hb
  rw [Nat.zero_add, hc]
  match i, hy with
  | 0, hy => obtain rfl : [x] = ys := by simpa using hy
             exact ⟨_, rfl, a1⟩
  | 1, hy => obtain rfl : xs = ys := by simpa using hy
             exact ⟨_, rfl, a2⟩
  | 2, hy => obtain rfl : [y] = ys := by simpa using hy
             exact ⟨_, rfl, a3⟩

theorem cloneInt (v : Value) (xs : List Int) (w : World) (l h : Nat) (r : Rd .i64 w l h v xs) (hh : h ≤ w.heap.size) (hl : xs.length ≤ 1073741824) :
    Calls Try.prog 71 #[v] w fun e w' => ∃ v', e = .returned v' ∧ Own .i64 3 w' w.heap.size v' xs ∧ Below w.heap.size w w' := by
  obtain ⟨i0, hi, hz0, hz1, hz2⟩ := info_parts info_int
  obtain ⟨A, c, rfl, hc1, hc2⟩ := r.form
  unfold maxLen at hc2
  rcases A with _ | a
  · obtain rfl : xs = [] := by
      rcases Nat.eq_zero_or_pos xs.length with h0 | hp
      · exact List.eq_nil_of_length_eq_zero h0
      · obtain ⟨A', c', e1, _, _, e4⟩ := r
        obtain ⟨b, off, rfl, _⟩ := e4 hp
        simp at e1
    have hnil := fun ww => Lib.run_eql_slice_nil (P := Try.prog) ww 24 3 none 0 c 0 0 Try.underlying24
    clear r hc1
    go_enter Try.func71, Try.ntmps71
    go_wp2
    go_ret
    exact ⟨_, rfl, Own.of_nil _ _ _ _, Below.refl _ _⟩
  · have hnil := fun ww => Lib.run_eql_slice_nil (P := Try.prog) ww 24 3 (some a) xs.length c 0 0 Try.underlying24
    go_enter Try.func71, Try.ntmps71
    go_wp2_with (at_builtin; refine wpList_append_Own _ rfl (.tmp 5) (.tmp 6) 24 rfl w.heap.size 3 i0 (.int .i64 0) .i64 8 Try.underlying24 hi hz0 hz1 hz2 rfl _ [] rfl (Own.lit0 _ _ _ _ _) _ l h xs rfl (r.alloc hh _) ?_ ?_ ?_ ?_)
    · simp [maxLen]; omega
    · simp; omega
    · simp
    · intro v1 w1 hO1 hW1
      have b1 : Below w.heap.size w w1 := hW1.below ((Below.refl _ w).alloc (Nat.le_refl _) _) (Nat.le_refl _) (by simp)
      go_wp2
      go_ret
      exact ⟨_, rfl, hO1, b1⟩
theorem cloneByte (v : Value) (xs : List Int) (w : World) (l h : Nat) (r : Rd .u8 w l h v xs) (hh : h ≤ w.heap.size) (hl : xs.length ≤ 1073741824) :
    Calls Try.prog 72 #[v] w fun e w' => ∃ v', e = .returned v' ∧ Own .u8 5 w' w.heap.size v' xs ∧ Below w.heap.size w w' := by
  obtain ⟨i0, hi, hz0, hz1, hz2⟩ := info_parts info_u8
  obtain ⟨A, c, rfl, hc1, hc2⟩ := r.form
  unfold maxLen at hc2
  rcases A with _ | a
  · obtain rfl : xs = [] := by
      rcases Nat.eq_zero_or_pos xs.length with h0 | hp
      · exact List.eq_nil_of_length_eq_zero h0
      · obtain ⟨A', c', e1, _, _, e4⟩ := r
        obtain ⟨b, off, rfl, _⟩ := e4 hp
        simp at e1
    have hnil := fun ww => Lib.run_eql_slice_nil (P := Try.prog) ww 22 5 none 0 c 0 0 Try.underlying22
    clear r hc1
    go_enter Try.func72, Try.ntmps72
    go_wp2
    go_ret
    exact ⟨_, rfl, Own.of_nil _ _ _ _, Below.refl _ _⟩
  · have hnil := fun ww => Lib.run_eql_slice_nil (P := Try.prog) ww 22 5 (some a) xs.length c 0 0 Try.underlying22
    go_enter Try.func72, Try.ntmps72
    go_wp2_with (at_builtin; refine wpList_append_Own _ rfl (.tmp 5) (.tmp 6) 22 rfl w.heap.size 5 i0 (.int .u8 0) .u8 1 Try.underlying22 hi hz0 hz1 hz2 rfl _ [] rfl (Own.lit0 _ _ _ _ _) _ l h xs rfl (r.alloc hh _) ?_ ?_ ?_ ?_)
    · simp [maxLen]; omega
    · simp; omega
    · simp
    · intro v1 w1 hO1 hW1
      have b1 : Below w.heap.size w w1 := hW1.below ((Below.refl _ w).alloc (Nat.le_refl _) _) (Nat.le_refl _) (by simp)
      go_wp2
      go_ret
      exact ⟨_, rfl, hO1, b1⟩

theorem growInt (n : Nat) (w : World) (hn : n ≤ 1073741824) :
    Calls Try.prog 100 #[.slice none 0 0, .int .i64 n] w fun e w' => ∃ v', e = .returned v' ∧ Own .i64 3 w' w.heap.size v' [] ∧ Below w.heap.size w w' := by
  obtain ⟨i0, hi, hz0, hz1, hz2⟩ := info_parts info_int
  rcases Nat.eq_zero_or_pos n with rfl | hp
  · go_enter Try.func100, Try.ntmps100
    go_wp2
    go_ret
    exact ⟨_, rfl, Own.of_nil _ _ _ _, Below.refl _ _⟩
  · have hold : (Builtin.firstCells i0.size 0 (.slice none 0 0)).run Try.prog w.drew = .ok ([] : List Value).toArray w.drew := run_firstCells_none w.drew i0.size 0 0 0
    have hrz : ∀ ty, (Builtin.append_ #[24, 3] ty #[.slice none 0 0, .int .i64 n]).run Try.prog w = _ := fun ty =>
      Lib.run_append_grow_zeros w 24 3 ty 3 i0 (.int .i64 0) .i64 .i64 Try.underlying24 Try.underlying3 hi hz0 none 0 0 [] hold n hp (by omega) (by omega) (by omega) (by rw [hz2]; omega) (growslice_fits (by omega) (by rw [hz2]; omega))
    have hG : n ≤ grownCap w n 0 3 := grownCap_ge w _ _ _
    have hG2 : grownCap w n 0 3 ≤ maxLen := grownCap_le_maxLen w n 0 _ (by unfold maxLen; omega)
    simp only [Nat.zero_add] at hrz
    generalize grownCap w n 0 3 = G at hrz hG hG2
    have HG2 := Lib.hid hG2
    unfold maxLen at hG2
    go_enter Try.func100, Try.ntmps100
    go_wp2_with (at_builtin; refine Lib.wpList_append_run _ rfl _ _ _ _ rfl _ _ rfl rfl _ _ (hrz _) ?_)
    go_ret
    refine ⟨_, rfl, .inl ?_, ((Below.refl _ w).drew).alloc (Nat.le_refl _) _⟩
    exact World.ownsRow_made w.drew _ G (Nat.le_refl _) HG2.out (by simp [size_zeroCells]; omega)
theorem growByte (n : Nat) (w : World) (hn : n ≤ 1073741824) :
    Calls Try.prog 98 #[.slice none 0 0, .int .i64 n] w fun e w' => ∃ v', e = .returned v' ∧ Own .u8 5 w' w.heap.size v' [] ∧ Below w.heap.size w w' := by
  obtain ⟨i0, hi, hz0, hz1, hz2⟩ := info_parts info_u8
  rcases Nat.eq_zero_or_pos n with rfl | hp
  · go_enter Try.func98, Try.ntmps98
    go_wp2
    go_ret
    exact ⟨_, rfl, Own.of_nil _ _ _ _, Below.refl _ _⟩
  · have hold : (Builtin.firstCells i0.size 0 (.slice none 0 0)).run Try.prog w.drew = .ok ([] : List Value).toArray w.drew := run_firstCells_none w.drew i0.size 0 0 0
    have hrz : ∀ ty, (Builtin.append_ #[22, 3] ty #[.slice none 0 0, .int .i64 n]).run Try.prog w = _ := fun ty =>
      Lib.run_append_grow_zeros w 22 3 ty 5 i0 (.int .u8 0) .i64 .i64 Try.underlying22 Try.underlying3 hi hz0 none 0 0 [] hold n hp (by omega) (by omega) (by omega) (by rw [hz2]; omega) (growslice_fits (by omega) (by rw [hz2]; omega))
    have hG : n ≤ grownCap w n 0 5 := grownCap_ge w _ _ _
    have hG2 : grownCap w n 0 5 ≤ maxLen := grownCap_le_maxLen w n 0 _ (by unfold maxLen; omega)
    simp only [Nat.zero_add] at hrz
    generalize grownCap w n 0 5 = G at hrz hG hG2
    have HG2 := Lib.hid hG2
    unfold maxLen at hG2
    go_enter Try.func98, Try.ntmps98
    go_wp2_with (at_builtin; refine Lib.wpList_append_run _ rfl _ _ _ _ rfl _ _ rfl rfl _ _ (hrz _) ?_)
    go_ret
    refine ⟨_, rfl, .inl ?_, ((Below.refl _ w).drew).alloc (Nat.le_refl _) _⟩
    exact World.ownsRow_made w.drew _ G (Nat.le_refl _) HG2.out (by simp [size_zeroCells]; omega)

end Go.Proofs.Ytabfekfbdacboaa
