/- The draws of keys, words and texts. -/
import Derived.Test.YtdbmmiabckemhaaDraw
namespace Go.Proofs.Ytdbmmiabckemhaa
open Go.RowKit
set_option linter.unusedVariables false

set_option maxRecDepth 100000 in
theorem l3Word_any (w : World) (g hi : Nat) (c : Cur w g hi) :
    Calls Try.prog 69 #[.pointer (some ⟨g, 0, none⟩)] w fun e w' => ∃ x : Int, (-1 ≤ x ∧ x ≤ 2147483648) ∧ e = .returned (.int .i64 x) ∧ Cur w' g hi ∧ Touch w w' g (g + 1) := by
  go_enter Try.func69, Try.ntmps69
  go_wp2_with fail
  refine (l1Once_any 10 _ g hi c (by omega)).mono ?_
  rintro e w1 ⟨b1, rfl, c1, t1⟩
  have s1 := c1.lt
  cases b1
  · go_wp2_with fail
    refine (l1Once_any 4 _ g hi c1 (by omega)).mono ?_
    rintro e w2 ⟨b2, rfl, c2, t2⟩
    have s2 := c2.lt
    cases b2
    · go_wp2_with fail
      refine (l1Below_any 1000000 _ g hi c2 (by omega)).mono ?_
      rintro e w3 ⟨x, ⟨x0, x1⟩, rfl, c3, t3⟩
      go_wp2_with fail
      refine (l1Below_any 2000 _ g hi c3 (by omega)).mono ?_
      rintro e w4 ⟨y, ⟨y0, y1⟩, rfl, c4, t4⟩
      have p0 : 0 ≤ x * y := Int.mul_nonneg x0 y0
      have p1 : x * y ≤ 999999 * 1999 := Int.mul_le_mul (by omega) (by omega) y0 (by omega)
      go_wp2_with fail
      go_ret
      exact ⟨x * y, ⟨by omega, by omega⟩, ret_int (by first | rfl | omega), c4, ((t1.trans t2).trans t3).trans t4⟩
    · go_wp2_with fail
      refine (l1Int_any _ [0, 1, 2147483646] _ g hi _ (c2.alloc _) ((Rd.lit (e := 3) _ 3 rfl rfl (by decide)).more (by omega) (Nat.le_refl _)) (by simp) (by decide)).mono ?_
      rintro e w3 ⟨x, hx, rfl, c3, t3⟩
      have hx' : -1 ≤ x ∧ x ≤ 2147483648 := by simp at hx; omega
      clear hx
      go_wp2_with fail
      go_ret
      exact ⟨_, hx', rfl, c3, ((t1.trans t2).alloc _).trans t3⟩
  · go_wp2_with fail
    refine (l1Int_any _ [-1, 2147483647, 2147483648] _ g hi _ (c1.alloc _) ((Rd.lit (e := 3) _ 3 rfl rfl (by decide)).more (by omega) (Nat.le_refl _)) (by simp) (by decide)).mono ?_
    rintro e w3 ⟨x, hx, rfl, c3, t3⟩
    have hx' : -1 ≤ x ∧ x ≤ 2147483648 := by simp at hx; omega
    clear hx
    go_wp2_with fail
    go_ret
    exact ⟨_, hx', rfl, c3, (t1.alloc _).trans t3⟩
set_option maxRecDepth 100000 in
theorem l3Words_any (w : World) (g hi : Nat) (c : Cur w g hi) :
    Calls Try.prog 72 #[.pointer (some ⟨g, 0, none⟩)] w fun e w' => ∃ v' xs, e = .returned v' ∧ Own .i64 3 w' w.heap.size v' xs ∧ xs.length ≤ 4 ∧ (∀ x ∈ xs, -1 ≤ x ∧ x ≤ 2147483648) ∧ Cur w' g hi ∧ Touch w w' g (g + 1) := by
  obtain ⟨i0, hi0, hz0, hz1, hz2⟩ := info_parts info_int
  have hg := c.lt
  go_enter Try.func72, Try.ntmps72
  go_wp2_with fail
  refine (l1Below_any 5 _ g hi (c.alloc _) (by omega)).mono ?_
  rintro e w1 ⟨x, ⟨x0, x1⟩, rfl, c1, t1⟩
  have T1 := (Touch.refl w g (g + 1)).alloc (.cells #[] 3) |>.trans t1
  go_wp2_with fail
  go_loopw [3, 4] (fun o i wr => ∃ (k : Nat) (xs : List Int), k ≤ 4 ∧ i = .int .i64 k ∧ Own .i64 3 wr w.heap.size o xs ∧ xs.length + k ≤ 4 ∧ (∀ x ∈ xs, -1 ≤ x ∧ x ≤ 2147483648) ∧ Cur wr g hi ∧ Touch w wr g (g + 1)) (fun _ i _ => (intOf i).toNat)
  case atStart => exact ⟨x.toNat, [], by omega, by go_num, Own.of_empty _ _ _ _ _, by simp; omega, fun _ h => (by cases h), c1, T1⟩
  case round =>
    obtain ⟨k, xs, hk, rfl, own, hxl, wf, cr, tr⟩ := hrel
    have hsz := tr.size
    have WF := Lib.hid wf
    have OWN := Lib.hid own
    clear wf own
    by_cases hlt : 0 < k
    · go_wp2_with fail
      refine (l3Word_any _ g hi cr).mono ?_
      rintro e w2 ⟨y, hy, rfl, c2, t2⟩
      have s2 := t2.size
      have own1 := Lib.hid (OWN.out.touch t2 (by omega))
      have HY := Lib.hid hy
      clear hy
      have hA : xs.length + [y].length ≤ maxLen := by simp [maxLen]; omega
      have hB : (xs.length + [y].length) * 8 ≤ 140737488355328 := by simp; omega
      go_wp2_with (at_builtin; refine wpList_append_Own _ rfl (.tmp 12) (.tmp 15) 22 rfl w.heap.size 3 i0 (.int .i64 0) .i64 8 Try.underlying22 hi0 hz0 hz1 hz2 rfl _ _ rfl (own1.out.alloc _) _ _ _ [y] rfl (Own.lit1 .i64 3 _ 0 y (Nat.zero_le _)).rd hA hB ?_ ?_)
      · first | omega | (simp; omega)
      · intro v2 w3 hO2 hW2
        have b2 : Touch w w3 g (g + 1) := ((tr.trans t2).alloc _).wrote hW2 (Nat.le_refl _)
        have c3 : Cur w3 g hi := (c2.alloc _).wrote hW2 hg
        have wf2 : Hid (∀ x ∈ xs ++ [y], -1 ≤ x ∧ x ≤ 2147483648) := fun z hz => by
          rcases List.mem_append.1 hz with hz | hz
          · exact WF.out z hz
          · simp at hz; subst hz; exact HY.out
        go_wp2_with fail
        exact ⟨⟨k - 1, xs ++ [y], by omega, by go_num, hO2, by simp; omega, wf2.out, c3, b2⟩, by simp [intOf]; omega⟩
    · go_wp2_with fail
      go_ret
      exact ⟨_, xs, rfl, OWN.out, by omega, WF.out, cr, tr⟩
set_option maxRecDepth 100000 in
theorem drawEnc_any (v : Value) (xs : List Int) (w : World) (l h : Nat) (r : Rd .u8 w l h v xs) (f : Wf .u8 xs) (hh : h ≤ w.heap.size) (hl : xs.length ≤ 1048576) :
    Calls Try.prog 49 #[v] w fun e w' => ∃ k v' ys, (-1 ≤ k ∧ k ≤ 2147483648) ∧ e = .returned (.tuple #[.int .i64 k, v']) ∧ Own .u8 5 w' w.heap.size v' ys ∧ ys.length ≤ 7 ∧ Wf .u8 ys ∧ Below w.heap.size w w' := by
  go_enter Try.func49, Try.ntmps49
  go_wp2_with fail
  refine (l1New_any _ xs _ _ _ r f hh hl).mono ?_
  rintro e w1 ⟨rfl, c1, b1, s1⟩
  go_wp2_with fail
  refine (l3Word_any _ _ _ c1).mono ?_
  rintro e w2 ⟨k, hk, rfl, c2, t2⟩
  go_wp2_with fail
  refine (l1Below_any 8 _ _ _ c2 (by omega)).mono ?_
  rintro e w3 ⟨x, ⟨x0, x1⟩, rfl, c3, t3⟩
  obtain ⟨n, rfl⟩ := Int.eq_ofNat_of_zero_le x0
  have HK := Lib.hid hk
  clear hk
  go_wp2_with fail
  refine (l1Bytes_any n _ _ _ c3 (by omega)).mono ?_
  rintro e w4 ⟨v', ys, rfl, o4, hy, f4, c4, t4⟩
  have HY := Lib.hid hy
  clear hy
  have z2 := t2.size
  have z3 := t3.size
  have z4 := t4.size
  go_wp2_with fail
  go_ret2
  exact ⟨k, v', ys, HK.out, rfl, o4.more (by omega), by have := HY.out; omega, f4, ((t2.trans t3).trans t4).below b1 (by omega)⟩
set_option maxRecDepth 100000 in
theorem drawKH_any (v : Value) (xs : List Int) (w : World) (l h : Nat) (r : Rd .u8 w l h v xs) (f : Wf .u8 xs) (hh : h ≤ w.heap.size) (hl : xs.length ≤ 1048576) :
    Calls Try.prog 50 #[v] w fun e w' => ∃ k v' ys, (-1 ≤ k ∧ k ≤ 2147483648) ∧ e = .returned (.tuple #[.int .i64 k, v']) ∧ Own .i64 3 w' w.heap.size v' ys ∧ ys.length ≤ 4 ∧ (∀ x ∈ ys, -1 ≤ x ∧ x ≤ 2147483648) ∧ Below w.heap.size w w' := by
  go_enter Try.func50, Try.ntmps50
  go_wp2_with fail
  refine (l1New_any _ xs _ _ _ r f hh hl).mono ?_
  rintro e w1 ⟨rfl, c1, b1, s1⟩
  go_wp2_with fail
  refine (l3Word_any _ _ _ c1).mono ?_
  rintro e w2 ⟨k, hk, rfl, c2, t2⟩
  have HK := Lib.hid hk
  clear hk
  go_wp2_with fail
  refine (l3Words_any _ _ _ c2).mono ?_
  rintro e w4 ⟨v', ys, rfl, o4, hy, f4, c4, t4⟩
  have z2 := t2.size
  have z4 := t4.size
  have F4 := Lib.hid f4
  clear f4
  go_wp2_with fail
  go_ret2
  exact ⟨k, v', ys, HK.out, rfl, o4.more (by omega), hy, F4.out, (t2.trans t4).below b1 (by omega)⟩
/-- A slice of texts: each is short. -/
def RdT (w : World) (lo : Nat) (v : Value) (n : Nat) : Prop :=
  ∃ b c, v = .slice (some ⟨b, 0, none⟩) n c ∧ n ≤ c ∧ c ≤ 100 ∧ lo ≤ b ∧ b < w.heap.size ∧ ∀ i, i < n → ∃ s : ByteArray, s.size ≤ 20 ∧ w.cell? ⟨b, i, none⟩ = some (.string s)
theorem l1Str_any (v : Value) (n : Nat) (w : World) (g hi : Nat) (c : Cur w g hi) (r : RdT w (g + 1) v n) (hn : 0 < n) :
    Calls Try.prog 75 #[.pointer (some ⟨g, 0, none⟩), v] w fun e w' => ∃ s : ByteArray, s.size ≤ 20 ∧ e = .returned (.string s) ∧ Cur w' g hi ∧ Touch w w' g (g + 1) := by
  obtain ⟨b, cc, rfl, hc1, hc2, hb1, hb2, hcell⟩ := r
  go_enter Try.func75, Try.ntmps75
  go_wp2_with fail
  refine (l1Below_any _ _ g hi c ⟨by omega, by omega⟩).mono ?_
  rintro e w1 ⟨x, ⟨x0, x1⟩, rfl, c1, t1⟩
  obtain ⟨k, rfl⟩ := Int.eq_ofNat_of_zero_le x0
  have hk : k < n := by omega
  obtain ⟨s, hs, d1⟩ := hcell k hk
  have d2 : w1.cell? ⟨b, k, none⟩ = some (.string s) := (World.cell?_of_block (a := ⟨b, k, none⟩) (t1.block b hb2 (by omega))).trans d1
  clear hcell d1
  go_wp2_with fail
  go_ret
  exact ⟨s, hs, rfl, c1, t1⟩
theorem RdT.lit {w : World} {cs : Array Value} {e : TypeId} {n lo : Nat} (hl : lo ≤ w.heap.size) (hn : cs.size = n) (h100 : n ≤ 100) (h : ∀ i, i < n → ∃ s : ByteArray, s.size ≤ 20 ∧ cs[i]? = some (.string s)) :
    RdT (w.alloc (.cells cs e)) lo (.slice (some ⟨w.heap.size, 0, none⟩) n n) n :=
  ⟨_, _, rfl, Nat.le_refl _, h100, hl, by simp, fun i hi => by
    obtain ⟨s, h1, h2⟩ := h i hi
    exact ⟨s, h1, (cell_of_row _ _ i _ e (0, 0) (heap_alloc_new w _)).trans h2⟩⟩
set_option maxRecDepth 100000 in
theorem drawDfs_any (v : Value) (xs : List Int) (w : World) (l h : Nat) (r : Rd .u8 w l h v xs) (f : Wf .u8 xs) (hh : h ≤ w.heap.size) (hl : xs.length ≤ 1048576) :
    Calls Try.prog 54 #[v] w fun e w' => ∃ (k : Int) (s : ByteArray), (-1 ≤ k ∧ k ≤ 2147483648) ∧ s.size ≤ 20 ∧ e = .returned (.tuple #[.int .i64 k, .string s]) ∧ Below w.heap.size w w' := by
  go_enter Try.func54, Try.ntmps54
  go_wp2_with fail
  refine (l1New_any _ xs _ _ _ r f hh hl).mono ?_
  rintro e w1 ⟨rfl, c1, b1, s1⟩
  go_wp2_with fail
  refine (l3Word_any _ _ _ c1).mono ?_
  rintro e w2 ⟨k, hk, rfl, c2, t2⟩
  have HK := Lib.hid hk
  have z2 := t2.size
  clear hk
  go_wp2_with fail
  refine (l1Str_any _ 6 _ _ _ (c2.alloc _) (RdT.lit (by omega) rfl (by omega) ?_) (by omega)).mono ?_
  · intro i hi
    rcases (show i = 0 ∨ i = 1 ∨ i = 2 ∨ i = 3 ∨ i = 4 ∨ i = 5 by omega) with rfl | rfl | rfl | rfl | rfl | rfl
    all_goals exact ⟨_, by decide, rfl⟩
  · rintro e w4 ⟨s, hs, rfl, c4, t4⟩
    go_wp2_with fail
    go_ret2
    exact ⟨k, s, HK.out, hs, rfl, ((t2.alloc _).trans t4).below b1 (by omega)⟩
end Go.Proofs.Ytdbmmiabckemhaa
