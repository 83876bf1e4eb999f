/- The draws of integers. -/
import Derived.Test.YtkpgkkifndlcpaaDoorDraw
import Derived.Test.YtkpgkkifndlcpaaDoorSame
namespace Go.Proofs.YtkpgkkifndlcpaaDoor
open Go.RowKit
set_option linter.unusedVariables false

set_option maxRecDepth 100000 in
theorem l1Num_any (w : World) (g hi : Nat) (c : Cur w g hi) :
    Calls Tryd.prog 22 #[.pointer (some ⟨g, 0, none⟩)] w fun e w' => ∃ x : Int, (0 ≤ x ∧ x ≤ 1000000000000) ∧ e = .returned (.int .i64 x) ∧ Cur w' g hi ∧ Touch w w' g (g + 1) := by
  go_enter Tryd.func22, Tryd.ntmps22
  go_wp2_with fail
  refine (l1Below_any 4 _ g hi c (by omega)).mono ?_
  rintro e w1 ⟨x, ⟨x0, x1⟩, rfl, c1, t1⟩
  have s1 := c1.lt
  rcases (show x = 0 ∨ x = 1 ∨ x = 2 ∨ x = 3 by omega) with rfl | rfl | rfl | rfl
  · go_wp2_with fail
    refine (l1Below_any 2000 _ g hi c1 (by omega)).mono ?_
    rintro e w2 ⟨y, ⟨y0, y1⟩, rfl, c2, t2⟩
    go_wp2_with fail
    go_ret
    exact ⟨_, ⟨y0, by omega⟩, rfl, c2, t1.trans t2⟩
  · go_wp2_with fail
    refine (l1Int_any _ [0, 1, 127, 128, 2147483646, 2147483647, 1000000000000] _ g hi _ (c1.alloc _) ((Rd.lit (e := 3) _ 7 rfl rfl (by decide)).more (by omega) (Nat.le_refl _)) (by simp) (by decide)).mono ?_
    rintro e w2 ⟨y, hy, rfl, c2, t2⟩
    have hy' : 0 ≤ y ∧ y ≤ 1000000000000 := by simp at hy; omega
    clear hy
    go_wp2_with fail
    go_ret
    exact ⟨_, hy', rfl, c2, (t1.alloc _).trans t2⟩
  · go_wp2_with fail
    refine (l1Below_any 1000000 _ g hi c1 (by omega)).mono ?_
    rintro e w2 ⟨y, ⟨y0, y1⟩, rfl, c2, t2⟩
    go_wp2_with fail
    refine (l1Below_any 1000000 _ g hi c2 (by omega)).mono ?_
    rintro e w3 ⟨z, ⟨z0, z1⟩, rfl, c3, t3⟩
    have p0 : 0 ≤ y * z := Int.mul_nonneg y0 z0
    have p1 : y * z ≤ 999999 * 999999 := Int.mul_le_mul (by omega) (by omega) z0 (by omega)
    go_wp2_with fail
    go_ret
    exact ⟨y * z, ⟨p0, by omega⟩, ret_int (by first | rfl | omega), c3, (t1.trans t2).trans t3⟩
  · go_wp2_with fail
    refine (l1Below_any 20 _ g hi c1 (by omega)).mono ?_
    rintro e w2 ⟨y, ⟨y0, y1⟩, rfl, c2, t2⟩
    go_wp2_with fail
    go_ret
    exact ⟨_, ⟨y0, by omega⟩, rfl, c2, t1.trans t2⟩
set_option maxRecDepth 100000 in
theorem l1Odd_any (w : World) (g hi : Nat) (c : Cur w g hi) :
    Calls Tryd.prog 37 #[.pointer (some ⟨g, 0, none⟩)] w fun e w' => ∃ x : Int, In64 x ∧ e = .returned (.int .i64 x) ∧ Cur w' g hi ∧ Touch w w' g (g + 1) := by
  have s1 := c.lt
  go_enter Tryd.func37, Tryd.ntmps37
  go_wp2_with fail
  refine (l1Int_any _ [-1, 0, 1, 2, 255, 256, 65535, 2147483647, 2147483648, 4294967295, 4294967296, -2147483648, 9223372036854775807, -9223372036854775808] _ g hi _ (c.alloc _) ((Rd.lit (e := 3) _ 14 rfl rfl (by decide)).more (by omega) (Nat.le_refl _)) (by simp) (by decide)).mono ?_
  rintro e w2 ⟨y, hy, rfl, c2, t2⟩
  have hy' : In64 y := by unfold In64; simp at hy; omega
  clear hy
  go_wp2_with fail
  go_ret
  exact ⟨_, hy', rfl, c2, ((Touch.refl w _ _).alloc _).trans t2⟩
set_option maxRecDepth 100000 in
theorem l1Raw_any (w : World) (g hi : Nat) (c : Cur w g hi) :
    Calls Tryd.prog 29 #[.pointer (some ⟨g, 0, none⟩)] w fun e w' => ∃ x : Int, In64 x ∧ e = .returned (.int .i64 x) ∧ Cur w' g hi ∧ Touch w w' g (g + 1) := by
  go_enter Tryd.func29, Tryd.ntmps29
  go_wp2_with fail
  refine (l1Once_any 2 _ g hi c (by omega)).mono ?_
  rintro e w1 ⟨b1, rfl, c1, t1⟩
  have s1 := c1.lt
  cases b1
  · go_wp2_with fail
    refine (l1Int_any _ [-1, 1000000000000, 1000000000001] _ g hi _ (c1.alloc _) ((Rd.lit (e := 3) _ 3 rfl rfl (by decide)).more (by omega) (Nat.le_refl _)) (by simp) (by decide)).mono ?_
    rintro e w2 ⟨y, hy, rfl, c2, t2⟩
    have hy' : In64 y := by unfold In64; simp at hy; omega
    clear hy
    go_wp2_with fail
    go_ret
    exact ⟨_, hy', rfl, c2, (t1.alloc _).trans t2⟩
  · go_wp2_with fail
    refine (l1Odd_any _ g hi c1).mono ?_
    rintro e w2 ⟨y, hy, rfl, c2, t2⟩
    have HY := Lib.hid hy
    clear hy
    go_wp2_with fail
    go_ret
    exact ⟨_, HY.out, rfl, c2, t1.trans t2⟩
set_option maxRecDepth 100000 in
theorem l1One_any (w : World) (g hi : Nat) (c : Cur w g hi) :
    Calls Tryd.prog 23 #[.pointer (some ⟨g, 0, none⟩)] w fun e w' => ∃ x : Int, In64 x ∧ e = .returned (.int .i64 x) ∧ Cur w' g hi ∧ Touch w w' g (g + 1) := by
  go_enter Tryd.func23, Tryd.ntmps23
  go_wp2_with fail
  refine (l1Once_any 6 _ g hi c (by omega)).mono ?_
  rintro e w1 ⟨b1, rfl, c1, t1⟩
  cases b1
  · go_wp2_with fail
    refine (l1Num_any _ g hi c1).mono ?_
    rintro e w2 ⟨y, hy, rfl, c2, t2⟩
    have HY : Hid (In64 y) := by unfold Hid In64; omega
    clear hy
    go_wp2_with fail
    go_ret
    exact ⟨_, HY.out, rfl, c2, t1.trans t2⟩
  · go_wp2_with fail
    refine (l1Raw_any _ g hi c1).mono ?_
    rintro e w2 ⟨y, hy, rfl, c2, t2⟩
    have HY := Lib.hid hy
    clear hy
    go_wp2_with fail
    go_ret
    exact ⟨_, HY.out, rfl, c2, t1.trans t2⟩
end Go.Proofs.YtkpgkkifndlcpaaDoor
