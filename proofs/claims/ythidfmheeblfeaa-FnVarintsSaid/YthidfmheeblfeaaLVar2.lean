/- The draws of the encodings' laws. -/
import Derived.Test.YthidfmheeblfeaaLVar
namespace Go.Proofs.Ythidfmheeblfeaa
open Go.RowKit
set_option linter.unusedVariables false

set_option maxRecDepth 100000 in
theorem drawApB_any (v : Value) (xs : List Int) (w : World) (l h : Nat) (r : Rd .u8 w l h v xs) (f : Wf .u8 xs) (hh : h ≤ w.heap.size) (hl : xs.length ≤ 1048576) :
    Calls Try.prog 38 #[v] w fun e w' => ∃ v1 ys v2 zs, e = .returned (.tuple #[v1, v2]) ∧ Own .u8 5 w' w.heap.size v1 ys ∧ Own .u8 5 w' w.heap.size v2 zs ∧ ys.length ≤ 2 ∧ zs.length ≤ 5 ∧ Wf .u8 ys ∧ Wf .u8 zs ∧ Below w.heap.size w w' := by
  go_enter Try.func38, Try.ntmps38
  go_wp2_with fail
  refine (l1New_any _ xs _ _ _ r f hh hl).mono ?_
  rintro e w1 ⟨rfl, c1, b1, s1⟩
  go_wp2_with fail
  refine (l1Below_any 3 _ _ _ c1 (by omega)).mono ?_
  rintro e w2 ⟨x, ⟨x0, x1⟩, rfl, c2, t2⟩
  obtain ⟨n, rfl⟩ := Int.eq_ofNat_of_zero_le x0
  go_wp2_with fail
  refine (l1Bytes_any n _ _ _ c2 (by omega)).mono ?_
  rintro e w3 ⟨v1, ys, rfl, o3, hy, f3, c3, t3⟩
  have HY := Lib.hid hy
  clear hy
  go_wp2_with fail
  refine (l1Below_any 6 _ _ _ c3 (by omega)).mono ?_
  rintro e w4 ⟨y, ⟨y0, y1⟩, rfl, c4, t4⟩
  obtain ⟨m, rfl⟩ := Int.eq_ofNat_of_zero_le y0
  have z2 := t2.size
  have z3 := t3.size
  have z4 := t4.size
  have o4 := o3.touch t4 (by omega)
  go_wp2_with fail
  refine (l1Bytes_any m _ _ _ c4 (by omega)).mono ?_
  rintro e w5 ⟨v2, zs, rfl, o5, hz, f5, c5, t5⟩
  have HZ := Lib.hid hz
  clear hz
  have z5 := t5.size
  have o4' := o4.touch t5 (by omega)
  go_wp2_with fail
  go_ret2
  exact ⟨v1, ys, v2, zs, rfl, o4'.more (by omega), o5.more (by omega), by have := HY.out; omega, by have := HZ.out; omega, f3, f5, (((t2.trans t3).trans t4).trans t5).below b1 (by omega)⟩
set_option maxRecDepth 100000 in
theorem drawApU_any (v : Value) (xs : List Int) (w : World) (l h : Nat) (r : Rd .u8 w l h v xs) (f : Wf .u8 xs) (hh : h ≤ w.heap.size) (hl : xs.length ≤ 1048576) :
    Calls Try.prog 42 #[v] w fun e w' => ∃ v1 ys k, In64 k ∧ e = .returned (.tuple #[v1, .int .i64 k]) ∧ Own .u8 5 w' w.heap.size v1 ys ∧ ys.length ≤ 2 ∧ Wf .u8 ys ∧ Below w.heap.size w w' := by
  go_enter Try.func42, Try.ntmps42
  go_wp2_with fail
  refine (l1New_any _ xs _ _ _ r f hh hl).mono ?_
  rintro e w1 ⟨rfl, c1, b1, s1⟩
  go_wp2_with fail
  refine (l1Below_any 3 _ _ _ c1 (by omega)).mono ?_
  rintro e w2 ⟨x, ⟨x0, x1⟩, rfl, c2, t2⟩
  obtain ⟨n, rfl⟩ := Int.eq_ofNat_of_zero_le x0
  go_wp2_with fail
  refine (l1Bytes_any n _ _ _ c2 (by omega)).mono ?_
  rintro e w3 ⟨v1, ys, rfl, o3, hy, f3, c3, t3⟩
  have HY := Lib.hid hy
  clear hy
  go_wp2_with fail
  refine (l1One_any _ _ _ c3).mono ?_
  rintro e w4 ⟨k, hk, rfl, c4, t4⟩
  have HK := Lib.hid hk
  clear hk
  have z2 := t2.size
  have z3 := t3.size
  have z4 := t4.size
  have o4 := o3.touch t4 (by omega)
  go_wp2_with fail
  go_ret2
  exact ⟨v1, ys, k, HK.out, rfl, o4.more (by omega), by have := HY.out; omega, f3, ((t2.trans t3).trans t4).below b1 (by omega)⟩
end Go.Proofs.Ythidfmheeblfeaa
