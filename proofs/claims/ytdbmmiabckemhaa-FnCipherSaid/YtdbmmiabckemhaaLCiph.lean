/- The law of the cipher. -/
import Derived.Test.YtdbmmiabckemhaaCipher
import Derived.Test.YtdbmmiabckemhaaDraw3
import Derived.Test.YtdbmmiabckemhaaSame
namespace Go.Proofs.Ytdbmmiabckemhaa
open Go.RowKit
set_option linter.unusedVariables false

theorem mapAt_inv {f g : Nat → Int → Int} (h : ∀ i x, 0 ≤ x ∧ x ≤ 255 → g i (f i x) = x) (i : Nat) (xs : List Int) (wf : Wf .u8 xs) : mapAt g i (mapAt f i xs) = xs := by
  induction xs generalizing i with
  | nil => rfl
  | cons x xs ih =>
    have hx := bd8 (wf x (by simp))
    simp only [mapAt]
    rw [h i x hx, ih (i + 1) (fun y hy => wf y (by simp [hy]))]
theorem dec_enc (k : Int) (xs : List Int) (wf : Wf .u8 xs) : mapAt (decAt k) 0 (mapAt (encAt k) 0 xs) = xs :=
  mapAt_inv (fun i x hx => by unfold decAt encAt; omega) 0 xs wf
theorem enc_dec (k : Int) (xs : List Int) (wf : Wf .u8 xs) : mapAt (encAt k) 0 (mapAt (decAt k) 0 xs) = xs :=
  mapAt_inv (fun i x hx => by unfold decAt encAt; omega) 0 xs wf
theorem enc_wf (k : Int) (xs : List Int) : Wf .u8 (mapAt (encAt k) 0 xs) := mapAt_wf (fun i x => by unfold encAt; omega) 0 xs
theorem dec_wf (k : Int) (xs : List Int) : Wf .u8 (mapAt (decAt k) 0 xs) := mapAt_wf (fun i x => by unfold decAt; omega) 0 xs

set_option maxRecDepth 100000 in
theorem law_FnCipher (w : World) (v0 : Value) (xs : List Int) (r0 : Rd .u8 w 0 w.heap.size v0 xs) (f0 : Wf .u8 xs) :
    Calls Try.prog 13 #[v0] w fun e w' => e = .returned (.bool true) ∧ Below w.heap.size w w' := by
  by_cases b0 : xs.length ≤ 1048576
  rotate_left
  · go_enter Try.func13, Try.ntmps13
    go_wp2_with fail
    refine (big_yes _ xs _ _ _ r0 b0).mono ?_
    rintro e w1 ⟨rfl, rfl⟩
    go_wp2_with fail
    go_ret
    exact ⟨rfl, Below.refl _ _⟩
  go_enter Try.func13, Try.ntmps13
  go_wp2_with fail
  refine (big_no _ xs _ _ _ r0 b0).mono ?_
  rintro e w1 ⟨rfl, rfl⟩
  go_wp2_with fail
  refine (drawEnc_any _ xs _ _ _ r0 f0 (Nat.le_refl _) b0).mono ?_
  rintro e w1 ⟨k, v1, ys, hk, rfl, o1, hy, fy, B1⟩
  have hk64 : In64 k := by unfold In64; omega
  have q1 := o1.rd
  have s1 := B1.size
  obtain ⟨A1, c1, rfl, hc1, hm1⟩ := q1.form
  unfold maxLen at hm1
  have K := Lib.hid hk64
  have F := Lib.hid fy
  clear hk hk64 fy o1 r0
  have hLe : Hid ((mapAt (encAt k) 0 ys).length = ys.length) := mapAt_length _ _ _
  have hLd : Hid ((mapAt (decAt k) 0 ys).length = ys.length) := mapAt_length _ _ _
  go_wp2_with fail
  refine (implEnc k _ ys _ _ _ q1 F.out K.out (Nat.le_refl _) (by omega)).mono ?_
  rintro e w2 ⟨v2, rfl, o2, bel2⟩
  have s2 := bel2.size
  have B2 := B1.trans (bel2.mono s1)
  replace q1 := q1.below bel2 (Nat.le_refl _)
  go_wp2_with fail
  refine (implDec k _ _ _ _ _ o2.rd (enc_wf k ys) K.out (Nat.le_refl _) (by rw [hLe.out]; omega)).mono ?_
  rintro e w3 ⟨v3, rfl, o3, bel3⟩
  rw [dec_enc k ys F.out] at o3
  have s3 := bel3.size
  have B3 := B2.trans (bel3.mono (by omega))
  replace q1 := q1.below bel3 (by omega)
  clear o2
  go_wp2_with fail
  refine (sameBytes_same _ _ ys _ _ _ _ _ o3.rd q1).mono ?_
  rintro e w4 ⟨rfl, bel4⟩
  have s4 := bel4.size
  have B4 := B3.trans (bel4.mono (by omega))
  replace q1 := q1.below bel4 (by omega)
  clear o3
  go_wp2_with fail
  refine (implDec k _ ys _ _ _ q1 F.out K.out (by omega) (by omega)).mono ?_
  rintro e w5 ⟨v5, rfl, o5, bel5⟩
  have s5 := bel5.size
  have B5 := B4.trans (bel5.mono (by omega))
  replace q1 := q1.below bel5 (by omega)
  go_wp2_with fail
  refine (implEnc k _ _ _ _ _ o5.rd (dec_wf k ys) K.out (Nat.le_refl _) (by rw [hLd.out]; omega)).mono ?_
  rintro e w6 ⟨v6, rfl, o6, bel6⟩
  rw [enc_dec k ys F.out] at o6
  have s6 := bel6.size
  have B6 := B5.trans (bel6.mono (by omega))
  replace q1 := q1.below bel6 (by omega)
  clear o5
  go_wp2_with fail
  refine (sameBytes_same _ _ ys _ _ _ _ _ o6.rd q1).mono ?_
  rintro e w7 ⟨rfl, bel7⟩
  have s7 := bel7.size
  have B7 := B6.trans (bel7.mono (by omega))
  replace q1 := q1.below bel7 (by omega)
  clear o6
  go_wp2_with fail
  refine (implEnc k _ ys _ _ _ q1 F.out K.out (by omega) (by omega)).mono ?_
  rintro e w8 ⟨v8, rfl, o8, bel8⟩
  have s8 := bel8.size
  have B8 := B7.trans (bel8.mono (by omega))
  obtain ⟨A8, c8, rfl, hc8, hm8⟩ := o8.rd.form
  rw [hLe.out] at *
  clear o8 q1 hc8 hm8
  go_wp2_with fail
  go_ret
  exact ⟨ret_bool (by simp), B8⟩
end Go.Proofs.Ytdbmmiabckemhaa
