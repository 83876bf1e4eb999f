/- Varints, of the program and of the reference: the walks. -/
import Derived.Test.YthidfmheeblfeaaUvp
import Derived.Test.YthidfmheeblfeaaConcat
import Derived.Test.YthidfmheeblfeaaStep
import Derived.Test.YthidfmheeblfeaaRange
namespace Go.Proofs.Ythidfmheeblfeaa
open Go.RowKit
set_option linter.unusedVariables false

theorem i64_or128 (y : Int) (h0 : 0 ≤ y) (h1 : y < 128) : bits .or .i64 y 128 = y + 128 := by
  have hc : bits .or .i64 y 128 = bits .or .i64 128 y := by simp only [bits, BitVec.or_comm]
  rw [hc, bits_join .i64 62 (by decide) (fun n a b => by rw [IntKind.wrap_i64]; omega) 7 128 y (by decide) (by decide) (by decide) h0 h1 (by omega)]
  omega
set_option maxRecDepth 100000 in
theorem nat_or128 : ∀ y : Fin 256, (y.val ||| 128) = y.val % 128 + 128 := by decide
theorem u8_or128_mod (m : Int) : bits .or .u8 (m % 256) 128 = m % 128 + 128 := by
  rw [u8_or (m % 256) 128 (by omega) (by omega) (by omega) (by omega)]
  have h := nat_or128 ⟨(m % 256).toNat, by omega⟩
  simp only at h
  rw [show (128 : Int).toNat = 128 from rfl, h]
  omega
theorem uvE_yes {n : Int} (h : 0 ≤ n ∧ n ≤ 1000000000000) : uvE n = uvF 5 n := if_pos h
theorem uvE_no {n : Int} (h : ¬ (0 ≤ n ∧ n ≤ 1000000000000)) : uvE n = [] := if_neg h

set_option maxRecDepth 100000 in
theorem specApU (v : Value) (xs : List Int) (n : Int) (w : World) (l h : Nat) (r : Rd .u8 w l h v xs) (hn : In64 n) (hh : h ≤ w.heap.size) (hl : xs.length ≤ 16777216) :
    Calls Try.prog 21 #[v, .int .i64 n] w fun e w' => ∃ v', e = .returned v' ∧ Own .u8 5 w' w.heap.size v' (xs ++ uvE n) ∧ Below w.heap.size w w' := by
  obtain ⟨i0, hi, hz0, hz1, hz2⟩ := info_parts info_u8
  obtain ⟨A, c, rfl, hc1, hc2⟩ := r.form
  unfold maxLen at hc2
  go_enter Try.func21, Try.ntmps21
  go_wp2_with (at_builtin; refine wpList_append_Own _ rfl (.tmp 6) (.tmp 7) 22 rfl w.heap.size 5 i0 (.int .u8 0) .u8 1 Try.underlying22 hi hz0 hz1 hz2 rfl _ [] rfl (Own.lit0 _ _ _ _ _) _ l h xs rfl (r.alloc hh _) ?_ ?_ ?_ ?_)
  · simp [maxLen]; omega
  · simp; omega
  · simp
  intro v1 w1 hO1 hW1
  have b1 : Below w.heap.size w w1 := hW1.below ((Below.refl _ w).alloc (Nat.le_refl _) _) (Nat.le_refl _) (by simp)
  by_cases hr : 0 ≤ n ∧ n ≤ 1000000000000
  rotate_left
  · have HE := Lib.hid (uvE_no hr)
    have HR := Lib.hid hr
    clear hr
    go_wp2_with fail
    refine (l1In_no _ _ _ _ HR.out).mono ?_
    rintro e w' ⟨rfl, rfl⟩
    go_wp2_with fail
    go_ret
    exact ⟨_, rfl, by rw [HE.out, List.append_nil]; exact hO1, b1⟩
  · have HE := Lib.hid (uvE_yes hr)
    obtain ⟨r0, r1⟩ := hr
    go_wp2_with fail
    refine (l1In_yes _ _ _ _ r0 r1).mono ?_
    rintro e w' ⟨rfl, rfl⟩
    go_wp2_with fail
    go_loopw [1, 5] (fun q o wr => ∃ (f : Nat) (m : Int) (pre : List Int), q = .int .i64 m ∧ Own .u8 5 wr w.heap.size o (xs ++ pre) ∧ pre ++ uvF f m = uvF 5 n ∧ 0 ≤ m ∧ m < 128 ^ (f + 1) ∧ pre.length + f ≤ 5 ∧ m ≤ 1000000000000 ∧ Below w.heap.size w wr) (fun q _ _ => (intOf q).toNat)
    case atStart => exact ⟨5, n, [], rfl, by simpa using hO1, rfl, r0, by omega, by simp, r1, b1⟩
    case round =>
      obtain ⟨f, m, pre, rfl, own, hq, m0, m1, hpl, mm, bel⟩ := hrel
      have hsz := bel.size
      have HQ := Lib.hid hq
      have BEL := Lib.hid bel
      clear b1 hO1 hW1 hq bel
      have hA : (xs ++ pre).length + [m].length ≤ maxLen := by simp [maxLen]; omega
      have hB : ((xs ++ pre).length + [m].length) * 1 ≤ 140737488355328 := by simp; omega
      by_cases hm : m < 128
      · have HF := Lib.hid (uvF_small (f := f) hm)
        have OWN := Lib.hid own
        have e1 : IntKind.u8.wrap m = m := IntWalk.u8_in _ (by omega)
        clear own m1
        go_wp2_with (at_builtin; refine wpList_append_Own _ rfl (.tmp 24) (.tmp 27) 22 rfl w.heap.size 5 i0 (.int .u8 0) .u8 1 Try.underlying22 hi hz0 hz1 hz2 rfl _ _ rfl (OWN.out.alloc _) _ _ _ [m] rfl (Own.lit1 .u8 5 _ 0 m (Nat.zero_le _)).rd hA hB ?_ ?_)
        · first | omega | (simp; omega)
        · intro v2 w2 hO2 hW2
          have b2 : Below w.heap.size w w2 := hW2.below (BEL.out.alloc (by omega) _) (Nat.le_refl _) (by simp; omega)
          go_wp2_with fail
          go_ret
          exact ⟨_, rfl, by rw [HE.out, ← HQ.out, HF.out]; exact hO2, b2⟩
      · obtain ⟨g, rfl⟩ : ∃ g, f = g + 1 := by
          cases f with
          | zero => simp at m1; omega
          | succ g => exact ⟨g, rfl⟩
        have HF := Lib.hid (uvF_big (f := g) hm)
        have OWN := Lib.hid own
        have e1 := i64_and127 m
        have e2 := i64_or128 (m % 128) (by omega) (by omega)
        have e3 : IntKind.u8.wrap (m % 128 + 128) = m % 128 + 128 := IntWalk.u8_in _ (by omega)
        have hA' : (xs ++ pre).length + [m % 128 + 128].length ≤ maxLen := by simp [maxLen]; omega
        have hB' : ((xs ++ pre).length + [m % 128 + 128].length) * 1 ≤ 140737488355328 := by simp; omega
        have hm1 := Lib.hid m1
        clear own m1 hA hB
        go_wp2_with (at_builtin; refine wpList_append_Own _ rfl (.tmp 15) (.tmp 20) 22 rfl w.heap.size 5 i0 (.int .u8 0) .u8 1 Try.underlying22 hi hz0 hz1 hz2 rfl _ _ rfl (OWN.out.alloc _) _ _ _ [m % 128 + 128] rfl (Own.lit1 .u8 5 _ 0 (m % 128 + 128) (Nat.zero_le _)).rd hA' hB' ?_ ?_)
        · first | omega | (simp; omega)
        · intro v2 w2 hO2 hW2
          have b2 : Below w.heap.size w w2 := hW2.below (BEL.out.alloc (by omega) _) (Nat.le_refl _) (by simp; omega)
          go_wp2_with fail
          exact ⟨⟨g, m / 128, pre ++ [m % 128 + 128], by go_num, hO2, by rw [List.append_assoc, ← HQ.out, HF.out]; rfl, by omega, by have := hm1.out; rw [pow128 (g + 1)] at this; omega, by simp; omega, by omega, b2⟩, by simp [intOf]; omega⟩
set_option maxRecDepth 100000 in
theorem implApU (v : Value) (xs : List Int) (n : Int) (w : World) (l h : Nat) (r : Rd .u8 w l h v xs) (hn : In64 n) (hh : h ≤ w.heap.size) (hl : xs.length ≤ 16777216) :
    Calls Try.prog 22 #[v, .int .i64 n] w fun e w' => ∃ v', e = .returned v' ∧ Own .u8 5 w' w.heap.size v' (xs ++ uvE n) ∧ Below w.heap.size w w' := by
  obtain ⟨i0, hi, hz0, hz1, hz2⟩ := info_parts info_u8
  go_enter Try.func22, Try.ntmps22
  go_wp2_with fail
  refine (cloneByte _ xs _ _ _ r hh (by omega)).mono ?_
  rintro e w1 ⟨v1, rfl, hO1, b1⟩
  by_cases hr : 0 ≤ n ∧ n ≤ 1000000000000
  rotate_left
  · have HE := Lib.hid (uvE_no hr)
    have HR := Lib.hid hr
    clear hr
    go_wp2_with fail
    refine (inRange_no _ _ _ _ HR.out).mono ?_
    rintro e w' ⟨rfl, rfl⟩
    go_wp2_with fail
    go_ret
    exact ⟨_, rfl, by rw [HE.out, List.append_nil]; exact hO1, b1⟩
  · have HE := Lib.hid (uvE_yes hr)
    obtain ⟨r0, r1⟩ := hr
    go_wp2_with fail
    refine (inRange_yes _ _ _ _ r0 r1).mono ?_
    rintro e w' ⟨rfl, rfl⟩
    go_wp2_with fail
    go_loopw [1, 5] (fun q o wr => ∃ (f : Nat) (m : Int) (pre : List Int), q = .int .i64 m ∧ Own .u8 5 wr w.heap.size o (xs ++ pre) ∧ pre ++ uvF f m = uvF 5 n ∧ 0 ≤ m ∧ m < 128 ^ (f + 1) ∧ pre.length + f ≤ 5 ∧ m ≤ 1000000000000 ∧ Below w.heap.size w wr) (fun q _ _ => (intOf q).toNat)
    case atStart => exact ⟨5, n, [], rfl, by simpa using hO1, rfl, r0, by omega, by simp, r1, b1⟩
    case round =>
      obtain ⟨f, m, pre, rfl, own, hq, m0, m1, hpl, mm, bel⟩ := hrel
      have hsz := bel.size
      have HQ := Lib.hid hq
      have BEL := Lib.hid bel
      clear b1 hO1 hq bel
      have hA : (xs ++ pre).length + [m].length ≤ maxLen := by simp [maxLen]; omega
      have hB : ((xs ++ pre).length + [m].length) * 1 ≤ 140737488355328 := by simp; omega
      by_cases hm : m < 128
      · have HF := Lib.hid (uvF_small (f := f) hm)
        have OWN := Lib.hid own
        have e1 : IntKind.u8.wrap m = m := IntWalk.u8_in _ (by omega)
        clear own m1
        go_wp2_with (at_builtin; refine wpList_append_Own _ rfl (.tmp 22) (.tmp 25) 22 rfl w.heap.size 5 i0 (.int .u8 0) .u8 1 Try.underlying22 hi hz0 hz1 hz2 rfl _ _ rfl (OWN.out.alloc _) _ _ _ [m] rfl (Own.lit1 .u8 5 _ 0 m (Nat.zero_le _)).rd hA hB ?_ ?_)
        · first | omega | (simp; omega)
        · intro v2 w2 hO2 hW2
          have b2 : Below w.heap.size w w2 := hW2.below (BEL.out.alloc (by omega) _) (Nat.le_refl _) (by simp; omega)
          go_wp2_with fail
          go_ret
          exact ⟨_, rfl, by rw [HE.out, ← HQ.out, HF.out]; exact hO2, b2⟩
      · obtain ⟨g, rfl⟩ : ∃ g, f = g + 1 := by
          cases f with
          | zero => simp at m1; omega
          | succ g => exact ⟨g, rfl⟩
        have HF := Lib.hid (uvF_big (f := g) hm)
        have OWN := Lib.hid own
        have e1 : IntKind.u8.wrap m = m % 256 := IntKind.wrap_u8 m
        have e2 := u8_or128_mod m
        have hA' : (xs ++ pre).length + [m % 128 + 128].length ≤ maxLen := by simp [maxLen]; omega
        have hB' : ((xs ++ pre).length + [m % 128 + 128].length) * 1 ≤ 140737488355328 := by simp; omega
        have hm1 := Lib.hid m1
        clear own m1 hA hB
        go_wp2_with (at_builtin; refine wpList_append_Own _ rfl (.tmp 14) (.tmp 18) 22 rfl w.heap.size 5 i0 (.int .u8 0) .u8 1 Try.underlying22 hi hz0 hz1 hz2 rfl _ _ rfl (OWN.out.alloc _) _ _ _ [m % 128 + 128] rfl (Own.lit1 .u8 5 _ 0 (m % 128 + 128) (Nat.zero_le _)).rd hA' hB' ?_ ?_)
        · first | omega | (simp; omega)
        · intro v2 w2 hO2 hW2
          have b2 : Below w.heap.size w w2 := hW2.below (BEL.out.alloc (by omega) _) (Nat.le_refl _) (by simp; omega)
          go_wp2_with fail
          exact ⟨⟨g, m / 128, pre ++ [m % 128 + 128], by go_num, hO2, by rw [List.append_assoc, ← HQ.out, HF.out]; rfl, by omega, by have := hm1.out; rw [pow128 (g + 1)] at this; omega, by simp; omega, by omega, b2⟩, by simp [intOf]; omega⟩
end Go.Proofs.Ythidfmheeblfeaa
