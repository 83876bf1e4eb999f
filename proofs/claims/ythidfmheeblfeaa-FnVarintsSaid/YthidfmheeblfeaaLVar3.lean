/- The draw of a varint that is read. -/
import Derived.Test.YthidfmheeblfeaaLVar2
namespace Go.Proofs.Ythidfmheeblfeaa
open Go.RowKit
set_option linter.unusedVariables false

set_option maxRecDepth 100000 in
theorem drawUr_any (v : Value) (xs : List Int) (w : World) (l h : Nat) (r : Rd .u8 w l h v xs) (f : Wf .u8 xs) (hh : h ≤ w.heap.size) (hl : xs.length ≤ 1048576) :
    Calls Try.prog 43 #[v] w fun e w' => ∃ v1 ys k, (-1 ≤ k ∧ k ≤ 2) ∧ e = .returned (.tuple #[v1, .int .i64 k]) ∧ Own .u8 5 w' w.heap.size v1 ys ∧ ys.length ≤ 8 ∧ Wf .u8 ys ∧ Below w.heap.size w w' := by
  obtain ⟨i0, hi0, hz0, hz1, hz2⟩ := info_parts info_u8
  go_enter Try.func43, Try.ntmps43
  go_wp2_with fail
  refine (l1New_any _ xs _ _ _ r f hh hl).mono ?_
  rintro e w1 ⟨rfl, c1, b1, s1⟩
  go_wp2_with fail
  refine (l1Once_any 2 _ _ _ c1 (by omega)).mono ?_
  rintro e w2 ⟨b, rfl, c2, t2⟩
  have z2 := t2.size
  have B2 := t2.below b1 (by omega)
  cases b
  · go_wp2_with fail
    refine (l1Below_any 8 _ _ _ (c2.alloc _) (by omega)).mono ?_
    rintro e w3 ⟨x, ⟨x0, x1⟩, rfl, c3, t3⟩
    have z3 := t3.size
    simp only [World.size_alloc] at z3
    have T3 := ((Touch.refl w2 w.heap.size (w.heap.size + 1)).alloc (.cells #[] 5)).trans t3
    obtain ⟨n, rfl⟩ := Int.eq_ofNat_of_zero_le x0
    go_wp2_with fail
    go_loopw [5, 6] (fun o i wr => ∃ (k : Nat) (ys : List Int), k ≤ 7 ∧ i = .int .i64 k ∧ Own .u8 5 wr w2.heap.size o ys ∧ ys.length + k ≤ 7 ∧ Wf .u8 ys ∧ Cur wr w.heap.size w.heap.size ∧ Touch w2 wr w.heap.size (w.heap.size + 1)) (fun _ i _ => (intOf i).toNat)
    case atStart => exact ⟨n, [], by omega, rfl, Own.of_empty _ _ _ _ _, by simp; omega, wf_nil _, c3, T3⟩
    case round =>
      obtain ⟨k, ys, hk, rfl, own, hyl, wf, cr, tr⟩ := hrel
      have hsz := tr.size
      have WF := Lib.hid wf
      have OWN := Lib.hid own
      clear wf own
      by_cases hlt : 0 < k
      · go_wp2_with fail
        refine (l1Int_any _ [128, 255, 0, 1, 127] _ _ _ _ (cr.alloc _) ((Rd.lit (e := 3) _ 5 rfl rfl (by decide)).more (by omega) (Nat.le_refl _)) (by simp) (by decide)).mono ?_
        rintro e w4 ⟨y, hy, rfl, c4, t4⟩
        have hy' : 0 ≤ y ∧ y ≤ 255 := by simp at hy; omega
        clear hy
        obtain ⟨y0, y1⟩ := hy'
        have z4 := t4.size
        simp only [World.size_alloc] at z4
        have own4 := Lib.hid ((OWN.out.alloc (.cells #[.int .i64 128, .int .i64 255, .int .i64 0, .int .i64 1, .int .i64 127] 3)).touch t4 (by omega))
        have e1 : IntKind.u8.wrap y = y := IntWalk.u8_in _ (by omega)
        have hA : ys.length + [y].length ≤ maxLen := by simp [maxLen]; omega
        have hB : (ys.length + [y].length) * 1 ≤ 140737488355328 := by simp; omega
        go_wp2_with (at_builtin; refine wpList_append_Own _ rfl (.tmp 23) (.tmp 28) 22 rfl w2.heap.size 5 i0 (.int .u8 0) .u8 1 Try.underlying22 hi0 hz0 hz1 hz2 rfl _ _ rfl (own4.out.alloc _) _ _ _ [y] rfl (Own.lit1 .u8 5 _ 0 y (Nat.zero_le _)).rd hA hB ?_ ?_)
        · first | omega | (simp; omega)
        · intro v5 w5 hO5 hW5
          have T5 : Touch w2 w5 w.heap.size (w.heap.size + 1) := (((tr.alloc _).trans t4).alloc _).wrote hW5 (Nat.le_refl _)
          have c5 : Cur w5 w.heap.size w.heap.size := (c4.alloc _).wrote hW5 (by omega)
          have wf5 : Hid (Wf .u8 (ys ++ [y])) := fun u hu => by
            rcases List.mem_append.1 hu with hu | hu
            · exact WF.out u hu
            · simp at hu; subst hu; exact WalkArith.wf_u8 ⟨y0, y1⟩
          go_wp2_with fail
          exact ⟨⟨k - 1, ys ++ [y], by omega, by go_num, hO5, by simp; omega, wf5.out, c5, T5⟩, by simp [intOf]; omega⟩
      · go_wp2_with fail
        refine (l1Below_any 4 _ _ _ cr (by omega)).mono ?_
        rintro e w4 ⟨x, ⟨x0', x1'⟩, rfl, c4, t4⟩
        have own4 := OWN.out.touch t4 (by omega)
        go_wp2_with fail
        go_ret2
        exact ⟨_, ys, x - 1, ⟨by omega, by omega⟩, by first | rfl | simp, own4.more (by omega), by omega, WF.out, (tr.trans t4).below B2 (by omega)⟩
  · go_wp2_with fail
    refine (l1Bytes_any 1 _ _ _ c2 (by omega)).mono ?_
    rintro e w3 ⟨v1, ys, rfl, o3, hy, f3, c3, t3⟩
    have HY := Lib.hid hy
    clear hy
    have z3 := t3.size
    go_wp2_with fail
    refine (l1Num_any _ _ _ c3).mono ?_
    rintro e w4 ⟨k, hk, rfl, c4, t4⟩
    obtain ⟨k0, k1⟩ := hk
    have z4 := t4.size
    have o4 := o3.touch t4 (by omega)
    have B4 := (t3.trans t4).below B2 (by omega)
    have hEl := uvE_length k
    go_wp2_with fail
    refine (specApU _ ys k _ _ _ o4.rd (by unfold In64; omega) (Nat.le_refl _) (by have := HY.out; omega)).mono ?_
    rintro e w5 ⟨v5, rfl, o5, bel5⟩
    have B5 := B4.trans (bel5.mono (by omega))
    have wf5 : Wf .u8 (ys ++ uvE k) := fun u hu => by
      rcases List.mem_append.1 hu with hu | hu
      · exact f3 u hu
      · exact uvE_wf k u hu
    have WF5 := Lib.hid wf5
    clear wf5 f3
    go_wp2_with fail
    go_ret2
    exact ⟨v5, _, 1, ⟨by omega, by omega⟩, rfl, o5.more (by omega), by rw [List.length_append]; have := HY.out; omega, WF5.out, B5⟩
end Go.Proofs.Ythidfmheeblfeaa
