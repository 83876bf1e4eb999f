/- The keyed hash, of the program and of the reference. -/
import Derived.Test.YtabfekfbdacboaaHash
import Derived.Test.YtabfekfbdacboaaConcat
namespace Go.Proofs.Ytabfekfbdacboaa
open Go.RowKit
set_option linter.unusedVariables false

theorem keyed_eq (key : Int) (xs : List Int) : hashL (([key] ++ xs) ++ [key]) = keyed key xs := rfl
theorem keyed_flat (key : Int) (xs : List Int) : hashL ([[key], xs, [key]].flatten) = keyed key xs := by simp [keyed]

theorem specKeyed (key : Int) (v : Value) (xs : List Int) (w : World) (l h : Nat) (r : Rd .i64 w l h v xs) (f : Wf .i64 xs) (hk : In64 key) (hh : h ≤ w.heap.size) (hl : xs.length ≤ 1073741000) :
    Calls Try.prog 70 #[.int .i64 key, v] w fun e w' => e = .returned (.int .i64 (keyed key xs)) ∧ Below w.heap.size w w' := by
  obtain ⟨i0, hi, hz0, hz1, hz2⟩ := info_parts info_int
  obtain ⟨A, c, rfl, hc1, hc2⟩ := r.form
  go_enter Try.func70, Try.ntmps70
  go_wp2_with (at_builtin; refine wpList_append_Own _ rfl (.tmp 6) (.tmp 7) 24 rfl w.heap.size 3 i0 (.int .i64 0) .i64 8 Try.underlying24 hi hz0 hz1 hz2 rfl _ [key] rfl (Own.lit1 _ _ _ _ _ (Nat.le_refl _)) _ l h xs rfl (r.alloc hh _) ?_ ?_ ?_ ?_)
  · simp [maxLen]; omega
  · simp; omega
  · simp
  · intro v1 w1 hO1 hW1
    have b1 : Below w.heap.size w w1 := hW1.below ((Below.refl _ w).alloc (Nat.le_refl _) _) (Nat.le_refl _) (by simp)
    have s1 := b1.size
    clear hc1 hc2 r
    go_wp2_with (at_builtin; refine wpList_append_Own _ rfl (.tmp 8) (.tmp 10) 24 rfl w.heap.size 3 i0 (.int .i64 0) .i64 8 Try.underlying24 hi hz0 hz1 hz2 rfl _ ([key] ++ xs) rfl (hO1.alloc _) _ _ _ [key] rfl (Own.lit1 .i64 3 w1 0 key (Nat.zero_le _)).rd ?_ ?_ ?_ ?_)
    · simp [maxLen]; omega
    · simp; omega
    · simp; omega
    · intro v2 w2 hO2 hW2
      have b2 : Below w.heap.size w w2 := hW2.below (b1.alloc s1 _) (Nat.le_refl _) (by simp; omega)
      have rd := hO2.rd
      clear hO1 hW1 b1 s1 hO2 hW2 hi hz0 hz1 hz2
      go_wp2_with fail
      refine (specHash v2 _ w2 _ _ rd ((Wf.cons (wf64 hk) f).app (Wf.cons (wf64 hk) Wf.nil))).mono ?_
      rintro e w3 ⟨rfl, rfl⟩
      go_wp2_with fail
      go_ret
      exact ⟨ret_int (keyed_eq key xs), b2⟩

theorem concatInt (v : Value) (xss : List (List Int)) (w : World) (l h : Nat) (r : Rds .i64 w l h v xss) (hh : h ≤ w.heap.size) (hn : xss.length ≤ 1073741824) (ht : xss.flatten.length ≤ 1073741824) :
    Calls Try.prog 96 #[v] w fun e w' => ∃ v', e = .returned v' ∧ Own .i64 3 w' w.heap.size v' xss.flatten ∧ Below w.heap.size w w' := by
  obtain ⟨i0, hi, hz0, hz1, hz2⟩ := info_parts info_int
  obtain ⟨A, c, rfl, hc1, hc2⟩ := r.form
  unfold maxLen at hc2
  go_enter Try.func96, Try.ntmps96
  go_wp2_with fail
  go_loop [3, 5, 11] (fun s _ i => ∃ k : Nat, k ≤ xss.length ∧ i = .int .i64 k ∧ s = .int .i64 ((xss.take k).flatten.length : Nat)) (fun _ _ i => xss.length - (intOf i).toNat)
  case atStart => exact ⟨0, Nat.zero_le _, rfl, rfl⟩
  case round =>
    obtain ⟨k, hk, rfl, rfl⟩ := hrel
    have hle := flatten_take_le xss k
    obtain ⟨t, hT⟩ : ∃ t, t = (xss.take k).flatten.length := ⟨_, rfl⟩
    rw [← hT] at hle ⊢
    by_cases hlt : k < xss.length
    · obtain ⟨b, off, c', u, hv, _, _, c1, hu⟩ := r.at_ hlt
      obtain ⟨A', d, rfl, hd1, hd2⟩ := hu.form
      have hstep := flatten_step_le xss k hlt
      have HF := Lib.hid (flatten_take xss k hlt)
      rw [← hT] at hstep
      have HT := Lib.hid hT
      simp at hv
      obtain ⟨rfl, rfl⟩ := hv
      unfold maxLen at hd2
      clear hT hu r
      go_wp2_with fail
      go_round
      case rel => exact ⟨k + 1, by omega, by go_num, by rw [HF.out, List.length_append, ← HT.out]; go_num⟩
      case measure => simp [intOf]; omega
    · have HT := Lib.hid hT
      clear hT
      go_wp2_with fail
      refine (growInt t _ (by omega)).mono ?_
      rintro e w1 ⟨v0, rfl, o1, bel1⟩
      go_wp2_with fail
      go_loopw [6, 8, 27] (fun v _ i wr => ∃ k2 : Nat, k2 ≤ xss.length ∧ i = .int .i64 k2 ∧ Own .i64 3 wr w.heap.size v (xss.take k2).flatten ∧ Below w.heap.size w wr) (fun _ _ i _ => xss.length - (intOf i).toNat)
      case atStart => exact ⟨0, Nat.zero_le _, rfl, o1, bel1⟩
      case round =>
        obtain ⟨k2, hk2, rfl, own, bel⟩ := hrel
        clear o1 bel1
        have sz := bel.size
        by_cases hlt2 : k2 < xss.length
        · have r' := r.below bel hh
          obtain ⟨b, off, c', u, hv, _, _, c1, hu⟩ := r'.at_ hlt2
          have hstep := flatten_step_le xss k2 hlt2
          have HF := Lib.hid (flatten_take xss k2 hlt2)
          simp at hv
          obtain ⟨rfl, rfl⟩ := hv
          clear r r'
          go_wp2_with (at_builtin; refine wpList_append_Own _ rfl (.tmp 31) (.tmp 32) 24 rfl w.heap.size 3 i0 (.int .i64 0) .i64 8 Try.underlying24 hi hz0 hz1 hz2 rfl _ _ rfl own u _ _ _ rfl hu ?_ ?_ ?_ ?_)
          · simp only [maxLen]; omega
          · omega
          · exact sz
          · intro v2 w2 hO2 hW2
            have b2 := Lib.hid (hW2.below bel (Nat.le_refl _) sz)
            have O2 := Lib.hid hO2
            clear hO2 hW2 own bel hu
            go_wp2_with fail
            go_roundw
            case rel => exact ⟨k2 + 1, by omega, by go_num, by rw [HF.out]; exact O2.out, b2.out⟩
            case measure => simp [intOf]; omega
        · have OWN := Lib.hid own
          have BEL := Lib.hid bel
          clear own bel r
          go_wp2_with fail
          go_ret
          refine ⟨_, rfl, ?_, BEL.out⟩
          have := OWN.out
          rwa [List.take_of_length_le (by omega)] at this

theorem implKeyed (key : Int) (v : Value) (xs : List Int) (w : World) (l h : Nat) (r : Rd .i64 w l h v xs) (f : Wf .i64 xs) (hk : In64 key) (hh : h ≤ w.heap.size) (hl : xs.length ≤ 1073741000) :
    Calls Try.prog 76 #[.int .i64 key, v] w fun e w' => e = .returned (.int .i64 (keyed key xs)) ∧ Below w.heap.size w w' := by
  have r3 := Rds.lit3 3 24 w key key r hh
  obtain ⟨A, c, rfl, hc1, hc2⟩ := r.form
  go_enter Try.func76, Try.ntmps76
  go_wp2_with fail
  refine (concatInt _ _ _ _ _ r3 (by simp) (by simp) (by simp; omega)).mono ?_
  rintro e w1 ⟨v1, rfl, o1, bel1⟩
  have bel : Below w.heap.size w w1 := ((((Below.refl _ w).alloc (Nat.le_refl _) _).alloc (by simp) _).alloc (by simp; omega) _).trans (bel1.mono (by simp; omega))
  have rd := o1.rd
  clear bel1 o1 r3
  go_wp2_with fail
  refine (implHash v1 _ w1 _ _ rd (by simpa using (Wf.cons (wf64 hk) f).app (Wf.cons (wf64 hk) Wf.nil))).mono ?_
  rintro e w3 ⟨rfl, rfl⟩
  go_wp2_with fail
  go_ret
  exact ⟨ret_int (keyed_flat key xs), bel⟩

end Go.Proofs.Ytabfekfbdacboaa
