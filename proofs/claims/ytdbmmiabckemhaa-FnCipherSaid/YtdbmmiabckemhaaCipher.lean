/- The stream cipher, of the program and of the reference. -/
import Derived.Test.YtdbmmiabckemhaaKeyed
import Derived.Test.YtdbmmiabckemhaaStep
import Derived.Test.YtdbmmiabckemhaaMark
namespace Go.Proofs.Ytdbmmiabckemhaa
open Go.RowKit
set_option linter.unusedVariables false

/-- One byte, encrypted; decrypted. -/
def encAt (key : Int) (i : Nat) (x : Int) : Int := (x + keyed key [(i : Int)] % 256) % 256
def decAt (key : Int) (i : Nat) (x : Int) : Int := (x - keyed key [(i : Int)] % 256) % 256
/-- Byte by byte, the first one at place i. -/
def mapAt (f : Nat → Int → Int) : Nat → List Int → List Int
  | _, [] => []
  | i, x :: xs => f i x :: mapAt f (i + 1) xs
theorem mapAt_length (f : Nat → Int → Int) (i : Nat) (xs : List Int) : (mapAt f i xs).length = xs.length := by
  induction xs generalizing i with
  | nil => rfl
  | cons x xs ih => simp [mapAt, ih]
theorem mapAt_snoc (f : Nat → Int → Int) (i : Nat) (xs : List Int) (x : Int) : mapAt f i (xs ++ [x]) = mapAt f i xs ++ [f (i + xs.length) x] := by
  induction xs generalizing i with
  | nil => simp [mapAt]
  | cons y ys ih =>
    simp only [List.cons_append, mapAt, ih, List.length_cons]
    rw [show i + 1 + ys.length = i + (ys.length + 1) by omega]
theorem mapAt_take (f : Nat → Int → Int) (xs : List Int) (k : Nat) (h : k < xs.length) : mapAt f 0 (xs.take (k + 1)) = mapAt f 0 (xs.take k) ++ [f k xs[k]] := by
  rw [List.take_succ_eq_append_getElem h, mapAt_snoc, List.length_take]
  rw [show 0 + min k xs.length = k by omega]
theorem mapAt_wf {f : Nat → Int → Int} (hf : ∀ i x, 0 ≤ f i x ∧ f i x ≤ 255) (i : Nat) (xs : List Int) : Wf .u8 (mapAt f i xs) := by
  induction xs generalizing i with
  | nil => exact Wf.nil
  | cons x xs ih => exact Wf.cons (WalkArith.wf_u8 (hf i x)) (ih _)
theorem wf8_at {xs : List Int} (f : Wf .u8 xs) {k : Nat} (h : k < xs.length) : 0 ≤ xs[k] ∧ xs[k] ≤ 255 := bd8 (f _ (List.getElem_mem h))

theorem enc_val8 {x q : Int} (x0 : 0 ≤ x) (x1 : x ≤ 255) (q0 : 0 ≤ q) : IntKind.u8.wrap (x + IntKind.u8.wrap (q.tmod 256)) = (x + q) % 256 := by
  rw [Int.tmod_eq_emod_of_nonneg q0, IntWalk.u8_in (q % 256) (by omega), IntKind.wrap_u8]
  omega
theorem dec_val8 {x q : Int} (x0 : 0 ≤ x) (x1 : x ≤ 255) (q0 : 0 ≤ q) : IntKind.u8.wrap (x - IntKind.u8.wrap (q.tmod 256)) = (x - q) % 256 := by
  rw [Int.tmod_eq_emod_of_nonneg q0, IntWalk.u8_in (q % 256) (by omega), IntKind.wrap_u8]
  omega
theorem wf1 {x : Int} (hx : In64 x) : Wf .i64 [x] := Wf.cons (wf64 hx) Wf.nil

theorem encAt_eq (key : Int) (i : Nat) (x : Int) : encAt key i x = (x + keyed key [(i : Int)]) % 256 := by unfold encAt; omega
theorem decAt_eq (key : Int) (i : Nat) (x : Int) : decAt key i x = (x - keyed key [(i : Int)]) % 256 := by unfold decAt; omega
theorem enc_val {x q : Int} (x0 : 0 ≤ x) (x1 : x ≤ 255) (q0 : 0 ≤ q) : IntKind.u8.wrap ((IntKind.i64.wrap (IntKind.i64.wrap x + q.tmod 256)).tmod 256) = (x + q % 256) % 256 := by
  rw [Int.tmod_eq_emod_of_nonneg q0, IntWalk.i64_in x (by omega), IntWalk.i64_in (x + q % 256) (by omega), Int.tmod_eq_emod_of_nonneg (by omega), IntWalk.u8_in _ (by omega)]
theorem dec_val {x q : Int} (x0 : 0 ≤ x) (x1 : x ≤ 255) (q0 : 0 ≤ q) : IntKind.i64.wrap (IntKind.i64.wrap x - q.tmod 256) = x - q % 256 := by
  rw [Int.tmod_eq_emod_of_nonneg q0, IntWalk.i64_in x (by omega), IntWalk.i64_in (x - q % 256) (by omega)]

set_option maxRecDepth 100000 in
theorem specEnc (key : Int) (v : Value) (xs : List Int) (w : World) (l h : Nat) (r : Rd .u8 w l h v xs) (f : Wf .u8 xs) (hk : In64 key) (hh : h ≤ w.heap.size) (hl : xs.length ≤ 1048576) :
    Calls Try.prog 39 #[.int .i64 key, v] w fun e w' => ∃ v', e = .returned v' ∧ Own .u8 5 w' w.heap.size v' (mapAt (encAt key) 0 xs) ∧ Below w.heap.size w w' := by
  obtain ⟨i0, hi, hz0, hz1, hz2⟩ := info_parts info_u8
  obtain ⟨A, c, rfl, hc1, hc2⟩ := r.form
  unfold maxLen at hc2
  go_enter Try.func39, Try.ntmps39
  go_wp2_with fail
  go_loopw [5, 6] (fun o i wr => ∃ k : Nat, k ≤ xs.length ∧ i = .int .i64 k ∧ Own .u8 5 wr w.heap.size o (mapAt (encAt key) 0 (xs.take k)) ∧ Below w.heap.size w wr) (fun _ i _ => xs.length - (intOf i).toNat)
  case atStart => exact ⟨0, Nat.zero_le _, rfl, Own.of_empty _ _ _ _ _, (Below.refl _ w).alloc (Nat.le_refl _) _⟩
  case round =>
    obtain ⟨k, hk', rfl, own, bel⟩ := hrel
    have sz := bel.size
    by_cases hlt : k < xs.length
    · have r' := r.below bel hh
      obtain ⟨A', c', e1, _, _, hr'⟩ := r'
      obtain ⟨b, off, hA, _, hb, hcell⟩ := hr' (by omega)
      simp at e1
      obtain ⟨rfl, rfl⟩ := e1
      subst hA
      obtain ⟨x, hx⟩ : ∃ x, x = xs[k] := ⟨_, rfl⟩
      have c1 := hcell k x (by rw [hx]; simp [hlt])
      have hxb := wf8_at f hlt
      rw [← hx] at hxb
      obtain ⟨x0, x1⟩ := hxb
      have HT := Lib.hid (mapAt_take (encAt key) xs k hlt)
      have HX := Lib.hid hx
      have hol := mapAt_length (encAt key) 0 (xs.take k)
      rw [List.length_take] at hol
      have hA : (mapAt (encAt key) 0 (xs.take k)).length + 1 ≤ maxLen := by rw [mapAt_length, List.length_take]; simp only [maxLen]; omega
      have hB : ((mapAt (encAt key) 0 (xs.take k)).length + 1) * 1 ≤ 140737488355328 := by rw [mapAt_length, List.length_take]; omega
      have k0 : (0 : Int) ≤ (k : Int) := by omega
      have k1 : (k : Int) < (xs.length : Int) := by omega
      clear hcell hr' r hx hol
      have hk64 : In64 (k : Int) := by unfold In64; omega
      have hbw : b < wr.heap.size := by omega
      have hb0 : b < w.heap.size := by omega
      go_wp2_with fail
      go_region_held3 (fun w' => w'.cell? ⟨b, off + k, none⟩ = some (.int .u8 x)) (first | go_keep | (fail))
        (first
          | (go_at_call 62; refine (specKeyed key _ [(k : Int)] _ 0 (wr.heap.size + 1) (by exact Rd.lit1) (wf1 hk64) hk (by simp) (by simp)).mono ?_; rintro e w1 ⟨rfl, bel1⟩; have c2 := cell_below bel1 (by simp; omega) (cell_past' hbw c1); have own1 := ((own.alloc (.cells #[.int .i64 k] 3)).drew).below bel1 (Nat.le_refl _); have s1 : wr.heap.size + 1 ≤ w1.heap.size := (by have := bel1.size; simpa using this))
          | (refine step_append_Own (by rfl) (.tmp 14) (.tmp 28) 29 (by rfl) w.heap.size 5 i0 (.int .u8 0) .u8 1 Try.underlying29 hi hz0 hz1 hz2 rfl _ _ (by rfl) (by first | exact own1.alloc _ | exact (own1.alloc _).drew) _ 0 (w1.heap.size + 1) [_] (by rfl) (by exact Rd.lit1) hA hB (by simp; omega) ?_; intro v2 w2 hO2 hW2; have c3 := (hW2.cell (by omega) (by simp; omega)).trans (cell_past (by omega) c2)))
      go_wp2_with fail
      have b1 : Below w.heap.size w w1 := ((bel.alloc sz _).drew).trans (bel1.mono (by simp; omega))
      have b2 : Below w.heap.size w w2 := by first | exact hW2.below (b1.alloc (by omega) _) (Nat.le_refl _) (by simp; omega) | exact hW2.below ((b1.alloc (by omega) _).drew) (Nat.le_refl _) (by simp; omega)
      rw [enc_val x0 x1 (keyed_bd key [(k : Int)]).1] at hO2
      have hO3 : Own .u8 5 w2 w.heap.size v2 (mapAt (encAt key) 0 (xs.take (k + 1))) := by rw [HT.out, ← HX.out]; exact hO2
      exact ⟨⟨k + 1, by omega, by go_num, hO3, b2⟩, by simp [intOf]; omega⟩
    · have O := Lib.hid own
      clear own r
      go_wp2_with fail
      go_ret
      refine ⟨_, rfl, ?_, bel⟩
      have h1 := O.out
      rwa [List.take_of_length_le (by omega)] at h1
set_option maxRecDepth 100000 in
theorem specDec (key : Int) (v : Value) (xs : List Int) (w : World) (l h : Nat) (r : Rd .u8 w l h v xs) (f : Wf .u8 xs) (hk : In64 key) (hh : h ≤ w.heap.size) (hl : xs.length ≤ 1048576) :
    Calls Try.prog 37 #[.int .i64 key, v] w fun e w' => ∃ v', e = .returned v' ∧ Own .u8 5 w' w.heap.size v' (mapAt (decAt key) 0 xs) ∧ Below w.heap.size w w' := by
  obtain ⟨i0, hi, hz0, hz1, hz2⟩ := info_parts info_u8
  obtain ⟨A, c, rfl, hc1, hc2⟩ := r.form
  unfold maxLen at hc2
  go_enter Try.func37, Try.ntmps37
  go_wp2_with fail
  go_loopw [5, 6] (fun o i wr => ∃ k : Nat, k ≤ xs.length ∧ i = .int .i64 k ∧ Own .u8 5 wr w.heap.size o (mapAt (decAt key) 0 (xs.take k)) ∧ Below w.heap.size w wr) (fun _ i _ => xs.length - (intOf i).toNat)
  case atStart => exact ⟨0, Nat.zero_le _, rfl, Own.of_empty _ _ _ _ _, (Below.refl _ w).alloc (Nat.le_refl _) _⟩
  case round =>
    obtain ⟨k, hk', rfl, own, bel⟩ := hrel
    have sz := bel.size
    by_cases hlt : k < xs.length
    · have r' := r.below bel hh
      obtain ⟨A', c', e1, _, _, hr'⟩ := r'
      obtain ⟨b, off, hA, _, hb, hcell⟩ := hr' (by omega)
      simp at e1
      obtain ⟨rfl, rfl⟩ := e1
      subst hA
      obtain ⟨x, hx⟩ : ∃ x, x = xs[k] := ⟨_, rfl⟩
      have c1 := hcell k x (by rw [hx]; simp [hlt])
      have hxb := wf8_at f hlt
      rw [← hx] at hxb
      obtain ⟨x0, x1⟩ := hxb
      have HT := Lib.hid (mapAt_take (decAt key) xs k hlt)
      have HX := Lib.hid hx
      have hol := mapAt_length (decAt key) 0 (xs.take k)
      rw [List.length_take] at hol
      have hA : (mapAt (decAt key) 0 (xs.take k)).length + 1 ≤ maxLen := by rw [mapAt_length, List.length_take]; simp only [maxLen]; omega
      have hB : ((mapAt (decAt key) 0 (xs.take k)).length + 1) * 1 ≤ 140737488355328 := by rw [mapAt_length, List.length_take]; omega
      have k0 : (0 : Int) ≤ (k : Int) := by omega
      have k1 : (k : Int) < (xs.length : Int) := by omega
      clear hcell hr' r hx hol
      have hk64 : In64 (k : Int) := by unfold In64; omega
      have HV := Lib.hid (dec_val x0 x1 (keyed_bd key [(k : Int)]).1)
      have hv64 : In64 (x - keyed key [(k : Int)] % 256) := by unfold In64; omega
      have HM := Lib.hid (modI_in (x - keyed key [(k : Int)] % 256) 256 (by omega) (by omega))
      have hbw : b < wr.heap.size := by omega
      have hb0 : b < w.heap.size := by omega
      go_wp2_with fail
      go_region_held3 (fun w' => w'.cell? ⟨b, off + k, none⟩ = some (.int .u8 x)) (first | go_keep | (fail))
        (first
          | (go_at_call 62; refine (specKeyed key _ [(k : Int)] _ 0 (wr.heap.size + 1) (by exact Rd.lit1) (wf1 hk64) hk (by simp) (by simp)).mono ?_; rintro e w1 ⟨rfl, bel1⟩; have c2 := cell_below bel1 (by simp; omega) (cell_past' hbw c1); have own1 := ((own.alloc (.cells #[.int .i64 k] 3)).drew).below bel1 (Nat.le_refl _); have s1 : wr.heap.size + 1 ≤ w1.heap.size := (by have := bel1.size; simpa using this))
          | (go_at_call 53; rw [HV.out]; refine (specMod _ 256 hv64 _).mono ?_; rw [HM.out]; rintro e w9 ⟨rfl, rfl⟩)
          | (refine step_append_Own (by rfl) (.tmp 14) (.tmp 28) 29 (by rfl) w.heap.size 5 i0 (.int .u8 0) .u8 1 Try.underlying29 hi hz0 hz1 hz2 rfl _ _ (by rfl) (by first | exact own1.alloc _ | exact (own1.alloc _).drew) _ 0 (w1.heap.size + 1) [_] (by rfl) (by exact Rd.lit1) hA hB (by simp; omega) ?_; intro v2 w2 hO2 hW2; have c3 := (hW2.cell (by omega) (by simp; omega)).trans (cell_past (by omega) c2)))
      go_wp2_with fail
      have b1 : Below w.heap.size w w1 := ((bel.alloc sz _).drew).trans (bel1.mono (by simp; omega))
      have b2 : Below w.heap.size w w2 := by first | exact hW2.below (b1.alloc (by omega) _) (Nat.le_refl _) (by simp; omega) | exact hW2.below ((b1.alloc (by omega) _).drew) (Nat.le_refl _) (by simp; omega)
      rw [IntWalk.u8_in _ (by omega)] at hO2
      have hO3 : Own .u8 5 w2 w.heap.size v2 (mapAt (decAt key) 0 (xs.take (k + 1))) := by rw [HT.out, ← HX.out, decAt_eq]; exact hO2
      exact ⟨⟨k + 1, by omega, by go_num, hO3, b2⟩, by simp [intOf]; omega⟩
    · have O := Lib.hid own
      clear own r
      go_wp2_with fail
      go_ret
      refine ⟨_, rfl, ?_, bel⟩
      have h1 := O.out
      rwa [List.take_of_length_le (by omega)] at h1
set_option maxRecDepth 100000 in
theorem implEnc (key : Int) (v : Value) (xs : List Int) (w : World) (l h : Nat) (r : Rd .u8 w l h v xs) (f : Wf .u8 xs) (hk : In64 key) (hh : h ≤ w.heap.size) (hl : xs.length ≤ 1048576) :
    Calls Try.prog 40 #[.int .i64 key, v] w fun e w' => ∃ v', e = .returned v' ∧ Own .u8 5 w' w.heap.size v' (mapAt (encAt key) 0 xs) ∧ Below w.heap.size w w' := by
  go_enter Try.func40, Try.ntmps40
  go_wp2_with fail
  refine (cloneByte _ xs _ _ _ r hh (by omega)).mono ?_
  rintro e w1 ⟨v1, rfl, o1, bel1⟩
  obtain ⟨A, c, rfl, hc1, hc2⟩ := o1.rd.form
  unfold maxLen at hc2
  clear r
  go_wp2_with fail
  go_loopw [6, 11] (fun _ i wr => ∃ k : Nat, k ≤ xs.length ∧ i = .int .i64 k ∧ Own .u8 5 wr w.heap.size (.slice A xs.length c) (mapAt (encAt key) 0 (xs.take k) ++ xs.drop k) ∧ Below w.heap.size w wr) (fun _ i _ => xs.length - (intOf i).toNat)
  case atStart => exact ⟨0, Nat.zero_le _, rfl, by simpa [mapAt] using o1, bel1⟩
  case round =>
    obtain ⟨k, hk', rfl, own, bel⟩ := hrel
    clear o1 bel1
    have sz := bel.size
    have hml : (mapAt (encAt key) 0 (xs.take k)).length = k := by rw [mapAt_length, List.length_take]; omega
    by_cases hlt : k < xs.length
    · obtain ⟨g, rfl, hg0, hg1, -, row⟩ := own.open_ (by simp only [List.length_append, List.length_drop, hml]; omega)
      obtain ⟨x, hx⟩ : ∃ x, x = xs[k] := ⟨_, rfl⟩
      have hxb := wf8_at f hlt
      rw [← hx] at hxb
      obtain ⟨x0, x1⟩ := hxb
      have hge := over_get (mapAt (encAt key) 0 (xs.take k)) xs (by omega)
      simp only [hml] at hge
      rw [← hx] at hge
      have c1 : wr.cell? ⟨g, k, none⟩ = some (.int .u8 x) := by
        have hk1 : k < (mapAt (encAt key) 0 (xs.take k) ++ xs.drop k).length := by simp only [List.length_append, List.length_drop, hml]; omega
        rw [row.cellAt k (by omega), List.getElem?_map, hge]; rfl
      have c0 := row.frozenAt k
      have hlen : (mapAt (encAt key) 0 (xs.take k) ++ xs.drop k).length = xs.length := by simp only [List.length_append, List.length_drop, hml]; omega
      have HT := Lib.hid (mapAt_take (encAt key) xs k hlt)
      have HX := Lib.hid hx
      have k0 : (0 : Int) ≤ (k : Int) := by omega
      have k1 : (k : Int) < (xs.length : Int) := by omega
      have hk64 : In64 (k : Int) := by unfold In64; omega
      have OWN := Lib.hid own
      clear hge hx own row
      have HLEN := Lib.hid hlen
      have HML := Lib.hid hml
      clear hlen hml
      go_wp2_with fail
      go_region_with (go_at_call 51; refine (implKeyed key _ [(k : Int)] _ 0 (wr.heap.size + 1) (by exact Rd.lit1) (wf1 hk64) hk (by simp) (by simp)).mono ?_; rintro e w1 ⟨rfl, bel1⟩; have c2 := cell_below bel1 (by simp; omega) (cell_past' hg1 c1); have f2 := (bel1.frozen (p := ⟨g, k, none⟩) (by simp; omega)).trans (frozen_past' hg1 c0))
      all_goals
        rw [enc_val8 x0 x1 (keyed_bd key [(k : Int)]).1]
        have b1 : Below w.heap.size w w1 := by first | exact ((bel.alloc sz _).drew).trans (bel1.mono (by simp; omega)) | exact (bel.alloc sz _).trans (bel1.mono (by simp; omega))
        have own1 := (((OWN.out).alloc (.cells #[.int .i64 k] 3)).drew).below bel1 (by simp)
        have own2 := own1.store k (by rw [HLEN.out]; omega) ((x + keyed key [(k : Int)]) % 256)
        have hos := over_set (mapAt (encAt key) 0 (xs.take k)) xs ((x + keyed key [(k : Int)]) % 256) (by rw [HML.out]; exact hlt)
        simp only [HML.out] at hos
        rw [hos] at own2
        have hfin : Own .u8 5 (w1.setCell ⟨g, k, none⟩ (.int .u8 ((x + keyed key [(k : Int)]) % 256))) w.heap.size (.slice (some ⟨g, 0, none⟩) xs.length c) (mapAt (encAt key) 0 (xs.take (k + 1)) ++ xs.drop (k + 1)) := by
          rw [HT.out, ← HX.out, encAt_eq]; exact own2
        have b2 : Below w.heap.size w (w1.setCell ⟨g, k, none⟩ (.int .u8 ((x + keyed key [(k : Int)]) % 256))) := b1.setCell hg0 _
        clear own1 own2 hos
        go_wp2_with fail
        exact ⟨⟨k + 1, by omega, by go_num, hfin, b2⟩, by simp [intOf]; omega⟩
    · have O := Lib.hid own
      clear own hml
      go_wp2_with fail
      go_ret
      refine ⟨_, rfl, ?_, bel⟩
      have h1 := O.out
      rwa [List.take_of_length_le (by omega), List.drop_of_length_le (by omega), List.append_nil] at h1

set_option maxRecDepth 100000 in
theorem implDec (key : Int) (v : Value) (xs : List Int) (w : World) (l h : Nat) (r : Rd .u8 w l h v xs) (f : Wf .u8 xs) (hk : In64 key) (hh : h ≤ w.heap.size) (hl : xs.length ≤ 1048576) :
    Calls Try.prog 38 #[.int .i64 key, v] w fun e w' => ∃ v', e = .returned v' ∧ Own .u8 5 w' w.heap.size v' (mapAt (decAt key) 0 xs) ∧ Below w.heap.size w w' := by
  go_enter Try.func38, Try.ntmps38
  go_wp2_with fail
  refine (cloneByte _ xs _ _ _ r hh (by omega)).mono ?_
  rintro e w1 ⟨v1, rfl, o1, bel1⟩
  obtain ⟨A, c, rfl, hc1, hc2⟩ := o1.rd.form
  unfold maxLen at hc2
  clear r
  go_wp2_with fail
  go_loopw [6, 11] (fun _ i wr => ∃ k : Nat, k ≤ xs.length ∧ i = .int .i64 k ∧ Own .u8 5 wr w.heap.size (.slice A xs.length c) (mapAt (decAt key) 0 (xs.take k) ++ xs.drop k) ∧ Below w.heap.size w wr) (fun _ i _ => xs.length - (intOf i).toNat)
  case atStart => exact ⟨0, Nat.zero_le _, rfl, by simpa [mapAt] using o1, bel1⟩
  case round =>
    obtain ⟨k, hk', rfl, own, bel⟩ := hrel
    clear o1 bel1
    have sz := bel.size
    have hml : (mapAt (decAt key) 0 (xs.take k)).length = k := by rw [mapAt_length, List.length_take]; omega
    by_cases hlt : k < xs.length
    · obtain ⟨g, rfl, hg0, hg1, -, row⟩ := own.open_ (by simp only [List.length_append, List.length_drop, hml]; omega)
      obtain ⟨x, hx⟩ : ∃ x, x = xs[k] := ⟨_, rfl⟩
      have hxb := wf8_at f hlt
      rw [← hx] at hxb
      obtain ⟨x0, x1⟩ := hxb
      have hge := over_get (mapAt (decAt key) 0 (xs.take k)) xs (by omega)
      simp only [hml] at hge
      rw [← hx] at hge
      have c1 : wr.cell? ⟨g, k, none⟩ = some (.int .u8 x) := by
        have hk1 : k < (mapAt (decAt key) 0 (xs.take k) ++ xs.drop k).length := by simp only [List.length_append, List.length_drop, hml]; omega
        rw [row.cellAt k (by omega), List.getElem?_map, hge]; rfl
      have c0 := row.frozenAt k
      have hlen : (mapAt (decAt key) 0 (xs.take k) ++ xs.drop k).length = xs.length := by simp only [List.length_append, List.length_drop, hml]; omega
      have HT := Lib.hid (mapAt_take (decAt key) xs k hlt)
      have HX := Lib.hid hx
      have k0 : (0 : Int) ≤ (k : Int) := by omega
      have k1 : (k : Int) < (xs.length : Int) := by omega
      have hk64 : In64 (k : Int) := by unfold In64; omega
      have OWN := Lib.hid own
      clear hge hx own row
      have HLEN := Lib.hid hlen
      have HML := Lib.hid hml
      clear hlen hml
      go_wp2_with fail
      go_region_with (go_at_call 51; refine (implKeyed key _ [(k : Int)] _ 0 (wr.heap.size + 1) (by exact Rd.lit1) (wf1 hk64) hk (by simp) (by simp)).mono ?_; rintro e w1 ⟨rfl, bel1⟩; have c2 := cell_below bel1 (by simp; omega) (cell_past' hg1 c1); have f2 := (bel1.frozen (p := ⟨g, k, none⟩) (by simp; omega)).trans (frozen_past' hg1 c0))
      all_goals
        rw [dec_val8 x0 x1 (keyed_bd key [(k : Int)]).1]
        have b1 : Below w.heap.size w w1 := by first | exact ((bel.alloc sz _).drew).trans (bel1.mono (by simp; omega)) | exact (bel.alloc sz _).trans (bel1.mono (by simp; omega))
        have own1 := (((OWN.out).alloc (.cells #[.int .i64 k] 3)).drew).below bel1 (by simp)
        have own2 := own1.store k (by rw [HLEN.out]; omega) ((x - keyed key [(k : Int)]) % 256)
        have hos := over_set (mapAt (decAt key) 0 (xs.take k)) xs ((x - keyed key [(k : Int)]) % 256) (by rw [HML.out]; exact hlt)
        simp only [HML.out] at hos
        rw [hos] at own2
        have hfin : Own .u8 5 (w1.setCell ⟨g, k, none⟩ (.int .u8 ((x - keyed key [(k : Int)]) % 256))) w.heap.size (.slice (some ⟨g, 0, none⟩) xs.length c) (mapAt (decAt key) 0 (xs.take (k + 1)) ++ xs.drop (k + 1)) := by
          rw [HT.out, ← HX.out, decAt_eq]; exact own2
        have b2 : Below w.heap.size w (w1.setCell ⟨g, k, none⟩ (.int .u8 ((x - keyed key [(k : Int)]) % 256))) := b1.setCell hg0 _
        clear own1 own2 hos
        go_wp2_with fail
        exact ⟨⟨k + 1, by omega, by go_num, hfin, b2⟩, by simp [intOf]; omega⟩
    · have O := Lib.hid own
      clear own hml
      go_wp2_with fail
      go_ret
      refine ⟨_, rfl, ?_, bel⟩
      have h1 := O.out
      rwa [List.take_of_length_le (by omega), List.drop_of_length_le (by omega), List.append_nil] at h1
end Go.Proofs.Ytdbmmiabckemhaa
