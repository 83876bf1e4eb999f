/- Packed selections, of the program and of the reference. -/
import Derived.Test.YtabfekfbdacboaaUnit
import Derived.Test.YtabfekfbdacboaaPrg
import Derived.BigRegion
namespace Go.Proofs.Ytabfekfbdacboaa
open Go.RowKit
set_option linter.unusedVariables false

/-- Bits as a number, the first one lowest. -/
def packB : List Int → Int
  | [] => 0
  | x :: xs => x + 2 * packB xs
/-- The j-th eight bits. -/
def chunk (v : List Int) (j : Nat) : List Int := (v.drop (8 * j)).take 8
/-- The bytes of a selection of which k elements have been packed. -/
def packSt (v : List Int) (k : Nat) : List Int := (v.length : Int) :: (List.range ((v.length + 7) / 8)).map fun j => packB (chunk (v.take k) j)
/-- What PackSelection gives. -/
def packAll (v : List Int) : List Int := if isSel v v.length = true then packSt v v.length else []
theorem packAll_yes {v : List Int} (h : isSel v v.length = true) : packAll v = packSt v v.length := if_pos h
theorem packAll_no {v : List Int} (h : ¬ isSel v v.length = true) : packAll v = [] := if_neg h
theorem packSt_length (v : List Int) (k : Nat) : (packSt v k).length = 1 + (v.length + 7) / 8 := by simp [packSt]; omega
theorem packB_snoc (l : List Int) (x : Int) : packB (l ++ [x]) = packB l + x * 2 ^ l.length := by
  induction l with
  | nil => simp [packB]
  | cons y ys ih =>
    simp only [List.cons_append, packB, ih, List.length_cons, Int.pow_succ]
    rw [Int.mul_add, ← Int.add_assoc, Int.mul_left_comm, Int.mul_comm (2 : Int) (2 ^ ys.length)]
theorem packB_bd (l : List Int) (h : ∀ x ∈ l, 0 ≤ x ∧ x ≤ 1) : 0 ≤ packB l ∧ packB l < 2 ^ l.length := by
  induction l with
  | nil => simp [packB]
  | cons y ys ih =>
    have h1 := h y (by simp)
    have h2 := ih (fun x hx => h x (by simp [hx]))
    simp only [packB, List.length_cons, Int.pow_succ]
    omega
theorem packSt_zero (v : List Int) : packSt v 0 = (v.length : Int) :: List.replicate ((v.length + 7) / 8) 0 := by
  unfold packSt
  congr 1
  apply List.ext_getElem (by simp)
  intro i h1 h2
  simp [chunk, packB]
theorem packSt_init (v : List Int) : (List.replicate (1 + (v.length + 7) / 8) (0 : Int)).set 0 (v.length : Int) = packSt v 0 := by
  rw [packSt_zero, show 1 + (v.length + 7) / 8 = (v.length + 7) / 8 + 1 by omega, List.replicate_succ]
  rfl
theorem chunk_same {v : List Int} {k j : Nat} (h : k < v.length) (hj : j ≠ k / 8) : chunk (v.take (k + 1)) j = chunk (v.take k) j := by
  unfold chunk
  rw [List.take_succ_eq_append_getElem h]
  have hl : (v.take k).length = k := by rw [List.length_take]; omega
  by_cases h1 : 8 * j ≤ k
  · rw [List.drop_append_of_le_length (by omega), List.take_append_of_le_length (by rw [List.length_drop, hl]; omega)]
  · rw [List.drop_of_length_le (by simp; omega), List.drop_of_length_le (by omega)]
theorem chunk_next {v : List Int} {k : Nat} (h : k < v.length) : chunk (v.take (k + 1)) (k / 8) = chunk (v.take k) (k / 8) ++ [v[k]] ∧ (chunk (v.take k) (k / 8)).length = k % 8 := by
  have hl : (v.take k).length = k := by rw [List.length_take]; omega
  have hd : ((v.take k).drop (8 * (k / 8))).length = k % 8 := by rw [List.length_drop, hl]; omega
  have e1 : chunk (v.take k) (k / 8) = (v.take k).drop (8 * (k / 8)) := by
    unfold chunk; rw [List.take_of_length_le (by omega)]
  refine ⟨?_, by rw [e1]; exact hd⟩
  rw [e1]
  unfold chunk
  rw [List.take_succ_eq_append_getElem h, List.drop_append_of_le_length (by omega), List.take_of_length_le (by rw [List.length_append, hd, List.length_singleton]; omega)]
/-- The byte that is turned at place k, before. -/
def packOld (v : List Int) (k : Nat) : Int := packB (chunk (v.take k) (k / 8))
theorem packSt_get {v : List Int} {k : Nat} (h : k < v.length) : (packSt v k)[1 + k / 8]? = some (packOld v k) := by
  unfold packSt
  rw [show 1 + k / 8 = k / 8 + 1 by omega, List.getElem?_cons_succ, List.getElem?_map, List.getElem?_range (by omega)]
  rfl
theorem packSt_succ {v : List Int} {k : Nat} (h : k < v.length) : packSt v (k + 1) = (packSt v k).set (1 + k / 8) (packOld v k + v[k] * 2 ^ (k % 8)) := by
  obtain ⟨h1, h2⟩ := chunk_next h
  unfold packSt packOld
  rw [show 1 + k / 8 = k / 8 + 1 by omega, List.set_cons_succ]
  congr 1
  apply List.ext_getElem (by simp)
  intro i g1 g2
  simp only [List.getElem_map, List.getElem_range, List.getElem_set]
  by_cases hi : k / 8 = i
  · subst hi
    rw [if_pos rfl, h1, packB_snoc, h2]
  · rw [if_neg hi, chunk_same h (fun e => hi e.symm)]
theorem packOld_bd {v : List Int} {k : Nat} (h : k < v.length) (hb : bitsB v = true) : 0 ≤ packOld v k ∧ packOld v k < 2 ^ (k % 8) := by
  have h2 := (chunk_next h).2
  have h3 := packB_bd (chunk (v.take k) (k / 8)) (fun x hx => by
    have hx' := List.mem_of_mem_take (List.mem_of_mem_drop (List.mem_of_mem_take hx))
    obtain ⟨i, hi, rfl⟩ := List.getElem_of_mem hx'
    exact bitsB_at hb hi)
  rw [h2] at h3
  exact h3
theorem pow8 {m : Nat} (h : m < 8) : (2 : Int) ^ m ≤ 128 ∧ (0 : Int) < 2 ^ m := by
  refine ⟨?_, Int.pow_pos (by decide)⟩
  have : (2 : Int) ^ m ≤ 2 ^ 7 := by exact_mod_cast Nat.pow_le_pow_right (by decide) (by omega : m ≤ 7)
  omega
/-- One bit laid into a byte that is smaller. -/
theorem or_bit {a x : Int} {m : Nat} (h : m < 8) (a0 : 0 ≤ a) (a1 : a < 2 ^ m) (hx : 0 ≤ x ∧ x ≤ 1) : bits .or .u8 a (x * 2 ^ m) = a + x * 2 ^ m := by
  obtain ⟨p1, p0⟩ := pow8 h
  rcases (show x = 0 ∨ x = 1 by omega) with rfl | rfl
  · rw [Int.zero_mul, u8_or a 0 a0 (by omega) (by omega) (by omega)]
    simp; omega
  · rw [Int.one_mul, u8_or a (2 ^ m) a0 (by omega) (by omega) (by omega), Nat.or_comm]
    have := u8_or (2 ^ m) a (by omega) (by omega) a0 (by omega)
    rw [← this, bits_join .u8 8 (by decide) wraps_u8 m (2 ^ m) a (by omega) (Int.emod_self) (by omega) a0 a1 (by omega), Int.add_comm]

set_option maxRecDepth 100000 in
set_option maxHeartbeats 1000000 in
theorem specPack (v : Value) (xs : List Int) (w : World) (l h : Nat) (r : Rd .i64 w l h v xs) (f : Wf .i64 xs) (hh : h ≤ w.heap.size) (hl : xs.length ≤ 1048576) :
    Calls Try.prog 63 #[v] w fun e w' => ∃ v', e = .returned v' ∧ Own .u8 5 w' w.heap.size v' (packAll xs) ∧ Below w.heap.size w w' := by
  obtain ⟨i0, hi, hz0, hz1, hz2⟩ := info_parts info_u8
  obtain ⟨A, c, rfl, hc1, hc2⟩ := r.form
  unfold maxLen at hc2
  have hn64 : In64 (xs.length : Int) := by unfold In64; omega
  by_cases s1 : isSel xs xs.length = true
  rotate_left
  · have HE := Lib.hid (packAll_no s1)
    have s1' : isSel xs xs.length = false := by simpa using s1
    have H := Lib.hid s1'
    clear s1 s1'
    go_enter Try.func63, Try.ntmps63
    go_wp2_with fail
    refine (specIsSel _ xs _ _ _ _ r hn64).mono ?_
    rw [H.out]
    rintro e w' ⟨rfl, rfl⟩
    go_wp2_with fail
    go_ret
    exact ⟨_, rfl, by rw [HE.out]; exact Own.of_empty _ _ _ _ _, by first | exact Below.refl _ w | exact (Below.refl _ w).alloc (Nat.le_refl _) _⟩
  · have HE := Lib.hid (packAll_yes s1)
    have HB := Lib.hid (isSel_iff s1).1
    have h64 : xs.length ≤ 64 := by have := (isSel_iff s1).2.2; omega
    have H := Lib.hid s1
    clear s1
    go_enter Try.func63, Try.ntmps63
    go_wp2_with fail
    refine (specIsSel _ xs _ _ _ _ r hn64).mono ?_
    rw [H.out]
    rintro e w' ⟨rfl, rfl⟩
    have hnb : 1 + (xs.length + 7) / 8 ≤ 9 := by omega
    go_wp2_with (at_make; refine wpList_make_full _ rfl _ _ 22 rfl w.heap.size 5 i0 (.int .u8 0) 1 Try.underlying22 hi hz0 hz1 _ _ _ _ (1 + (xs.length + 7) / 8) rfl rfl (by omega) (by omega) ?_ ?_ ?_ ?_)
    · rw [hz2]; omega
    · unfold maxLen; omega
    · exact Nat.le_refl _
    · intro w1 hown hg
      have own0 : Own .u8 5 w1 w.heap.size (.slice (some ⟨w.heap.size, 0, none⟩) (1 + (xs.length + 7) / 8) (1 + (xs.length + 7) / 8)) (List.replicate (1 + (xs.length + 7) / 8) 0) := by
        refine .inl ?_
        rw [List.length_replicate, List.map_replicate]
        have e := toList_madeCells_one (.int .u8 0) (1 + (xs.length + 7) / 8)
        simpa [Value.cells, e] using hown
      have bel0 : Below w.heap.size w w1 := (Below.refl _ _).grown hg (Nat.le_refl _) (fun _ h => by cases h)
      obtain ⟨g, hge, -, hg1, -, row⟩ := own0.open_ (by simp; omega)
      cases hge
      have c1 : w1.cell? ⟨w.heap.size, 0, none⟩ = some (.int .u8 0) := by
        rw [row.cellAt 0 (by simp; omega), List.map_replicate, List.getElem?_replicate, if_pos (by omega)]
      have c0 := row.frozenAt 0
      have own1 := own0.store 0 (by simp; omega) (xs.length : Int)
      rw [packSt_init] at own1
      have OWN1 := Lib.hid own1
      have b1 := bel0.setCell (p := ⟨w.heap.size, 0, none⟩) (Nat.le_refl _) (.int .u8 (xs.length : Int))
      have hnbI : ((1 + (xs.length + 7) / 8 : Nat) : Int) = 1 + ((xs.length : Int) + 7) / 8 := by omega
      clear hown hg hi hz0 hz1 hz2 own0 own1 row bel0
      generalize hNB : 1 + (xs.length + 7) / 8 = NB at *
      have HNB := Lib.hid hNB
      have HNBI := Lib.hid hnbI
      have hNB0 : 0 < NB := by omega
      clear hNB hnbI
      go_wp2_with fail
      go_loopw [4] (fun i wr => ∃ k : Nat, k ≤ xs.length ∧ i = .int .i64 k ∧ Own .u8 5 wr w.heap.size (.slice (some ⟨w.heap.size, 0, none⟩) NB NB) (packSt xs k) ∧ Below w.heap.size w wr) (fun i _ => xs.length - (intOf i).toNat)
      case atStart => exact ⟨0, Nat.zero_le _, rfl, OWN1.out, b1⟩
      case round =>
        obtain ⟨k, hk, rfl, own, bel⟩ := hrel
        clear b1
        have sz := bel.size
        by_cases hlt : k < xs.length
        · obtain ⟨A', c', e1, _, _, hr'⟩ := r.below bel hh
          obtain ⟨b, off, hA, _, hb, hcell⟩ := hr' (by omega)
          simp at e1
          obtain ⟨rfl, rfl⟩ := e1
          subst hA
          obtain ⟨x, hx⟩ : ∃ x, x = xs[k] := ⟨_, rfl⟩
          have d1 := hcell k x (by rw [hx]; simp [hlt])
          have hxb := bitsB_at HB.out hlt
          rw [← hx] at hxb
          obtain ⟨x0, x1⟩ := hxb
          have hpl := packSt_length xs k
          rw [HNB.out] at hpl
          have hq : 1 + k / 8 < NB := by have := HNB.out; omega
          obtain ⟨g, hge, -, hg1, -, row⟩ := own.open_ (by omega)
          cases hge
          obtain ⟨o0, o1⟩ := packOld_bd hlt HB.out
          have hget := packSt_get hlt
          have hsucc := packSt_succ hlt
          rw [← hx] at hsucc
          generalize packOld xs k = old at o0 o1 hget hsucc
          have d2 : wr.cell? ⟨w.heap.size, 1 + k / 8, none⟩ = some (.int .u8 old) := by
            rw [row.cellAt (1 + k / 8) (by omega), List.getElem?_map, hget]; rfl
          have d3 := row.frozenAt (1 + k / 8)
          have own2 := own.store (1 + k / 8) (by omega) (old + x * 2 ^ (k % 8))
          rw [← hsucc] at own2
          have O2 := Lib.hid own2
          have hor := or_bit (m := k % 8) (by omega) o0 o1 ⟨x0, x1⟩
          have HOR := Lib.hid hor
          have k0 : (0 : Int) ≤ (k : Int) := by omega
          have k1 : (k : Int) < (xs.length : Int) := by omega
          have hqI : (1 : Int) + (k : Int) / 8 < (NB : Int) := by omega
          obtain ⟨p128, ppos⟩ := pow8 (m := k % 8) (by omega)
          have hxm : 0 ≤ x * 2 ^ (k % 8) ∧ x * 2 ^ (k % 8) ≤ 128 := by
            rcases (show x = 0 ∨ x = 1 by omega) with rfl | rfl <;> omega
          obtain ⟨xm0, xm1⟩ := hxm
          have e1 : (k : Int).tdiv 8 = (k : Int) / 8 := Int.tdiv_eq_ediv_of_nonneg k0
          have e2 : IntKind.i64.wrap ((k : Int) / 8) = (k : Int) / 8 := IntWalk.i64_in _ (by omega)
          have e3 : IntKind.i64.wrap (1 + (k : Int) / 8) = 1 + (k : Int) / 8 := IntWalk.i64_in _ (by omega)
          have e4 : (0 : Int) ≤ 1 + (k : Int) / 8 := by omega
          have e5 : (1 + (k : Int) / 8).toNat = 1 + k / 8 := by omega
          have e6 : (k : Int).tmod 8 = (k : Int) % 8 := Int.tmod_eq_emod_of_nonneg k0
          have e7 : ((k : Int) % 8).toNat = k % 8 := by omega
          have e8 : min (k % 8) 64 = k % 8 := by omega
          have e9 : (0 : Int) ≤ (k : Int) % 8 := by omega
          have e10 : IntKind.i64.wrap (x * 2 ^ (k % 8)) = x * 2 ^ (k % 8) := IntWalk.i64_in _ (by omega)
          have e11 : IntKind.u8.wrap (x * 2 ^ (k % 8)) = x * 2 ^ (k % 8) := IntWalk.u8_in _ (by omega)
          clear hcell hr' hx hpl hget hsucc own2 own row p128 ppos
          go_wp2_with fail
          go_region_with fail
          all_goals
            clear e1 e2 e3 e4 e5 e6 e7 e8 e9 e10 e11 d1 d2 d3 hor
            have b2 : Below w.heap.size w (wr.setCell ⟨w.heap.size, 1 + k / 8, none⟩ (.int .u8 (old + x * 2 ^ (k % 8)))) := bel.setCell (Nat.le_refl _) _
            go_wp2_with fail
            exact ⟨⟨k + 1, by omega, by go_num, by first | exact O2.out | exact O2.out.drew | exact O2.out.drewN _, by first | exact b2 | exact b2.drew | exact b2.drew.drew⟩, by simp [intOf]; omega⟩
        · obtain rfl : k = xs.length := by omega
          have O := Lib.hid own
          clear own r
          go_wp2_with fail
          go_ret
          exact ⟨_, rfl, by rw [HE.out]; exact O.out, bel⟩
set_option maxRecDepth 100000 in
set_option maxHeartbeats 1000000 in
theorem implPack (v : Value) (xs : List Int) (w : World) (l h : Nat) (r : Rd .i64 w l h v xs) (f : Wf .i64 xs) (hh : h ≤ w.heap.size) (hl : xs.length ≤ 1048576) :
    Calls Try.prog 13 #[v] w fun e w' => ∃ v', e = .returned v' ∧ Own .u8 5 w' w.heap.size v' (packAll xs) ∧ Below w.heap.size w w' := by
  obtain ⟨i0, hi, hz0, hz1, hz2⟩ := info_parts info_u8
  obtain ⟨A, c, rfl, hc1, hc2⟩ := r.form
  unfold maxLen at hc2
  have hn64 : In64 (xs.length : Int) := by unfold In64; omega
  by_cases s1 : isSel xs xs.length = true
  rotate_left
  · have HE := Lib.hid (packAll_no s1)
    have s1' : isSel xs xs.length = false := by simpa using s1
    have H := Lib.hid s1'
    clear s1 s1'
    go_enter Try.func13, Try.ntmps13
    go_wp2_with fail
    refine (implIsSel _ xs _ _ _ _ r hn64).mono ?_
    rw [H.out]
    rintro e w' ⟨rfl, rfl⟩
    go_wp2_with fail
    go_ret
    exact ⟨_, rfl, by rw [HE.out]; exact Own.of_empty _ _ _ _ _, by first | exact Below.refl _ w | exact (Below.refl _ w).alloc (Nat.le_refl _) _⟩
  · have HE := Lib.hid (packAll_yes s1)
    have HB := Lib.hid (isSel_iff s1).1
    have h64 : xs.length ≤ 64 := by have := (isSel_iff s1).2.2; omega
    have H := Lib.hid s1
    clear s1
    go_enter Try.func13, Try.ntmps13
    go_wp2_with fail
    refine (implIsSel _ xs _ _ _ _ r hn64).mono ?_
    rw [H.out]
    rintro e w' ⟨rfl, rfl⟩
    have hnb : 1 + (xs.length + 7) / 8 ≤ 9 := by omega
    go_wp2_with (at_make; refine wpList_make_full _ rfl _ _ 22 rfl w.heap.size 5 i0 (.int .u8 0) 1 Try.underlying22 hi hz0 hz1 _ _ _ _ (1 + (xs.length + 7) / 8) rfl rfl (by omega) (by omega) ?_ ?_ ?_ ?_)
    · rw [hz2]; omega
    · unfold maxLen; omega
    · exact Nat.le_refl _
    · intro w1 hown hg
      have own0 : Own .u8 5 w1 w.heap.size (.slice (some ⟨w.heap.size, 0, none⟩) (1 + (xs.length + 7) / 8) (1 + (xs.length + 7) / 8)) (List.replicate (1 + (xs.length + 7) / 8) 0) := by
        refine .inl ?_
        rw [List.length_replicate, List.map_replicate]
        have e := toList_madeCells_one (.int .u8 0) (1 + (xs.length + 7) / 8)
        simpa [Value.cells, e] using hown
      have bel0 : Below w.heap.size w w1 := (Below.refl _ _).grown hg (Nat.le_refl _) (fun _ h => by cases h)
      obtain ⟨g, hge, -, hg1, -, row⟩ := own0.open_ (by simp; omega)
      cases hge
      have c1 : w1.cell? ⟨w.heap.size, 0, none⟩ = some (.int .u8 0) := by
        rw [row.cellAt 0 (by simp; omega), List.map_replicate, List.getElem?_replicate, if_pos (by omega)]
      have c0 := row.frozenAt 0
      have own1 := own0.store 0 (by simp; omega) (xs.length : Int)
      rw [packSt_init] at own1
      have OWN1 := Lib.hid own1
      have b1 := bel0.setCell (p := ⟨w.heap.size, 0, none⟩) (Nat.le_refl _) (.int .u8 (xs.length : Int))
      have hnbI : ((1 + (xs.length + 7) / 8 : Nat) : Int) = 1 + ((xs.length : Int) + 7) / 8 := by omega
      clear hown hg hi hz0 hz1 hz2 own0 own1 row bel0
      generalize hNB : 1 + (xs.length + 7) / 8 = NB at *
      have HNB := Lib.hid hNB
      have HNBI := Lib.hid hnbI
      have hNB0 : 0 < NB := by omega
      clear hNB hnbI
      go_wp2_with fail
      go_loopw [4, 5, 24] (fun _ _ i wr => ∃ k : Nat, k ≤ xs.length ∧ i = .int .i64 k ∧ Own .u8 5 wr w.heap.size (.slice (some ⟨w.heap.size, 0, none⟩) NB NB) (packSt xs k) ∧ Below w.heap.size w wr) (fun _ _ i _ => xs.length - (intOf i).toNat)
      case atStart => exact ⟨0, Nat.zero_le _, rfl, OWN1.out, b1⟩
      case round =>
        obtain ⟨k, hk, rfl, own, bel⟩ := hrel
        clear b1
        have sz := bel.size
        by_cases hlt : k < xs.length
        · obtain ⟨A', c', e1, _, _, hr'⟩ := r.below bel hh
          obtain ⟨b, off, hA, _, hb, hcell⟩ := hr' (by omega)
          simp at e1
          obtain ⟨rfl, rfl⟩ := e1
          subst hA
          obtain ⟨x, hx⟩ : ∃ x, x = xs[k] := ⟨_, rfl⟩
          have d1 := hcell k x (by rw [hx]; simp [hlt])
          have hxb := bitsB_at HB.out hlt
          rw [← hx] at hxb
          obtain ⟨x0, x1⟩ := hxb
          have hpl := packSt_length xs k
          rw [HNB.out] at hpl
          have hq : 1 + k / 8 < NB := by have := HNB.out; omega
          obtain ⟨g, hge, -, hg1, -, row⟩ := own.open_ (by omega)
          cases hge
          obtain ⟨o0, o1⟩ := packOld_bd hlt HB.out
          have hget := packSt_get hlt
          have hsucc := packSt_succ hlt
          rw [← hx] at hsucc
          generalize packOld xs k = old at o0 o1 hget hsucc
          have d2 : wr.cell? ⟨w.heap.size, 1 + k / 8, none⟩ = some (.int .u8 old) := by
            rw [row.cellAt (1 + k / 8) (by omega), List.getElem?_map, hget]; rfl
          have d3 := row.frozenAt (1 + k / 8)
          have own2 := own.store (1 + k / 8) (by omega) (old + x * 2 ^ (k % 8))
          rw [← hsucc] at own2
          have O2 := Lib.hid own2
          have hor := or_bit (m := k % 8) (by omega) o0 o1 ⟨x0, x1⟩
          have HOR := Lib.hid hor
          have k0 : (0 : Int) ≤ (k : Int) := by omega
          have k1 : (k : Int) < (xs.length : Int) := by omega
          have hqI : (1 : Int) + (k : Int) / 8 < (NB : Int) := by omega
          obtain ⟨p128, ppos⟩ := pow8 (m := k % 8) (by omega)
          have hxm : 0 ≤ x * 2 ^ (k % 8) ∧ x * 2 ^ (k % 8) ≤ 128 := by
            rcases (show x = 0 ∨ x = 1 by omega) with rfl | rfl <;> omega
          obtain ⟨xm0, xm1⟩ := hxm
          have e1 : (k : Int).tdiv 8 = (k : Int) / 8 := Int.tdiv_eq_ediv_of_nonneg k0
          have e2 : IntKind.i64.wrap ((k : Int) / 8) = (k : Int) / 8 := IntWalk.i64_in _ (by omega)
          have e3 : IntKind.i64.wrap (1 + (k : Int) / 8) = 1 + (k : Int) / 8 := IntWalk.i64_in _ (by omega)
          have e4 : (0 : Int) ≤ 1 + (k : Int) / 8 := by omega
          have e5 : (1 + (k : Int) / 8).toNat = 1 + k / 8 := by omega
          have e6 : (k : Int).tmod 8 = (k : Int) % 8 := Int.tmod_eq_emod_of_nonneg k0
          have e7 : ((k : Int) % 8).toNat = k % 8 := by omega
          have e8 : min (k % 8) 64 = k % 8 := by omega
          have e9 : (0 : Int) ≤ (k : Int) % 8 := by omega
          have e10 : IntKind.i64.wrap (x * 2 ^ (k % 8)) = x * 2 ^ (k % 8) := IntWalk.i64_in _ (by omega)
          have e11 : IntKind.u8.wrap (x * 2 ^ (k % 8)) = x * 2 ^ (k % 8) := IntWalk.u8_in _ (by omega)
          clear hcell hr' hx hpl hget hsucc own2 own row p128 ppos
          go_wp2_with fail
          go_region_with fail
          all_goals
            clear e1 e2 e3 e4 e5 e6 e7 e8 e9 e10 e11 d1 d2 d3 hor
            have b2 : Below w.heap.size w (wr.setCell ⟨w.heap.size, 1 + k / 8, none⟩ (.int .u8 (old + x * 2 ^ (k % 8)))) := bel.setCell (Nat.le_refl _) _
            go_wp2_with fail
            exact ⟨⟨k + 1, by omega, by go_num, by first | exact O2.out | exact O2.out.drew | exact O2.out.drewN _, by first | exact b2 | exact b2.drew | exact b2.drew.drew⟩, by simp [intOf]; omega⟩
        · obtain rfl : k = xs.length := by omega
          have O := Lib.hid own
          clear own r
          go_wp2_with fail
          go_ret
          exact ⟨_, rfl, by rw [HE.out]; exact O.out, bel⟩
end Go.Proofs.Ytabfekfbdacboaa
