/- The cursor of the draws: bounds of what its functions give, and what they leave. -/
import Derived.Test.YtkpgkkifndlcpaaDoorStep
import Derived.Laws.Bits128
namespace Go.Proofs.YtkpgkkifndlcpaaDoor
open Go.RowKit
set_option linter.unusedVariables false

theorem i64_and255 (n : Int) : bits .and .i64 n 255 = n % 256 := by
  have h255 : (BitVec.ofInt 64 255).toNat = 2 ^ 8 - 1 := by decide
  have key : (BitVec.ofInt 64 n &&& BitVec.ofInt 64 255).toNat = (n % ((2 ^ 64 : Nat) : Int)).toNat % 2 ^ 8 := by
    rw [BitVec.toNat_and, BitVec.toNat_ofInt, h255, Nat.and_two_pow_sub_one_eq_mod]
  show IntKind.i64.wrap ((BitVec.ofInt 64 n &&& BitVec.ofInt 64 255).toNat : Nat) = n % 256
  rw [key, IntKind.wrap_i64]
  omega
theorem i64_and30 (n : Int) : bits .and .i64 n 1073741823 = n % 1073741824 := by
  have hm : (BitVec.ofInt 64 1073741823).toNat = 2 ^ 30 - 1 := by decide
  have key : (BitVec.ofInt 64 n &&& BitVec.ofInt 64 1073741823).toNat = (n % ((2 ^ 64 : Nat) : Int)).toNat % 2 ^ 30 := by
    rw [BitVec.toNat_and, BitVec.toNat_ofInt, hm, Nat.and_two_pow_sub_one_eq_mod]
  show IntKind.i64.wrap ((BitVec.ofInt 64 n &&& BitVec.ofInt 64 1073741823).toNat : Nat) = n % 1073741824
  rw [key, IntKind.wrap_i64]
  omega
theorem and255_bd (n : Int) : 0 ≤ bits .and .i64 n 255 ∧ bits .and .i64 n 255 ≤ 255 := by rw [i64_and255]; omega
theorem and30_bd (n : Int) : 0 ≤ bits .and .i64 n 1073741823 ∧ bits .and .i64 n 1073741823 ≤ 1073741823 := by rw [i64_and30]; omega
theorem in64_wrap (n : Int) : In64 (IntKind.i64.wrap n) := by unfold In64; rw [IntKind.wrap_i64]; omega

theorem in64_wrap64 (n : Int) : In64 (wrap64 n) := by unfold In64 wrap64; omega
theorem wf_nil (k : IntKind) : Wf k [] := fun n h => by cases h
theorem heap_set {w : World} {g j : Nat} {cs : Array Value} {t : TypeId} {fr : Nat × Nat} (h : w.heap[g]? = some (.cells cs t fr)) (u : Value) : (w.setCell ⟨g, j, none⟩ u).heap[g]? = some (.cells (cs.setIfInBounds j u) t fr) := by
  simp [World.setCell, Array.getElem?_modify, h]
theorem Touch.set (w : World) (g j : Nat) (u : Value) : Touch w (w.setCell ⟨g, j, none⟩ u) g (g + 1) :=
  ⟨rfl, rfl, rfl, Nat.le_of_eq (by simp [World.setCell]), fun k _ h => by
    have : k ≠ g := by omega
    simp [World.setCell, Array.getElem?_modify, this.symm]⟩
theorem Touch.drewN (w : World) (n lo hi : Nat) : Touch w (w.drewN n) lo hi := ⟨rfl, rfl, rfl, Nat.le_refl _, fun _ _ _ => rfl⟩
theorem Touch.grow {w wr w' : World} {lo hi : Nat} {row : Option Nat} (t : Touch w wr lo hi) (hg : wr.grownBy w' row) (hr : ∀ g, row = some g → w.heap.size ≤ g) : Touch w w' lo hi :=
  ⟨hg.os.trans t.os, hg.tape.trans t.tape, hg.output.trans t.output, Nat.le_trans t.size hg.size, fun k h1 h2 => (hg.block k (by have := t.size; omega) (fun e => by have := hr k e.symm; omega)).trans (t.block k h1 h2)⟩
theorem Touch.alloc {w wr : World} {lo hi : Nat} (t : Touch w wr lo hi) (o : Obj) : Touch w (wr.alloc o) lo hi := t.grow (World.grownBy_alloc wr o none) (fun _ h => by cases h)
theorem Touch.wrote {w wr w' : World} {lo hi l : Nat} {v : Value} (t : Touch w wr lo hi) (h : Wrote wr w' l v) (hl : w.heap.size ≤ l) : Touch w w' lo hi := by
  obtain ⟨row, hg, hr⟩ := h
  exact t.grow hg (fun g e => by have := hr g e; omega)
theorem Touch.of_below {w wr w' : World} {lo hi B : Nat} (t : Touch w wr lo hi) (h : Below B wr w') (hB : w.heap.size ≤ B) : Touch w w' lo hi :=
  ⟨h.os.trans t.os, h.tape.trans t.tape, h.output.trans t.output, Nat.le_trans t.size h.size, fun k h1 h2 => (h.block k (by omega)).trans (t.block k h1 h2)⟩

/-- A literal list of integers, just laid. -/
theorem Rd.lit {k : IntKind} {e : TypeId} {w : World} {cs : Array Value} (xs : List Int) (n : Nat) (hcs : cs = (xs.map (Value.int k)).toArray) (hn : n = xs.length) (hm : xs.length ≤ 100) :
    Rd k (w.alloc (.cells cs e)) w.heap.size (w.heap.size + 1) (.slice (some ⟨w.heap.size, 0, none⟩) n n) xs := by
  subst hn
  refine ⟨_, _, rfl, Nat.le_refl _, by unfold maxLen; omega, fun hp => ⟨_, _, rfl, Nat.le_refl _, by omega, fun i u hu => ?_⟩⟩
  have hb := heap_alloc_new w (.cells cs e)
  rw [Nat.zero_add, cell_of_row _ _ i _ e (0, 0) hb, hcs]
  simp [hu]

/-- A cursor lies in block g; its code lies below hi. -/
def Cur (w : World) (g hi : Nat) : Prop :=
  hi ≤ g ∧ ∃ (v : Value) (xs : List Int) (i : Nat) (h : Int), w.heap[g]? = some (.cells #[v, .int .i64 i, .int .i64 h] 47 (0, 0)) ∧ Rd .u8 w 0 hi v xs ∧ Wf .u8 xs ∧ i ≤ xs.length ∧ xs.length ≤ 1048576 ∧ In64 h
theorem Cur.lt {w : World} {g hi : Nat} (c : Cur w g hi) : g < w.heap.size := by
  obtain ⟨_, v, xs, i, h, hb, _⟩ := c
  exact (Array.getElem?_eq_some_iff.1 hb).1
theorem Cur.keep {w w' : World} {g hi : Nat} (c : Cur w g hi) (hk : ∀ k, k ≤ g → w'.heap[k]? = w.heap[k]?) : Cur w' g hi := by
  obtain ⟨hig, v, xs, i, h, hb, r, f⟩ := c
  exact ⟨hig, v, xs, i, h, (hk g (Nat.le_refl _)).trans hb, r.keep (fun b o _ hlt => World.cell?_of_block (a := ⟨b, o, none⟩) (hk b (by omega))), f⟩
theorem Cur.touch {w w' : World} {g hi lo hi' : Nat} (c : Cur w g hi) (t : Touch w w' lo hi') (hl : g < lo) : Cur w' g hi :=
  c.keep fun k hk => t.block k (by have := c.lt; omega) (.inl (by omega))
theorem Cur.below {w w' : World} {g hi B : Nat} (c : Cur w g hi) (h : Below B w w') (hB : g < B) : Cur w' g hi := c.keep fun k hk => h.block k (by omega)
theorem Cur.wrote {w w' : World} {g hi lo : Nat} {v : Value} (c : Cur w g hi) (h : Wrote w w' lo v) (hl : g < lo) : Cur w' g hi := by
  obtain ⟨row, hg, hr⟩ := h
  exact c.keep fun k hk => hg.block k (by have := c.lt; omega) (fun e => by have := hr k e.symm; omega)
theorem Cur.alloc {w : World} {g hi : Nat} (c : Cur w g hi) (o : Obj) : Cur (w.alloc o) g hi := c.below ((Below.refl _ w).alloc (Nat.le_refl _) o) c.lt

theorem l1Byte_any (w : World) (g hi : Nat) (c : Cur w g hi) :
    Calls Tryd.prog 36 #[.pointer (some ⟨g, 0, none⟩)] w fun e w' => ∃ x : Int, (0 ≤ x ∧ x ≤ 255) ∧ e = .returned (.int .i64 x) ∧ Cur w' g hi ∧ Touch w w' g (g + 1) := by
  obtain ⟨hig, v, xs, i, h, hb, r, f, hi, hl, h64⟩ := c
  have c2 : w.cell? ⟨g, 2, none⟩ = some (.int .i64 h) := cell_of_row w g 2 _ _ _ hb
  have c3 := frozen_of_row w g 2 _ _ hb
  go_enter Tryd.func36, Tryd.ntmps36
  go_wp2_with fail
  obtain ⟨h1, hh1⟩ : ∃ h1, h1 = wrap64 (wrap64 (h * 6364136223846793005) + 1442695040888963407) := ⟨_, rfl⟩
  have h1b : In64 h1 := by rw [hh1]; exact in64_wrap64 _
  rw [← hh1]
  obtain ⟨w1, hw1⟩ : ∃ w1, w1 = w.setCell ⟨g, 2, none⟩ (.int .i64 h1) := ⟨_, rfl⟩
  have T1 : Touch w w1 g (g + 1) := by rw [hw1]; exact Touch.set _ _ _ _
  have hb1 : w1.heap[g]? = some (.cells #[v, .int .i64 i, .int .i64 h1] 47 (0, 0)) := by rw [hw1]; exact heap_set hb _
  have r1 := r.touch T1 ⟨Nat.le_trans hig (Nat.le_of_lt (Array.getElem?_eq_some_iff.1 hb).1), .inl hig⟩
  rw [← hw1]
  clear hw1 hh1 c2 c3 hb r h64
  have d0 : w1.cell? ⟨g, 0, none⟩ = some v := cell_of_row w1 g 0 _ _ _ hb1
  have d1 : w1.cell? ⟨g, 1, none⟩ = some (.int .i64 i) := cell_of_row w1 g 1 _ _ _ hb1
  have d2 : w1.cell? ⟨g, 2, none⟩ = some (.int .i64 h1) := cell_of_row w1 g 2 _ _ _ hb1
  have d3 := frozen_of_row w1 g 1 _ _ hb1
  have HB1 := Lib.hid hb1
  have HT1 := Lib.hid T1
  have R1 := Lib.hid r1
  obtain ⟨A, cc, rfl, hc1, hc2, hr⟩ := r1
  unfold maxLen at hc2
  clear hb1 T1
  by_cases hlt : i < xs.length
  · obtain ⟨b, off, rfl, _, _, hcell⟩ := hr (by omega)
    have d4 := hcell i xs[i] (by simp [hlt])
    have hxb := bd8 (f _ (List.getElem_mem hlt))
    obtain ⟨x0, x1⟩ := hxb
    clear hcell hr
    go_quiet (fail)
    go_wp2_with fail
    go_quiet (fail)
    go_wp2_with fail
    go_region_with fail
    all_goals
      go_wp2_with fail
      go_ret
      refine ⟨_, and255_bd _, rfl, ⟨hig, _, xs, i + 1, h1, heap_set HB1.out _, R1.out.touch ((Touch.drewN w1 _ g (g + 1)).trans (Touch.set _ g 1 _)) ⟨?_, .inl hig⟩, f, by omega, hl, h1b⟩, HT1.out.trans ((Touch.drewN w1 _ _ _).trans (Touch.set _ g 1 _))⟩
      have := (Array.getElem?_eq_some_iff.1 HB1.out).1
      omega
  · clear hr
    go_quiet (fail)
    go_wp2_with fail
    go_quiet (fail)
    go_wp2_with fail
    go_ret
    exact ⟨_, and255_bd _, rfl, ⟨hig, _, xs, i, h1, HB1.out, R1.out, f, hi, hl, h1b⟩, HT1.out.trans ((Touch.drewN _ _ _ _).trans (Touch.drewN _ _ _ _))⟩

set_option maxRecDepth 100000 in
theorem l1Below_any (n : Int) (w : World) (g hi : Nat) (c : Cur w g hi) (hn : 0 < n ∧ n ≤ 1099511627776) :
    Calls Tryd.prog 27 #[.pointer (some ⟨g, 0, none⟩), .int .i64 n] w fun e w' => ∃ x : Int, (0 ≤ x ∧ x < n) ∧ e = .returned (.int .i64 x) ∧ Cur w' g hi ∧ Touch w w' g (g + 1) := by
  obtain ⟨n0, n1⟩ := hn
  by_cases h256 : n ≤ 256
  · go_enter Tryd.func27, Tryd.ntmps27
    go_wp2_with fail
    refine (l1Byte_any _ g hi c).mono ?_
    rintro e w1 ⟨x, ⟨x0, x1⟩, rfl, c1, t1⟩
    have e1 : x.tmod n = x % n := Int.tmod_eq_emod_of_nonneg x0
    have e2 : 0 ≤ x % n := Int.emod_nonneg _ (by omega)
    have e3 : x % n < n := Int.emod_lt_of_pos _ n0
    go_wp2_with fail
    go_ret
    exact ⟨_, ⟨e2, e3⟩, ret_int (by first | rfl | omega), c1, t1⟩
  · go_enter Tryd.func27, Tryd.ntmps27
    go_wp2_with fail
    refine (l1Byte_any _ g hi c).mono ?_
    rintro e w1 ⟨x, ⟨x0, x1⟩, rfl, c1, t1⟩
    go_wp2_with fail
    refine (l1Byte_any _ g hi c1).mono ?_
    rintro e w2 ⟨y, ⟨y0, y1⟩, rfl, c2, t2⟩
    go_wp2_with fail
    refine (l1Byte_any _ g hi c2).mono ?_
    rintro e w3 ⟨z, ⟨z0, z1⟩, rfl, c3, t3⟩
    have e1 : (x * 65536 + y * 256 + z).tmod n = (x * 65536 + y * 256 + z) % n := Int.tmod_eq_emod_of_nonneg (by omega)
    have e2 : 0 ≤ (x * 65536 + y * 256 + z) % n := Int.emod_nonneg _ (by omega)
    have e3 : (x * 65536 + y * 256 + z) % n < n := Int.emod_lt_of_pos _ n0
    go_wp2_with fail
    go_ret
    exact ⟨_, ⟨e2, e3⟩, ret_int (by first | rfl | omega), c3, (t1.trans t2).trans t3⟩
theorem l1Once_any (n : Int) (w : World) (g hi : Nat) (c : Cur w g hi) (hn : 0 < n ∧ n ≤ 1099511627776) :
    Calls Tryd.prog 20 #[.pointer (some ⟨g, 0, none⟩), .int .i64 n] w fun e w' => ∃ b : Bool, e = .returned (.bool b) ∧ Cur w' g hi ∧ Touch w w' g (g + 1) := by
  go_enter Tryd.func20, Tryd.ntmps20
  go_wp2_with fail
  refine (l1Below_any n _ g hi c hn).mono ?_
  rintro e w1 ⟨x, -, rfl, c1, t1⟩
  go_wp2_with fail
  go_ret
  exact ⟨_, rfl, c1, t1⟩
theorem l1Int_any (v : Value) (xs : List Int) (w : World) (g hi u : Nat) (c : Cur w g hi) (r : Rd .i64 w (g + 1) u v xs) (hu : u ≤ w.heap.size) (hx : 0 < xs.length ∧ xs.length ≤ 100) :
    Calls Tryd.prog 28 #[.pointer (some ⟨g, 0, none⟩), v] w fun e w' => ∃ x : Int, x ∈ xs ∧ e = .returned (.int .i64 x) ∧ Cur w' g hi ∧ Touch w w' g (g + 1) := by
  obtain ⟨A, cc, rfl, hc1, hc2⟩ := r.form
  unfold maxLen at hc2
  obtain ⟨hx0, hx1⟩ := hx
  go_enter Tryd.func28, Tryd.ntmps28
  go_wp2_with fail
  refine (l1Below_any _ _ g hi c ⟨by omega, by omega⟩).mono ?_
  rintro e w1 ⟨x, ⟨x0, x1⟩, rfl, c1, t1⟩
  obtain ⟨A', c', e1, _, _, hr⟩ := r.touch t1 ⟨hu, .inr (Nat.le_refl _)⟩
  obtain ⟨b, off, hA, _, _, hcell⟩ := hr hx0
  simp at e1
  obtain ⟨rfl, rfl⟩ := e1
  subst hA
  obtain ⟨k, rfl⟩ := Int.eq_ofNat_of_zero_le x0
  have hk : k < xs.length := by omega
  have d1 := hcell k xs[k] (by simp [hk])
  clear hcell hr
  go_wp2_with fail
  go_ret
  exact ⟨_, List.getElem_mem hk, rfl, c1, t1⟩
set_option maxRecDepth 100000 in
theorem l1New_any (v : Value) (xs : List Int) (w : World) (l h : Nat) (r : Rd .u8 w l h v xs) (f : Wf .u8 xs) (hh : h ≤ w.heap.size) (hl : xs.length ≤ 1048576) :
    Calls Tryd.prog 19 #[v] w fun e w' => e = .returned (.pointer (some ⟨w.heap.size, 0, none⟩)) ∧ Cur w' w.heap.size w.heap.size ∧ Below w.heap.size w w' ∧ w'.heap.size = w.heap.size + 1 := by
  have R := Lib.hid (r.more (Nat.zero_le _) hh)
  obtain ⟨A, c, rfl, hc1, hc2, hr⟩ := r
  unfold maxLen at hc2
  go_enter Tryd.func19, Tryd.ntmps19
  go_wp2_with fail
  go_loopw [3, 4] (fun q i wr => ∃ (k n : Nat) (m : Int), k ≤ xs.length ∧ i = .int .i64 k ∧ q = .int .i64 m ∧ 0 ≤ m ∧ m ≤ 1099511627776 ∧ wr = w.drewN n) (fun _ i _ => xs.length - (intOf i).toNat)
  case atStart => exact ⟨0, 0, _, Nat.zero_le _, rfl, rfl, by omega, by omega, rfl⟩
  case round =>
    obtain ⟨k, n, m, hk, rfl, rfl, m0, m1, rfl⟩ := hrel
    by_cases hlt : k < xs.length
    · by_cases h4 : k < 4000
      · obtain ⟨b, off, rfl, _, _, hcell⟩ := hr (by omega)
        have d1 := hcell k xs[k] (by simp [hlt])
        obtain ⟨x0, x1⟩ := bd8 (f _ (List.getElem_mem hlt))
        clear hcell hr
        go_wp2_with fail
        exact ⟨⟨k + 1, n, _, by omega, by go_num, rfl, (and30_bd _).1, Int.le_trans (and30_bd _).2 (by decide), rfl⟩, by simp [intOf]; omega⟩
      · clear hr
        go_wp2_with fail
        go_ret
        exact ⟨rfl, ⟨Nat.le_refl _, _, xs, 0, m, heap_alloc_new _ _, (R.out.drewN n).alloc (Nat.le_refl _) _, f, Nat.zero_le _, hl, by unfold In64; omega⟩, (below_drewN _ w n).alloc (Nat.le_refl _) _, by simp⟩
    · clear hr
      go_wp2_with fail
      go_ret
      exact ⟨rfl, ⟨Nat.le_refl _, _, xs, 0, m, heap_alloc_new _ _, (R.out.drewN n).alloc (Nat.le_refl _) _, f, Nat.zero_le _, hl, by unfold In64; omega⟩, (below_drewN _ w n).alloc (Nat.le_refl _) _, by simp⟩
end Go.Proofs.YtkpgkkifndlcpaaDoor
