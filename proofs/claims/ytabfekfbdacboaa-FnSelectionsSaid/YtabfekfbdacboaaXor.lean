/- Exclusive or of byte strings, of the program and of the reference. -/
import Derived.Test.YtabfekfbdacboaaLists2
import Derived.Test.YtabfekfbdacboaaConcat
namespace Go.Proofs.Ytabfekfbdacboaa
open Go.RowKit
set_option linter.unusedVariables false

/-- Exclusive or of two bytes; of two byte strings. -/
def x8 (a b : Int) : Int := bits .xor .u8 a b
def xorL : List Int → List Int → List Int
  | [], ys => ys
  | x :: xs, [] => x :: xs
  | x :: xs, y :: ys => x8 x y :: xorL xs ys
theorem xorL_nil (xs : List Int) : xorL xs [] = xs := by cases xs <;> rfl
theorem x8_bd (a b : Int) : 0 ≤ x8 a b ∧ x8 a b ≤ 255 := by
  unfold x8 bits
  simp only [IntKind.wrap_u8]
  omega
theorem x8_comm (a b : Int) : x8 a b = x8 b a := by simp only [x8, bits, BitVec.xor_comm]
theorem xorL_comm (xs ys : List Int) : xorL xs ys = xorL ys xs := by
  induction xs generalizing ys with
  | nil => cases ys <;> rfl
  | cons x xs ih => cases ys with
    | nil => rfl
    | cons y ys => simp only [xorL]; rw [ih, x8_comm]
theorem xorL_length (xs ys : List Int) : (xorL xs ys).length = max xs.length ys.length := by
  induction xs generalizing ys with
  | nil => simp [xorL]
  | cons x xs ih => cases ys with
    | nil => simp [xorL]
    | cons y ys => simp only [xorL, List.length_cons, ih]; omega
theorem x8_int {a b : Int} (ha : 0 ≤ a ∧ a ≤ 255) (hb : 0 ≤ b ∧ b ≤ 255) : x8 a b = ((a.toNat ^^^ b.toNat : Nat) : Int) :=
  u8_xor a b ha.1 (by omega) hb.1 (by omega)
theorem x8_zero {y : Int} (h : 0 ≤ y ∧ y ≤ 255) : x8 0 y = y := by
  rw [x8_int ⟨by omega, by omega⟩ h]
  simp
  omega
theorem xorL_wf {xs ys : List Int} (f : Wf .u8 xs) (g : Wf .u8 ys) : Wf .u8 (xorL xs ys) := by
  induction xs generalizing ys with
  | nil => exact g
  | cons x xs ih => cases ys with
    | nil => exact f
    | cons y ys =>
      intro n hn
      rcases List.mem_cons.1 hn with rfl | hn
      · exact WalkArith.wf_u8 (x8_bd _ _)
      · exact ih (fun a ha => f a (by simp [ha])) (fun a ha => g a (by simp [ha])) n hn
theorem xorL_both {xs ys : List Int} {k : Nat} (h : k < xs.length) (g : k < ys.length) : (xorL xs ys)[k]? = some (x8 xs[k] ys[k]) := by
  induction xs generalizing ys k with
  | nil => simp at h
  | cons x xs ih => cases ys with
    | nil => simp at g
    | cons y ys => cases k with
      | zero => rfl
      | succ k =>
        simp only [xorL, List.getElem?_cons_succ, List.getElem_cons_succ]
        exact ih _ _
theorem xorL_left {xs ys : List Int} {k : Nat} (h : k < xs.length) (g : ¬ k < ys.length) : (xorL xs ys)[k]? = some xs[k] := by
  induction xs generalizing ys k with
  | nil => simp at h
  | cons x xs ih => cases ys with
    | nil => simp [xorL]
    | cons y ys => cases k with
      | zero => simp at g
      | succ k =>
        simp only [xorL, List.getElem?_cons_succ, List.getElem_cons_succ]
        exact ih _ (by simpa using g)
theorem xorL_right {xs ys : List Int} {k : Nat} (h : ¬ k < xs.length) (g : k < ys.length) : (xorL xs ys)[k]? = some ys[k] := by rw [xorL_comm, xorL_left g h]
theorem take_get {xs : List Int} {k : Nat} {x : Int} (h : xs[k]? = some x) : xs.take (k + 1) = xs.take k ++ [x] := by
  have hk := (List.getElem?_eq_some_iff.1 h)
  rw [List.take_succ_eq_append_getElem hk.1, hk.2]
/-- The state of the clone that is turned in place. -/
theorem xorL_place {a b : List Int} {k : Nat} (h : k < b.length) (hl : b.length ≤ a.length) : (xorL a (b.take k))[k]? = some (a[k]'(by omega)) := xorL_left (by omega) (by rw [List.length_take]; omega)
theorem xorL_set {a b : List Int} {k : Nat} (h : k < b.length) (hl : b.length ≤ a.length) : (xorL a (b.take k)).set k (x8 (a[k]'(by omega)) b[k]) = xorL a (b.take (k + 1)) := by
  induction a generalizing b k with
  | nil => exact absurd h (by simp at hl; subst hl; simp)
  | cons x xs ih => cases b with
    | nil => simp at h
    | cons y ys => cases k with
      | zero => simp [xorL, xorL_nil]
      | succ k =>
        simp only [List.take_succ_cons, xorL, List.set_cons_succ, List.getElem_cons_succ]
        rw [ih (by simpa using h) (by simpa using hl)]

set_option maxRecDepth 100000 in
theorem implXor (v1 v2 : Value) (xs ys : List Int) (w : World) (l1 h1 l2 h2 : Nat) (r1 : Rd .u8 w l1 h1 v1 xs) (r2 : Rd .u8 w l2 h2 v2 ys) (g1 : h1 ≤ w.heap.size) (g2 : h2 ≤ w.heap.size) (b1 : xs.length ≤ 16777216) (b2 : ys.length ≤ 16777216) :
    Calls Try.prog 24 #[v1, v2] w fun e w' => ∃ v', e = .returned v' ∧ Own .u8 5 w' w.heap.size v' (xorL xs ys) ∧ Below w.heap.size w w' := by
  obtain ⟨A, c, rfl, hc1, hc2⟩ := r1.form
  obtain ⟨B, d, rfl, hd1, hd2⟩ := r2.form
  unfold maxLen at hc2 hd2
  by_cases hsw : xs.length < ys.length
  · rw [xorL_comm]
    go_enter Try.func24, Try.ntmps24
    go_wp2_with fail
    refine (cloneByte _ ys _ _ _ r2 g2 (by omega)).mono ?_
    rintro e w1 ⟨v1, rfl, o1, bel1⟩
    obtain ⟨A1, c1, rfl, hc11, hc12⟩ := o1.rd.form
    unfold maxLen at hc12
    have O1 : Hid (Own .u8 5 w1 w.heap.size (.slice A1 ys.length c1) (xorL ys (xs.take 0))) := by unfold Hid; rw [List.take_zero, xorL_nil]; exact o1
    clear o1
    go_wp2_with fail
    go_loopw [6, 7, 19] (fun _ _ i wr => ∃ k : Nat, k ≤ xs.length ∧ i = .int .i64 k ∧ Own .u8 5 wr w.heap.size (.slice A1 ys.length c1) (xorL ys (xs.take k)) ∧ Below w.heap.size w wr) (fun _ _ i _ => xs.length - (intOf i).toNat)
    case atStart => exact ⟨0, Nat.zero_le _, rfl, O1.out, bel1⟩
    case round =>
      obtain ⟨k, hk, rfl, own, bel⟩ := hrel
      clear bel1
      have sz := bel.size
      by_cases hlt : k < xs.length
      · obtain ⟨A', c', e1, _, _, hr⟩ := r1.below bel g1
        obtain ⟨b, off, hA, _, _, hcell⟩ := hr (by omega)
        simp at e1
        obtain ⟨rfl, rfl⟩ := e1
        subst hA
        have d1 := hcell k xs[k] (by simp [hlt])
        have hlen : (xorL ys (xs.take k)).length = ys.length := by rw [xorL_length, List.length_take]; omega
        obtain ⟨g, hge, -, hg1, -, row⟩ := own.open_ (by omega)
        subst hge
        have d2 : wr.cell? ⟨g, k, none⟩ = some (.int .u8 (ys[k]'(by omega))) := by
          rw [row.cellAt k (by omega), List.getElem?_map, xorL_place hlt (by omega)]
          rfl
        have d3 := row.frozenAt k
        have own2 := own.store k (by omega) (x8 (ys[k]'(by omega)) xs[k])
        rw [xorL_set hlt (by omega)] at own2
        have O2 := Lib.hid own2
        have hgl : w.heap.size ≤ g := (row.lt g rfl).1
        have b2' := Lib.hid (bel.setCell (p := ⟨g, k, none⟩) hgl (.int .u8 (x8 (ys[k]'(by omega)) xs[k])))
        have hx : bits .xor .u8 (ys[k]'(by omega)) xs[k] = x8 (ys[k]'(by omega)) xs[k] := rfl
        clear hcell hr own own2 row bel
        go_wp2_with fail
        exact ⟨⟨k + 1, by omega, by go_num, O2.out, b2'.out⟩, by simp [intOf]; omega⟩
      · have OWN := Lib.hid own
        clear own
        go_wp2_with fail
        go_ret
        refine ⟨_, rfl, ?_, bel⟩
        have := OWN.out
        rwa [List.take_of_length_le (by omega)] at this
  · go_enter Try.func24, Try.ntmps24
    go_wp2_with fail
    refine (cloneByte _ xs _ _ _ r1 g1 (by omega)).mono ?_
    rintro e w1 ⟨v1, rfl, o1, bel1⟩
    obtain ⟨A1, c1, rfl, hc11, hc12⟩ := o1.rd.form
    unfold maxLen at hc12
    have O1 : Hid (Own .u8 5 w1 w.heap.size (.slice A1 xs.length c1) (xorL xs (ys.take 0))) := by unfold Hid; rw [List.take_zero, xorL_nil]; exact o1
    clear o1
    go_wp2_with fail
    go_loopw [6, 7, 19] (fun _ _ i wr => ∃ k : Nat, k ≤ ys.length ∧ i = .int .i64 k ∧ Own .u8 5 wr w.heap.size (.slice A1 xs.length c1) (xorL xs (ys.take k)) ∧ Below w.heap.size w wr) (fun _ _ i _ => ys.length - (intOf i).toNat)
    case atStart => exact ⟨0, Nat.zero_le _, rfl, O1.out, bel1⟩
    case round =>
      obtain ⟨k, hk, rfl, own, bel⟩ := hrel
      clear bel1
      have sz := bel.size
      by_cases hlt : k < ys.length
      · obtain ⟨A', c', e1, _, _, hr⟩ := r2.below bel g2
        obtain ⟨b, off, hA, _, _, hcell⟩ := hr (by omega)
        simp at e1
        obtain ⟨rfl, rfl⟩ := e1
        subst hA
        have d1 := hcell k ys[k] (by simp [hlt])
        have hlen : (xorL xs (ys.take k)).length = xs.length := by rw [xorL_length, List.length_take]; omega
        obtain ⟨g, hge, -, hg1, -, row⟩ := own.open_ (by omega)
        subst hge
        have d2 : wr.cell? ⟨g, k, none⟩ = some (.int .u8 (xs[k]'(by omega))) := by
          rw [row.cellAt k (by omega), List.getElem?_map, xorL_place hlt (by omega)]
          rfl
        have d3 := row.frozenAt k
        have own2 := own.store k (by omega) (x8 (xs[k]'(by omega)) ys[k])
        rw [xorL_set hlt (by omega)] at own2
        have O2 := Lib.hid own2
        have hgl : w.heap.size ≤ g := (row.lt g rfl).1
        have b2' := Lib.hid (bel.setCell (p := ⟨g, k, none⟩) hgl (.int .u8 (x8 (xs[k]'(by omega)) ys[k])))
        clear hcell hr own own2 row bel
        go_wp2_with fail
        exact ⟨⟨k + 1, by omega, by go_num, O2.out, b2'.out⟩, by simp [intOf]; omega⟩
      · have OWN := Lib.hid own
        clear own
        go_wp2_with fail
        go_ret
        refine ⟨_, rfl, ?_, bel⟩
        have := OWN.out
        rwa [List.take_of_length_le (by omega)] at this
end Go.Proofs.Ytabfekfbdacboaa
