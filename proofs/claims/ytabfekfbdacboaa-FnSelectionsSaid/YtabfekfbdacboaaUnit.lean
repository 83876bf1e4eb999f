/- Unit selections, sums of selections, and bytes as integers, of the program and of the reference. -/
import Derived.Test.YtabfekfbdacboaaSel
import Derived.Test.YtabfekfbdacboaaConcat
import Derived.Test.YtabfekfbdacboaaStep
import Derived.Test.YtabfekfbdacboaaMark
namespace Go.Proofs.Ytabfekfbdacboaa
open Go.RowKit
set_option linter.unusedVariables false

/-- What UnitSelection gives. -/
def unitL (n i : Int) : List Int := if (1 ≤ n ∧ n ≤ 64) ∧ (0 ≤ i ∧ i ≤ n - 1) then (List.replicate n.toNat 0).set i.toNat 1 else []
theorem unitL_yes {n i : Int} (h : (1 ≤ n ∧ n ≤ 64) ∧ (0 ≤ i ∧ i ≤ n - 1)) : unitL n i = (List.replicate n.toNat 0).set i.toNat 1 := if_pos h
theorem unitL_no {n i : Int} (h : ¬ ((1 ≤ n ∧ n ≤ 64) ∧ (0 ≤ i ∧ i ≤ n - 1))) : unitL n i = [] := if_neg h
theorem unitL_le (n i : Int) : (unitL n i).length ≤ 64 := by
  unfold unitL
  split
  · simp; omega
  · simp



/-- The sum of two selections. -/
def xorS (xs ys : List Int) : List Int := List.zipWith (fun x y => bits .xor .i64 x y) xs ys
/-- What XorSelections gives. -/
def xorSel (xs ys : List Int) : List Int := if isSel xs xs.length = true ∧ isSel ys xs.length = true then xorS xs ys else []
theorem xorSel_yes {xs ys : List Int} (h1 : isSel xs xs.length = true) (h2 : isSel ys xs.length = true) : xorSel xs ys = xorS xs ys := if_pos ⟨h1, h2⟩
theorem xorSel_no1 {xs ys : List Int} (h1 : ¬ isSel xs xs.length = true) : xorSel xs ys = [] := if_neg fun h => h1 h.1
theorem xorSel_no2 {xs ys : List Int} (h1 : ¬ isSel ys xs.length = true) : xorSel xs ys = [] := if_neg fun h => h1 h.2
theorem xorS_take (xs ys : List Int) (k : Nat) (h1 : k < xs.length) (h2 : k < ys.length) : xorS (xs.take (k + 1)) (ys.take (k + 1)) = xorS (xs.take k) (ys.take k) ++ [bits .xor .i64 xs[k] ys[k]] := by
  rw [List.take_succ_eq_append_getElem h1, List.take_succ_eq_append_getElem h2]
  unfold xorS
  rw [List.zipWith_append (by simp; omega)]
  rfl
theorem xorS_length (xs ys : List Int) (h : xs.length = ys.length) : (xorS xs ys).length = xs.length := by simp [xorS, h]
theorem xorSel_le (xs ys : List Int) : (xorSel xs ys).length ≤ xs.length := by
  unfold xorSel
  split
  · simp [xorS]; omega
  · simp

set_option maxRecDepth 100000 in
set_option maxHeartbeats 1000000 in
theorem implXorSel (v1 v2 : Value) (xs ys : List Int) (w : World) (l1 h1 l2 h2 : Nat) (r1 : Rd .i64 w l1 h1 v1 xs) (r2 : Rd .i64 w l2 h2 v2 ys) (f1 : Wf .i64 xs) (f2 : Wf .i64 ys) (hh1 : h1 ≤ w.heap.size) (hh2 : h2 ≤ w.heap.size) (hl1 : xs.length ≤ 1048576) (hl2 : ys.length ≤ 1048576) :
    Calls Try.prog 22 #[v1, v2] w fun e w' => ∃ v', e = .returned v' ∧ Own .i64 3 w' w.heap.size v' (xorSel xs ys) ∧ Below w.heap.size w w' := by
  obtain ⟨A, c, rfl, hc1, hc2⟩ := r1.form
  obtain ⟨B, d, rfl, hd1, hd2⟩ := r2.form
  unfold maxLen at hc2 hd2
  have hn64 : In64 (xs.length : Int) := by unfold In64; omega
  by_cases s1 : isSel xs xs.length = true
  rotate_left
  · have HE := Lib.hid (xorSel_no1 (ys := ys) s1)
    have s1' : isSel xs xs.length = false := by simpa using s1
    have H := Lib.hid s1'
    clear s1 s1'
    go_enter Try.func22, Try.ntmps22
    go_wp2_with fail
    refine (implIsSel _ xs _ _ _ _ r1 hn64).mono ?_
    rw [H.out]
    rintro e w' ⟨rfl, rfl⟩
    go_wp2_with fail
    go_ret
    exact ⟨_, rfl, by rw [HE.out]; exact Own.of_empty _ _ _ _ _, Below.refl _ w⟩
  by_cases s2 : isSel ys xs.length = true
  rotate_left
  · have HE := Lib.hid (xorSel_no2 (xs := xs) s2)
    have s2' : isSel ys xs.length = false := by simpa using s2
    have H1 := Lib.hid s1
    have H := Lib.hid s2'
    clear s1 s2 s2'
    go_enter Try.func22, Try.ntmps22
    go_wp2_with fail
    refine (implIsSel _ xs _ _ _ _ r1 hn64).mono ?_
    rw [H1.out]
    rintro e w' ⟨rfl, rfl⟩
    go_wp2_with fail
    refine (implIsSel _ ys _ _ _ _ r2 hn64).mono ?_
    rw [H.out]
    rintro e w' ⟨rfl, rfl⟩
    go_wp2_with fail
    go_ret
    exact ⟨_, rfl, by rw [HE.out]; exact Own.of_empty _ _ _ _ _, Below.refl _ w⟩
  · have HE := Lib.hid (xorSel_yes s1 s2)
    have hlen : ys.length = xs.length := by have := (isSel_iff s2).2.1; omega
    have h64 : xs.length ≤ 64 := by have := (isSel_iff s1).2.2; omega
    have HL := Lib.hid hlen
    have H1 := Lib.hid s1
    have H2 := Lib.hid s2
    clear s1 s2 hlen
    go_enter Try.func22, Try.ntmps22
    go_wp2_with fail
    refine (implIsSel _ xs _ _ _ _ r1 hn64).mono ?_
    rw [H1.out]
    rintro e w' ⟨rfl, rfl⟩
    go_wp2_with fail
    refine (implIsSel _ ys _ _ _ _ r2 hn64).mono ?_
    rw [H2.out]
    rintro e w' ⟨rfl, rfl⟩
    go_wp2_with fail
    refine (cloneInt _ xs _ _ _ r1 hh1 (by omega)).mono ?_
    rintro e w1 ⟨v1, rfl, o1, bel1⟩
    obtain ⟨C, cc, rfl, hcc1, hcc2⟩ := o1.rd.form
    unfold maxLen at hcc2
    clear r1
    go_wp2_with fail
    go_loopw [6, 7, 24] (fun _ _ i wr => ∃ k : Nat, k ≤ xs.length ∧ i = .int .i64 k ∧ Own .i64 3 wr w.heap.size (.slice C xs.length cc) (xorS (xs.take k) (ys.take k) ++ xs.drop k) ∧ Below w.heap.size w wr) (fun _ _ i _ => xs.length - (intOf i).toNat)
    case atStart => exact ⟨0, Nat.zero_le _, rfl, by simpa [xorS] using o1, bel1⟩
    case round =>
      obtain ⟨k, hk, rfl, own, bel⟩ := hrel
      clear o1 bel1
      have sz := bel.size
      have hml : (xorS (xs.take k) (ys.take k)).length = k := by
        rw [xorS_length _ _ (by have := HL.out; simp; omega), List.length_take]; omega
      by_cases hlt : k < xs.length
      · have hlt2 : k < ys.length := by have := HL.out; omega
        obtain ⟨B', d', e2, _, _, hs'⟩ := r2.below bel hh2
        obtain ⟨b2, off2, hB, _, hb2, hcell2⟩ := hs' (by omega)
        simp at e2
        obtain ⟨rfl, rfl⟩ := e2
        subst hB
        obtain ⟨g, rfl, hg0, hg1, -, row⟩ := own.open_ (by simp only [List.length_append, List.length_drop, hml]; omega)
        obtain ⟨x, hx⟩ : ∃ x, x = xs[k] := ⟨_, rfl⟩
        obtain ⟨y, hy⟩ : ∃ y, y = ys[k] := ⟨_, rfl⟩
        have c2 := hcell2 k y (by rw [hy]; simp [hlt2])
        have hge := over_get (xorS (xs.take k) (ys.take k)) xs (by omega)
        simp only [hml] at hge
        rw [← hx] at hge
        have hlen : (xorS (xs.take k) (ys.take k) ++ xs.drop k).length = xs.length := by simp only [List.length_append, List.length_drop, hml]; omega
        have c1 : wr.cell? ⟨g, k, none⟩ = some (.int .i64 x) := by
          rw [row.cellAt k (by omega), List.getElem?_map, hge]; rfl
        have c0 := row.frozenAt k
        have hT := xorS_take xs ys k hlt hlt2
        rw [← hx, ← hy] at hT
        have HT := Lib.hid hT
        have own2 := own.store k (by omega) (bits .xor .i64 x y)
        have hos := over_set (xorS (xs.take k) (ys.take k)) xs (bits .xor .i64 x y) (by omega)
        simp only [hml] at hos
        rw [hos, ← hT] at own2
        have O2 := Lib.hid own2
        have k0 : (0 : Int) ≤ (k : Int) := by omega
        have k1 : (k : Int) < (xs.length : Int) := by omega
        have k2 : (k : Int) < (ys.length : Int) := by omega
        clear hcell2 hs' hx hy hT hge hml hlen hos own own2 row r2
        go_wp2_with fail
        have b2' := bel.setCell (p := ⟨g, k, none⟩) hg0 (.int .i64 (bits .xor .i64 x y))
        exact ⟨⟨k + 1, by omega, by go_num, O2.out, b2'⟩, by simp [intOf]; omega⟩
      · have O := Lib.hid own
        have hlt2 : ¬ k < ys.length := by have := HL.out; omega
        clear own hml r2
        go_wp2_with fail
        go_ret
        have h1 := O.out
        rw [List.take_of_length_le (by omega), List.take_of_length_le (by have := HL.out; omega), List.drop_of_length_le (by omega), List.append_nil] at h1
        exact ⟨_, rfl, by rw [HE.out]; exact h1, bel⟩
end Go.Proofs.Ytabfekfbdacboaa
