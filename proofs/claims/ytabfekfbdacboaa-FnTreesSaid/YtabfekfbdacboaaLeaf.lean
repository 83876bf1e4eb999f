/- Leaves of the pseudorandom trees, of the program and of the reference. -/
import Derived.Test.YtabfekfbdacboaaPrg
import Derived.Test.YtabfekfbdacboaaRange
namespace Go.Proofs.Ytabfekfbdacboaa
open Go.RowKit
set_option linter.unusedVariables false

/-- Bit d of a number. -/
def bitI (i : Int) (d : Nat) : Int := i / 2 ^ d % 2
/-- The seed that is reached from s by the d lowest bits of i, the highest one first. -/
def descendI : Int → Nat → Int → Int
  | s, 0, _ => s
  | s, d + 1, i => descendI (childI s (bitI i d)) d i
/-- What LeafSeed gives. -/
def leafI (s d i : Int) : Int := if 0 ≤ d ∧ d ≤ 6 ∧ 0 ≤ i ∧ i < 2 ^ d.toNat then descendI s d.toNat i else 0
theorem leafI_yes {s d i : Int} (h : IsLeaf d i) : leafI s d i = descendI s d.toNat i := if_pos h
theorem leafI_no {s d i : Int} (h : ¬ IsLeaf d i) : leafI s d i = 0 := if_neg h
theorem and_bit {i : Int} (g : Nat) (h0 : 0 ≤ i) (h1 : i < 64) : bits .and .i64 (i / 2 ^ g) 1 = bitI i g := by
  have hp : (0 : Int) < 2 ^ g := Int.pow_pos (by decide)
  have h2 : 0 ≤ i / 2 ^ g := Int.ediv_nonneg h0 (by omega)
  have h3 : i / 2 ^ g ≤ i := Int.ediv_le_self _ h0
  exact and1 _ h2 (by omega)
theorem bitI_bd (i : Int) (d : Nat) : 0 ≤ bitI i d ∧ bitI i d ≤ 1 := by unfold bitI; omega

theorem implDescend (s : Int) (D : Nat) (i : Int) (w : World) (hs : In64 s) (hD : D ≤ 6) (i0 : 0 ≤ i) (i2 : i < 64) :
    Calls Try.prog 82 #[.int .i64 s, .int .i64 D, .int .i64 i] w fun e w' => e = .returned (.int .i64 (descendI s D i)) ∧ Below w.heap.size w w' := by
  go_enter Try.func82, Try.ntmps82
  go_wp2_with fail
  go_loopw [0, 7] (fun t k wr => ∃ (g : Nat) (q : Int), g ≤ D ∧ k = .int .i64 ((g : Int) - 1) ∧ t = .int .i64 q ∧ In64 q ∧ descendI q g i = descendI s D i ∧ Below w.heap.size w wr) (fun _ k _ => (intOf k + 1).toNat)
  case atStart => exact ⟨D, s, Nat.le_refl _, rfl, rfl, hs, rfl, Below.refl _ _⟩
  case round =>
    obtain ⟨g, q, hg, rfl, rfl, hq, he, bel⟩ := hrel
    have HQ := Lib.hid he
    clear he
    rcases g with _ | g
    · rw [show ((0 : Nat) : Int) - 1 = -1 from rfl]
      go_wp2_with fail
      go_ret
      exact ⟨ret_int HQ.out, bel⟩
    · rw [show ((g + 1 : Nat) : Int) - 1 = (g : Int) by omega]
      go_wp2_with fail
      rw [and_bit g i0 i2]
      have bb := bitI_bd i g
      refine (implChild q (bitI i g) _ hq (by unfold In64; omega)).mono ?_
      rintro e w1 ⟨rfl, bel1⟩
      have b2 := bel.trans (bel1.mono bel.size)
      have hq2 := in64_of (childI_bd q (bitI i g))
      clear bel bel1 bb hq
      go_wp2_with fail
      go_roundw
      case rel => exact ⟨g, _, by omega, rfl, rfl, hq2, HQ.out, b2⟩
      case measure => simp [intOf]

theorem pow6 {D : Nat} (h : D ≤ 6) : (2 : Int) ^ D ≤ 64 ∧ (0 : Int) < 2 ^ D := by
  refine ⟨?_, Int.pow_pos (by decide)⟩
  have : (2 : Int) ^ D ≤ 2 ^ 6 := by exact_mod_cast Nat.pow_le_pow_right (by decide) h
  omega

theorem implLeaf (s d i : Int) (w : World) (hs : In64 s) (hi : In64 i) :
    Calls Try.prog 46 #[.int .i64 s, .int .i64 d, .int .i64 i] w fun e w' => e = .returned (.int .i64 (leafI s d i)) ∧ Below w.heap.size w w' := by
  by_cases hl : IsLeaf d i
  · have HE := Lib.hid (leafI_yes (s := s) hl)
    have HL := Lib.hid hl
    obtain ⟨h0, h6, i0, i1⟩ := hl
    obtain ⟨D, rfl⟩ := Int.eq_ofNat_of_zero_le h0
    have i2 : i < 64 := by
      have := (pow6 (D := D) (by omega)).1
      rw [Int.toNat_natCast] at i1
      omega
    clear i1
    go_enter Try.func46, Try.ntmps46
    go_wp2_with (go_at_call 83; refine (isL_yes _ _ _ HL.out).mono ?_; rintro e w' ⟨rfl, rfl⟩)
    refine (implDescend s D i _ hs (by omega) i0 i2).mono ?_
    rintro e w' ⟨rfl, bel⟩
    go_wp2_with fail
    go_ret
    exact ⟨ret_int (by rw [HE.out, Int.toNat_natCast]), bel⟩
  · have HE := Lib.hid (leafI_no (s := s) hl)
    go_enter Try.func46, Try.ntmps46
    go_wp2_with (go_at_call 83; refine (isL_no _ _ _ hl).mono ?_; rintro e w' ⟨rfl, rfl⟩)
    go_ret
    exact ⟨ret_int HE.out.symm, Below.refl _ _⟩

/-- The seeds of the first n leaves of a tree of depth D. -/
def leavesL (s : Int) (D n : Nat) : List Int := (List.range n).map fun (i : Nat) => descendI s D (i : Int)
theorem leavesL_succ (s : Int) (D n : Nat) : leavesL s D (n + 1) = leavesL s D n ++ [descendI s D n] := by simp [leavesL, List.range_succ]
theorem leavesL_length (s : Int) (D n : Nat) : (leavesL s D n).length = n := by simp [leavesL]
/-- What LeafSeeds gives. -/
def leavesAll (s d : Int) : List Int := if 0 ≤ d ∧ d ≤ 6 then leavesL s d.toNat (2 ^ d.toNat) else []
theorem leavesAll_yes {s d : Int} (h0 : 0 ≤ d) (h6 : d ≤ 6) : leavesAll s d = leavesL s d.toNat (2 ^ d.toNat) := if_pos ⟨h0, h6⟩
theorem leavesAll_no {s d : Int} (h : ¬ (0 ≤ d ∧ d ≤ 6)) : leavesAll s d = [] := if_neg h

set_option maxRecDepth 100000 in
theorem implLeaves (s d : Int) (w : World) (hs : In64 s) :
    Calls Try.prog 43 #[.int .i64 s, .int .i64 d] w fun e w' => ∃ v', e = .returned v' ∧ Own .i64 3 w' w.heap.size v' (leavesAll s d) ∧ Below w.heap.size w w' := by
  obtain ⟨i0, hi, hz0, hz1, hz2⟩ := info_parts info_int
  by_cases hd : 0 ≤ d ∧ d ≤ 6
  · obtain ⟨h0, h6⟩ := hd
    have HE := Lib.hid (leavesAll_yes (s := s) h0 h6)
    obtain ⟨D, rfl⟩ := Int.eq_ofNat_of_zero_le h0
    obtain ⟨p64, p0⟩ := pow6 (D := D) (by omega)
    have hpow : ((2 ^ D : Nat) : Int) = 2 ^ D := by simp
    have HP := Lib.hid hpow
    clear hpow
    go_enter Try.func43, Try.ntmps43
    go_wp2_with (go_at_call 75; refine (inRange_yes _ _ _ _ (by omega) (by omega)).mono ?_; rintro e w' ⟨rfl, rfl⟩)
    go_loopw [5, 6, 13] (fun o _ i wr => ∃ k : Nat, k ≤ 2 ^ D ∧ i = .int .i64 k ∧ Own .i64 3 wr w.heap.size o (leavesL s D k) ∧ Below w.heap.size w wr) (fun _ _ i _ => 2 ^ D - (intOf i).toNat)
    case atStart => exact ⟨0, Nat.zero_le _, rfl, Own.of_empty _ _ _ _ _, (Below.refl _ w).alloc (Nat.le_refl _) _⟩
    case round =>
      obtain ⟨k, hk, rfl, own, bel⟩ := hrel
      have sz := bel.size
      by_cases hlt : k < 2 ^ D
      · have hlt' : (k : Int) < 2 ^ D := by rw [← HP.out]; exact_mod_cast hlt
        have hk64 : k < 64 := by omega
        have HK := Lib.hid hlt
        clear hlt hk
        go_wp2_with fail
        refine (implDescend s D k _ hs (by omega) (by omega) (by omega)).mono ?_
        rintro e w1 ⟨rfl, bel1⟩
        have own1 := own.below bel1 (Nat.le_refl _)
        have b1 := bel.trans (bel1.mono sz)
        have s1 := b1.size
        clear own bel bel1 sz
        have hol := leavesL_length s D k
        have HOL := Lib.hid hol
        clear hol
        go_wp2_with (at_builtin; refine wpList_append_Own _ rfl (.tmp 16) (.tmp 21) 24 rfl w.heap.size 3 i0 (.int .i64 0) .i64 8 Try.underlying24 hi hz0 hz1 hz2 rfl _ _ rfl (own1.alloc _) _ _ _ [descendI s D k] rfl (Own.lit1 .i64 3 _ 0 (descendI s D k) (Nat.zero_le _)).rd ?_ ?_ ?_ ?_)
        · rw [HOL.out]; simp only [maxLen, List.length_singleton]; omega
        · rw [HOL.out]; simp only [List.length_singleton]; omega
        · simp; omega
        · intro v2 w2 hO2 hW2
          have b2 := Lib.hid (hW2.below (b1.alloc s1 _) (Nat.le_refl _) (by simp; omega))
          have O2 := Lib.hid hO2
          clear hO2 hW2 own1 b1
          go_wp2_with fail
          go_roundw
          case rel => exact ⟨k + 1, HK.out, by go_num, by rw [leavesL_succ]; exact O2.out, b2.out⟩
          case measure => simp only [intOf]; have := HK.out; omega
      · have hlt' : ¬ (k : Int) < 2 ^ D := by rw [← HP.out]; exact_mod_cast hlt
        have hkk : k = 2 ^ D := by omega
        have HK := Lib.hid hkk
        have O := Lib.hid own
        clear hkk hlt hk own
        go_wp2_with fail
        go_ret
        refine ⟨_, rfl, ?_, bel⟩
        rw [HE.out, Int.toNat_natCast, ← HK.out]
        exact O.out
  · have HE := Lib.hid (leavesAll_no (s := s) hd)
    have HD := Lib.hid hd
    clear hd
    go_enter Try.func43, Try.ntmps43
    go_wp2_with (go_at_call 75; refine (inRange_no _ _ _ _ HD.out).mono ?_; rintro e w' ⟨rfl, rfl⟩)
    go_ret
    exact ⟨_, rfl, by rw [HE.out]; exact Own.of_empty _ _ _ _ _, Below.refl _ w⟩

theorem leavesAll_le (s d : Int) : (leavesAll s d).length ≤ 64 := by
  unfold leavesAll
  split
  · rename_i h
    rw [leavesL_length]
    exact Nat.pow_le_pow_right (by decide) (by omega : d.toNat ≤ 6)
  · simp
/-- The siblings on the way down to a leaf. -/
def punctI : Int → Nat → Int → List Int
  | _, 0, _ => []
  | s, d + 1, i => childI s (1 - bitI i d) :: punctI (childI s (bitI i d)) d i
theorem punctI_length (s : Int) (d : Nat) (i : Int) : (punctI s d i).length = d := by
  induction d generalizing s with
  | zero => rfl
  | succ d ih => simp [punctI, ih]
/-- What PunctureTree gives. -/
def punctAll (s d i : Int) : List Int := if 0 ≤ d ∧ d ≤ 6 ∧ 0 ≤ i ∧ i < 2 ^ d.toNat then punctI s d.toNat i else []
theorem punctAll_yes {s d i : Int} (h : IsLeaf d i) : punctAll s d i = punctI s d.toNat i := if_pos h
theorem punctAll_no {s d i : Int} (h : ¬ IsLeaf d i) : punctAll s d i = [] := if_neg h
theorem punctAll_le (s d i : Int) : (punctAll s d i).length ≤ 6 := by
  unfold punctAll
  split
  · rw [punctI_length]; omega
  · simp
theorem punct_next (o : List Int) (s : Int) (d : Nat) (i : Int) : (o ++ [childI s (1 - bitI i d)]) ++ punctI (childI s (bitI i d)) d i = o ++ punctI s (d + 1) i := by simp [punctI]

set_option maxRecDepth 100000 in
theorem implPunct (s d i : Int) (w : World) (hs : In64 s) (hin : In64 i) :
    Calls Try.prog 44 #[.int .i64 s, .int .i64 d, .int .i64 i] w fun e w' => ∃ v', e = .returned v' ∧ Own .i64 3 w' w.heap.size v' (punctAll s d i) ∧ Below w.heap.size w w' := by
  obtain ⟨i0, hi, hz0, hz1, hz2⟩ := info_parts info_int
  by_cases hl : IsLeaf d i
  · have HE := Lib.hid (punctAll_yes (s := s) hl)
    have HL := Lib.hid hl
    obtain ⟨h0, h6, j0, j1⟩ := hl
    obtain ⟨D, rfl⟩ := Int.eq_ofNat_of_zero_le h0
    have j2 : i < 64 := by
      have := (pow6 (D := D) (by omega)).1
      rw [Int.toNat_natCast] at j1
      omega
    clear j1
    go_enter Try.func44, Try.ntmps44
    go_wp2_with (go_at_call 83; refine (isL_yes _ _ _ HL.out).mono ?_; rintro e w' ⟨rfl, rfl⟩)
    go_loopw [0, 7, 8, 9] (fun t o k _ wr => ∃ (g : Nat) (q : Int) (ol : List Int), g ≤ D ∧ k = .int .i64 ((g : Int) - 1) ∧ t = .int .i64 q ∧ In64 q ∧ ol ++ punctI q g i = punctI s D i ∧ Own .i64 3 wr w.heap.size o ol ∧ Below w.heap.size w wr) (fun _ _ k _ _ => (intOf k + 1).toNat)
    case atStart => exact ⟨D, s, [], Nat.le_refl _, rfl, rfl, hs, rfl, Own.of_empty _ _ _ _ _, (Below.refl _ w).alloc (Nat.le_refl _) _⟩
    case round =>
      obtain ⟨g, q, ol, hg, rfl, rfl, hq, he, own, bel⟩ := hrel
      have sz := bel.size
      have hol : ol.length ≤ 6 := by
        have := congrArg List.length he
        rw [List.length_append, punctI_length, punctI_length] at this
        omega
      have HQ := Lib.hid he
      clear he
      rcases g with _ | g
      · rw [show ((0 : Nat) : Int) - 1 = -1 from rfl]
        have O := Lib.hid own
        clear own
        go_wp2_with fail
        go_ret
        refine ⟨_, rfl, ?_, bel⟩
        have h1 := HQ.out
        rw [punctI, List.append_nil] at h1
        rw [HE.out, Int.toNat_natCast, ← h1]
        exact O.out
      · rw [show ((g + 1 : Nat) : Int) - 1 = (g : Int) by omega]
        have bb := bitI_bd i g
        have hab := and_bit g j0 j2
        have HB := Lib.hid bb
        obtain ⟨bb0, bb1⟩ := bb
        generalize hbe : bitI i g = b at hab HB bb0 bb1
        have HBE := Lib.hid hbe
        clear hbe
        go_wp2_with fail
        refine (implChild q (1 - b) _ hq (by unfold In64; omega)).mono ?_
        rintro e w1 ⟨rfl, bel1⟩
        have own1 := own.below bel1 (Nat.le_refl _)
        have b1 := bel.trans (bel1.mono sz)
        have s1 := b1.size
        clear own bel bel1 sz
        go_wp2_with (at_builtin; refine wpList_append_Own _ rfl (.tmp 25) (.tmp 30) 24 rfl w.heap.size 3 i0 (.int .i64 0) .i64 8 Try.underlying24 hi hz0 hz1 hz2 rfl _ _ rfl (own1.alloc _) _ _ _ [childI q (1 - b)] rfl (Own.lit1 .i64 3 _ 0 (childI q (1 - b)) (Nat.zero_le _)).rd ?_ ?_ ?_ ?_)
        · simp only [maxLen, List.length_singleton]; omega
        · simp only [List.length_singleton]; omega
        · simp; omega
        · intro v2 w2 hO2 hW2
          have b2 := hW2.below (b1.alloc s1 _) (Nat.le_refl _) (by simp; omega)
          have s2 := b2.size
          clear hW2 own1 b1 s1
          go_wp2_with fail
          refine (implChild q b _ hq (by unfold In64; omega)).mono ?_
          rintro e w3 ⟨rfl, bel3⟩
          have O3 := Lib.hid (hO2.below bel3 (Nat.le_refl _))
          have b3 := Lib.hid (b2.trans (bel3.mono s2))
          have hq3 := in64_of (childI_bd q b)
          clear hO2 b2 bel3 s2 hab
          go_wp2_with fail
          go_roundw
          case rel =>
            refine ⟨g, _, _, by omega, rfl, rfl, hq3, ?_, O3.out, b3.out⟩
            rw [← HBE.out, punct_next]
            exact HQ.out
          case measure => simp [intOf]
  · have HE := Lib.hid (punctAll_no (s := s) hl)
    have HL := Lib.hid hl
    clear hl
    go_enter Try.func44, Try.ntmps44
    go_wp2_with (go_at_call 83; refine (isL_no _ _ _ HL.out).mono ?_; rintro e w' ⟨rfl, rfl⟩)
    go_ret
    exact ⟨_, rfl, by rw [HE.out]; exact Own.of_empty _ _ _ _ _, by first | exact Below.refl _ w | exact (Below.refl _ w).alloc (Nat.le_refl _) _⟩
end Go.Proofs.Ytabfekfbdacboaa
