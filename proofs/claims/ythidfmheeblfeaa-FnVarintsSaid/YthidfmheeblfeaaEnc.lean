/- Byte strings and lists of integers, encoded and decoded, of the program and of the reference: the walks. -/
import Derived.Test.YthidfmheeblfeaaUr
namespace Go.Proofs.Ythidfmheeblfeaa
open Go.RowKit
set_option linter.unusedVariables false

theorem uvR_cases (xs : List Int) (i : Int) (f : Wf .u8 xs) : (uvR xs i = (0, 0, false)) ∨ (∃ q : Int, ∃ k : Nat, uvR xs i = (q, i + k, true) ∧ 0 ≤ i ∧ 0 < k ∧ i + k ≤ xs.length ∧ 0 ≤ q ∧ q ≤ 1000000000000 ∧ (xs.drop i.toNat).take k = uvE q) := by
  by_cases hneg : i < 0
  · exact .inl (uvR_neg hneg)
  · rcases e : uvRd 6 0 0 (xs.drop i.toNat) with _ | ⟨m, k⟩
    · exact .inl (uvR_none hneg e)
    · right
      obtain ⟨q, h1, h2, h3, h4, _, h6, _, h8⟩ := uvRd_take 6 0 0 _ (fun c hc => bd8 (f c (List.mem_of_mem_drop hc))) e
      simp only [Nat.mul_zero, Int.pow_zero, Int.mul_one, Int.zero_add] at h1
      subst h1
      rw [List.length_drop] at h4
      refine ⟨m, k, uvR_some hneg e, by omega, h3, by omega, h2, h8, ?_⟩
      rw [uvE, if_pos ⟨h2, h8⟩]
      exact h6

theorem specApB (v1 v2 : Value) (xs ys : List Int) (w : World) (l1 h1 l2 h2 : Nat) (r1 : Rd .u8 w l1 h1 v1 xs) (r2 : Rd .u8 w l2 h2 v2 ys) (g1 : h1 ≤ w.heap.size) (g2 : h2 ≤ w.heap.size) (b1 : xs.length ≤ 1048576) (b2 : ys.length ≤ 1048576) :
    Calls Try.prog 23 #[v1, v2] w fun e w' => ∃ v', e = .returned v' ∧ Own .u8 5 w' w.heap.size v' (xs ++ (uvE ys.length ++ ys)) ∧ Below w.heap.size w w' := by
  obtain ⟨i0, hi, hz0, hz1, hz2⟩ := info_parts info_u8
  obtain ⟨A, c, rfl, hc1, hc2⟩ := r2.form
  have hE := uvE_length (ys.length : Int)
  go_enter Try.func23, Try.ntmps23
  go_wp2_with fail
  refine (specApU v1 xs ys.length w _ _ r1 (by unfold In64; omega) g1 (by omega)).mono ?_
  rintro e w1 ⟨v', rfl, o1, bel1⟩
  have s1 := bel1.size
  have hA : (xs ++ uvE ys.length).length + ys.length ≤ maxLen := by simp [maxLen]; omega
  have hB : ((xs ++ uvE ys.length).length + ys.length) * 1 ≤ 140737488355328 := by simp; omega
  go_wp2_with (at_builtin; refine wpList_append_Own _ rfl (.tmp 8) (.tmp 9) 22 rfl w.heap.size 5 i0 (.int .u8 0) .u8 1 Try.underlying22 hi hz0 hz1 hz2 rfl _ _ rfl o1 _ _ _ ys rfl (r2.below bel1 g2) hA hB s1 ?_)
  intro v2 w2 hO2 hW2
  have B2 : Below w.heap.size w w2 := hW2.below bel1 (Nat.le_refl _) s1
  have O2 := Lib.hid hO2
  clear hO2 hW2 o1
  go_wp2_with fail
  go_ret
  exact ⟨_, rfl, O2.out, B2⟩
theorem implApB (v1 v2 : Value) (xs ys : List Int) (w : World) (l1 h1 l2 h2 : Nat) (r1 : Rd .u8 w l1 h1 v1 xs) (r2 : Rd .u8 w l2 h2 v2 ys) (g1 : h1 ≤ w.heap.size) (g2 : h2 ≤ w.heap.size) (b1 : xs.length ≤ 1048576) (b2 : ys.length ≤ 1048576) :
    Calls Try.prog 24 #[v1, v2] w fun e w' => ∃ v', e = .returned v' ∧ Own .u8 5 w' w.heap.size v' (xs ++ (uvE ys.length ++ ys)) ∧ Below w.heap.size w w' := by
  obtain ⟨i0, hi, hz0, hz1, hz2⟩ := info_parts info_u8
  obtain ⟨A, c, rfl, hc1, hc2⟩ := r2.form
  have hE := uvE_length (ys.length : Int)
  go_enter Try.func24, Try.ntmps24
  go_wp2_with fail
  refine (implApU v1 xs ys.length w _ _ r1 (by unfold In64; omega) g1 (by omega)).mono ?_
  rintro e w1 ⟨v', rfl, o1, bel1⟩
  have s1 := bel1.size
  have hA : (xs ++ uvE ys.length).length + ys.length ≤ maxLen := by simp [maxLen]; omega
  have hB : ((xs ++ uvE ys.length).length + ys.length) * 1 ≤ 140737488355328 := by simp; omega
  go_wp2_with (at_builtin; refine wpList_append_Own _ rfl (.tmp 8) (.tmp 9) 22 rfl w.heap.size 5 i0 (.int .u8 0) .u8 1 Try.underlying22 hi hz0 hz1 hz2 rfl _ _ rfl o1 _ _ _ ys rfl (r2.below bel1 g2) hA hB s1 ?_)
  intro v2 w2 hO2 hW2
  have B2 : Below w.heap.size w w2 := hW2.below bel1 (Nat.le_refl _) s1
  have O2 := Lib.hid hO2
  clear hO2 hW2 o1
  go_wp2_with fail
  go_ret
  exact ⟨_, rfl, O2.out, B2⟩

/-- All numbers' varints. -/
def encL (xs : List Int) : List Int := (xs.map uvE).flatten
theorem encL_take (xs : List Int) (k : Nat) (h : k < xs.length) : encL (xs.take (k + 1)) = encL (xs.take k) ++ uvE xs[k] := by
  unfold encL
  rw [List.take_succ_eq_append_getElem h, List.map_append, List.flatten_append]
  simp
theorem encL_length (xs : List Int) : (encL xs).length ≤ 6 * xs.length := by
  induction xs with
  | nil => simp [encL]
  | cons x xs ih =>
    have := uvE_length x
    simp only [encL, List.map_cons, List.flatten_cons, List.length_append, List.length_cons] at *
    omega

theorem specEnI (v : Value) (xs : List Int) (w : World) (l h : Nat) (r : Rd .i64 w l h v xs) (f : Wf .i64 xs) (hh : h ≤ w.heap.size) (hl : xs.length ≤ 1048576) :
    Calls Try.prog 27 #[v] w fun e w' => ∃ v', e = .returned v' ∧ Own .u8 5 w' w.heap.size v' (encL xs) ∧ Below w.heap.size w w' := by
  obtain ⟨A, c, rfl, hc1, hc2⟩ := r.form
  unfold maxLen at hc2
  go_enter Try.func27, Try.ntmps27
  go_wp2_with fail
  go_loopw [3, 4] (fun o i wr => ∃ k : Nat, k ≤ xs.length ∧ i = .int .i64 k ∧ Own .u8 5 wr w.heap.size o (encL (xs.take k)) ∧ Below w.heap.size w wr) (fun _ i _ => xs.length - (intOf i).toNat)
  case atStart => exact ⟨0, Nat.zero_le _, rfl, Own.of_empty _ _ _ _ _, (Below.refl _ w).alloc (Nat.le_refl _) _⟩
  case round =>
    obtain ⟨k, hk, rfl, own, bel⟩ := hrel
    have sz := bel.size
    by_cases hlt : k < xs.length
    · obtain ⟨A', c', e1, _, _, hr⟩ := r.below bel hh
      obtain ⟨b, off, hA, _, _, hcell⟩ := hr (by omega)
      simp at e1
      obtain ⟨rfl, rfl⟩ := e1
      subst hA
      have c1 := hcell k xs[k] (by simp [hlt])
      have hx := bd64 (f _ (List.getElem_mem hlt))
      have HF := Lib.hid (encL_take xs k hlt)
      have hle := encL_length (xs.take k)
      rw [List.length_take] at hle
      have OWN := Lib.hid own
      have HX := Lib.hid hx
      clear hcell hr own hx
      go_wp2_with fail
      refine (specApU _ _ xs[k] wr _ _ OWN.out.rd HX.out (Nat.le_refl _) (by omega)).mono ?_
      rintro e w2 ⟨v2, rfl, o2, bel2⟩
      have B2 := Lib.hid (bel.trans (bel2.mono sz))
      have O2 := Lib.hid (o2.more sz)
      clear o2 bel bel2
      go_wp2_with fail
      exact ⟨⟨k + 1, by omega, by go_num, by rw [HF.out]; exact O2.out, B2.out⟩, by simp [intOf]; omega⟩
    · have OWN := Lib.hid own
      clear own
      go_wp2_with fail
      go_ret
      refine ⟨_, rfl, ?_, bel⟩
      have := OWN.out
      rwa [List.take_of_length_le (by omega)] at this
theorem implEnI (v : Value) (xs : List Int) (w : World) (l h : Nat) (r : Rd .i64 w l h v xs) (f : Wf .i64 xs) (hh : h ≤ w.heap.size) (hl : xs.length ≤ 1048576) :
    Calls Try.prog 29 #[v] w fun e w' => ∃ v', e = .returned v' ∧ Own .u8 5 w' w.heap.size v' (encL xs) ∧ Below w.heap.size w w' := by
  obtain ⟨A, c, rfl, hc1, hc2⟩ := r.form
  unfold maxLen at hc2
  go_enter Try.func29, Try.ntmps29
  go_wp2_with fail
  go_loopw [3, 5, 9] (fun o _ i wr => ∃ k : Nat, k ≤ xs.length ∧ i = .int .i64 k ∧ Own .u8 5 wr w.heap.size o (encL (xs.take k)) ∧ Below w.heap.size w wr) (fun _ _ i _ => xs.length - (intOf i).toNat)
  case atStart => exact ⟨0, Nat.zero_le _, rfl, Own.of_empty _ _ _ _ _, (Below.refl _ w).alloc (Nat.le_refl _) _⟩
  case round =>
    obtain ⟨k, hk, rfl, own, bel⟩ := hrel
    have sz := bel.size
    by_cases hlt : k < xs.length
    · obtain ⟨A', c', e1, _, _, hr⟩ := r.below bel hh
      obtain ⟨b, off, hA, _, _, hcell⟩ := hr (by omega)
      simp at e1
      obtain ⟨rfl, rfl⟩ := e1
      subst hA
      have c1 := hcell k xs[k] (by simp [hlt])
      have hx := bd64 (f _ (List.getElem_mem hlt))
      have HF := Lib.hid (encL_take xs k hlt)
      have hle := encL_length (xs.take k)
      rw [List.length_take] at hle
      have OWN := Lib.hid own
      have HX := Lib.hid hx
      clear hcell hr own hx
      go_wp2_with fail
      refine (implApU _ _ xs[k] wr _ _ OWN.out.rd HX.out (Nat.le_refl _) (by omega)).mono ?_
      rintro e w2 ⟨v2, rfl, o2, bel2⟩
      have B2 := Lib.hid (bel.trans (bel2.mono sz))
      have O2 := Lib.hid (o2.more sz)
      clear o2 bel bel2
      go_wp2_with fail
      exact ⟨⟨k + 1, by omega, by go_num, by rw [HF.out]; exact O2.out, B2.out⟩, by simp [intOf]; omega⟩
    · have OWN := Lib.hid own
      clear own
      go_wp2_with fail
      go_ret
      refine ⟨_, rfl, ?_, bel⟩
      have := OWN.out
      rwa [List.take_of_length_le (by omega)] at this

/-- n numbers read behind place i. -/
def decF (xs : List Int) : Nat → Int → Option (List Int × Int)
  | 0, i => some ([], i)
  | n + 1, i => if (uvR xs i).2.2 = true then (decF xs n (uvR xs i).2.1).map fun p => ((uvR xs i).1 :: p.1, p.2) else none
/-- What DecodeInts gives. -/
def decI (xs : List Int) (i n : Int) : List Int × Int × Bool :=
  if (0 ≤ n ∧ n ≤ 100) ∧ 0 ≤ i ∧ i ≤ xs.length then match decF xs n.toNat i with
    | some p => (p.1, p.2, true)
    | none => ([], 0, false)
  else ([], 0, false)
theorem decF_ok {xs : List Int} {n : Nat} {i q j : Int} (h : uvR xs i = (q, j, true)) : decF xs (n + 1) i = (decF xs n j).map fun p => (q :: p.1, p.2) := by rw [decF, h]; rfl
theorem decF_bad {xs : List Int} {n : Nat} {i : Int} (h : uvR xs i = (0, 0, false)) : decF xs (n + 1) i = none := by rw [decF, h]; rfl
theorem decI_out {xs : List Int} {i n : Int} (h : ¬ ((0 ≤ n ∧ n ≤ 100) ∧ 0 ≤ i ∧ i ≤ xs.length)) : decI xs i n = ([], 0, false) := if_neg h
theorem decI_bad {xs : List Int} {i n : Int} (h : (0 ≤ n ∧ n ≤ 100) ∧ 0 ≤ i ∧ i ≤ xs.length) (e : decF xs n.toNat i = none) : decI xs i n = ([], 0, false) := by rw [decI, if_pos h, e]
theorem decI_ok {xs : List Int} {i n : Int} {p : List Int × Int} (h : (0 ≤ n ∧ n ≤ 100) ∧ 0 ≤ i ∧ i ≤ xs.length) (e : decF xs n.toNat i = some p) : decI xs i n = (p.1, p.2, true) := by rw [decI, if_pos h, e]

set_option maxRecDepth 100000 in
theorem specDeI (v : Value) (xs : List Int) (i n : Int) (w : World) (l h : Nat) (r : Rd .u8 w l h v xs) (f : Wf .u8 xs) (hi : In64 i) (hn : In64 n) (hh : h ≤ w.heap.size) (hl : xs.length ≤ 1048576) :
    Calls Try.prog 32 #[v, .int .i64 i, .int .i64 n] w fun e w' => ∃ v', e = .returned (.tuple #[v', .int .i64 (decI xs i n).2.1, .bool (decI xs i n).2.2]) ∧ Own .i64 3 w' w.heap.size v' (decI xs i n).1 ∧ Below w.heap.size w w' := by
  obtain ⟨i0, hi0, hz0, hz1, hz2⟩ := info_parts info_int
  obtain ⟨A, c, rfl, hc1, hc2⟩ := r.form
  unfold maxLen at hc2
  by_cases q1 : 0 ≤ n ∧ n ≤ 100
  rotate_left
  · rw [decI_out (fun hh => q1 hh.1)]
    have Q1 := Lib.hid q1
    clear q1
    go_enter Try.func32, Try.ntmps32
    go_wp2_with fail
    refine (l1In_no _ _ _ _ Q1.out).mono ?_
    rintro e w' ⟨rfl, rfl⟩
    go_wp2_with fail
    go_ret3
    exact ⟨_, rfl, Own.of_empty _ _ _ _ _, by first | exact Below.refl _ w | exact (Below.refl _ w).alloc (Nat.le_refl _) _ | exact ((Below.refl _ w).alloc (Nat.le_refl _) _).alloc (by simp) _⟩
  by_cases q2 : 0 ≤ i ∧ i ≤ xs.length
  rotate_left
  · rw [decI_out (fun hh => q2 hh.2)]
    have Q2 := Lib.hid q2
    clear q2
    obtain ⟨q10, q11⟩ := q1
    go_enter Try.func32, Try.ntmps32
    go_wp2_with fail
    refine (l1In_yes _ _ _ _ q10 q11).mono ?_
    rintro e w' ⟨rfl, rfl⟩
    go_wp2_with fail
    refine (l1In_no _ _ _ _ Q2.out).mono ?_
    rintro e w' ⟨rfl, rfl⟩
    go_wp2_with fail
    go_ret3
    exact ⟨_, rfl, Own.of_empty _ _ _ _ _, by first | exact Below.refl _ w | exact (Below.refl _ w).alloc (Nat.le_refl _) _ | exact ((Below.refl _ w).alloc (Nat.le_refl _) _).alloc (by simp) _⟩
  have hq := And.intro q1 q2
  obtain ⟨q10, q11⟩ := q1
  obtain ⟨q20, q21⟩ := q2
  obtain ⟨m, rfl⟩ := Int.eq_ofNat_of_zero_le q10
  have HQ := Lib.hid hq
  clear hq
  obtain ⟨D, hD⟩ : ∃ D, D = decI xs i m := ⟨_, rfl⟩
  rw [← hD]
  have HD := Lib.hid hD
  clear hD
  go_enter Try.func32, Try.ntmps32
  go_wp2_with fail
  refine (l1In_yes _ _ _ _ q10 q11).mono ?_
  rintro e w' ⟨rfl, rfl⟩
  go_wp2_with fail
  refine (l1In_yes _ _ _ _ q20 q21).mono ?_
  rintro e w' ⟨rfl, rfl⟩
  go_wp2_with fail
  go_loopw [1, 9, 10] (fun o q z wr => ∃ (k : Nat) (at_ : Int) (pre : List Int), k ≤ m ∧ z = .int .i64 k ∧ o = .int .i64 at_ ∧ 0 ≤ at_ ∧ at_ ≤ xs.length ∧ Own .i64 3 wr w.heap.size q pre ∧ pre.length = k ∧ decF xs m i = (decF xs (m - k) at_).map (fun p => (pre ++ p.1, p.2)) ∧ Below w.heap.size w wr) (fun _ _ z _ => m - (intOf z).toNat)
  case atStart => exact ⟨0, i, [], Nat.zero_le _, rfl, rfl, q20, q21, Own.of_empty _ _ _ _ _, rfl, by simp, by first | exact Below.refl _ w | exact (Below.refl _ w).alloc (Nat.le_refl _) _⟩
  case round =>
    obtain ⟨k, at_, pre, hk, rfl, rfl, a0, a1, own, hpl, he, bel⟩ := hrel
    have sz := bel.size
    have OWN := Lib.hid own
    have HPL := Lib.hid hpl
    have HE := Lib.hid he
    clear own hpl he
    by_cases hlt : k < m
    · rcases uvR_cases xs at_ f with hu | ⟨q, t, hu, -, ht0, ht1, hq0, hq1, -⟩
      · have HU := Lib.hid hu
        have HN : Hid (D = ([], 0, false)) := by
          unfold Hid
          rw [HD.out]
          refine decI_bad HQ.out ?_
          rw [Int.toNat_natCast, HE.out, show m - k = (m - k - 1) + 1 by omega, decF_bad hu]
          rfl
        clear hu
        go_wp2_with fail
        refine (specUr _ xs at_ _ _ _ (r.below bel hh) f (by unfold In64; omega)).mono ?_
        rw [HU.out]
        rintro e w' ⟨rfl, rfl⟩
        go_wp2_with fail
        go_ret3
        rw [HN.out]
        refine ⟨_, rfl, Own.of_empty _ _ _ _ _, ?_⟩
        first | exact bel | exact bel.alloc sz _
      · have HU := Lib.hid hu
        have HE2 : Hid (decF xs m i = (decF xs (m - (k + 1)) (at_ + t)).map (fun p => ((pre ++ [q]) ++ p.1, p.2))) := by
          unfold Hid
          rw [HE.out, show m - k = (m - (k + 1)) + 1 by omega, decF_ok hu]
          cases decF xs (m - (k + 1)) (at_ + t) <;> simp
        clear hu
        go_wp2_with fail
        refine (specUr _ xs at_ _ _ _ (r.below bel hh) f (by unfold In64; omega)).mono ?_
        rw [HU.out]
        rintro e w' ⟨rfl, rfl⟩
        have hA : pre.length + [q].length ≤ maxLen := by have := HPL.out; simp [maxLen]; omega
        have hB : (pre.length + [q].length) * 8 ≤ 140737488355328 := by have := HPL.out; simp; omega
        go_wp2_with (at_builtin; refine wpList_append_Own _ rfl (.tmp 41) (.tmp 43) 34 rfl w.heap.size 3 i0 (.int .i64 0) .i64 8 Try.underlying34 hi0 hz0 hz1 hz2 rfl _ _ rfl (OWN.out.alloc _) _ _ _ [q] rfl (Own.lit1 .i64 3 _ 0 q (Nat.zero_le _)).rd hA hB ?_ ?_)
        · first | omega | (simp; omega)
        · intro v2 w2 hO2 hW2
          have B2 : Below w.heap.size w w2 := hW2.below (bel.alloc sz _) (Nat.le_refl _) (by simp; omega)
          go_wp2_with fail
          exact ⟨⟨k + 1, at_ + t, pre ++ [q], by omega, by go_num, rfl, by omega, by omega, hO2, by have := HPL.out; simp [this], HE2.out, B2⟩, by simp [intOf]; omega⟩
    · obtain rfl : k = m := by omega
      have HN : Hid (D = (pre, at_, true)) := by
        unfold Hid
        rw [HD.out]
        have := HE.out
        rw [Nat.sub_self] at this
        refine (decI_ok HQ.out (p := (pre, at_)) ?_)
        rw [Int.toNat_natCast, this]
        simp [decF]
      go_wp2_with fail
      go_ret3
      rw [HN.out]
      exact ⟨_, rfl, OWN.out, bel⟩
set_option maxRecDepth 100000 in
theorem implDeI (v : Value) (xs : List Int) (i n : Int) (w : World) (l h : Nat) (r : Rd .u8 w l h v xs) (f : Wf .u8 xs) (hi : In64 i) (hn : In64 n) (hh : h ≤ w.heap.size) (hl : xs.length ≤ 1048576) :
    Calls Try.prog 33 #[v, .int .i64 i, .int .i64 n] w fun e w' => ∃ v', e = .returned (.tuple #[v', .int .i64 (decI xs i n).2.1, .bool (decI xs i n).2.2]) ∧ Own .i64 3 w' w.heap.size v' (decI xs i n).1 ∧ Below w.heap.size w w' := by
  obtain ⟨i0, hi0, hz0, hz1, hz2⟩ := info_parts info_int
  obtain ⟨A, c, rfl, hc1, hc2⟩ := r.form
  unfold maxLen at hc2
  by_cases q1 : 0 ≤ n ∧ n ≤ 100
  rotate_left
  · rw [decI_out (fun hh => q1 hh.1)]
    have Q1 := Lib.hid q1
    clear q1
    go_enter Try.func33, Try.ntmps33
    go_wp2_with fail
    refine (inRange_no _ _ _ _ Q1.out).mono ?_
    rintro e w' ⟨rfl, rfl⟩
    go_wp2_with fail
    go_ret3
    exact ⟨_, rfl, Own.of_empty _ _ _ _ _, by first | exact Below.refl _ w | exact (Below.refl _ w).alloc (Nat.le_refl _) _ | exact ((Below.refl _ w).alloc (Nat.le_refl _) _).alloc (by simp) _⟩
  by_cases q2 : 0 ≤ i ∧ i ≤ xs.length
  rotate_left
  · rw [decI_out (fun hh => q2 hh.2)]
    have Q2 := Lib.hid q2
    clear q2
    obtain ⟨q10, q11⟩ := q1
    go_enter Try.func33, Try.ntmps33
    go_wp2_with fail
    refine (inRange_yes _ _ _ _ q10 q11).mono ?_
    rintro e w' ⟨rfl, rfl⟩
    go_wp2_with fail
    refine (inRange_no _ _ _ _ Q2.out).mono ?_
    rintro e w' ⟨rfl, rfl⟩
    go_wp2_with fail
    go_ret3
    exact ⟨_, rfl, Own.of_empty _ _ _ _ _, by first | exact Below.refl _ w | exact (Below.refl _ w).alloc (Nat.le_refl _) _ | exact ((Below.refl _ w).alloc (Nat.le_refl _) _).alloc (by simp) _⟩
  have hq := And.intro q1 q2
  obtain ⟨q10, q11⟩ := q1
  obtain ⟨q20, q21⟩ := q2
  obtain ⟨m, rfl⟩ := Int.eq_ofNat_of_zero_le q10
  have HQ := Lib.hid hq
  clear hq
  obtain ⟨D, hD⟩ : ∃ D, D = decI xs i m := ⟨_, rfl⟩
  rw [← hD]
  have HD := Lib.hid hD
  clear hD
  go_enter Try.func33, Try.ntmps33
  go_wp2_with fail
  refine (inRange_yes _ _ _ _ q10 q11).mono ?_
  rintro e w' ⟨rfl, rfl⟩
  go_wp2_with fail
  refine (inRange_yes _ _ _ _ q20 q21).mono ?_
  rintro e w' ⟨rfl, rfl⟩
  go_wp2_with fail
  go_loopw [1, 9, 25] (fun o q z wr => ∃ (k : Nat) (at_ : Int) (pre : List Int), k ≤ m ∧ z = .int .i64 k ∧ o = .int .i64 at_ ∧ 0 ≤ at_ ∧ at_ ≤ xs.length ∧ Own .i64 3 wr w.heap.size q pre ∧ pre.length = k ∧ decF xs m i = (decF xs (m - k) at_).map (fun p => (pre ++ p.1, p.2)) ∧ Below w.heap.size w wr) (fun _ _ z _ => m - (intOf z).toNat)
  case atStart => exact ⟨0, i, [], Nat.zero_le _, rfl, rfl, q20, q21, Own.of_empty _ _ _ _ _, rfl, by simp, by first | exact Below.refl _ w | exact (Below.refl _ w).alloc (Nat.le_refl _) _⟩
  case round =>
    obtain ⟨k, at_, pre, hk, rfl, rfl, a0, a1, own, hpl, he, bel⟩ := hrel
    have sz := bel.size
    have OWN := Lib.hid own
    have HPL := Lib.hid hpl
    have HE := Lib.hid he
    clear own hpl he
    by_cases hlt : k < m
    · rcases uvR_cases xs at_ f with hu | ⟨q, t, hu, -, ht0, ht1, hq0, hq1, -⟩
      · have HU := Lib.hid hu
        have HN : Hid (D = ([], 0, false)) := by
          unfold Hid
          rw [HD.out]
          refine decI_bad HQ.out ?_
          rw [Int.toNat_natCast, HE.out, show m - k = (m - k - 1) + 1 by omega, decF_bad hu]
          rfl
        clear hu
        go_wp2_with fail
        refine (implUr _ xs at_ _ _ _ (r.below bel hh) f (by unfold In64; omega)).mono ?_
        rw [HU.out]
        rintro e w' ⟨rfl, rfl⟩
        go_wp2_with fail
        go_ret3
        rw [HN.out]
        refine ⟨_, rfl, Own.of_empty _ _ _ _ _, ?_⟩
        first | exact bel | exact bel.alloc sz _
      · have HU := Lib.hid hu
        have HE2 : Hid (decF xs m i = (decF xs (m - (k + 1)) (at_ + t)).map (fun p => ((pre ++ [q]) ++ p.1, p.2))) := by
          unfold Hid
          rw [HE.out, show m - k = (m - (k + 1)) + 1 by omega, decF_ok hu]
          cases decF xs (m - (k + 1)) (at_ + t) <;> simp
        clear hu
        go_wp2_with fail
        refine (implUr _ xs at_ _ _ _ (r.below bel hh) f (by unfold In64; omega)).mono ?_
        rw [HU.out]
        rintro e w' ⟨rfl, rfl⟩
        have hA : pre.length + [q].length ≤ maxLen := by have := HPL.out; simp [maxLen]; omega
        have hB : (pre.length + [q].length) * 8 ≤ 140737488355328 := by have := HPL.out; simp; omega
        go_wp2_with (at_builtin; refine wpList_append_Own _ rfl (.tmp 36) (.tmp 38) 34 rfl w.heap.size 3 i0 (.int .i64 0) .i64 8 Try.underlying34 hi0 hz0 hz1 hz2 rfl _ _ rfl (OWN.out.alloc _) _ _ _ [q] rfl (Own.lit1 .i64 3 _ 0 q (Nat.zero_le _)).rd hA hB ?_ ?_)
        · first | omega | (simp; omega)
        · intro v2 w2 hO2 hW2
          have B2 : Below w.heap.size w w2 := hW2.below (bel.alloc sz _) (Nat.le_refl _) (by simp; omega)
          go_wp2_with fail
          exact ⟨⟨k + 1, at_ + t, pre ++ [q], by omega, by go_num, rfl, by omega, by omega, hO2, by have := HPL.out; simp [this], HE2.out, B2⟩, by simp [intOf]; omega⟩
    · obtain rfl : k = m := by omega
      have HN : Hid (D = (pre, at_, true)) := by
        unfold Hid
        rw [HD.out]
        have := HE.out
        rw [Nat.sub_self] at this
        refine (decI_ok HQ.out (p := (pre, at_)) ?_)
        rw [Int.toNat_natCast, this]
        simp [decF]
      go_wp2_with fail
      go_ret3
      rw [HN.out]
      exact ⟨_, rfl, OWN.out, bel⟩

theorem Rd.sub {k : IntKind} {w : World} {lo hi b off len c : Nat} {xs : List Int} (h : Rd k w lo hi (.slice (some ⟨b, off, none⟩) len c) xs) (a n : Nat) (ha : a + n ≤ xs.length) :
    Rd k w lo hi (.slice (some ⟨b, off + a, none⟩) n (c - a)) ((xs.drop a).take n) := by
  obtain ⟨A, c', hv, h1, h2, h3⟩ := h
  cases hv
  have hl : ((xs.drop a).take n).length = n := by rw [List.length_take, List.length_drop]; omega
  refine ⟨_, _, by rw [hl], by rw [hl]; omega, by omega, fun hp => ?_⟩
  rw [hl] at hp
  obtain ⟨b', off', e, g1, g2, g3⟩ := h3 (by omega)
  cases e
  refine ⟨_, _, rfl, g1, g2, fun i u hu => ?_⟩
  have hi : i < n := by have := (List.getElem?_eq_some_iff.1 hu).1; omega
  rw [List.getElem?_take_of_lt hi, List.getElem?_drop] at hu
  have := g3 (a + i) u hu
  rwa [← Nat.add_assoc] at this

/-- What ReadBytes gives. -/
def rdB (xs : List Int) (i m : Int) : List Int × Int × Bool :=
  if (uvR xs i).2.2 = true ∧ (uvR xs i).1 ≤ m ∧ (uvR xs i).1 ≤ xs.length - (uvR xs i).2.1 then ((xs.drop (uvR xs i).2.1.toNat).take (uvR xs i).1.toNat, (uvR xs i).2.1 + (uvR xs i).1, true) else ([], 0, false)
theorem rdB_bad {xs : List Int} {i m : Int} (h : uvR xs i = (0, 0, false)) : rdB xs i m = ([], 0, false) := by rw [rdB, h, if_neg]; simp
theorem rdB_ok {xs : List Int} {i m q j : Int} (h : uvR xs i = (q, j, true)) (h1 : q ≤ m) (h2 : q ≤ xs.length - j) : rdB xs i m = ((xs.drop j.toNat).take q.toNat, j + q, true) := by rw [rdB, h, if_pos ⟨rfl, h1, h2⟩]
theorem rdB_no {xs : List Int} {i m q j : Int} (h : uvR xs i = (q, j, true)) (h1 : ¬ (q ≤ m ∧ q ≤ xs.length - j)) : rdB xs i m = ([], 0, false) := by rw [rdB, h, if_neg]; exact fun hh => h1 hh.2

set_option maxRecDepth 100000 in
theorem specRdB (v : Value) (xs : List Int) (i m : Int) (w : World) (l h : Nat) (r : Rd .u8 w l h v xs) (f : Wf .u8 xs) (hi : In64 i) (hm : In64 m) (hh : h ≤ w.heap.size) (hl : xs.length ≤ 16777216) :
    Calls Try.prog 25 #[v, .int .i64 i, .int .i64 m] w fun e w' => ∃ v', e = .returned (.tuple #[v', .int .i64 (rdB xs i m).2.1, .bool (rdB xs i m).2.2]) ∧ Own .u8 5 w' w.heap.size v' (rdB xs i m).1 ∧ Below w.heap.size w w' := by
  obtain ⟨i0, hi0, hz0, hz1, hz2⟩ := info_parts info_u8
  have R := Lib.hid r
  obtain ⟨A, c, rfl, hc1, hc2⟩ := r.form
  unfold maxLen at hc2
  unfold In64 at hm
  rcases uvR_cases xs i f with hu | ⟨q, t, hu, hi0', ht0, ht1, hq0, hq1, -⟩
  · rw [rdB_bad hu]
    have HU := Lib.hid hu
    clear hu
    go_enter Try.func25, Try.ntmps25
    go_wp2_with fail
    refine (specUr _ xs i _ _ _ r f hi).mono ?_
    rw [HU.out]
    rintro e w' ⟨rfl, rfl⟩
    go_wp2_with fail
    go_ret3
    exact ⟨_, rfl, Own.of_empty _ _ _ _ _, (Below.refl _ w).alloc (Nat.le_refl _) _⟩
  by_cases h1 : q ≤ m ∧ q ≤ xs.length - (i + t)
  rotate_left
  · rw [rdB_no hu h1]
    have HU := Lib.hid hu
    clear hu
    by_cases h2 : q ≤ m
    · have h3 : ¬ q ≤ xs.length - (i + t) := fun hh => h1 ⟨h2, hh⟩
      clear h1
      go_enter Try.func25, Try.ntmps25
      go_wp2_with fail
      refine (specUr _ xs i _ _ _ r f hi).mono ?_
      rw [HU.out]
      rintro e w' ⟨rfl, rfl⟩
      go_wp2_with fail
      go_ret3
      exact ⟨_, rfl, Own.of_empty _ _ _ _ _, (Below.refl _ w).alloc (Nat.le_refl _) _⟩
    · clear h1
      go_enter Try.func25, Try.ntmps25
      go_wp2_with fail
      refine (specUr _ xs i _ _ _ r f hi).mono ?_
      rw [HU.out]
      rintro e w' ⟨rfl, rfl⟩
      go_wp2_with fail
      go_ret3
      exact ⟨_, rfl, Own.of_empty _ _ _ _ _, (Below.refl _ w).alloc (Nat.le_refl _) _⟩
  obtain ⟨h2, h3⟩ := h1
  rw [rdB_ok hu h2 h3]
  have HU := Lib.hid hu
  clear hu
  obtain ⟨j, rfl⟩ := Int.eq_ofNat_of_zero_le hi0'
  obtain ⟨n, rfl⟩ := Int.eq_ofNat_of_zero_le hq0
  obtain ⟨b, off, rfl⟩ : ∃ b off, A = some ⟨b, off, none⟩ := by
    obtain ⟨A', c', e1, _, _, hr⟩ := r
    obtain ⟨b, off, hA, _⟩ := hr (by omega)
    simp at e1
    exact ⟨b, off, by rw [e1.1, hA]⟩
  have hA0 : ([] : List Int).length + ((xs.drop (j + t)).take n).length ≤ maxLen := by simp [maxLen]; omega
  have hB0 : (([] : List Int).length + ((xs.drop (j + t)).take n).length) * 1 ≤ 140737488355328 := by simp; omega
  have HL : Hid (((xs.drop ((j : Int) + t).toNat).take (n : Int).toNat) = (xs.drop (j + t)).take n) := by
    unfold Hid
    rw [show ((j : Int) + t).toNat = j + t by omega, Int.toNat_natCast]
  rw [HL.out]
  rcases Nat.eq_zero_or_pos n with rfl | hp
  · go_enter Try.func25, Try.ntmps25
    go_wp2_with fail
    refine (specUr _ xs j _ _ _ r f hi).mono ?_
    rw [HU.out]
    rintro e w' ⟨rfl, rfl⟩
    go_wp2_with (at_builtin; refine wpList_append_Own _ rfl (.tmp 35) (.tmp 41) 22 rfl w.heap.size 5 i0 (.int .u8 0) .u8 1 Try.underlying22 hi0 hz0 hz1 hz2 rfl _ [] rfl (Own.lit0 _ _ _ _ _) _ 0 0 [] rfl (Rd.nil_ _ _ _ _ _ _ (by unfold maxLen; omega)) (by simp [maxLen]) (by simp) (by simp) ?_)
    all_goals
      intro v2 w2 hO2 hW2
      have B2 : Below w.heap.size w w2 := hW2.below ((Below.refl _ w).alloc (Nat.le_refl _) _) (Nat.le_refl _) (by simp)
      have O2 := Lib.hid hO2
      clear hO2 hW2
      go_wp2_with fail
      go_ret3
      exact ⟨_, by first | rfl | simp, by simpa using O2.out, B2⟩
  · have rs := (r.sub (j + t) n (by omega)).alloc hh (.cells #[] 5)
    have en : j + t + n - (j + t) = n := by omega
    have rs' : Rd .u8 (w.alloc (.cells #[] 5)) l h (.slice (some ⟨b, off + (j + t), none⟩) (j + t + n - (j + t)) (c - (j + t))) ((xs.drop (j + t)).take n) := by rw [en]; exact rs
    clear rs en
    have hc3 : j + t < c := by omega
    go_enter Try.func25, Try.ntmps25
    go_wp2_with fail
    refine (specUr _ xs j _ _ _ r f hi).mono ?_
    rw [HU.out]
    rintro e w' ⟨rfl, rfl⟩
    go_wp2_with (at_builtin; refine wpList_append_Own _ rfl (.tmp 35) (.tmp 41) 22 rfl w.heap.size 5 i0 (.int .u8 0) .u8 1 Try.underlying22 hi0 hz0 hz1 hz2 rfl _ [] rfl (Own.lit0 _ _ _ _ _) _ l h ((xs.drop (j + t)).take n) rfl rs' hA0 hB0 (by simp) ?_)
    intro v2 w2 hO2 hW2
    have B2 : Below w.heap.size w w2 := hW2.below ((Below.refl _ w).alloc (Nat.le_refl _) _) (Nat.le_refl _) (by simp)
    have O2 := Lib.hid hO2
    clear hO2 hW2 rs'
    go_wp2_with fail
    go_ret3
    exact ⟨_, rfl, O2.out, B2⟩
set_option maxRecDepth 100000 in
theorem implRdB (v : Value) (xs : List Int) (i m : Int) (w : World) (l h : Nat) (r : Rd .u8 w l h v xs) (f : Wf .u8 xs) (hi : In64 i) (hm : In64 m) (hh : h ≤ w.heap.size) (hl : xs.length ≤ 16777216) :
    Calls Try.prog 26 #[v, .int .i64 i, .int .i64 m] w fun e w' => ∃ v', e = .returned (.tuple #[v', .int .i64 (rdB xs i m).2.1, .bool (rdB xs i m).2.2]) ∧ Own .u8 5 w' w.heap.size v' (rdB xs i m).1 ∧ Below w.heap.size w w' := by
  obtain ⟨i0, hi0, hz0, hz1, hz2⟩ := info_parts info_u8
  have R := Lib.hid r
  obtain ⟨A, c, rfl, hc1, hc2⟩ := r.form
  unfold maxLen at hc2
  unfold In64 at hm
  rcases uvR_cases xs i f with hu | ⟨q, t, hu, hi0', ht0, ht1, hq0, hq1, -⟩
  · rw [rdB_bad hu]
    have HU := Lib.hid hu
    clear hu
    go_enter Try.func26, Try.ntmps26
    go_wp2_with fail
    refine (implUr _ xs i _ _ _ r f hi).mono ?_
    rw [HU.out]
    rintro e w' ⟨rfl, rfl⟩
    go_wp2_with fail
    go_ret3
    exact ⟨_, rfl, Own.of_empty _ _ _ _ _, by first | exact Below.refl _ w | exact (Below.refl _ w).alloc (Nat.le_refl _) _⟩
  by_cases h1 : q ≤ m ∧ q ≤ xs.length - (i + t)
  rotate_left
  · rw [rdB_no hu h1]
    have HU := Lib.hid hu
    clear hu
    by_cases h2 : q ≤ m
    · have h3 : ¬ q ≤ xs.length - (i + t) := fun hh => h1 ⟨h2, hh⟩
      clear h1
      go_enter Try.func26, Try.ntmps26
      go_wp2_with fail
      refine (implUr _ xs i _ _ _ r f hi).mono ?_
      rw [HU.out]
      rintro e w' ⟨rfl, rfl⟩
      go_wp2_with fail
      go_ret3
      exact ⟨_, rfl, Own.of_empty _ _ _ _ _, by first | exact Below.refl _ w | exact (Below.refl _ w).alloc (Nat.le_refl _) _⟩
    · clear h1
      go_enter Try.func26, Try.ntmps26
      go_wp2_with fail
      refine (implUr _ xs i _ _ _ r f hi).mono ?_
      rw [HU.out]
      rintro e w' ⟨rfl, rfl⟩
      go_wp2_with fail
      go_ret3
      exact ⟨_, rfl, Own.of_empty _ _ _ _ _, by first | exact Below.refl _ w | exact (Below.refl _ w).alloc (Nat.le_refl _) _⟩
  obtain ⟨h2, h3⟩ := h1
  rw [rdB_ok hu h2 h3]
  have HU := Lib.hid hu
  clear hu
  obtain ⟨j, rfl⟩ := Int.eq_ofNat_of_zero_le hi0'
  obtain ⟨n, rfl⟩ := Int.eq_ofNat_of_zero_le hq0
  obtain ⟨b, off, rfl⟩ : ∃ b off, A = some ⟨b, off, none⟩ := by
    obtain ⟨A', c', e1, _, _, hr⟩ := r
    obtain ⟨b, off, hA, _⟩ := hr (by omega)
    simp at e1
    exact ⟨b, off, by rw [e1.1, hA]⟩
  have hA0 : ([] : List Int).length + ((xs.drop (j + t)).take n).length ≤ maxLen := by simp [maxLen]; omega
  have hB0 : (([] : List Int).length + ((xs.drop (j + t)).take n).length) * 1 ≤ 140737488355328 := by simp; omega
  have HL : Hid (((xs.drop ((j : Int) + t).toNat).take (n : Int).toNat) = (xs.drop (j + t)).take n) := by
    unfold Hid
    rw [show ((j : Int) + t).toNat = j + t by omega, Int.toNat_natCast]
  rw [HL.out]
  rcases Nat.eq_zero_or_pos n with rfl | hp
  · go_enter Try.func26, Try.ntmps26
    go_wp2_with fail
    refine (implUr _ xs j _ _ _ r f hi).mono ?_
    rw [HU.out]
    rintro e w' ⟨rfl, rfl⟩
    go_wp2_with fail
    all_goals
      refine (cloneByte _ [] _ 0 0 (Rd.nil_ _ _ _ _ _ _ (by unfold maxLen; omega)) (Nat.zero_le _) (by simp)).mono ?_
      rintro e w2 ⟨v2, rfl, o2, B2⟩
      go_wp2_with fail
      go_ret3
      exact ⟨_, by first | rfl | simp, by simpa using o2, B2⟩
  · have rs := r.sub (j + t) n (by omega)
    have hc3 : j + t < c := by omega
    go_enter Try.func26, Try.ntmps26
    go_wp2_with fail
    refine (implUr _ xs j _ _ _ r f hi).mono ?_
    rw [HU.out]
    rintro e w' ⟨rfl, rfl⟩
    go_wp2_with fail
    refine (cloneByte _ _ _ _ _ rs hh (by simp; omega)).mono ?_
    rintro e w2 ⟨v2, rfl, o2, B2⟩
    have O2 := Lib.hid o2
    clear o2 rs
    go_wp2_with fail
    go_ret3
    exact ⟨_, rfl, O2.out, B2⟩
end Go.Proofs.Ythidfmheeblfeaa
