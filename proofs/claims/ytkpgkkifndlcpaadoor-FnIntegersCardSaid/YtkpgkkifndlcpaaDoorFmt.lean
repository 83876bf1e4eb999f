/- FormatInt, of the program and of the reference. -/
import Derived.Test.YtkpgkkifndlcpaaDoorCore
import Derived.Test.YtkpgkkifndlcpaaDoorBase
import Derived.Test.YtkpgkkifndlcpaaDoorShelf
import Derived.Lib.ItoaNum
namespace Go.Proofs.YtkpgkkifndlcpaaDoor
open Go.RowKit
set_option linter.unusedVariables false

/-- The digits of a number, none for 0. -/
def dig0 (v : Nat) : List UInt8 := if v = 0 then [] else Lib.decDigits v
theorem dig0_step {v : Nat} (h : v ≠ 0) : dig0 v = dig0 (v / 10) ++ [UInt8.ofNat (48 + v % 10)] := by
  unfold dig0
  rw [if_neg h]
  by_cases h1 : v < 10
  · rw [if_pos (by omega), Lib.decDigits, dif_pos h1, show v % 10 = v by omega]; rfl
  · rw [if_neg (by omega), Lib.decDigits, dif_neg h1]
/-- A numeral as a string. -/
def strI (n : Int) : ByteArray := ⟨(Lib.itoa n).toArray⟩

theorem below_growN (w : World) (k : Nat) (os : Array Obj) : Below w.heap.size w (Sort.grow (w.drewN k) os) :=
  ⟨rfl, rfl, rfl, by simp [Sort.grow], fun j hj => by show ((w.drewN k).heap ++ os)[j]? = w.heap[j]?; exact Array.getElem?_append_left hj⟩
theorem conv_one (z : Int) (w : World) : (convert 25 9 (.slice (some ⟨w.heap.size, 0, none⟩) 1 1)).run Tryd.prog (w.alloc (.cells #[.int .u8 z] 5)) = .ok (.string ⟨#[UInt8.ofNat z.toNat]⟩) (w.alloc (.cells #[.int .u8 z] 5)) := by
  have h := run_convert_bytes_arg (P := Tryd.prog) (w.alloc (.cells #[.int .u8 z] 5)) 25 5 Tryd.underlying25 Tryd.underlying5 w.heap.size 0 1 1 [z] rfl (fun i hi => by
    obtain rfl : i = 0 := by omega
    exact (cell_of_row _ _ 0 _ 5 (0, 0) (heap_alloc_new w _)).trans rfl) 9 Tryd.underlying9
  exact h
theorem str_cons (b : UInt8) (l : List UInt8) : (⟨#[b]⟩ : ByteArray) ++ ⟨l.toArray⟩ = ⟨(b :: l).toArray⟩ := by
  apply ByteArray.ext
  simp

theorem nd_le (k u : Nat) (h : u < 10 ^ (k + 1)) : Lib.nDigits u ≤ k + 1 := by
  induction k generalizing u with
  | zero => rw [Lib.nDigits_small (by simpa using h)]; omega
  | succ k ih =>
    by_cases h1 : u < 10
    · rw [Lib.nDigits_small h1]; omega
    · rw [Lib.nDigits_big h1]
      have := ih (u / 10) (by rw [Nat.pow_succ] at h; omega)
      omega
theorem dec_len {n : Int} (h0 : -9223372036854775808 ≤ n) (h1 : n ≤ 9223372036854775807) : (Lib.decDigits n.natAbs).length ≤ 19 := by
  rw [Lib.decDigits_length]
  exact nd_le 18 _ (by have : (10 : Nat) ^ (18 + 1) = 10000000000000000000 := by decide
                       omega)
theorem strI_neg {n : Int} (h : n < 0) : strI n = ⟨(45 :: Lib.decDigits n.natAbs).toArray⟩ := by unfold strI; rw [Lib.itoa, if_pos h]
theorem strI_pos {n : Int} (h : ¬ n < 0) : strI n = ⟨(Lib.decDigits n.natAbs).toArray⟩ := by
  unfold strI
  rw [Lib.itoa, if_neg h, show n.toNat = n.natAbs by omega]

theorem implFmt (n : Int) (w : World) (hn : In64 n) (htab : Lib.TabIs Tryd.prog w "internal/strconv.uint64pow10" .u64 Lib.pow10Tab) :
    Calls Tryd.prog 11 #[.int .i64 n] w fun e w' => e = .returned (.string (strI n)) ∧ Below w.heap.size w w' := by
  unfold In64 at hn
  go_enter Tryd.func11, Tryd.ntmps11
  go_wp2_with fail
  refine (Tryd.strconv_Itoa n hn.1 hn.2 _ htab).mono ?_
  rintro e w1 ⟨rfl, k, os, rfl⟩
  go_wp2_with fail
  go_ret
  exact ⟨rfl, below_growN _ _ _⟩
set_option maxRecDepth 100000 in
theorem specFmt (n : Int) (w : World) (hn : In64 n) :
    Calls Tryd.prog 15 #[.int .i64 n] w fun e w' => e = .returned (.string (strI n)) ∧ Below w.heap.size w w' := by
  unfold In64 at hn
  obtain ⟨n0, n1⟩ := hn
  by_cases hz : n = 0
  · subst hz
    have HE : Hid (strI 0 = ⟨#[48]⟩) := by unfold Hid strI; rw [Lib.itoa, if_neg (by omega), Lib.decDigits, dif_pos (by decide)]; rfl
    go_enter Tryd.func15, Tryd.ntmps15
    go_wp2_with fail
    go_ret
    exact ⟨by rw [HE.out]; rfl, Below.refl _ _⟩
  have hz' : (n == 0) = false := by rw [beq_eq_false_iff_ne]; exact hz
  go_enter Tryd.func15, Tryd.ntmps15
  go_wp2_with fail
  go_loopw [3, 4] (fun s x wr => ∃ (y : Int) (l : List UInt8), x = .int .i64 y ∧ s = .string ⟨l.toArray⟩ ∧ (n < 0 → y ≤ 0) ∧ (0 < n → 0 ≤ y) ∧ y.natAbs ≤ n.natAbs ∧ dig0 y.natAbs ++ l = Lib.decDigits n.natAbs ∧ Below w.heap.size w wr) (fun _ x _ => (intOf x).natAbs)
  case atStart => exact ⟨n, [], rfl, rfl, by omega, by omega, Nat.le_refl _, by rw [List.append_nil, dig0, if_neg (by omega)], Below.refl _ _⟩
  case round =>
    obtain ⟨y, l, rfl, rfl, y0, y1, ya, hd, bel⟩ := hrel
    have hlen : l.length ≤ 19 := by
      have h1 := dec_len n0 n1
      rw [← hd, List.length_append] at h1
      omega
    have hlim : ¬ 9223372036854775807 < 1 + l.length := by omega
    have HD := Lib.hid hd
    have sz := bel.size
    clear hd
    by_cases hy : y = 0
    · subst hy
      have HL : Hid (l = Lib.decDigits n.natAbs) := by
        have h := HD.out
        unfold Hid
        simpa [dig0] using h
      by_cases hneg : n < 0
      · have HS := Lib.hid (strI_neg hneg)
        go_wp2_with fail
        go_ret
        exact ⟨by rw [HS.out, ← HL.out, ← str_cons]; rfl, bel⟩
      · have HS := Lib.hid (strI_pos hneg)
        go_wp2_with fail
        go_ret
        exact ⟨by rw [HS.out, ← HL.out]; rfl, bel⟩
    · have hy' : (y != 0) = true := by simp [hy]
      have HS := Lib.hid (dig0_step (v := y.natAbs) (by omega))
      have fin : ∀ (z q : Int), z = 48 + ((y.natAbs % 10 : Nat) : Int) → q.natAbs = y.natAbs / 10 → dig0 q.natAbs ++ (UInt8.ofNat z.toNat :: l) = Lib.decDigits n.natAbs := by
        intro z q hz hq
        rw [← HD.out, HS.out, hq, hz, show (48 + ((y.natAbs % 10 : Nat) : Int)).toNat = 48 + y.natAbs % 10 by omega, List.append_assoc]
        rfl
      have FIN := Lib.hid fin
      clear fin
      by_cases hneg : y < 0
      · obtain ⟨Y, rfl⟩ : ∃ Y : Nat, y = -(Y : Int) := ⟨y.natAbs, by omega⟩
        have eY : ((Y : Int)).tmod 10 = (Y : Int) % 10 := Int.tmod_eq_emod_of_nonneg (by omega)
        have eZ : ((Y : Int)).tdiv 10 = (Y : Int) / 10 := Int.tdiv_eq_ediv_of_nonneg (by omega)
        have e2 : (-(Y : Int)).tdiv 10 = -((Y : Int) / 10) := by rw [Int.neg_tdiv, eZ]
        by_cases hm : (Y : Int) % 10 = 0
        · have e1 : (-(Y : Int)).tmod 10 = 0 := by rw [Int.neg_tmod, eY, hm]; rfl
          have hc := conv_one 48 wr
          have B2 : Below w.heap.size w (wr.alloc (.cells #[.int .u8 48] 5)) := bel.alloc sz _
          have HF := Lib.hid (FIN.out 48 (-((Y : Int) / 10)) (by omega) (by omega))
          generalize UInt8.ofNat (48 : Int).toNat = bb at hc HF
          clear hm
          go_wp2_with fail
          exact ⟨⟨-((Y : Int) / 10), bb :: l, rfl, by rw [str_cons], by omega, by omega, by omega, HF.out, B2⟩, by simp [intOf]; omega⟩
        · have e1 : (-(Y : Int)).tmod 10 = -((Y : Int) % 10) := by rw [Int.neg_tmod, eY]
          have e3 : IntKind.u8.wrap (48 + (Y : Int) % 10) = 48 + (Y : Int) % 10 := IntWalk.u8_in _ (by omega)
          have hc := conv_one (48 + (Y : Int) % 10) wr
          have B2 : Below w.heap.size w (wr.alloc (.cells #[.int .u8 (48 + (Y : Int) % 10)] 5)) := bel.alloc sz _
          have HF := Lib.hid (FIN.out (48 + (Y : Int) % 10) (-((Y : Int) / 10)) (by omega) (by omega))
          generalize UInt8.ofNat (48 + (Y : Int) % 10).toNat = bb at hc HF
          have e4 : -((Y : Int) % 10) < 0 := by omega
          go_wp2_with fail
          exact ⟨⟨-((Y : Int) / 10), bb :: l, rfl, by rw [str_cons], by omega, by omega, by omega, HF.out, B2⟩, by simp [intOf]; omega⟩
      · have e1 : y.tmod 10 = y % 10 := Int.tmod_eq_emod_of_nonneg (by omega)
        have e2 : y.tdiv 10 = y / 10 := Int.tdiv_eq_ediv_of_nonneg (by omega)
        have e3 : IntKind.u8.wrap (48 + y % 10) = 48 + y % 10 := IntWalk.u8_in _ (by omega)
        have e4 : ¬ y % 10 < 0 := by omega
        have hc := conv_one (48 + y % 10) wr
        have B2 : Below w.heap.size w (wr.alloc (.cells #[.int .u8 (48 + y % 10)] 5)) := bel.alloc sz _
        go_wp2_with fail
        exact ⟨⟨y / 10, UInt8.ofNat (48 + y % 10).toNat :: l, rfl, by rw [str_cons], by omega, by omega, by omega, FIN.out _ _ (by omega) (by omega), B2⟩, by simp [intOf]; omega⟩
end Go.Proofs.YtkpgkkifndlcpaaDoor
