/- ParseInt, of the program and of the reference. -/
import Derived.Test.YtkpgkkifndlcpaaDoorFmt
import Derived.Lib.AppendIntMem
import Derived.Lib.AtoiErr
import Derived.Lib.AtoiBound
namespace Go.Proofs.YtkpgkkifndlcpaaDoor
open Go.RowKit
set_option linter.unusedVariables false

theorem decFrom_snoc : ∀ (l : List UInt8) (acc m : Nat) (b : UInt8) (d : Nat), Lib.decFrom acc l = some m → Lib.digitVal b = some d → Lib.decFrom acc (l ++ [b]) = some (m * 10 + d)
  | [], acc, m, b, d, h, hd => by
    simp only [Lib.decFrom, Option.some.injEq] at h
    subst h
    simp [Lib.decFrom, hd]
  | a :: t, acc, m, b, d, h, hd => by
    simp only [Lib.decFrom] at h
    cases ha : Lib.digitVal a with
    | none => simp [ha] at h
    | some e =>
      simp only [ha] at h
      simp only [List.cons_append, Lib.decFrom, ha]
      exact decFrom_snoc t _ m b d h hd
theorem digitVal_of (u : Nat) (h : u < 10) : Lib.digitVal (UInt8.ofNat (48 + u)) = some u := by
  have e : (UInt8.ofNat (48 + u)).toNat = 48 + u := by simp; omega
  unfold Lib.digitVal
  rw [e, if_pos (by omega)]
  simp
theorem dec_dec (u : Nat) : Lib.decFrom 0 (Lib.decDigits u) = some u := by
  induction u using Nat.strongRecOn with
  | _ u ih =>
    rw [Lib.decDigits]
    by_cases h : u < 10
    · rw [dif_pos h]
      show (match Lib.digitVal (UInt8.ofNat (48 + u)) with
        | some d => Lib.decFrom (0 * 10 + d) []
        | none => none) = some u
      rw [digitVal_of u h]
      simp [Lib.decFrom]
    · rw [dif_neg h, decFrom_snoc _ 0 (u / 10) _ (u % 10) (ih _ (by omega)) (digitVal_of _ (by omega))]
      congr 1
      omega
/-- The numeral of a natural number spells it. -/
theorem str_dec {m : Int} {s : ByteArray} (h0 : 0 ≤ m) (h : strI m = s) : Lib.decFrom 0 s.data.toList = some m.toNat := by
  subst h
  rw [strI_pos (by omega)]
  show Lib.decFrom 0 (Lib.decDigits m.natAbs) = _
  rw [dec_dec]
  congr 1
  omega
theorem str_len {m : Int} {s : ByteArray} (h0 : 0 ≤ m) (h1 : m ≤ 1000000000000) (h : strI m = s) : 1 ≤ s.size ∧ s.size ≤ 13 := by
  subst h
  rw [strI_pos (by omega)]
  have e : (ByteArray.mk (Lib.decDigits m.natAbs).toArray).size = (Lib.decDigits m.natAbs).length := by simp [ByteArray.size]
  rw [e, Lib.decDigits_length]
  refine ⟨?_, nd_le 12 _ (by have : (10 : Nat) ^ (12 + 1) = 10000000000000 := by decide
                             omega)⟩
  unfold Lib.nDigits
  split <;> omega
theorem atoi_of_dec {l : List UInt8} {n : Nat} (h0 : l ≠ []) (h : Lib.decFrom 0 l = some n) : Lib.atoi l = some (n : Int) := by
  cases l with
  | nil => exact absurd rfl h0
  | cons b r =>
    obtain ⟨d, hd⟩ := Lib.digit_of_decFrom _ _ _ h 0 b rfl
    have hb := Lib.digitVal_eq hd
    have n45 : (b == 45) = false := by
      rw [beq_eq_false_iff_ne]
      rintro rfl
      exact absurd hb.1 (by decide)
    have n43 : (b == 43) = false := by
      rw [beq_eq_false_iff_ne]
      rintro rfl
      exact absurd hb.1 (by decide)
    simp only [Lib.atoi, n45, n43, Bool.false_eq_true, if_false, Lib.decNat, List.isEmpty_cons, h, Option.map_some]

/-- What ParseInt answers. -/
def IsP (s : ByteArray) (n : Int) (b : Bool) : Prop := (b = true ∧ 0 ≤ n ∧ n ≤ 1000000000000 ∧ strI n = s) ∨ (b = false ∧ n = 0 ∧ ∀ m : Int, 0 ≤ m → m ≤ 1000000000000 → strI m ≠ s)
theorem strI_inj {m n : Int} {s : ByteArray} (m0 : 0 ≤ m) (n0 : 0 ≤ n) (hm : strI m = s) (hn : strI n = s) : m = n := by
  have h1 := str_dec m0 hm
  have h2 := str_dec n0 hn
  rw [h1] at h2
  have := Option.some.inj h2
  omega
theorem IsP.one {s : ByteArray} {n m : Int} {b c : Bool} (h : IsP s n b) (k : IsP s m c) : n = m ∧ b = c := by
  rcases h with ⟨rfl, n0, n1, hn⟩ | ⟨rfl, rfl, hn⟩ <;> rcases k with ⟨rfl, m0, m1, hm⟩ | ⟨rfl, rfl, hm⟩
  · exact ⟨strI_inj n0 m0 hn hm, rfl⟩
  · exact absurd hn (hm n n0 n1)
  · exact absurd hm (hn m m0 m1)
  · exact ⟨rfl, rfl⟩
theorem IsP.none {s : ByteArray} (h : ∀ m : Int, 0 ≤ m → m ≤ 1000000000000 → strI m ≠ s) : IsP s 0 false := Or.inr ⟨rfl, rfl, h⟩
/-- A string that spells n answers for n alone. -/
theorem IsP.not_spelt {s : ByteArray} {n : Nat} (hd : Lib.decFrom 0 s.data.toList = some n) (h : 1000000000000 < (n : Int) ∨ strI n ≠ s) : IsP s 0 false := IsP.none fun m m0 m1 hm => by
  have h2 := str_dec m0 hm
  rw [hd] at h2
  have := Option.some.inj h2
  rcases h with h | h
  · omega
  · exact h (by rw [this, show ((m.toNat : Nat) : Int) = m by omega]; exact hm)
theorem IsP.not_digit {s : ByteArray} {k : Nat} (hk : k < s.size) (h : s[k].toNat < 48 ∨ 57 < s[k].toNat) : IsP s 0 false := IsP.none fun m m0 m1 hm => by
  have h2 := str_dec m0 hm
  obtain ⟨d, hd⟩ := Lib.digit_of_decFrom _ _ _ h2 k s[k] (by
    have : s.data.toList[k]? = s.data[k]? := by simp
    rw [this, Array.getElem?_eq_getElem hk]
    rfl)
  have := Lib.digitVal_eq hd
  omega

/-- In a span. -/
def inB (n a b : Int) : Bool := decide (a ≤ n ∧ n ≤ b)
theorem inB_true {n a b : Int} (h : a ≤ n ∧ n ≤ b) : inB n a b = true := decide_eq_true h
theorem inB_false {n a b : Int} (h : ¬ (a ≤ n ∧ n ≤ b)) : inB n a b = false := decide_eq_false h
theorem l1In_any (n a b : Int) (w : World) : Calls Tryd.prog 16 #[.int .i64 n, .int .i64 a, .int .i64 b] w fun e w' => e = .returned (.bool (inB n a b)) ∧ w' = w := by
  by_cases h0 : a ≤ n
  · by_cases h1 : n ≤ b
    · go_enter Tryd.func16, Tryd.ntmps16
      go_wp2_with fail
      go_ret
      exact ⟨by rw [inB_true (by omega)]; rfl, rfl⟩
    · go_enter Tryd.func16, Tryd.ntmps16
      go_wp2_with fail
      go_ret
      exact ⟨by rw [inB_false (by omega)]; rfl, rfl⟩
  · go_enter Tryd.func16, Tryd.ntmps16
    go_wp2_with fail
    go_ret
    exact ⟨by rw [inB_false (by omega)]; rfl, rfl⟩
theorem inRange_any (n a b : Int) (w : World) : Calls Tryd.prog 18 #[.int .i64 n, .int .i64 a, .int .i64 b] w fun e w' => e = .returned (.bool (inB n a b)) ∧ w' = w := by
  by_cases h0 : a ≤ n
  · by_cases h1 : n ≤ b
    · go_enter Tryd.func18, Tryd.ntmps18
      go_wp2_with fail
      go_ret
      exact ⟨by rw [inB_true (by omega)]; rfl, rfl⟩
    · go_enter Tryd.func18, Tryd.ntmps18
      go_wp2_with fail
      go_ret
      exact ⟨by rw [inB_false (by omega)]; rfl, rfl⟩
  · go_enter Tryd.func18, Tryd.ntmps18
    go_wp2_with fail
    go_ret
    exact ⟨by rw [inB_false (by omega)]; rfl, rfl⟩

theorem take_whole (s : ByteArray) : s.data.toList.take s.size = s.data.toList := List.take_of_length_le (by rw [Array.length_toList]; exact Nat.le_refl _)
theorem specParse (s : ByteArray) (w : World) (hs : s.size ≤ 1048576) :
    Calls Tryd.prog 6 #[.string s] w fun e w' => ∃ n b, e = .returned (.tuple #[.int .i64 n, .bool b]) ∧ IsP s n b ∧ Below w.heap.size w w' := by
  by_cases hl : 1 ≤ s.size ∧ s.size ≤ 13
  · go_enter Tryd.func6, Tryd.ntmps6
    go_wp2_with fail
    refine (l1In_any _ _ _ _).mono ?_
    rintro e w1 ⟨rfl, e1⟩
    subst e1
    rw [inB_true (by omega)]
    go_wp2_with fail
    go_loopw [4, 5] (fun n i wr => ∃ (k m : Nat), i = .int .i64 k ∧ n = .int .i64 m ∧ k ≤ s.size ∧ Lib.decFrom 0 (s.data.toList.take k) = some m ∧ m < 10 ^ k ∧ wr = w1) (fun _ i _ => s.size - (intOf i).toNat)
    case atStart => exact ⟨0, 0, rfl, rfl, by omega, rfl, by decide, rfl⟩
    case round =>
      obtain ⟨k, m, rfl, rfl, hk, hd, hm, rfl⟩ := hrel
      by_cases hk1 : k < s.size
      · have hm12 : m < 1000000000000 := Nat.lt_of_lt_of_le hm (by
          have : (10 : Nat) ^ k ≤ 10 ^ 12 := Nat.pow_le_pow_right (by decide) (by omega)
          simpa using this)
        have HD := Lib.hid hd
        have HM := Lib.hid hm
        have hb256 : s[k].toNat < 256 := s[k].toNat_lt
        have ew : wrap64 (s[k].toNat : Int) = (s[k].toNat : Int) := IntWalk.wrap64_in _ (by omega)
        clear hd hm
        go_wp2_with fail
        refine (l1In_any _ _ _ _).mono ?_
        rintro e w2 ⟨rfl, rfl⟩
        by_cases hdig : s[k].toNat < 48 ∨ 57 < s[k].toNat
        · rw [inB_false (by omega)]
          go_wp2_with fail
          go_ret2
          exact ⟨0, false, rfl, IsP.not_digit hk1 hdig, Below.refl _ _⟩
        · have hdg : Lib.digitVal s[k] = some (s[k].toNat - 48) := by unfold Lib.digitVal; rw [if_pos (by omega)]
          have hget : s.data.toList[k]? = some s[k] := by
            have : s.data.toList[k]? = s.data[k]? := by simp
            rw [this, Array.getElem?_eq_getElem hk1]
            rfl
          have HT := Lib.hid (Lib.decFrom_take _ k 0 m s[k] _ HD.out hget hdg)
          have e1 : IntKind.u8.wrap ((s[k].toNat : Int) - 48) = (s[k].toNat : Int) - 48 := IntWalk.u8_in _ (by omega)
          have HP : Hid (m * 10 + (s[k].toNat - 48) < 10 ^ (k + 1)) := by
            have h1 := HM.out
            unfold Hid
            rw [Nat.pow_succ]
            omega
          have HE : Hid (10 * (m : Int) + ((s[k].toNat : Int) - 48) = ((m * 10 + (s[k].toNat - 48) : Nat) : Int)) := by
            unfold Hid
            omega
          clear hget hdg
          rw [inB_true (by omega)]
          go_wp2_with fail
          exact ⟨⟨k + 1, m * 10 + (s[k].toNat - 48), rfl, congrArg _ HE.out, by omega, HT.out, HP.out, trivial⟩, by simp [intOf]; omega⟩
      · obtain rfl : k = s.size := by omega
        have HD : Hid (Lib.decFrom 0 s.data.toList = some m) := by
          unfold Hid
          rwa [take_whole] at hd
        have hm13 : m < 10000000000000 := Nat.lt_of_lt_of_le hm (by
          have : (10 : Nat) ^ s.size ≤ 10 ^ 13 := Nat.pow_le_pow_right (by decide) hl.2
          simpa using this)
        clear hd hm
        by_cases hbig : 1000000000000 < (m : Int)
        · go_wp2_with fail
          go_ret2
          exact ⟨0, false, rfl, IsP.not_spelt HD.out (Or.inl hbig), Below.refl _ _⟩
        · go_wp2_with fail
          refine (specFmt m _ (by unfold In64; omega)).mono ?_
          rintro e w3 ⟨rfl, b3⟩
          by_cases hS : strI m = s
          · have HS := Lib.hid hS
            rw [hS]
            clear hS
            go_wp2_with fail
            go_ret2
            exact ⟨m, true, rfl, Or.inl ⟨rfl, by omega, by omega, HS.out⟩, b3⟩
          · have HS := Lib.hid (IsP.not_spelt HD.out (Or.inr hS))
            have e1 : ((strI m).toList == s.toList) = false := by
              rw [beq_eq_false_iff_ne]
              intro h
              exact hS (by apply ByteArray.ext; rw [ByteArray.toList_eq, ByteArray.toList_eq] at h; exact Array.toList_inj.1 h)
            clear hS
            generalize strI (m : Int) = S at e1
            go_wp2_with fail
            go_ret2
            exact ⟨0, false, rfl, HS.out, b3⟩
  · go_enter Tryd.func6, Tryd.ntmps6
    go_wp2_with fail
    refine (l1In_any _ _ _ _).mono ?_
    rintro e w1 ⟨rfl, e1⟩
    subst e1
    rw [inB_false (by omega)]
    go_wp2_with fail
    go_ret2
    exact ⟨0, false, rfl, IsP.none (fun m m0 m1 h => hl (str_len m0 m1 h)), Below.refl _ _⟩
theorem IsP.not_atoi {s : ByteArray} {n : Int} (hn : Lib.atoi s.data.toList = some n) (h : ¬ (0 ≤ n ∧ n ≤ 1000000000000) ∨ strI n ≠ s) : IsP s 0 false := IsP.none fun m m0 m1 hm => by
  have h1 := str_dec m0 hm
  have h2 := str_len m0 m1 hm
  have h3 := atoi_of_dec (fun h3 => by
    have h4 : s.data.toList.length = s.size := Array.length_toList
    rw [h3] at h4
    simp at h4
    omega) h1
  rw [hn] at h3
  have := Option.some.inj h3
  rcases h with h | h
  · omega
  · exact h (by rw [this, show ((m.toNat : Nat) : Int) = m by omega]; exact hm)
theorem implParse (s : ByteArray) (w : World) (hs : s.size ≤ 1048576) (htab : Lib.TabIs Tryd.prog w "internal/strconv.uint64pow10" .u64 Lib.pow10Tab) (tp : TypeId) (p : Value) (hvar : w.var? Tryd.prog "strconv.ErrSyntax" = some #[.iface tp p]) :
    Calls Tryd.prog 7 #[.string s] w fun e w' => ∃ n b, e = .returned (.tuple #[.int .i64 n, .bool b]) ∧ IsP s n b ∧ Below w.heap.size w w' := by
  have tb := Lib.tabBelow_of_tabIs htab
  by_cases hl : s.size ≤ 13
  · cases hn : Lib.atoi s.data.toList with
    | none =>
      go_enter Tryd.func7, Tryd.ntmps7
      go_wp2_with fail
      refine (Tryd.strconv_Atoi_err_var s (by omega) hn tp p _ hvar).mono ?_
      rintro e w1 ⟨N, rfl, _, _, b1⟩
      go_wp2_with fail
      go_ret2
      refine ⟨0, false, rfl, IsP.none (fun m m0 m1 h => ?_), b1⟩
      have h1 := str_dec m0 h
      have h2 := str_len m0 m1 h
      rw [atoi_of_dec (fun h3 => by
        have h4 : s.data.toList.length = s.size := Array.length_toList
        rw [h3] at h4
        simp at h4
        omega) h1] at hn
      cases hn
    | some n =>
      have hnb := Lib.atoi_bound hn (by rw [Array.length_toList]; exact Nat.le_trans hl (by decide))
      go_enter Tryd.func7, Tryd.ntmps7
      go_wp2_with fail
      refine (Tryd.strconv_Atoi s n (by omega) hn _).mono ?_
      rintro e w1 ⟨rfl, t, rfl⟩
      have b1 := Lib.bytesWorld_below w 5 t
      have s1 := b1.size
      have tw := tb _ b1
      generalize Lib.bytesWorld w 5 t = w1 at b1 s1 tw
      have HN := Lib.hid hn
      clear hn
      go_wp2_with fail
      refine (inRange_any _ _ _ _).mono ?_
      rintro e w2 ⟨rfl, rfl⟩
      by_cases hr : 0 ≤ n ∧ n ≤ 1000000000000
      · rw [inB_true hr]
        go_wp2_with fail
        refine (implFmt n _ (by unfold In64; omega) tw).mono ?_
        rintro e w3 ⟨rfl, b3⟩
        have B3 := b1.trans (b3.mono s1)
        by_cases hS : strI n = s
        · have HS := Lib.hid hS
          rw [hS]
          clear hS
          go_wp2_with fail
          go_ret2
          exact ⟨n, true, rfl, Or.inl ⟨rfl, hr.1, hr.2, HS.out⟩, B3⟩
        · have HS := Lib.hid (IsP.not_atoi HN.out (Or.inr hS))
          have e1 : ((strI n).toList == s.toList) = false := by
            rw [beq_eq_false_iff_ne]
            intro h
            exact hS (by apply ByteArray.ext; rw [ByteArray.toList_eq, ByteArray.toList_eq] at h; exact Array.toList_inj.1 h)
          clear hS
          generalize strI n = S at e1
          go_wp2_with fail
          go_ret2
          exact ⟨0, false, rfl, HS.out, B3⟩
      · rw [inB_false hr]
        go_wp2_with fail
        go_ret2
        exact ⟨0, false, rfl, IsP.not_atoi HN.out (Or.inl hr), b1⟩
  · go_enter Tryd.func7, Tryd.ntmps7
    go_wp2_with fail
    go_ret2
    exact ⟨0, false, rfl, IsP.none (fun m m0 m1 h => hl (str_len m0 m1 h).2), Below.refl _ _⟩
end Go.Proofs.YtkpgkkifndlcpaaDoor
