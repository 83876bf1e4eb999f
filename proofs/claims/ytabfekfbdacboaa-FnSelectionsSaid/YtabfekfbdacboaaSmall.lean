/- Contracts of small functions over byte and integer slices that only read. -/
import Derived.Test.YtabfekfbdacboaaBase
namespace Go.Proofs.Ytabfekfbdacboaa
open Go.RowKit
set_option linter.unusedVariables false

theorem slicesEqualu8 (v1 v2 : Value) (xs ys : List Int) (w : World) (l1 h1 l2 h2 : Nat) (r1 : Rd .u8 w l1 h1 v1 xs) (r2 : Rd .u8 w l2 h2 v2 ys) :
    Calls Try.prog 60 #[v1, v2] w fun e w' => e = .returned (.bool (decide (xs = ys))) ∧ ∃ n, w' = w.drewN n := by
  obtain ⟨A, c, rfl, hc1, hc2, hr⟩ := r1
  obtain ⟨B, d, rfl, hd1, hd2, hs⟩ := r2
  unfold maxLen at hc2 hd2
  by_cases hlen : xs.length = ys.length
  · have hne : ((xs.length : Int) != (ys.length : Int)) = false := by simp [hlen]
    have HL := Lib.hid hlen
    clear hlen
    go_enter Try.func60, Try.ntmps60
    go_wp2
    go_loopw [5, 13] (fun _ i wr => ∃ k n : Nat, k ≤ xs.length ∧ i = .int .i64 k ∧ xs.take k = ys.take k ∧ wr = w.drewN n) (fun _ i _ => xs.length - (intOf i).toNat)
    case atStart => exact ⟨0, 0, Nat.zero_le _, rfl, by simp, rfl⟩
    case round =>
      obtain ⟨k, n, hk, rfl, htk, rfl⟩ := hrel
      have HT := Lib.hid htk
      clear htk
      by_cases hlt : k < xs.length
      · obtain ⟨b, off, rfl, _, _, hcell⟩ := hr (by omega)
        obtain ⟨b2, off2, rfl, _, _, hcell2⟩ := hs (by have := HL.out; omega)
        have hlt2 : k < ys.length := by have := HL.out; omega
        have c1 := hcell k xs[k] (by simp [hlt])
        have c2 := hcell2 k ys[k] (by simp [hlt2])
        clear hcell hcell2 hr hs
        go_wp2
        go_quiet (fail)
        go_wp2
        · have he : (xs[k] != ys[k]) = true := by assumption
          go_ret
          exact ⟨ret_bool (ne_of_at hlt hlt2 he).symm, _, World.drewN_drewN _ _ _⟩
        · have he : (xs[k] != ys[k]) = false := by assumption
          exact ⟨⟨k + 1, _, by omega, by go_num, take_succ_eq HT.out hlt hlt2 he, rfl⟩, by simp [intOf]; omega⟩
      · clear hr hs
        go_wp2
        go_ret
        exact ⟨ret_bool (by rw [decide_eq_true (take_all_eq HT.out HL.out hlt)]), _, rfl⟩
  · have hne : ((xs.length : Int) != (ys.length : Int)) = true := by simp; omega
    have hf : decide (xs = ys) = false := by
      rw [decide_eq_false_iff_not]; rintro rfl; exact hlen rfl
    have HF := Lib.hid hf
    clear hf hlen hr hs
    go_enter Try.func60, Try.ntmps60
    go_wp2
    go_ret
    exact ⟨ret_bool HF.out.symm, 0, rfl⟩

theorem implEqualBytes (v1 v2 : Value) (xs ys : List Int) (w : World) (l1 h1 l2 h2 : Nat) (r1 : Rd .u8 w l1 h1 v1 xs) (r2 : Rd .u8 w l2 h2 v2 ys) :
    Calls Try.prog 88 #[v1, v2] w fun e w' => e = .returned (.bool (decide (xs = ys))) ∧ ∃ n, w' = w.drewN n := by
  go_enter Try.func88, Try.ntmps88
  go_wp2_with (go_at_call 60; refine (slicesEqualu8 _ _ xs ys _ _ _ _ _ r1 r2).mono ?_; rintro e w' ⟨rfl, n, rfl⟩)
  go_ret
  exact ⟨rfl, n, rfl⟩

theorem conv_bytes {P : Program} {w : World} (src e dst : TypeId) (hs : P.underlying src = some (.slice e)) (he : P.underlying e = some (.int .u8)) (hd : P.underlying dst = some .string) {l h : Nat} {v : Value} {xs : List Int} (r : Rd .u8 w l h v xs) :
    (convert src dst v).run P w = .ok (.string (strOfNums xs)) w := by
  obtain ⟨A, c, rfl, hc1, hc2, hr⟩ := r
  rcases Nat.eq_zero_or_pos xs.length with h0 | hp
  · obtain rfl : xs = [] := List.eq_nil_of_length_eq_zero h0
    rcases A with _ | a
    · rw [run_convert_bytes_nil w src e hs he _ _ dst hd]; rfl
    · have hl : (loadCells a 0).run P w = .ok (([] : List Int).map (Value.int .u8)).toArray w := by simp [loadCells, loadCellsFrom]
      rw [run_convert_bytes_string w src dst e _ _ c hs he hd]
      exact (run_bytesToString w a 0 c [] hl).trans rfl
  · obtain ⟨b, off, rfl, _, _, hcell⟩ := hr hp
    exact run_convert_bytes_arg w src e hs he b off xs.length c xs rfl (fun i hi => hcell i _ (by simp [hi])) dst hd
theorem strOfNums_inj {xs ys : List Int} (f1 : Wf .u8 xs) (f2 : Wf .u8 ys) (h : strOfNums xs = strOfNums ys) : xs = ys := by
  have e : (strOfNums xs).data.toList = (strOfNums ys).data.toList := by rw [h]
  rw [strOfNums_data, strOfNums_data] at e
  have hl : xs.length = ys.length := by simpa using congrArg List.length e
  apply List.ext_getElem hl
  intro i h1 h2
  have ei := congrArg (fun l => l[i]?) e
  simp [h1, h2] at ei
  have b1 := bd8 (f1 xs[i] (List.getElem_mem h1))
  have b2 := bd8 (f2 ys[i] (List.getElem_mem h2))
  have := congrArg UInt8.toNat ei
  simp at this
  omega

/-- How many ones. -/
def ones (xs : List Int) : Nat := (xs.filter (· == 1)).length
theorem ones_le (xs : List Int) : ones xs ≤ xs.length := List.length_filter_le _ _
theorem ones_snoc (xs : List Int) (x : Int) : ones (xs ++ [x]) = ones xs + if (x == 1) = true then 1 else 0 := by
  unfold ones
  rw [List.filter_append]
  by_cases h : (x == 1) = true <;> simp [h]
theorem ones_take (xs : List Int) (k : Nat) (h : k < xs.length) : ones (xs.take (k + 1)) = ones (xs.take k) + if (xs[k] == 1) = true then 1 else 0 := by
  rw [List.take_succ_eq_append_getElem h, ones_snoc]

theorem implCountSelected (v : Value) (xs : List Int) (w : World) (l h : Nat) (r : Rd .i64 w l h v xs) :
    Calls Try.prog 23 #[v] w fun e w' => e = .returned (.int .i64 (ones xs)) ∧ w = w' := by
  obtain ⟨A, c, rfl, hc1, hc2, hr⟩ := r
  unfold maxLen at hc2
  go_enter Try.func23, Try.ntmps23
  go_wp2
  go_loop [3, 5, 8] (fun c _ i => ∃ k : Nat, k ≤ xs.length ∧ i = .int .i64 k ∧ c = .int .i64 (ones (xs.take k))) (fun _ _ i => xs.length - (intOf i).toNat)
  case atStart => exact ⟨0, Nat.zero_le _, rfl, rfl⟩
  case round =>
    obtain ⟨k, hk, rfl, rfl⟩ := hrel
    have ho : ones (xs.take k) ≤ k := Nat.le_trans (ones_le _) (by rw [List.length_take]; omega)
    by_cases hlt : k < xs.length
    · obtain ⟨b, off, rfl, _, _, hcell⟩ := hr (by omega)
      have c1 := hcell k xs[k] (by simp [hlt])
      have HO := Lib.hid (ones_take xs k hlt)
      clear hcell hr
      by_cases h1 : (xs[k] == 1) = true
      all_goals
        go_wp2
        go_round
        case rel => exact ⟨k + 1, by omega, by go_num, by rw [HO.out]; first | (rw [if_pos h1]; go_num) | (rw [if_neg h1]; go_num)⟩
        case measure => simp [intOf]; omega
    · clear hr
      go_wp2
      go_ret
      exact ⟨ret_int (by rw [List.take_of_length_le (by omega)]), rfl⟩

/-- Is every number zero? -/
def zeros (xs : List Int) : Bool := xs.all (fun c => c == 0)
theorem zeros_no {xs : List Int} {k : Nat} (hk : k < xs.length) (h : (xs[k] != 0) = true) : zeros xs = false := by
  unfold zeros
  rw [List.all_eq_false]
  exact ⟨xs[k], List.getElem_mem hk, by simpa using h⟩
theorem zeros_take {xs : List Int} {k : Nat} (hk : k < xs.length) (h : (xs[k] != 0) = false) (hz : zeros (xs.take k) = true) : zeros (xs.take (k + 1)) = true := by
  unfold zeros at *
  rw [List.take_succ_eq_append_getElem hk, List.all_append, hz]
  simpa using h
theorem zeros_all {xs : List Int} {k : Nat} (hk : ¬ k < xs.length) (hz : zeros (xs.take k) = true) : zeros xs = true := by
  rwa [List.take_of_length_le (by omega)] at hz

theorem implIsZeroBytes (v : Value) (xs : List Int) (w : World) (l h : Nat) (r : Rd .u8 w l h v xs) :
    Calls Try.prog 26 #[v] w fun e w' => e = .returned (.bool (zeros xs)) ∧ ∃ n, w' = w.drewN n := by
  obtain ⟨A, c, rfl, hc1, hc2, hr⟩ := r
  unfold maxLen at hc2
  go_enter Try.func26, Try.ntmps26
  go_wp2
  go_loop [5, 8] (fun _ i => ∃ k : Nat, k ≤ xs.length ∧ i = .int .i64 k ∧ zeros (xs.take k) = true) (fun _ i => xs.length - (intOf i).toNat)
  case atStart => exact ⟨0, Nat.zero_le _, rfl, rfl⟩
  case round =>
    obtain ⟨k, hk, rfl, hz⟩ := hrel
    have HZ := Lib.hid hz
    clear hz
    by_cases hlt : k < xs.length
    · obtain ⟨b, off, rfl, _, _, hcell⟩ := hr (by omega)
      have c1 := hcell k xs[k] (by simp [hlt])
      clear hcell hr
      by_cases h1 : (xs[k] != 0) = true
      · have HF := Lib.hid (zeros_no hlt h1)
        go_wp2
        go_ret
        exact ⟨ret_bool HF.out.symm, 0, rfl⟩
      · have h2 : (xs[k] != 0) = false := by simpa using h1
        have HF := Lib.hid (zeros_take hlt h2 HZ.out)
        clear h1
        go_wp2
        go_round
        case rel => exact ⟨k + 1, by omega, by go_num, HF.out⟩
        case measure => simp [intOf]; omega
    · clear hr
      have HF := Lib.hid (zeros_all hlt HZ.out)
      go_wp2
      go_ret
      exact ⟨ret_bool HF.out.symm, 0, rfl⟩

theorem specEqualBytes (v1 v2 : Value) (xs ys : List Int) (w : World) (l1 h1 l2 h2 : Nat) (r1 : Rd .u8 w l1 h1 v1 xs) (r2 : Rd .u8 w l2 h2 v2 ys) (f1 : Wf .u8 xs) (f2 : Wf .u8 ys) :
    Calls Try.prog 68 #[v1, v2] w fun e w' => e = .returned (.bool (decide (xs = ys))) ∧ ∃ n, w' = w.drewN n := by
  have k1 := conv_bytes (P := Try.prog) (w := w) 22 5 9 Try.underlying22 Try.underlying5 Try.underlying9 r1
  have k2 := conv_bytes (P := Try.prog) (w := w) 22 5 9 Try.underlying22 Try.underlying5 Try.underlying9 r2
  obtain ⟨A, c, rfl, hc1, hc2, hr⟩ := r1
  obtain ⟨B, d, rfl, hd1, hd2, hs⟩ := r2
  clear hr hs
  go_enter Try.func68, Try.ntmps68
  go_wp2
  go_ret
  refine ⟨ret_bool ?_, 0, rfl⟩
  rw [ByteArray.toList_eq, ByteArray.toList_eq, Bool.eq_iff_iff, beq_iff_eq, decide_eq_true_iff]
  exact ⟨fun h => strOfNums_inj f1 f2 (Go.WideShapes.bytes_inj h), fun h => by rw [h]⟩
end Go.Proofs.Ytabfekfbdacboaa
