/- The hash, the keyed hash and what the library's Concat gives, of the program and of the reference. -/
import Derived.Test.YtabfekfbdacboaaBase
import Derived.Test.YtabfekfbdacboaaMod
import Derived.Lib.AppendZerosOnto
import Derived.Lib.AppendZeros
namespace Go.Proofs.Ytabfekfbdacboaa
open Go.RowKit
set_option linter.unusedVariables false

/-- One step of the hash. -/
def hstep (h v : Int) : Int := (h * 1000003 + v % 2147483647 + 13) % 2147483647
/-- The hash. -/
def hashL (l : List Int) : Int := l.foldl hstep 11
/-- The keyed hash. -/
def keyed (key : Int) (l : List Int) : Int := hashL (key :: (l ++ [key]))

theorem hstep_bd (h v : Int) : 0 ≤ hstep h v ∧ hstep h v ≤ 2147483646 := by unfold hstep; omega
theorem hashL_bd (l : List Int) : 0 ≤ hashL l ∧ hashL l ≤ 2147483646 := by
  unfold hashL
  rcases List.eq_nil_or_concat l with rfl | ⟨l', x, rfl⟩
  · simp
  · rw [List.concat_eq_append, List.foldl_append]
    exact hstep_bd _ _
theorem hashL_take (l : List Int) (k : Nat) (h : k < l.length) : hashL (l.take (k + 1)) = hstep (hashL (l.take k)) l[k] := by
  rw [List.take_succ_eq_append_getElem h, hashL, List.foldl_append]
  rfl
theorem keyed_bd (key : Int) (l : List Int) : 0 ≤ keyed key l ∧ keyed key l ≤ 2147483646 := hashL_bd _

theorem wf_at {xs : List Int} (f : Wf .i64 xs) {k : Nat} (h : k < xs.length) : In64 xs[k] := bd64 (f _ (List.getElem_mem h))
theorem Wf.cons {k : IntKind} {x : Int} {xs : List Int} (h : (Lit.int k x).wf = true) (f : Wf k xs) : Wf k (x :: xs) := by
  intro n hn
  rcases List.mem_cons.1 hn with rfl | hn
  · exact h
  · exact f n hn
theorem Wf.app {k : IntKind} {xs ys : List Int} (f : Wf k xs) (g : Wf k ys) : Wf k (xs ++ ys) := by
  intro n hn
  rcases List.mem_append.1 hn with hn | hn
  · exact f n hn
  · exact g n hn
theorem Wf.nil {k : IntKind} : Wf k [] := fun _ h => by cases h
theorem wf64 {n : Int} (h : In64 n) : (Lit.int .i64 n).wf = true := WalkArith.wf_i64 h

theorem specHash (v : Value) (xs : List Int) (w : World) (l h : Nat) (r : Rd .i64 w l h v xs) (f : Wf .i64 xs) :
    Calls Try.prog 93 #[v] w fun e w' => e = .returned (.int .i64 (hashL xs)) ∧ w = w' := by
  obtain ⟨A, c, rfl, hc1, hc2, hr⟩ := r
  unfold maxLen at hc2
  go_enter Try.func93, Try.ntmps93
  go_wp2
  go_loop [3, 4] (fun c i => ∃ (k : Nat) (g : Int), k ≤ xs.length ∧ i = .int .i64 k ∧ c = .int .i64 g ∧ 0 ≤ g ∧ g ≤ 2147483646 ∧ hashL (xs.take k) = g) (fun _ i => xs.length - (intOf i).toNat)
  case atStart => exact ⟨0, 11, Nat.zero_le _, rfl, rfl, by omega, by omega, rfl⟩
  case round =>
    obtain ⟨k, g, hk, rfl, rfl, g0, g1, hg⟩ := hrel
    have HG := Lib.hid hg
    clear hg
    by_cases hlt : k < xs.length
    · obtain ⟨b, off, rfl, _, _, hcell⟩ := hr (by omega)
      have c1 := hcell k xs[k] (by simp [hlt])
      have HS := Lib.hid (hashL_take xs k hlt)
      have hv := Lib.hid (wf_at f hlt)
      have m0 : 0 ≤ xs[k] % 2147483647 := by omega
      have m1 : xs[k] % 2147483647 ≤ 2147483646 := by omega
      have HM := Lib.hid (modI_in xs[k] 2147483647 (by omega) (by omega))
      clear hcell hr
      go_wp2_with (go_at_call 37; refine (specMod xs[k] 2147483647 hv.out _).mono ?_; rw [HM.out]; rintro e w' ⟨rfl, rfl⟩)
      go_round
      case rel => exact ⟨k + 1, _, by omega, by go_num, rfl, by omega, by omega, by rw [HS.out, HG.out]; rfl⟩
      case measure => simp [intOf]; omega
    · clear hr
      go_wp2
      go_ret
      exact ⟨ret_int (by rw [← HG.out, List.take_of_length_le (by omega)]), rfl⟩
theorem implHash (v : Value) (xs : List Int) (w : World) (l h : Nat) (r : Rd .i64 w l h v xs) (f : Wf .i64 xs) :
    Calls Try.prog 95 #[v] w fun e w' => e = .returned (.int .i64 (hashL xs)) ∧ w = w' := by
  obtain ⟨A, c, rfl, hc1, hc2, hr⟩ := r
  unfold maxLen at hc2
  go_enter Try.func95, Try.ntmps95
  go_wp2
  go_loop [3, 5, 8] (fun c _ i => ∃ (k : Nat) (g : Int), k ≤ xs.length ∧ i = .int .i64 k ∧ c = .int .i64 g ∧ 0 ≤ g ∧ g ≤ 2147483646 ∧ hashL (xs.take k) = g) (fun _ _ i => xs.length - (intOf i).toNat)
  case atStart => exact ⟨0, 11, Nat.zero_le _, rfl, rfl, by omega, by omega, rfl⟩
  case round =>
    obtain ⟨k, g, hk, rfl, rfl, g0, g1, hg⟩ := hrel
    have HG := Lib.hid hg
    clear hg
    by_cases hlt : k < xs.length
    · obtain ⟨b, off, rfl, _, _, hcell⟩ := hr (by omega)
      have c1 := hcell k xs[k] (by simp [hlt])
      have HS := Lib.hid (hashL_take xs k hlt)
      have hv := Lib.hid (wf_at f hlt)
      have m0 : 0 ≤ xs[k] % 2147483647 := by omega
      have m1 : xs[k] % 2147483647 ≤ 2147483646 := by omega
      have HM := Lib.hid (modI_in xs[k] 2147483647 (by omega) (by omega))
      clear hcell hr
      go_wp2_with (go_at_call 80; refine (implMod xs[k] 2147483647 hv.out _).mono ?_; rw [HM.out]; rintro e w' ⟨rfl, rfl⟩)
      go_round
      case rel => exact ⟨k + 1, _, by omega, by go_num, rfl, by omega, by omega, by rw [HS.out, HG.out]; rfl⟩
      case measure => simp [intOf]; omega
    · clear hr
      go_wp2
      go_ret
      exact ⟨ret_int (by rw [← HG.out, List.take_of_length_le (by omega)]), rfl⟩
end Go.Proofs.Ytabfekfbdacboaa
