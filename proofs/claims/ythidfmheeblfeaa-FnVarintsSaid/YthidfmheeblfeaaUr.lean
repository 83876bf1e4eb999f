/- Varints that are read, of the program and of the reference: the walks. -/
import Derived.Test.YthidfmheeblfeaaUv
namespace Go.Proofs.Ythidfmheeblfeaa
open Go.RowKit
set_option linter.unusedVariables false

theorem or_low {n x : Int} (i : Nat) (n0 : 0 ≤ n) (n1 : n < 2 ^ i) (n2 : n < 2 ^ 62) (x0 : 0 ≤ x) (x1 : x < 2 ^ 62) (hx : x % 2 ^ i = 0) : bits .or .i64 n x = n + x := by
  have hc : bits .or .i64 n x = bits .or .i64 x n := by simp only [bits, BitVec.or_comm]
  rw [hc, bits_join .i64 62 (by decide) (fun n a b => by rw [IntKind.wrap_i64]; omega) i x n x0 hx x1 n0 n1 n2]
  omega
theorem pow7 {k : Nat} (h : k ≤ 5) : (1 : Int) ≤ 2 ^ (7 * k) ∧ (2 : Int) ^ (7 * k) ≤ 34359738368 := by
  rcases (show k = 0 ∨ k = 1 ∨ k = 2 ∨ k = 3 ∨ k = 4 ∨ k = 5 by omega) with rfl | rfl | rfl | rfl | rfl | rfl <;> decide
theorem pow7_succ (k : Nat) : (2 : Int) ^ (7 * (k + 1)) = 128 * 2 ^ (7 * k) := by rw [show 7 * (k + 1) = 7 * k + 7 by omega, Int.pow_add, Int.mul_comm]; rfl
/-- The next seven bits. -/
theorem step7 {n c : Int} {k : Nat} (hk : k ≤ 5) (n0 : 0 ≤ n) (n1 : n < 2 ^ (7 * k)) : 0 ≤ c % 128 * 2 ^ (7 * k) ∧ c % 128 * 2 ^ (7 * k) ≤ 4363686772736 ∧ bits .or .i64 n (c % 128 * 2 ^ (7 * k)) = n + c % 128 * 2 ^ (7 * k) ∧ n + c % 128 * 2 ^ (7 * k) < 2 ^ (7 * (k + 1)) := by
  obtain ⟨p1, p2⟩ := pow7 hk
  have a0 : 0 ≤ c % 128 * 2 ^ (7 * k) := Int.mul_nonneg (by omega) (by omega)
  have a1 : c % 128 * 2 ^ (7 * k) ≤ 127 * 34359738368 := Int.mul_le_mul (by omega) p2 (by omega) (by omega)
  have a2 : c % 128 * 2 ^ (7 * k) ≤ 127 * 2 ^ (7 * k) := Int.mul_le_mul_of_nonneg_right (by omega) (by omega)
  refine ⟨a0, by omega, or_low (7 * k) n0 n1 (by omega) a0 (by omega) (Int.mul_emod_left _ _), ?_⟩
  rw [pow7_succ]
  omega
theorem uvRd_nil (f k : Nat) (n : Int) : uvRd f k n [] = none := by cases f <;> rfl
theorem uvRd_zero (k : Nat) (n : Int) (cs : List Int) : uvRd 0 k n cs = none := by cases cs <;> rfl
theorem uvRd_end {f k : Nat} {n : Int} {xs : List Int} {j : Nat} (h : j < xs.length) (hc : xs[j] < 128) : uvRd (f + 1) k n (xs.drop j) = if (xs[j] = 0 ∧ 0 < k) ∨ 1000000000000 < n + xs[j] % 128 * 2 ^ (7 * k) then none else some (n + xs[j] % 128 * 2 ^ (7 * k), k + 1) := by
  rw [List.drop_eq_getElem_cons h, uvRd, if_pos hc]
theorem uvRd_more {f k : Nat} {n : Int} {xs : List Int} {j : Nat} (h : j < xs.length) (hc : ¬ xs[j] < 128) : uvRd (f + 1) k n (xs.drop j) = uvRd f (k + 1) (n + xs[j] % 128 * 2 ^ (7 * k)) (xs.drop (j + 1)) := by
  rw [List.drop_eq_getElem_cons h, uvRd, if_neg hc]
theorem uvR_neg {xs : List Int} {i : Int} (h : i < 0) : uvR xs i = (0, 0, false) := if_pos h
theorem uvR_none {xs : List Int} {i : Int} (h : ¬ i < 0) (e : uvRd 6 0 0 (xs.drop i.toNat) = none) : uvR xs i = (0, 0, false) := by rw [uvR, if_neg h, e]
theorem uvR_some {xs : List Int} {i : Int} {m : Int} {k : Nat} (h : ¬ i < 0) (e : uvRd 6 0 0 (xs.drop i.toNat) = some (m, k)) : uvR xs i = (m, i + k, true) := by rw [uvR, if_neg h, e]
theorem ret_iib {a b : Int} {c : Bool} {p : Int × Int × Bool} (h : p = (a, b, c)) : Ending.returned (.tuple #[.int .i64 a, .int .i64 b, .bool c]) = .returned (.tuple #[.int .i64 p.1, .int .i64 p.2.1, .bool p.2.2]) := by rw [h]

set_option maxRecDepth 100000 in
set_option maxHeartbeats 1000000 in
theorem specUr (v : Value) (xs : List Int) (i : Int) (w : World) (l h : Nat) (r : Rd .u8 w l h v xs) (f : Wf .u8 xs) (hi : In64 i) :
    Calls Try.prog 13 #[v, .int .i64 i] w fun e w' => e = .returned (.tuple #[.int .i64 (uvR xs i).1, .int .i64 (uvR xs i).2.1, .bool (uvR xs i).2.2]) ∧ w = w' := by
  obtain ⟨A, c, rfl, hc1, hc2, hr⟩ := r
  unfold maxLen at hc2
  unfold In64 at hi
  obtain ⟨hi0, hi1⟩ := hi
  by_cases hneg : i < 0
  · have HU := Lib.hid (uvR_neg (xs := xs) hneg)
    clear hr
    go_enter Try.func13, Try.ntmps13
    go_wp2
    refine wp_loop_rounds 1 ?_
    rw [rounds_succ]
    go_wp2
    go_ret3
    exact ⟨ret_iib HU.out, rfl⟩
  · obtain ⟨j, rfl⟩ := Int.eq_ofNat_of_zero_le (show 0 ≤ i by omega)
    go_enter Try.func13, Try.ntmps13
    go_wp2
    go_loop [7, 8] (fun q i => ∃ (k : Nat) (n : Int), k ≤ 6 ∧ i = .int .i64 k ∧ q = .int .i64 n ∧ 0 ≤ n ∧ n < 2 ^ (7 * k) ∧ uvRd (6 - k) k n (xs.drop (j + k)) = uvRd 6 0 0 (xs.drop j)) (fun _ i => 6 - (intOf i).toNat)
    case atStart => exact ⟨0, 0, by omega, rfl, rfl, by omega, by decide, by simp⟩
    case round =>
      obtain ⟨k, n, hk, rfl, rfl, n0, n1, he⟩ := hrel
      have HE := Lib.hid he
      have HN := Lib.hid n1
      clear he n1
      by_cases h6 : k < 6
      · by_cases hlt : j + k < xs.length
        · obtain ⟨b, off, rfl, _, _, hcell⟩ := hr (by omega)
          obtain ⟨x, hx⟩ : ∃ x, x = xs[j + k] := ⟨_, rfl⟩
          have d1 := hcell (j + k) x (by rw [hx]; simp [hlt])
          have hxb := bd8 (f _ (List.getElem_mem hlt))
          rw [← hx] at hxb
          obtain ⟨x0, x1⟩ := hxb
          obtain ⟨a0, a1, a2, a3⟩ := step7 (c := x) (show k ≤ 5 by omega) n0 HN.out
          have HX := Lib.hid hx
          have HA3 := Lib.hid a3
          have e1 := i64_and127 x
          have e2 : IntKind.i64.wrap (7 * (k : Int)) = 7 * k := IntWalk.i64_in _ (by omega)
          have e3 : (7 * (k : Int)).toNat = 7 * k := by omega
          have e4 : min (7 * k) 64 = 7 * k := by omega
          have e5 : IntKind.i64.wrap (x % 128 * 2 ^ (7 * k)) = x % 128 * 2 ^ (7 * k) := IntWalk.i64_in _ (by omega)
          have e6 : (0 : Int) ≤ 7 * (k : Int) := by omega
          have e7 : IntKind.i64.wrap ((j : Int) + k) = (j : Int) + k := IntWalk.i64_in _ (by omega)
          have e8 : ((j : Int) + k).toNat = j + k := by omega
          clear hcell hr hx a3
          by_cases hc : x < 128
          · have hend : Hid (uvRd 6 0 0 (xs.drop j) = if (x = 0 ∧ 0 < k) ∨ 1000000000000 < n + x % 128 * 2 ^ (7 * k) then none else some (n + x % 128 * 2 ^ (7 * k), k + 1)) := by
              have h1 := HE.out
              rw [show 6 - k = (5 - k) + 1 by omega, uvRd_end hlt (by rw [← HX.out]; exact hc), ← HX.out] at h1
              exact h1.symm
            by_cases hb : (x = 0 ∧ 0 < k) ∨ 1000000000000 < n + x % 128 * 2 ^ (7 * k)
            · have HU : Hid (uvR xs (j : Int) = (0, 0, false)) := uvR_none (by omega) (by rw [Int.toNat_natCast, hend.out, if_pos hb])
              by_cases hz : x = 0
              · by_cases hk0 : 0 < k
                · have hz1 : (x == 0) = true := by simpa using hz
                  clear hb hz
                  go_wp2
                  go_ret3
                  exact ⟨ret_iib HU.out, rfl⟩
                · have hz1 : (x == 0) = true := by simpa using hz
                  have hb' : 1000000000000 < n + x % 128 * 2 ^ (7 * k) := by omega
                  clear hb hz
                  go_wp2
                  go_ret3
                  exact ⟨ret_iib HU.out, rfl⟩
              · have hz1 : (x == 0) = false := by simpa using hz
                have hb' : 1000000000000 < n + x % 128 * 2 ^ (7 * k) := by omega
                clear hb hz
                go_wp2
                go_ret3
                exact ⟨ret_iib HU.out, rfl⟩
            · have HU : Hid (uvR xs (j : Int) = (n + x % 128 * 2 ^ (7 * k), (j : Int) + (k + 1 : Nat), true)) := uvR_some (by omega) (by rw [Int.toNat_natCast, hend.out, if_neg hb])
              have hb' : ¬ 1000000000000 < n + x % 128 * 2 ^ (7 * k) := fun hh => hb (.inr hh)
              by_cases hz : x = 0
              · have hk0 : ¬ 0 < k := fun hh => hb (.inl ⟨hz, hh⟩)
                have hz1 : (x == 0) = true := by simpa using hz
                clear hb hz
                go_wp2
                go_ret3
                exact ⟨ret_iib (by rw [HU.out]; first | done | congr 2), rfl⟩
              · have hz1 : (x == 0) = false := by simpa using hz
                clear hb hz
                go_wp2
                go_ret3
                exact ⟨ret_iib (by rw [HU.out]; first | done | congr 2), rfl⟩
          · have hmore : Hid (uvRd (6 - (k + 1)) (k + 1) (n + x % 128 * 2 ^ (7 * k)) (xs.drop (j + (k + 1))) = uvRd 6 0 0 (xs.drop j)) := by
              have h1 := HE.out
              rw [show 6 - k = (5 - k) + 1 by omega, uvRd_more hlt (by rw [← HX.out]; exact hc), ← HX.out] at h1
              rw [show 6 - (k + 1) = 5 - k by omega, show j + (k + 1) = j + k + 1 by omega]
              exact h1
            go_wp2
            go_round
            case rel => exact ⟨k + 1, _, by omega, by go_num, rfl, by omega, HA3.out, hmore.out⟩
            case measure => simp [intOf]; omega
        · have HU : Hid (uvR xs (j : Int) = (0, 0, false)) := uvR_none (by omega) (by
            have h1 := HE.out
            rw [List.drop_of_length_le (by omega), uvRd_nil] at h1
            rw [Int.toNat_natCast]
            exact h1.symm)
          clear hr
          go_wp2
          go_ret3
          exact ⟨ret_iib HU.out, rfl⟩
      · obtain rfl : k = 6 := by omega
        have HU : Hid (uvR xs (j : Int) = (0, 0, false)) := uvR_none (by omega) (by
          have h1 := HE.out
          rw [show 6 - 6 = 0 from rfl, uvRd_zero] at h1
          rw [Int.toNat_natCast]
          exact h1.symm)
        clear hr
        go_wp2
        go_ret3
        exact ⟨ret_iib HU.out, rfl⟩
set_option maxRecDepth 100000 in
set_option maxHeartbeats 1000000 in
theorem implUr (v : Value) (xs : List Int) (i : Int) (w : World) (l h : Nat) (r : Rd .u8 w l h v xs) (f : Wf .u8 xs) (hi : In64 i) :
    Calls Try.prog 15 #[v, .int .i64 i] w fun e w' => e = .returned (.tuple #[.int .i64 (uvR xs i).1, .int .i64 (uvR xs i).2.1, .bool (uvR xs i).2.2]) ∧ w = w' := by
  obtain ⟨A, c, rfl, hc1, hc2, hr⟩ := r
  unfold maxLen at hc2
  unfold In64 at hi
  obtain ⟨hi0, hi1⟩ := hi
  by_cases hneg : i < 0
  · have HU := Lib.hid (uvR_neg (xs := xs) hneg)
    clear hr
    go_enter Try.func15, Try.ntmps15
    go_wp2
    go_ret3
    exact ⟨ret_iib HU.out, rfl⟩
  · obtain ⟨j, rfl⟩ := Int.eq_ofNat_of_zero_le (show 0 ≤ i by omega)
    go_enter Try.func15, Try.ntmps15
    go_wp2
    go_loop [1, 7, 8] (fun o q i => ∃ (k : Nat) (n : Int), k ≤ 6 ∧ i = .int .i64 k ∧ o = .int .i64 ((j : Int) + k) ∧ q = .int .i64 n ∧ 0 ≤ n ∧ n < 2 ^ (7 * k) ∧ uvRd (6 - k) k n (xs.drop (j + k)) = uvRd 6 0 0 (xs.drop j)) (fun _ _ i => 6 - (intOf i).toNat)
    case atStart => exact ⟨0, 0, by omega, rfl, by simp, rfl, by omega, by decide, by simp⟩
    case round =>
      obtain ⟨k, n, hk, rfl, rfl, rfl, n0, n1, he⟩ := hrel
      have HE := Lib.hid he
      have HN := Lib.hid n1
      clear he n1
      by_cases h6 : k < 6
      · by_cases hlt : j + k < xs.length
        · obtain ⟨b, off, rfl, _, _, hcell⟩ := hr (by omega)
          obtain ⟨x, hx⟩ : ∃ x, x = xs[j + k] := ⟨_, rfl⟩
          have d1 := hcell (j + k) x (by rw [hx]; simp [hlt])
          have hxb := bd8 (f _ (List.getElem_mem hlt))
          rw [← hx] at hxb
          obtain ⟨x0, x1⟩ := hxb
          obtain ⟨a0, a1, a2, a3⟩ := step7 (c := x) (show k ≤ 5 by omega) n0 HN.out
          have HX := Lib.hid hx
          have HA3 := Lib.hid a3
          have e1 := i64_and127 x
          have e2 : IntKind.i64.wrap (7 * (k : Int)) = 7 * k := IntWalk.i64_in _ (by omega)
          have e3 : (7 * (k : Int)).toNat = 7 * k := by omega
          have e4 : min (7 * k) 64 = 7 * k := by omega
          have e5 : IntKind.i64.wrap (x % 128 * 2 ^ (7 * k)) = x % 128 * 2 ^ (7 * k) := IntWalk.i64_in _ (by omega)
          have e6 : (0 : Int) ≤ 7 * (k : Int) := by omega
          have e7 : IntKind.i64.wrap ((j : Int) + k) = (j : Int) + k := IntWalk.i64_in _ (by omega)
          have e8 : ((j : Int) + k).toNat = j + k := by omega
          clear hcell hr hx a3
          by_cases hc : x < 128
          · have hend : Hid (uvRd 6 0 0 (xs.drop j) = if (x = 0 ∧ 0 < k) ∨ 1000000000000 < n + x % 128 * 2 ^ (7 * k) then none else some (n + x % 128 * 2 ^ (7 * k), k + 1)) := by
              have h1 := HE.out
              rw [show 6 - k = (5 - k) + 1 by omega, uvRd_end hlt (by rw [← HX.out]; exact hc), ← HX.out] at h1
              exact h1.symm
            by_cases hb : (x = 0 ∧ 0 < k) ∨ 1000000000000 < n + x % 128 * 2 ^ (7 * k)
            · have HU : Hid (uvR xs (j : Int) = (0, 0, false)) := uvR_none (by omega) (by rw [Int.toNat_natCast, hend.out, if_pos hb])
              by_cases hz : x = 0
              · by_cases hk0 : 0 < k
                · have hz1 : (x == 0) = true := by simpa using hz
                  clear hb hz
                  go_wp2
                  go_ret3
                  exact ⟨ret_iib HU.out, rfl⟩
                · have hz1 : (x == 0) = true := by simpa using hz
                  have hb' : 1000000000000 < n + x % 128 * 2 ^ (7 * k) := by omega
                  clear hb hz
                  go_wp2
                  go_ret3
                  exact ⟨ret_iib HU.out, rfl⟩
              · have hz1 : (x == 0) = false := by simpa using hz
                have hb' : 1000000000000 < n + x % 128 * 2 ^ (7 * k) := by omega
                clear hb hz
                go_wp2
                go_ret3
                exact ⟨ret_iib HU.out, rfl⟩
            · have HU : Hid (uvR xs (j : Int) = (n + x % 128 * 2 ^ (7 * k), (j : Int) + (k + 1 : Nat), true)) := uvR_some (by omega) (by rw [Int.toNat_natCast, hend.out, if_neg hb])
              have hb' : ¬ 1000000000000 < n + x % 128 * 2 ^ (7 * k) := fun hh => hb (.inr hh)
              by_cases hz : x = 0
              · have hk0 : ¬ 0 < k := fun hh => hb (.inl ⟨hz, hh⟩)
                have hz1 : (x == 0) = true := by simpa using hz
                clear hb hz
                go_wp2
                go_ret3
                exact ⟨ret_iib (by rw [HU.out]; first | done | congr 2), rfl⟩
              · have hz1 : (x == 0) = false := by simpa using hz
                clear hb hz
                go_wp2
                go_ret3
                exact ⟨ret_iib (by rw [HU.out]; first | done | congr 2), rfl⟩
          · have hmore : Hid (uvRd (6 - (k + 1)) (k + 1) (n + x % 128 * 2 ^ (7 * k)) (xs.drop (j + (k + 1))) = uvRd 6 0 0 (xs.drop j)) := by
              have h1 := HE.out
              rw [show 6 - k = (5 - k) + 1 by omega, uvRd_more hlt (by rw [← HX.out]; exact hc), ← HX.out] at h1
              rw [show 6 - (k + 1) = 5 - k by omega, show j + (k + 1) = j + k + 1 by omega]
              exact h1
            go_wp2
            go_round
            case rel => exact ⟨k + 1, _, by omega, by go_num, by go_num, rfl, by omega, HA3.out, hmore.out⟩
            case measure => simp [intOf]; omega
        · have HU : Hid (uvR xs (j : Int) = (0, 0, false)) := uvR_none (by omega) (by
            have h1 := HE.out
            rw [List.drop_of_length_le (by omega), uvRd_nil] at h1
            rw [Int.toNat_natCast]
            exact h1.symm)
          clear hr
          go_wp2
          go_ret3
          exact ⟨ret_iib HU.out, rfl⟩
      · obtain rfl : k = 6 := by omega
        have HU : Hid (uvR xs (j : Int) = (0, 0, false)) := uvR_none (by omega) (by
          have h1 := HE.out
          rw [show 6 - 6 = 0 from rfl, uvRd_zero] at h1
          rw [Int.toNat_natCast]
          exact h1.symm)
        clear hr
        go_wp2
        go_ret3
        exact ⟨ret_iib HU.out, rfl⟩
end Go.Proofs.Ythidfmheeblfeaa
