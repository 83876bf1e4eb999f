/- Zeros appended onto a slice of bytes of the call's own; PadTo, of the program and of the reference. -/
import Derived.Test.YtabfekfbdacboaaConcat
import Derived.Test.YtabfekfbdacboaaRange
import Derived.Lib.AppendZerosOnto
namespace Go.Proofs.Ytabfekfbdacboaa
open Go.RowKit
set_option linter.unusedVariables false

theorem zeroCells_u8 (k : Nat) : (Builtin.zeroCells (Value.int .u8 0).cells k).toList = List.replicate k (Value.int .u8 0) := by
  apply List.ext_getElem
  · simp [Builtin.zeroCells, Value.cells]
  · intro i h1 h2
    simp [Builtin.zeroCells, Value.cells, Nat.mod_one]
section
variable {P : Program} (w : World)
theorem run_append_room_zeros (t tn ty e : TypeId) (i : TypeInfo) (kn : IntKind) (ht : P.underlying t = some (.slice e)) (htn : P.underlying tn = some (.int kn)) (hi : P.info? e = some i) (hz : i.zero = some (.int .u8 0)) (hs1 : i.size = 1) (hby : i.bytes = 1)
    (g sLen sCap : Nat) (cur : Array Value) (hg : w.heap[g]? = some (.cells cur e (0, 0))) (k : Nat) (h0 : 0 < k) (h48 : k ≤ 1073741824)
    (hroom : sLen + k ≤ sCap) (hfit : sLen + k ≤ cur.size) :
    (Builtin.append_ #[t, tn] ty #[.slice (some ⟨g, 0, none⟩) sLen sCap, .int .i64 k]).run P w =
      .ok (.slice (some ⟨g, 0, none⟩) (sLen + k) sCap) (w.setRow g (cur.toList.take sLen ++ List.replicate k (Value.int .u8 0) ++ cur.toList.drop (sLen + k)).toArray) := by
  have hk : k ≠ 0 := by omega
  have hw : IntKind.i64.wrap (k : Int) = k := by rw [IntKind.wrap_i64]; omega
  have hneg : ¬ ((k : Int) < 0) := by omega
  have h48i : ¬ (281474976710656 < (k : Int)) := by omega
  have hst := run_storeCells_at P g sLen e (List.replicate k (Value.int .u8 0)) 0 cur w hg (by simpa using hfit) (fun u hu => by rw [List.eq_of_mem_replicate hu]; rfl)
  simp only [Nat.add_zero, List.length_replicate] at hst
  simp [Builtin.append_, run_underlying ht, run_underlying htn, sizeOf, typeInfo, zeroValue, hi, hz, hs1, hby, asInt, asIntOf, hw, hneg, h48i, hk, hroom, Addr.add_lit, zeroCells_u8, hst]

/-- append of zeros onto a slice of bytes of the call's own. -/
theorem run_append_OwnZ (lo : Nat) (t tn ty e : TypeId) (i : TypeInfo) (kn : IntKind) (ht : P.underlying t = some (.slice e)) (htn : P.underlying tn = some (.int kn)) (hi : P.info? e = some i) (hz : i.zero = some (.int .u8 0))
    (hsize : i.size = 1) (hby : i.bytes = 1) (v : Value) (xs : List Int) (hO : Own .u8 e w lo v xs) (k : Nat) (h0 : 0 < k) (h63 : xs.length + k ≤ 1073741824) (hbase : lo ≤ w.heap.size) :
    ∃ v' w', (Builtin.append_ #[t, tn] ty #[v, .int .i64 k]).run P w = .ok v' w' ∧ Own .u8 e w' lo v' (xs ++ List.replicate k (0 : Int)) ∧ Wrote w w' lo v := by
  have hmap : xs.map (Value.int .u8) ++ List.replicate k (Value.int .u8 0) = (xs ++ List.replicate k (0 : Int)).map (Value.int .u8) := by simp
  have hlen : (xs.map (Value.int .u8) ++ List.replicate k (Value.int .u8 0)).length = (xs.length + k) * 1 := by simp
  have hM : xs.length + k ≤ maxLen := by unfold maxLen; omega
  have grown : ∀ (old : Nat) (base : Option Addr), old < xs.length + k →
      (Builtin.firstCells i.size xs.length (.slice base xs.length old)).run P w.drew = .ok (xs.map (Value.int .u8)).toArray w.drew →
      ∃ v' w', (Builtin.append_ #[t, tn] ty #[.slice base xs.length old, .int .i64 k]).run P w = .ok v' w' ∧ Own .u8 e w' lo v' (xs ++ List.replicate k (0 : Int)) ∧ w.grownBy w' none := by
    intro old base ho hold
    have hr := Lib.run_append_grow_zeros (P := P) w t tn ty e i (.int .u8 0) .i64 kn ht htn hi hz base xs.length old (xs.map (Value.int .u8)) hold k h0 (by omega) ho (by omega) (by rw [hby]; omega) (by rw [hby]; exact growslice_fits (by omega) (by omega))
    refine ⟨_, _, hr, .inl ?_, ⟨rfl, rfl, rfl, by simp, fun j hj _ => heap_alloc_old w.drew _ hj⟩⟩
    have hge := grownCap_ge w (xs.length + k) old e
    have hcm : grownCap w (xs.length + k) old e ≤ maxLen := grownCap_le_maxLen w (xs.length + k) old e hM
    have hL : (xs ++ List.replicate k (0 : Int)).length = xs.length + k := by simp
    rw [hL, ← hmap]
    refine ⟨hlen, .inr ⟨w.heap.size, _, _, rfl, hbase, heap_alloc_new w.drew _, hge, hcm, ?_, ?_⟩⟩
    · have hz1 : (Value.int IntKind.u8 0).cells.size = 1 := rfl
      simp only [Array.size_append, List.size_toArray, size_zeroCells, hz1, List.length_map]
      omega
    · simp only [Array.toList_append, zeroCells_u8]
      rw [← hlen]
      exact List.take_left
  rcases hO with hO | ⟨rfl, A, rfl⟩
  · rcases hO.2 with ⟨rfl, hn⟩ | ⟨g, cap, cur, rfl, hbg, hg, hnc, hcm, hcs, htake⟩
    · obtain rfl : xs = [] := List.eq_nil_of_length_eq_zero hn
      obtain ⟨v', w', h1, h2, h3⟩ := grown 0 none (by simp; omega) (run_firstCells_none w.drew i.size 0 0 0)
      exact ⟨v', w', h1, h2, none, h3, fun g hg => by cases hg⟩
    · by_cases hroom : xs.length + k ≤ cap
      · have hcs' : cur.size = cap := by simpa using hcs
        have hr := run_append_room_zeros (P := P) w t tn ty e i kn ht htn hi hz hsize hby g xs.length cap cur hg k h0 (by omega) hroom (by omega)
        refine ⟨_, _, hr, .inl ?_, some g, ⟨rfl, rfl, rfl, by simp, fun k _ hk => setRow_other w g k _ (fun e => hk (by simp [e]))⟩, fun g' hg' => ?_⟩
        · have hL : (xs ++ List.replicate k (0 : Int)).length = xs.length + k := by simp
          rw [hL, ← hmap]
          refine ⟨hlen, .inr ⟨g, cap, _, rfl, hbg, setRow_heap w g cur _ e _ hg, hroom, hcm, ?_, ?_⟩⟩
          · simp only [List.size_toArray, List.length_append, List.length_take, List.length_drop, Array.length_toList, List.length_replicate]
            omega
          · have ht' : cur.toList.take xs.length = xs.map (.int .u8) := by simpa using htake
            rw [ht', ← hlen]
            exact List.take_left
        · cases hg'
          have := hO.lt g rfl
          exact ⟨this.1, this.2, rfl⟩
      · have holds : ∀ j u, (xs.map (Value.int .u8))[j]? = some u → w.cell? ((⟨g, 0, none⟩ : Addr).add j) = some u := hO.cells (g := g) rfl
        obtain ⟨v', w', h1, h2, h3⟩ := grown cap (some ⟨g, 0, none⟩) (by omega) (run_firstCells_some (P := P) w.drew i.size xs.length ⟨g, 0, none⟩ xs.length cap (xs.map (.int .u8)) (by rw [hsize]; simp) (by simpa using holds))
        exact ⟨v', w', h1, h2, none, h3, fun g hg => by cases hg⟩
  · rcases A with _ | a
    · obtain ⟨v', w', h1, h2, h3⟩ := grown 0 none (by simp; omega) (run_firstCells_none w.drew i.size 0 0 0)
      exact ⟨v', w', h1, h2, none, h3, fun g hg => by cases hg⟩
    · obtain ⟨v', w', h1, h2, h3⟩ := grown 0 (some a) (by simp; omega) (run_firstCells_some (P := P) w.drew i.size 0 a 0 0 [] (by simp) (fun j u hu => by simp at hu))
      exact ⟨v', w', h1, h2, none, h3, fun g hg => by cases hg⟩

/-- The same for the walk. -/
theorem wpList_append_OwnZ {ops : Array Oper} {rest : List Oper} {o : Oper} {a : Act} {Q : Exit → Act → World → Prop} (hgd : o.guard = none) (s x : Operand) (t tn : TypeId)
    (ho : o.op = .call { callee := .builtin .append, args := #[s, x], argTypes := #[t, tn] })
    (lo : Nat) (e : TypeId) (i : TypeInfo) (kn : IntKind) (ht : P.underlying t = some (.slice e)) (htn : P.underlying tn = some (.int kn)) (hi : P.info? e = some i) (hz : i.zero = some (.int .u8 0))
    (hsize : i.size = 1) (hby : i.bytes = 1)
    (v : Value) (xs : List Int) (hs : a.eval s = v) (hO : Own .u8 e w lo v xs) (k : Nat) (hxv : a.eval x = .int .i64 k) (h0 : 0 < k)
    (h63 : xs.length + k ≤ 1073741824) (hbase : lo ≤ w.heap.size)
    (hK : ∀ v' w', Own .u8 e w' lo v' (xs ++ List.replicate k (0 : Int)) → Wrote w w' lo v → wpList P ops Q rest (a.put o.dst v') w') : wpList P ops Q (o :: rest) a w := by
  refine wpList_plain hgd fun K hK' => ?_
  obtain ⟨v', w', hr, h2, h3⟩ := run_append_OwnZ (P := P) w lo t tn o.type e i kn ht htn hi hz hsize hby v xs hO k h0 h63 hbase
  unfold Oper.wp execOp
  simp only [ho, resolve, invoke, builtin, Sem.run_bind, Sem.run_pure, Result.andThen_ok, List.map_toArray, List.map_cons, List.map_nil, hs, hxv, hr]
  exact hK' _ _ (hK v' w' h2 h3)
end

/-- What PadTo gives. -/
def padL (xs : List Int) (n : Int) : List Int := if n ≤ 400 then xs ++ List.replicate (n.toNat - xs.length) 0 else xs
theorem padL_big {xs : List Int} {n : Int} (h : ¬ n ≤ 400) : padL xs n = xs := if_neg h
theorem padL_full {xs : List Int} {n : Int} (h : n ≤ xs.length) : padL xs n = xs := by
  unfold padL
  split
  · rw [show n.toNat - xs.length = 0 by omega]; simp
  · rfl
theorem padL_yes {xs : List Int} {n k : Nat} (h : xs.length + k = n) (h4 : n ≤ 400) : padL xs n = xs ++ List.replicate k 0 := by
  unfold padL
  rw [if_pos (by omega), Int.toNat_natCast, show n - xs.length = k by omega]
theorem padL_wf {xs : List Int} {n : Int} (f : Wf .u8 xs) : Wf .u8 (padL xs n) := by
  unfold padL
  split
  · intro u hu
    rcases List.mem_append.1 hu with hu | hu
    · exact f u hu
    · rw [List.eq_of_mem_replicate hu]; decide
  · exact f
theorem padL_length (xs : List Int) (n : Int) : (padL xs n).length ≤ xs.length + 400 ∧ (n ≤ 400 → (padL xs n).length = max xs.length n.toNat) := by
  unfold padL
  split <;> simp <;> omega

set_option maxRecDepth 100000 in
theorem specPad (v : Value) (xs : List Int) (n : Int) (w : World) (l h : Nat) (r : Rd .u8 w l h v xs) (hh : h ≤ w.heap.size) (hl : xs.length ≤ 16777216) (hn : In64 n) :
    Calls Try.prog 28 #[v, .int .i64 n] w fun e w' => ∃ v', e = .returned v' ∧ Own .u8 5 w' w.heap.size v' (padL xs n) ∧ Below w.heap.size w w' := by
  obtain ⟨i0, hi, hz0, hz1, hz2⟩ := info_parts info_u8
  obtain ⟨A, c, rfl, hc1, hc2⟩ := r.form
  unfold maxLen at hc2
  unfold In64 at hn
  go_enter Try.func28, Try.ntmps28
  go_wp2_with (at_builtin; refine wpList_append_Own _ rfl (.tmp 6) (.tmp 7) 22 rfl w.heap.size 5 i0 (.int .u8 0) .u8 1 Try.underlying22 hi hz0 hz1 hz2 rfl _ [] rfl (Own.lit0 _ _ _ _ _) _ l h xs rfl (r.alloc hh _) ?_ ?_ ?_ ?_)
  · simp [maxLen]; omega
  · simp; omega
  · simp
  · intro v1 w1 hO1 hW1
    have b1 : Below w.heap.size w w1 := hW1.below ((Below.refl _ w).alloc (Nat.le_refl _) _) (Nat.le_refl _) (by simp)
    have O1 := Lib.hid hO1
    clear hO1 hW1 r
    go_wp2_with fail
    go_loopw [5] (fun o wr => ∃ k : Nat, (0 < k → xs.length + k ≤ n ∧ n ≤ 400) ∧ Own .u8 5 wr w.heap.size o (xs ++ List.replicate k 0) ∧ Below w.heap.size w wr) (fun o _ => (n - (match o with | .slice _ m _ => (m : Int) | _ => 0)).toNat)
    case atStart => exact ⟨0, by omega, by simpa using O1.out, b1⟩
    case round =>
      obtain ⟨k, hk, own, bel⟩ := hrel
      have sz := bel.size
      clear b1
      have hL : (xs ++ List.replicate k (0 : Int)).length = xs.length + k := by simp
      obtain ⟨B, d, rfl, hd1, hd2⟩ := own.rd.form
      unfold maxLen at hd2
      rw [hL] at own hd1 ⊢
      have OWN := Lib.hid own
      clear own hL
      by_cases hn4 : n ≤ 400
      · by_cases hlt : ((xs.length + k : Nat) : Int) < n
        · have hlt' : (xs.length : Int) + (k : Int) < n := by omega
          have hA : (xs ++ List.replicate k (0 : Int)).length + [(0 : Int)].length ≤ maxLen := by simp [maxLen]; omega
          have hB : ((xs ++ List.replicate k (0 : Int)).length + [(0 : Int)].length) * 1 ≤ 140737488355328 := by simp; omega
          go_wp2_with (at_builtin; refine wpList_append_Own _ rfl (.tmp 17) (.tmp 18) 22 rfl w.heap.size 5 i0 (.int .u8 0) .u8 1 Try.underlying22 hi hz0 hz1 hz2 rfl _ (xs ++ List.replicate k 0) rfl (OWN.out.alloc _) _ _ _ [0] rfl (Own.lit1 .u8 5 _ 0 0 (Nat.zero_le _)).rd hA hB ?_ ?_)
          · simp; omega
          · intro v2 w2 hO2 hW2
            have b2 : Below w.heap.size w w2 := hW2.below (bel.alloc sz _) (Nat.le_refl _) (by simp; omega)
            have e2 : xs ++ (List.replicate k (0 : Int) ++ [0]) = xs ++ List.replicate (k + 1) 0 := by rw [← List.replicate_succ']
            have e3 : (xs ++ List.replicate (k + 1) (0 : Int)).length = xs.length + (k + 1) := by simp
            rw [e2] at hO2
            obtain ⟨B2, d2, rfl, _, _⟩ := hO2.rd.form
            rw [e3] at hO2 ⊢
            have O2 := Lib.hid hO2
            clear hO2 hW2 e2 e3
            go_wp2_with fail
            exact ⟨⟨k + 1, by omega, O2.out, b2⟩, by simp; omega⟩
        · have hge : ¬ (xs.length : Int) + (k : Int) < n := by omega
          have hP : padL xs n = xs ++ List.replicate k 0 := by
            rcases Nat.eq_zero_or_pos k with rfl | hp
            · rw [padL_full (by omega)]; simp
            · have := hk hp
              obtain ⟨m, rfl⟩ := Int.eq_ofNat_of_zero_le (show 0 ≤ n by omega)
              exact padL_yes (by omega) (by omega)
          have HP := Lib.hid hP
          clear hP
          go_wp2_with fail
          go_ret
          exact ⟨_, rfl, by rw [HP.out]; exact OWN.out, bel⟩
      · have hk0 : k = 0 := by
          rcases Nat.eq_zero_or_pos k with h0 | hp
          · exact h0
          · have := hk hp; omega
        subst hk0
        have hP : padL xs n = xs ++ List.replicate 0 0 := by rw [padL_big hn4]; simp
        have HP := Lib.hid hP
        clear hP hk
        by_cases hlt : ((xs.length + 0 : Nat) : Int) < n
        · have hlt' : (xs.length : Int) < n := by omega
          go_wp2_with fail
          go_ret
          exact ⟨_, rfl, by rw [HP.out]; exact OWN.out, bel⟩
        · have hlt' : ¬ (xs.length : Int) < n := by omega
          go_wp2_with fail
          go_ret
          exact ⟨_, rfl, by rw [HP.out]; exact OWN.out, bel⟩
set_option maxRecDepth 100000 in
theorem implPad (v : Value) (xs : List Int) (n : Int) (w : World) (l h : Nat) (r : Rd .u8 w l h v xs) (hh : h ≤ w.heap.size) (hl : xs.length ≤ 16777216) (hn : In64 n) :
    Calls Try.prog 30 #[v, .int .i64 n] w fun e w' => ∃ v', e = .returned v' ∧ Own .u8 5 w' w.heap.size v' (padL xs n) ∧ Below w.heap.size w w' := by
  obtain ⟨i0, hi, hz0, hz1, hz2⟩ := info_parts info_u8
  have hn64 := Lib.hid hn
  unfold In64 at hn
  go_enter Try.func30, Try.ntmps30
  go_wp2_with fail
  refine (cloneByte _ xs _ _ _ r hh (by omega)).mono ?_
  rintro e w1 ⟨v1, rfl, o1, b1⟩
  have O1 := Lib.hid o1
  clear o1 r
  obtain ⟨B, d, rfl, hd1, hd2⟩ := O1.out.rd.form
  unfold maxLen at hd2
  have sz := b1.size
  by_cases hr : 0 ≤ n ∧ n ≤ 400
  rotate_left
  · have hP : padL xs n = xs := by
      by_cases h4 : n ≤ 400
      · exact padL_full (by omega)
      · exact padL_big h4
    have HP := Lib.hid hP
    clear hP
    go_wp2_with (go_at_call 75; refine (inRange_no _ _ _ _ hr).mono ?_; rintro e w' ⟨rfl, rfl⟩)
    go_ret
    exact ⟨_, rfl, by rw [HP.out]; exact O1.out, b1⟩
  · obtain ⟨m, rfl⟩ := Int.eq_ofNat_of_zero_le hr.1
    obtain ⟨r0, r1⟩ := hr
    by_cases hlt : xs.length < m
    · obtain ⟨k, hk⟩ : ∃ k, xs.length + k = m := ⟨m - xs.length, by omega⟩
      have HP := Lib.hid (padL_yes hk (by omega))
      have hkI : (m : Int) - (xs.length : Int) = (k : Int) := by omega
      have HK := Lib.hid hkI
      have hk0 : 0 < k := by omega
      have hk4 : k ≤ 400 := by omega
      clear hk hkI
      go_wp2_with (first | (go_at_call 75; refine (inRange_yes _ _ _ _ r0 r1).mono ?_; rintro e w' ⟨rfl, rfl⟩) | (at_builtin; rw [HK.out]; refine wpList_append_OwnZ _ rfl (.tmp 16) (.tmp 20) 22 3 rfl w.heap.size 5 i0 .i64 Try.underlying22 Try.underlying3 hi hz0 hz1 hz2 _ xs rfl O1.out k rfl hk0 (by omega) sz ?_))
      intro v2 w2 hO2 hW2
      have b2 : Below w.heap.size w w2 := hW2.below b1 (Nat.le_refl _) sz
      have O2 := Lib.hid hO2
      clear hO2 hW2
      go_wp2_with fail
      go_ret
      exact ⟨_, rfl, by rw [HP.out]; exact O2.out, b2⟩
    · have HP := Lib.hid (padL_full (xs := xs) (n := m) (by omega))
      have hge : ¬ (xs.length : Int) < (m : Int) := by omega
      go_wp2_with (go_at_call 75; refine (inRange_yes _ _ _ _ r0 r1).mono ?_; rintro e w' ⟨rfl, rfl⟩)
      go_ret
      exact ⟨_, rfl, by rw [HP.out]; exact O1.out, b1⟩
end Go.Proofs.Ytabfekfbdacboaa
