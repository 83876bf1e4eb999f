/- The law of the keyed hash. -/
import Derived.Test.YtdbmmiabckemhaaDfs
import Derived.Test.YtdbmmiabckemhaaDraw3
import Derived.Test.YtdbmmiabckemhaaSame
import Derived.Test.YtdbmmiabckemhaaMod
namespace Go.Proofs.Ytdbmmiabckemhaa
open Go.RowKit
set_option linter.unusedVariables false

theorem inv_mod {D q : Int} (e1 : D * 1000003 = 2147483647 * q) : ∃ s, D = 2147483647 * s := by
  refine ⟨q * 1523789695 - D * 709572, ?_⟩
  have e2 : D * 1000003 * 1523789695 = 2147483647 * (q * 1523789695) := by rw [e1, Int.mul_assoc]
  rw [Int.mul_assoc] at e2
  have e3 : D * (1000003 * 1523789695) = D + 2147483647 * (D * 709572) := by clear e1 e2; omega
  rw [e3] at e2
  clear e1 e3
  rw [Int.mul_sub]
  generalize 2147483647 * (q * 1523789695) = a at *
  generalize 2147483647 * (D * 709572) = b at *
  omega
theorem hstep_inj {d1 d2 x : Int} (h1 : 0 ≤ d1 ∧ d1 ≤ 2147483646) (h2 : 0 ≤ d2 ∧ d2 ≤ 2147483646) (h : hstep d1 x = hstep d2 x) : d1 = d2 := by
  unfold hstep at h
  have e := Int.emod_eq_emod_iff_emod_sub_eq_zero.1 h
  clear h
  obtain ⟨q, hq⟩ := Int.dvd_of_emod_eq_zero e
  clear e
  generalize x % 2147483647 = m at hq
  have e1 : (d1 - d2) * 1000003 = 2147483647 * q := by
    clear h1 h2
    rw [← hq, Int.sub_mul]
    generalize d1 * 1000003 = a
    generalize d2 * 1000003 = b
    clear hq
    omega
  clear hq
  obtain ⟨s, hs⟩ := inv_mod e1
  clear e1
  have h0 : s = 0 := by
    obtain ⟨a, b⟩ := h1
    obtain ⟨c, d⟩ := h2
    omega
  rw [h0] at hs
  omega
theorem fold_ne (l : List Int) (d1 d2 : Int) (h1 : 0 ≤ d1 ∧ d1 ≤ 2147483646) (h2 : 0 ≤ d2 ∧ d2 ≤ 2147483646) (h : d1 ≠ d2) : l.foldl hstep d1 ≠ l.foldl hstep d2 := by
  induction l generalizing d1 d2 with
  | nil => exact h
  | cons x xs ih => exact ih _ _ (hstep_bd _ _) (hstep_bd _ _) (fun e => h (hstep_inj h1 h2 e))
theorem hash_ne (a b : List Int) (x y : Int) (h : x % 2147483647 ≠ y % 2147483647) : hashL (a ++ x :: b) ≠ hashL (a ++ y :: b) := by
  unfold hashL
  rw [List.foldl_append, List.foldl_append, List.foldl_cons, List.foldl_cons]
  refine fold_ne b _ _ (hstep_bd _ _) (hstep_bd _ _) (fun e => h ?_)
  unfold hstep at e
  omega
theorem keyed_ne (k : Int) (l : List Int) (i : Nat) (hi : i < l.length) (y : Int) (h : y % 2147483647 ≠ l[i] % 2147483647) : keyed k (l.set i y) ≠ keyed k l := by
  have e1 : l = l.take i ++ l[i] :: l.drop (i + 1) := by rw [← List.drop_eq_getElem_cons hi, List.take_append_drop]
  have e2 : l.set i y = l.take i ++ y :: l.drop (i + 1) := List.set_eq_take_append_cons_drop.trans (if_pos hi)
  have h1 := hash_ne (k :: l.take i) (l.drop (i + 1) ++ [k]) y l[i] h
  unfold keyed
  rw [e2]
  intro e
  apply h1
  have a2 : k :: (l ++ [k]) = (k :: l.take i) ++ l[i] :: (l.drop (i + 1) ++ [k]) := by
    have := congrArg (fun z => k :: (z ++ [k])) e1
    simp only [List.cons_append, List.append_assoc] at this ⊢
    exact this
  rw [a2] at e
  simpa only [List.cons_append, List.append_assoc] using e

section
variable {P : Program} (w : World)
/-- The append of one's own, at an operation that a guard lets through. -/
theorem wpList_append_OwnG {ops : Array Oper} {rest : List Oper} {o : Oper} {a : Act} {Q : Exit → Act → World → Prop} (hw : Region.wanted o (yielded ops a.tmps) = true) (s x : Operand) (t : TypeId)
    (ho : o.op = .call { callee := .builtin .append, args := #[s, x], argTypes := #[t, t] })
    (lo : Nat) (e : TypeId) (i : TypeInfo) (z : Value) (k : IntKind) (bytes : Nat) (ht : P.underlying t = some (.slice e)) (hi : P.info? e = some i) (hz : i.zero = some z)
    (hsize : i.size = 1) (hby : i.bytes = bytes) (hzs : z.cells.size = 1)
    (v : Value) (xs : List Int) (hs : a.eval s = v) (hO : Own k e w lo v xs) (xv : Value) (l h : Nat) (ys : List Int) (hxv : a.eval x = xv) (hx : Rd k w l h xv ys)
    (h63 : xs.length + ys.length ≤ maxLen) (hbytes : (xs.length + ys.length) * bytes ≤ 140737488355328) (hbase : lo ≤ w.heap.size)
    (hK : ∀ v' w', Own k e w' lo v' (xs ++ ys) → Wrote w w' lo v → wpList P ops Q rest (a.put o.dst v') w') : wpList P ops Q (o :: rest) a w := by
  refine wpList_step fun K hK' => ?_
  rw [if_pos hw]
  obtain ⟨v', w', hr, h2, h3⟩ := run_append_Own (P := P) w lo t o.type e i z k bytes ht hi hz hsize hby hzs v xs hO xv l h ys hx h63 hbytes hbase
  unfold Oper.wp execOp
  simp only [ho, resolve, invoke, builtin, Sem.run_bind, Sem.run_pure, Result.andThen_ok, List.map_toArray, List.map_cons, List.map_nil, hs, hxv, hr]
  exact hK' _ _ (hK v' w' h2 h3)
end

set_option maxRecDepth 100000 in
set_option maxHeartbeats 1000000 in
theorem law_FnKeyedHash (w : World) (v0 : Value) (xs : List Int) (r0 : Rd .u8 w 0 w.heap.size v0 xs) (f0 : Wf .u8 xs) :
    Calls Try.prog 14 #[v0] w fun e w' => e = .returned (.bool true) ∧ Below w.heap.size w w' := by
  obtain ⟨i0, hi0, hz0, hz1, hz2⟩ := info_parts info_int
  by_cases b0 : xs.length ≤ 1048576
  rotate_left
  · go_enter Try.func14, Try.ntmps14
    go_wp2_with fail
    refine (big_yes _ xs _ _ _ r0 b0).mono ?_
    rintro e w1 ⟨rfl, rfl⟩
    go_wp2_with fail
    go_ret
    exact ⟨rfl, Below.refl _ _⟩
  go_enter Try.func14, Try.ntmps14
  go_wp2_with fail
  refine (big_no _ xs _ _ _ r0 b0).mono ?_
  rintro e w1 ⟨rfl, rfl⟩
  go_wp2_with fail
  refine (drawKH_any _ xs _ _ _ r0 f0 (Nat.le_refl _) b0).mono ?_
  rintro e w1 ⟨k, v1, ys, hk, rfl, o1, hy, fy, B1⟩
  have hk64 : In64 k := by unfold In64; omega
  have wfy : Wf .i64 ys := fun n hn => wf64 (by have := fy n hn; unfold In64; omega)
  have q1 := o1.rd
  have s1 := B1.size
  obtain ⟨A1, c1, rfl, hc1, hm1⟩ := q1.form
  unfold maxLen at hm1
  have K := Lib.hid hk64
  have F := Lib.hid wfy
  have FY := Lib.hid fy
  have F0 := Lib.hid f0
  clear hk hk64 wfy fy o1 f0
  obtain ⟨h0, h1⟩ := keyed_bd k ys
  have r1 := r0.below B1 (Nat.le_refl _)
  go_wp2_with fail
  refine (implKeyed k _ ys _ _ _ q1 F.out K.out (Nat.le_refl _) (by omega)).mono ?_
  rintro e w2 ⟨rfl, bel2⟩
  have s2 := bel2.size
  have B2 := B1.trans (bel2.mono s1)
  replace q1 := q1.below bel2 (Nat.le_refl _)
  replace r1 := r1.below bel2 (by omega)
  have HBne : (keyed k ys != keyed k ys) = false := by simp
  have hA : [k].length + ys.length ≤ maxLen := by simp [maxLen]; omega
  have hB : ([k].length + ys.length) * 8 ≤ 140737488355328 := by simp; omega
  go_wp2_with (at_builtin; refine wpList_append_OwnG _ (by simp [Region.wanted, yielded]; omega) (.tmp 29) (.tmp 30) 22 rfl w2.heap.size 3 i0 (.int .i64 0) .i64 8 Try.underlying22 hi0 hz0 hz1 hz2 rfl _ [k] rfl (Own.lit1 _ _ _ _ _ (Nat.le_refl _)) _ _ _ ys rfl (q1.alloc (by omega) _) hA hB (by simp) ?_)
  intro v3 w3 hO3 hW3
  have B3 : Below w2.heap.size w2 w3 := hW3.below ((Below.refl _ w2).alloc (Nat.le_refl _) _) (Nat.le_refl _) (by simp)
  have s3 := B3.size
  have O3 := Lib.hid hO3
  clear hO3 hW3
  have hA2 : ([k] ++ ys).length + [k].length ≤ maxLen := by simp [maxLen]; omega
  have hB2 : (([k] ++ ys).length + [k].length) * 8 ≤ 140737488355328 := by simp; omega
  go_wp2_with (at_builtin; refine wpList_append_OwnG _ (by simp [Region.wanted, yielded]; omega) (.tmp 31) (.tmp 33) 22 rfl w2.heap.size 3 i0 (.int .i64 0) .i64 8 Try.underlying22 hi0 hz0 hz1 hz2 rfl _ ([k] ++ ys) rfl (O3.out.alloc _) _ _ _ [k] rfl (Own.lit1 .i64 3 w3 0 k (Nat.zero_le _)).rd hA2 hB2 (by first | omega | (simp; omega)) ?_)
  intro v4 w4 hO4 hW4
  have B4 : Below w2.heap.size w2 w4 := hW4.below (B3.alloc s3 _) (Nat.le_refl _) (by simp; omega)
  have s4 := B4.size
  have O4 := Lib.hid hO4
  clear hO4 hW4
  have hWf4 : Hid (Wf .i64 (([k] ++ ys) ++ [k])) := ((Wf.cons (wf64 K.out) F.out).app (Wf.cons (wf64 K.out) Wf.nil))
  go_wp2_with fail
  refine (implHash v4 (([k] ++ ys) ++ [k]) w4 _ _ (by simpa using O4.out.rd) hWf4.out).mono ?_
  rintro e w' ⟨rfl, rfl⟩
  have HH : hashL (([k] ++ ys) ++ [k]) = keyed k ys := keyed_eq k ys
  have B5 := B2.trans (B4.mono (by omega))
  replace q1 := q1.below B4 (by omega)
  replace r1 := r1.below B4 (by omega)
  rw [HH]
  clear HH O3 O4 hWf4 hA hB hA2 hB2
  by_cases hp : 0 < ys.length
  · have hA : ([] : List Int).length + ys.length ≤ maxLen := by simp [maxLen]; omega
    have hB : (([] : List Int).length + ys.length) * 8 ≤ 140737488355328 := by simp; omega
    go_wp2_with (at_builtin; refine wpList_append_Own _ rfl (.tmp 41) (.tmp 42) 22 rfl w4.heap.size 3 i0 (.int .i64 0) .i64 8 Try.underlying22 hi0 hz0 hz1 hz2 rfl _ [] rfl (Own.lit0 _ _ _ _ _) _ _ _ ys rfl (q1.alloc (by omega) _) hA hB (by simp) ?_)
    intro v5 w5 hO5 hW5
    have B6 : Below w4.heap.size w4 w5 := hW5.below ((Below.refl _ w4).alloc (Nat.le_refl _) _) (Nat.le_refl _) (by simp)
    have hO5' : Own .i64 3 w5 w4.heap.size v5 ys := by simpa using hO5
    obtain ⟨A5, c5, rfl, hc5, hm5⟩ := hO5'.rd.form
    unfold maxLen at hm5
    have s6 := B6.size
    replace r1 := r1.below B6 (by omega)
    have B7 := B5.trans (B6.mono (by omega))
    have O5 := Lib.hid hO5'
    clear hO5 hO5' hW5 q1
    go_wp2_with fail
    refine (at_any _ xs 0 _ _ _ r1 F0.out b0 (by omega)).mono ?_
    rintro e w' ⟨rfl, rfl⟩
    obtain ⟨a0, a1⟩ := atI_bd F0.out 0
    obtain ⟨i, hi⟩ : ∃ i : Nat, (i : Int) = atI xs 0 % ys.length := ⟨(atI xs 0 % ys.length).toNat, Int.toNat_of_nonneg (Int.emod_nonneg _ (by omega))⟩
    have hilt : i < ys.length := by have := Int.emod_lt_of_pos (atI xs 0) (show (0 : Int) < ys.length by omega); omega
    have e1 : (atI xs 0).tmod ys.length = i := by rw [Int.tmod_eq_emod_of_nonneg a0, hi]
    clear hi
    obtain ⟨b0', b1'⟩ := atI_bd F0.out 1
    obtain ⟨x, hx⟩ : ∃ x, x = ys[i] := ⟨_, rfl⟩
    have hxb := FY.out ys[i] (List.getElem_mem hilt)
    rw [← hx] at hxb
    obtain ⟨x0, x1⟩ := hxb
    obtain ⟨g, hge, hg0, hg1, -, row⟩ := O5.out.open_ (by omega)
    subst hge
    have d1 : w5.cell? ⟨g, i, none⟩ = some (.int .i64 x) := by
      rw [row.cellAt i (by omega), List.getElem?_map, List.getElem?_eq_getElem hilt, hx]
      rfl
    have d2 := row.frozenAt i
    have own6 := O5.out.store i hilt (modI (x + 1 + atI xs 1) 2147483647)
    have hne : keyed k (ys.set i (modI (x + 1 + atI xs 1) 2147483647)) ≠ keyed k ys := keyed_ne k ys i hilt _ (by rw [modI_in _ _ (by omega) (by omega), ← hx]; omega)
    have hneb : (keyed k (ys.set i (modI (x + 1 + atI xs 1) 2147483647)) == keyed k ys) = false := by simpa using hne
    have hwf6 : Hid (Wf .i64 (ys.set i (modI (x + 1 + atI xs 1) 2147483647))) := fun n hn => by
      rcases List.mem_or_eq_of_mem_set hn with hn | rfl
      · exact F.out n hn
      · rw [modI_in _ _ (by omega) (by omega)]
        exact wf64 (by unfold In64; omega)
    have hmi : 0 ≤ modI (x + 1 + atI xs 1) 2147483647 ∧ modI (x + 1 + atI xs 1) 2147483647 ≤ 2147483646 := by rw [modI_in _ _ (by omega) (by omega)]; omega
    have OWN6 := Lib.hid own6
    have HNE := Lib.hid hneb
    clear hne own6 hneb row hx
    generalize hM : modI (x + 1 + atI xs 1) 2147483647 = M at *
    have HM := Lib.hid hM
    clear hM
    have modCall : ∀ W : World, Calls Try.prog 53 #[.int .i64 (x + 1 + atI xs 1), .int .i64 2147483647] W fun e w' => e = .returned (.int .i64 M) ∧ W = w' := by
      intro W
      have := specMod (x + 1 + atI xs 1) 2147483647 (by unfold In64; omega) W
      rw [HM.out] at this
      exact this
    have aw1 : IntKind.i64.wrap (x + 1) = x + 1 := IntWalk.i64_in _ (by omega)
    have aw2 : IntKind.i64.wrap (x + 1 + atI xs 1) = x + 1 + atI xs 1 := IntWalk.i64_in _ (by omega)
    have hM0 := hmi.1
    have hM1 := hmi.2
    clear hmi
    have hgb : w.heap.size ≤ g := by omega
    go_wp2_with fail
    go_region_with (first | (go_at_call 42; refine (at_any _ xs 1 _ _ _ r1.drew F0.out b0 (by omega)).mono ?_; rintro e w' ⟨rfl, rfl⟩) | (go_at_call 53; refine (modCall _).mono ?_; rintro e w' ⟨rfl, rfl⟩))
    all_goals
      clear aw1 aw2 d1 d2 modCall
      have B8 : Below w.heap.size w (w5.setCell ⟨g, i, none⟩ (.int .i64 M)) := B7.setCell (p := ⟨g, i, none⟩) hgb _
      have r2 : Rd .u8 (w5.setCell ⟨g, i, none⟩ (.int .i64 M)) 0 w.heap.size v0 xs := r0.below B8 (Nat.le_refl _)
      have hl6 : (ys.set i M).length = ys.length := List.length_set
      have q6 := OWN6.out.rd
      have s8 := B8.size
      go_wp2_with fail
      refine (implKeyed k _ (ys.set i M) _ _ _ (q6.drewN 1) hwf6.out K.out (Nat.le_refl _) (by omega)).mono ?_
      rintro e w7 ⟨rfl, bel7'⟩
      have bel7 : Below (w5.setCell ⟨g, i, none⟩ (.int .i64 M)).heap.size (w5.setCell ⟨g, i, none⟩ (.int .i64 M)) w7 := (below_drewN _ _ 1).trans bel7'
      have s9' := bel7.size
      have B9 := B8.trans (bel7.mono s8)
      have r3 := r2.below bel7 s8
      have hnb := HNE.out
      clear bel7' q6 OWN6 r2 hl6
      go_wp2_with fail
      refine (drawDfs_any _ xs _ _ _ r3 F0.out (by omega) b0).mono ?_
      rintro e w8 ⟨key, s, hkey, hs, rfl, bel8⟩
      have s9 := bel8.size
      have B10 := B9.trans (bel8.mono (by omega))
      have HK8 := Lib.hid hkey
      clear hkey
      go_wp2_with fail
      refine (implDfs key s _ (by have := HK8.out; unfold In64; omega) (by omega)).mono ?_
      rintro e w9 ⟨rfl, bel9⟩
      have B11 := B10.trans (bel9.mono (by omega))
      have HD := Lib.hid (dfs_bd key s)
      go_wp2_with fail
      refine (implValid_yes _ _ HD.out).mono ?_
      rintro e w' ⟨rfl, rfl⟩
      go_wp2_with fail
      go_ret
      exact ⟨rfl, B11⟩
  · clear q1
    go_wp2_with fail
    refine (drawDfs_any _ xs _ _ _ r1 F0.out (by omega) b0).mono ?_
    rintro e w8 ⟨key, s, hkey, hs, rfl, bel8⟩
    have s9 := bel8.size
    have B10 := B5.trans (bel8.mono (by omega))
    have HK8 := Lib.hid hkey
    clear hkey
    go_wp2_with fail
    refine (implDfs key s _ (by have := HK8.out; unfold In64; omega) (by omega)).mono ?_
    rintro e w9 ⟨rfl, bel9⟩
    have B11 := B10.trans (bel9.mono (by omega))
    have HD := Lib.hid (dfs_bd key s)
    go_wp2_with fail
    refine (implValid_yes _ _ HD.out).mono ?_
    rintro e w' ⟨rfl, rfl⟩
    go_wp2_with fail
    go_ret
    exact ⟨rfl, B11⟩
end Go.Proofs.Ytdbmmiabckemhaa
