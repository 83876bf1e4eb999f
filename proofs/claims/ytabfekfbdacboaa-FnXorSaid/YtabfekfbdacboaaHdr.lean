/- The values of rows appended to an empty slice of rows: the rows are shared. -/
import Derived.Test.YtabfekfbdacboaaLists
namespace Go.Proofs.Ytabfekfbdacboaa
open Go.RowKit
set_option linter.unusedVariables false

section
variable {k : IntKind} {w : World} {lo hi : Nat} {v : Value} {xss : List (List Int)} {us : List Value}
/-- The values of the rows that are read. -/
theorem Rds.vals (h : Rds k w lo hi v xss) : ∃ (us : List Value) (A : Option Addr) (c : Nat), v = .slice A xss.length c ∧ us.length = xss.length ∧ (∀ (i : Nat) u xs, us[i]? = some u → xss[i]? = some xs → Rd k w lo hi u xs) ∧
    (0 < xss.length → ∃ b off, A = some ⟨b, off, none⟩ ∧ lo ≤ b ∧ b < hi ∧ ∀ (i : Nat) u, us[i]? = some u → w.cell? ⟨b, off + i, none⟩ = some u) := by
  obtain ⟨A, c, rfl, h1, h2, h3⟩ := h
  rcases Nat.eq_zero_or_pos xss.length with h0 | hp
  · obtain rfl : xss = [] := List.eq_nil_of_length_eq_zero h0
    exact ⟨[], A, c, rfl, rfl, fun i u xs hu => by simp at hu, fun hh => by simp at hh⟩
  · obtain ⟨b, off, rfl, g1, g2, g3⟩ := h3 hp
    have key : ∀ i xs u, xss[i]? = some xs → ((List.range xss.length).map fun i => (w.cell? ⟨b, off + i, none⟩).getD undef)[i]? = some u → w.cell? ⟨b, off + i, none⟩ = some u ∧ Rd k w lo hi u xs := by
      intro i xs u hx hu
      obtain ⟨u', a1, a2⟩ := g3 i xs hx
      have hi' : i < xss.length := (List.getElem?_eq_some_iff.1 hx).1
      rw [List.getElem?_map, List.getElem?_range hi'] at hu
      simp only [Option.map_some, Option.some.injEq] at hu
      rw [a1] at hu
      simp only [Option.getD_some] at hu
      subst hu
      exact ⟨a1, a2⟩
    refine ⟨(List.range xss.length).map fun i => (w.cell? ⟨b, off + i, none⟩).getD undef, some ⟨b, off, none⟩, c, rfl, by simp, fun i u xs hu hx => (key i xs u hx hu).2, fun _ => ⟨b, off, rfl, g1, g2, fun i u hu => ?_⟩⟩
    have hi' : i < xss.length := by have := (List.getElem?_eq_some_iff.1 hu).1; simpa using this
    exact (key i xss[i] u (by simp [hi']) hu).1
theorem Rd.one {ys : List Int} (h : Rd k w lo hi v ys) : v.oneCell' = true := by
  obtain ⟨A, c, rfl, _⟩ := h
  rfl
theorem OwnVB.rds {e : TypeId} {B : Nat} (h : OwnVB e w lo hi v us) (hl : us.length = xss.length) (hr : ∀ (i : Nat) u xs, us[i]? = some u → xss[i]? = some xs → Rd k w 0 B u xs) (hB : hi ≤ B) : Rds k w 0 B v xss := by
  obtain ⟨A, c, hv, a1, a2⟩ := h.form
  rw [hl] at hv a1
  refine ⟨A, c, hv, a1, a2, fun hp => ?_⟩
  obtain ⟨g, c', cur, hv', g1, g2, _, _, _, _, hc⟩ := h.at_ (by omega)
  rw [hv, hl] at hv'
  simp only [Value.slice.injEq, true_and] at hv'
  obtain ⟨rfl, rfl⟩ := hv'
  refine ⟨g, 0, rfl, Nat.zero_le _, by omega, fun i x hx => ?_⟩
  have hi' : i < us.length := by have := (List.getElem?_eq_some_iff.1 hx).1; omega
  exact ⟨us[i], by rw [Nat.zero_add]; exact hc i _ (by simp [hi']), hr i us[i] x (by simp [hi']) hx⟩
end
section
variable {P : Program} (w : World)
/-- append of rows' values onto an empty slice. -/
theorem run_append_Vals (t ty e : TypeId) (i : TypeInfo) (z : Value) (bytes : Nat) (ht : P.underlying t = some (.slice e)) (hi0 : P.info? e = some i) (hz : i.zero = some z)
    (hsize : i.size = 1) (hby : i.bytes = bytes) (hzs : z.cells.size = 1) (A B : Option Addr) (us : List Value) (c : Nat)
    (hcell : 0 < us.length → ∃ a, B = some a ∧ ∀ (j : Nat) u, us[j]? = some u → w.cell? (a.add j) = some u) (hone : ∀ u ∈ us, u.oneCell' = true)
    (h63 : us.length ≤ maxLen) (hbytes : us.length * bytes ≤ 140737488355328) :
    ∃ v' w', (Builtin.append_ #[t, t] ty #[.slice A 0 0, .slice B us.length c]).run P w = .ok v' w' ∧ OwnVB e w' w.heap.size w'.heap.size v' us ∧ Below w.heap.size w w' := by
  have fin : ∀ {v' : Value} {w' : World} {n : Nat}, w'.ownsRow w.heap.size e 1 v' n ([] ++ us) → n = us.length → w.grownBy w' none → OwnVB e w' w.heap.size w'.heap.size v' us ∧ Below w.heap.size w w' := by
    intro v' w' n h hn hg
    subst hn
    exact ⟨.inl ⟨h, fun g hg => (h.lt g hg).2⟩, (Below.refl _ w).grown hg (Nat.le_refl _) (fun _ h => by cases h)⟩
  rcases Nat.eq_zero_or_pos us.length with h0 | hp
  · obtain rfl : us = [] := List.eq_nil_of_length_eq_zero h0
    refine ⟨.slice A 0 0, w, ?_, .inr ⟨rfl, A, rfl⟩, Below.refl _ _⟩
    cases A <;> cases B <;> simp [Builtin.append_, run_underlying ht, sizeOf, typeInfo, hi0, Builtin.lenOf, Builtin.firstCells, storeCells, loadCells, loadCellsFrom]
  · obtain ⟨a, rfl, hc⟩ := hcell hp
    rcases A with _ | b
    · obtain ⟨v', w', hr, r1, r2, _⟩ := run_append_own (P := P) w w.heap.size t ty e i z 1 bytes ht hi0 hz hsize hby hzs (by omega) (.slice none 0 0) 0 [] (World.ownsRow_nil w _ e 1) a us.length c us (by simp) hc hone (by simpa using h63) (by simpa using hbytes) (Nat.le_refl _)
      obtain ⟨f1, f2⟩ := fin r1 (by omega) r2
      exact ⟨v', w', hr, f1, f2⟩
    · obtain ⟨v', w', hr, r1, r2⟩ := run_append_arg_grows (P := P) w t ty e i z 1 bytes ht hi0 hz hsize hby hzs (by omega) b 0 0 [] (by simp) (fun j u hu => by simp at hu) a us.length c us (by simp) hc (by omega) (by simpa using h63) (by simpa using hbytes)
      obtain ⟨f1, f2⟩ := fin r1 (by omega) r2
      exact ⟨v', w', hr, f1, f2⟩
theorem wpList_append_Vals {ops : Array Oper} {rest : List Oper} {o : Oper} {a : Act} {Q : Exit → Act → World → Prop} (hgd : o.guard = none) (s x : Operand) (t : TypeId)
    (ho : o.op = .call { callee := .builtin .append, args := #[s, x], argTypes := #[t, t] })
    (e : TypeId) (i : TypeInfo) (z : Value) (bytes : Nat) (ht : P.underlying t = some (.slice e)) (hi0 : P.info? e = some i) (hz : i.zero = some z)
    (hsize : i.size = 1) (hby : i.bytes = bytes) (hzs : z.cells.size = 1) (A B : Option Addr) (us : List Value) (c n : Nat) (hn : n = us.length)
    (hs : a.eval s = .slice A 0 0) (hxv : a.eval x = .slice B n c)
    (hcell : 0 < us.length → ∃ a, B = some a ∧ ∀ (j : Nat) u, us[j]? = some u → w.cell? (a.add j) = some u) (hone : ∀ u ∈ us, u.oneCell' = true)
    (h63 : us.length ≤ maxLen) (hbytes : us.length * bytes ≤ 140737488355328)
    (hK : ∀ v' w', OwnVB e w' w.heap.size w'.heap.size v' us → Below w.heap.size w w' → wpList P ops Q rest (a.put o.dst v') w') : wpList P ops Q (o :: rest) a w := by
  refine wpList_plain hgd fun K hK' => ?_
  subst hn
  obtain ⟨v', w', hr, h2, h3⟩ := run_append_Vals (P := P) w t o.type e i z bytes ht hi0 hz hsize hby hzs A B us c hcell hone h63 hbytes
  unfold Oper.wp execOp
  simp only [ho, resolve, invoke, builtin, Sem.run_bind, Sem.run_pure, Result.andThen_ok, List.map_toArray, List.map_cons, List.map_nil, hs, hxv, hr]
  exact hK' _ _ (hK v' w' h2 h3)
theorem wpList_append_OwnV {ops : Array Oper} {rest : List Oper} {o : Oper} {a : Act} {Q : Exit → Act → World → Prop} (hgd : o.guard = none) (s x : Operand) (t : TypeId)
    (ho : o.op = .call { callee := .builtin .append, args := #[s, x], argTypes := #[t, t] })
    (lo hi : Nat) (e : TypeId) (i : TypeInfo) (z : Value) (bytes : Nat) (ht : P.underlying t = some (.slice e)) (hi0 : P.info? e = some i) (hz : i.zero = some z)
    (hsize : i.size = 1) (hby : i.bytes = bytes) (hzs : z.cells.size = 1)
    (v : Value) (us : List Value) (hs : a.eval s = v) (hO : OwnVB e w lo hi v us) (hh : hi ≤ w.heap.size) (ad : Addr) (c : Nat) (hxv : a.eval x = .slice (some ad) 1 c) (u : Value) (hc : w.cell? (ad.add 0) = some u) (h1 : u.oneCell' = true)
    (h63 : us.length + 1 ≤ maxLen) (hbytes : (us.length + 1) * bytes ≤ 140737488355328) (hbase : lo ≤ w.heap.size)
    (hK : ∀ v' w', OwnVB e w' lo w'.heap.size v' (us ++ [u]) → Below lo w w' → wpList P ops Q rest (a.put o.dst v') w') : wpList P ops Q (o :: rest) a w := by
  refine wpList_plain hgd fun K hK' => ?_
  obtain ⟨v', w', hr, r1, row, r2, r3⟩ := run_append_OwnV (P := P) w lo hi t o.type e i z bytes ht hi0 hz hsize hby hzs v us hO hh ad c u hc h1 h63 hbytes hbase
  unfold Oper.wp execOp
  simp only [ho, resolve, invoke, builtin, Sem.run_bind, Sem.run_pure, Result.andThen_ok, List.map_toArray, List.map_cons, List.map_nil, hs, hxv, hr]
  exact hK' _ _ (hK v' w' r1 ((Below.refl _ w).grown r2 hbase (fun g hg => (r3 g hg).1)))
end
end Go.Proofs.Ytabfekfbdacboaa
