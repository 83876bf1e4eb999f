/- Slices of byte slices that the call owns: each row in blocks of its own. -/
import Derived.Test.YtabfekfbdacboaaStep
import Derived.Test.YtabfekfbdacboaaMark
namespace Go.Proofs.Ytabfekfbdacboaa
open Go.RowKit
set_option linter.unusedVariables false

/-- The slice value v is owned and holds the values us; its block lies from lo on, below hi. -/
def OwnVB (e : TypeId) (w : World) (lo hi : Nat) (v : Value) (us : List Value) : Prop :=
  (w.ownsRow lo e 1 v us.length us ∧ ∀ g, v.ownBlock = some g → g < hi) ∨ (us = [] ∧ ∃ A, v = .slice A 0 0)

section
variable {k : IntKind} {e e2 : TypeId} {w w' : World} {lo hi lo' hi' : Nat} {v u : Value} {us : List Value} {xs : List Int}
theorem Own.bd (h : Own k e w lo v xs) : OwnVB e w lo w.heap.size v (xs.map (.int k)) := by
  rcases h with h | ⟨rfl, h⟩
  · exact .inl ⟨by rwa [List.length_map], fun g hg => (h.lt g hg).2⟩
  · exact .inr ⟨rfl, h⟩
theorem OwnVB.own (h : OwnVB e w lo hi v (xs.map (.int k))) : Own k e w lo v xs := by
  rcases h with ⟨h, _⟩ | ⟨h1, h⟩
  · exact .inl (by rwa [List.length_map] at h)
  · exact .inr ⟨by simpa using h1, h⟩
theorem OwnVB.keep (h : OwnVB e w lo hi v us) (hk : ∀ b cur, lo ≤ b → b < hi → w.heap[b]? = some (.cells cur e (0, 0)) → w'.heap[b]? = w.heap[b]?) : OwnVB e w' lo hi v us := by
  rcases h with ⟨⟨h1, h2 | ⟨g, cap, cur, rfl, hb, hg, r⟩⟩, hB⟩ | h
  · exact .inl ⟨⟨h1, .inl h2⟩, hB⟩
  · exact .inl ⟨⟨h1, .inr ⟨g, cap, cur, rfl, hb, (hk g cur hb (hB g rfl) hg).trans hg, r⟩⟩, hB⟩
  · exact .inr h
theorem OwnVB.more (h : OwnVB e w lo hi v us) (hl : lo' ≤ lo) (hh : hi ≤ hi') : OwnVB e w lo' hi' v us := by
  rcases h with ⟨⟨h1, h2 | ⟨g, cap, cur, rfl, hb, r⟩⟩, hB⟩ | h
  · exact .inl ⟨⟨h1, .inl h2⟩, fun g hg => Nat.lt_of_lt_of_le (hB g hg) hh⟩
  · exact .inl ⟨⟨h1, .inr ⟨g, cap, cur, rfl, by omega, r⟩⟩, fun g hg => Nat.lt_of_lt_of_le (hB g hg) hh⟩
  · exact .inr h
theorem OwnVB.form (h : OwnVB e w lo hi v us) : ∃ A c, v = .slice A us.length c ∧ us.length ≤ c ∧ c ≤ maxLen := by
  rcases h with ⟨⟨h1, ⟨rfl, hn⟩ | ⟨g, cap, cur, rfl, hb, hg, hnc, hcm, _⟩⟩, hB⟩ | ⟨rfl, A, rfl⟩
  · exact ⟨none, 0, by rw [hn], by omega, by simp [maxLen]⟩
  · exact ⟨_, cap, rfl, hnc, hcm⟩
  · exact ⟨A, 0, rfl, Nat.le_refl _, by simp [maxLen]⟩
/-- A cell of it. -/
theorem OwnVB.at_ (h : OwnVB e w lo hi v us) (hp : 0 < us.length) : ∃ g c cur, v = .slice (some ⟨g, 0, none⟩) us.length c ∧ lo ≤ g ∧ g < hi ∧ w.heap[g]? = some (.cells cur e (0, 0)) ∧ us.length ≤ c ∧ c ≤ maxLen ∧ w.ownsRow lo e 1 v us.length us ∧ ∀ i u, us[i]? = some u → w.cell? ⟨g, i, none⟩ = some u := by
  rcases h with ⟨h, hB⟩ | ⟨rfl, _⟩
  · have h' := h
    rcases h.2 with ⟨rfl, hn⟩ | ⟨g, cap, cur, rfl, hb, hg, hnc, hcm, hcs, ht⟩
    · omega
    · exact ⟨g, cap, cur, rfl, hb, hB g rfl, hg, hnc, hcm, h', fun i u hu => by
        have hi : i < us.length := (List.getElem?_eq_some_iff.1 hu).1
        rw [h'.cellAt i (by omega)]; exact hu⟩
  · simp at hp
theorem OwnVB.rd (h : OwnVB e w lo hi v (xs.map (.int k))) : Rd k w lo hi v xs := by
  obtain ⟨A, c, hv, h1, h2⟩ := h.form
  rw [List.length_map] at hv h1
  refine ⟨A, c, hv, h1, h2, fun hp => ?_⟩
  obtain ⟨g, c', cur, hv', g1, g2, _, _, _, _, hc⟩ := h.at_ (by rw [List.length_map]; exact hp)
  rw [hv, List.length_map] at hv'
  simp only [Value.slice.injEq, true_and] at hv'
  obtain ⟨rfl, rfl⟩ := hv'
  refine ⟨g, 0, rfl, g1, g2, fun i x hx => ?_⟩
  rw [Nat.zero_add]
  exact hc i _ (by rw [List.getElem?_map, hx]; rfl)
end

/-- Rows, one behind the other: each in blocks of its own, all from lo on, below hi. -/
def RowsAt (e : TypeId) (w : World) : Nat → List Value → List (List Int) → Nat → Prop
  | lo, [], [], hi => lo ≤ hi
  | lo, u :: us, xs :: xss, hi => ∃ m, lo ≤ m ∧ OwnVB e w lo m u (xs.map (.int .u8)) ∧ RowsAt e w m us xss hi
  | _, _, _, _ => False

section
variable {e e2 : TypeId} {w w' : World}
theorem RowsAt.le {us : List Value} {xss : List (List Int)} {lo hi : Nat} (h : RowsAt e w lo us xss hi) : lo ≤ hi := by
  induction us generalizing xss lo with
  | nil => cases xss with
    | nil => exact h
    | cons x xs => exact h.elim
  | cons u us ih => cases xss with
    | nil => exact h.elim
    | cons x xs => obtain ⟨m, h1, _, h3⟩ := h; have := ih h3; omega
theorem RowsAt.len {us : List Value} {xss : List (List Int)} {lo hi : Nat} (h : RowsAt e w lo us xss hi) : us.length = xss.length := by
  induction us generalizing xss lo with
  | nil => cases xss with
    | nil => rfl
    | cons x xs => exact h.elim
  | cons u us ih => cases xss with
    | nil => exact h.elim
    | cons x xs => obtain ⟨m, h1, _, h3⟩ := h; simp [ih h3]
theorem RowsAt.keep {us : List Value} {xss : List (List Int)} {lo hi : Nat} (h : RowsAt e w lo us xss hi) (hk : ∀ b cur, lo ≤ b → b < hi → w.heap[b]? = some (.cells cur e (0, 0)) → w'.heap[b]? = w.heap[b]?) : RowsAt e w' lo us xss hi := by
  induction us generalizing xss lo with
  | nil => cases xss with
    | nil => exact h
    | cons x xs => exact h.elim
  | cons u us ih => cases xss with
    | nil => exact h.elim
    | cons x xs =>
      obtain ⟨m, h1, h2, h3⟩ := h
      have := h3.le
      exact ⟨m, h1, h2.keep (fun b cur a1 a2 => hk b cur a1 (by omega)), ih h3 (fun b cur a1 a2 => hk b cur (by omega) a2)⟩
theorem RowsAt.more {us : List Value} {xss : List (List Int)} {lo lo' hi hi' : Nat} (h : RowsAt e w lo us xss hi) (hl : lo' ≤ lo) (hh : hi ≤ hi') : RowsAt e w lo' us xss hi' := by
  induction us generalizing xss lo lo' with
  | nil => cases xss with
    | nil => have : lo ≤ hi := h; show lo' ≤ hi'; omega
    | cons x xs => exact h.elim
  | cons u us ih => cases xss with
    | nil => exact h.elim
    | cons x xs =>
      obtain ⟨m, h1, h2, h3⟩ := h
      exact ⟨m, by omega, h2.more hl (Nat.le_refl _), ih h3 (Nat.le_refl _)⟩
theorem RowsAt.append {us1 us2 : List Value} {xss1 xss2 : List (List Int)} {lo m hi : Nat} (h : RowsAt e w lo us1 xss1 m) (g : RowsAt e w m us2 xss2 hi) : RowsAt e w lo (us1 ++ us2) (xss1 ++ xss2) hi := by
  induction us1 generalizing xss1 lo with
  | nil => cases xss1 with
    | nil => exact g.more h (Nat.le_refl _)
    | cons x xs => exact h.elim
  | cons u us ih => cases xss1 with
    | nil => exact h.elim
    | cons x xs =>
      obtain ⟨m', h1, h2, h3⟩ := h
      exact ⟨m', h1, h2, ih h3⟩
theorem RowsAt.split {us1 us2 : List Value} {xss1 xss2 : List (List Int)} {lo hi : Nat} (hl : us1.length = xss1.length) (h : RowsAt e w lo (us1 ++ us2) (xss1 ++ xss2) hi) : ∃ m, RowsAt e w lo us1 xss1 m ∧ RowsAt e w m us2 xss2 hi := by
  induction us1 generalizing xss1 lo with
  | nil => cases xss1 with
    | nil => exact ⟨lo, Nat.le_refl lo, h⟩
    | cons x xs => simp at hl
  | cons u us ih => cases xss1 with
    | nil => simp at hl
    | cons x xs =>
      obtain ⟨m', h1, h2, h3⟩ := h
      obtain ⟨m, a, b⟩ := ih (by simpa using hl) h3
      exact ⟨m, ⟨m', h1, h2, a⟩, b⟩
theorem RowsAt.one {u : Value} {xs : List Int} {lo hi : Nat} (h : OwnVB e w lo hi u (xs.map (.int .u8))) (hh : lo ≤ hi) : RowsAt e w lo [u] [xs] hi := ⟨hi, hh, h, Nat.le_refl _⟩
theorem RowsAt.get {us : List Value} {xss : List (List Int)} {lo hi : Nat} (h : RowsAt e w lo us xss hi) {i : Nat} {xs : List Int} (hx : xss[i]? = some xs) : ∃ u, us[i]? = some u ∧ OwnVB e w lo hi u (xs.map (.int .u8)) := by
  induction us generalizing xss lo i with
  | nil => cases xss with
    | nil => simp at hx
    | cons x xs => exact h.elim
  | cons u us ih => cases xss with
    | nil => exact h.elim
    | cons x xss =>
      obtain ⟨m, h1, h2, h3⟩ := h
      cases i with
      | zero => simp at hx; subst hx; exact ⟨u, rfl, h2.more (Nat.le_refl _) h3.le⟩
      | succ i =>
        obtain ⟨u', a, b⟩ := ih h3 (i := i) (by simpa using hx)
        exact ⟨u', by simpa using a, b.more h1 (Nat.le_refl _)⟩
end

/-- A slice of rows that the call owns: all of it in blocks from lo on, below hi. -/
def OwnS (e2 e : TypeId) (w : World) (lo hi : Nat) (v : Value) (xss : List (List Int)) : Prop :=
  ∃ us, OwnVB e2 w lo hi v us ∧ RowsAt e w lo us xss hi

section
variable {e e2 : TypeId} {w w' : World} {lo hi lo' hi' : Nat} {v : Value} {xss : List (List Int)}
theorem OwnS.rd (h : OwnS e2 e w lo hi v xss) : Rds .u8 w lo hi v xss := by
  obtain ⟨us, h1, h2⟩ := h
  obtain ⟨A, c, hv, a1, a2⟩ := h1.form
  have hl := h2.len
  rw [hl] at hv a1
  refine ⟨A, c, hv, a1, a2, fun hp => ?_⟩
  obtain ⟨g, c', cur, hv', g1, g2, _, _, _, _, hc⟩ := h1.at_ (by omega)
  rw [hv, hl] at hv'
  simp only [Value.slice.injEq, true_and] at hv'
  obtain ⟨rfl, rfl⟩ := hv'
  refine ⟨g, 0, rfl, g1, g2, fun i x hx => ?_⟩
  obtain ⟨u, b1, b2⟩ := h2.get hx
  exact ⟨u, by rw [Nat.zero_add]; exact hc i u b1, b2.rd⟩
theorem OwnS.keep (h : OwnS e2 e w lo hi v xss) (hk : ∀ b, lo ≤ b → b < hi → w'.heap[b]? = w.heap[b]?) : OwnS e2 e w' lo hi v xss := by
  obtain ⟨us, h1, h2⟩ := h
  exact ⟨us, h1.keep (fun b _ a1 a2 _ => hk b a1 a2), h2.keep (fun b _ a1 a2 _ => hk b a1 a2)⟩
theorem OwnS.below (h : OwnS e2 e w lo hi v xss) {B : Nat} (hb : Below B w w') (hB : hi ≤ B) : OwnS e2 e w' lo hi v xss := h.keep fun b _ h2 => hb.block b (by omega)
theorem OwnS.touch (h : OwnS e2 e w lo hi v xss) {l u : Nat} (t : Touch w w' l u) (hd : hi ≤ w.heap.size ∧ (hi ≤ l ∨ u ≤ lo)) : OwnS e2 e w' lo hi v xss := h.keep fun b h1 h2 => t.block b (by omega) (by omega)
theorem OwnS.more (h : OwnS e2 e w lo hi v xss) (hl : lo' ≤ lo) (hh : hi ≤ hi') : OwnS e2 e w lo' hi' v xss := by
  obtain ⟨us, h1, h2⟩ := h
  exact ⟨us, h1.more hl hh, h2.more hl hh⟩
theorem OwnS.of_nil (e2 e : TypeId) (w : World) (lo hi : Nat) (A : Option Addr) (h : lo ≤ hi) : OwnS e2 e w lo hi (.slice A 0 0) [] := ⟨[], .inr ⟨rfl, A, rfl⟩, h⟩
end

/-- The length of all rows. -/
def total (xss : List (List Int)) : Nat := xss.flatten.length
theorem total_cons (xs : List Int) (xss : List (List Int)) : total (xs :: xss) = xs.length + total xss := by simp [total]
theorem total_append (a b : List (List Int)) : total (a ++ b) = total a + total b := by simp [total]
theorem total_take (xss : List (List Int)) (i : Nat) (h : i < xss.length) : total (xss.take (i + 1)) = total (xss.take i) + xss[i].length := by
  rw [List.take_succ_eq_append_getElem h, total_append]
  simp [total]
theorem total_take_le (xss : List (List Int)) (i : Nat) : total (xss.take i) ≤ total xss := by
  have e : total xss = total (xss.take i) + total (xss.drop i) := by rw [← total_append, List.take_append_drop]
  omega
theorem total_at (xss : List (List Int)) (i : Nat) (h : i < xss.length) : total (xss.take i) + xss[i].length ≤ total xss := by
  rw [← total_take xss i h]; exact total_take_le xss (i + 1)

/-- What a mark of rows leaves. -/
def markSS (k : Int) : List (List Int) → List (List Int)
  | [] => []
  | xs :: xss => markU8 k xs.length :: markSS (k + xs.length) xss
theorem markSS_length (k : Int) (xss : List (List Int)) : (markSS k xss).length = xss.length := by
  induction xss generalizing k with
  | nil => rfl
  | cons x xs ih => simp [markSS, ih]
theorem markSS_snoc (k : Int) (a : List (List Int)) (x : List Int) : markSS k (a ++ [x]) = markSS k a ++ [markU8 (k + total a) x.length] := by
  induction a generalizing k with
  | nil => simp [markSS, total]
  | cons y ys ih => rw [List.cons_append, markSS, ih, markSS, List.cons_append, total_cons, show k + (y.length : Int) + (total ys : Int) = k + ((y.length + total ys : Nat) : Int) by omega]
theorem markSS_get (k : Int) (xss : List (List Int)) (i : Nat) (h : i < xss.length) : (markSS k xss)[i]? = some (markU8 (k + total (xss.take i)) xss[i].length) := by
  induction xss generalizing k i with
  | nil => simp at h
  | cons x xs ih =>
    cases i with
    | zero => simp [markSS, total]
    | succ i =>
      have h' : i < xs.length := by simpa using h
      rw [markSS, List.getElem?_cons_succ, ih (k + x.length) i h', List.take_succ_cons, total_cons]
      simp only [List.getElem_cons_succ]
      rw [show k + (x.length : Int) + (total (xs.take i) : Int) = k + ((x.length + total (xs.take i) : Nat) : Int) by omega]

section
variable {P : Program} (w : World)
/-- append of rows' values onto a slice of the call's own. -/
theorem run_append_OwnV (lo hi : Nat) (t ty e : TypeId) (i : TypeInfo) (z : Value) (bytes : Nat) (ht : P.underlying t = some (.slice e)) (hi0 : P.info? e = some i) (hz : i.zero = some z)
    (hsize : i.size = 1) (hby : i.bytes = bytes) (hzs : z.cells.size = 1)
    (v : Value) (us : List Value) (hO : OwnVB e w lo hi v us) (hh : hi ≤ w.heap.size) (a : Addr) (c : Nat) (u : Value) (hc : w.cell? (a.add 0) = some u) (h1 : u.oneCell' = true)
    (h63 : us.length + 1 ≤ maxLen) (hbytes : (us.length + 1) * bytes ≤ 140737488355328) (hbase : lo ≤ w.heap.size) :
    ∃ v' w', (Builtin.append_ #[t, t] ty #[v, .slice (some a) 1 c]).run P w = .ok v' w' ∧ OwnVB e w' lo w'.heap.size v' (us ++ [u]) ∧ ∃ row, w.grownBy w' row ∧ ∀ g, row = some g → lo ≤ g ∧ g < hi ∧ ∃ cur, w.heap[g]? = some (.cells cur e (0, 0)) := by
  have hnews : ∀ j x, ([u] : List Value)[j]? = some x → w.cell? (a.add j) = some x := by
    intro j x hx
    cases j with
    | zero => simp at hx; subst hx; exact hc
    | succ j => simp at hx
  have hone : ∀ x ∈ [u], Value.oneCell' x = true := by
    intro x hx
    simp at hx
    subst hx
    exact h1
  have fin : ∀ {l : Nat} {v' : Value} {w' : World} {n : Nat}, w'.ownsRow l e 1 v' n (us ++ [u]) → lo ≤ l → n = us.length + 1 → OwnVB e w' lo w'.heap.size v' (us ++ [u]) := by
    intro l v' w' n h hl hn
    refine OwnVB.more (lo := l) (hi := w'.heap.size) (.inl ⟨?_, fun g hg => (h.lt g hg).2⟩) hl (Nat.le_refl _)
    rw [List.length_append, List.length_singleton, ← hn]
    exact h
  rcases hO with ⟨hO, hB⟩ | ⟨rfl, A, rfl⟩
  · obtain ⟨v', w', hr, r1, r2, _⟩ := run_append_own (P := P) w lo t ty e i z 1 bytes ht hi0 hz hsize hby hzs (by omega) v us.length us hO a 1 c [u] rfl hnews hone h63 hbytes hbase
    refine ⟨v', w', hr, fin r1 (Nat.le_refl _) rfl, v.ownBlock, r2, fun g hg => ?_⟩
    refine ⟨(hO.lt g hg).1, hB g hg, ?_⟩
    rcases hO.2 with ⟨rfl, _⟩ | ⟨g', cap, cur, rfl, _, hgg, _⟩
    · cases hg
    · cases hg; exact ⟨cur, hgg⟩
  · rcases A with _ | b
    · obtain ⟨v', w', hr, r1, r2, _⟩ := run_append_own (P := P) w w.heap.size t ty e i z 1 bytes ht hi0 hz hsize hby hzs (by omega) (.slice none 0 0) 0 [] (World.ownsRow_nil w _ e 1) a 1 c [u] rfl hnews hone (by simpa using h63) (by simpa using hbytes) (Nat.le_refl _)
      exact ⟨v', w', hr, fin r1 hbase rfl, none, r2, fun g hg => by cases hg⟩
    · obtain ⟨v', w', hr, r1, r2⟩ := run_append_arg_grows (P := P) w t ty e i z 1 bytes ht hi0 hz hsize hby hzs (by omega) b 0 0 [] (by simp) (fun j u hu => by simp at hu) a 1 c [u] rfl hnews (by omega) (by simpa using h63) (by simpa using hbytes)
      exact ⟨v', w', hr, fin r1 hbase rfl, none, r2, fun g hg => by cases hg⟩

/-- The same for the walk: a row is appended to rows. -/
theorem wpList_append_OwnS {ops : Array Oper} {rest : List Oper} {o : Oper} {a : Act} {Q : Exit → Act → World → Prop} (hgd : o.guard = none) (s x : Operand) (t : TypeId)
    (ho : o.op = .call { callee := .builtin .append, args := #[s, x], argTypes := #[t, t] })
    (lo hi : Nat) (e2 e : TypeId) (hne : e2 ≠ e) (i : TypeInfo) (z : Value) (bytes : Nat) (ht : P.underlying t = some (.slice e2)) (hi0 : P.info? e2 = some i) (hz : i.zero = some z)
    (hsize : i.size = 1) (hby : i.bytes = bytes) (hzs : z.cells.size = 1)
    (v : Value) (xss : List (List Int)) (hs : a.eval s = v) (hO : OwnS e2 e w lo hi v xss) (hh : hi ≤ w.heap.size) (ad : Addr) (c : Nat) (hxv : a.eval x = .slice (some ad) 1 c) (u : Value) (xs : List Int) (l : Nat) (hl : hi ≤ l) (hc : w.cell? (ad.add 0) = some u) (hu : OwnVB e w l w.heap.size u (xs.map (.int .u8)))
    (h63 : xss.length + 1 ≤ maxLen) (hbytes : (xss.length + 1) * bytes ≤ 140737488355328) (hbase : l ≤ w.heap.size) (hlo : lo ≤ w.heap.size)
    (hK : ∀ v' w', OwnS e2 e w' lo w'.heap.size v' (xss ++ [xs]) → (∃ row, w.grownBy w' row ∧ ∀ g, row = some g → lo ≤ g ∧ g < hi) → wpList P ops Q rest (a.put o.dst v') w') : wpList P ops Q (o :: rest) a w := by
  refine wpList_plain hgd fun K hK' => ?_
  obtain ⟨us, h1, h2⟩ := hO
  have hone : u.oneCell' = true := by
    obtain ⟨A, c', rfl, _⟩ := hu.form
    rfl
  obtain ⟨v', w', hr, r1, row, r2, r3⟩ := run_append_OwnV (P := P) w lo hi t o.type e2 i z bytes ht hi0 hz hsize hby hzs v us h1 hh ad c u hc hone (by rw [h2.len]; exact h63) (by rw [h2.len]; exact hbytes) hlo
  have keep : ∀ b cur, b < w.heap.size → w.heap[b]? = some (.cells cur e (0, 0)) → w'.heap[b]? = w.heap[b]? := fun b cur hb hc => r2.block b hb (fun he => by
    obtain ⟨_, _, cur', hc'⟩ := r3 b he.symm
    rw [hc] at hc'
    simp only [Option.some.injEq, Obj.cells.injEq] at hc'
    exact hne hc'.2.1.symm)
  have k2 := h2.keep (w' := w') (fun b cur a1 a2 => keep b cur (by omega))
  have k3 := hu.keep (w' := w') (fun b cur a1 a2 => keep b cur a2)
  have hsz := r2.size
  unfold Oper.wp execOp
  simp only [ho, resolve, invoke, builtin, Sem.run_bind, Sem.run_pure, Result.andThen_ok, List.map_toArray, List.map_cons, List.map_nil, hs, hxv, hr]
  exact hK' _ _ (hK v' w' ⟨us ++ [u], r1, (k2.more (Nat.le_refl _) hl).append (RowsAt.one (k3.more (Nat.le_refl _) hsz) (by omega))⟩ ⟨row, r2, fun g hg => ⟨(r3 g hg).1, (r3 g hg).2.1⟩⟩)
end

theorem info_rows : (Try.prog.info? 22).map (fun i => (i.zero, i.size, i.bytes)) = some (some (.slice none 0 0), 1, 24) := by kernel_rfl

theorem eqByteSS_same (v1 v2 : Value) (xss : List (List Int)) (w : World) (l1 h1 l2 h2 : Nat) (r1 : Rds .u8 w l1 h1 v1 xss) (r2 : Rds .u8 w l2 h2 v2 xss) :
    Calls Try.prog 40 #[v1, v2] w fun e w' => e = .returned (.bool true) ∧ Below w.heap.size w w' := by
  refine ofQuiet ?_
  obtain ⟨A, c, rfl, hc1, hc2⟩ := r1.form
  obtain ⟨B, d, rfl, hd1, hd2⟩ := r2.form
  unfold maxLen at hc2 hd2
  go_enter Try.func40, Try.ntmps40
  go_wp2_with fail
  go_loopw [5] (fun i wr => ∃ k n : Nat, k ≤ xss.length ∧ i = .int .i64 k ∧ wr = w.drewN n) (fun i _ => xss.length - (intOf i).toNat)
  case atStart => exact ⟨0, 0, Nat.zero_le _, rfl, rfl⟩
  case round =>
    obtain ⟨k, n, hk, rfl, rfl⟩ := hrel
    by_cases hlt : k < xss.length
    · obtain ⟨b, off, c', u, hv, hb1, hb2, c1, ru⟩ := r1.at_ hlt
      simp at hv
      obtain ⟨rfl, rfl⟩ := hv
      obtain ⟨b', off', c'', u', hv', hb1', hb2', c1', ru'⟩ := r2.at_ hlt
      simp at hv'
      obtain ⟨rfl, rfl⟩ := hv'
      go_wp2_with fail
      go_region_with (go_at_call 31; refine (eqByteS_any _ _ xss[k] xss[k] _ _ _ _ _ (ru.drewN _) (ru'.drewN _)).mono ?_; rw [decide_eq_true (rfl : xss[k] = xss[k])]; rintro e w1 ⟨rfl, m, rfl⟩)
      all_goals
        go_wp2_with fail
        exact ⟨⟨k + 1, _, by omega, by go_num, by first | rfl | exact World.drewN_drewN _ _ _ | simp only [World.drewN_drewN]⟩, by simp [intOf]; omega⟩
    · go_wp2_with fail
      go_ret
      exact ⟨rfl, _, rfl⟩
end Go.Proofs.Ytabfekfbdacboaa
