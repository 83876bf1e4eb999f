/- The append of one's own, at a step of a region that draws its order. -/
import Derived.Test.YtkpgkkifndlcpaaDoorCore
import Derived.Test.YtkpgkkifndlcpaaDoorBase
import Derived.RegionTactic
import Derived.Deep.RegionWith
import Derived.Deep.RegionHeld3
import Derived.Deep.AppendLies
import Derived.StillTailTactics
namespace Go.Proofs.YtkpgkkifndlcpaaDoor
open Go.RowKit

theorem Wrote.cell {w w' : World} {lo : Nat} {v : Value} (h : Wrote w w' lo v) {b o : Nat} (h1 : b < lo) (h2 : b < w.heap.size) : w'.cell? ⟨b, o, none⟩ = w.cell? ⟨b, o, none⟩ := by
  obtain ⟨row, hg, hr⟩ := h
  exact World.cell?_of_block (a := ⟨b, o, none⟩) (hg.block b h2 (fun e => by have := hr b e.symm; omega))
/-- A cell of old memory, behind a new block. -/
theorem cell_past {w : World} {o : Obj} {b i : Nat} {u : Value} (h : b < w.heap.size) (hc : w.cell? ⟨b, i, none⟩ = some u) : (w.alloc o).cell? ⟨b, i, none⟩ = some u :=
  (World.cell?_alloc_lt w o ⟨b, i, none⟩ h).trans hc
theorem cell_past' {w : World} {o : Obj} {b i : Nat} {u : Value} (h : b < w.heap.size) (hc : w.cell? ⟨b, i, none⟩ = some u) : (w.alloc o).drew.cell? ⟨b, i, none⟩ = some u :=
  (World.cell?_alloc_lt w o ⟨b, i, none⟩ h).trans hc
theorem frozen_past' {w : World} {o : Obj} {b i : Nat} (h : b < w.heap.size) (hc : w.frozen? ⟨b, i, none⟩ = false) : (w.alloc o).drew.frozen? ⟨b, i, none⟩ = false :=
  (World.frozen?_of_block (w := w) (w' := w.alloc o) (a := ⟨b, i, none⟩) (Below.heap_alloc w o b h)).trans hc
/-- A cell of old memory, behind a call that leaves it as it was. -/
theorem cell_below {w w' : World} {B b i : Nat} {u : Value} (hb : Below B w w') (h : b < B) (hc : w.cell? ⟨b, i, none⟩ = some u) : w'.cell? ⟨b, i, none⟩ = some u :=
  (hb.cell (p := ⟨b, i, none⟩) h).trans hc

theorem step_append_Own {P : Program} {w : World} {ops : Array Oper} {o : Oper} {a : Act} {K : Act → World → Prop} {Q : Exit → Act → World → Prop} {E : Prop} (hgd : o.guard = none) (s x : Operand) (t : TypeId)
    (ho : o.op = .call { callee := .builtin .append, args := #[s, x], argTypes := #[t, t] })
    (lo : Nat) (e : TypeId) (i : TypeInfo) (z : Value) (k : IntKind) (bytes : Nat) (ht : P.underlying t = some (.slice e)) (hi : P.info? e = some i) (hz : i.zero = some z)
    (hsize : i.size = 1) (hby : i.bytes = bytes) (hzs : z.cells.size = 1)
    (v : Value) (xs : List Int) (hs : a.eval s = v) (hO : Own k e w lo v xs) (xv : Value) (l h : Nat) (ys : List Int) (hxv : a.eval x = xv) (hx : Rd k w l h xv ys)
    (h63 : xs.length + ys.length ≤ maxLen) (hbytes : (xs.length + ys.length) * bytes ≤ 140737488355328) (hbase : lo ≤ w.heap.size)
    (hK : ∀ v' w', Own k e w' lo v' (xs ++ ys) → Wrote w w' lo v → K (a.put o.dst v') w') :
    if Region.wanted o (yielded ops a.tmps) = true then Oper.wp P o a w K Q else E := by
  have hw : Region.wanted o (yielded ops a.tmps) = true := by simp [Region.wanted, hgd]
  rw [if_pos hw]
  obtain ⟨v', w', hr, h2, h3⟩ := run_append_Own (P := P) w lo t o.type e i z k bytes ht hi hz hsize hby hzs v xs hO xv l h ys hx h63 hbytes hbase
  unfold Oper.wp execOp
  simp only [ho, resolve, invoke, builtin, Sem.run_bind, Sem.run_pure, Result.andThen_ok, List.map_toArray, List.map_cons, List.map_nil, hs, hxv, hr]
  exact hK v' w' h2 h3

theorem Own.open_ {k : IntKind} {e : TypeId} {w : World} {lo n c : Nat} {A : Option Addr} {xs : List Int} (h : Own k e w lo (.slice A n c) xs) (hp : 0 < xs.length) :
    ∃ g, A = some ⟨g, 0, none⟩ ∧ lo ≤ g ∧ g < w.heap.size ∧ n = xs.length ∧ w.ownsRow lo e 1 (.slice (some ⟨g, 0, none⟩) xs.length c) xs.length (xs.map (.int k)) := by
  rcases h with h | ⟨rfl, _⟩
  · rcases h.2 with ⟨_, hn⟩ | ⟨g, cap, cur, hv, hb, hg, r⟩
    · omega
    · cases hv
      exact ⟨g, rfl, hb, (Array.getElem?_eq_some_iff.1 hg).1, rfl, h⟩
  · simp at hp
theorem Own.store {k : IntKind} {e : TypeId} {w : World} {lo g n c : Nat} {xs : List Int} (h : Own k e w lo (.slice (some ⟨g, 0, none⟩) n c) xs) (j : Nat) (hj : j < xs.length) (x : Int) :
    Own k e (w.setCell ⟨g, j, none⟩ (.int k x)) lo (.slice (some ⟨g, 0, none⟩) n c) (xs.set j x) := by
  obtain ⟨g', hg, _, _, hn, row⟩ := h.open_ (by omega)
  cases hg
  subst hn
  have st := (row.stored j (.int k x)).1
  rw [map_set] at st
  exact .inl (by rw [List.length_set]; exact st)
theorem over_get (ys xs : List Int) (h : ys.length < xs.length) : (ys ++ xs.drop ys.length)[ys.length]? = some xs[ys.length] := by
  rw [List.getElem?_append_right (Nat.le_refl _), Nat.sub_self, List.getElem?_drop]
  simp [h]

theorem Rd.lit1 {k : IntKind} {e : TypeId} {w : World} {x : Int} : Rd k (w.alloc (.cells #[.int k x] e)) 0 (w.heap.size + 1) (.slice (some ⟨w.heap.size, 0, none⟩) 1 1) [x] := by
  have h := (Own.lit1 k e w 0 x (Nat.zero_le _)).rd
  simp only [World.size_alloc] at h
  exact h
end Go.Proofs.YtkpgkkifndlcpaaDoor
