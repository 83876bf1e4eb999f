/- The draws of keys, words and texts. -/
import Derived.Test.YtkpgkkifndlcpaaDoorDraw
namespace Go.Proofs.YtkpgkkifndlcpaaDoor
open Go.RowKit
set_option linter.unusedVariables false

/-- A slice of texts: each is short. -/
def RdT (w : World) (lo : Nat) (v : Value) (n : Nat) : Prop :=
  ∃ b c, v = .slice (some ⟨b, 0, none⟩) n c ∧ n ≤ c ∧ c ≤ 100 ∧ lo ≤ b ∧ b < w.heap.size ∧ ∀ i, i < n → ∃ s : ByteArray, s.size ≤ 20 ∧ w.cell? ⟨b, i, none⟩ = some (.string s)
theorem l1Str_any (v : Value) (n : Nat) (w : World) (g hi : Nat) (c : Cur w g hi) (r : RdT w (g + 1) v n) (hn : 0 < n) :
    Calls Tryd.prog 21 #[.pointer (some ⟨g, 0, none⟩), v] w fun e w' => ∃ s : ByteArray, s.size ≤ 20 ∧ e = .returned (.string s) ∧ Cur w' g hi ∧ Touch w w' g (g + 1) := by
  obtain ⟨b, cc, rfl, hc1, hc2, hb1, hb2, hcell⟩ := r
  go_enter Tryd.func21, Tryd.ntmps21
  go_wp2_with fail
  refine (l1Below_any _ _ g hi c ⟨by omega, by omega⟩).mono ?_
  rintro e w1 ⟨x, ⟨x0, x1⟩, rfl, c1, t1⟩
  obtain ⟨k, rfl⟩ := Int.eq_ofNat_of_zero_le x0
  have hk : k < n := by omega
  obtain ⟨s, hs, d1⟩ := hcell k hk
  have d2 : w1.cell? ⟨b, k, none⟩ = some (.string s) := (World.cell?_of_block (a := ⟨b, k, none⟩) (t1.block b hb2 (by omega))).trans d1
  clear hcell d1
  go_wp2_with fail
  go_ret
  exact ⟨s, hs, rfl, c1, t1⟩
theorem RdT.lit {w : World} {cs : Array Value} {e : TypeId} {n lo : Nat} (hl : lo ≤ w.heap.size) (hn : cs.size = n) (h100 : n ≤ 100) (h : ∀ i, i < n → ∃ s : ByteArray, s.size ≤ 20 ∧ cs[i]? = some (.string s)) :
    RdT (w.alloc (.cells cs e)) lo (.slice (some ⟨w.heap.size, 0, none⟩) n n) n :=
  ⟨_, _, rfl, Nat.le_refl _, h100, hl, by simp, fun i hi => by
    obtain ⟨s, h1, h2⟩ := h i hi
    exact ⟨s, h1, (cell_of_row _ _ i _ e (0, 0) (heap_alloc_new w _)).trans h2⟩⟩
end Go.Proofs.YtkpgkkifndlcpaaDoor
