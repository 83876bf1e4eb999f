/- The law of ParseInt: its walk; a start that fits; what the row's laid cell gives it. -/
import Derived.Test.YtkpgkkifndlcpaaDoorParse
import Derived.Test.YtkpgkkifndlcpaaDoorLaid
namespace Go.Proofs.YtkpgkkifndlcpaaDoor
open Go.RowKit Go.ChangeShapes Go.WideShapes
set_option linter.unusedVariables false

theorem law_FnExactParseInt (s : ByteArray) (w : World) (htab : Lib.TabIs Tryd.prog w "internal/strconv.uint64pow10" .u64 Lib.pow10Tab) (tp : TypeId) (p : Value) (hvar : ∀ w' : World, Below w.heap.size w w' → w'.var? Tryd.prog "strconv.ErrSyntax" = some #[.iface tp p]) :
    Calls Tryd.prog 3 #[.string s] w fun e w' => e = .returned (.bool true) ∧ Below w.heap.size w w' := by
  have tb := Lib.tabBelow_of_tabIs htab
  by_cases hs : s.size ≤ 1048576
  · go_enter Tryd.func3, Tryd.ntmps3
    go_wp2_with fail
    refine (specParse s _ hs).mono ?_
    rintro e w1 ⟨n, b, rfl, p1, b1⟩
    have s1 := b1.size
    go_wp2_with fail
    refine (implParse s _ hs (tb _ b1) tp p (hvar _ b1)).mono ?_
    rintro e w2 ⟨m, c, rfl, p2, b2⟩
    obtain ⟨rfl, rfl⟩ := p1.one p2
    have B2 := b1.trans (b2.mono s1)
    go_wp2_with fail
    go_ret
    exact ⟨rfl, B2⟩
  · go_enter Tryd.func3, Tryd.ntmps3
    go_wp2_with fail
    go_ret
    exact ⟨rfl, Below.refl _ _⟩

noncomputable def low : Nat := (World.holding Tryd.prog default ⟨#[], #[], []⟩).heap.size
/-- The settled world, the tables and the sentinels laid. -/
noncomputable def allWorld (os : Os) : World :=
  let w0 := World.holding Tryd.prog os ⟨#[.cells #[.string synS] 75, .cells #[.string rngS] 75], #[], []⟩
  let put (h : Array Obj) (g : Nat) (cs : Array Value) : Array Obj := h.modify g fun
    | .cells _ t frozen => .cells cs t frozen
    | o => o
  { w0 with heap := put (put (put (put (put w0.heap 3 (tab32.map (Value.int .u8)).toArray) 4 (tab64.map (Value.int .u8)).toArray) 2 (tab10.map (Value.int .u64)).toArray) 0 #[.iface 73 (.pointer (some ⟨low, 0, none⟩))]) 1 #[.iface 73 (.pointer (some ⟨low + 1, 0, none⟩))] }
set_option maxRecDepth 1000000 in
theorem allWorld_met (os : Os) (args : Array Value) : laidMet Tryd.prog Rows.fnExactParseIntRow.laid ((allWorld os).forCall (fun _ _ => 0) ⟨#[], args, []⟩).memory :=
  laidMet_of_run' 8 (by kernel_rfl) (by kernel_rfl)

theorem starE : "*" ++ "errors.errorString" = "*errors.errorString" := by decide
theorem rowE (u : TypeId) (h : Tryd.prog.typeName? 3 u = some "*errors.errorString") : u = 73 :=
  typeName_ptr_named (nm := "errors.errorString") (by rw [starE]; kernel_rfl) (by kernel_rfl) (by decide) u (by rw [starE]; exact h)
theorem syn_of_laid {W : World} {x1 x2 x3 x4 : String × DataW Unit} {r : List (String × DataW Unit)} (h : laidMet Tryd.prog (x1 :: x2 :: x3 :: x4 :: ("strconv.ErrSyntax", Rows.laid_strconv_ErrSyntax) :: r) W) :
    ∃ a, W.var? Tryd.prog "strconv.ErrSyntax" = some #[.iface 73 (.pointer (some a))] := by
  obtain ⟨a, s, hv, -, -, -⟩ := laid_sentinel (ts := 9) h.tail.tail.tail.tail (g := 0) (by kernel_rfl) (ti := 36) (by kernel_rfl) Tryd.underlying36 rowE Tryd.underlying73 Tryd.underlying75 rfl rfl Tryd.underlying9 (by kernel_rfl) (by kernel_rfl)
  exact ⟨a, hv⟩
theorem syn_below {W : World} {v : Value} (h : W.var? Tryd.prog "strconv.ErrSyntax" = some #[v]) : ∀ w' : World, Below W.heap.size W w' → w'.var? Tryd.prog "strconv.ErrSyntax" = some #[v] := by
  intro w' b
  have hg : Tryd.prog.globalNamed "strconv.ErrSyntax" = some 0 := by kernel_rfl
  unfold World.var? at h ⊢
  rw [hg] at h ⊢
  have hlt : 0 < W.heap.size := by
    rcases Nat.lt_or_ge 0 W.heap.size with h' | h'
    · exact h'
    · simp [Array.getElem?_eq_none h'] at h
  simp only [Option.bind_some] at h ⊢
  rw [b.block 0 hlt]
  exact h
end Go.Proofs.YtkpgkkifndlcpaaDoor
