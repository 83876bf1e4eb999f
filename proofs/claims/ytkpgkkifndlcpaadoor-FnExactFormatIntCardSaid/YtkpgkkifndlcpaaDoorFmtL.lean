/- The law of FormatInt: its walk. -/
import Derived.Test.YtkpgkkifndlcpaaDoorFmt
import Derived.Lib.AppendIntMem
namespace Go.Proofs.YtkpgkkifndlcpaaDoor
open Go.RowKit
set_option linter.unusedVariables false

theorem law_FnExactFormatInt (a : Int) (ha : In64 a) (w : World) (htab : Lib.TabIs Tryd.prog w "internal/strconv.uint64pow10" .u64 Lib.pow10Tab) :
    Calls Tryd.prog 5 #[.int .i64 a] w fun e w' => e = .returned (.bool true) ∧ Below w.heap.size w w' := by
  have tb := Lib.tabBelow_of_tabIs htab
  go_enter Tryd.func5, Tryd.ntmps5
  go_wp2_with fail
  refine (specFmt a _ ha).mono ?_
  rintro e w1 ⟨rfl, b1⟩
  have s1 := b1.size
  go_wp2_with fail
  refine (implFmt a _ ha (tb _ b1)).mono ?_
  rintro e w2 ⟨rfl, b2⟩
  have B2 := b1.trans (b2.mono s1)
  generalize strI a = S
  go_wp2_with fail
  go_ret
  exact ⟨rfl, B2⟩
end Go.Proofs.YtkpgkkifndlcpaaDoor
