/-
  No cell of these rows narrows 'for every input' (looked for: loops, veiled, ifaces, maps, wideKeys, modest, calm, conditions, laid).
  DERIVED. THE GIVEN ROWS OF THIS SEAT. 7 by the template 'for every input the law returns true; each argument reads behind the call as it read before'; 0 by the template 'total and deterministic' (their statements: YtabfekfbdacboaaTotals.lean).
  GIVEN WITH THE SEED: the statements are not yours to turn. If you find one false, say at which input.
  Laid BY PROGRAM, IN A SANDBOX (cutbox-rows.mjs): the forced cells as the released guide's own fill.sh prints them over the translation 729c49e9848c66e6… (all of the seat's roots in one cut). By AI agents, Wed Nov 11 2026. No macro, syntax, notation, axiom, sorry.
-/
import Derived.Test.YtabfekfbdacboaaChecked
import GoSem.Claim
import GoSem.ClaimJoined
import GoSem.ClaimMapViews
import Derived.JoinedTies
import Derived.KernelRfl
namespace Go.Proofs.Ytabfekfbdacboaa
/- THE CELL 'sum', in the pinned program and in every row, IS THE sha256 OF THE DUMP (.gsa) THAT YtabfekfbdacboaaProg.lean LOADS. Nothing in Lean hashes anything: it is a label: what it is worth is what the hold of that sum in a sandbox is worth. -/
noncomputable def Try.pinned : Pinned := { name := "ytabfekfbdacboaa", sum := "729c49e9848c66e6db61e89dcec71ab1f4d67e4a88af11935544ab53a20576c8", checked := Try.checked }
namespace Rows
def none {H : Type} : Left H := { results := [], args := [] }

/-- 'laws.FnSelections': WHATEVER THE INPUT: true; the input reads as it did. -/
def fnSelectionsSpec : ChangeSpec := { name := "fnSelections", fn := fun _ => fun
  | [d] => { results := [.lit (.bool true)], args := [d] }
  | _ => none }
def fnSelectionsRow : OpenClaim := { program := "ytabfekfbdacboaa", sum := "729c49e9848c66e6db61e89dcec71ab1f4d67e4a88af11935544ab53a20576c8", func := "loop.example/g00516/laws.FnSelections", spec := "fnSelections", unfollowed := true, recurses := true, apart := false }
def FnSelectionsSaid : Prop := fnSelectionsRow.holds Try.pinned (OpenSpec.ofChange fnSelectionsSpec)

/-- ITS FALSE NEIGHBOUR: 'it returns false'. Refute it at one input. -/
def fnSelectionsWrong : ChangeSpec := { name := "fnSelections", fn := fun _ => fun
  | [d] => { results := [.lit (.bool false)], args := [d] }
  | _ => none }
def FnSelectionsWrongFalsely : Prop := fnSelectionsRow.holds Try.pinned (OpenSpec.ofChange fnSelectionsWrong)

/-- 'laws.FnExactPadTo': WHATEVER THE INPUT: true; the input reads as it did. -/
def fnExactPadToSpec : ChangeSpec := { name := "fnExactPadTo", fn := fun _ => fun
  | [d1, d2] => { results := [.lit (.bool true)], args := [d1, d2] }
  | _ => none }
def fnExactPadToRow : OpenClaim := { program := "ytabfekfbdacboaa", sum := "729c49e9848c66e6db61e89dcec71ab1f4d67e4a88af11935544ab53a20576c8", func := "loop.example/g00516/laws.FnExactPadTo", spec := "fnExactPadTo", apart := false }
def FnExactPadToSaid : Prop := fnExactPadToRow.holds Try.pinned (OpenSpec.ofChange fnExactPadToSpec)

/-- ITS FALSE NEIGHBOUR: 'it returns false'. Refute it at one input. -/
def fnExactPadToWrong : ChangeSpec := { name := "fnExactPadTo", fn := fun _ => fun
  | [d1, d2] => { results := [.lit (.bool false)], args := [d1, d2] }
  | _ => none }
def FnExactPadToWrongFalsely : Prop := fnExactPadToRow.holds Try.pinned (OpenSpec.ofChange fnExactPadToWrong)

/-- 'laws.FnNumberShares': WHATEVER THE INPUT: true; the input reads as it did. -/
def fnNumberSharesSpec : ChangeSpec := { name := "fnNumberShares", fn := fun _ => fun
  | [d] => { results := [.lit (.bool true)], args := [d] }
  | _ => none }
def fnNumberSharesRow : OpenClaim := { program := "ytabfekfbdacboaa", sum := "729c49e9848c66e6db61e89dcec71ab1f4d67e4a88af11935544ab53a20576c8", func := "loop.example/g00516/laws.FnNumberShares", spec := "fnNumberShares", apart := false }
def FnNumberSharesSaid : Prop := fnNumberSharesRow.holds Try.pinned (OpenSpec.ofChange fnNumberSharesSpec)

/-- ITS FALSE NEIGHBOUR: 'it returns false'. Refute it at one input. -/
def fnNumberSharesWrong : ChangeSpec := { name := "fnNumberShares", fn := fun _ => fun
  | [d] => { results := [.lit (.bool false)], args := [d] }
  | _ => none }
def FnNumberSharesWrongFalsely : Prop := fnNumberSharesRow.holds Try.pinned (OpenSpec.ofChange fnNumberSharesWrong)

/-- 'laws.FnExactSplitBytes': WHATEVER THE INPUT: true; the input reads as it did. -/
def fnExactSplitBytesSpec : ChangeSpec := { name := "fnExactSplitBytes", fn := fun _ => fun
  | [d1, d2] => { results := [.lit (.bool true)], args := [d1, d2] }
  | _ => none }
def fnExactSplitBytesRow : OpenClaim := { program := "ytabfekfbdacboaa", sum := "729c49e9848c66e6db61e89dcec71ab1f4d67e4a88af11935544ab53a20576c8", func := "loop.example/g00516/laws.FnExactSplitBytes", spec := "fnExactSplitBytes", apart := false }
def FnExactSplitBytesSaid : Prop := fnExactSplitBytesRow.holds Try.pinned (OpenSpec.ofChange fnExactSplitBytesSpec)

/-- ITS FALSE NEIGHBOUR: 'it returns false'. Refute it at one input. -/
def fnExactSplitBytesWrong : ChangeSpec := { name := "fnExactSplitBytes", fn := fun _ => fun
  | [d1, d2] => { results := [.lit (.bool false)], args := [d1, d2] }
  | _ => none }
def FnExactSplitBytesWrongFalsely : Prop := fnExactSplitBytesRow.holds Try.pinned (OpenSpec.ofChange fnExactSplitBytesWrong)

/-- 'laws.FnTrees': WHATEVER THE INPUT: true; the input reads as it did. -/
def fnTreesSpec : ChangeSpec := { name := "fnTrees", fn := fun _ => fun
  | [d] => { results := [.lit (.bool true)], args := [d] }
  | _ => none }
def fnTreesRow : OpenClaim := { program := "ytabfekfbdacboaa", sum := "729c49e9848c66e6db61e89dcec71ab1f4d67e4a88af11935544ab53a20576c8", func := "loop.example/g00516/laws.FnTrees", spec := "fnTrees", apart := false }
def FnTreesSaid : Prop := fnTreesRow.holds Try.pinned (OpenSpec.ofChange fnTreesSpec)

/-- ITS FALSE NEIGHBOUR: 'it returns false'. Refute it at one input. -/
def fnTreesWrong : ChangeSpec := { name := "fnTrees", fn := fun _ => fun
  | [d] => { results := [.lit (.bool false)], args := [d] }
  | _ => none }
def FnTreesWrongFalsely : Prop := fnTreesRow.holds Try.pinned (OpenSpec.ofChange fnTreesWrong)

/-- 'laws.FnExactUnpackSelection': WHATEVER THE INPUT: true; the input reads as it did. -/
def fnExactUnpackSelectionSpec : ChangeSpec := { name := "fnExactUnpackSelection", fn := fun _ => fun
  | [d] => { results := [.lit (.bool true)], args := [d] }
  | _ => none }
def fnExactUnpackSelectionRow : OpenClaim := { program := "ytabfekfbdacboaa", sum := "729c49e9848c66e6db61e89dcec71ab1f4d67e4a88af11935544ab53a20576c8", func := "loop.example/g00516/laws.FnExactUnpackSelection", spec := "fnExactUnpackSelection", unfollowed := true, recurses := true, apart := false }
def FnExactUnpackSelectionSaid : Prop := fnExactUnpackSelectionRow.holds Try.pinned (OpenSpec.ofChange fnExactUnpackSelectionSpec)

/-- ITS FALSE NEIGHBOUR: 'it returns false'. Refute it at one input. -/
def fnExactUnpackSelectionWrong : ChangeSpec := { name := "fnExactUnpackSelection", fn := fun _ => fun
  | [d] => { results := [.lit (.bool false)], args := [d] }
  | _ => none }
def FnExactUnpackSelectionWrongFalsely : Prop := fnExactUnpackSelectionRow.holds Try.pinned (OpenSpec.ofChange fnExactUnpackSelectionWrong)

/-- 'laws.FnXor': WHATEVER THE INPUT: true; the input reads as it did. -/
def fnXorSpec : ChangeSpec := { name := "fnXor", fn := fun _ => fun
  | [d] => { results := [.lit (.bool true)], args := [d] }
  | _ => none }
def fnXorRow : OpenClaim := { program := "ytabfekfbdacboaa", sum := "729c49e9848c66e6db61e89dcec71ab1f4d67e4a88af11935544ab53a20576c8", func := "loop.example/g00516/laws.FnXor", spec := "fnXor", unfollowed := true, recurses := true, apart := false }
def FnXorSaid : Prop := fnXorRow.holds Try.pinned (OpenSpec.ofChange fnXorSpec)

/-- ITS FALSE NEIGHBOUR: 'it returns false'. Refute it at one input. -/
def fnXorWrong : ChangeSpec := { name := "fnXor", fn := fun _ => fun
  | [d] => { results := [.lit (.bool false)], args := [d] }
  | _ => none }
def FnXorWrongFalsely : Prop := fnXorRow.holds Try.pinned (OpenSpec.ofChange fnXorWrong)

/- THE SECOND FORM. 'bulk': how many values and letters a reading holds, each counted each time it is reached (what is shared counts as often as it is met; a slice's spare places count too). A statement '..UptoSaid' is the law's where the arguments, and the package variables that the reading takes, are together of bulk at most 1048576: NARROWER than '..Said'. Prove '..Said' where nothing that the law and all that it calls make is longer than what came in: it says more and counts as full. Else prove '..UptoSaid'. A law counts once. -/
mutual
def uptoBulk {H : Type} : DataW H → Nat
  | .lit (.string bytes) => bytes.length + 1
  | .lit _ => 1
  | .nil => 1
  | .ptr d => uptoBulk d + 1
  | .slice elems spare => uptoBulkAll elems + uptoBulkAll spare + 1
  | .agg parts => uptoBulkAll parts + 1
  | .iface _ d => uptoBulk d + 1
  | .map entries => uptoBulkEntries entries + 1
  | .held _ => 1
def uptoBulkAll {H : Type} : List (DataW H) → Nat
  | [] => 0
  | d :: r => uptoBulk d + uptoBulkAll r
def uptoBulkEntries {H : Type} : List (Lit × DataW H) → Nat
  | [] => 0
  | x :: r => uptoBulkEntry x + uptoBulkEntries r
def uptoBulkEntry {H : Type} : Lit × DataW H → Nat
  | (.string bytes, d) => bytes.length + uptoBulk d + 1
  | (_, d) => uptoBulk d + 1
 end
def uptoSmall : (H : Type) → List (DataW H) → Bool := fun _ ds => decide (uptoBulkAll ds ≤ 1048576)
def OpenSpec.upto (s : _root_.Go.ChangeSpec) : _root_.Go.OpenSpec := { _root_.Go.OpenSpec.ofChange s with cond := some uptoSmall }

/-- 'laws.FnSelections', WHERE WHAT IT READS IS OF BULK AT MOST 1048576: true; the input reads as it did. -/
def fnSelectionsUptoRow : OpenClaim := { program := "ytabfekfbdacboaa", sum := "729c49e9848c66e6db61e89dcec71ab1f4d67e4a88af11935544ab53a20576c8", func := "loop.example/g00516/laws.FnSelections", spec := "fnSelections", unfollowed := true, recurses := true, apart := false, narrowed := true }
def FnSelectionsUptoSaid : Prop := fnSelectionsUptoRow.holds Try.pinned (OpenSpec.upto fnSelectionsSpec)

/-- 'laws.FnExactPadTo', WHERE WHAT IT READS IS OF BULK AT MOST 1048576: true; the input reads as it did. -/
def fnExactPadToUptoRow : OpenClaim := { program := "ytabfekfbdacboaa", sum := "729c49e9848c66e6db61e89dcec71ab1f4d67e4a88af11935544ab53a20576c8", func := "loop.example/g00516/laws.FnExactPadTo", spec := "fnExactPadTo", apart := false, narrowed := true }
def FnExactPadToUptoSaid : Prop := fnExactPadToUptoRow.holds Try.pinned (OpenSpec.upto fnExactPadToSpec)

/-- 'laws.FnNumberShares', WHERE WHAT IT READS IS OF BULK AT MOST 1048576: true; the input reads as it did. -/
def fnNumberSharesUptoRow : OpenClaim := { program := "ytabfekfbdacboaa", sum := "729c49e9848c66e6db61e89dcec71ab1f4d67e4a88af11935544ab53a20576c8", func := "loop.example/g00516/laws.FnNumberShares", spec := "fnNumberShares", apart := false, narrowed := true }
def FnNumberSharesUptoSaid : Prop := fnNumberSharesUptoRow.holds Try.pinned (OpenSpec.upto fnNumberSharesSpec)

/-- 'laws.FnExactSplitBytes', WHERE WHAT IT READS IS OF BULK AT MOST 1048576: true; the input reads as it did. -/
def fnExactSplitBytesUptoRow : OpenClaim := { program := "ytabfekfbdacboaa", sum := "729c49e9848c66e6db61e89dcec71ab1f4d67e4a88af11935544ab53a20576c8", func := "loop.example/g00516/laws.FnExactSplitBytes", spec := "fnExactSplitBytes", apart := false, narrowed := true }
def FnExactSplitBytesUptoSaid : Prop := fnExactSplitBytesUptoRow.holds Try.pinned (OpenSpec.upto fnExactSplitBytesSpec)

/-- 'laws.FnTrees', WHERE WHAT IT READS IS OF BULK AT MOST 1048576: true; the input reads as it did. -/
def fnTreesUptoRow : OpenClaim := { program := "ytabfekfbdacboaa", sum := "729c49e9848c66e6db61e89dcec71ab1f4d67e4a88af11935544ab53a20576c8", func := "loop.example/g00516/laws.FnTrees", spec := "fnTrees", apart := false, narrowed := true }
def FnTreesUptoSaid : Prop := fnTreesUptoRow.holds Try.pinned (OpenSpec.upto fnTreesSpec)

/-- 'laws.FnExactUnpackSelection', WHERE WHAT IT READS IS OF BULK AT MOST 1048576: true; the input reads as it did. -/
def fnExactUnpackSelectionUptoRow : OpenClaim := { program := "ytabfekfbdacboaa", sum := "729c49e9848c66e6db61e89dcec71ab1f4d67e4a88af11935544ab53a20576c8", func := "loop.example/g00516/laws.FnExactUnpackSelection", spec := "fnExactUnpackSelection", unfollowed := true, recurses := true, apart := false, narrowed := true }
def FnExactUnpackSelectionUptoSaid : Prop := fnExactUnpackSelectionUptoRow.holds Try.pinned (OpenSpec.upto fnExactUnpackSelectionSpec)

/-- 'laws.FnXor', WHERE WHAT IT READS IS OF BULK AT MOST 1048576: true; the input reads as it did. -/
def fnXorUptoRow : OpenClaim := { program := "ytabfekfbdacboaa", sum := "729c49e9848c66e6db61e89dcec71ab1f4d67e4a88af11935544ab53a20576c8", func := "loop.example/g00516/laws.FnXor", spec := "fnXor", unfollowed := true, recurses := true, apart := false, narrowed := true }
def FnXorUptoSaid : Prop := fnXorUptoRow.holds Try.pinned (OpenSpec.upto fnXorSpec)

end Rows
end Go.Proofs.Ytabfekfbdacboaa
