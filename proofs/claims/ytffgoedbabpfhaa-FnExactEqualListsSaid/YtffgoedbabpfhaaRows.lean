/-
  No cell of these rows narrows 'for every input' (looked for: loops, veiled, ifaces, maps, wideKeys, modest, calm, conditions, laid).
  DERIVED. THE GIVEN ROWS OF THIS SEAT. 8 by the template 'for every input the law returns true; each argument reads behind the call as it read before'; 0 by the template 'total and deterministic' (their statements: YtffgoedbabpfhaaTotals.lean).
  GIVEN WITH THE SEED: the statements are not yours to turn. If you find one false, say at which input.
  Laid BY PROGRAM, IN A SANDBOX (cutbox-rows.mjs): the forced cells as the released guide's own fill.sh prints them over the translation 154ac259f8c8277a… (all of the seat's roots in one cut). By AI agents, Wed Nov 11 2026. No macro, syntax, notation, axiom, sorry.
-/
import Derived.Test.YtffgoedbabpfhaaChecked
import GoSem.Claim
import GoSem.ClaimJoined
import GoSem.ClaimMapViews
import Derived.JoinedTies
import Derived.KernelRfl
namespace Go.Proofs.Ytffgoedbabpfhaa
/- THE CELL 'sum', in the pinned program and in every row, IS THE sha256 OF THE DUMP (.gsa) THAT YtffgoedbabpfhaaProg.lean LOADS. Nothing in Lean hashes anything: it is a label: what it is worth is what the hold of that sum in a sandbox is worth. -/
noncomputable def Try.pinned : Pinned := { name := "ytffgoedbabpfhaa", sum := "154ac259f8c8277a8c745aa394fa0a2eb380acfca2621382d8dee3239ffe4381", checked := Try.checked }
namespace Rows
def none {H : Type} : Left H := { results := [], args := [] }

/-- 'laws.FnExactXorBytes': WHATEVER THE INPUT: true; the input reads as it did. -/
def fnExactXorBytesSpec : ChangeSpec := { name := "fnExactXorBytes", fn := fun _ => fun
  | [d1, d2] => { results := [.lit (.bool true)], args := [d1, d2] }
  | _ => none }
def fnExactXorBytesRow : OpenClaim := { program := "ytffgoedbabpfhaa", sum := "154ac259f8c8277a8c745aa394fa0a2eb380acfca2621382d8dee3239ffe4381", func := "loop.example/g00516/laws.FnExactXorBytes", spec := "fnExactXorBytes", apart := false }
def FnExactXorBytesSaid : Prop := fnExactXorBytesRow.holds Try.pinned (OpenSpec.ofChange fnExactXorBytesSpec)

/-- ITS FALSE NEIGHBOUR: 'it returns false'. Refute it at one input. -/
def fnExactXorBytesWrong : ChangeSpec := { name := "fnExactXorBytes", fn := fun _ => fun
  | [d1, d2] => { results := [.lit (.bool false)], args := [d1, d2] }
  | _ => none }
def FnExactXorBytesWrongFalsely : Prop := fnExactXorBytesRow.holds Try.pinned (OpenSpec.ofChange fnExactXorBytesWrong)

/-- 'laws.FnExactSplitBytes': WHATEVER THE INPUT: true; the input reads as it did. -/
def fnExactSplitBytesSpec : ChangeSpec := { name := "fnExactSplitBytes", fn := fun _ => fun
  | [d1, d2] => { results := [.lit (.bool true)], args := [d1, d2] }
  | _ => none }
def fnExactSplitBytesRow : OpenClaim := { program := "ytffgoedbabpfhaa", sum := "154ac259f8c8277a8c745aa394fa0a2eb380acfca2621382d8dee3239ffe4381", func := "loop.example/g00516/laws.FnExactSplitBytes", spec := "fnExactSplitBytes", apart := false }
def FnExactSplitBytesSaid : Prop := fnExactSplitBytesRow.holds Try.pinned (OpenSpec.ofChange fnExactSplitBytesSpec)

/-- ITS FALSE NEIGHBOUR: 'it returns false'. Refute it at one input. -/
def fnExactSplitBytesWrong : ChangeSpec := { name := "fnExactSplitBytes", fn := fun _ => fun
  | [d1, d2] => { results := [.lit (.bool false)], args := [d1, d2] }
  | _ => none }
def FnExactSplitBytesWrongFalsely : Prop := fnExactSplitBytesRow.holds Try.pinned (OpenSpec.ofChange fnExactSplitBytesWrong)

/-- 'laws.FnExactEqualLists': WHATEVER THE INPUT: true; the input reads as it did. -/
def fnExactEqualListsSpec : ChangeSpec := { name := "fnExactEqualLists", fn := fun _ => fun
  | [d1, d2] => { results := [.lit (.bool true)], args := [d1, d2] }
  | _ => none }
def fnExactEqualListsRow : OpenClaim := { program := "ytffgoedbabpfhaa", sum := "154ac259f8c8277a8c745aa394fa0a2eb380acfca2621382d8dee3239ffe4381", func := "loop.example/g00516/laws.FnExactEqualLists", spec := "fnExactEqualLists", unfollowed := true, recurses := true, apart := false }
def FnExactEqualListsSaid : Prop := fnExactEqualListsRow.holds Try.pinned (OpenSpec.ofChange fnExactEqualListsSpec)

/-- ITS FALSE NEIGHBOUR: 'it returns false'. Refute it at one input. -/
def fnExactEqualListsWrong : ChangeSpec := { name := "fnExactEqualLists", fn := fun _ => fun
  | [d1, d2] => { results := [.lit (.bool false)], args := [d1, d2] }
  | _ => none }
def FnExactEqualListsWrongFalsely : Prop := fnExactEqualListsRow.holds Try.pinned (OpenSpec.ofChange fnExactEqualListsWrong)

/-- 'laws.FnExactJoinBytes': WHATEVER THE INPUT: true; the input reads as it did. -/
def fnExactJoinBytesSpec : ChangeSpec := { name := "fnExactJoinBytes", fn := fun _ => fun
  | [d] => { results := [.lit (.bool true)], args := [d] }
  | _ => none }
def fnExactJoinBytesRow : OpenClaim := { program := "ytffgoedbabpfhaa", sum := "154ac259f8c8277a8c745aa394fa0a2eb380acfca2621382d8dee3239ffe4381", func := "loop.example/g00516/laws.FnExactJoinBytes", spec := "fnExactJoinBytes", apart := false }
def FnExactJoinBytesSaid : Prop := fnExactJoinBytesRow.holds Try.pinned (OpenSpec.ofChange fnExactJoinBytesSpec)

/-- ITS FALSE NEIGHBOUR: 'it returns false'. Refute it at one input. -/
def fnExactJoinBytesWrong : ChangeSpec := { name := "fnExactJoinBytes", fn := fun _ => fun
  | [d] => { results := [.lit (.bool false)], args := [d] }
  | _ => none }
def FnExactJoinBytesWrongFalsely : Prop := fnExactJoinBytesRow.holds Try.pinned (OpenSpec.ofChange fnExactJoinBytesWrong)

/-- 'laws.FnExactXorAll': WHATEVER THE INPUT: true; the input reads as it did. -/
def fnExactXorAllSpec : ChangeSpec := { name := "fnExactXorAll", fn := fun _ => fun
  | [d] => { results := [.lit (.bool true)], args := [d] }
  | _ => none }
def fnExactXorAllRow : OpenClaim := { program := "ytffgoedbabpfhaa", sum := "154ac259f8c8277a8c745aa394fa0a2eb380acfca2621382d8dee3239ffe4381", func := "loop.example/g00516/laws.FnExactXorAll", spec := "fnExactXorAll", apart := false }
def FnExactXorAllSaid : Prop := fnExactXorAllRow.holds Try.pinned (OpenSpec.ofChange fnExactXorAllSpec)

/-- ITS FALSE NEIGHBOUR: 'it returns false'. Refute it at one input. -/
def fnExactXorAllWrong : ChangeSpec := { name := "fnExactXorAll", fn := fun _ => fun
  | [d] => { results := [.lit (.bool false)], args := [d] }
  | _ => none }
def FnExactXorAllWrongFalsely : Prop := fnExactXorAllRow.holds Try.pinned (OpenSpec.ofChange fnExactXorAllWrong)

/-- 'laws.FnExactMissingShare': WHATEVER THE INPUT: true; the input reads as it did. -/
def fnExactMissingShareSpec : ChangeSpec := { name := "fnExactMissingShare", fn := fun _ => fun
  | [d1, d2] => { results := [.lit (.bool true)], args := [d1, d2] }
  | _ => none }
def fnExactMissingShareRow : OpenClaim := { program := "ytffgoedbabpfhaa", sum := "154ac259f8c8277a8c745aa394fa0a2eb380acfca2621382d8dee3239ffe4381", func := "loop.example/g00516/laws.FnExactMissingShare", spec := "fnExactMissingShare", apart := false }
def FnExactMissingShareSaid : Prop := fnExactMissingShareRow.holds Try.pinned (OpenSpec.ofChange fnExactMissingShareSpec)

/-- ITS FALSE NEIGHBOUR: 'it returns false'. Refute it at one input. -/
def fnExactMissingShareWrong : ChangeSpec := { name := "fnExactMissingShare", fn := fun _ => fun
  | [d1, d2] => { results := [.lit (.bool false)], args := [d1, d2] }
  | _ => none }
def FnExactMissingShareWrongFalsely : Prop := fnExactMissingShareRow.holds Try.pinned (OpenSpec.ofChange fnExactMissingShareWrong)

/-- 'laws.FnExactSelectXor': WHATEVER THE INPUT: true; the input reads as it did. -/
def fnExactSelectXorSpec : ChangeSpec := { name := "fnExactSelectXor", fn := fun _ => fun
  | [d1, d2] => { results := [.lit (.bool true)], args := [d1, d2] }
  | _ => none }
def fnExactSelectXorRow : OpenClaim := { program := "ytffgoedbabpfhaa", sum := "154ac259f8c8277a8c745aa394fa0a2eb380acfca2621382d8dee3239ffe4381", func := "loop.example/g00516/laws.FnExactSelectXor", spec := "fnExactSelectXor", apart := false }
def FnExactSelectXorSaid : Prop := fnExactSelectXorRow.holds Try.pinned (OpenSpec.ofChange fnExactSelectXorSpec)

/-- ITS FALSE NEIGHBOUR: 'it returns false'. Refute it at one input. -/
def fnExactSelectXorWrong : ChangeSpec := { name := "fnExactSelectXor", fn := fun _ => fun
  | [d1, d2] => { results := [.lit (.bool false)], args := [d1, d2] }
  | _ => none }
def FnExactSelectXorWrongFalsely : Prop := fnExactSelectXorRow.holds Try.pinned (OpenSpec.ofChange fnExactSelectXorWrong)

/-- 'laws.FnXor': WHATEVER THE INPUT: true; the input reads as it did. -/
def fnXorSpec : ChangeSpec := { name := "fnXor", fn := fun _ => fun
  | [d] => { results := [.lit (.bool true)], args := [d] }
  | _ => none }
def fnXorRow : OpenClaim := { program := "ytffgoedbabpfhaa", sum := "154ac259f8c8277a8c745aa394fa0a2eb380acfca2621382d8dee3239ffe4381", func := "loop.example/g00516/laws.FnXor", spec := "fnXor", unfollowed := true, recurses := true, apart := false }
def FnXorSaid : Prop := fnXorRow.holds Try.pinned (OpenSpec.ofChange fnXorSpec)

/-- ITS FALSE NEIGHBOUR: 'it returns false'. Refute it at one input. -/
def fnXorWrong : ChangeSpec := { name := "fnXor", fn := fun _ => fun
  | [d] => { results := [.lit (.bool false)], args := [d] }
  | _ => none }
def FnXorWrongFalsely : Prop := fnXorRow.holds Try.pinned (OpenSpec.ofChange fnXorWrong)

/- THE SECOND FORM. 'bulk': how many values and letters a reading holds, each counted each time it is reached (what is shared counts as often as it is met; a slice's spare places count too). A statement '..UptoSaid' is the law's where the arguments, and the package variables that the reading takes, are together of bulk at most 1048576: NARROWER than '..Said'. Prove '..Said' where nothing that the law and all that it calls make is longer than what came in: it says more and counts as full. Else prove '..UptoSaid'. A law counts once. -/
mutual
def uptoBulk {H : Type} : DataW H → Nat
  | .lit (.string bytes) => bytes.length + 1
  | .lit _ => 1
  | .nil => 1
  | .ptr d => uptoBulk d + 1
  | .slice elems spare => uptoBulkAll elems + uptoBulkAll spare + 1
  | .agg parts => uptoBulkAll parts + 1
  | .iface _ d => uptoBulk d + 1
  | .map entries => uptoBulkEntries entries + 1
  | .held _ => 1
def uptoBulkAll {H : Type} : List (DataW H) → Nat
  | [] => 0
  | d :: r => uptoBulk d + uptoBulkAll r
def uptoBulkEntries {H : Type} : List (Lit × DataW H) → Nat
  | [] => 0
  | x :: r => uptoBulkEntry x + uptoBulkEntries r
def uptoBulkEntry {H : Type} : Lit × DataW H → Nat
  | (.string bytes, d) => bytes.length + uptoBulk d + 1
  | (_, d) => uptoBulk d + 1
 end
def uptoSmall : (H : Type) → List (DataW H) → Bool := fun _ ds => decide (uptoBulkAll ds ≤ 1048576)
def OpenSpec.upto (s : _root_.Go.ChangeSpec) : _root_.Go.OpenSpec := { _root_.Go.OpenSpec.ofChange s with cond := some uptoSmall }

/-- 'laws.FnExactXorBytes', WHERE WHAT IT READS IS OF BULK AT MOST 1048576: true; the input reads as it did. -/
def fnExactXorBytesUptoRow : OpenClaim := { program := "ytffgoedbabpfhaa", sum := "154ac259f8c8277a8c745aa394fa0a2eb380acfca2621382d8dee3239ffe4381", func := "loop.example/g00516/laws.FnExactXorBytes", spec := "fnExactXorBytes", apart := false, narrowed := true }
def FnExactXorBytesUptoSaid : Prop := fnExactXorBytesUptoRow.holds Try.pinned (OpenSpec.upto fnExactXorBytesSpec)

/-- 'laws.FnExactSplitBytes', WHERE WHAT IT READS IS OF BULK AT MOST 1048576: true; the input reads as it did. -/
def fnExactSplitBytesUptoRow : OpenClaim := { program := "ytffgoedbabpfhaa", sum := "154ac259f8c8277a8c745aa394fa0a2eb380acfca2621382d8dee3239ffe4381", func := "loop.example/g00516/laws.FnExactSplitBytes", spec := "fnExactSplitBytes", apart := false, narrowed := true }
def FnExactSplitBytesUptoSaid : Prop := fnExactSplitBytesUptoRow.holds Try.pinned (OpenSpec.upto fnExactSplitBytesSpec)

/-- 'laws.FnExactEqualLists', WHERE WHAT IT READS IS OF BULK AT MOST 1048576: true; the input reads as it did. -/
def fnExactEqualListsUptoRow : OpenClaim := { program := "ytffgoedbabpfhaa", sum := "154ac259f8c8277a8c745aa394fa0a2eb380acfca2621382d8dee3239ffe4381", func := "loop.example/g00516/laws.FnExactEqualLists", spec := "fnExactEqualLists", unfollowed := true, recurses := true, apart := false, narrowed := true }
def FnExactEqualListsUptoSaid : Prop := fnExactEqualListsUptoRow.holds Try.pinned (OpenSpec.upto fnExactEqualListsSpec)

/-- 'laws.FnExactJoinBytes', WHERE WHAT IT READS IS OF BULK AT MOST 1048576: true; the input reads as it did. -/
def fnExactJoinBytesUptoRow : OpenClaim := { program := "ytffgoedbabpfhaa", sum := "154ac259f8c8277a8c745aa394fa0a2eb380acfca2621382d8dee3239ffe4381", func := "loop.example/g00516/laws.FnExactJoinBytes", spec := "fnExactJoinBytes", apart := false, narrowed := true }
def FnExactJoinBytesUptoSaid : Prop := fnExactJoinBytesUptoRow.holds Try.pinned (OpenSpec.upto fnExactJoinBytesSpec)

/-- 'laws.FnExactXorAll', WHERE WHAT IT READS IS OF BULK AT MOST 1048576: true; the input reads as it did. -/
def fnExactXorAllUptoRow : OpenClaim := { program := "ytffgoedbabpfhaa", sum := "154ac259f8c8277a8c745aa394fa0a2eb380acfca2621382d8dee3239ffe4381", func := "loop.example/g00516/laws.FnExactXorAll", spec := "fnExactXorAll", apart := false, narrowed := true }
def FnExactXorAllUptoSaid : Prop := fnExactXorAllUptoRow.holds Try.pinned (OpenSpec.upto fnExactXorAllSpec)

/-- 'laws.FnExactMissingShare', WHERE WHAT IT READS IS OF BULK AT MOST 1048576: true; the input reads as it did. -/
def fnExactMissingShareUptoRow : OpenClaim := { program := "ytffgoedbabpfhaa", sum := "154ac259f8c8277a8c745aa394fa0a2eb380acfca2621382d8dee3239ffe4381", func := "loop.example/g00516/laws.FnExactMissingShare", spec := "fnExactMissingShare", apart := false, narrowed := true }
def FnExactMissingShareUptoSaid : Prop := fnExactMissingShareUptoRow.holds Try.pinned (OpenSpec.upto fnExactMissingShareSpec)

/-- 'laws.FnExactSelectXor', WHERE WHAT IT READS IS OF BULK AT MOST 1048576: true; the input reads as it did. -/
def fnExactSelectXorUptoRow : OpenClaim := { program := "ytffgoedbabpfhaa", sum := "154ac259f8c8277a8c745aa394fa0a2eb380acfca2621382d8dee3239ffe4381", func := "loop.example/g00516/laws.FnExactSelectXor", spec := "fnExactSelectXor", apart := false, narrowed := true }
def FnExactSelectXorUptoSaid : Prop := fnExactSelectXorUptoRow.holds Try.pinned (OpenSpec.upto fnExactSelectXorSpec)

/-- 'laws.FnXor', WHERE WHAT IT READS IS OF BULK AT MOST 1048576: true; the input reads as it did. -/
def fnXorUptoRow : OpenClaim := { program := "ytffgoedbabpfhaa", sum := "154ac259f8c8277a8c745aa394fa0a2eb380acfca2621382d8dee3239ffe4381", func := "loop.example/g00516/laws.FnXor", spec := "fnXor", unfollowed := true, recurses := true, apart := false, narrowed := true }
def FnXorUptoSaid : Prop := fnXorUptoRow.holds Try.pinned (OpenSpec.upto fnXorSpec)

end Rows
end Go.Proofs.Ytffgoedbabpfhaa
