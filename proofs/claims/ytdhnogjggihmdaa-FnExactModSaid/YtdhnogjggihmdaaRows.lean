/-
  No cell of these rows narrows 'for every input' (looked for: loops, veiled, ifaces, maps, wideKeys, modest, calm, conditions, laid).
  DERIVED. THE GIVEN ROWS OF THIS SEAT. 12 by the template 'for every input the law returns true; each argument reads behind the call as it read before'; 0 by the template 'total and deterministic' (their statements: YtdhnogjggihmdaaTotals.lean).
  GIVEN WITH THE SEED: the statements are not yours to turn. If you find one false, say at which input.
  Laid BY PROGRAM, IN A SANDBOX (cutbox-rows.mjs): the forced cells as the released guide's own fill.sh prints them over the translation 12c7965087fd3011… (all of the seat's roots in one cut). By AI agents, Wed Nov 11 2026. No macro, syntax, notation, axiom, sorry.
-/
import Derived.Test.YtdhnogjggihmdaaChecked
import GoSem.Claim
import GoSem.ClaimJoined
import GoSem.ClaimMapViews
import Derived.JoinedTies
import Derived.KernelRfl
namespace Go.Proofs.Ytdhnogjggihmdaa
/- THE CELL 'sum', in the pinned program and in every row, IS THE sha256 OF THE DUMP (.gsa) THAT YtdhnogjggihmdaaProg.lean LOADS. Nothing in Lean hashes anything: it is a label: what it is worth is what the hold of that sum in a sandbox is worth. -/
noncomputable def Try.pinned : Pinned := { name := "ytdhnogjggihmdaa", sum := "12c7965087fd301173d8efba940579322436089280d435e21d6885447069f61e", checked := Try.checked }
namespace Rows
def none {H : Type} : Left H := { results := [], args := [] }

/-- 'laws.FnExactConstants': WHATEVER THE INPUT: true; the input reads as it did. -/
def fnExactConstantsSpec : ChangeSpec := { name := "fnExactConstants", fn := fun _ => fun
  | [] => { results := [.lit (.bool true)], args := [] }
  | _ => none }
def fnExactConstantsRow : OpenClaim := { program := "ytdhnogjggihmdaa", sum := "12c7965087fd301173d8efba940579322436089280d435e21d6885447069f61e", func := "loop.example/g00516/laws.FnExactConstants", spec := "fnExactConstants", apart := false }
def FnExactConstantsSaid : Prop := fnExactConstantsRow.holds Try.pinned (OpenSpec.ofChange fnExactConstantsSpec)

/-- ITS FALSE NEIGHBOUR: 'it returns false'. Refute it at one input. -/
def fnExactConstantsWrong : ChangeSpec := { name := "fnExactConstants", fn := fun _ => fun
  | [] => { results := [.lit (.bool false)], args := [] }
  | _ => none }
def FnExactConstantsWrongFalsely : Prop := fnExactConstantsRow.holds Try.pinned (OpenSpec.ofChange fnExactConstantsWrong)

/-- 'laws.FnExactInRange': WHATEVER THE INPUT: true; the input reads as it did. -/
def fnExactInRangeSpec : ChangeSpec := { name := "fnExactInRange", fn := fun _ => fun
  | [d1, d2, d3] => { results := [.lit (.bool true)], args := [d1, d2, d3] }
  | _ => none }
def fnExactInRangeRow : OpenClaim := { program := "ytdhnogjggihmdaa", sum := "12c7965087fd301173d8efba940579322436089280d435e21d6885447069f61e", func := "loop.example/g00516/laws.FnExactInRange", spec := "fnExactInRange", apart := false }
def FnExactInRangeSaid : Prop := fnExactInRangeRow.holds Try.pinned (OpenSpec.ofChange fnExactInRangeSpec)

/-- ITS FALSE NEIGHBOUR: 'it returns false'. Refute it at one input. -/
def fnExactInRangeWrong : ChangeSpec := { name := "fnExactInRange", fn := fun _ => fun
  | [d1, d2, d3] => { results := [.lit (.bool false)], args := [d1, d2, d3] }
  | _ => none }
def FnExactInRangeWrongFalsely : Prop := fnExactInRangeRow.holds Try.pinned (OpenSpec.ofChange fnExactInRangeWrong)

/-- 'laws.FnExactIsValidKey': WHATEVER THE INPUT: true; the input reads as it did. -/
def fnExactIsValidKeySpec : ChangeSpec := { name := "fnExactIsValidKey", fn := fun _ => fun
  | [d] => { results := [.lit (.bool true)], args := [d] }
  | _ => none }
def fnExactIsValidKeyRow : OpenClaim := { program := "ytdhnogjggihmdaa", sum := "12c7965087fd301173d8efba940579322436089280d435e21d6885447069f61e", func := "loop.example/g00516/laws.FnExactIsValidKey", spec := "fnExactIsValidKey", apart := false }
def FnExactIsValidKeySaid : Prop := fnExactIsValidKeyRow.holds Try.pinned (OpenSpec.ofChange fnExactIsValidKeySpec)

/-- ITS FALSE NEIGHBOUR: 'it returns false'. Refute it at one input. -/
def fnExactIsValidKeyWrong : ChangeSpec := { name := "fnExactIsValidKey", fn := fun _ => fun
  | [d] => { results := [.lit (.bool false)], args := [d] }
  | _ => none }
def FnExactIsValidKeyWrongFalsely : Prop := fnExactIsValidKeyRow.holds Try.pinned (OpenSpec.ofChange fnExactIsValidKeyWrong)

/-- 'laws.FnExactMax': WHATEVER THE INPUT: true; the input reads as it did. -/
def fnExactMaxSpec : ChangeSpec := { name := "fnExactMax", fn := fun _ => fun
  | [d1, d2] => { results := [.lit (.bool true)], args := [d1, d2] }
  | _ => none }
def fnExactMaxRow : OpenClaim := { program := "ytdhnogjggihmdaa", sum := "12c7965087fd301173d8efba940579322436089280d435e21d6885447069f61e", func := "loop.example/g00516/laws.FnExactMax", spec := "fnExactMax", apart := false }
def FnExactMaxSaid : Prop := fnExactMaxRow.holds Try.pinned (OpenSpec.ofChange fnExactMaxSpec)

/-- ITS FALSE NEIGHBOUR: 'it returns false'. Refute it at one input. -/
def fnExactMaxWrong : ChangeSpec := { name := "fnExactMax", fn := fun _ => fun
  | [d1, d2] => { results := [.lit (.bool false)], args := [d1, d2] }
  | _ => none }
def FnExactMaxWrongFalsely : Prop := fnExactMaxRow.holds Try.pinned (OpenSpec.ofChange fnExactMaxWrong)

/-- 'laws.FnExactMin': WHATEVER THE INPUT: true; the input reads as it did. -/
def fnExactMinSpec : ChangeSpec := { name := "fnExactMin", fn := fun _ => fun
  | [d1, d2] => { results := [.lit (.bool true)], args := [d1, d2] }
  | _ => none }
def fnExactMinRow : OpenClaim := { program := "ytdhnogjggihmdaa", sum := "12c7965087fd301173d8efba940579322436089280d435e21d6885447069f61e", func := "loop.example/g00516/laws.FnExactMin", spec := "fnExactMin", apart := false }
def FnExactMinSaid : Prop := fnExactMinRow.holds Try.pinned (OpenSpec.ofChange fnExactMinSpec)

/-- ITS FALSE NEIGHBOUR: 'it returns false'. Refute it at one input. -/
def fnExactMinWrong : ChangeSpec := { name := "fnExactMin", fn := fun _ => fun
  | [d1, d2] => { results := [.lit (.bool false)], args := [d1, d2] }
  | _ => none }
def FnExactMinWrongFalsely : Prop := fnExactMinRow.holds Try.pinned (OpenSpec.ofChange fnExactMinWrong)

/-- 'laws.FnExactCeilDiv': WHATEVER THE INPUT: true; the input reads as it did. -/
def fnExactCeilDivSpec : ChangeSpec := { name := "fnExactCeilDiv", fn := fun _ => fun
  | [d1, d2] => { results := [.lit (.bool true)], args := [d1, d2] }
  | _ => none }
def fnExactCeilDivRow : OpenClaim := { program := "ytdhnogjggihmdaa", sum := "12c7965087fd301173d8efba940579322436089280d435e21d6885447069f61e", func := "loop.example/g00516/laws.FnExactCeilDiv", spec := "fnExactCeilDiv", apart := false }
def FnExactCeilDivSaid : Prop := fnExactCeilDivRow.holds Try.pinned (OpenSpec.ofChange fnExactCeilDivSpec)

/-- ITS FALSE NEIGHBOUR: 'it returns false'. Refute it at one input. -/
def fnExactCeilDivWrong : ChangeSpec := { name := "fnExactCeilDiv", fn := fun _ => fun
  | [d1, d2] => { results := [.lit (.bool false)], args := [d1, d2] }
  | _ => none }
def FnExactCeilDivWrongFalsely : Prop := fnExactCeilDivRow.holds Try.pinned (OpenSpec.ofChange fnExactCeilDivWrong)

/-- 'laws.FnSelections': WHATEVER THE INPUT: true; the input reads as it did. -/
def fnSelectionsSpec : ChangeSpec := { name := "fnSelections", fn := fun _ => fun
  | [d] => { results := [.lit (.bool true)], args := [d] }
  | _ => none }
def fnSelectionsRow : OpenClaim := { program := "ytdhnogjggihmdaa", sum := "12c7965087fd301173d8efba940579322436089280d435e21d6885447069f61e", func := "loop.example/g00516/laws.FnSelections", spec := "fnSelections", unfollowed := true, recurses := true, apart := false }
def FnSelectionsSaid : Prop := fnSelectionsRow.holds Try.pinned (OpenSpec.ofChange fnSelectionsSpec)

/-- ITS FALSE NEIGHBOUR: 'it returns false'. Refute it at one input. -/
def fnSelectionsWrong : ChangeSpec := { name := "fnSelections", fn := fun _ => fun
  | [d] => { results := [.lit (.bool false)], args := [d] }
  | _ => none }
def FnSelectionsWrongFalsely : Prop := fnSelectionsRow.holds Try.pinned (OpenSpec.ofChange fnSelectionsWrong)

/-- 'laws.FnExactMod': WHATEVER THE INPUT: true; the input reads as it did. -/
def fnExactModSpec : ChangeSpec := { name := "fnExactMod", fn := fun _ => fun
  | [d1, d2] => { results := [.lit (.bool true)], args := [d1, d2] }
  | _ => none }
def fnExactModRow : OpenClaim := { program := "ytdhnogjggihmdaa", sum := "12c7965087fd301173d8efba940579322436089280d435e21d6885447069f61e", func := "loop.example/g00516/laws.FnExactMod", spec := "fnExactMod", apart := false }
def FnExactModSaid : Prop := fnExactModRow.holds Try.pinned (OpenSpec.ofChange fnExactModSpec)

/-- ITS FALSE NEIGHBOUR: 'it returns false'. Refute it at one input. -/
def fnExactModWrong : ChangeSpec := { name := "fnExactMod", fn := fun _ => fun
  | [d1, d2] => { results := [.lit (.bool false)], args := [d1, d2] }
  | _ => none }
def FnExactModWrongFalsely : Prop := fnExactModRow.holds Try.pinned (OpenSpec.ofChange fnExactModWrong)

/-- 'laws.FnExactEqualBytes': WHATEVER THE INPUT: true; the input reads as it did. -/
def fnExactEqualBytesSpec : ChangeSpec := { name := "fnExactEqualBytes", fn := fun _ => fun
  | [d1, d2] => { results := [.lit (.bool true)], args := [d1, d2] }
  | _ => none }
def fnExactEqualBytesRow : OpenClaim := { program := "ytdhnogjggihmdaa", sum := "12c7965087fd301173d8efba940579322436089280d435e21d6885447069f61e", func := "loop.example/g00516/laws.FnExactEqualBytes", spec := "fnExactEqualBytes", apart := false }
def FnExactEqualBytesSaid : Prop := fnExactEqualBytesRow.holds Try.pinned (OpenSpec.ofChange fnExactEqualBytesSpec)

/-- ITS FALSE NEIGHBOUR: 'it returns false'. Refute it at one input. -/
def fnExactEqualBytesWrong : ChangeSpec := { name := "fnExactEqualBytes", fn := fun _ => fun
  | [d1, d2] => { results := [.lit (.bool false)], args := [d1, d2] }
  | _ => none }
def FnExactEqualBytesWrongFalsely : Prop := fnExactEqualBytesRow.holds Try.pinned (OpenSpec.ofChange fnExactEqualBytesWrong)

/-- 'laws.FnExactCountSelected': WHATEVER THE INPUT: true; the input reads as it did. -/
def fnExactCountSelectedSpec : ChangeSpec := { name := "fnExactCountSelected", fn := fun _ => fun
  | [d] => { results := [.lit (.bool true)], args := [d] }
  | _ => none }
def fnExactCountSelectedRow : OpenClaim := { program := "ytdhnogjggihmdaa", sum := "12c7965087fd301173d8efba940579322436089280d435e21d6885447069f61e", func := "loop.example/g00516/laws.FnExactCountSelected", spec := "fnExactCountSelected", apart := false }
def FnExactCountSelectedSaid : Prop := fnExactCountSelectedRow.holds Try.pinned (OpenSpec.ofChange fnExactCountSelectedSpec)

/-- ITS FALSE NEIGHBOUR: 'it returns false'. Refute it at one input. -/
def fnExactCountSelectedWrong : ChangeSpec := { name := "fnExactCountSelected", fn := fun _ => fun
  | [d] => { results := [.lit (.bool false)], args := [d] }
  | _ => none }
def FnExactCountSelectedWrongFalsely : Prop := fnExactCountSelectedRow.holds Try.pinned (OpenSpec.ofChange fnExactCountSelectedWrong)

/-- 'laws.FnExactIsZeroBytes': WHATEVER THE INPUT: true; the input reads as it did. -/
def fnExactIsZeroBytesSpec : ChangeSpec := { name := "fnExactIsZeroBytes", fn := fun _ => fun
  | [d] => { results := [.lit (.bool true)], args := [d] }
  | _ => none }
def fnExactIsZeroBytesRow : OpenClaim := { program := "ytdhnogjggihmdaa", sum := "12c7965087fd301173d8efba940579322436089280d435e21d6885447069f61e", func := "loop.example/g00516/laws.FnExactIsZeroBytes", spec := "fnExactIsZeroBytes", unfollowed := true, recurses := true, apart := false }
def FnExactIsZeroBytesSaid : Prop := fnExactIsZeroBytesRow.holds Try.pinned (OpenSpec.ofChange fnExactIsZeroBytesSpec)

/-- ITS FALSE NEIGHBOUR: 'it returns false'. Refute it at one input. -/
def fnExactIsZeroBytesWrong : ChangeSpec := { name := "fnExactIsZeroBytes", fn := fun _ => fun
  | [d] => { results := [.lit (.bool false)], args := [d] }
  | _ => none }
def FnExactIsZeroBytesWrongFalsely : Prop := fnExactIsZeroBytesRow.holds Try.pinned (OpenSpec.ofChange fnExactIsZeroBytesWrong)

/-- 'laws.FnExactEqualInts': WHATEVER THE INPUT: true; the input reads as it did. -/
def fnExactEqualIntsSpec : ChangeSpec := { name := "fnExactEqualInts", fn := fun _ => fun
  | [d1, d2] => { results := [.lit (.bool true)], args := [d1, d2] }
  | _ => none }
def fnExactEqualIntsRow : OpenClaim := { program := "ytdhnogjggihmdaa", sum := "12c7965087fd301173d8efba940579322436089280d435e21d6885447069f61e", func := "loop.example/g00516/laws.FnExactEqualInts", spec := "fnExactEqualInts", apart := false }
def FnExactEqualIntsSaid : Prop := fnExactEqualIntsRow.holds Try.pinned (OpenSpec.ofChange fnExactEqualIntsSpec)

/-- ITS FALSE NEIGHBOUR: 'it returns false'. Refute it at one input. -/
def fnExactEqualIntsWrong : ChangeSpec := { name := "fnExactEqualInts", fn := fun _ => fun
  | [d1, d2] => { results := [.lit (.bool false)], args := [d1, d2] }
  | _ => none }
def FnExactEqualIntsWrongFalsely : Prop := fnExactEqualIntsRow.holds Try.pinned (OpenSpec.ofChange fnExactEqualIntsWrong)

/- THE SECOND FORM. 'bulk': how many values and letters a reading holds, each counted each time it is reached (what is shared counts as often as it is met; a slice's spare places count too). A statement '..UptoSaid' is the law's where the arguments, and the package variables that the reading takes, are together of bulk at most 1048576: NARROWER than '..Said'. Prove '..Said' where nothing that the law and all that it calls make is longer than what came in: it says more and counts as full. Else prove '..UptoSaid'. A law counts once. -/
mutual
def uptoBulk {H : Type} : DataW H → Nat
  | .lit (.string bytes) => bytes.length + 1
  | .lit _ => 1
  | .nil => 1
  | .ptr d => uptoBulk d + 1
  | .slice elems spare => uptoBulkAll elems + uptoBulkAll spare + 1
  | .agg parts => uptoBulkAll parts + 1
  | .iface _ d => uptoBulk d + 1
  | .map entries => uptoBulkEntries entries + 1
  | .held _ => 1
def uptoBulkAll {H : Type} : List (DataW H) → Nat
  | [] => 0
  | d :: r => uptoBulk d + uptoBulkAll r
def uptoBulkEntries {H : Type} : List (Lit × DataW H) → Nat
  | [] => 0
  | x :: r => uptoBulkEntry x + uptoBulkEntries r
def uptoBulkEntry {H : Type} : Lit × DataW H → Nat
  | (.string bytes, d) => bytes.length + uptoBulk d + 1
  | (_, d) => uptoBulk d + 1
 end
def uptoSmall : (H : Type) → List (DataW H) → Bool := fun _ ds => decide (uptoBulkAll ds ≤ 1048576)
def OpenSpec.upto (s : _root_.Go.ChangeSpec) : _root_.Go.OpenSpec := { _root_.Go.OpenSpec.ofChange s with cond := some uptoSmall }

/-- 'laws.FnExactConstants', WHERE WHAT IT READS IS OF BULK AT MOST 1048576: true; the input reads as it did. -/
def fnExactConstantsUptoRow : OpenClaim := { program := "ytdhnogjggihmdaa", sum := "12c7965087fd301173d8efba940579322436089280d435e21d6885447069f61e", func := "loop.example/g00516/laws.FnExactConstants", spec := "fnExactConstants", apart := false, narrowed := true }
def FnExactConstantsUptoSaid : Prop := fnExactConstantsUptoRow.holds Try.pinned (OpenSpec.upto fnExactConstantsSpec)

/-- 'laws.FnExactInRange', WHERE WHAT IT READS IS OF BULK AT MOST 1048576: true; the input reads as it did. -/
def fnExactInRangeUptoRow : OpenClaim := { program := "ytdhnogjggihmdaa", sum := "12c7965087fd301173d8efba940579322436089280d435e21d6885447069f61e", func := "loop.example/g00516/laws.FnExactInRange", spec := "fnExactInRange", apart := false, narrowed := true }
def FnExactInRangeUptoSaid : Prop := fnExactInRangeUptoRow.holds Try.pinned (OpenSpec.upto fnExactInRangeSpec)

/-- 'laws.FnExactIsValidKey', WHERE WHAT IT READS IS OF BULK AT MOST 1048576: true; the input reads as it did. -/
def fnExactIsValidKeyUptoRow : OpenClaim := { program := "ytdhnogjggihmdaa", sum := "12c7965087fd301173d8efba940579322436089280d435e21d6885447069f61e", func := "loop.example/g00516/laws.FnExactIsValidKey", spec := "fnExactIsValidKey", apart := false, narrowed := true }
def FnExactIsValidKeyUptoSaid : Prop := fnExactIsValidKeyUptoRow.holds Try.pinned (OpenSpec.upto fnExactIsValidKeySpec)

/-- 'laws.FnExactMax', WHERE WHAT IT READS IS OF BULK AT MOST 1048576: true; the input reads as it did. -/
def fnExactMaxUptoRow : OpenClaim := { program := "ytdhnogjggihmdaa", sum := "12c7965087fd301173d8efba940579322436089280d435e21d6885447069f61e", func := "loop.example/g00516/laws.FnExactMax", spec := "fnExactMax", apart := false, narrowed := true }
def FnExactMaxUptoSaid : Prop := fnExactMaxUptoRow.holds Try.pinned (OpenSpec.upto fnExactMaxSpec)

/-- 'laws.FnExactMin', WHERE WHAT IT READS IS OF BULK AT MOST 1048576: true; the input reads as it did. -/
def fnExactMinUptoRow : OpenClaim := { program := "ytdhnogjggihmdaa", sum := "12c7965087fd301173d8efba940579322436089280d435e21d6885447069f61e", func := "loop.example/g00516/laws.FnExactMin", spec := "fnExactMin", apart := false, narrowed := true }
def FnExactMinUptoSaid : Prop := fnExactMinUptoRow.holds Try.pinned (OpenSpec.upto fnExactMinSpec)

/-- 'laws.FnExactCeilDiv', WHERE WHAT IT READS IS OF BULK AT MOST 1048576: true; the input reads as it did. -/
def fnExactCeilDivUptoRow : OpenClaim := { program := "ytdhnogjggihmdaa", sum := "12c7965087fd301173d8efba940579322436089280d435e21d6885447069f61e", func := "loop.example/g00516/laws.FnExactCeilDiv", spec := "fnExactCeilDiv", apart := false, narrowed := true }
def FnExactCeilDivUptoSaid : Prop := fnExactCeilDivUptoRow.holds Try.pinned (OpenSpec.upto fnExactCeilDivSpec)

/-- 'laws.FnSelections', WHERE WHAT IT READS IS OF BULK AT MOST 1048576: true; the input reads as it did. -/
def fnSelectionsUptoRow : OpenClaim := { program := "ytdhnogjggihmdaa", sum := "12c7965087fd301173d8efba940579322436089280d435e21d6885447069f61e", func := "loop.example/g00516/laws.FnSelections", spec := "fnSelections", unfollowed := true, recurses := true, apart := false, narrowed := true }
def FnSelectionsUptoSaid : Prop := fnSelectionsUptoRow.holds Try.pinned (OpenSpec.upto fnSelectionsSpec)

/-- 'laws.FnExactMod', WHERE WHAT IT READS IS OF BULK AT MOST 1048576: true; the input reads as it did. -/
def fnExactModUptoRow : OpenClaim := { program := "ytdhnogjggihmdaa", sum := "12c7965087fd301173d8efba940579322436089280d435e21d6885447069f61e", func := "loop.example/g00516/laws.FnExactMod", spec := "fnExactMod", apart := false, narrowed := true }
def FnExactModUptoSaid : Prop := fnExactModUptoRow.holds Try.pinned (OpenSpec.upto fnExactModSpec)

/-- 'laws.FnExactEqualBytes', WHERE WHAT IT READS IS OF BULK AT MOST 1048576: true; the input reads as it did. -/
def fnExactEqualBytesUptoRow : OpenClaim := { program := "ytdhnogjggihmdaa", sum := "12c7965087fd301173d8efba940579322436089280d435e21d6885447069f61e", func := "loop.example/g00516/laws.FnExactEqualBytes", spec := "fnExactEqualBytes", apart := false, narrowed := true }
def FnExactEqualBytesUptoSaid : Prop := fnExactEqualBytesUptoRow.holds Try.pinned (OpenSpec.upto fnExactEqualBytesSpec)

/-- 'laws.FnExactCountSelected', WHERE WHAT IT READS IS OF BULK AT MOST 1048576: true; the input reads as it did. -/
def fnExactCountSelectedUptoRow : OpenClaim := { program := "ytdhnogjggihmdaa", sum := "12c7965087fd301173d8efba940579322436089280d435e21d6885447069f61e", func := "loop.example/g00516/laws.FnExactCountSelected", spec := "fnExactCountSelected", apart := false, narrowed := true }
def FnExactCountSelectedUptoSaid : Prop := fnExactCountSelectedUptoRow.holds Try.pinned (OpenSpec.upto fnExactCountSelectedSpec)

/-- 'laws.FnExactIsZeroBytes', WHERE WHAT IT READS IS OF BULK AT MOST 1048576: true; the input reads as it did. -/
def fnExactIsZeroBytesUptoRow : OpenClaim := { program := "ytdhnogjggihmdaa", sum := "12c7965087fd301173d8efba940579322436089280d435e21d6885447069f61e", func := "loop.example/g00516/laws.FnExactIsZeroBytes", spec := "fnExactIsZeroBytes", unfollowed := true, recurses := true, apart := false, narrowed := true }
def FnExactIsZeroBytesUptoSaid : Prop := fnExactIsZeroBytesUptoRow.holds Try.pinned (OpenSpec.upto fnExactIsZeroBytesSpec)

/-- 'laws.FnExactEqualInts', WHERE WHAT IT READS IS OF BULK AT MOST 1048576: true; the input reads as it did. -/
def fnExactEqualIntsUptoRow : OpenClaim := { program := "ytdhnogjggihmdaa", sum := "12c7965087fd301173d8efba940579322436089280d435e21d6885447069f61e", func := "loop.example/g00516/laws.FnExactEqualInts", spec := "fnExactEqualInts", apart := false, narrowed := true }
def FnExactEqualIntsUptoSaid : Prop := fnExactEqualIntsUptoRow.holds Try.pinned (OpenSpec.upto fnExactEqualIntsSpec)

end Rows
end Go.Proofs.Ytdhnogjggihmdaa
