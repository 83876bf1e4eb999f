/-
  No cell of these rows narrows 'for every input' (looked for: loops, veiled, ifaces, maps, wideKeys, modest, calm, conditions, laid).
  DERIVED. THE GIVEN ROWS OF THIS SEAT. 12 by the template 'for every input the law returns true; each argument reads behind the call as it read before'; 0 by the template 'total and deterministic' (their statements: YtdbmmiabckemhaaTotals.lean).
  GIVEN WITH THE SEED: the statements are not yours to turn. If you find one false, say at which input.
  Laid BY PROGRAM, IN A SANDBOX (cutbox-rows.mjs): the forced cells as the released guide's own fill.sh prints them over the translation c29bcc7c99350a34… (all of the seat's roots in one cut). By AI agents, Wed Nov 11 2026. No macro, syntax, notation, axiom, sorry.
-/
import Derived.Test.YtdbmmiabckemhaaChecked
import GoSem.Claim
import GoSem.ClaimJoined
import GoSem.ClaimMapViews
import Derived.JoinedTies
import Derived.KernelRfl
namespace Go.Proofs.Ytdbmmiabckemhaa
/- THE CELL 'sum', in the pinned program and in every row, IS THE sha256 OF THE DUMP (.gsa) THAT YtdbmmiabckemhaaProg.lean LOADS. Nothing in Lean hashes anything: it is a label: what it is worth is what the hold of that sum in a sandbox is worth. -/
noncomputable def Try.pinned : Pinned := { name := "ytdbmmiabckemhaa", sum := "c29bcc7c99350a34f15cd6ce5c84ea62d1a626f4c3969fb8b89ca9dea445b26d", checked := Try.checked }
namespace Rows
def none {H : Type} : Left H := { results := [], args := [] }

/-- 'laws.FnExactIsSelection': WHATEVER THE INPUT: true; the input reads as it did. -/
def fnExactIsSelectionSpec : ChangeSpec := { name := "fnExactIsSelection", fn := fun _ => fun
  | [d1, d2] => { results := [.lit (.bool true)], args := [d1, d2] }
  | _ => none }
def fnExactIsSelectionRow : OpenClaim := { program := "ytdbmmiabckemhaa", sum := "c29bcc7c99350a34f15cd6ce5c84ea62d1a626f4c3969fb8b89ca9dea445b26d", func := "loop.example/g00516/laws.FnExactIsSelection", spec := "fnExactIsSelection", unfollowed := true, recurses := true, apart := false }
def FnExactIsSelectionSaid : Prop := fnExactIsSelectionRow.holds Try.pinned (OpenSpec.ofChange fnExactIsSelectionSpec)

/-- ITS FALSE NEIGHBOUR: 'it returns false'. Refute it at one input. -/
def fnExactIsSelectionWrong : ChangeSpec := { name := "fnExactIsSelection", fn := fun _ => fun
  | [d1, d2] => { results := [.lit (.bool false)], args := [d1, d2] }
  | _ => none }
def FnExactIsSelectionWrongFalsely : Prop := fnExactIsSelectionRow.holds Try.pinned (OpenSpec.ofChange fnExactIsSelectionWrong)

/-- 'laws.FnExactUnitSelection': WHATEVER THE INPUT: true; the input reads as it did. -/
def fnExactUnitSelectionSpec : ChangeSpec := { name := "fnExactUnitSelection", fn := fun _ => fun
  | [d1, d2] => { results := [.lit (.bool true)], args := [d1, d2] }
  | _ => none }
def fnExactUnitSelectionRow : OpenClaim := { program := "ytdbmmiabckemhaa", sum := "c29bcc7c99350a34f15cd6ce5c84ea62d1a626f4c3969fb8b89ca9dea445b26d", func := "loop.example/g00516/laws.FnExactUnitSelection", spec := "fnExactUnitSelection", apart := false }
def FnExactUnitSelectionSaid : Prop := fnExactUnitSelectionRow.holds Try.pinned (OpenSpec.ofChange fnExactUnitSelectionSpec)

/-- ITS FALSE NEIGHBOUR: 'it returns false'. Refute it at one input. -/
def fnExactUnitSelectionWrong : ChangeSpec := { name := "fnExactUnitSelection", fn := fun _ => fun
  | [d1, d2] => { results := [.lit (.bool false)], args := [d1, d2] }
  | _ => none }
def FnExactUnitSelectionWrongFalsely : Prop := fnExactUnitSelectionRow.holds Try.pinned (OpenSpec.ofChange fnExactUnitSelectionWrong)

/-- 'laws.FnExactBytesToInts': WHATEVER THE INPUT: true; the input reads as it did. -/
def fnExactBytesToIntsSpec : ChangeSpec := { name := "fnExactBytesToInts", fn := fun _ => fun
  | [d] => { results := [.lit (.bool true)], args := [d] }
  | _ => none }
def fnExactBytesToIntsRow : OpenClaim := { program := "ytdbmmiabckemhaa", sum := "c29bcc7c99350a34f15cd6ce5c84ea62d1a626f4c3969fb8b89ca9dea445b26d", func := "loop.example/g00516/laws.FnExactBytesToInts", spec := "fnExactBytesToInts", apart := false }
def FnExactBytesToIntsSaid : Prop := fnExactBytesToIntsRow.holds Try.pinned (OpenSpec.ofChange fnExactBytesToIntsSpec)

/-- ITS FALSE NEIGHBOUR: 'it returns false'. Refute it at one input. -/
def fnExactBytesToIntsWrong : ChangeSpec := { name := "fnExactBytesToInts", fn := fun _ => fun
  | [d] => { results := [.lit (.bool false)], args := [d] }
  | _ => none }
def FnExactBytesToIntsWrongFalsely : Prop := fnExactBytesToIntsRow.holds Try.pinned (OpenSpec.ofChange fnExactBytesToIntsWrong)

/-- 'laws.FnExactXorSelections': WHATEVER THE INPUT: true; the input reads as it did. -/
def fnExactXorSelectionsSpec : ChangeSpec := { name := "fnExactXorSelections", fn := fun _ => fun
  | [d1, d2] => { results := [.lit (.bool true)], args := [d1, d2] }
  | _ => none }
def fnExactXorSelectionsRow : OpenClaim := { program := "ytdbmmiabckemhaa", sum := "c29bcc7c99350a34f15cd6ce5c84ea62d1a626f4c3969fb8b89ca9dea445b26d", func := "loop.example/g00516/laws.FnExactXorSelections", spec := "fnExactXorSelections", unfollowed := true, recurses := true, apart := false }
def FnExactXorSelectionsSaid : Prop := fnExactXorSelectionsRow.holds Try.pinned (OpenSpec.ofChange fnExactXorSelectionsSpec)

/-- ITS FALSE NEIGHBOUR: 'it returns false'. Refute it at one input. -/
def fnExactXorSelectionsWrong : ChangeSpec := { name := "fnExactXorSelections", fn := fun _ => fun
  | [d1, d2] => { results := [.lit (.bool false)], args := [d1, d2] }
  | _ => none }
def FnExactXorSelectionsWrongFalsely : Prop := fnExactXorSelectionsRow.holds Try.pinned (OpenSpec.ofChange fnExactXorSelectionsWrong)

/-- 'laws.FnExactPackSelection': WHATEVER THE INPUT: true; the input reads as it did. -/
def fnExactPackSelectionSpec : ChangeSpec := { name := "fnExactPackSelection", fn := fun _ => fun
  | [d] => { results := [.lit (.bool true)], args := [d] }
  | _ => none }
def fnExactPackSelectionRow : OpenClaim := { program := "ytdbmmiabckemhaa", sum := "c29bcc7c99350a34f15cd6ce5c84ea62d1a626f4c3969fb8b89ca9dea445b26d", func := "loop.example/g00516/laws.FnExactPackSelection", spec := "fnExactPackSelection", unfollowed := true, recurses := true, apart := false }
def FnExactPackSelectionSaid : Prop := fnExactPackSelectionRow.holds Try.pinned (OpenSpec.ofChange fnExactPackSelectionSpec)

/-- ITS FALSE NEIGHBOUR: 'it returns false'. Refute it at one input. -/
def fnExactPackSelectionWrong : ChangeSpec := { name := "fnExactPackSelection", fn := fun _ => fun
  | [d] => { results := [.lit (.bool false)], args := [d] }
  | _ => none }
def FnExactPackSelectionWrongFalsely : Prop := fnExactPackSelectionRow.holds Try.pinned (OpenSpec.ofChange fnExactPackSelectionWrong)

/-- 'laws.FnExactRandomSelection': WHATEVER THE INPUT: true; the input reads as it did. -/
def fnExactRandomSelectionSpec : ChangeSpec := { name := "fnExactRandomSelection", fn := fun _ => fun
  | [d1, d2] => { results := [.lit (.bool true)], args := [d1, d2] }
  | _ => none }
def fnExactRandomSelectionRow : OpenClaim := { program := "ytdbmmiabckemhaa", sum := "c29bcc7c99350a34f15cd6ce5c84ea62d1a626f4c3969fb8b89ca9dea445b26d", func := "loop.example/g00516/laws.FnExactRandomSelection", spec := "fnExactRandomSelection", apart := false }
def FnExactRandomSelectionSaid : Prop := fnExactRandomSelectionRow.holds Try.pinned (OpenSpec.ofChange fnExactRandomSelectionSpec)

/-- ITS FALSE NEIGHBOUR: 'it returns false'. Refute it at one input. -/
def fnExactRandomSelectionWrong : ChangeSpec := { name := "fnExactRandomSelection", fn := fun _ => fun
  | [d1, d2] => { results := [.lit (.bool false)], args := [d1, d2] }
  | _ => none }
def FnExactRandomSelectionWrongFalsely : Prop := fnExactRandomSelectionRow.holds Try.pinned (OpenSpec.ofChange fnExactRandomSelectionWrong)

/-- 'laws.FnExactStreamBytes': WHATEVER THE INPUT: true; the input reads as it did. -/
def fnExactStreamBytesSpec : ChangeSpec := { name := "fnExactStreamBytes", fn := fun _ => fun
  | [d1, d2] => { results := [.lit (.bool true)], args := [d1, d2] }
  | _ => none }
def fnExactStreamBytesRow : OpenClaim := { program := "ytdbmmiabckemhaa", sum := "c29bcc7c99350a34f15cd6ce5c84ea62d1a626f4c3969fb8b89ca9dea445b26d", func := "loop.example/g00516/laws.FnExactStreamBytes", spec := "fnExactStreamBytes", apart := false }
def FnExactStreamBytesSaid : Prop := fnExactStreamBytesRow.holds Try.pinned (OpenSpec.ofChange fnExactStreamBytesSpec)

/-- ITS FALSE NEIGHBOUR: 'it returns false'. Refute it at one input. -/
def fnExactStreamBytesWrong : ChangeSpec := { name := "fnExactStreamBytes", fn := fun _ => fun
  | [d1, d2] => { results := [.lit (.bool false)], args := [d1, d2] }
  | _ => none }
def FnExactStreamBytesWrongFalsely : Prop := fnExactStreamBytesRow.holds Try.pinned (OpenSpec.ofChange fnExactStreamBytesWrong)

/-- 'laws.FnExactDecrypt': WHATEVER THE INPUT: true; the input reads as it did. -/
def fnExactDecryptSpec : ChangeSpec := { name := "fnExactDecrypt", fn := fun _ => fun
  | [d1, d2] => { results := [.lit (.bool true)], args := [d1, d2] }
  | _ => none }
def fnExactDecryptRow : OpenClaim := { program := "ytdbmmiabckemhaa", sum := "c29bcc7c99350a34f15cd6ce5c84ea62d1a626f4c3969fb8b89ca9dea445b26d", func := "loop.example/g00516/laws.FnExactDecrypt", spec := "fnExactDecrypt", apart := false }
def FnExactDecryptSaid : Prop := fnExactDecryptRow.holds Try.pinned (OpenSpec.ofChange fnExactDecryptSpec)

/-- ITS FALSE NEIGHBOUR: 'it returns false'. Refute it at one input. -/
def fnExactDecryptWrong : ChangeSpec := { name := "fnExactDecrypt", fn := fun _ => fun
  | [d1, d2] => { results := [.lit (.bool false)], args := [d1, d2] }
  | _ => none }
def FnExactDecryptWrongFalsely : Prop := fnExactDecryptRow.holds Try.pinned (OpenSpec.ofChange fnExactDecryptWrong)

/-- 'laws.FnExactEncrypt': WHATEVER THE INPUT: true; the input reads as it did. -/
def fnExactEncryptSpec : ChangeSpec := { name := "fnExactEncrypt", fn := fun _ => fun
  | [d1, d2] => { results := [.lit (.bool true)], args := [d1, d2] }
  | _ => none }
def fnExactEncryptRow : OpenClaim := { program := "ytdbmmiabckemhaa", sum := "c29bcc7c99350a34f15cd6ce5c84ea62d1a626f4c3969fb8b89ca9dea445b26d", func := "loop.example/g00516/laws.FnExactEncrypt", spec := "fnExactEncrypt", apart := false }
def FnExactEncryptSaid : Prop := fnExactEncryptRow.holds Try.pinned (OpenSpec.ofChange fnExactEncryptSpec)

/-- ITS FALSE NEIGHBOUR: 'it returns false'. Refute it at one input. -/
def fnExactEncryptWrong : ChangeSpec := { name := "fnExactEncrypt", fn := fun _ => fun
  | [d1, d2] => { results := [.lit (.bool false)], args := [d1, d2] }
  | _ => none }
def FnExactEncryptWrongFalsely : Prop := fnExactEncryptRow.holds Try.pinned (OpenSpec.ofChange fnExactEncryptWrong)

/-- 'laws.FnTrees': WHATEVER THE INPUT: true; the input reads as it did. -/
def fnTreesSpec : ChangeSpec := { name := "fnTrees", fn := fun _ => fun
  | [d] => { results := [.lit (.bool true)], args := [d] }
  | _ => none }
def fnTreesRow : OpenClaim := { program := "ytdbmmiabckemhaa", sum := "c29bcc7c99350a34f15cd6ce5c84ea62d1a626f4c3969fb8b89ca9dea445b26d", func := "loop.example/g00516/laws.FnTrees", spec := "fnTrees", apart := false }
def FnTreesSaid : Prop := fnTreesRow.holds Try.pinned (OpenSpec.ofChange fnTreesSpec)

/-- ITS FALSE NEIGHBOUR: 'it returns false'. Refute it at one input. -/
def fnTreesWrong : ChangeSpec := { name := "fnTrees", fn := fun _ => fun
  | [d] => { results := [.lit (.bool false)], args := [d] }
  | _ => none }
def FnTreesWrongFalsely : Prop := fnTreesRow.holds Try.pinned (OpenSpec.ofChange fnTreesWrong)

/-- 'laws.FnCipher': WHATEVER THE INPUT: true; the input reads as it did. -/
def fnCipherSpec : ChangeSpec := { name := "fnCipher", fn := fun _ => fun
  | [d] => { results := [.lit (.bool true)], args := [d] }
  | _ => none }
def fnCipherRow : OpenClaim := { program := "ytdbmmiabckemhaa", sum := "c29bcc7c99350a34f15cd6ce5c84ea62d1a626f4c3969fb8b89ca9dea445b26d", func := "loop.example/g00516/laws.FnCipher", spec := "fnCipher", apart := false }
def FnCipherSaid : Prop := fnCipherRow.holds Try.pinned (OpenSpec.ofChange fnCipherSpec)

/-- ITS FALSE NEIGHBOUR: 'it returns false'. Refute it at one input. -/
def fnCipherWrong : ChangeSpec := { name := "fnCipher", fn := fun _ => fun
  | [d] => { results := [.lit (.bool false)], args := [d] }
  | _ => none }
def FnCipherWrongFalsely : Prop := fnCipherRow.holds Try.pinned (OpenSpec.ofChange fnCipherWrong)

/-- 'laws.FnKeyedHash': WHATEVER THE INPUT: true; the input reads as it did. -/
def fnKeyedHashSpec : ChangeSpec := { name := "fnKeyedHash", fn := fun _ => fun
  | [d] => { results := [.lit (.bool true)], args := [d] }
  | _ => none }
def fnKeyedHashRow : OpenClaim := { program := "ytdbmmiabckemhaa", sum := "c29bcc7c99350a34f15cd6ce5c84ea62d1a626f4c3969fb8b89ca9dea445b26d", func := "loop.example/g00516/laws.FnKeyedHash", spec := "fnKeyedHash", apart := false }
def FnKeyedHashSaid : Prop := fnKeyedHashRow.holds Try.pinned (OpenSpec.ofChange fnKeyedHashSpec)

/-- ITS FALSE NEIGHBOUR: 'it returns false'. Refute it at one input. -/
def fnKeyedHashWrong : ChangeSpec := { name := "fnKeyedHash", fn := fun _ => fun
  | [d] => { results := [.lit (.bool false)], args := [d] }
  | _ => none }
def FnKeyedHashWrongFalsely : Prop := fnKeyedHashRow.holds Try.pinned (OpenSpec.ofChange fnKeyedHashWrong)

/- THE SECOND FORM. 'bulk': how many values and letters a reading holds, each counted each time it is reached (what is shared counts as often as it is met; a slice's spare places count too). A statement '..UptoSaid' is the law's where the arguments, and the package variables that the reading takes, are together of bulk at most 1048576: NARROWER than '..Said'. Prove '..Said' where nothing that the law and all that it calls make is longer than what came in: it says more and counts as full. Else prove '..UptoSaid'. A law counts once. -/
mutual
def uptoBulk {H : Type} : DataW H → Nat
  | .lit (.string bytes) => bytes.length + 1
  | .lit _ => 1
  | .nil => 1
  | .ptr d => uptoBulk d + 1
  | .slice elems spare => uptoBulkAll elems + uptoBulkAll spare + 1
  | .agg parts => uptoBulkAll parts + 1
  | .iface _ d => uptoBulk d + 1
  | .map entries => uptoBulkEntries entries + 1
  | .held _ => 1
def uptoBulkAll {H : Type} : List (DataW H) → Nat
  | [] => 0
  | d :: r => uptoBulk d + uptoBulkAll r
def uptoBulkEntries {H : Type} : List (Lit × DataW H) → Nat
  | [] => 0
  | x :: r => uptoBulkEntry x + uptoBulkEntries r
def uptoBulkEntry {H : Type} : Lit × DataW H → Nat
  | (.string bytes, d) => bytes.length + uptoBulk d + 1
  | (_, d) => uptoBulk d + 1
 end
def uptoSmall : (H : Type) → List (DataW H) → Bool := fun _ ds => decide (uptoBulkAll ds ≤ 1048576)
def OpenSpec.upto (s : _root_.Go.ChangeSpec) : _root_.Go.OpenSpec := { _root_.Go.OpenSpec.ofChange s with cond := some uptoSmall }

/-- 'laws.FnExactIsSelection', WHERE WHAT IT READS IS OF BULK AT MOST 1048576: true; the input reads as it did. -/
def fnExactIsSelectionUptoRow : OpenClaim := { program := "ytdbmmiabckemhaa", sum := "c29bcc7c99350a34f15cd6ce5c84ea62d1a626f4c3969fb8b89ca9dea445b26d", func := "loop.example/g00516/laws.FnExactIsSelection", spec := "fnExactIsSelection", unfollowed := true, recurses := true, apart := false, narrowed := true }
def FnExactIsSelectionUptoSaid : Prop := fnExactIsSelectionUptoRow.holds Try.pinned (OpenSpec.upto fnExactIsSelectionSpec)

/-- 'laws.FnExactUnitSelection', WHERE WHAT IT READS IS OF BULK AT MOST 1048576: true; the input reads as it did. -/
def fnExactUnitSelectionUptoRow : OpenClaim := { program := "ytdbmmiabckemhaa", sum := "c29bcc7c99350a34f15cd6ce5c84ea62d1a626f4c3969fb8b89ca9dea445b26d", func := "loop.example/g00516/laws.FnExactUnitSelection", spec := "fnExactUnitSelection", apart := false, narrowed := true }
def FnExactUnitSelectionUptoSaid : Prop := fnExactUnitSelectionUptoRow.holds Try.pinned (OpenSpec.upto fnExactUnitSelectionSpec)

/-- 'laws.FnExactBytesToInts', WHERE WHAT IT READS IS OF BULK AT MOST 1048576: true; the input reads as it did. -/
def fnExactBytesToIntsUptoRow : OpenClaim := { program := "ytdbmmiabckemhaa", sum := "c29bcc7c99350a34f15cd6ce5c84ea62d1a626f4c3969fb8b89ca9dea445b26d", func := "loop.example/g00516/laws.FnExactBytesToInts", spec := "fnExactBytesToInts", apart := false, narrowed := true }
def FnExactBytesToIntsUptoSaid : Prop := fnExactBytesToIntsUptoRow.holds Try.pinned (OpenSpec.upto fnExactBytesToIntsSpec)

/-- 'laws.FnExactXorSelections', WHERE WHAT IT READS IS OF BULK AT MOST 1048576: true; the input reads as it did. -/
def fnExactXorSelectionsUptoRow : OpenClaim := { program := "ytdbmmiabckemhaa", sum := "c29bcc7c99350a34f15cd6ce5c84ea62d1a626f4c3969fb8b89ca9dea445b26d", func := "loop.example/g00516/laws.FnExactXorSelections", spec := "fnExactXorSelections", unfollowed := true, recurses := true, apart := false, narrowed := true }
def FnExactXorSelectionsUptoSaid : Prop := fnExactXorSelectionsUptoRow.holds Try.pinned (OpenSpec.upto fnExactXorSelectionsSpec)

/-- 'laws.FnExactPackSelection', WHERE WHAT IT READS IS OF BULK AT MOST 1048576: true; the input reads as it did. -/
def fnExactPackSelectionUptoRow : OpenClaim := { program := "ytdbmmiabckemhaa", sum := "c29bcc7c99350a34f15cd6ce5c84ea62d1a626f4c3969fb8b89ca9dea445b26d", func := "loop.example/g00516/laws.FnExactPackSelection", spec := "fnExactPackSelection", unfollowed := true, recurses := true, apart := false, narrowed := true }
def FnExactPackSelectionUptoSaid : Prop := fnExactPackSelectionUptoRow.holds Try.pinned (OpenSpec.upto fnExactPackSelectionSpec)

/-- 'laws.FnExactRandomSelection', WHERE WHAT IT READS IS OF BULK AT MOST 1048576: true; the input reads as it did. -/
def fnExactRandomSelectionUptoRow : OpenClaim := { program := "ytdbmmiabckemhaa", sum := "c29bcc7c99350a34f15cd6ce5c84ea62d1a626f4c3969fb8b89ca9dea445b26d", func := "loop.example/g00516/laws.FnExactRandomSelection", spec := "fnExactRandomSelection", apart := false, narrowed := true }
def FnExactRandomSelectionUptoSaid : Prop := fnExactRandomSelectionUptoRow.holds Try.pinned (OpenSpec.upto fnExactRandomSelectionSpec)

/-- 'laws.FnExactStreamBytes', WHERE WHAT IT READS IS OF BULK AT MOST 1048576: true; the input reads as it did. -/
def fnExactStreamBytesUptoRow : OpenClaim := { program := "ytdbmmiabckemhaa", sum := "c29bcc7c99350a34f15cd6ce5c84ea62d1a626f4c3969fb8b89ca9dea445b26d", func := "loop.example/g00516/laws.FnExactStreamBytes", spec := "fnExactStreamBytes", apart := false, narrowed := true }
def FnExactStreamBytesUptoSaid : Prop := fnExactStreamBytesUptoRow.holds Try.pinned (OpenSpec.upto fnExactStreamBytesSpec)

/-- 'laws.FnExactDecrypt', WHERE WHAT IT READS IS OF BULK AT MOST 1048576: true; the input reads as it did. -/
def fnExactDecryptUptoRow : OpenClaim := { program := "ytdbmmiabckemhaa", sum := "c29bcc7c99350a34f15cd6ce5c84ea62d1a626f4c3969fb8b89ca9dea445b26d", func := "loop.example/g00516/laws.FnExactDecrypt", spec := "fnExactDecrypt", apart := false, narrowed := true }
def FnExactDecryptUptoSaid : Prop := fnExactDecryptUptoRow.holds Try.pinned (OpenSpec.upto fnExactDecryptSpec)

/-- 'laws.FnExactEncrypt', WHERE WHAT IT READS IS OF BULK AT MOST 1048576: true; the input reads as it did. -/
def fnExactEncryptUptoRow : OpenClaim := { program := "ytdbmmiabckemhaa", sum := "c29bcc7c99350a34f15cd6ce5c84ea62d1a626f4c3969fb8b89ca9dea445b26d", func := "loop.example/g00516/laws.FnExactEncrypt", spec := "fnExactEncrypt", apart := false, narrowed := true }
def FnExactEncryptUptoSaid : Prop := fnExactEncryptUptoRow.holds Try.pinned (OpenSpec.upto fnExactEncryptSpec)

/-- 'laws.FnTrees', WHERE WHAT IT READS IS OF BULK AT MOST 1048576: true; the input reads as it did. -/
def fnTreesUptoRow : OpenClaim := { program := "ytdbmmiabckemhaa", sum := "c29bcc7c99350a34f15cd6ce5c84ea62d1a626f4c3969fb8b89ca9dea445b26d", func := "loop.example/g00516/laws.FnTrees", spec := "fnTrees", apart := false, narrowed := true }
def FnTreesUptoSaid : Prop := fnTreesUptoRow.holds Try.pinned (OpenSpec.upto fnTreesSpec)

/-- 'laws.FnCipher', WHERE WHAT IT READS IS OF BULK AT MOST 1048576: true; the input reads as it did. -/
def fnCipherUptoRow : OpenClaim := { program := "ytdbmmiabckemhaa", sum := "c29bcc7c99350a34f15cd6ce5c84ea62d1a626f4c3969fb8b89ca9dea445b26d", func := "loop.example/g00516/laws.FnCipher", spec := "fnCipher", apart := false, narrowed := true }
def FnCipherUptoSaid : Prop := fnCipherUptoRow.holds Try.pinned (OpenSpec.upto fnCipherSpec)

/-- 'laws.FnKeyedHash', WHERE WHAT IT READS IS OF BULK AT MOST 1048576: true; the input reads as it did. -/
def fnKeyedHashUptoRow : OpenClaim := { program := "ytdbmmiabckemhaa", sum := "c29bcc7c99350a34f15cd6ce5c84ea62d1a626f4c3969fb8b89ca9dea445b26d", func := "loop.example/g00516/laws.FnKeyedHash", spec := "fnKeyedHash", apart := false, narrowed := true }
def FnKeyedHashUptoSaid : Prop := fnKeyedHashUptoRow.holds Try.pinned (OpenSpec.upto fnKeyedHashSpec)

end Rows
end Go.Proofs.Ytdbmmiabckemhaa
