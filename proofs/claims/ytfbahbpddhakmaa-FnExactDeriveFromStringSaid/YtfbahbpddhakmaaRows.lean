/-
  No cell of these rows narrows 'for every input' (looked for: loops, veiled, ifaces, maps, wideKeys, modest, calm, conditions, laid).
  DERIVED. THE GIVEN ROWS OF THIS SEAT. 12 by the template 'for every input the law returns true; each argument reads behind the call as it read before'; 0 by the template 'total and deterministic' (their statements: YtfbahbpddhakmaaTotals.lean).
  GIVEN WITH THE SEED: the statements are not yours to turn. If you find one false, say at which input.
  Laid BY PROGRAM, IN A SANDBOX (cutbox-rows.mjs): the forced cells as the released guide's own fill.sh prints them over the translation 807d6bcca1194d06… (all of the seat's roots in one cut). By AI agents, Wed Nov 11 2026. No macro, syntax, notation, axiom, sorry.
-/
import Derived.Test.YtfbahbpddhakmaaChecked
import GoSem.Claim
import GoSem.ClaimJoined
import GoSem.ClaimMapViews
import Derived.JoinedTies
import Derived.KernelRfl
namespace Go.Proofs.Ytfbahbpddhakmaa
/- THE CELL 'sum', in the pinned program and in every row, IS THE sha256 OF THE DUMP (.gsa) THAT YtfbahbpddhakmaaProg.lean LOADS. Nothing in Lean hashes anything: it is a label: what it is worth is what the hold of that sum in a sandbox is worth. -/
noncomputable def Try.pinned : Pinned := { name := "ytfbahbpddhakmaa", sum := "807d6bcca1194d0680e87e48ec29a7272d566d65d1004cbc86522ab6a49a39e6", checked := Try.checked }
namespace Rows
def none {H : Type} : Left H := { results := [], args := [] }

/-- 'laws.FnExactHash': WHATEVER THE INPUT: true; the input reads as it did. -/
def fnExactHashSpec : ChangeSpec := { name := "fnExactHash", fn := fun _ => fun
  | [d] => { results := [.lit (.bool true)], args := [d] }
  | _ => none }
def fnExactHashRow : OpenClaim := { program := "ytfbahbpddhakmaa", sum := "807d6bcca1194d0680e87e48ec29a7272d566d65d1004cbc86522ab6a49a39e6", func := "loop.example/g00516/laws.FnExactHash", spec := "fnExactHash", apart := false }
def FnExactHashSaid : Prop := fnExactHashRow.holds Try.pinned (OpenSpec.ofChange fnExactHashSpec)

/-- ITS FALSE NEIGHBOUR: 'it returns false'. Refute it at one input. -/
def fnExactHashWrong : ChangeSpec := { name := "fnExactHash", fn := fun _ => fun
  | [d] => { results := [.lit (.bool false)], args := [d] }
  | _ => none }
def FnExactHashWrongFalsely : Prop := fnExactHashRow.holds Try.pinned (OpenSpec.ofChange fnExactHashWrong)

/-- 'laws.FnExactJoinNumber': WHATEVER THE INPUT: true; the input reads as it did. -/
def fnExactJoinNumberSpec : ChangeSpec := { name := "fnExactJoinNumber", fn := fun _ => fun
  | [d] => { results := [.lit (.bool true)], args := [d] }
  | _ => none }
def fnExactJoinNumberRow : OpenClaim := { program := "ytfbahbpddhakmaa", sum := "807d6bcca1194d0680e87e48ec29a7272d566d65d1004cbc86522ab6a49a39e6", func := "loop.example/g00516/laws.FnExactJoinNumber", spec := "fnExactJoinNumber", apart := false }
def FnExactJoinNumberSaid : Prop := fnExactJoinNumberRow.holds Try.pinned (OpenSpec.ofChange fnExactJoinNumberSpec)

/-- ITS FALSE NEIGHBOUR: 'it returns false'. Refute it at one input. -/
def fnExactJoinNumberWrong : ChangeSpec := { name := "fnExactJoinNumber", fn := fun _ => fun
  | [d] => { results := [.lit (.bool false)], args := [d] }
  | _ => none }
def FnExactJoinNumberWrongFalsely : Prop := fnExactJoinNumberRow.holds Try.pinned (OpenSpec.ofChange fnExactJoinNumberWrong)

/-- 'laws.FnExactChildSeed': WHATEVER THE INPUT: true; the input reads as it did. -/
def fnExactChildSeedSpec : ChangeSpec := { name := "fnExactChildSeed", fn := fun _ => fun
  | [d1, d2] => { results := [.lit (.bool true)], args := [d1, d2] }
  | _ => none }
def fnExactChildSeedRow : OpenClaim := { program := "ytfbahbpddhakmaa", sum := "807d6bcca1194d0680e87e48ec29a7272d566d65d1004cbc86522ab6a49a39e6", func := "loop.example/g00516/laws.FnExactChildSeed", spec := "fnExactChildSeed", apart := false }
def FnExactChildSeedSaid : Prop := fnExactChildSeedRow.holds Try.pinned (OpenSpec.ofChange fnExactChildSeedSpec)

/-- ITS FALSE NEIGHBOUR: 'it returns false'. Refute it at one input. -/
def fnExactChildSeedWrong : ChangeSpec := { name := "fnExactChildSeed", fn := fun _ => fun
  | [d1, d2] => { results := [.lit (.bool false)], args := [d1, d2] }
  | _ => none }
def FnExactChildSeedWrongFalsely : Prop := fnExactChildSeedRow.holds Try.pinned (OpenSpec.ofChange fnExactChildSeedWrong)

/-- 'laws.FnExactControlBit': WHATEVER THE INPUT: true; the input reads as it did. -/
def fnExactControlBitSpec : ChangeSpec := { name := "fnExactControlBit", fn := fun _ => fun
  | [d1, d2] => { results := [.lit (.bool true)], args := [d1, d2] }
  | _ => none }
def fnExactControlBitRow : OpenClaim := { program := "ytfbahbpddhakmaa", sum := "807d6bcca1194d0680e87e48ec29a7272d566d65d1004cbc86522ab6a49a39e6", func := "loop.example/g00516/laws.FnExactControlBit", spec := "fnExactControlBit", apart := false }
def FnExactControlBitSaid : Prop := fnExactControlBitRow.holds Try.pinned (OpenSpec.ofChange fnExactControlBitSpec)

/-- ITS FALSE NEIGHBOUR: 'it returns false'. Refute it at one input. -/
def fnExactControlBitWrong : ChangeSpec := { name := "fnExactControlBit", fn := fun _ => fun
  | [d1, d2] => { results := [.lit (.bool false)], args := [d1, d2] }
  | _ => none }
def FnExactControlBitWrongFalsely : Prop := fnExactControlBitRow.holds Try.pinned (OpenSpec.ofChange fnExactControlBitWrong)

/-- 'laws.FnExactShareNumber': WHATEVER THE INPUT: true; the input reads as it did. -/
def fnExactShareNumberSpec : ChangeSpec := { name := "fnExactShareNumber", fn := fun _ => fun
  | [d1, d2] => { results := [.lit (.bool true)], args := [d1, d2] }
  | _ => none }
def fnExactShareNumberRow : OpenClaim := { program := "ytfbahbpddhakmaa", sum := "807d6bcca1194d0680e87e48ec29a7272d566d65d1004cbc86522ab6a49a39e6", func := "loop.example/g00516/laws.FnExactShareNumber", spec := "fnExactShareNumber", apart := false }
def FnExactShareNumberSaid : Prop := fnExactShareNumberRow.holds Try.pinned (OpenSpec.ofChange fnExactShareNumberSpec)

/-- ITS FALSE NEIGHBOUR: 'it returns false'. Refute it at one input. -/
def fnExactShareNumberWrong : ChangeSpec := { name := "fnExactShareNumber", fn := fun _ => fun
  | [d1, d2] => { results := [.lit (.bool false)], args := [d1, d2] }
  | _ => none }
def FnExactShareNumberWrongFalsely : Prop := fnExactShareNumberRow.holds Try.pinned (OpenSpec.ofChange fnExactShareNumberWrong)

/-- 'laws.FnExactKeyedHash': WHATEVER THE INPUT: true; the input reads as it did. -/
def fnExactKeyedHashSpec : ChangeSpec := { name := "fnExactKeyedHash", fn := fun _ => fun
  | [d1, d2] => { results := [.lit (.bool true)], args := [d1, d2] }
  | _ => none }
def fnExactKeyedHashRow : OpenClaim := { program := "ytfbahbpddhakmaa", sum := "807d6bcca1194d0680e87e48ec29a7272d566d65d1004cbc86522ab6a49a39e6", func := "loop.example/g00516/laws.FnExactKeyedHash", spec := "fnExactKeyedHash", apart := false }
def FnExactKeyedHashSaid : Prop := fnExactKeyedHashRow.holds Try.pinned (OpenSpec.ofChange fnExactKeyedHashSpec)

/-- ITS FALSE NEIGHBOUR: 'it returns false'. Refute it at one input. -/
def fnExactKeyedHashWrong : ChangeSpec := { name := "fnExactKeyedHash", fn := fun _ => fun
  | [d1, d2] => { results := [.lit (.bool false)], args := [d1, d2] }
  | _ => none }
def FnExactKeyedHashWrongFalsely : Prop := fnExactKeyedHashRow.holds Try.pinned (OpenSpec.ofChange fnExactKeyedHashWrong)

/-- 'laws.FnNumberShares': WHATEVER THE INPUT: true; the input reads as it did. -/
def fnNumberSharesSpec : ChangeSpec := { name := "fnNumberShares", fn := fun _ => fun
  | [d] => { results := [.lit (.bool true)], args := [d] }
  | _ => none }
def fnNumberSharesRow : OpenClaim := { program := "ytfbahbpddhakmaa", sum := "807d6bcca1194d0680e87e48ec29a7272d566d65d1004cbc86522ab6a49a39e6", func := "loop.example/g00516/laws.FnNumberShares", spec := "fnNumberShares", apart := false }
def FnNumberSharesSaid : Prop := fnNumberSharesRow.holds Try.pinned (OpenSpec.ofChange fnNumberSharesSpec)

/-- ITS FALSE NEIGHBOUR: 'it returns false'. Refute it at one input. -/
def fnNumberSharesWrong : ChangeSpec := { name := "fnNumberShares", fn := fun _ => fun
  | [d] => { results := [.lit (.bool false)], args := [d] }
  | _ => none }
def FnNumberSharesWrongFalsely : Prop := fnNumberSharesRow.holds Try.pinned (OpenSpec.ofChange fnNumberSharesWrong)

/-- 'laws.FnExactDeriveFromString': WHATEVER THE INPUT: true; the input reads as it did. -/
def fnExactDeriveFromStringSpec : ChangeSpec := { name := "fnExactDeriveFromString", fn := fun _ => fun
  | [d1, d2] => { results := [.lit (.bool true)], args := [d1, d2] }
  | _ => none }
def fnExactDeriveFromStringRow : OpenClaim := { program := "ytfbahbpddhakmaa", sum := "807d6bcca1194d0680e87e48ec29a7272d566d65d1004cbc86522ab6a49a39e6", func := "loop.example/g00516/laws.FnExactDeriveFromString", spec := "fnExactDeriveFromString", apart := false }
def FnExactDeriveFromStringSaid : Prop := fnExactDeriveFromStringRow.holds Try.pinned (OpenSpec.ofChange fnExactDeriveFromStringSpec)

/-- ITS FALSE NEIGHBOUR: 'it returns false'. Refute it at one input. -/
def fnExactDeriveFromStringWrong : ChangeSpec := { name := "fnExactDeriveFromString", fn := fun _ => fun
  | [d1, d2] => { results := [.lit (.bool false)], args := [d1, d2] }
  | _ => none }
def FnExactDeriveFromStringWrongFalsely : Prop := fnExactDeriveFromStringRow.holds Try.pinned (OpenSpec.ofChange fnExactDeriveFromStringWrong)

/-- 'laws.FnExactLeafSeed': WHATEVER THE INPUT: true; the input reads as it did. -/
def fnExactLeafSeedSpec : ChangeSpec := { name := "fnExactLeafSeed", fn := fun _ => fun
  | [d1, d2, d3] => { results := [.lit (.bool true)], args := [d1, d2, d3] }
  | _ => none }
def fnExactLeafSeedRow : OpenClaim := { program := "ytfbahbpddhakmaa", sum := "807d6bcca1194d0680e87e48ec29a7272d566d65d1004cbc86522ab6a49a39e6", func := "loop.example/g00516/laws.FnExactLeafSeed", spec := "fnExactLeafSeed", apart := false }
def FnExactLeafSeedSaid : Prop := fnExactLeafSeedRow.holds Try.pinned (OpenSpec.ofChange fnExactLeafSeedSpec)

/-- ITS FALSE NEIGHBOUR: 'it returns false'. Refute it at one input. -/
def fnExactLeafSeedWrong : ChangeSpec := { name := "fnExactLeafSeed", fn := fun _ => fun
  | [d1, d2, d3] => { results := [.lit (.bool false)], args := [d1, d2, d3] }
  | _ => none }
def FnExactLeafSeedWrongFalsely : Prop := fnExactLeafSeedRow.holds Try.pinned (OpenSpec.ofChange fnExactLeafSeedWrong)

/-- 'laws.FnExactPunctureTree': WHATEVER THE INPUT: true; the input reads as it did. -/
def fnExactPunctureTreeSpec : ChangeSpec := { name := "fnExactPunctureTree", fn := fun _ => fun
  | [d1, d2, d3] => { results := [.lit (.bool true)], args := [d1, d2, d3] }
  | _ => none }
def fnExactPunctureTreeRow : OpenClaim := { program := "ytfbahbpddhakmaa", sum := "807d6bcca1194d0680e87e48ec29a7272d566d65d1004cbc86522ab6a49a39e6", func := "loop.example/g00516/laws.FnExactPunctureTree", spec := "fnExactPunctureTree", apart := false }
def FnExactPunctureTreeSaid : Prop := fnExactPunctureTreeRow.holds Try.pinned (OpenSpec.ofChange fnExactPunctureTreeSpec)

/-- ITS FALSE NEIGHBOUR: 'it returns false'. Refute it at one input. -/
def fnExactPunctureTreeWrong : ChangeSpec := { name := "fnExactPunctureTree", fn := fun _ => fun
  | [d1, d2, d3] => { results := [.lit (.bool false)], args := [d1, d2, d3] }
  | _ => none }
def FnExactPunctureTreeWrongFalsely : Prop := fnExactPunctureTreeRow.holds Try.pinned (OpenSpec.ofChange fnExactPunctureTreeWrong)

/-- 'laws.FnExactPuncturedLeaf': WHATEVER THE INPUT: true; the input reads as it did. -/
def fnExactPuncturedLeafSpec : ChangeSpec := { name := "fnExactPuncturedLeaf", fn := fun _ => fun
  | [d1, d2, d3] => { results := [.lit (.bool true)], args := [d1, d2, d3] }
  | _ => none }
def fnExactPuncturedLeafRow : OpenClaim := { program := "ytfbahbpddhakmaa", sum := "807d6bcca1194d0680e87e48ec29a7272d566d65d1004cbc86522ab6a49a39e6", func := "loop.example/g00516/laws.FnExactPuncturedLeaf", spec := "fnExactPuncturedLeaf", apart := false }
def FnExactPuncturedLeafSaid : Prop := fnExactPuncturedLeafRow.holds Try.pinned (OpenSpec.ofChange fnExactPuncturedLeafSpec)

/-- ITS FALSE NEIGHBOUR: 'it returns false'. Refute it at one input. -/
def fnExactPuncturedLeafWrong : ChangeSpec := { name := "fnExactPuncturedLeaf", fn := fun _ => fun
  | [d1, d2, d3] => { results := [.lit (.bool false)], args := [d1, d2, d3] }
  | _ => none }
def FnExactPuncturedLeafWrongFalsely : Prop := fnExactPuncturedLeafRow.holds Try.pinned (OpenSpec.ofChange fnExactPuncturedLeafWrong)

/-- 'laws.FnExactLeafSeeds': WHATEVER THE INPUT: true; the input reads as it did. -/
def fnExactLeafSeedsSpec : ChangeSpec := { name := "fnExactLeafSeeds", fn := fun _ => fun
  | [d1, d2] => { results := [.lit (.bool true)], args := [d1, d2] }
  | _ => none }
def fnExactLeafSeedsRow : OpenClaim := { program := "ytfbahbpddhakmaa", sum := "807d6bcca1194d0680e87e48ec29a7272d566d65d1004cbc86522ab6a49a39e6", func := "loop.example/g00516/laws.FnExactLeafSeeds", spec := "fnExactLeafSeeds", apart := false }
def FnExactLeafSeedsSaid : Prop := fnExactLeafSeedsRow.holds Try.pinned (OpenSpec.ofChange fnExactLeafSeedsSpec)

/-- ITS FALSE NEIGHBOUR: 'it returns false'. Refute it at one input. -/
def fnExactLeafSeedsWrong : ChangeSpec := { name := "fnExactLeafSeeds", fn := fun _ => fun
  | [d1, d2] => { results := [.lit (.bool false)], args := [d1, d2] }
  | _ => none }
def FnExactLeafSeedsWrongFalsely : Prop := fnExactLeafSeedsRow.holds Try.pinned (OpenSpec.ofChange fnExactLeafSeedsWrong)

/- THE SECOND FORM. 'bulk': how many values and letters a reading holds, each counted each time it is reached (what is shared counts as often as it is met; a slice's spare places count too). A statement '..UptoSaid' is the law's where the arguments, and the package variables that the reading takes, are together of bulk at most 1048576: NARROWER than '..Said'. Prove '..Said' where nothing that the law and all that it calls make is longer than what came in: it says more and counts as full. Else prove '..UptoSaid'. A law counts once. -/
mutual
def uptoBulk {H : Type} : DataW H → Nat
  | .lit (.string bytes) => bytes.length + 1
  | .lit _ => 1
  | .nil => 1
  | .ptr d => uptoBulk d + 1
  | .slice elems spare => uptoBulkAll elems + uptoBulkAll spare + 1
  | .agg parts => uptoBulkAll parts + 1
  | .iface _ d => uptoBulk d + 1
  | .map entries => uptoBulkEntries entries + 1
  | .held _ => 1
def uptoBulkAll {H : Type} : List (DataW H) → Nat
  | [] => 0
  | d :: r => uptoBulk d + uptoBulkAll r
def uptoBulkEntries {H : Type} : List (Lit × DataW H) → Nat
  | [] => 0
  | x :: r => uptoBulkEntry x + uptoBulkEntries r
def uptoBulkEntry {H : Type} : Lit × DataW H → Nat
  | (.string bytes, d) => bytes.length + uptoBulk d + 1
  | (_, d) => uptoBulk d + 1
 end
def uptoSmall : (H : Type) → List (DataW H) → Bool := fun _ ds => decide (uptoBulkAll ds ≤ 1048576)
def OpenSpec.upto (s : _root_.Go.ChangeSpec) : _root_.Go.OpenSpec := { _root_.Go.OpenSpec.ofChange s with cond := some uptoSmall }

/-- 'laws.FnExactHash', WHERE WHAT IT READS IS OF BULK AT MOST 1048576: true; the input reads as it did. -/
def fnExactHashUptoRow : OpenClaim := { program := "ytfbahbpddhakmaa", sum := "807d6bcca1194d0680e87e48ec29a7272d566d65d1004cbc86522ab6a49a39e6", func := "loop.example/g00516/laws.FnExactHash", spec := "fnExactHash", apart := false, narrowed := true }
def FnExactHashUptoSaid : Prop := fnExactHashUptoRow.holds Try.pinned (OpenSpec.upto fnExactHashSpec)

/-- 'laws.FnExactJoinNumber', WHERE WHAT IT READS IS OF BULK AT MOST 1048576: true; the input reads as it did. -/
def fnExactJoinNumberUptoRow : OpenClaim := { program := "ytfbahbpddhakmaa", sum := "807d6bcca1194d0680e87e48ec29a7272d566d65d1004cbc86522ab6a49a39e6", func := "loop.example/g00516/laws.FnExactJoinNumber", spec := "fnExactJoinNumber", apart := false, narrowed := true }
def FnExactJoinNumberUptoSaid : Prop := fnExactJoinNumberUptoRow.holds Try.pinned (OpenSpec.upto fnExactJoinNumberSpec)

/-- 'laws.FnExactChildSeed', WHERE WHAT IT READS IS OF BULK AT MOST 1048576: true; the input reads as it did. -/
def fnExactChildSeedUptoRow : OpenClaim := { program := "ytfbahbpddhakmaa", sum := "807d6bcca1194d0680e87e48ec29a7272d566d65d1004cbc86522ab6a49a39e6", func := "loop.example/g00516/laws.FnExactChildSeed", spec := "fnExactChildSeed", apart := false, narrowed := true }
def FnExactChildSeedUptoSaid : Prop := fnExactChildSeedUptoRow.holds Try.pinned (OpenSpec.upto fnExactChildSeedSpec)

/-- 'laws.FnExactControlBit', WHERE WHAT IT READS IS OF BULK AT MOST 1048576: true; the input reads as it did. -/
def fnExactControlBitUptoRow : OpenClaim := { program := "ytfbahbpddhakmaa", sum := "807d6bcca1194d0680e87e48ec29a7272d566d65d1004cbc86522ab6a49a39e6", func := "loop.example/g00516/laws.FnExactControlBit", spec := "fnExactControlBit", apart := false, narrowed := true }
def FnExactControlBitUptoSaid : Prop := fnExactControlBitUptoRow.holds Try.pinned (OpenSpec.upto fnExactControlBitSpec)

/-- 'laws.FnExactShareNumber', WHERE WHAT IT READS IS OF BULK AT MOST 1048576: true; the input reads as it did. -/
def fnExactShareNumberUptoRow : OpenClaim := { program := "ytfbahbpddhakmaa", sum := "807d6bcca1194d0680e87e48ec29a7272d566d65d1004cbc86522ab6a49a39e6", func := "loop.example/g00516/laws.FnExactShareNumber", spec := "fnExactShareNumber", apart := false, narrowed := true }
def FnExactShareNumberUptoSaid : Prop := fnExactShareNumberUptoRow.holds Try.pinned (OpenSpec.upto fnExactShareNumberSpec)

/-- 'laws.FnExactKeyedHash', WHERE WHAT IT READS IS OF BULK AT MOST 1048576: true; the input reads as it did. -/
def fnExactKeyedHashUptoRow : OpenClaim := { program := "ytfbahbpddhakmaa", sum := "807d6bcca1194d0680e87e48ec29a7272d566d65d1004cbc86522ab6a49a39e6", func := "loop.example/g00516/laws.FnExactKeyedHash", spec := "fnExactKeyedHash", apart := false, narrowed := true }
def FnExactKeyedHashUptoSaid : Prop := fnExactKeyedHashUptoRow.holds Try.pinned (OpenSpec.upto fnExactKeyedHashSpec)

/-- 'laws.FnNumberShares', WHERE WHAT IT READS IS OF BULK AT MOST 1048576: true; the input reads as it did. -/
def fnNumberSharesUptoRow : OpenClaim := { program := "ytfbahbpddhakmaa", sum := "807d6bcca1194d0680e87e48ec29a7272d566d65d1004cbc86522ab6a49a39e6", func := "loop.example/g00516/laws.FnNumberShares", spec := "fnNumberShares", apart := false, narrowed := true }
def FnNumberSharesUptoSaid : Prop := fnNumberSharesUptoRow.holds Try.pinned (OpenSpec.upto fnNumberSharesSpec)

/-- 'laws.FnExactDeriveFromString', WHERE WHAT IT READS IS OF BULK AT MOST 1048576: true; the input reads as it did. -/
def fnExactDeriveFromStringUptoRow : OpenClaim := { program := "ytfbahbpddhakmaa", sum := "807d6bcca1194d0680e87e48ec29a7272d566d65d1004cbc86522ab6a49a39e6", func := "loop.example/g00516/laws.FnExactDeriveFromString", spec := "fnExactDeriveFromString", apart := false, narrowed := true }
def FnExactDeriveFromStringUptoSaid : Prop := fnExactDeriveFromStringUptoRow.holds Try.pinned (OpenSpec.upto fnExactDeriveFromStringSpec)

/-- 'laws.FnExactLeafSeed', WHERE WHAT IT READS IS OF BULK AT MOST 1048576: true; the input reads as it did. -/
def fnExactLeafSeedUptoRow : OpenClaim := { program := "ytfbahbpddhakmaa", sum := "807d6bcca1194d0680e87e48ec29a7272d566d65d1004cbc86522ab6a49a39e6", func := "loop.example/g00516/laws.FnExactLeafSeed", spec := "fnExactLeafSeed", apart := false, narrowed := true }
def FnExactLeafSeedUptoSaid : Prop := fnExactLeafSeedUptoRow.holds Try.pinned (OpenSpec.upto fnExactLeafSeedSpec)

/-- 'laws.FnExactPunctureTree', WHERE WHAT IT READS IS OF BULK AT MOST 1048576: true; the input reads as it did. -/
def fnExactPunctureTreeUptoRow : OpenClaim := { program := "ytfbahbpddhakmaa", sum := "807d6bcca1194d0680e87e48ec29a7272d566d65d1004cbc86522ab6a49a39e6", func := "loop.example/g00516/laws.FnExactPunctureTree", spec := "fnExactPunctureTree", apart := false, narrowed := true }
def FnExactPunctureTreeUptoSaid : Prop := fnExactPunctureTreeUptoRow.holds Try.pinned (OpenSpec.upto fnExactPunctureTreeSpec)

/-- 'laws.FnExactPuncturedLeaf', WHERE WHAT IT READS IS OF BULK AT MOST 1048576: true; the input reads as it did. -/
def fnExactPuncturedLeafUptoRow : OpenClaim := { program := "ytfbahbpddhakmaa", sum := "807d6bcca1194d0680e87e48ec29a7272d566d65d1004cbc86522ab6a49a39e6", func := "loop.example/g00516/laws.FnExactPuncturedLeaf", spec := "fnExactPuncturedLeaf", apart := false, narrowed := true }
def FnExactPuncturedLeafUptoSaid : Prop := fnExactPuncturedLeafUptoRow.holds Try.pinned (OpenSpec.upto fnExactPuncturedLeafSpec)

/-- 'laws.FnExactLeafSeeds', WHERE WHAT IT READS IS OF BULK AT MOST 1048576: true; the input reads as it did. -/
def fnExactLeafSeedsUptoRow : OpenClaim := { program := "ytfbahbpddhakmaa", sum := "807d6bcca1194d0680e87e48ec29a7272d566d65d1004cbc86522ab6a49a39e6", func := "loop.example/g00516/laws.FnExactLeafSeeds", spec := "fnExactLeafSeeds", apart := false, narrowed := true }
def FnExactLeafSeedsUptoSaid : Prop := fnExactLeafSeedsUptoRow.holds Try.pinned (OpenSpec.upto fnExactLeafSeedsSpec)

end Rows
end Go.Proofs.Ytfbahbpddhakmaa
