/-
  No cell of these rows narrows 'for every input' (looked for: loops, veiled, ifaces, maps, wideKeys, modest, calm, conditions, laid).
  DERIVED. THE GIVEN ROWS OF THIS SEAT. 12 by the template 'for every input the law returns true; each argument reads behind the call as it read before'; 0 by the template 'total and deterministic' (their statements: YtnlapkdmjlcedaaTotals.lean).
  GIVEN WITH THE SEED: the statements are not yours to turn. If you find one false, say at which input.
  Laid BY PROGRAM, IN A SANDBOX (cutbox-rows.mjs): the forced cells as the released guide's own fill.sh prints them over the translation 24ec552312ccac35… (all of the seat's roots in one cut). By AI agents, Wed Nov 11 2026. No macro, syntax, notation, axiom, sorry.
-/
import Derived.Test.YtnlapkdmjlcedaaChecked
import GoSem.Claim
import GoSem.ClaimJoined
import GoSem.ClaimMapViews
import Derived.JoinedTies
import Derived.KernelRfl
namespace Go.Proofs.Ytnlapkdmjlcedaa
/- THE CELL 'sum', in the pinned program and in every row, IS THE sha256 OF THE DUMP (.gsa) THAT YtnlapkdmjlcedaaProg.lean LOADS. Nothing in Lean hashes anything: it is a label: what it is worth is what the hold of that sum in a sandbox is worth. -/
noncomputable def Try.pinned : Pinned := { name := "ytnlapkdmjlcedaa", sum := "24ec552312ccac35a9047fc14392377e5876a2a7bd1e17c9b70edd55f66d1c3d", checked := Try.checked }
namespace Rows
def none {H : Type} : Left H := { results := [], args := [] }

/-- 'laws.FnExactConstants': WHATEVER THE INPUT: true; the input reads as it did. -/
def fnExactConstantsSpec : ChangeSpec := { name := "fnExactConstants", fn := fun _ => fun
  | [] => { results := [.lit (.bool true)], args := [] }
  | _ => none }
def fnExactConstantsRow : OpenClaim := { program := "ytnlapkdmjlcedaa", sum := "24ec552312ccac35a9047fc14392377e5876a2a7bd1e17c9b70edd55f66d1c3d", func := "loop.example/g01003/laws.FnExactConstants", spec := "fnExactConstants", apart := false }
def FnExactConstantsSaid : Prop := fnExactConstantsRow.holds Try.pinned (OpenSpec.ofChange fnExactConstantsSpec)

/-- ITS FALSE NEIGHBOUR: 'it returns false'. Refute it at one input. -/
def fnExactConstantsWrong : ChangeSpec := { name := "fnExactConstants", fn := fun _ => fun
  | [] => { results := [.lit (.bool false)], args := [] }
  | _ => none }
def FnExactConstantsWrongFalsely : Prop := fnExactConstantsRow.holds Try.pinned (OpenSpec.ofChange fnExactConstantsWrong)

/-- 'laws.FnExactIsRat': WHATEVER THE INPUT: true; the input reads as it did. -/
def fnExactIsRatSpec : ChangeSpec := { name := "fnExactIsRat", fn := fun _ => fun
  | [d] => { results := [.lit (.bool true)], args := [d] }
  | _ => none }
def fnExactIsRatRow : OpenClaim := { program := "ytnlapkdmjlcedaa", sum := "24ec552312ccac35a9047fc14392377e5876a2a7bd1e17c9b70edd55f66d1c3d", func := "loop.example/g01003/laws.FnExactIsRat", spec := "fnExactIsRat", apart := false }
def FnExactIsRatSaid : Prop := fnExactIsRatRow.holds Try.pinned (OpenSpec.ofChange fnExactIsRatSpec)

/-- ITS FALSE NEIGHBOUR: 'it returns false'. Refute it at one input. -/
def fnExactIsRatWrong : ChangeSpec := { name := "fnExactIsRat", fn := fun _ => fun
  | [d] => { results := [.lit (.bool false)], args := [d] }
  | _ => none }
def FnExactIsRatWrongFalsely : Prop := fnExactIsRatRow.holds Try.pinned (OpenSpec.ofChange fnExactIsRatWrong)

/-- 'laws.FnExactFloorOf': WHATEVER THE INPUT: true; the input reads as it did. -/
def fnExactFloorOfSpec : ChangeSpec := { name := "fnExactFloorOf", fn := fun _ => fun
  | [d] => { results := [.lit (.bool true)], args := [d] }
  | _ => none }
def fnExactFloorOfRow : OpenClaim := { program := "ytnlapkdmjlcedaa", sum := "24ec552312ccac35a9047fc14392377e5876a2a7bd1e17c9b70edd55f66d1c3d", func := "loop.example/g01003/laws.FnExactFloorOf", spec := "fnExactFloorOf", apart := false }
def FnExactFloorOfSaid : Prop := fnExactFloorOfRow.holds Try.pinned (OpenSpec.ofChange fnExactFloorOfSpec)

/-- ITS FALSE NEIGHBOUR: 'it returns false'. Refute it at one input. -/
def fnExactFloorOfWrong : ChangeSpec := { name := "fnExactFloorOf", fn := fun _ => fun
  | [d] => { results := [.lit (.bool false)], args := [d] }
  | _ => none }
def FnExactFloorOfWrongFalsely : Prop := fnExactFloorOfRow.holds Try.pinned (OpenSpec.ofChange fnExactFloorOfWrong)

/-- 'laws.FnExactCompareRats': WHATEVER THE INPUT: true; the input reads as it did. -/
def fnExactCompareRatsSpec : ChangeSpec := { name := "fnExactCompareRats", fn := fun _ => fun
  | [d1, d2] => { results := [.lit (.bool true)], args := [d1, d2] }
  | _ => none }
def fnExactCompareRatsRow : OpenClaim := { program := "ytnlapkdmjlcedaa", sum := "24ec552312ccac35a9047fc14392377e5876a2a7bd1e17c9b70edd55f66d1c3d", func := "loop.example/g01003/laws.FnExactCompareRats", spec := "fnExactCompareRats", apart := false }
def FnExactCompareRatsSaid : Prop := fnExactCompareRatsRow.holds Try.pinned (OpenSpec.ofChange fnExactCompareRatsSpec)

/-- ITS FALSE NEIGHBOUR: 'it returns false'. Refute it at one input. -/
def fnExactCompareRatsWrong : ChangeSpec := { name := "fnExactCompareRats", fn := fun _ => fun
  | [d1, d2] => { results := [.lit (.bool false)], args := [d1, d2] }
  | _ => none }
def FnExactCompareRatsWrongFalsely : Prop := fnExactCompareRatsRow.holds Try.pinned (OpenSpec.ofChange fnExactCompareRatsWrong)

/-- 'laws.FnExactMakeRat': WHATEVER THE INPUT: true; the input reads as it did. -/
def fnExactMakeRatSpec : ChangeSpec := { name := "fnExactMakeRat", fn := fun _ => fun
  | [d1, d2] => { results := [.lit (.bool true)], args := [d1, d2] }
  | _ => none }
def fnExactMakeRatRow : OpenClaim := { program := "ytnlapkdmjlcedaa", sum := "24ec552312ccac35a9047fc14392377e5876a2a7bd1e17c9b70edd55f66d1c3d", func := "loop.example/g01003/laws.FnExactMakeRat", spec := "fnExactMakeRat", apart := false }
def FnExactMakeRatSaid : Prop := fnExactMakeRatRow.holds Try.pinned (OpenSpec.ofChange fnExactMakeRatSpec)

/-- ITS FALSE NEIGHBOUR: 'it returns false'. Refute it at one input. -/
def fnExactMakeRatWrong : ChangeSpec := { name := "fnExactMakeRat", fn := fun _ => fun
  | [d1, d2] => { results := [.lit (.bool false)], args := [d1, d2] }
  | _ => none }
def FnExactMakeRatWrongFalsely : Prop := fnExactMakeRatRow.holds Try.pinned (OpenSpec.ofChange fnExactMakeRatWrong)

/-- 'laws.FnExactAddRats': WHATEVER THE INPUT: true; the input reads as it did. -/
def fnExactAddRatsSpec : ChangeSpec := { name := "fnExactAddRats", fn := fun _ => fun
  | [d1, d2] => { results := [.lit (.bool true)], args := [d1, d2] }
  | _ => none }
def fnExactAddRatsRow : OpenClaim := { program := "ytnlapkdmjlcedaa", sum := "24ec552312ccac35a9047fc14392377e5876a2a7bd1e17c9b70edd55f66d1c3d", func := "loop.example/g01003/laws.FnExactAddRats", spec := "fnExactAddRats", apart := false }
def FnExactAddRatsSaid : Prop := fnExactAddRatsRow.holds Try.pinned (OpenSpec.ofChange fnExactAddRatsSpec)

/-- ITS FALSE NEIGHBOUR: 'it returns false'. Refute it at one input. -/
def fnExactAddRatsWrong : ChangeSpec := { name := "fnExactAddRats", fn := fun _ => fun
  | [d1, d2] => { results := [.lit (.bool false)], args := [d1, d2] }
  | _ => none }
def FnExactAddRatsWrongFalsely : Prop := fnExactAddRatsRow.holds Try.pinned (OpenSpec.ofChange fnExactAddRatsWrong)

/-- 'laws.FnExactMultiplyRats': WHATEVER THE INPUT: true; the input reads as it did. -/
def fnExactMultiplyRatsSpec : ChangeSpec := { name := "fnExactMultiplyRats", fn := fun _ => fun
  | [d1, d2] => { results := [.lit (.bool true)], args := [d1, d2] }
  | _ => none }
def fnExactMultiplyRatsRow : OpenClaim := { program := "ytnlapkdmjlcedaa", sum := "24ec552312ccac35a9047fc14392377e5876a2a7bd1e17c9b70edd55f66d1c3d", func := "loop.example/g01003/laws.FnExactMultiplyRats", spec := "fnExactMultiplyRats", apart := false }
def FnExactMultiplyRatsSaid : Prop := fnExactMultiplyRatsRow.holds Try.pinned (OpenSpec.ofChange fnExactMultiplyRatsSpec)

/-- ITS FALSE NEIGHBOUR: 'it returns false'. Refute it at one input. -/
def fnExactMultiplyRatsWrong : ChangeSpec := { name := "fnExactMultiplyRats", fn := fun _ => fun
  | [d1, d2] => { results := [.lit (.bool false)], args := [d1, d2] }
  | _ => none }
def FnExactMultiplyRatsWrongFalsely : Prop := fnExactMultiplyRatsRow.holds Try.pinned (OpenSpec.ofChange fnExactMultiplyRatsWrong)

/-- 'laws.FnExactMiddleOf': WHATEVER THE INPUT: true; the input reads as it did. -/
def fnExactMiddleOfSpec : ChangeSpec := { name := "fnExactMiddleOf", fn := fun _ => fun
  | [d1, d2] => { results := [.lit (.bool true)], args := [d1, d2] }
  | _ => none }
def fnExactMiddleOfRow : OpenClaim := { program := "ytnlapkdmjlcedaa", sum := "24ec552312ccac35a9047fc14392377e5876a2a7bd1e17c9b70edd55f66d1c3d", func := "loop.example/g01003/laws.FnExactMiddleOf", spec := "fnExactMiddleOf", apart := false }
def FnExactMiddleOfSaid : Prop := fnExactMiddleOfRow.holds Try.pinned (OpenSpec.ofChange fnExactMiddleOfSpec)

/-- ITS FALSE NEIGHBOUR: 'it returns false'. Refute it at one input. -/
def fnExactMiddleOfWrong : ChangeSpec := { name := "fnExactMiddleOf", fn := fun _ => fun
  | [d1, d2] => { results := [.lit (.bool false)], args := [d1, d2] }
  | _ => none }
def FnExactMiddleOfWrongFalsely : Prop := fnExactMiddleOfRow.holds Try.pinned (OpenSpec.ofChange fnExactMiddleOfWrong)

/-- 'laws.FnExactSubtractRats': WHATEVER THE INPUT: true; the input reads as it did. -/
def fnExactSubtractRatsSpec : ChangeSpec := { name := "fnExactSubtractRats", fn := fun _ => fun
  | [d1, d2] => { results := [.lit (.bool true)], args := [d1, d2] }
  | _ => none }
def fnExactSubtractRatsRow : OpenClaim := { program := "ytnlapkdmjlcedaa", sum := "24ec552312ccac35a9047fc14392377e5876a2a7bd1e17c9b70edd55f66d1c3d", func := "loop.example/g01003/laws.FnExactSubtractRats", spec := "fnExactSubtractRats", apart := false }
def FnExactSubtractRatsSaid : Prop := fnExactSubtractRatsRow.holds Try.pinned (OpenSpec.ofChange fnExactSubtractRatsSpec)

/-- ITS FALSE NEIGHBOUR: 'it returns false'. Refute it at one input. -/
def fnExactSubtractRatsWrong : ChangeSpec := { name := "fnExactSubtractRats", fn := fun _ => fun
  | [d1, d2] => { results := [.lit (.bool false)], args := [d1, d2] }
  | _ => none }
def FnExactSubtractRatsWrongFalsely : Prop := fnExactSubtractRatsRow.holds Try.pinned (OpenSpec.ofChange fnExactSubtractRatsWrong)

/-- 'laws.FnExactDivideRats': WHATEVER THE INPUT: true; the input reads as it did. -/
def fnExactDivideRatsSpec : ChangeSpec := { name := "fnExactDivideRats", fn := fun _ => fun
  | [d1, d2] => { results := [.lit (.bool true)], args := [d1, d2] }
  | _ => none }
def fnExactDivideRatsRow : OpenClaim := { program := "ytnlapkdmjlcedaa", sum := "24ec552312ccac35a9047fc14392377e5876a2a7bd1e17c9b70edd55f66d1c3d", func := "loop.example/g01003/laws.FnExactDivideRats", spec := "fnExactDivideRats", apart := false }
def FnExactDivideRatsSaid : Prop := fnExactDivideRatsRow.holds Try.pinned (OpenSpec.ofChange fnExactDivideRatsSpec)

/-- ITS FALSE NEIGHBOUR: 'it returns false'. Refute it at one input. -/
def fnExactDivideRatsWrong : ChangeSpec := { name := "fnExactDivideRats", fn := fun _ => fun
  | [d1, d2] => { results := [.lit (.bool false)], args := [d1, d2] }
  | _ => none }
def FnExactDivideRatsWrongFalsely : Prop := fnExactDivideRatsRow.holds Try.pinned (OpenSpec.ofChange fnExactDivideRatsWrong)

/-- 'laws.FnExactRoundDownTo': WHATEVER THE INPUT: true; the input reads as it did. -/
def fnExactRoundDownToSpec : ChangeSpec := { name := "fnExactRoundDownTo", fn := fun _ => fun
  | [d1, d2] => { results := [.lit (.bool true)], args := [d1, d2] }
  | _ => none }
def fnExactRoundDownToRow : OpenClaim := { program := "ytnlapkdmjlcedaa", sum := "24ec552312ccac35a9047fc14392377e5876a2a7bd1e17c9b70edd55f66d1c3d", func := "loop.example/g01003/laws.FnExactRoundDownTo", spec := "fnExactRoundDownTo", apart := false }
def FnExactRoundDownToSaid : Prop := fnExactRoundDownToRow.holds Try.pinned (OpenSpec.ofChange fnExactRoundDownToSpec)

/-- ITS FALSE NEIGHBOUR: 'it returns false'. Refute it at one input. -/
def fnExactRoundDownToWrong : ChangeSpec := { name := "fnExactRoundDownTo", fn := fun _ => fun
  | [d1, d2] => { results := [.lit (.bool false)], args := [d1, d2] }
  | _ => none }
def FnExactRoundDownToWrongFalsely : Prop := fnExactRoundDownToRow.holds Try.pinned (OpenSpec.ofChange fnExactRoundDownToWrong)

/-- 'laws.FnRats': WHATEVER THE INPUT: true; the input reads as it did. -/
def fnRatsSpec : ChangeSpec := { name := "fnRats", fn := fun _ => fun
  | [d1, d2] => { results := [.lit (.bool true)], args := [d1, d2] }
  | _ => none }
def fnRatsRow : OpenClaim := { program := "ytnlapkdmjlcedaa", sum := "24ec552312ccac35a9047fc14392377e5876a2a7bd1e17c9b70edd55f66d1c3d", func := "loop.example/g01003/laws.FnRats", spec := "fnRats", apart := false }
def FnRatsSaid : Prop := fnRatsRow.holds Try.pinned (OpenSpec.ofChange fnRatsSpec)

/-- ITS FALSE NEIGHBOUR: 'it returns false'. Refute it at one input. -/
def fnRatsWrong : ChangeSpec := { name := "fnRats", fn := fun _ => fun
  | [d1, d2] => { results := [.lit (.bool false)], args := [d1, d2] }
  | _ => none }
def FnRatsWrongFalsely : Prop := fnRatsRow.holds Try.pinned (OpenSpec.ofChange fnRatsWrong)

/- THE SECOND FORM. 'bulk': how many values and letters a reading holds, each counted each time it is reached (what is shared counts as often as it is met; a slice's spare places count too). A statement '..UptoSaid' is the law's where the arguments, and the package variables that the reading takes, are together of bulk at most 1048576: NARROWER than '..Said'. Prove '..Said' where nothing that the law and all that it calls make is longer than what came in: it says more and counts as full. Else prove '..UptoSaid'. A law counts once. -/
mutual
def uptoBulk {H : Type} : DataW H → Nat
  | .lit (.string bytes) => bytes.length + 1
  | .lit _ => 1
  | .nil => 1
  | .ptr d => uptoBulk d + 1
  | .slice elems spare => uptoBulkAll elems + uptoBulkAll spare + 1
  | .agg parts => uptoBulkAll parts + 1
  | .iface _ d => uptoBulk d + 1
  | .map entries => uptoBulkEntries entries + 1
  | .held _ => 1
def uptoBulkAll {H : Type} : List (DataW H) → Nat
  | [] => 0
  | d :: r => uptoBulk d + uptoBulkAll r
def uptoBulkEntries {H : Type} : List (Lit × DataW H) → Nat
  | [] => 0
  | x :: r => uptoBulkEntry x + uptoBulkEntries r
def uptoBulkEntry {H : Type} : Lit × DataW H → Nat
  | (.string bytes, d) => bytes.length + uptoBulk d + 1
  | (_, d) => uptoBulk d + 1
 end
def uptoSmall : (H : Type) → List (DataW H) → Bool := fun _ ds => decide (uptoBulkAll ds ≤ 1048576)
def OpenSpec.upto (s : _root_.Go.ChangeSpec) : _root_.Go.OpenSpec := { _root_.Go.OpenSpec.ofChange s with cond := some uptoSmall }

/-- 'laws.FnExactConstants', WHERE WHAT IT READS IS OF BULK AT MOST 1048576: true; the input reads as it did. -/
def fnExactConstantsUptoRow : OpenClaim := { program := "ytnlapkdmjlcedaa", sum := "24ec552312ccac35a9047fc14392377e5876a2a7bd1e17c9b70edd55f66d1c3d", func := "loop.example/g01003/laws.FnExactConstants", spec := "fnExactConstants", apart := false, narrowed := true }
def FnExactConstantsUptoSaid : Prop := fnExactConstantsUptoRow.holds Try.pinned (OpenSpec.upto fnExactConstantsSpec)

/-- 'laws.FnExactIsRat', WHERE WHAT IT READS IS OF BULK AT MOST 1048576: true; the input reads as it did. -/
def fnExactIsRatUptoRow : OpenClaim := { program := "ytnlapkdmjlcedaa", sum := "24ec552312ccac35a9047fc14392377e5876a2a7bd1e17c9b70edd55f66d1c3d", func := "loop.example/g01003/laws.FnExactIsRat", spec := "fnExactIsRat", apart := false, narrowed := true }
def FnExactIsRatUptoSaid : Prop := fnExactIsRatUptoRow.holds Try.pinned (OpenSpec.upto fnExactIsRatSpec)

/-- 'laws.FnExactFloorOf', WHERE WHAT IT READS IS OF BULK AT MOST 1048576: true; the input reads as it did. -/
def fnExactFloorOfUptoRow : OpenClaim := { program := "ytnlapkdmjlcedaa", sum := "24ec552312ccac35a9047fc14392377e5876a2a7bd1e17c9b70edd55f66d1c3d", func := "loop.example/g01003/laws.FnExactFloorOf", spec := "fnExactFloorOf", apart := false, narrowed := true }
def FnExactFloorOfUptoSaid : Prop := fnExactFloorOfUptoRow.holds Try.pinned (OpenSpec.upto fnExactFloorOfSpec)

/-- 'laws.FnExactCompareRats', WHERE WHAT IT READS IS OF BULK AT MOST 1048576: true; the input reads as it did. -/
def fnExactCompareRatsUptoRow : OpenClaim := { program := "ytnlapkdmjlcedaa", sum := "24ec552312ccac35a9047fc14392377e5876a2a7bd1e17c9b70edd55f66d1c3d", func := "loop.example/g01003/laws.FnExactCompareRats", spec := "fnExactCompareRats", apart := false, narrowed := true }
def FnExactCompareRatsUptoSaid : Prop := fnExactCompareRatsUptoRow.holds Try.pinned (OpenSpec.upto fnExactCompareRatsSpec)

/-- 'laws.FnExactMakeRat', WHERE WHAT IT READS IS OF BULK AT MOST 1048576: true; the input reads as it did. -/
def fnExactMakeRatUptoRow : OpenClaim := { program := "ytnlapkdmjlcedaa", sum := "24ec552312ccac35a9047fc14392377e5876a2a7bd1e17c9b70edd55f66d1c3d", func := "loop.example/g01003/laws.FnExactMakeRat", spec := "fnExactMakeRat", apart := false, narrowed := true }
def FnExactMakeRatUptoSaid : Prop := fnExactMakeRatUptoRow.holds Try.pinned (OpenSpec.upto fnExactMakeRatSpec)

/-- 'laws.FnExactAddRats', WHERE WHAT IT READS IS OF BULK AT MOST 1048576: true; the input reads as it did. -/
def fnExactAddRatsUptoRow : OpenClaim := { program := "ytnlapkdmjlcedaa", sum := "24ec552312ccac35a9047fc14392377e5876a2a7bd1e17c9b70edd55f66d1c3d", func := "loop.example/g01003/laws.FnExactAddRats", spec := "fnExactAddRats", apart := false, narrowed := true }
def FnExactAddRatsUptoSaid : Prop := fnExactAddRatsUptoRow.holds Try.pinned (OpenSpec.upto fnExactAddRatsSpec)

/-- 'laws.FnExactMultiplyRats', WHERE WHAT IT READS IS OF BULK AT MOST 1048576: true; the input reads as it did. -/
def fnExactMultiplyRatsUptoRow : OpenClaim := { program := "ytnlapkdmjlcedaa", sum := "24ec552312ccac35a9047fc14392377e5876a2a7bd1e17c9b70edd55f66d1c3d", func := "loop.example/g01003/laws.FnExactMultiplyRats", spec := "fnExactMultiplyRats", apart := false, narrowed := true }
def FnExactMultiplyRatsUptoSaid : Prop := fnExactMultiplyRatsUptoRow.holds Try.pinned (OpenSpec.upto fnExactMultiplyRatsSpec)

/-- 'laws.FnExactMiddleOf', WHERE WHAT IT READS IS OF BULK AT MOST 1048576: true; the input reads as it did. -/
def fnExactMiddleOfUptoRow : OpenClaim := { program := "ytnlapkdmjlcedaa", sum := "24ec552312ccac35a9047fc14392377e5876a2a7bd1e17c9b70edd55f66d1c3d", func := "loop.example/g01003/laws.FnExactMiddleOf", spec := "fnExactMiddleOf", apart := false, narrowed := true }
def FnExactMiddleOfUptoSaid : Prop := fnExactMiddleOfUptoRow.holds Try.pinned (OpenSpec.upto fnExactMiddleOfSpec)

/-- 'laws.FnExactSubtractRats', WHERE WHAT IT READS IS OF BULK AT MOST 1048576: true; the input reads as it did. -/
def fnExactSubtractRatsUptoRow : OpenClaim := { program := "ytnlapkdmjlcedaa", sum := "24ec552312ccac35a9047fc14392377e5876a2a7bd1e17c9b70edd55f66d1c3d", func := "loop.example/g01003/laws.FnExactSubtractRats", spec := "fnExactSubtractRats", apart := false, narrowed := true }
def FnExactSubtractRatsUptoSaid : Prop := fnExactSubtractRatsUptoRow.holds Try.pinned (OpenSpec.upto fnExactSubtractRatsSpec)

/-- 'laws.FnExactDivideRats', WHERE WHAT IT READS IS OF BULK AT MOST 1048576: true; the input reads as it did. -/
def fnExactDivideRatsUptoRow : OpenClaim := { program := "ytnlapkdmjlcedaa", sum := "24ec552312ccac35a9047fc14392377e5876a2a7bd1e17c9b70edd55f66d1c3d", func := "loop.example/g01003/laws.FnExactDivideRats", spec := "fnExactDivideRats", apart := false, narrowed := true }
def FnExactDivideRatsUptoSaid : Prop := fnExactDivideRatsUptoRow.holds Try.pinned (OpenSpec.upto fnExactDivideRatsSpec)

/-- 'laws.FnExactRoundDownTo', WHERE WHAT IT READS IS OF BULK AT MOST 1048576: true; the input reads as it did. -/
def fnExactRoundDownToUptoRow : OpenClaim := { program := "ytnlapkdmjlcedaa", sum := "24ec552312ccac35a9047fc14392377e5876a2a7bd1e17c9b70edd55f66d1c3d", func := "loop.example/g01003/laws.FnExactRoundDownTo", spec := "fnExactRoundDownTo", apart := false, narrowed := true }
def FnExactRoundDownToUptoSaid : Prop := fnExactRoundDownToUptoRow.holds Try.pinned (OpenSpec.upto fnExactRoundDownToSpec)

/-- 'laws.FnRats', WHERE WHAT IT READS IS OF BULK AT MOST 1048576: true; the input reads as it did. -/
def fnRatsUptoRow : OpenClaim := { program := "ytnlapkdmjlcedaa", sum := "24ec552312ccac35a9047fc14392377e5876a2a7bd1e17c9b70edd55f66d1c3d", func := "loop.example/g01003/laws.FnRats", spec := "fnRats", apart := false, narrowed := true }
def FnRatsUptoSaid : Prop := fnRatsUptoRow.holds Try.pinned (OpenSpec.upto fnRatsSpec)

end Rows
end Go.Proofs.Ytnlapkdmjlcedaa
