/-
  No cell of these rows narrows 'for every input' (looked for: loops, veiled, ifaces, maps, wideKeys, modest, calm, conditions, laid).
  DERIVED. THE GIVEN ROWS OF THIS SEAT. 6 by the template 'for every input the law returns true; each argument reads behind the call as it read before'; 0 by the template 'total and deterministic' (their statements: YtkaekjhcphgldaaTotals.lean).
  GIVEN WITH THE SEED: the statements are not yours to turn. If you find one false, say at which input.
  Laid BY PROGRAM, IN A SANDBOX (cutbox-rows.mjs): the forced cells as the released guide's own fill.sh prints them over the translation 11d7e4ba650b01e2… (all of the seat's roots in one cut). By AI agents, Wed Nov 11 2026. No macro, syntax, notation, axiom, sorry.
-/
import Derived.Test.YtkaekjhcphgldaaChecked
import GoSem.Claim
import GoSem.ClaimJoined
import GoSem.ClaimMapViews
import Derived.JoinedTies
import Derived.KernelRfl
namespace Go.Proofs.Ytkaekjhcphgldaa
/- THE CELL 'sum', in the pinned program and in every row, IS THE sha256 OF THE DUMP (.gsa) THAT YtkaekjhcphgldaaProg.lean LOADS. Nothing in Lean hashes anything: it is a label: what it is worth is what the hold of that sum in a sandbox is worth. -/
noncomputable def Try.pinned : Pinned := { name := "ytkaekjhcphgldaa", sum := "11d7e4ba650b01e29a5a175cb8ec6007241bde13a83a4b569ec165b0546e6d82", checked := Try.checked }
namespace Rows
def none {H : Type} : Left H := { results := [], args := [] }

/-- 'laws.FnExactFixedPoints': WHATEVER THE INPUT: true; the input reads as it did. -/
def fnExactFixedPointsSpec : ChangeSpec := { name := "fnExactFixedPoints", fn := fun _ => fun
  | [d] => { results := [.lit (.bool true)], args := [d] }
  | _ => none }
def fnExactFixedPointsRow : OpenClaim := { program := "ytkaekjhcphgldaa", sum := "11d7e4ba650b01e29a5a175cb8ec6007241bde13a83a4b569ec165b0546e6d82", func := "loop.example/g01003/laws.FnExactFixedPoints", spec := "fnExactFixedPoints", unfollowed := true, recurses := true, apart := false }
def FnExactFixedPointsSaid : Prop := fnExactFixedPointsRow.holds Try.pinned (OpenSpec.ofChange fnExactFixedPointsSpec)

/-- ITS FALSE NEIGHBOUR: 'it returns false'. Refute it at one input. -/
def fnExactFixedPointsWrong : ChangeSpec := { name := "fnExactFixedPoints", fn := fun _ => fun
  | [d] => { results := [.lit (.bool false)], args := [d] }
  | _ => none }
def FnExactFixedPointsWrongFalsely : Prop := fnExactFixedPointsRow.holds Try.pinned (OpenSpec.ofChange fnExactFixedPointsWrong)

/-- 'laws.FnExactPointsBefore': WHATEVER THE INPUT: true; the input reads as it did. -/
def fnExactPointsBeforeSpec : ChangeSpec := { name := "fnExactPointsBefore", fn := fun _ => fun
  | [d1, d2] => { results := [.lit (.bool true)], args := [d1, d2] }
  | _ => none }
def fnExactPointsBeforeRow : OpenClaim := { program := "ytkaekjhcphgldaa", sum := "11d7e4ba650b01e29a5a175cb8ec6007241bde13a83a4b569ec165b0546e6d82", func := "loop.example/g01003/laws.FnExactPointsBefore", spec := "fnExactPointsBefore", unfollowed := true, recurses := true, apart := false }
def FnExactPointsBeforeSaid : Prop := fnExactPointsBeforeRow.holds Try.pinned (OpenSpec.ofChange fnExactPointsBeforeSpec)

/-- ITS FALSE NEIGHBOUR: 'it returns false'. Refute it at one input. -/
def fnExactPointsBeforeWrong : ChangeSpec := { name := "fnExactPointsBefore", fn := fun _ => fun
  | [d1, d2] => { results := [.lit (.bool false)], args := [d1, d2] }
  | _ => none }
def FnExactPointsBeforeWrongFalsely : Prop := fnExactPointsBeforeRow.holds Try.pinned (OpenSpec.ofChange fnExactPointsBeforeWrong)

/-- 'laws.FnExactGreatestDistance': WHATEVER THE INPUT: true; the input reads as it did. -/
def fnExactGreatestDistanceSpec : ChangeSpec := { name := "fnExactGreatestDistance", fn := fun _ => fun
  | [d1, d2] => { results := [.lit (.bool true)], args := [d1, d2] }
  | _ => none }
def fnExactGreatestDistanceRow : OpenClaim := { program := "ytkaekjhcphgldaa", sum := "11d7e4ba650b01e29a5a175cb8ec6007241bde13a83a4b569ec165b0546e6d82", func := "loop.example/g01003/laws.FnExactGreatestDistance", spec := "fnExactGreatestDistance", unfollowed := true, recurses := true, apart := false }
def FnExactGreatestDistanceSaid : Prop := fnExactGreatestDistanceRow.holds Try.pinned (OpenSpec.ofChange fnExactGreatestDistanceSpec)

/-- ITS FALSE NEIGHBOUR: 'it returns false'. Refute it at one input. -/
def fnExactGreatestDistanceWrong : ChangeSpec := { name := "fnExactGreatestDistance", fn := fun _ => fun
  | [d1, d2] => { results := [.lit (.bool false)], args := [d1, d2] }
  | _ => none }
def FnExactGreatestDistanceWrongFalsely : Prop := fnExactGreatestDistanceRow.holds Try.pinned (OpenSpec.ofChange fnExactGreatestDistanceWrong)

/-- 'laws.FnExactIsBelow': WHATEVER THE INPUT: true; the input reads as it did. -/
def fnExactIsBelowSpec : ChangeSpec := { name := "fnExactIsBelow", fn := fun _ => fun
  | [d1, d2] => { results := [.lit (.bool true)], args := [d1, d2] }
  | _ => none }
def fnExactIsBelowRow : OpenClaim := { program := "ytkaekjhcphgldaa", sum := "11d7e4ba650b01e29a5a175cb8ec6007241bde13a83a4b569ec165b0546e6d82", func := "loop.example/g01003/laws.FnExactIsBelow", spec := "fnExactIsBelow", unfollowed := true, recurses := true, apart := false }
def FnExactIsBelowSaid : Prop := fnExactIsBelowRow.holds Try.pinned (OpenSpec.ofChange fnExactIsBelowSpec)

/-- ITS FALSE NEIGHBOUR: 'it returns false'. Refute it at one input. -/
def fnExactIsBelowWrong : ChangeSpec := { name := "fnExactIsBelow", fn := fun _ => fun
  | [d1, d2] => { results := [.lit (.bool false)], args := [d1, d2] }
  | _ => none }
def FnExactIsBelowWrongFalsely : Prop := fnExactIsBelowRow.holds Try.pinned (OpenSpec.ofChange fnExactIsBelowWrong)

/-- 'laws.FnExactIsCycle': WHATEVER THE INPUT: true; the input reads as it did. -/
def fnExactIsCycleSpec : ChangeSpec := { name := "fnExactIsCycle", fn := fun _ => fun
  | [d1, d2] => { results := [.lit (.bool true)], args := [d1, d2] }
  | _ => none }
def fnExactIsCycleRow : OpenClaim := { program := "ytkaekjhcphgldaa", sum := "11d7e4ba650b01e29a5a175cb8ec6007241bde13a83a4b569ec165b0546e6d82", func := "loop.example/g01003/laws.FnExactIsCycle", spec := "fnExactIsCycle", unfollowed := true, recurses := true, apart := false }
def FnExactIsCycleSaid : Prop := fnExactIsCycleRow.holds Try.pinned (OpenSpec.ofChange fnExactIsCycleSpec)

/-- ITS FALSE NEIGHBOUR: 'it returns false'. Refute it at one input. -/
def fnExactIsCycleWrong : ChangeSpec := { name := "fnExactIsCycle", fn := fun _ => fun
  | [d1, d2] => { results := [.lit (.bool false)], args := [d1, d2] }
  | _ => none }
def FnExactIsCycleWrongFalsely : Prop := fnExactIsCycleRow.holds Try.pinned (OpenSpec.ofChange fnExactIsCycleWrong)

/-- 'laws.FnExactRefineMap': WHATEVER THE INPUT: true; the input reads as it did. -/
def fnExactRefineMapSpec : ChangeSpec := { name := "fnExactRefineMap", fn := fun _ => fun
  | [d1, d2] => { results := [.lit (.bool true)], args := [d1, d2] }
  | _ => none }
def fnExactRefineMapRow : OpenClaim := { program := "ytkaekjhcphgldaa", sum := "11d7e4ba650b01e29a5a175cb8ec6007241bde13a83a4b569ec165b0546e6d82", func := "loop.example/g01003/laws.FnExactRefineMap", spec := "fnExactRefineMap", unfollowed := true, recurses := true, apart := false }
def FnExactRefineMapSaid : Prop := fnExactRefineMapRow.holds Try.pinned (OpenSpec.ofChange fnExactRefineMapSpec)

/-- ITS FALSE NEIGHBOUR: 'it returns false'. Refute it at one input. -/
def fnExactRefineMapWrong : ChangeSpec := { name := "fnExactRefineMap", fn := fun _ => fun
  | [d1, d2] => { results := [.lit (.bool false)], args := [d1, d2] }
  | _ => none }
def FnExactRefineMapWrongFalsely : Prop := fnExactRefineMapRow.holds Try.pinned (OpenSpec.ofChange fnExactRefineMapWrong)

/- THE SECOND FORM. 'bulk': how many values and letters a reading holds, each counted each time it is reached (what is shared counts as often as it is met; a slice's spare places count too). A statement '..UptoSaid' is the law's where the arguments, and the package variables that the reading takes, are together of bulk at most 1048576: NARROWER than '..Said'. Prove '..Said' where nothing that the law and all that it calls make is longer than what came in: it says more and counts as full. Else prove '..UptoSaid'. A law counts once. -/
mutual
def uptoBulk {H : Type} : DataW H → Nat
  | .lit (.string bytes) => bytes.length + 1
  | .lit _ => 1
  | .nil => 1
  | .ptr d => uptoBulk d + 1
  | .slice elems spare => uptoBulkAll elems + uptoBulkAll spare + 1
  | .agg parts => uptoBulkAll parts + 1
  | .iface _ d => uptoBulk d + 1
  | .map entries => uptoBulkEntries entries + 1
  | .held _ => 1
def uptoBulkAll {H : Type} : List (DataW H) → Nat
  | [] => 0
  | d :: r => uptoBulk d + uptoBulkAll r
def uptoBulkEntries {H : Type} : List (Lit × DataW H) → Nat
  | [] => 0
  | x :: r => uptoBulkEntry x + uptoBulkEntries r
def uptoBulkEntry {H : Type} : Lit × DataW H → Nat
  | (.string bytes, d) => bytes.length + uptoBulk d + 1
  | (_, d) => uptoBulk d + 1
 end
def uptoSmall : (H : Type) → List (DataW H) → Bool := fun _ ds => decide (uptoBulkAll ds ≤ 1048576)
def OpenSpec.upto (s : _root_.Go.ChangeSpec) : _root_.Go.OpenSpec := { _root_.Go.OpenSpec.ofChange s with cond := some uptoSmall }

/-- 'laws.FnExactFixedPoints', WHERE WHAT IT READS IS OF BULK AT MOST 1048576: true; the input reads as it did. -/
def fnExactFixedPointsUptoRow : OpenClaim := { program := "ytkaekjhcphgldaa", sum := "11d7e4ba650b01e29a5a175cb8ec6007241bde13a83a4b569ec165b0546e6d82", func := "loop.example/g01003/laws.FnExactFixedPoints", spec := "fnExactFixedPoints", unfollowed := true, recurses := true, apart := false, narrowed := true }
def FnExactFixedPointsUptoSaid : Prop := fnExactFixedPointsUptoRow.holds Try.pinned (OpenSpec.upto fnExactFixedPointsSpec)

/-- 'laws.FnExactPointsBefore', WHERE WHAT IT READS IS OF BULK AT MOST 1048576: true; the input reads as it did. -/
def fnExactPointsBeforeUptoRow : OpenClaim := { program := "ytkaekjhcphgldaa", sum := "11d7e4ba650b01e29a5a175cb8ec6007241bde13a83a4b569ec165b0546e6d82", func := "loop.example/g01003/laws.FnExactPointsBefore", spec := "fnExactPointsBefore", unfollowed := true, recurses := true, apart := false, narrowed := true }
def FnExactPointsBeforeUptoSaid : Prop := fnExactPointsBeforeUptoRow.holds Try.pinned (OpenSpec.upto fnExactPointsBeforeSpec)

/-- 'laws.FnExactGreatestDistance', WHERE WHAT IT READS IS OF BULK AT MOST 1048576: true; the input reads as it did. -/
def fnExactGreatestDistanceUptoRow : OpenClaim := { program := "ytkaekjhcphgldaa", sum := "11d7e4ba650b01e29a5a175cb8ec6007241bde13a83a4b569ec165b0546e6d82", func := "loop.example/g01003/laws.FnExactGreatestDistance", spec := "fnExactGreatestDistance", unfollowed := true, recurses := true, apart := false, narrowed := true }
def FnExactGreatestDistanceUptoSaid : Prop := fnExactGreatestDistanceUptoRow.holds Try.pinned (OpenSpec.upto fnExactGreatestDistanceSpec)

/-- 'laws.FnExactIsBelow', WHERE WHAT IT READS IS OF BULK AT MOST 1048576: true; the input reads as it did. -/
def fnExactIsBelowUptoRow : OpenClaim := { program := "ytkaekjhcphgldaa", sum := "11d7e4ba650b01e29a5a175cb8ec6007241bde13a83a4b569ec165b0546e6d82", func := "loop.example/g01003/laws.FnExactIsBelow", spec := "fnExactIsBelow", unfollowed := true, recurses := true, apart := false, narrowed := true }
def FnExactIsBelowUptoSaid : Prop := fnExactIsBelowUptoRow.holds Try.pinned (OpenSpec.upto fnExactIsBelowSpec)

/-- 'laws.FnExactIsCycle', WHERE WHAT IT READS IS OF BULK AT MOST 1048576: true; the input reads as it did. -/
def fnExactIsCycleUptoRow : OpenClaim := { program := "ytkaekjhcphgldaa", sum := "11d7e4ba650b01e29a5a175cb8ec6007241bde13a83a4b569ec165b0546e6d82", func := "loop.example/g01003/laws.FnExactIsCycle", spec := "fnExactIsCycle", unfollowed := true, recurses := true, apart := false, narrowed := true }
def FnExactIsCycleUptoSaid : Prop := fnExactIsCycleUptoRow.holds Try.pinned (OpenSpec.upto fnExactIsCycleSpec)

/-- 'laws.FnExactRefineMap', WHERE WHAT IT READS IS OF BULK AT MOST 1048576: true; the input reads as it did. -/
def fnExactRefineMapUptoRow : OpenClaim := { program := "ytkaekjhcphgldaa", sum := "11d7e4ba650b01e29a5a175cb8ec6007241bde13a83a4b569ec165b0546e6d82", func := "loop.example/g01003/laws.FnExactRefineMap", spec := "fnExactRefineMap", unfollowed := true, recurses := true, apart := false, narrowed := true }
def FnExactRefineMapUptoSaid : Prop := fnExactRefineMapUptoRow.holds Try.pinned (OpenSpec.upto fnExactRefineMapSpec)

end Rows
end Go.Proofs.Ytkaekjhcphgldaa
