/-
  No cell of these rows narrows 'for every input' (looked for: loops, veiled, ifaces, maps, wideKeys, modest, calm, conditions, laid).
  DERIVED. THE GIVEN ROWS OF THIS SEAT. 4 by the template 'for every input the law returns true; each argument reads behind the call as it read before'; 0 by the template 'total and deterministic' (their statements: YtkeajfgcjmhmiaaGreatTotals.lean).
  GIVEN WITH THE SEED: the statements are not yours to turn. If you find one false, say at which input.
  Laid BY PROGRAM, IN A SANDBOX (cutbox-rows.mjs): the forced cells as the released guide's own fill.sh prints them over the translation e696295f411d1f2f… (all of the seat's roots in one cut). By AI agents, Wed Nov 11 2026. No macro, syntax, notation, axiom, sorry.
-/
import Derived.Test.YtkeajfgcjmhmiaaGreatChecked
import GoSem.Claim
import GoSem.ClaimJoined
import GoSem.ClaimMapViews
import Derived.JoinedTies
import Derived.KernelRfl
namespace Go.Proofs.YtkeajfgcjmhmiaaGreat
/- THE CELL 'sum', in the pinned program and in every row, IS THE sha256 OF THE DUMP (.gsa) THAT YtkeajfgcjmhmiaaGreatProg.lean LOADS. Nothing in Lean hashes anything: it is a label: what it is worth is what the hold of that sum in a sandbox is worth. -/
noncomputable def Tryz.pinned : Pinned := { name := "ytkeajfgcjmhmiaagreat", sum := "e696295f411d1f2fe32ea35ab8c9220a5d636e76ef64cb7d87fee60850095dc1", checked := Tryz.checked }
namespace Rows
def none {H : Type} : Left H := { results := [], args := [] }

/-- 'laws.FnCompositions': WHATEVER THE INPUT: true; the input reads as it did. -/
def fnCompositionsSpec : ChangeSpec := { name := "fnCompositions", fn := fun _ => fun
  | [d1, d2] => { results := [.lit (.bool true)], args := [d1, d2] }
  | _ => none }
def fnCompositionsRow : OpenClaim := { program := "ytkeajfgcjmhmiaagreat", sum := "e696295f411d1f2fe32ea35ab8c9220a5d636e76ef64cb7d87fee60850095dc1", func := "loop.example/g01003/laws.FnCompositions", spec := "fnCompositions", unfollowed := true, recurses := true, apart := false }
def FnCompositionsSaid : Prop := fnCompositionsRow.holds Tryz.pinned (OpenSpec.ofChange fnCompositionsSpec)

/-- ITS FALSE NEIGHBOUR: 'it returns false'. Refute it at one input. -/
def fnCompositionsWrong : ChangeSpec := { name := "fnCompositions", fn := fun _ => fun
  | [d1, d2] => { results := [.lit (.bool false)], args := [d1, d2] }
  | _ => none }
def FnCompositionsWrongFalsely : Prop := fnCompositionsRow.holds Tryz.pinned (OpenSpec.ofChange fnCompositionsWrong)

/-- 'laws.FnMixedMaps': WHATEVER THE INPUT: true; the input reads as it did. -/
def fnMixedMapsSpec : ChangeSpec := { name := "fnMixedMaps", fn := fun _ => fun
  | [d1, d2] => { results := [.lit (.bool true)], args := [d1, d2] }
  | _ => none }
def fnMixedMapsRow : OpenClaim := { program := "ytkeajfgcjmhmiaagreat", sum := "e696295f411d1f2fe32ea35ab8c9220a5d636e76ef64cb7d87fee60850095dc1", func := "loop.example/g01003/laws.FnMixedMaps", spec := "fnMixedMaps", unfollowed := true, recurses := true, apart := false }
def FnMixedMapsSaid : Prop := fnMixedMapsRow.holds Tryz.pinned (OpenSpec.ofChange fnMixedMapsSpec)

/-- ITS FALSE NEIGHBOUR: 'it returns false'. Refute it at one input. -/
def fnMixedMapsWrong : ChangeSpec := { name := "fnMixedMaps", fn := fun _ => fun
  | [d1, d2] => { results := [.lit (.bool false)], args := [d1, d2] }
  | _ => none }
def FnMixedMapsWrongFalsely : Prop := fnMixedMapsRow.holds Tryz.pinned (OpenSpec.ofChange fnMixedMapsWrong)

/-- 'laws.FnOrbits': WHATEVER THE INPUT: true; the input reads as it did. -/
def fnOrbitsSpec : ChangeSpec := { name := "fnOrbits", fn := fun _ => fun
  | [d1, d2] => { results := [.lit (.bool true)], args := [d1, d2] }
  | _ => none }
def fnOrbitsRow : OpenClaim := { program := "ytkeajfgcjmhmiaagreat", sum := "e696295f411d1f2fe32ea35ab8c9220a5d636e76ef64cb7d87fee60850095dc1", func := "loop.example/g01003/laws.FnOrbits", spec := "fnOrbits", unfollowed := true, recurses := true, apart := false }
def FnOrbitsSaid : Prop := fnOrbitsRow.holds Tryz.pinned (OpenSpec.ofChange fnOrbitsSpec)

/-- ITS FALSE NEIGHBOUR: 'it returns false'. Refute it at one input. -/
def fnOrbitsWrong : ChangeSpec := { name := "fnOrbits", fn := fun _ => fun
  | [d1, d2] => { results := [.lit (.bool false)], args := [d1, d2] }
  | _ => none }
def FnOrbitsWrongFalsely : Prop := fnOrbitsRow.holds Tryz.pinned (OpenSpec.ofChange fnOrbitsWrong)

/-- 'laws.FnFixed': WHATEVER THE INPUT: true; the input reads as it did. -/
def fnFixedSpec : ChangeSpec := { name := "fnFixed", fn := fun _ => fun
  | [d1, d2] => { results := [.lit (.bool true)], args := [d1, d2] }
  | _ => none }
def fnFixedRow : OpenClaim := { program := "ytkeajfgcjmhmiaagreat", sum := "e696295f411d1f2fe32ea35ab8c9220a5d636e76ef64cb7d87fee60850095dc1", func := "loop.example/g01003/laws.FnFixed", spec := "fnFixed", unfollowed := true, recurses := true, apart := false }
def FnFixedSaid : Prop := fnFixedRow.holds Tryz.pinned (OpenSpec.ofChange fnFixedSpec)

/-- ITS FALSE NEIGHBOUR: 'it returns false'. Refute it at one input. -/
def fnFixedWrong : ChangeSpec := { name := "fnFixed", fn := fun _ => fun
  | [d1, d2] => { results := [.lit (.bool false)], args := [d1, d2] }
  | _ => none }
def FnFixedWrongFalsely : Prop := fnFixedRow.holds Tryz.pinned (OpenSpec.ofChange fnFixedWrong)

/- THE SECOND FORM. 'bulk': how many values and letters a reading holds, each counted each time it is reached (what is shared counts as often as it is met; a slice's spare places count too). A statement '..UptoSaid' is the law's where the arguments, and the package variables that the reading takes, are together of bulk at most 1048576: NARROWER than '..Said'. Prove '..Said' where nothing that the law and all that it calls make is longer than what came in: it says more and counts as full. Else prove '..UptoSaid'. A law counts once. -/
mutual
def uptoBulk {H : Type} : DataW H → Nat
  | .lit (.string bytes) => bytes.length + 1
  | .lit _ => 1
  | .nil => 1
  | .ptr d => uptoBulk d + 1
  | .slice elems spare => uptoBulkAll elems + uptoBulkAll spare + 1
  | .agg parts => uptoBulkAll parts + 1
  | .iface _ d => uptoBulk d + 1
  | .map entries => uptoBulkEntries entries + 1
  | .held _ => 1
def uptoBulkAll {H : Type} : List (DataW H) → Nat
  | [] => 0
  | d :: r => uptoBulk d + uptoBulkAll r
def uptoBulkEntries {H : Type} : List (Lit × DataW H) → Nat
  | [] => 0
  | x :: r => uptoBulkEntry x + uptoBulkEntries r
def uptoBulkEntry {H : Type} : Lit × DataW H → Nat
  | (.string bytes, d) => bytes.length + uptoBulk d + 1
  | (_, d) => uptoBulk d + 1
 end
def uptoSmall : (H : Type) → List (DataW H) → Bool := fun _ ds => decide (uptoBulkAll ds ≤ 1048576)
def OpenSpec.upto (s : _root_.Go.ChangeSpec) : _root_.Go.OpenSpec := { _root_.Go.OpenSpec.ofChange s with cond := some uptoSmall }

/-- 'laws.FnCompositions', WHERE WHAT IT READS IS OF BULK AT MOST 1048576: true; the input reads as it did. -/
def fnCompositionsUptoRow : OpenClaim := { program := "ytkeajfgcjmhmiaagreat", sum := "e696295f411d1f2fe32ea35ab8c9220a5d636e76ef64cb7d87fee60850095dc1", func := "loop.example/g01003/laws.FnCompositions", spec := "fnCompositions", unfollowed := true, recurses := true, apart := false, narrowed := true }
def FnCompositionsUptoSaid : Prop := fnCompositionsUptoRow.holds Tryz.pinned (OpenSpec.upto fnCompositionsSpec)

/-- 'laws.FnMixedMaps', WHERE WHAT IT READS IS OF BULK AT MOST 1048576: true; the input reads as it did. -/
def fnMixedMapsUptoRow : OpenClaim := { program := "ytkeajfgcjmhmiaagreat", sum := "e696295f411d1f2fe32ea35ab8c9220a5d636e76ef64cb7d87fee60850095dc1", func := "loop.example/g01003/laws.FnMixedMaps", spec := "fnMixedMaps", unfollowed := true, recurses := true, apart := false, narrowed := true }
def FnMixedMapsUptoSaid : Prop := fnMixedMapsUptoRow.holds Tryz.pinned (OpenSpec.upto fnMixedMapsSpec)

/-- 'laws.FnOrbits', WHERE WHAT IT READS IS OF BULK AT MOST 1048576: true; the input reads as it did. -/
def fnOrbitsUptoRow : OpenClaim := { program := "ytkeajfgcjmhmiaagreat", sum := "e696295f411d1f2fe32ea35ab8c9220a5d636e76ef64cb7d87fee60850095dc1", func := "loop.example/g01003/laws.FnOrbits", spec := "fnOrbits", unfollowed := true, recurses := true, apart := false, narrowed := true }
def FnOrbitsUptoSaid : Prop := fnOrbitsUptoRow.holds Tryz.pinned (OpenSpec.upto fnOrbitsSpec)

/-- 'laws.FnFixed', WHERE WHAT IT READS IS OF BULK AT MOST 1048576: true; the input reads as it did. -/
def fnFixedUptoRow : OpenClaim := { program := "ytkeajfgcjmhmiaagreat", sum := "e696295f411d1f2fe32ea35ab8c9220a5d636e76ef64cb7d87fee60850095dc1", func := "loop.example/g01003/laws.FnFixed", spec := "fnFixed", unfollowed := true, recurses := true, apart := false, narrowed := true }
def FnFixedUptoSaid : Prop := fnFixedUptoRow.holds Tryz.pinned (OpenSpec.upto fnFixedSpec)

end Rows
end Go.Proofs.YtkeajfgcjmhmiaaGreat
