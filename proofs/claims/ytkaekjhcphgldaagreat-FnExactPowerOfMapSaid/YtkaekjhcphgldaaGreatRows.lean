/-
  No cell of these rows narrows 'for every input' (looked for: loops, veiled, ifaces, maps, wideKeys, modest, calm, conditions, laid).
  DERIVED. THE GIVEN ROWS OF THIS SEAT. 5 by the template 'for every input the law returns true; each argument reads behind the call as it read before'; 0 by the template 'total and deterministic' (their statements: YtkaekjhcphgldaaGreatTotals.lean).
  GIVEN WITH THE SEED: the statements are not yours to turn. If you find one false, say at which input.
  Laid BY PROGRAM, IN A SANDBOX (cutbox-rows.mjs): the forced cells as the released guide's own fill.sh prints them over the translation e4d9522891de43e6… (all of the seat's roots in one cut). By AI agents, Wed Nov 11 2026. No macro, syntax, notation, axiom, sorry.
-/
import Derived.Test.YtkaekjhcphgldaaGreatChecked
import GoSem.Claim
import GoSem.ClaimJoined
import GoSem.ClaimMapViews
import Derived.JoinedTies
import Derived.KernelRfl
namespace Go.Proofs.YtkaekjhcphgldaaGreat
/- THE CELL 'sum', in the pinned program and in every row, IS THE sha256 OF THE DUMP (.gsa) THAT YtkaekjhcphgldaaGreatProg.lean LOADS. Nothing in Lean hashes anything: it is a label: what it is worth is what the hold of that sum in a sandbox is worth. -/
noncomputable def Tryz.pinned : Pinned := { name := "ytkaekjhcphgldaagreat", sum := "e4d9522891de43e689c50a892bf69ffac9690cffd9d82f002f659fcc4f613bdd", checked := Tryz.checked }
namespace Rows
def none {H : Type} : Left H := { results := [], args := [] }

/-- 'laws.FnExactMiddleMap': WHATEVER THE INPUT: true; the input reads as it did. -/
def fnExactMiddleMapSpec : ChangeSpec := { name := "fnExactMiddleMap", fn := fun _ => fun
  | [d1, d2] => { results := [.lit (.bool true)], args := [d1, d2] }
  | _ => none }
def fnExactMiddleMapRow : OpenClaim := { program := "ytkaekjhcphgldaagreat", sum := "e4d9522891de43e689c50a892bf69ffac9690cffd9d82f002f659fcc4f613bdd", func := "loop.example/g01003/laws.FnExactMiddleMap", spec := "fnExactMiddleMap", unfollowed := true, recurses := true, apart := false }
def FnExactMiddleMapSaid : Prop := fnExactMiddleMapRow.holds Tryz.pinned (OpenSpec.ofChange fnExactMiddleMapSpec)

/-- ITS FALSE NEIGHBOUR: 'it returns false'. Refute it at one input. -/
def fnExactMiddleMapWrong : ChangeSpec := { name := "fnExactMiddleMap", fn := fun _ => fun
  | [d1, d2] => { results := [.lit (.bool false)], args := [d1, d2] }
  | _ => none }
def FnExactMiddleMapWrongFalsely : Prop := fnExactMiddleMapRow.holds Tryz.pinned (OpenSpec.ofChange fnExactMiddleMapWrong)

/-- 'laws.FnExactComposeMaps': WHATEVER THE INPUT: true; the input reads as it did. -/
def fnExactComposeMapsSpec : ChangeSpec := { name := "fnExactComposeMaps", fn := fun _ => fun
  | [d1, d2] => { results := [.lit (.bool true)], args := [d1, d2] }
  | _ => none }
def fnExactComposeMapsRow : OpenClaim := { program := "ytkaekjhcphgldaagreat", sum := "e4d9522891de43e689c50a892bf69ffac9690cffd9d82f002f659fcc4f613bdd", func := "loop.example/g01003/laws.FnExactComposeMaps", spec := "fnExactComposeMaps", unfollowed := true, recurses := true, apart := false }
def FnExactComposeMapsSaid : Prop := fnExactComposeMapsRow.holds Tryz.pinned (OpenSpec.ofChange fnExactComposeMapsSpec)

/-- ITS FALSE NEIGHBOUR: 'it returns false'. Refute it at one input. -/
def fnExactComposeMapsWrong : ChangeSpec := { name := "fnExactComposeMaps", fn := fun _ => fun
  | [d1, d2] => { results := [.lit (.bool false)], args := [d1, d2] }
  | _ => none }
def FnExactComposeMapsWrongFalsely : Prop := fnExactComposeMapsRow.holds Tryz.pinned (OpenSpec.ofChange fnExactComposeMapsWrong)

/-- 'laws.FnExactDoCommute': WHATEVER THE INPUT: true; the input reads as it did. -/
def fnExactDoCommuteSpec : ChangeSpec := { name := "fnExactDoCommute", fn := fun _ => fun
  | [d1, d2] => { results := [.lit (.bool true)], args := [d1, d2] }
  | _ => none }
def fnExactDoCommuteRow : OpenClaim := { program := "ytkaekjhcphgldaagreat", sum := "e4d9522891de43e689c50a892bf69ffac9690cffd9d82f002f659fcc4f613bdd", func := "loop.example/g01003/laws.FnExactDoCommute", spec := "fnExactDoCommute", unfollowed := true, recurses := true, apart := false }
def FnExactDoCommuteSaid : Prop := fnExactDoCommuteRow.holds Tryz.pinned (OpenSpec.ofChange fnExactDoCommuteSpec)

/-- ITS FALSE NEIGHBOUR: 'it returns false'. Refute it at one input. -/
def fnExactDoCommuteWrong : ChangeSpec := { name := "fnExactDoCommute", fn := fun _ => fun
  | [d1, d2] => { results := [.lit (.bool false)], args := [d1, d2] }
  | _ => none }
def FnExactDoCommuteWrongFalsely : Prop := fnExactDoCommuteRow.holds Tryz.pinned (OpenSpec.ofChange fnExactDoCommuteWrong)

/-- 'laws.FnExactClampMap': WHATEVER THE INPUT: true; the input reads as it did. -/
def fnExactClampMapSpec : ChangeSpec := { name := "fnExactClampMap", fn := fun _ => fun
  | [d1, d2, d3] => { results := [.lit (.bool true)], args := [d1, d2, d3] }
  | _ => none }
def fnExactClampMapRow : OpenClaim := { program := "ytkaekjhcphgldaagreat", sum := "e4d9522891de43e689c50a892bf69ffac9690cffd9d82f002f659fcc4f613bdd", func := "loop.example/g01003/laws.FnExactClampMap", spec := "fnExactClampMap", unfollowed := true, recurses := true, apart := false }
def FnExactClampMapSaid : Prop := fnExactClampMapRow.holds Tryz.pinned (OpenSpec.ofChange fnExactClampMapSpec)

/-- ITS FALSE NEIGHBOUR: 'it returns false'. Refute it at one input. -/
def fnExactClampMapWrong : ChangeSpec := { name := "fnExactClampMap", fn := fun _ => fun
  | [d1, d2, d3] => { results := [.lit (.bool false)], args := [d1, d2, d3] }
  | _ => none }
def FnExactClampMapWrongFalsely : Prop := fnExactClampMapRow.holds Tryz.pinned (OpenSpec.ofChange fnExactClampMapWrong)

/-- 'laws.FnExactPowerOfMap': WHATEVER THE INPUT: true; the input reads as it did. -/
def fnExactPowerOfMapSpec : ChangeSpec := { name := "fnExactPowerOfMap", fn := fun _ => fun
  | [d1, d2] => { results := [.lit (.bool true)], args := [d1, d2] }
  | _ => none }
def fnExactPowerOfMapRow : OpenClaim := { program := "ytkaekjhcphgldaagreat", sum := "e4d9522891de43e689c50a892bf69ffac9690cffd9d82f002f659fcc4f613bdd", func := "loop.example/g01003/laws.FnExactPowerOfMap", spec := "fnExactPowerOfMap", unfollowed := true, recurses := true, apart := false }
def FnExactPowerOfMapSaid : Prop := fnExactPowerOfMapRow.holds Tryz.pinned (OpenSpec.ofChange fnExactPowerOfMapSpec)

/-- ITS FALSE NEIGHBOUR: 'it returns false'. Refute it at one input. -/
def fnExactPowerOfMapWrong : ChangeSpec := { name := "fnExactPowerOfMap", fn := fun _ => fun
  | [d1, d2] => { results := [.lit (.bool false)], args := [d1, d2] }
  | _ => none }
def FnExactPowerOfMapWrongFalsely : Prop := fnExactPowerOfMapRow.holds Tryz.pinned (OpenSpec.ofChange fnExactPowerOfMapWrong)

/- THE SECOND FORM. 'bulk': how many values and letters a reading holds, each counted each time it is reached (what is shared counts as often as it is met; a slice's spare places count too). A statement '..UptoSaid' is the law's where the arguments, and the package variables that the reading takes, are together of bulk at most 1048576: NARROWER than '..Said'. Prove '..Said' where nothing that the law and all that it calls make is longer than what came in: it says more and counts as full. Else prove '..UptoSaid'. A law counts once. -/
mutual
def uptoBulk {H : Type} : DataW H → Nat
  | .lit (.string bytes) => bytes.length + 1
  | .lit _ => 1
  | .nil => 1
  | .ptr d => uptoBulk d + 1
  | .slice elems spare => uptoBulkAll elems + uptoBulkAll spare + 1
  | .agg parts => uptoBulkAll parts + 1
  | .iface _ d => uptoBulk d + 1
  | .map entries => uptoBulkEntries entries + 1
  | .held _ => 1
def uptoBulkAll {H : Type} : List (DataW H) → Nat
  | [] => 0
  | d :: r => uptoBulk d + uptoBulkAll r
def uptoBulkEntries {H : Type} : List (Lit × DataW H) → Nat
  | [] => 0
  | x :: r => uptoBulkEntry x + uptoBulkEntries r
def uptoBulkEntry {H : Type} : Lit × DataW H → Nat
  | (.string bytes, d) => bytes.length + uptoBulk d + 1
  | (_, d) => uptoBulk d + 1
 end
def uptoSmall : (H : Type) → List (DataW H) → Bool := fun _ ds => decide (uptoBulkAll ds ≤ 1048576)
def OpenSpec.upto (s : _root_.Go.ChangeSpec) : _root_.Go.OpenSpec := { _root_.Go.OpenSpec.ofChange s with cond := some uptoSmall }

/-- 'laws.FnExactMiddleMap', WHERE WHAT IT READS IS OF BULK AT MOST 1048576: true; the input reads as it did. -/
def fnExactMiddleMapUptoRow : OpenClaim := { program := "ytkaekjhcphgldaagreat", sum := "e4d9522891de43e689c50a892bf69ffac9690cffd9d82f002f659fcc4f613bdd", func := "loop.example/g01003/laws.FnExactMiddleMap", spec := "fnExactMiddleMap", unfollowed := true, recurses := true, apart := false, narrowed := true }
def FnExactMiddleMapUptoSaid : Prop := fnExactMiddleMapUptoRow.holds Tryz.pinned (OpenSpec.upto fnExactMiddleMapSpec)

/-- 'laws.FnExactComposeMaps', WHERE WHAT IT READS IS OF BULK AT MOST 1048576: true; the input reads as it did. -/
def fnExactComposeMapsUptoRow : OpenClaim := { program := "ytkaekjhcphgldaagreat", sum := "e4d9522891de43e689c50a892bf69ffac9690cffd9d82f002f659fcc4f613bdd", func := "loop.example/g01003/laws.FnExactComposeMaps", spec := "fnExactComposeMaps", unfollowed := true, recurses := true, apart := false, narrowed := true }
def FnExactComposeMapsUptoSaid : Prop := fnExactComposeMapsUptoRow.holds Tryz.pinned (OpenSpec.upto fnExactComposeMapsSpec)

/-- 'laws.FnExactDoCommute', WHERE WHAT IT READS IS OF BULK AT MOST 1048576: true; the input reads as it did. -/
def fnExactDoCommuteUptoRow : OpenClaim := { program := "ytkaekjhcphgldaagreat", sum := "e4d9522891de43e689c50a892bf69ffac9690cffd9d82f002f659fcc4f613bdd", func := "loop.example/g01003/laws.FnExactDoCommute", spec := "fnExactDoCommute", unfollowed := true, recurses := true, apart := false, narrowed := true }
def FnExactDoCommuteUptoSaid : Prop := fnExactDoCommuteUptoRow.holds Tryz.pinned (OpenSpec.upto fnExactDoCommuteSpec)

/-- 'laws.FnExactClampMap', WHERE WHAT IT READS IS OF BULK AT MOST 1048576: true; the input reads as it did. -/
def fnExactClampMapUptoRow : OpenClaim := { program := "ytkaekjhcphgldaagreat", sum := "e4d9522891de43e689c50a892bf69ffac9690cffd9d82f002f659fcc4f613bdd", func := "loop.example/g01003/laws.FnExactClampMap", spec := "fnExactClampMap", unfollowed := true, recurses := true, apart := false, narrowed := true }
def FnExactClampMapUptoSaid : Prop := fnExactClampMapUptoRow.holds Tryz.pinned (OpenSpec.upto fnExactClampMapSpec)

/-- 'laws.FnExactPowerOfMap', WHERE WHAT IT READS IS OF BULK AT MOST 1048576: true; the input reads as it did. -/
def fnExactPowerOfMapUptoRow : OpenClaim := { program := "ytkaekjhcphgldaagreat", sum := "e4d9522891de43e689c50a892bf69ffac9690cffd9d82f002f659fcc4f613bdd", func := "loop.example/g01003/laws.FnExactPowerOfMap", spec := "fnExactPowerOfMap", unfollowed := true, recurses := true, apart := false, narrowed := true }
def FnExactPowerOfMapUptoSaid : Prop := fnExactPowerOfMapUptoRow.holds Tryz.pinned (OpenSpec.upto fnExactPowerOfMapSpec)

end Rows
end Go.Proofs.YtkaekjhcphgldaaGreat
