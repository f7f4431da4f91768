/-
  No cell of these rows narrows 'for every input' (looked for: loops, veiled, ifaces, maps, wideKeys, modest, calm, conditions, laid).
  DERIVED. THE GIVEN ROWS OF THIS SEAT. 19 by the template 'for every input the law returns true; each argument reads behind the call as it read before'; 0 by the template 'total and deterministic' (their statements: YtkdhhopfefhdjaaTotals.lean).
  GIVEN WITH THE SEED: the statements are not yours to turn. If you find one false, say at which input.
  Laid BY PROGRAM, IN A SANDBOX (cutbox-rows.mjs): the forced cells as the released guide's own fill.sh prints them over the translation 2d2a8c5128f29187… (all of the seat's roots in one cut). By AI agents, Wed Nov 11 2026. No macro, syntax, notation, axiom, sorry.
-/
import Derived.Test.YtkdhhopfefhdjaaChecked
import GoSem.Claim
import GoSem.ClaimJoined
import GoSem.ClaimMapViews
import Derived.JoinedTies
import Derived.KernelRfl
namespace Go.Proofs.Ytkdhhopfefhdjaa
/- THE CELL 'sum', in the pinned program and in every row, IS THE sha256 OF THE DUMP (.gsa) THAT YtkdhhopfefhdjaaProg.lean LOADS. Nothing in Lean hashes anything: it is a label: what it is worth is what the hold of that sum in a sandbox is worth. -/
noncomputable def Try.pinned : Pinned := { name := "ytkdhhopfefhdjaa", sum := "2d2a8c5128f291875cc31c5dbbc79445bf504a303db809390413738a30b2d453", checked := Try.checked }
namespace Rows
def none {H : Type} : Left H := { results := [], args := [] }

/-- 'laws.FnExactIsMap': WHATEVER THE INPUT: true; the input reads as it did. -/
def fnExactIsMapSpec : ChangeSpec := { name := "fnExactIsMap", fn := fun _ => fun
  | [d] => { results := [.lit (.bool true)], args := [d] }
  | _ => none }
def fnExactIsMapRow : OpenClaim := { program := "ytkdhhopfefhdjaa", sum := "2d2a8c5128f291875cc31c5dbbc79445bf504a303db809390413738a30b2d453", func := "loop.example/g01003/laws.FnExactIsMap", spec := "fnExactIsMap", unfollowed := true, recurses := true, apart := false }
def FnExactIsMapSaid : Prop := fnExactIsMapRow.holds Try.pinned (OpenSpec.ofChange fnExactIsMapSpec)

/-- ITS FALSE NEIGHBOUR: 'it returns false'. Refute it at one input. -/
def fnExactIsMapWrong : ChangeSpec := { name := "fnExactIsMap", fn := fun _ => fun
  | [d] => { results := [.lit (.bool false)], args := [d] }
  | _ => none }
def FnExactIsMapWrongFalsely : Prop := fnExactIsMapRow.holds Try.pinned (OpenSpec.ofChange fnExactIsMapWrong)

/-- 'laws.FnExactReflectMap': WHATEVER THE INPUT: true; the input reads as it did. -/
def fnExactReflectMapSpec : ChangeSpec := { name := "fnExactReflectMap", fn := fun _ => fun
  | [d] => { results := [.lit (.bool true)], args := [d] }
  | _ => none }
def fnExactReflectMapRow : OpenClaim := { program := "ytkdhhopfefhdjaa", sum := "2d2a8c5128f291875cc31c5dbbc79445bf504a303db809390413738a30b2d453", func := "loop.example/g01003/laws.FnExactReflectMap", spec := "fnExactReflectMap", unfollowed := true, recurses := true, apart := false }
def FnExactReflectMapSaid : Prop := fnExactReflectMapRow.holds Try.pinned (OpenSpec.ofChange fnExactReflectMapSpec)

/-- ITS FALSE NEIGHBOUR: 'it returns false'. Refute it at one input. -/
def fnExactReflectMapWrong : ChangeSpec := { name := "fnExactReflectMap", fn := fun _ => fun
  | [d] => { results := [.lit (.bool false)], args := [d] }
  | _ => none }
def FnExactReflectMapWrongFalsely : Prop := fnExactReflectMapRow.holds Try.pinned (OpenSpec.ofChange fnExactReflectMapWrong)

/-- 'laws.FnExactValueAt': WHATEVER THE INPUT: true; the input reads as it did. -/
def fnExactValueAtSpec : ChangeSpec := { name := "fnExactValueAt", fn := fun _ => fun
  | [d1, d2] => { results := [.lit (.bool true)], args := [d1, d2] }
  | _ => none }
def fnExactValueAtRow : OpenClaim := { program := "ytkdhhopfefhdjaa", sum := "2d2a8c5128f291875cc31c5dbbc79445bf504a303db809390413738a30b2d453", func := "loop.example/g01003/laws.FnExactValueAt", spec := "fnExactValueAt", unfollowed := true, recurses := true, apart := false }
def FnExactValueAtSaid : Prop := fnExactValueAtRow.holds Try.pinned (OpenSpec.ofChange fnExactValueAtSpec)

/-- ITS FALSE NEIGHBOUR: 'it returns false'. Refute it at one input. -/
def fnExactValueAtWrong : ChangeSpec := { name := "fnExactValueAt", fn := fun _ => fun
  | [d1, d2] => { results := [.lit (.bool false)], args := [d1, d2] }
  | _ => none }
def FnExactValueAtWrongFalsely : Prop := fnExactValueAtRow.holds Try.pinned (OpenSpec.ofChange fnExactValueAtWrong)

/-- 'laws.FnExactAreSameMap': WHATEVER THE INPUT: true; the input reads as it did. -/
def fnExactAreSameMapSpec : ChangeSpec := { name := "fnExactAreSameMap", fn := fun _ => fun
  | [d1, d2] => { results := [.lit (.bool true)], args := [d1, d2] }
  | _ => none }
def fnExactAreSameMapRow : OpenClaim := { program := "ytkdhhopfefhdjaa", sum := "2d2a8c5128f291875cc31c5dbbc79445bf504a303db809390413738a30b2d453", func := "loop.example/g01003/laws.FnExactAreSameMap", spec := "fnExactAreSameMap", unfollowed := true, recurses := true, apart := false }
def FnExactAreSameMapSaid : Prop := fnExactAreSameMapRow.holds Try.pinned (OpenSpec.ofChange fnExactAreSameMapSpec)

/-- ITS FALSE NEIGHBOUR: 'it returns false'. Refute it at one input. -/
def fnExactAreSameMapWrong : ChangeSpec := { name := "fnExactAreSameMap", fn := fun _ => fun
  | [d1, d2] => { results := [.lit (.bool false)], args := [d1, d2] }
  | _ => none }
def FnExactAreSameMapWrongFalsely : Prop := fnExactAreSameMapRow.holds Try.pinned (OpenSpec.ofChange fnExactAreSameMapWrong)

/-- 'laws.FnExactSimpleMap': WHATEVER THE INPUT: true; the input reads as it did. -/
def fnExactSimpleMapSpec : ChangeSpec := { name := "fnExactSimpleMap", fn := fun _ => fun
  | [d] => { results := [.lit (.bool true)], args := [d] }
  | _ => none }
def fnExactSimpleMapRow : OpenClaim := { program := "ytkdhhopfefhdjaa", sum := "2d2a8c5128f291875cc31c5dbbc79445bf504a303db809390413738a30b2d453", func := "loop.example/g01003/laws.FnExactSimpleMap", spec := "fnExactSimpleMap", unfollowed := true, recurses := true, apart := false }
def FnExactSimpleMapSaid : Prop := fnExactSimpleMapRow.holds Try.pinned (OpenSpec.ofChange fnExactSimpleMapSpec)

/-- ITS FALSE NEIGHBOUR: 'it returns false'. Refute it at one input. -/
def fnExactSimpleMapWrong : ChangeSpec := { name := "fnExactSimpleMap", fn := fun _ => fun
  | [d] => { results := [.lit (.bool false)], args := [d] }
  | _ => none }
def FnExactSimpleMapWrongFalsely : Prop := fnExactSimpleMapRow.holds Try.pinned (OpenSpec.ofChange fnExactSimpleMapWrong)

/-- 'laws.FnExactSlopesOf': WHATEVER THE INPUT: true; the input reads as it did. -/
def fnExactSlopesOfSpec : ChangeSpec := { name := "fnExactSlopesOf", fn := fun _ => fun
  | [d] => { results := [.lit (.bool true)], args := [d] }
  | _ => none }
def fnExactSlopesOfRow : OpenClaim := { program := "ytkdhhopfefhdjaa", sum := "2d2a8c5128f291875cc31c5dbbc79445bf504a303db809390413738a30b2d453", func := "loop.example/g01003/laws.FnExactSlopesOf", spec := "fnExactSlopesOf", unfollowed := true, recurses := true, apart := false }
def FnExactSlopesOfSaid : Prop := fnExactSlopesOfRow.holds Try.pinned (OpenSpec.ofChange fnExactSlopesOfSpec)

/-- ITS FALSE NEIGHBOUR: 'it returns false'. Refute it at one input. -/
def fnExactSlopesOfWrong : ChangeSpec := { name := "fnExactSlopesOf", fn := fun _ => fun
  | [d] => { results := [.lit (.bool false)], args := [d] }
  | _ => none }
def FnExactSlopesOfWrongFalsely : Prop := fnExactSlopesOfRow.holds Try.pinned (OpenSpec.ofChange fnExactSlopesOfWrong)

/-- 'laws.FnExactStepsInSize': WHATEVER THE INPUT: true; the input reads as it did. -/
def fnExactStepsInSizeSpec : ChangeSpec := { name := "fnExactStepsInSize", fn := fun _ => fun
  | [d1, d2, d3] => { results := [.lit (.bool true)], args := [d1, d2, d3] }
  | _ => none }
def fnExactStepsInSizeRow : OpenClaim := { program := "ytkdhhopfefhdjaa", sum := "2d2a8c5128f291875cc31c5dbbc79445bf504a303db809390413738a30b2d453", func := "loop.example/g01003/laws.FnExactStepsInSize", spec := "fnExactStepsInSize", unfollowed := true, recurses := true, apart := false }
def FnExactStepsInSizeSaid : Prop := fnExactStepsInSizeRow.holds Try.pinned (OpenSpec.ofChange fnExactStepsInSizeSpec)

/-- ITS FALSE NEIGHBOUR: 'it returns false'. Refute it at one input. -/
def fnExactStepsInSizeWrong : ChangeSpec := { name := "fnExactStepsInSize", fn := fun _ => fun
  | [d1, d2, d3] => { results := [.lit (.bool false)], args := [d1, d2, d3] }
  | _ => none }
def FnExactStepsInSizeWrongFalsely : Prop := fnExactStepsInSizeRow.holds Try.pinned (OpenSpec.ofChange fnExactStepsInSizeWrong)

/-- 'laws.FnExactIterateMap': WHATEVER THE INPUT: true; the input reads as it did. -/
def fnExactIterateMapSpec : ChangeSpec := { name := "fnExactIterateMap", fn := fun _ => fun
  | [d1, d2, d3] => { results := [.lit (.bool true)], args := [d1, d2, d3] }
  | _ => none }
def fnExactIterateMapRow : OpenClaim := { program := "ytkdhhopfefhdjaa", sum := "2d2a8c5128f291875cc31c5dbbc79445bf504a303db809390413738a30b2d453", func := "loop.example/g01003/laws.FnExactIterateMap", spec := "fnExactIterateMap", unfollowed := true, recurses := true, apart := false }
def FnExactIterateMapSaid : Prop := fnExactIterateMapRow.holds Try.pinned (OpenSpec.ofChange fnExactIterateMapSpec)

/-- ITS FALSE NEIGHBOUR: 'it returns false'. Refute it at one input. -/
def fnExactIterateMapWrong : ChangeSpec := { name := "fnExactIterateMap", fn := fun _ => fun
  | [d1, d2, d3] => { results := [.lit (.bool false)], args := [d1, d2, d3] }
  | _ => none }
def FnExactIterateMapWrongFalsely : Prop := fnExactIterateMapRow.holds Try.pinned (OpenSpec.ofChange fnExactIterateMapWrong)

/-- 'laws.FnExactGreatestDen': WHATEVER THE INPUT: true; the input reads as it did. -/
def fnExactGreatestDenSpec : ChangeSpec := { name := "fnExactGreatestDen", fn := fun _ => fun
  | [d1, d2, d3] => { results := [.lit (.bool true)], args := [d1, d2, d3] }
  | _ => none }
def fnExactGreatestDenRow : OpenClaim := { program := "ytkdhhopfefhdjaa", sum := "2d2a8c5128f291875cc31c5dbbc79445bf504a303db809390413738a30b2d453", func := "loop.example/g01003/laws.FnExactGreatestDen", spec := "fnExactGreatestDen", unfollowed := true, recurses := true, apart := false }
def FnExactGreatestDenSaid : Prop := fnExactGreatestDenRow.holds Try.pinned (OpenSpec.ofChange fnExactGreatestDenSpec)

/-- ITS FALSE NEIGHBOUR: 'it returns false'. Refute it at one input. -/
def fnExactGreatestDenWrong : ChangeSpec := { name := "fnExactGreatestDen", fn := fun _ => fun
  | [d1, d2, d3] => { results := [.lit (.bool false)], args := [d1, d2, d3] }
  | _ => none }
def FnExactGreatestDenWrongFalsely : Prop := fnExactGreatestDenRow.holds Try.pinned (OpenSpec.ofChange fnExactGreatestDenWrong)

/-- 'laws.FnExactTurningPoints': WHATEVER THE INPUT: true; the input reads as it did. -/
def fnExactTurningPointsSpec : ChangeSpec := { name := "fnExactTurningPoints", fn := fun _ => fun
  | [d] => { results := [.lit (.bool true)], args := [d] }
  | _ => none }
def fnExactTurningPointsRow : OpenClaim := { program := "ytkdhhopfefhdjaa", sum := "2d2a8c5128f291875cc31c5dbbc79445bf504a303db809390413738a30b2d453", func := "loop.example/g01003/laws.FnExactTurningPoints", spec := "fnExactTurningPoints", unfollowed := true, recurses := true, apart := false }
def FnExactTurningPointsSaid : Prop := fnExactTurningPointsRow.holds Try.pinned (OpenSpec.ofChange fnExactTurningPointsSpec)

/-- ITS FALSE NEIGHBOUR: 'it returns false'. Refute it at one input. -/
def fnExactTurningPointsWrong : ChangeSpec := { name := "fnExactTurningPoints", fn := fun _ => fun
  | [d] => { results := [.lit (.bool false)], args := [d] }
  | _ => none }
def FnExactTurningPointsWrongFalsely : Prop := fnExactTurningPointsRow.holds Try.pinned (OpenSpec.ofChange fnExactTurningPointsWrong)

/-- 'laws.FnExactImageOf': WHATEVER THE INPUT: true; the input reads as it did. -/
def fnExactImageOfSpec : ChangeSpec := { name := "fnExactImageOf", fn := fun _ => fun
  | [d1, d2, d3] => { results := [.lit (.bool true)], args := [d1, d2, d3] }
  | _ => none }
def fnExactImageOfRow : OpenClaim := { program := "ytkdhhopfefhdjaa", sum := "2d2a8c5128f291875cc31c5dbbc79445bf504a303db809390413738a30b2d453", func := "loop.example/g01003/laws.FnExactImageOf", spec := "fnExactImageOf", unfollowed := true, recurses := true, apart := false }
def FnExactImageOfSaid : Prop := fnExactImageOfRow.holds Try.pinned (OpenSpec.ofChange fnExactImageOfSpec)

/-- ITS FALSE NEIGHBOUR: 'it returns false'. Refute it at one input. -/
def fnExactImageOfWrong : ChangeSpec := { name := "fnExactImageOf", fn := fun _ => fun
  | [d1, d2, d3] => { results := [.lit (.bool false)], args := [d1, d2, d3] }
  | _ => none }
def FnExactImageOfWrongFalsely : Prop := fnExactImageOfRow.holds Try.pinned (OpenSpec.ofChange fnExactImageOfWrong)

/-- 'laws.FnExactVisitsOf': WHATEVER THE INPUT: true; the input reads as it did. -/
def fnExactVisitsOfSpec : ChangeSpec := { name := "fnExactVisitsOf", fn := fun _ => fun
  | [d1, d2, d3, d4, d5] => { results := [.lit (.bool true)], args := [d1, d2, d3, d4, d5] }
  | _ => none }
def fnExactVisitsOfRow : OpenClaim := { program := "ytkdhhopfefhdjaa", sum := "2d2a8c5128f291875cc31c5dbbc79445bf504a303db809390413738a30b2d453", func := "loop.example/g01003/laws.FnExactVisitsOf", spec := "fnExactVisitsOf", unfollowed := true, recurses := true, apart := false }
def FnExactVisitsOfSaid : Prop := fnExactVisitsOfRow.holds Try.pinned (OpenSpec.ofChange fnExactVisitsOfSpec)

/-- ITS FALSE NEIGHBOUR: 'it returns false'. Refute it at one input. -/
def fnExactVisitsOfWrong : ChangeSpec := { name := "fnExactVisitsOf", fn := fun _ => fun
  | [d1, d2, d3, d4, d5] => { results := [.lit (.bool false)], args := [d1, d2, d3, d4, d5] }
  | _ => none }
def FnExactVisitsOfWrongFalsely : Prop := fnExactVisitsOfRow.holds Try.pinned (OpenSpec.ofChange fnExactVisitsOfWrong)

/-- 'laws.FnExactLapsOf': WHATEVER THE INPUT: true; the input reads as it did. -/
def fnExactLapsOfSpec : ChangeSpec := { name := "fnExactLapsOf", fn := fun _ => fun
  | [d] => { results := [.lit (.bool true)], args := [d] }
  | _ => none }
def fnExactLapsOfRow : OpenClaim := { program := "ytkdhhopfefhdjaa", sum := "2d2a8c5128f291875cc31c5dbbc79445bf504a303db809390413738a30b2d453", func := "loop.example/g01003/laws.FnExactLapsOf", spec := "fnExactLapsOf", unfollowed := true, recurses := true, apart := false }
def FnExactLapsOfSaid : Prop := fnExactLapsOfRow.holds Try.pinned (OpenSpec.ofChange fnExactLapsOfSpec)

/-- ITS FALSE NEIGHBOUR: 'it returns false'. Refute it at one input. -/
def fnExactLapsOfWrong : ChangeSpec := { name := "fnExactLapsOf", fn := fun _ => fun
  | [d] => { results := [.lit (.bool false)], args := [d] }
  | _ => none }
def FnExactLapsOfWrongFalsely : Prop := fnExactLapsOfRow.holds Try.pinned (OpenSpec.ofChange fnExactLapsOfWrong)

/-- 'laws.FnExactPeriodOf': WHATEVER THE INPUT: true; the input reads as it did. -/
def fnExactPeriodOfSpec : ChangeSpec := { name := "fnExactPeriodOf", fn := fun _ => fun
  | [d1, d2, d3] => { results := [.lit (.bool true)], args := [d1, d2, d3] }
  | _ => none }
def fnExactPeriodOfRow : OpenClaim := { program := "ytkdhhopfefhdjaa", sum := "2d2a8c5128f291875cc31c5dbbc79445bf504a303db809390413738a30b2d453", func := "loop.example/g01003/laws.FnExactPeriodOf", spec := "fnExactPeriodOf", unfollowed := true, recurses := true, apart := false }
def FnExactPeriodOfSaid : Prop := fnExactPeriodOfRow.holds Try.pinned (OpenSpec.ofChange fnExactPeriodOfSpec)

/-- ITS FALSE NEIGHBOUR: 'it returns false'. Refute it at one input. -/
def fnExactPeriodOfWrong : ChangeSpec := { name := "fnExactPeriodOf", fn := fun _ => fun
  | [d1, d2, d3] => { results := [.lit (.bool false)], args := [d1, d2, d3] }
  | _ => none }
def FnExactPeriodOfWrongFalsely : Prop := fnExactPeriodOfRow.holds Try.pinned (OpenSpec.ofChange fnExactPeriodOfWrong)

/-- 'laws.FnExactOrbitDistance': WHATEVER THE INPUT: true; the input reads as it did. -/
def fnExactOrbitDistanceSpec : ChangeSpec := { name := "fnExactOrbitDistance", fn := fun _ => fun
  | [d1, d2, d3, d4] => { results := [.lit (.bool true)], args := [d1, d2, d3, d4] }
  | _ => none }
def fnExactOrbitDistanceRow : OpenClaim := { program := "ytkdhhopfefhdjaa", sum := "2d2a8c5128f291875cc31c5dbbc79445bf504a303db809390413738a30b2d453", func := "loop.example/g01003/laws.FnExactOrbitDistance", spec := "fnExactOrbitDistance", unfollowed := true, recurses := true, apart := false }
def FnExactOrbitDistanceSaid : Prop := fnExactOrbitDistanceRow.holds Try.pinned (OpenSpec.ofChange fnExactOrbitDistanceSpec)

/-- ITS FALSE NEIGHBOUR: 'it returns false'. Refute it at one input. -/
def fnExactOrbitDistanceWrong : ChangeSpec := { name := "fnExactOrbitDistance", fn := fun _ => fun
  | [d1, d2, d3, d4] => { results := [.lit (.bool false)], args := [d1, d2, d3, d4] }
  | _ => none }
def FnExactOrbitDistanceWrongFalsely : Prop := fnExactOrbitDistanceRow.holds Try.pinned (OpenSpec.ofChange fnExactOrbitDistanceWrong)

/-- 'laws.FnExactOrbitOf': WHATEVER THE INPUT: true; the input reads as it did. -/
def fnExactOrbitOfSpec : ChangeSpec := { name := "fnExactOrbitOf", fn := fun _ => fun
  | [d1, d2, d3] => { results := [.lit (.bool true)], args := [d1, d2, d3] }
  | _ => none }
def fnExactOrbitOfRow : OpenClaim := { program := "ytkdhhopfefhdjaa", sum := "2d2a8c5128f291875cc31c5dbbc79445bf504a303db809390413738a30b2d453", func := "loop.example/g01003/laws.FnExactOrbitOf", spec := "fnExactOrbitOf", unfollowed := true, recurses := true, apart := false }
def FnExactOrbitOfSaid : Prop := fnExactOrbitOfRow.holds Try.pinned (OpenSpec.ofChange fnExactOrbitOfSpec)

/-- ITS FALSE NEIGHBOUR: 'it returns false'. Refute it at one input. -/
def fnExactOrbitOfWrong : ChangeSpec := { name := "fnExactOrbitOf", fn := fun _ => fun
  | [d1, d2, d3] => { results := [.lit (.bool false)], args := [d1, d2, d3] }
  | _ => none }
def FnExactOrbitOfWrongFalsely : Prop := fnExactOrbitOfRow.holds Try.pinned (OpenSpec.ofChange fnExactOrbitOfWrong)

/-- 'laws.FnExactJoinMaps': WHATEVER THE INPUT: true; the input reads as it did. -/
def fnExactJoinMapsSpec : ChangeSpec := { name := "fnExactJoinMaps", fn := fun _ => fun
  | [d1, d2, d3] => { results := [.lit (.bool true)], args := [d1, d2, d3] }
  | _ => none }
def fnExactJoinMapsRow : OpenClaim := { program := "ytkdhhopfefhdjaa", sum := "2d2a8c5128f291875cc31c5dbbc79445bf504a303db809390413738a30b2d453", func := "loop.example/g01003/laws.FnExactJoinMaps", spec := "fnExactJoinMaps", unfollowed := true, recurses := true, apart := false }
def FnExactJoinMapsSaid : Prop := fnExactJoinMapsRow.holds Try.pinned (OpenSpec.ofChange fnExactJoinMapsSpec)

/-- ITS FALSE NEIGHBOUR: 'it returns false'. Refute it at one input. -/
def fnExactJoinMapsWrong : ChangeSpec := { name := "fnExactJoinMaps", fn := fun _ => fun
  | [d1, d2, d3] => { results := [.lit (.bool false)], args := [d1, d2, d3] }
  | _ => none }
def FnExactJoinMapsWrongFalsely : Prop := fnExactJoinMapsRow.holds Try.pinned (OpenSpec.ofChange fnExactJoinMapsWrong)

/-- 'laws.FnExactLimitCycle': WHATEVER THE INPUT: true; the input reads as it did. -/
def fnExactLimitCycleSpec : ChangeSpec := { name := "fnExactLimitCycle", fn := fun _ => fun
  | [d1, d2, d3] => { results := [.lit (.bool true)], args := [d1, d2, d3] }
  | _ => none }
def fnExactLimitCycleRow : OpenClaim := { program := "ytkdhhopfefhdjaa", sum := "2d2a8c5128f291875cc31c5dbbc79445bf504a303db809390413738a30b2d453", func := "loop.example/g01003/laws.FnExactLimitCycle", spec := "fnExactLimitCycle", unfollowed := true, recurses := true, apart := false }
def FnExactLimitCycleSaid : Prop := fnExactLimitCycleRow.holds Try.pinned (OpenSpec.ofChange fnExactLimitCycleSpec)

/-- ITS FALSE NEIGHBOUR: 'it returns false'. Refute it at one input. -/
def fnExactLimitCycleWrong : ChangeSpec := { name := "fnExactLimitCycle", fn := fun _ => fun
  | [d1, d2, d3] => { results := [.lit (.bool false)], args := [d1, d2, d3] }
  | _ => none }
def FnExactLimitCycleWrongFalsely : Prop := fnExactLimitCycleRow.holds Try.pinned (OpenSpec.ofChange fnExactLimitCycleWrong)

/-- 'laws.FnExactMultiplierAt': WHATEVER THE INPUT: true; the input reads as it did. -/
def fnExactMultiplierAtSpec : ChangeSpec := { name := "fnExactMultiplierAt", fn := fun _ => fun
  | [d1, d2, d3] => { results := [.lit (.bool true)], args := [d1, d2, d3] }
  | _ => none }
def fnExactMultiplierAtRow : OpenClaim := { program := "ytkdhhopfefhdjaa", sum := "2d2a8c5128f291875cc31c5dbbc79445bf504a303db809390413738a30b2d453", func := "loop.example/g01003/laws.FnExactMultiplierAt", spec := "fnExactMultiplierAt", unfollowed := true, recurses := true, apart := false }
def FnExactMultiplierAtSaid : Prop := fnExactMultiplierAtRow.holds Try.pinned (OpenSpec.ofChange fnExactMultiplierAtSpec)

/-- ITS FALSE NEIGHBOUR: 'it returns false'. Refute it at one input. -/
def fnExactMultiplierAtWrong : ChangeSpec := { name := "fnExactMultiplierAt", fn := fun _ => fun
  | [d1, d2, d3] => { results := [.lit (.bool false)], args := [d1, d2, d3] }
  | _ => none }
def FnExactMultiplierAtWrongFalsely : Prop := fnExactMultiplierAtRow.holds Try.pinned (OpenSpec.ofChange fnExactMultiplierAtWrong)

/- THE SECOND FORM. 'bulk': how many values and letters a reading holds, each counted each time it is reached (what is shared counts as often as it is met; a slice's spare places count too). A statement '..UptoSaid' is the law's where the arguments, and the package variables that the reading takes, are together of bulk at most 1048576: NARROWER than '..Said'. Prove '..Said' where nothing that the law and all that it calls make is longer than what came in: it says more and counts as full. Else prove '..UptoSaid'. A law counts once. -/
mutual
def uptoBulk {H : Type} : DataW H → Nat
  | .lit (.string bytes) => bytes.length + 1
  | .lit _ => 1
  | .nil => 1
  | .ptr d => uptoBulk d + 1
  | .slice elems spare => uptoBulkAll elems + uptoBulkAll spare + 1
  | .agg parts => uptoBulkAll parts + 1
  | .iface _ d => uptoBulk d + 1
  | .map entries => uptoBulkEntries entries + 1
  | .held _ => 1
def uptoBulkAll {H : Type} : List (DataW H) → Nat
  | [] => 0
  | d :: r => uptoBulk d + uptoBulkAll r
def uptoBulkEntries {H : Type} : List (Lit × DataW H) → Nat
  | [] => 0
  | x :: r => uptoBulkEntry x + uptoBulkEntries r
def uptoBulkEntry {H : Type} : Lit × DataW H → Nat
  | (.string bytes, d) => bytes.length + uptoBulk d + 1
  | (_, d) => uptoBulk d + 1
 end
def uptoSmall : (H : Type) → List (DataW H) → Bool := fun _ ds => decide (uptoBulkAll ds ≤ 1048576)
def OpenSpec.upto (s : _root_.Go.ChangeSpec) : _root_.Go.OpenSpec := { _root_.Go.OpenSpec.ofChange s with cond := some uptoSmall }

/-- 'laws.FnExactIsMap', WHERE WHAT IT READS IS OF BULK AT MOST 1048576: true; the input reads as it did. -/
def fnExactIsMapUptoRow : OpenClaim := { program := "ytkdhhopfefhdjaa", sum := "2d2a8c5128f291875cc31c5dbbc79445bf504a303db809390413738a30b2d453", func := "loop.example/g01003/laws.FnExactIsMap", spec := "fnExactIsMap", unfollowed := true, recurses := true, apart := false, narrowed := true }
def FnExactIsMapUptoSaid : Prop := fnExactIsMapUptoRow.holds Try.pinned (OpenSpec.upto fnExactIsMapSpec)

/-- 'laws.FnExactReflectMap', WHERE WHAT IT READS IS OF BULK AT MOST 1048576: true; the input reads as it did. -/
def fnExactReflectMapUptoRow : OpenClaim := { program := "ytkdhhopfefhdjaa", sum := "2d2a8c5128f291875cc31c5dbbc79445bf504a303db809390413738a30b2d453", func := "loop.example/g01003/laws.FnExactReflectMap", spec := "fnExactReflectMap", unfollowed := true, recurses := true, apart := false, narrowed := true }
def FnExactReflectMapUptoSaid : Prop := fnExactReflectMapUptoRow.holds Try.pinned (OpenSpec.upto fnExactReflectMapSpec)

/-- 'laws.FnExactValueAt', WHERE WHAT IT READS IS OF BULK AT MOST 1048576: true; the input reads as it did. -/
def fnExactValueAtUptoRow : OpenClaim := { program := "ytkdhhopfefhdjaa", sum := "2d2a8c5128f291875cc31c5dbbc79445bf504a303db809390413738a30b2d453", func := "loop.example/g01003/laws.FnExactValueAt", spec := "fnExactValueAt", unfollowed := true, recurses := true, apart := false, narrowed := true }
def FnExactValueAtUptoSaid : Prop := fnExactValueAtUptoRow.holds Try.pinned (OpenSpec.upto fnExactValueAtSpec)

/-- 'laws.FnExactAreSameMap', WHERE WHAT IT READS IS OF BULK AT MOST 1048576: true; the input reads as it did. -/
def fnExactAreSameMapUptoRow : OpenClaim := { program := "ytkdhhopfefhdjaa", sum := "2d2a8c5128f291875cc31c5dbbc79445bf504a303db809390413738a30b2d453", func := "loop.example/g01003/laws.FnExactAreSameMap", spec := "fnExactAreSameMap", unfollowed := true, recurses := true, apart := false, narrowed := true }
def FnExactAreSameMapUptoSaid : Prop := fnExactAreSameMapUptoRow.holds Try.pinned (OpenSpec.upto fnExactAreSameMapSpec)

/-- 'laws.FnExactSimpleMap', WHERE WHAT IT READS IS OF BULK AT MOST 1048576: true; the input reads as it did. -/
def fnExactSimpleMapUptoRow : OpenClaim := { program := "ytkdhhopfefhdjaa", sum := "2d2a8c5128f291875cc31c5dbbc79445bf504a303db809390413738a30b2d453", func := "loop.example/g01003/laws.FnExactSimpleMap", spec := "fnExactSimpleMap", unfollowed := true, recurses := true, apart := false, narrowed := true }
def FnExactSimpleMapUptoSaid : Prop := fnExactSimpleMapUptoRow.holds Try.pinned (OpenSpec.upto fnExactSimpleMapSpec)

/-- 'laws.FnExactSlopesOf', WHERE WHAT IT READS IS OF BULK AT MOST 1048576: true; the input reads as it did. -/
def fnExactSlopesOfUptoRow : OpenClaim := { program := "ytkdhhopfefhdjaa", sum := "2d2a8c5128f291875cc31c5dbbc79445bf504a303db809390413738a30b2d453", func := "loop.example/g01003/laws.FnExactSlopesOf", spec := "fnExactSlopesOf", unfollowed := true, recurses := true, apart := false, narrowed := true }
def FnExactSlopesOfUptoSaid : Prop := fnExactSlopesOfUptoRow.holds Try.pinned (OpenSpec.upto fnExactSlopesOfSpec)

/-- 'laws.FnExactStepsInSize', WHERE WHAT IT READS IS OF BULK AT MOST 1048576: true; the input reads as it did. -/
def fnExactStepsInSizeUptoRow : OpenClaim := { program := "ytkdhhopfefhdjaa", sum := "2d2a8c5128f291875cc31c5dbbc79445bf504a303db809390413738a30b2d453", func := "loop.example/g01003/laws.FnExactStepsInSize", spec := "fnExactStepsInSize", unfollowed := true, recurses := true, apart := false, narrowed := true }
def FnExactStepsInSizeUptoSaid : Prop := fnExactStepsInSizeUptoRow.holds Try.pinned (OpenSpec.upto fnExactStepsInSizeSpec)

/-- 'laws.FnExactIterateMap', WHERE WHAT IT READS IS OF BULK AT MOST 1048576: true; the input reads as it did. -/
def fnExactIterateMapUptoRow : OpenClaim := { program := "ytkdhhopfefhdjaa", sum := "2d2a8c5128f291875cc31c5dbbc79445bf504a303db809390413738a30b2d453", func := "loop.example/g01003/laws.FnExactIterateMap", spec := "fnExactIterateMap", unfollowed := true, recurses := true, apart := false, narrowed := true }
def FnExactIterateMapUptoSaid : Prop := fnExactIterateMapUptoRow.holds Try.pinned (OpenSpec.upto fnExactIterateMapSpec)

/-- 'laws.FnExactGreatestDen', WHERE WHAT IT READS IS OF BULK AT MOST 1048576: true; the input reads as it did. -/
def fnExactGreatestDenUptoRow : OpenClaim := { program := "ytkdhhopfefhdjaa", sum := "2d2a8c5128f291875cc31c5dbbc79445bf504a303db809390413738a30b2d453", func := "loop.example/g01003/laws.FnExactGreatestDen", spec := "fnExactGreatestDen", unfollowed := true, recurses := true, apart := false, narrowed := true }
def FnExactGreatestDenUptoSaid : Prop := fnExactGreatestDenUptoRow.holds Try.pinned (OpenSpec.upto fnExactGreatestDenSpec)

/-- 'laws.FnExactTurningPoints', WHERE WHAT IT READS IS OF BULK AT MOST 1048576: true; the input reads as it did. -/
def fnExactTurningPointsUptoRow : OpenClaim := { program := "ytkdhhopfefhdjaa", sum := "2d2a8c5128f291875cc31c5dbbc79445bf504a303db809390413738a30b2d453", func := "loop.example/g01003/laws.FnExactTurningPoints", spec := "fnExactTurningPoints", unfollowed := true, recurses := true, apart := false, narrowed := true }
def FnExactTurningPointsUptoSaid : Prop := fnExactTurningPointsUptoRow.holds Try.pinned (OpenSpec.upto fnExactTurningPointsSpec)

/-- 'laws.FnExactImageOf', WHERE WHAT IT READS IS OF BULK AT MOST 1048576: true; the input reads as it did. -/
def fnExactImageOfUptoRow : OpenClaim := { program := "ytkdhhopfefhdjaa", sum := "2d2a8c5128f291875cc31c5dbbc79445bf504a303db809390413738a30b2d453", func := "loop.example/g01003/laws.FnExactImageOf", spec := "fnExactImageOf", unfollowed := true, recurses := true, apart := false, narrowed := true }
def FnExactImageOfUptoSaid : Prop := fnExactImageOfUptoRow.holds Try.pinned (OpenSpec.upto fnExactImageOfSpec)

/-- 'laws.FnExactVisitsOf', WHERE WHAT IT READS IS OF BULK AT MOST 1048576: true; the input reads as it did. -/
def fnExactVisitsOfUptoRow : OpenClaim := { program := "ytkdhhopfefhdjaa", sum := "2d2a8c5128f291875cc31c5dbbc79445bf504a303db809390413738a30b2d453", func := "loop.example/g01003/laws.FnExactVisitsOf", spec := "fnExactVisitsOf", unfollowed := true, recurses := true, apart := false, narrowed := true }
def FnExactVisitsOfUptoSaid : Prop := fnExactVisitsOfUptoRow.holds Try.pinned (OpenSpec.upto fnExactVisitsOfSpec)

/-- 'laws.FnExactLapsOf', WHERE WHAT IT READS IS OF BULK AT MOST 1048576: true; the input reads as it did. -/
def fnExactLapsOfUptoRow : OpenClaim := { program := "ytkdhhopfefhdjaa", sum := "2d2a8c5128f291875cc31c5dbbc79445bf504a303db809390413738a30b2d453", func := "loop.example/g01003/laws.FnExactLapsOf", spec := "fnExactLapsOf", unfollowed := true, recurses := true, apart := false, narrowed := true }
def FnExactLapsOfUptoSaid : Prop := fnExactLapsOfUptoRow.holds Try.pinned (OpenSpec.upto fnExactLapsOfSpec)

/-- 'laws.FnExactPeriodOf', WHERE WHAT IT READS IS OF BULK AT MOST 1048576: true; the input reads as it did. -/
def fnExactPeriodOfUptoRow : OpenClaim := { program := "ytkdhhopfefhdjaa", sum := "2d2a8c5128f291875cc31c5dbbc79445bf504a303db809390413738a30b2d453", func := "loop.example/g01003/laws.FnExactPeriodOf", spec := "fnExactPeriodOf", unfollowed := true, recurses := true, apart := false, narrowed := true }
def FnExactPeriodOfUptoSaid : Prop := fnExactPeriodOfUptoRow.holds Try.pinned (OpenSpec.upto fnExactPeriodOfSpec)

/-- 'laws.FnExactOrbitDistance', WHERE WHAT IT READS IS OF BULK AT MOST 1048576: true; the input reads as it did. -/
def fnExactOrbitDistanceUptoRow : OpenClaim := { program := "ytkdhhopfefhdjaa", sum := "2d2a8c5128f291875cc31c5dbbc79445bf504a303db809390413738a30b2d453", func := "loop.example/g01003/laws.FnExactOrbitDistance", spec := "fnExactOrbitDistance", unfollowed := true, recurses := true, apart := false, narrowed := true }
def FnExactOrbitDistanceUptoSaid : Prop := fnExactOrbitDistanceUptoRow.holds Try.pinned (OpenSpec.upto fnExactOrbitDistanceSpec)

/-- 'laws.FnExactOrbitOf', WHERE WHAT IT READS IS OF BULK AT MOST 1048576: true; the input reads as it did. -/
def fnExactOrbitOfUptoRow : OpenClaim := { program := "ytkdhhopfefhdjaa", sum := "2d2a8c5128f291875cc31c5dbbc79445bf504a303db809390413738a30b2d453", func := "loop.example/g01003/laws.FnExactOrbitOf", spec := "fnExactOrbitOf", unfollowed := true, recurses := true, apart := false, narrowed := true }
def FnExactOrbitOfUptoSaid : Prop := fnExactOrbitOfUptoRow.holds Try.pinned (OpenSpec.upto fnExactOrbitOfSpec)

/-- 'laws.FnExactJoinMaps', WHERE WHAT IT READS IS OF BULK AT MOST 1048576: true; the input reads as it did. -/
def fnExactJoinMapsUptoRow : OpenClaim := { program := "ytkdhhopfefhdjaa", sum := "2d2a8c5128f291875cc31c5dbbc79445bf504a303db809390413738a30b2d453", func := "loop.example/g01003/laws.FnExactJoinMaps", spec := "fnExactJoinMaps", unfollowed := true, recurses := true, apart := false, narrowed := true }
def FnExactJoinMapsUptoSaid : Prop := fnExactJoinMapsUptoRow.holds Try.pinned (OpenSpec.upto fnExactJoinMapsSpec)

/-- 'laws.FnExactLimitCycle', WHERE WHAT IT READS IS OF BULK AT MOST 1048576: true; the input reads as it did. -/
def fnExactLimitCycleUptoRow : OpenClaim := { program := "ytkdhhopfefhdjaa", sum := "2d2a8c5128f291875cc31c5dbbc79445bf504a303db809390413738a30b2d453", func := "loop.example/g01003/laws.FnExactLimitCycle", spec := "fnExactLimitCycle", unfollowed := true, recurses := true, apart := false, narrowed := true }
def FnExactLimitCycleUptoSaid : Prop := fnExactLimitCycleUptoRow.holds Try.pinned (OpenSpec.upto fnExactLimitCycleSpec)

/-- 'laws.FnExactMultiplierAt', WHERE WHAT IT READS IS OF BULK AT MOST 1048576: true; the input reads as it did. -/
def fnExactMultiplierAtUptoRow : OpenClaim := { program := "ytkdhhopfefhdjaa", sum := "2d2a8c5128f291875cc31c5dbbc79445bf504a303db809390413738a30b2d453", func := "loop.example/g01003/laws.FnExactMultiplierAt", spec := "fnExactMultiplierAt", unfollowed := true, recurses := true, apart := false, narrowed := true }
def FnExactMultiplierAtUptoSaid : Prop := fnExactMultiplierAtUptoRow.holds Try.pinned (OpenSpec.upto fnExactMultiplierAtSpec)

end Rows
end Go.Proofs.Ytkdhhopfefhdjaa
