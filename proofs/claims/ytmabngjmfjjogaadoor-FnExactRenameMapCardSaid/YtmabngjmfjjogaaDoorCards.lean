/-
  DERIVED. GIVEN WITH THE SEED: THE CARDS: each row of YtmabngjmfjjogaaDoorRows.lean that lists a variable, with what it lists TIED to the program's text (the seventh form; the later family's looks); each row that meets fmt, with fmt's text TOLD by the authors' own Lean function (tested against real Go, not proved from fmt's source: count such statements apart). THE CARD IS WHAT COUNTS. Prove the row's statement (the work); the ties are given (YtmabngjmfjjogaaDoorTie.lean); close each card by the builder's one call (the guide's Derived/Test/ToyasCard.lean, 'card_holds'). Laid BY PROGRAM, IN A SANDBOX (cutbox-door.mjs). By AI agents, Wed Nov 11 2026. No macro, syntax, notation, axiom, sorry.
-/
import Derived.Test.YtmabngjmfjjogaaDoorRows
import GoSem.ClaimSeven
namespace Go.Proofs.YtmabngjmfjjogaaDoor
namespace Rows

/-- THE TIED CARD OF 'laws.FnExactRatText'. -/
def fnExactRatTextCard : Claim7 := { stood := { row := fnExactRatTextRow, standIns := [], harness := (true, "d1ed324983ae991b48c89ede703425b2fc35852c6c567f2228675fb6c0638946"), looks := true }, kinds := [], alts := [], laidByText := true, laidKinds := [.data, .data, .data], laidTests := true, laidLooks := .later }
def FnExactRatTextCardSaid : Prop := Claim7.holds Tryd.pinned (.plain (OpenSpec.ofChange fnExactRatTextSpec)) fnExactRatTextCard

/-- THE TIED CARD OF 'laws.FnExactMapText'. -/
def fnExactMapTextCard : Claim7 := { stood := { row := fnExactMapTextRow, standIns := [], harness := (true, "d1ed324983ae991b48c89ede703425b2fc35852c6c567f2228675fb6c0638946"), looks := true }, kinds := [], alts := [], laidByText := true, laidKinds := [.data, .data, .data], laidTests := true, laidLooks := .later }
def FnExactMapTextCardSaid : Prop := Claim7.holds Tryd.pinned (.plain (OpenSpec.ofChange fnExactMapTextSpec)) fnExactMapTextCard

/-- THE TIED CARD OF 'laws.FnExactParseRat'. -/
def fnExactParseRatCard : Claim7 := { stood := { row := fnExactParseRatRow, standIns := [], harness := (true, "d1ed324983ae991b48c89ede703425b2fc35852c6c567f2228675fb6c0638946"), looks := true }, kinds := [], alts := [], laidByText := true, laidKinds := [.data, .data, .data, .sentinel, .sentinel], laidTests := true, laidLooks := .later }
def FnExactParseRatCardSaid : Prop := Claim7.holds Tryd.pinned (.plain (OpenSpec.ofChange fnExactParseRatSpec)) fnExactParseRatCard

/-- THE TIED CARD OF 'laws.FnExactParseMap'. -/
def fnExactParseMapCard : Claim7 := { stood := { row := fnExactParseMapRow, standIns := [], harness := (true, "d1ed324983ae991b48c89ede703425b2fc35852c6c567f2228675fb6c0638946"), looks := true }, kinds := [], alts := [], laidByText := true, laidKinds := [.data, .data, .data, .sentinel, .sentinel], laidTests := true, laidLooks := .later }
def FnExactParseMapCardSaid : Prop := Claim7.holds Tryd.pinned (.plain (OpenSpec.ofChange fnExactParseMapSpec)) fnExactParseMapCard

/-- THE TIED CARD OF 'laws.FnExactIsEnvironment'. -/
def fnExactIsEnvironmentCard : Claim7 := { stood := { row := fnExactIsEnvironmentRow, standIns := [], harness := (true, "d1ed324983ae991b48c89ede703425b2fc35852c6c567f2228675fb6c0638946"), looks := true }, kinds := [], alts := [], laidByText := true, laidKinds := [.data, .pinned], laidTests := true, laidLooks := .later }
def FnExactIsEnvironmentCardSaid : Prop := Claim7.holds Tryd.pinned (.plain (OpenSpec.ofChange fnExactIsEnvironmentSpec)) fnExactIsEnvironmentCard

/-- THE TIED CARD OF 'laws.FnExactEnvironmentText'. -/
def fnExactEnvironmentTextCard : Claim7 := { stood := { row := fnExactEnvironmentTextRow, standIns := [], harness := (true, "d1ed324983ae991b48c89ede703425b2fc35852c6c567f2228675fb6c0638946"), looks := true }, kinds := [], alts := [], laidByText := true, laidKinds := [.data, .data, .data, .data, .pinned], laidTests := true, laidLooks := .later }
def FnExactEnvironmentTextCardSaid : Prop := Claim7.holds Tryd.pinned (.plain (OpenSpec.ofChange fnExactEnvironmentTextSpec)) fnExactEnvironmentTextCard

/-- THE TIED CARD OF 'laws.FnExactForgetMap'. -/
def fnExactForgetMapCard : Claim7 := { stood := { row := fnExactForgetMapRow, standIns := [], harness := (true, "d1ed324983ae991b48c89ede703425b2fc35852c6c567f2228675fb6c0638946"), looks := true }, kinds := [], alts := [], laidByText := true, laidKinds := [.data, .pinned], laidTests := true, laidLooks := .later }
def FnExactForgetMapCardSaid : Prop := Claim7.holds Tryd.pinned (.plain (OpenSpec.ofChange fnExactForgetMapSpec)) fnExactForgetMapCard

/-- THE TIED CARD OF 'laws.FnExactRenameMap'. -/
def fnExactRenameMapCard : Claim7 := { stood := { row := fnExactRenameMapRow, standIns := [], harness := (true, "d1ed324983ae991b48c89ede703425b2fc35852c6c567f2228675fb6c0638946"), looks := true }, kinds := [], alts := [], laidByText := true, laidKinds := [.data, .pinned], laidTests := true, laidLooks := .later }
def FnExactRenameMapCardSaid : Prop := Claim7.holds Tryd.pinned (.plain (OpenSpec.ofChange fnExactRenameMapSpec)) fnExactRenameMapCard

/-- THE TIED CARD OF 'laws.FnRatTexts'. -/
def fnRatTextsCard : Claim7 := { stood := { row := fnRatTextsRow, standIns := [], harness := (true, "d1ed324983ae991b48c89ede703425b2fc35852c6c567f2228675fb6c0638946"), looks := true }, kinds := [], alts := [], laidByText := true, laidKinds := [.data, .data, .data, .sentinel, .sentinel], laidTests := true, laidLooks := .later }
def FnRatTextsCardSaid : Prop := Claim7.holds Tryd.pinned (.plain (OpenSpec.ofChange fnRatTextsSpec)) fnRatTextsCard

/-- THE SECOND FORM's CARD OF 'laws.FnExactRatText'. -/
def fnExactRatTextUptoCard : Claim7 := { stood := { row := fnExactRatTextUptoRow, standIns := [], harness := (true, "d1ed324983ae991b48c89ede703425b2fc35852c6c567f2228675fb6c0638946"), looks := true }, kinds := [], alts := [], laidByText := true, laidKinds := [.data, .data, .data], laidTests := true, laidLooks := .later }
def FnExactRatTextUptoCardSaid : Prop := Claim7.holds Tryd.pinned (.plain (OpenSpec.upto fnExactRatTextSpec)) fnExactRatTextUptoCard

/-- THE SECOND FORM's CARD OF 'laws.FnExactMapText'. -/
def fnExactMapTextUptoCard : Claim7 := { stood := { row := fnExactMapTextUptoRow, standIns := [], harness := (true, "d1ed324983ae991b48c89ede703425b2fc35852c6c567f2228675fb6c0638946"), looks := true }, kinds := [], alts := [], laidByText := true, laidKinds := [.data, .data, .data], laidTests := true, laidLooks := .later }
def FnExactMapTextUptoCardSaid : Prop := Claim7.holds Tryd.pinned (.plain (OpenSpec.upto fnExactMapTextSpec)) fnExactMapTextUptoCard

/-- THE SECOND FORM's CARD OF 'laws.FnExactParseRat'. -/
def fnExactParseRatUptoCard : Claim7 := { stood := { row := fnExactParseRatUptoRow, standIns := [], harness := (true, "d1ed324983ae991b48c89ede703425b2fc35852c6c567f2228675fb6c0638946"), looks := true }, kinds := [], alts := [], laidByText := true, laidKinds := [.data, .data, .data, .sentinel, .sentinel], laidTests := true, laidLooks := .later }
def FnExactParseRatUptoCardSaid : Prop := Claim7.holds Tryd.pinned (.plain (OpenSpec.upto fnExactParseRatSpec)) fnExactParseRatUptoCard

/-- THE SECOND FORM's CARD OF 'laws.FnExactParseMap'. -/
def fnExactParseMapUptoCard : Claim7 := { stood := { row := fnExactParseMapUptoRow, standIns := [], harness := (true, "d1ed324983ae991b48c89ede703425b2fc35852c6c567f2228675fb6c0638946"), looks := true }, kinds := [], alts := [], laidByText := true, laidKinds := [.data, .data, .data, .sentinel, .sentinel], laidTests := true, laidLooks := .later }
def FnExactParseMapUptoCardSaid : Prop := Claim7.holds Tryd.pinned (.plain (OpenSpec.upto fnExactParseMapSpec)) fnExactParseMapUptoCard

/-- THE SECOND FORM's CARD OF 'laws.FnExactIsEnvironment'. -/
def fnExactIsEnvironmentUptoCard : Claim7 := { stood := { row := fnExactIsEnvironmentUptoRow, standIns := [], harness := (true, "d1ed324983ae991b48c89ede703425b2fc35852c6c567f2228675fb6c0638946"), looks := true }, kinds := [], alts := [], laidByText := true, laidKinds := [.data, .pinned], laidTests := true, laidLooks := .later }
def FnExactIsEnvironmentUptoCardSaid : Prop := Claim7.holds Tryd.pinned (.plain (OpenSpec.upto fnExactIsEnvironmentSpec)) fnExactIsEnvironmentUptoCard

/-- THE SECOND FORM's CARD OF 'laws.FnExactEnvironmentText'. -/
def fnExactEnvironmentTextUptoCard : Claim7 := { stood := { row := fnExactEnvironmentTextUptoRow, standIns := [], harness := (true, "d1ed324983ae991b48c89ede703425b2fc35852c6c567f2228675fb6c0638946"), looks := true }, kinds := [], alts := [], laidByText := true, laidKinds := [.data, .data, .data, .data, .pinned], laidTests := true, laidLooks := .later }
def FnExactEnvironmentTextUptoCardSaid : Prop := Claim7.holds Tryd.pinned (.plain (OpenSpec.upto fnExactEnvironmentTextSpec)) fnExactEnvironmentTextUptoCard

/-- THE SECOND FORM's CARD OF 'laws.FnExactForgetMap'. -/
def fnExactForgetMapUptoCard : Claim7 := { stood := { row := fnExactForgetMapUptoRow, standIns := [], harness := (true, "d1ed324983ae991b48c89ede703425b2fc35852c6c567f2228675fb6c0638946"), looks := true }, kinds := [], alts := [], laidByText := true, laidKinds := [.data, .pinned], laidTests := true, laidLooks := .later }
def FnExactForgetMapUptoCardSaid : Prop := Claim7.holds Tryd.pinned (.plain (OpenSpec.upto fnExactForgetMapSpec)) fnExactForgetMapUptoCard

/-- THE SECOND FORM's CARD OF 'laws.FnExactRenameMap'. -/
def fnExactRenameMapUptoCard : Claim7 := { stood := { row := fnExactRenameMapUptoRow, standIns := [], harness := (true, "d1ed324983ae991b48c89ede703425b2fc35852c6c567f2228675fb6c0638946"), looks := true }, kinds := [], alts := [], laidByText := true, laidKinds := [.data, .pinned], laidTests := true, laidLooks := .later }
def FnExactRenameMapUptoCardSaid : Prop := Claim7.holds Tryd.pinned (.plain (OpenSpec.upto fnExactRenameMapSpec)) fnExactRenameMapUptoCard

/-- THE SECOND FORM's CARD OF 'laws.FnRatTexts'. -/
def fnRatTextsUptoCard : Claim7 := { stood := { row := fnRatTextsUptoRow, standIns := [], harness := (true, "d1ed324983ae991b48c89ede703425b2fc35852c6c567f2228675fb6c0638946"), looks := true }, kinds := [], alts := [], laidByText := true, laidKinds := [.data, .data, .data, .sentinel, .sentinel], laidTests := true, laidLooks := .later }
def FnRatTextsUptoCardSaid : Prop := Claim7.holds Tryd.pinned (.plain (OpenSpec.upto fnRatTextsSpec)) fnRatTextsUptoCard
end Rows
end Go.Proofs.YtmabngjmfjjogaaDoor
