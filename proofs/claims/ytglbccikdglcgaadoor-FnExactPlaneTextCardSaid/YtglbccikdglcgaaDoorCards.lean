/-
  DERIVED. GIVEN WITH THE SEED: THE CARDS: each row of YtglbccikdglcgaaDoorRows.lean that lists a variable, with what it lists TIED to the program's text (the seventh form; the later family's looks); each row that meets fmt, with fmt's text TOLD by the authors' own Lean function (tested against real Go, not proved from fmt's source: count such statements apart). THE CARD IS WHAT COUNTS. Prove the row's statement (the work); the ties are given (YtglbccikdglcgaaDoorTie.lean); close each card by the builder's one call (the guide's Derived/Test/ToyasCard.lean, 'card_holds'). Laid BY PROGRAM, IN A SANDBOX (cutbox-door.mjs). By AI agents, Wed Nov 11 2026. No macro, syntax, notation, axiom, sorry.
-/
import Derived.Test.YtglbccikdglcgaaDoorRows
import GoSem.ClaimSeven
namespace Go.Proofs.YtglbccikdglcgaaDoor
namespace Rows

/-- THE TIED CARD OF 'laws.FnExactParseSeries'. -/
def fnExactParseSeriesCard : Claim7 := { stood := { row := fnExactParseSeriesRow, standIns := [], harness := (true, "f2677d0c3e4cf7f9ee5a67ba7987ffb4093dc2364872fa90538c011d7a18914e"), looks := true }, kinds := [], alts := [], laidByText := true, laidKinds := [.data, .data, .data, .data, .sentinel, .sentinel, .pinned], laidTests := true, laidLooks := .later }
def FnExactParseSeriesCardSaid : Prop := Claim7.holds Tryd.pinned (.plain (OpenSpec.ofChange fnExactParseSeriesSpec)) fnExactParseSeriesCard

/-- THE TIED CARD OF 'laws.FnExactParsePlane'. -/
def fnExactParsePlaneCard : Claim7 := { stood := { row := fnExactParsePlaneRow, standIns := [], harness := (true, "f2677d0c3e4cf7f9ee5a67ba7987ffb4093dc2364872fa90538c011d7a18914e"), looks := true }, kinds := [], alts := [], laidByText := true, laidKinds := [.data, .data, .data, .data, .sentinel, .sentinel, .pinned], laidTests := true, laidLooks := .later }
def FnExactParsePlaneCardSaid : Prop := Claim7.holds Tryd.pinned (.plain (OpenSpec.ofChange fnExactParsePlaneSpec)) fnExactParsePlaneCard

/-- THE TIED CARD OF 'laws.FnExactSeriesText'. -/
def fnExactSeriesTextCard : Claim7 := { stood := { row := fnExactSeriesTextRow, standIns := [], harness := (true, "f2677d0c3e4cf7f9ee5a67ba7987ffb4093dc2364872fa90538c011d7a18914e"), looks := true }, kinds := [], alts := [], laidByText := true, laidKinds := [.data, .data, .data], laidTests := true, laidLooks := .later }
def FnExactSeriesTextCardSaid : Prop := Claim7.holds Tryd.pinned (.plain (OpenSpec.ofChange fnExactSeriesTextSpec)) fnExactSeriesTextCard

/-- THE TIED CARD OF 'laws.FnExactPlaneText'. -/
def fnExactPlaneTextCard : Claim7 := { stood := { row := fnExactPlaneTextRow, standIns := [], harness := (true, "f2677d0c3e4cf7f9ee5a67ba7987ffb4093dc2364872fa90538c011d7a18914e"), looks := true }, kinds := [], alts := [], laidByText := true, laidKinds := [.data, .data, .data], laidTests := true, laidLooks := .later }
def FnExactPlaneTextCardSaid : Prop := Claim7.holds Tryd.pinned (.plain (OpenSpec.ofChange fnExactPlaneTextSpec)) fnExactPlaneTextCard

/-- THE SECOND FORM's CARD OF 'laws.FnExactParseSeries'. -/
def fnExactParseSeriesUptoCard : Claim7 := { stood := { row := fnExactParseSeriesUptoRow, standIns := [], harness := (true, "f2677d0c3e4cf7f9ee5a67ba7987ffb4093dc2364872fa90538c011d7a18914e"), looks := true }, kinds := [], alts := [], laidByText := true, laidKinds := [.data, .data, .data, .data, .sentinel, .sentinel, .pinned], laidTests := true, laidLooks := .later }
def FnExactParseSeriesUptoCardSaid : Prop := Claim7.holds Tryd.pinned (.plain (OpenSpec.upto fnExactParseSeriesSpec)) fnExactParseSeriesUptoCard

/-- THE SECOND FORM's CARD OF 'laws.FnExactParsePlane'. -/
def fnExactParsePlaneUptoCard : Claim7 := { stood := { row := fnExactParsePlaneUptoRow, standIns := [], harness := (true, "f2677d0c3e4cf7f9ee5a67ba7987ffb4093dc2364872fa90538c011d7a18914e"), looks := true }, kinds := [], alts := [], laidByText := true, laidKinds := [.data, .data, .data, .data, .sentinel, .sentinel, .pinned], laidTests := true, laidLooks := .later }
def FnExactParsePlaneUptoCardSaid : Prop := Claim7.holds Tryd.pinned (.plain (OpenSpec.upto fnExactParsePlaneSpec)) fnExactParsePlaneUptoCard

/-- THE SECOND FORM's CARD OF 'laws.FnExactSeriesText'. -/
def fnExactSeriesTextUptoCard : Claim7 := { stood := { row := fnExactSeriesTextUptoRow, standIns := [], harness := (true, "f2677d0c3e4cf7f9ee5a67ba7987ffb4093dc2364872fa90538c011d7a18914e"), looks := true }, kinds := [], alts := [], laidByText := true, laidKinds := [.data, .data, .data], laidTests := true, laidLooks := .later }
def FnExactSeriesTextUptoCardSaid : Prop := Claim7.holds Tryd.pinned (.plain (OpenSpec.upto fnExactSeriesTextSpec)) fnExactSeriesTextUptoCard

/-- THE SECOND FORM's CARD OF 'laws.FnExactPlaneText'. -/
def fnExactPlaneTextUptoCard : Claim7 := { stood := { row := fnExactPlaneTextUptoRow, standIns := [], harness := (true, "f2677d0c3e4cf7f9ee5a67ba7987ffb4093dc2364872fa90538c011d7a18914e"), looks := true }, kinds := [], alts := [], laidByText := true, laidKinds := [.data, .data, .data], laidTests := true, laidLooks := .later }
def FnExactPlaneTextUptoCardSaid : Prop := Claim7.holds Tryd.pinned (.plain (OpenSpec.upto fnExactPlaneTextSpec)) fnExactPlaneTextUptoCard
end Rows
end Go.Proofs.YtglbccikdglcgaaDoor
