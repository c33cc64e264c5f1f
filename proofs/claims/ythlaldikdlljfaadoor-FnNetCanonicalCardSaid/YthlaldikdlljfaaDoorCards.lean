/-
  DERIVED. GIVEN WITH THE SEED: THE CARDS: each row of YthlaldikdlljfaaDoorRows.lean that lists a variable, with what it lists TIED to the program's text (the seventh form; the later family's looks); each row that meets fmt, with fmt's text TOLD by the authors' own Lean function (tested against real Go, not proved from fmt's source: count such statements apart). THE CARD IS WHAT COUNTS. Prove the row's statement (the work); the ties are given (YthlaldikdlljfaaDoorTie.lean); close each card by the builder's one call (the guide's Derived/Test/ToyasCard.lean, 'card_holds'). Laid BY PROGRAM, IN A SANDBOX (cutbox-door.mjs). By AI agents, Wed Nov 11 2026. No macro, syntax, notation, axiom, sorry.
-/
import Derived.Test.YthlaldikdlljfaaDoorRows
import GoSem.ClaimSeven
namespace Go.Proofs.YthlaldikdlljfaaDoor
namespace Rows

/-- THE TIED CARD OF 'laws.FnExactFormatEnd'. -/
def fnExactFormatEndCard : Claim7 := { stood := { row := fnExactFormatEndRow, standIns := [], harness := (true, "0c29702658463a0a55a923c2d920e88fcd2660cad835b94fe5a72d6849e0974a"), looks := true }, kinds := [], alts := [], laidByText := true, laidKinds := [.data, .data, .data], laidTests := true, laidLooks := .later }
def FnExactFormatEndCardSaid : Prop := Claim7.holds Tryd.pinned (.plain (OpenSpec.ofChange fnExactFormatEndSpec)) fnExactFormatEndCard

/-- THE TIED CARD OF 'laws.FnExactFormatNet'. -/
def fnExactFormatNetCard : Claim7 := { stood := { row := fnExactFormatNetRow, standIns := [], harness := (true, "0c29702658463a0a55a923c2d920e88fcd2660cad835b94fe5a72d6849e0974a"), looks := true }, kinds := [], alts := [], laidByText := true, laidKinds := [.data, .data, .data], laidTests := true, laidLooks := .later }
def FnExactFormatNetCardSaid : Prop := Claim7.holds Tryd.pinned (.plain (OpenSpec.ofChange fnExactFormatNetSpec)) fnExactFormatNetCard

/-- THE TIED CARD OF 'laws.FnEndText'. -/
def fnEndTextCard : Claim7 := { stood := { row := fnEndTextRow, standIns := [], harness := (true, "0c29702658463a0a55a923c2d920e88fcd2660cad835b94fe5a72d6849e0974a"), looks := true }, kinds := [], alts := [], laidByText := true, laidKinds := [.data, .data, .data], laidTests := true, laidLooks := .later }
def FnEndTextCardSaid : Prop := Claim7.holds Tryd.pinned (.plain (OpenSpec.ofChange fnEndTextSpec)) fnEndTextCard

/-- THE TIED CARD OF 'laws.FnNetText'. -/
def fnNetTextCard : Claim7 := { stood := { row := fnNetTextRow, standIns := [], harness := (true, "0c29702658463a0a55a923c2d920e88fcd2660cad835b94fe5a72d6849e0974a"), looks := true }, kinds := [], alts := [], laidByText := true, laidKinds := [.data, .data, .data], laidTests := true, laidLooks := .later }
def FnNetTextCardSaid : Prop := Claim7.holds Tryd.pinned (.plain (OpenSpec.ofChange fnNetTextSpec)) fnNetTextCard

/-- THE TIED CARD OF 'laws.FnExactFormatTable'. -/
def fnExactFormatTableCard : Claim7 := { stood := { row := fnExactFormatTableRow, standIns := [], harness := (true, "0c29702658463a0a55a923c2d920e88fcd2660cad835b94fe5a72d6849e0974a"), looks := true }, kinds := [], alts := [], laidByText := true, laidKinds := [.data, .data, .data], laidTests := true, laidLooks := .later }
def FnExactFormatTableCardSaid : Prop := Claim7.holds Tryd.pinned (.plain (OpenSpec.ofChange fnExactFormatTableSpec)) fnExactFormatTableCard

/-- THE TIED CARD OF 'laws.FnTableText'. -/
def fnTableTextCard : Claim7 := { stood := { row := fnTableTextRow, standIns := [], harness := (true, "0c29702658463a0a55a923c2d920e88fcd2660cad835b94fe5a72d6849e0974a"), looks := true }, kinds := [], alts := [], laidByText := true, laidKinds := [.data, .data, .data], laidTests := true, laidLooks := .later }
def FnTableTextCardSaid : Prop := Claim7.holds Tryd.pinned (.plain (OpenSpec.ofChange fnTableTextSpec)) fnTableTextCard

/-- THE TIED CARD OF 'laws.FnTableTextEmpty'. -/
def fnTableTextEmptyCard : Claim7 := { stood := { row := fnTableTextEmptyRow, standIns := [], harness := (true, "0c29702658463a0a55a923c2d920e88fcd2660cad835b94fe5a72d6849e0974a"), looks := true }, kinds := [], alts := [], laidByText := true, laidKinds := [.data, .data, .data], laidTests := true, laidLooks := .later }
def FnTableTextEmptyCardSaid : Prop := Claim7.holds Tryd.pinned (.plain (OpenSpec.ofChange fnTableTextEmptySpec)) fnTableTextEmptyCard

/-- THE TIED CARD OF 'laws.FnEndRoundTrip'. -/
def fnEndRoundTripCard : Claim7 := { stood := { row := fnEndRoundTripRow, standIns := [], harness := (true, "0c29702658463a0a55a923c2d920e88fcd2660cad835b94fe5a72d6849e0974a"), looks := true }, kinds := [], alts := [], laidByText := true, laidKinds := [.data, .data, .data, .sentinel, .sentinel], laidTests := true, laidLooks := .later }
def FnEndRoundTripCardSaid : Prop := Claim7.holds Tryd.pinned (.plain (OpenSpec.ofChange fnEndRoundTripSpec)) fnEndRoundTripCard

/-- THE TIED CARD OF 'laws.FnNetRoundTrip'. -/
def fnNetRoundTripCard : Claim7 := { stood := { row := fnNetRoundTripRow, standIns := [], harness := (true, "0c29702658463a0a55a923c2d920e88fcd2660cad835b94fe5a72d6849e0974a"), looks := true }, kinds := [], alts := [], laidByText := true, laidKinds := [.data, .data, .data, .sentinel, .sentinel], laidTests := true, laidLooks := .later }
def FnNetRoundTripCardSaid : Prop := Claim7.holds Tryd.pinned (.plain (OpenSpec.ofChange fnNetRoundTripSpec)) fnNetRoundTripCard

/-- THE TIED CARD OF 'laws.FnExactParseNet'. -/
def fnExactParseNetCard : Claim7 := { stood := { row := fnExactParseNetRow, standIns := [], harness := (true, "0c29702658463a0a55a923c2d920e88fcd2660cad835b94fe5a72d6849e0974a"), looks := true }, kinds := [], alts := [], laidByText := true, laidKinds := [.data, .data, .data, .sentinel, .sentinel], laidTests := true, laidLooks := .later }
def FnExactParseNetCardSaid : Prop := Claim7.holds Tryd.pinned (.plain (OpenSpec.ofChange fnExactParseNetSpec)) fnExactParseNetCard

/-- THE TIED CARD OF 'laws.FnExactParseEnd'. -/
def fnExactParseEndCard : Claim7 := { stood := { row := fnExactParseEndRow, standIns := [], harness := (true, "0c29702658463a0a55a923c2d920e88fcd2660cad835b94fe5a72d6849e0974a"), looks := true }, kinds := [], alts := [], laidByText := true, laidKinds := [.data, .data, .data, .sentinel, .sentinel], laidTests := true, laidLooks := .later }
def FnExactParseEndCardSaid : Prop := Claim7.holds Tryd.pinned (.plain (OpenSpec.ofChange fnExactParseEndSpec)) fnExactParseEndCard

/-- THE TIED CARD OF 'laws.FnNetCanonical'. -/
def fnNetCanonicalCard : Claim7 := { stood := { row := fnNetCanonicalRow, standIns := [], harness := (true, "0c29702658463a0a55a923c2d920e88fcd2660cad835b94fe5a72d6849e0974a"), looks := true }, kinds := [], alts := [], laidByText := true, laidKinds := [.data, .data, .data, .sentinel, .sentinel], laidTests := true, laidLooks := .later }
def FnNetCanonicalCardSaid : Prop := Claim7.holds Tryd.pinned (.plain (OpenSpec.ofChange fnNetCanonicalSpec)) fnNetCanonicalCard

/-- THE TIED CARD OF 'laws.FnEndCanonical'. -/
def fnEndCanonicalCard : Claim7 := { stood := { row := fnEndCanonicalRow, standIns := [], harness := (true, "0c29702658463a0a55a923c2d920e88fcd2660cad835b94fe5a72d6849e0974a"), looks := true }, kinds := [], alts := [], laidByText := true, laidKinds := [.data, .data, .data, .sentinel, .sentinel], laidTests := true, laidLooks := .later }
def FnEndCanonicalCardSaid : Prop := Claim7.holds Tryd.pinned (.plain (OpenSpec.ofChange fnEndCanonicalSpec)) fnEndCanonicalCard

/-- THE SECOND FORM's CARD OF 'laws.FnExactFormatEnd'. -/
def fnExactFormatEndUptoCard : Claim7 := { stood := { row := fnExactFormatEndUptoRow, standIns := [], harness := (true, "0c29702658463a0a55a923c2d920e88fcd2660cad835b94fe5a72d6849e0974a"), looks := true }, kinds := [], alts := [], laidByText := true, laidKinds := [.data, .data, .data], laidTests := true, laidLooks := .later }
def FnExactFormatEndUptoCardSaid : Prop := Claim7.holds Tryd.pinned (.plain (OpenSpec.upto fnExactFormatEndSpec)) fnExactFormatEndUptoCard

/-- THE SECOND FORM's CARD OF 'laws.FnExactFormatNet'. -/
def fnExactFormatNetUptoCard : Claim7 := { stood := { row := fnExactFormatNetUptoRow, standIns := [], harness := (true, "0c29702658463a0a55a923c2d920e88fcd2660cad835b94fe5a72d6849e0974a"), looks := true }, kinds := [], alts := [], laidByText := true, laidKinds := [.data, .data, .data], laidTests := true, laidLooks := .later }
def FnExactFormatNetUptoCardSaid : Prop := Claim7.holds Tryd.pinned (.plain (OpenSpec.upto fnExactFormatNetSpec)) fnExactFormatNetUptoCard

/-- THE SECOND FORM's CARD OF 'laws.FnEndText'. -/
def fnEndTextUptoCard : Claim7 := { stood := { row := fnEndTextUptoRow, standIns := [], harness := (true, "0c29702658463a0a55a923c2d920e88fcd2660cad835b94fe5a72d6849e0974a"), looks := true }, kinds := [], alts := [], laidByText := true, laidKinds := [.data, .data, .data], laidTests := true, laidLooks := .later }
def FnEndTextUptoCardSaid : Prop := Claim7.holds Tryd.pinned (.plain (OpenSpec.upto fnEndTextSpec)) fnEndTextUptoCard

/-- THE SECOND FORM's CARD OF 'laws.FnNetText'. -/
def fnNetTextUptoCard : Claim7 := { stood := { row := fnNetTextUptoRow, standIns := [], harness := (true, "0c29702658463a0a55a923c2d920e88fcd2660cad835b94fe5a72d6849e0974a"), looks := true }, kinds := [], alts := [], laidByText := true, laidKinds := [.data, .data, .data], laidTests := true, laidLooks := .later }
def FnNetTextUptoCardSaid : Prop := Claim7.holds Tryd.pinned (.plain (OpenSpec.upto fnNetTextSpec)) fnNetTextUptoCard

/-- THE SECOND FORM's CARD OF 'laws.FnExactFormatTable'. -/
def fnExactFormatTableUptoCard : Claim7 := { stood := { row := fnExactFormatTableUptoRow, standIns := [], harness := (true, "0c29702658463a0a55a923c2d920e88fcd2660cad835b94fe5a72d6849e0974a"), looks := true }, kinds := [], alts := [], laidByText := true, laidKinds := [.data, .data, .data], laidTests := true, laidLooks := .later }
def FnExactFormatTableUptoCardSaid : Prop := Claim7.holds Tryd.pinned (.plain (OpenSpec.upto fnExactFormatTableSpec)) fnExactFormatTableUptoCard

/-- THE SECOND FORM's CARD OF 'laws.FnTableText'. -/
def fnTableTextUptoCard : Claim7 := { stood := { row := fnTableTextUptoRow, standIns := [], harness := (true, "0c29702658463a0a55a923c2d920e88fcd2660cad835b94fe5a72d6849e0974a"), looks := true }, kinds := [], alts := [], laidByText := true, laidKinds := [.data, .data, .data], laidTests := true, laidLooks := .later }
def FnTableTextUptoCardSaid : Prop := Claim7.holds Tryd.pinned (.plain (OpenSpec.upto fnTableTextSpec)) fnTableTextUptoCard

/-- THE SECOND FORM's CARD OF 'laws.FnTableTextEmpty'. -/
def fnTableTextEmptyUptoCard : Claim7 := { stood := { row := fnTableTextEmptyUptoRow, standIns := [], harness := (true, "0c29702658463a0a55a923c2d920e88fcd2660cad835b94fe5a72d6849e0974a"), looks := true }, kinds := [], alts := [], laidByText := true, laidKinds := [.data, .data, .data], laidTests := true, laidLooks := .later }
def FnTableTextEmptyUptoCardSaid : Prop := Claim7.holds Tryd.pinned (.plain (OpenSpec.upto fnTableTextEmptySpec)) fnTableTextEmptyUptoCard

/-- THE SECOND FORM's CARD OF 'laws.FnEndRoundTrip'. -/
def fnEndRoundTripUptoCard : Claim7 := { stood := { row := fnEndRoundTripUptoRow, standIns := [], harness := (true, "0c29702658463a0a55a923c2d920e88fcd2660cad835b94fe5a72d6849e0974a"), looks := true }, kinds := [], alts := [], laidByText := true, laidKinds := [.data, .data, .data, .sentinel, .sentinel], laidTests := true, laidLooks := .later }
def FnEndRoundTripUptoCardSaid : Prop := Claim7.holds Tryd.pinned (.plain (OpenSpec.upto fnEndRoundTripSpec)) fnEndRoundTripUptoCard

/-- THE SECOND FORM's CARD OF 'laws.FnNetRoundTrip'. -/
def fnNetRoundTripUptoCard : Claim7 := { stood := { row := fnNetRoundTripUptoRow, standIns := [], harness := (true, "0c29702658463a0a55a923c2d920e88fcd2660cad835b94fe5a72d6849e0974a"), looks := true }, kinds := [], alts := [], laidByText := true, laidKinds := [.data, .data, .data, .sentinel, .sentinel], laidTests := true, laidLooks := .later }
def FnNetRoundTripUptoCardSaid : Prop := Claim7.holds Tryd.pinned (.plain (OpenSpec.upto fnNetRoundTripSpec)) fnNetRoundTripUptoCard

/-- THE SECOND FORM's CARD OF 'laws.FnExactParseNet'. -/
def fnExactParseNetUptoCard : Claim7 := { stood := { row := fnExactParseNetUptoRow, standIns := [], harness := (true, "0c29702658463a0a55a923c2d920e88fcd2660cad835b94fe5a72d6849e0974a"), looks := true }, kinds := [], alts := [], laidByText := true, laidKinds := [.data, .data, .data, .sentinel, .sentinel], laidTests := true, laidLooks := .later }
def FnExactParseNetUptoCardSaid : Prop := Claim7.holds Tryd.pinned (.plain (OpenSpec.upto fnExactParseNetSpec)) fnExactParseNetUptoCard

/-- THE SECOND FORM's CARD OF 'laws.FnExactParseEnd'. -/
def fnExactParseEndUptoCard : Claim7 := { stood := { row := fnExactParseEndUptoRow, standIns := [], harness := (true, "0c29702658463a0a55a923c2d920e88fcd2660cad835b94fe5a72d6849e0974a"), looks := true }, kinds := [], alts := [], laidByText := true, laidKinds := [.data, .data, .data, .sentinel, .sentinel], laidTests := true, laidLooks := .later }
def FnExactParseEndUptoCardSaid : Prop := Claim7.holds Tryd.pinned (.plain (OpenSpec.upto fnExactParseEndSpec)) fnExactParseEndUptoCard

/-- THE SECOND FORM's CARD OF 'laws.FnNetCanonical'. -/
def fnNetCanonicalUptoCard : Claim7 := { stood := { row := fnNetCanonicalUptoRow, standIns := [], harness := (true, "0c29702658463a0a55a923c2d920e88fcd2660cad835b94fe5a72d6849e0974a"), looks := true }, kinds := [], alts := [], laidByText := true, laidKinds := [.data, .data, .data, .sentinel, .sentinel], laidTests := true, laidLooks := .later }
def FnNetCanonicalUptoCardSaid : Prop := Claim7.holds Tryd.pinned (.plain (OpenSpec.upto fnNetCanonicalSpec)) fnNetCanonicalUptoCard

/-- THE SECOND FORM's CARD OF 'laws.FnEndCanonical'. -/
def fnEndCanonicalUptoCard : Claim7 := { stood := { row := fnEndCanonicalUptoRow, standIns := [], harness := (true, "0c29702658463a0a55a923c2d920e88fcd2660cad835b94fe5a72d6849e0974a"), looks := true }, kinds := [], alts := [], laidByText := true, laidKinds := [.data, .data, .data, .sentinel, .sentinel], laidTests := true, laidLooks := .later }
def FnEndCanonicalUptoCardSaid : Prop := Claim7.holds Tryd.pinned (.plain (OpenSpec.upto fnEndCanonicalSpec)) fnEndCanonicalUptoCard
end Rows
end Go.Proofs.YthlaldikdlljfaaDoor
