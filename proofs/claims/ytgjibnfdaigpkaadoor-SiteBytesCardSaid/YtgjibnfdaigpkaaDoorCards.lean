/-
  DERIVED. GIVEN WITH THE SEED: THE CARDS: each row of YtgjibnfdaigpkaaDoorRows.lean that lists a variable, with what it lists TIED to the program's text (the seventh form; the later family's looks); each row that meets fmt, with fmt's text TOLD by the authors' own Lean function (tested against real Go, not proved from fmt's source: count such statements apart). THE CARD IS WHAT COUNTS. Prove the row's statement (the work); the ties are given (YtgjibnfdaigpkaaDoorTie.lean); close each card by the builder's one call (the guide's Derived/Test/ToyasCard.lean, 'card_holds'). Laid BY PROGRAM, IN A SANDBOX (cutbox-door.mjs). By AI agents, Wed Nov 11 2026. No macro, syntax, notation, axiom, sorry.
-/
import Derived.Test.YtgjibnfdaigpkaaDoorRows
import GoSem.ClaimSeven
namespace Go.Proofs.YtgjibnfdaigpkaaDoor
namespace Rows

/-- THE TIED CARD OF 'linesmanlaw07.SiteTexts'. -/
def siteTextsCard : Claim7 := { stood := { row := siteTextsRow, standIns := [], harness := (true, "3208b2ff5504da499e7f5b484e43b17ab28f2540fc936bdda29ee3fc0351756f"), looks := true }, kinds := [], alts := [], laidByText := true, laidKinds := [.data, .data, .data, .sentinel, .sentinel], laidTests := true, laidLooks := .later }
def SiteTextsCardSaid : Prop := Claim7.holds Tryd.pinned (.plain (OpenSpec.ofChange siteTextsSpec)) siteTextsCard

/-- THE TIED CARD OF 'linesmanlaw07.SiteHolds'. -/
def siteHoldsCard : Claim7 := { stood := { row := siteHoldsRow, standIns := [], harness := (true, "3208b2ff5504da499e7f5b484e43b17ab28f2540fc936bdda29ee3fc0351756f"), looks := true }, kinds := [], alts := [], laidByText := true, laidKinds := [.data, .data, .data, .sentinel, .sentinel], laidTests := true, laidLooks := .later }
def SiteHoldsCardSaid : Prop := Claim7.holds Tryd.pinned (.plain (OpenSpec.ofChange siteHoldsSpec)) siteHoldsCard

/-- THE TIED CARD OF 'linesmanlaw07.SiteBytes'. -/
def siteBytesCard : Claim7 := { stood := { row := siteBytesRow, standIns := [], harness := (true, "3208b2ff5504da499e7f5b484e43b17ab28f2540fc936bdda29ee3fc0351756f"), looks := true }, kinds := [], alts := [], laidByText := true, laidKinds := [.data, .data, .data, .sentinel, .sentinel], laidTests := true, laidLooks := .later }
def SiteBytesCardSaid : Prop := Claim7.holds Tryd.pinned (.plain (OpenSpec.ofChange siteBytesSpec)) siteBytesCard

/-- THE SECOND FORM's CARD OF 'linesmanlaw07.SiteTexts'. -/
def siteTextsUptoCard : Claim7 := { stood := { row := siteTextsUptoRow, standIns := [], harness := (true, "3208b2ff5504da499e7f5b484e43b17ab28f2540fc936bdda29ee3fc0351756f"), looks := true }, kinds := [], alts := [], laidByText := true, laidKinds := [.data, .data, .data, .sentinel, .sentinel], laidTests := true, laidLooks := .later }
def SiteTextsUptoCardSaid : Prop := Claim7.holds Tryd.pinned (.plain (OpenSpec.upto siteTextsSpec)) siteTextsUptoCard

/-- THE SECOND FORM's CARD OF 'linesmanlaw07.SiteHolds'. -/
def siteHoldsUptoCard : Claim7 := { stood := { row := siteHoldsUptoRow, standIns := [], harness := (true, "3208b2ff5504da499e7f5b484e43b17ab28f2540fc936bdda29ee3fc0351756f"), looks := true }, kinds := [], alts := [], laidByText := true, laidKinds := [.data, .data, .data, .sentinel, .sentinel], laidTests := true, laidLooks := .later }
def SiteHoldsUptoCardSaid : Prop := Claim7.holds Tryd.pinned (.plain (OpenSpec.upto siteHoldsSpec)) siteHoldsUptoCard

/-- THE SECOND FORM's CARD OF 'linesmanlaw07.SiteBytes'. -/
def siteBytesUptoCard : Claim7 := { stood := { row := siteBytesUptoRow, standIns := [], harness := (true, "3208b2ff5504da499e7f5b484e43b17ab28f2540fc936bdda29ee3fc0351756f"), looks := true }, kinds := [], alts := [], laidByText := true, laidKinds := [.data, .data, .data, .sentinel, .sentinel], laidTests := true, laidLooks := .later }
def SiteBytesUptoCardSaid : Prop := Claim7.holds Tryd.pinned (.plain (OpenSpec.upto siteBytesSpec)) siteBytesUptoCard
end Rows
end Go.Proofs.YtgjibnfdaigpkaaDoor
