/-
  DERIVED. GIVEN WITH THE SEED: THE CARDS: each row of YtgjibnfdaigpkaaGreatDoorRows.lean that lists a variable, with what it lists TIED to the program's text (the seventh form; the later family's looks); each row that meets fmt, with fmt's text TOLD by the authors' own Lean function (tested against real Go, not proved from fmt's source: count such statements apart). THE CARD IS WHAT COUNTS. Prove the row's statement (the work); the ties are given (YtgjibnfdaigpkaaGreatDoorTie.lean); close each card by the builder's one call (the guide's Derived/Test/ToyasCard.lean, 'card_holds'). Laid BY PROGRAM, IN A SANDBOX (cutbox-door.mjs). By AI agents, Wed Nov 11 2026. No macro, syntax, notation, axiom, sorry.
-/
import Derived.Test.YtgjibnfdaigpkaaGreatDoorRows
import GoSem.ClaimSeven
namespace Go.Proofs.YtgjibnfdaigpkaaGreatDoor
namespace Rows

/-- THE TIED CARD OF 'linesmanlaw08.InstrBytes'. -/
def instrBytesCard : Claim7 := { stood := { row := instrBytesRow, standIns := [], harness := (true, "c7ab0646407abf79340b854b61a1815067a68e1eddd726695aa5c1c7f1fffc72"), looks := true }, kinds := [], alts := [], laidByText := true, laidKinds := [.data, .data, .data, .data, .sentinel, .sentinel, .pinned], laidTests := true, laidLooks := .later }
def InstrBytesCardSaid : Prop := Claim7.holds Tryz.pinned (.plain (OpenSpec.ofChange instrBytesSpec)) instrBytesCard

/-- THE TIED CARD OF 'linesmanlaw08.InstrTexts'. -/
def instrTextsCard : Claim7 := { stood := { row := instrTextsRow, standIns := [], harness := (true, "c7ab0646407abf79340b854b61a1815067a68e1eddd726695aa5c1c7f1fffc72"), looks := true }, kinds := [], alts := [], laidByText := true, laidKinds := [.data, .data, .data, .data, .sentinel, .sentinel, .pinned], laidTests := true, laidLooks := .later }
def InstrTextsCardSaid : Prop := Claim7.holds Tryz.pinned (.plain (OpenSpec.ofChange instrTextsSpec)) instrTextsCard

/-- THE TIED CARD OF 'linesmanlaw08.InstrHolds'. -/
def instrHoldsCard : Claim7 := { stood := { row := instrHoldsRow, standIns := [], harness := (true, "c7ab0646407abf79340b854b61a1815067a68e1eddd726695aa5c1c7f1fffc72"), looks := true }, kinds := [], alts := [], laidByText := true, laidKinds := [.data, .data, .data, .data, .sentinel, .sentinel, .pinned], laidTests := true, laidLooks := .later }
def InstrHoldsCardSaid : Prop := Claim7.holds Tryz.pinned (.plain (OpenSpec.ofChange instrHoldsSpec)) instrHoldsCard

/-- THE TIED CARD OF 'linesmanlaw08.InstrEach'. -/
def instrEachCard : Claim7 := { stood := { row := instrEachRow, standIns := [], harness := (true, "c7ab0646407abf79340b854b61a1815067a68e1eddd726695aa5c1c7f1fffc72"), looks := true }, kinds := [], alts := [], laidByText := true, laidKinds := [.data, .data, .data, .data, .sentinel, .sentinel, .pinned], laidTests := true, laidLooks := .later }
def InstrEachCardSaid : Prop := Claim7.holds Tryz.pinned (.plain (OpenSpec.ofChange instrEachSpec)) instrEachCard

/-- THE TIED CARD OF 'linesmanlaw07.SiteSets'. -/
def siteSetsCard : Claim7 := { stood := { row := siteSetsRow, standIns := [], harness := (true, "c7ab0646407abf79340b854b61a1815067a68e1eddd726695aa5c1c7f1fffc72"), looks := true }, kinds := [], alts := [], laidByText := true, laidKinds := [.data, .data, .data, .sentinel, .sentinel], laidTests := true, laidLooks := .later }
def SiteSetsCardSaid : Prop := Claim7.holds Tryz.pinned (.plain (OpenSpec.ofChange siteSetsSpec)) siteSetsCard

/-- THE TIED CARD OF 'linesmanlaw07.SiteNone'. -/
def siteNoneCard : Claim7 := { stood := { row := siteNoneRow, standIns := [], harness := (true, "c7ab0646407abf79340b854b61a1815067a68e1eddd726695aa5c1c7f1fffc72"), looks := true }, kinds := [], alts := [], laidByText := true, laidKinds := [.data, .data, .data, .sentinel, .sentinel], laidTests := true, laidLooks := .later }
def SiteNoneCardSaid : Prop := Claim7.holds Tryz.pinned (.plain (OpenSpec.ofChange siteNoneSpec)) siteNoneCard

/-- THE SECOND FORM's CARD OF 'linesmanlaw08.InstrBytes'. -/
def instrBytesUptoCard : Claim7 := { stood := { row := instrBytesUptoRow, standIns := [], harness := (true, "c7ab0646407abf79340b854b61a1815067a68e1eddd726695aa5c1c7f1fffc72"), looks := true }, kinds := [], alts := [], laidByText := true, laidKinds := [.data, .data, .data, .data, .sentinel, .sentinel, .pinned], laidTests := true, laidLooks := .later }
def InstrBytesUptoCardSaid : Prop := Claim7.holds Tryz.pinned (.plain (OpenSpec.upto instrBytesSpec)) instrBytesUptoCard

/-- THE SECOND FORM's CARD OF 'linesmanlaw08.InstrTexts'. -/
def instrTextsUptoCard : Claim7 := { stood := { row := instrTextsUptoRow, standIns := [], harness := (true, "c7ab0646407abf79340b854b61a1815067a68e1eddd726695aa5c1c7f1fffc72"), looks := true }, kinds := [], alts := [], laidByText := true, laidKinds := [.data, .data, .data, .data, .sentinel, .sentinel, .pinned], laidTests := true, laidLooks := .later }
def InstrTextsUptoCardSaid : Prop := Claim7.holds Tryz.pinned (.plain (OpenSpec.upto instrTextsSpec)) instrTextsUptoCard

/-- THE SECOND FORM's CARD OF 'linesmanlaw08.InstrHolds'. -/
def instrHoldsUptoCard : Claim7 := { stood := { row := instrHoldsUptoRow, standIns := [], harness := (true, "c7ab0646407abf79340b854b61a1815067a68e1eddd726695aa5c1c7f1fffc72"), looks := true }, kinds := [], alts := [], laidByText := true, laidKinds := [.data, .data, .data, .data, .sentinel, .sentinel, .pinned], laidTests := true, laidLooks := .later }
def InstrHoldsUptoCardSaid : Prop := Claim7.holds Tryz.pinned (.plain (OpenSpec.upto instrHoldsSpec)) instrHoldsUptoCard

/-- THE SECOND FORM's CARD OF 'linesmanlaw08.InstrEach'. -/
def instrEachUptoCard : Claim7 := { stood := { row := instrEachUptoRow, standIns := [], harness := (true, "c7ab0646407abf79340b854b61a1815067a68e1eddd726695aa5c1c7f1fffc72"), looks := true }, kinds := [], alts := [], laidByText := true, laidKinds := [.data, .data, .data, .data, .sentinel, .sentinel, .pinned], laidTests := true, laidLooks := .later }
def InstrEachUptoCardSaid : Prop := Claim7.holds Tryz.pinned (.plain (OpenSpec.upto instrEachSpec)) instrEachUptoCard

/-- THE SECOND FORM's CARD OF 'linesmanlaw07.SiteSets'. -/
def siteSetsUptoCard : Claim7 := { stood := { row := siteSetsUptoRow, standIns := [], harness := (true, "c7ab0646407abf79340b854b61a1815067a68e1eddd726695aa5c1c7f1fffc72"), looks := true }, kinds := [], alts := [], laidByText := true, laidKinds := [.data, .data, .data, .sentinel, .sentinel], laidTests := true, laidLooks := .later }
def SiteSetsUptoCardSaid : Prop := Claim7.holds Tryz.pinned (.plain (OpenSpec.upto siteSetsSpec)) siteSetsUptoCard

/-- THE SECOND FORM's CARD OF 'linesmanlaw07.SiteNone'. -/
def siteNoneUptoCard : Claim7 := { stood := { row := siteNoneUptoRow, standIns := [], harness := (true, "c7ab0646407abf79340b854b61a1815067a68e1eddd726695aa5c1c7f1fffc72"), looks := true }, kinds := [], alts := [], laidByText := true, laidKinds := [.data, .data, .data, .sentinel, .sentinel], laidTests := true, laidLooks := .later }
def SiteNoneUptoCardSaid : Prop := Claim7.holds Tryz.pinned (.plain (OpenSpec.upto siteNoneSpec)) siteNoneUptoCard
end Rows
end Go.Proofs.YtgjibnfdaigpkaaGreatDoor
