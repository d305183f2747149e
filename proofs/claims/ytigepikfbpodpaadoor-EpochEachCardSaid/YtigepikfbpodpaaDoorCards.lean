/-
  DERIVED. GIVEN WITH THE SEED: THE CARDS: each row of YtigepikfbpodpaaDoorRows.lean that lists a variable, with what it lists TIED to the program's text (the seventh form; the later family's looks); each row that meets fmt, with fmt's text TOLD by the authors' own Lean function (tested against real Go, not proved from fmt's source: count such statements apart). THE CARD IS WHAT COUNTS. Prove the row's statement (the work); the ties are given (YtigepikfbpodpaaDoorTie.lean); close each card by the builder's one call (the guide's Derived/Test/ToyasCard.lean, 'card_holds'). Laid BY PROGRAM, IN A SANDBOX (cutbox-door.mjs). By AI agents, Wed Nov 11 2026. No macro, syntax, notation, axiom, sorry.
-/
import Derived.Test.YtigepikfbpodpaaDoorRows
import GoSem.ClaimSeven
namespace Go.Proofs.YtigepikfbpodpaaDoor
namespace Rows

/-- THE TIED CARD OF 'linesmanlaw03.EpochNext'. -/
def epochNextCard : Claim7 := { stood := { row := epochNextRow, standIns := [], harness := (true, "0499d952390b820d4ab8f915aab979b9d05a8106434eab78d7b48220e7c250f5"), looks := true }, kinds := [], alts := [], laidByText := true, laidKinds := [.data, .data, .data, .sentinel, .sentinel], laidTests := true, laidLooks := .later }
def EpochNextCardSaid : Prop := Claim7.holds Tryd.pinned (.plain (OpenSpec.ofChange epochNextSpec)) epochNextCard

/-- THE TIED CARD OF 'linesmanlaw03.EpochTexts'. -/
def epochTextsCard : Claim7 := { stood := { row := epochTextsRow, standIns := [], harness := (true, "0499d952390b820d4ab8f915aab979b9d05a8106434eab78d7b48220e7c250f5"), looks := true }, kinds := [], alts := [], laidByText := true, laidKinds := [.data, .data, .data, .sentinel, .sentinel], laidTests := true, laidLooks := .later }
def EpochTextsCardSaid : Prop := Claim7.holds Tryd.pinned (.plain (OpenSpec.ofChange epochTextsSpec)) epochTextsCard

/-- THE TIED CARD OF 'linesmanlaw03.EpochHolds'. -/
def epochHoldsCard : Claim7 := { stood := { row := epochHoldsRow, standIns := [], harness := (true, "0499d952390b820d4ab8f915aab979b9d05a8106434eab78d7b48220e7c250f5"), looks := true }, kinds := [], alts := [], laidByText := true, laidKinds := [.data, .data, .data, .sentinel, .sentinel], laidTests := true, laidLooks := .later }
def EpochHoldsCardSaid : Prop := Claim7.holds Tryd.pinned (.plain (OpenSpec.ofChange epochHoldsSpec)) epochHoldsCard

/-- THE TIED CARD OF 'linesmanlaw03.EpochPacks'. -/
def epochPacksCard : Claim7 := { stood := { row := epochPacksRow, standIns := [], harness := (true, "0499d952390b820d4ab8f915aab979b9d05a8106434eab78d7b48220e7c250f5"), looks := true }, kinds := [], alts := [], laidByText := true, laidKinds := [.data, .data, .data, .sentinel, .sentinel], laidTests := true, laidLooks := .later }
def EpochPacksCardSaid : Prop := Claim7.holds Tryd.pinned (.plain (OpenSpec.ofChange epochPacksSpec)) epochPacksCard

/-- THE TIED CARD OF 'linesmanlaw03.EpochEach'. -/
def epochEachCard : Claim7 := { stood := { row := epochEachRow, standIns := [], harness := (true, "0499d952390b820d4ab8f915aab979b9d05a8106434eab78d7b48220e7c250f5"), looks := true }, kinds := [], alts := [], laidByText := true, laidKinds := [.data, .data, .data, .sentinel, .sentinel], laidTests := true, laidLooks := .later }
def EpochEachCardSaid : Prop := Claim7.holds Tryd.pinned (.plain (OpenSpec.ofChange epochEachSpec)) epochEachCard

/-- THE SECOND FORM's CARD OF 'linesmanlaw03.EpochNext'. -/
def epochNextUptoCard : Claim7 := { stood := { row := epochNextUptoRow, standIns := [], harness := (true, "0499d952390b820d4ab8f915aab979b9d05a8106434eab78d7b48220e7c250f5"), looks := true }, kinds := [], alts := [], laidByText := true, laidKinds := [.data, .data, .data, .sentinel, .sentinel], laidTests := true, laidLooks := .later }
def EpochNextUptoCardSaid : Prop := Claim7.holds Tryd.pinned (.plain (OpenSpec.upto epochNextSpec)) epochNextUptoCard

/-- THE SECOND FORM's CARD OF 'linesmanlaw03.EpochTexts'. -/
def epochTextsUptoCard : Claim7 := { stood := { row := epochTextsUptoRow, standIns := [], harness := (true, "0499d952390b820d4ab8f915aab979b9d05a8106434eab78d7b48220e7c250f5"), looks := true }, kinds := [], alts := [], laidByText := true, laidKinds := [.data, .data, .data, .sentinel, .sentinel], laidTests := true, laidLooks := .later }
def EpochTextsUptoCardSaid : Prop := Claim7.holds Tryd.pinned (.plain (OpenSpec.upto epochTextsSpec)) epochTextsUptoCard

/-- THE SECOND FORM's CARD OF 'linesmanlaw03.EpochHolds'. -/
def epochHoldsUptoCard : Claim7 := { stood := { row := epochHoldsUptoRow, standIns := [], harness := (true, "0499d952390b820d4ab8f915aab979b9d05a8106434eab78d7b48220e7c250f5"), looks := true }, kinds := [], alts := [], laidByText := true, laidKinds := [.data, .data, .data, .sentinel, .sentinel], laidTests := true, laidLooks := .later }
def EpochHoldsUptoCardSaid : Prop := Claim7.holds Tryd.pinned (.plain (OpenSpec.upto epochHoldsSpec)) epochHoldsUptoCard

/-- THE SECOND FORM's CARD OF 'linesmanlaw03.EpochPacks'. -/
def epochPacksUptoCard : Claim7 := { stood := { row := epochPacksUptoRow, standIns := [], harness := (true, "0499d952390b820d4ab8f915aab979b9d05a8106434eab78d7b48220e7c250f5"), looks := true }, kinds := [], alts := [], laidByText := true, laidKinds := [.data, .data, .data, .sentinel, .sentinel], laidTests := true, laidLooks := .later }
def EpochPacksUptoCardSaid : Prop := Claim7.holds Tryd.pinned (.plain (OpenSpec.upto epochPacksSpec)) epochPacksUptoCard

/-- THE SECOND FORM's CARD OF 'linesmanlaw03.EpochEach'. -/
def epochEachUptoCard : Claim7 := { stood := { row := epochEachUptoRow, standIns := [], harness := (true, "0499d952390b820d4ab8f915aab979b9d05a8106434eab78d7b48220e7c250f5"), looks := true }, kinds := [], alts := [], laidByText := true, laidKinds := [.data, .data, .data, .sentinel, .sentinel], laidTests := true, laidLooks := .later }
def EpochEachUptoCardSaid : Prop := Claim7.holds Tryd.pinned (.plain (OpenSpec.upto epochEachSpec)) epochEachUptoCard
end Rows
end Go.Proofs.YtigepikfbpodpaaDoor
