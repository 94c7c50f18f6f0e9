/-
  DERIVED. GIVEN WITH THE SEED: THE CARDS: each row of YtoclolaljaiogaaDoorRows.lean that lists a variable, with what it lists TIED to the program's text (the seventh form; the later family's looks); each row that meets fmt, with fmt's text TOLD by the authors' own Lean function (tested against real Go, not proved from fmt's source: count such statements apart). THE CARD IS WHAT COUNTS. Prove the row's statement (the work); the ties are given (YtoclolaljaiogaaDoorTie.lean); close each card by the builder's one call (the guide's Derived/Test/ToyasCard.lean, 'card_holds'). Laid BY PROGRAM, IN A SANDBOX (cutbox-door.mjs). By AI agents, Wed Nov 11 2026. No macro, syntax, notation, axiom, sorry.
-/
import Derived.Test.YtoclolaljaiogaaDoorRows
import GoSem.ClaimSeven
namespace Go.Proofs.YtoclolaljaiogaaDoor
namespace Rows

/-- THE TIED CARD OF 'smithylaw04.LinesSplits'. -/
def linesSplitsCard : Claim7 := { stood := { row := linesSplitsRow, standIns := [], harness := (true, "205245ddc53d1a21ac415d12cac862244674117eb94bb35a03ec9a733392f81c"), looks := false }, kinds := [], alts := [], laidByText := true, laidKinds := [.data, .pinned], laidTests := true, laidLooks := .later }
def LinesSplitsCardSaid : Prop := Claim7.holds Tryd.pinned (.plain (OpenSpec.ofChange linesSplitsSpec)) linesSplitsCard

/-- THE TIED CARD OF 'smithylaw04.LinesParts'. -/
def linesPartsCard : Claim7 := { stood := { row := linesPartsRow, standIns := [], harness := (true, "205245ddc53d1a21ac415d12cac862244674117eb94bb35a03ec9a733392f81c"), looks := false }, kinds := [], alts := [], laidByText := true, laidKinds := [.data, .pinned], laidTests := true, laidLooks := .later }
def LinesPartsCardSaid : Prop := Claim7.holds Tryd.pinned (.plain (OpenSpec.ofChange linesPartsSpec)) linesPartsCard

/-- THE TIED CARD OF 'smithylaw04.LinesFinds'. -/
def linesFindsCard : Claim7 := { stood := { row := linesFindsRow, standIns := [], harness := (true, "205245ddc53d1a21ac415d12cac862244674117eb94bb35a03ec9a733392f81c"), looks := false }, kinds := [], alts := [], laidByText := true, laidKinds := [.data, .pinned], laidTests := true, laidLooks := .later }
def LinesFindsCardSaid : Prop := Claim7.holds Tryd.pinned (.plain (OpenSpec.ofChange linesFindsSpec)) linesFindsCard

/-- THE TIED CARD OF 'smithylaw04.LinesBack'. -/
def linesBackCard : Claim7 := { stood := { row := linesBackRow, standIns := [], harness := (true, "205245ddc53d1a21ac415d12cac862244674117eb94bb35a03ec9a733392f81c"), looks := false }, kinds := [], alts := [], laidByText := true, laidKinds := [.data, .pinned], laidTests := true, laidLooks := .later }
def LinesBackCardSaid : Prop := Claim7.holds Tryd.pinned (.plain (OpenSpec.ofChange linesBackSpec)) linesBackCard

/-- THE TIED CARD OF 'smithylaw04.LinesAgain'. -/
def linesAgainCard : Claim7 := { stood := { row := linesAgainRow, standIns := [], harness := (true, "205245ddc53d1a21ac415d12cac862244674117eb94bb35a03ec9a733392f81c"), looks := false }, kinds := [], alts := [], laidByText := true, laidKinds := [.data, .pinned], laidTests := true, laidLooks := .later }
def LinesAgainCardSaid : Prop := Claim7.holds Tryd.pinned (.plain (OpenSpec.ofChange linesAgainSpec)) linesAgainCard

/-- THE SECOND FORM's CARD OF 'smithylaw04.LinesSplits'. -/
def linesSplitsUptoCard : Claim7 := { stood := { row := linesSplitsUptoRow, standIns := [], harness := (true, "205245ddc53d1a21ac415d12cac862244674117eb94bb35a03ec9a733392f81c"), looks := false }, kinds := [], alts := [], laidByText := true, laidKinds := [.data, .pinned], laidTests := true, laidLooks := .later }
def LinesSplitsUptoCardSaid : Prop := Claim7.holds Tryd.pinned (.plain (OpenSpec.upto linesSplitsSpec)) linesSplitsUptoCard

/-- THE SECOND FORM's CARD OF 'smithylaw04.LinesParts'. -/
def linesPartsUptoCard : Claim7 := { stood := { row := linesPartsUptoRow, standIns := [], harness := (true, "205245ddc53d1a21ac415d12cac862244674117eb94bb35a03ec9a733392f81c"), looks := false }, kinds := [], alts := [], laidByText := true, laidKinds := [.data, .pinned], laidTests := true, laidLooks := .later }
def LinesPartsUptoCardSaid : Prop := Claim7.holds Tryd.pinned (.plain (OpenSpec.upto linesPartsSpec)) linesPartsUptoCard

/-- THE SECOND FORM's CARD OF 'smithylaw04.LinesFinds'. -/
def linesFindsUptoCard : Claim7 := { stood := { row := linesFindsUptoRow, standIns := [], harness := (true, "205245ddc53d1a21ac415d12cac862244674117eb94bb35a03ec9a733392f81c"), looks := false }, kinds := [], alts := [], laidByText := true, laidKinds := [.data, .pinned], laidTests := true, laidLooks := .later }
def LinesFindsUptoCardSaid : Prop := Claim7.holds Tryd.pinned (.plain (OpenSpec.upto linesFindsSpec)) linesFindsUptoCard

/-- THE SECOND FORM's CARD OF 'smithylaw04.LinesBack'. -/
def linesBackUptoCard : Claim7 := { stood := { row := linesBackUptoRow, standIns := [], harness := (true, "205245ddc53d1a21ac415d12cac862244674117eb94bb35a03ec9a733392f81c"), looks := false }, kinds := [], alts := [], laidByText := true, laidKinds := [.data, .pinned], laidTests := true, laidLooks := .later }
def LinesBackUptoCardSaid : Prop := Claim7.holds Tryd.pinned (.plain (OpenSpec.upto linesBackSpec)) linesBackUptoCard

/-- THE SECOND FORM's CARD OF 'smithylaw04.LinesAgain'. -/
def linesAgainUptoCard : Claim7 := { stood := { row := linesAgainUptoRow, standIns := [], harness := (true, "205245ddc53d1a21ac415d12cac862244674117eb94bb35a03ec9a733392f81c"), looks := false }, kinds := [], alts := [], laidByText := true, laidKinds := [.data, .pinned], laidTests := true, laidLooks := .later }
def LinesAgainUptoCardSaid : Prop := Claim7.holds Tryd.pinned (.plain (OpenSpec.upto linesAgainSpec)) linesAgainUptoCard
end Rows
end Go.Proofs.YtoclolaljaiogaaDoor
