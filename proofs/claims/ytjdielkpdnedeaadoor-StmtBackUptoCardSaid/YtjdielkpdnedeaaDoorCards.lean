/-
  DERIVED. GIVEN WITH THE SEED: THE CARDS: each row of YtjdielkpdnedeaaDoorRows.lean that lists a variable, with what it lists TIED to the program's text (the seventh form; the later family's looks); each row that meets fmt, with fmt's text TOLD by the authors' own Lean function (tested against real Go, not proved from fmt's source: count such statements apart). THE CARD IS WHAT COUNTS. Prove the row's statement (the work); the ties are given (YtjdielkpdnedeaaDoorTie.lean); close each card by the builder's one call (the guide's Derived/Test/ToyasCard.lean, 'card_holds'). Laid BY PROGRAM, IN A SANDBOX (cutbox-door.mjs). By AI agents, Wed Nov 11 2026. No macro, syntax, notation, axiom, sorry.
-/
import Derived.Test.YtjdielkpdnedeaaDoorRows
import GoSem.ClaimSeven
namespace Go.Proofs.YtjdielkpdnedeaaDoor
namespace Rows

/-- THE TIED CARD OF 'smithylaw07.StmtFinds'. -/
def stmtFindsCard : Claim7 := { stood := { row := stmtFindsRow, standIns := [], harness := (true, "8253aef63da0ff460f57003f30ab4848067ff8a9f78dd89913e6160f0f00a945"), looks := false }, kinds := [], alts := [], laidByText := true, laidKinds := [.data, .pinned], laidTests := true, laidLooks := .later }
def StmtFindsCardSaid : Prop := Claim7.holds Tryd.pinned (.plain (OpenSpec.ofChange stmtFindsSpec)) stmtFindsCard

/-- THE TIED CARD OF 'smithylaw07.StmtParses'. -/
def stmtParsesCard : Claim7 := { stood := { row := stmtParsesRow, standIns := [], harness := (true, "8253aef63da0ff460f57003f30ab4848067ff8a9f78dd89913e6160f0f00a945"), looks := false }, kinds := [], alts := [], laidByText := true, laidKinds := [.data, .pinned], laidTests := true, laidLooks := .later }
def StmtParsesCardSaid : Prop := Claim7.holds Tryd.pinned (.plain (OpenSpec.ofChange stmtParsesSpec)) stmtParsesCard

/-- THE TIED CARD OF 'smithylaw07.StmtOutside'. -/
def stmtOutsideCard : Claim7 := { stood := { row := stmtOutsideRow, standIns := [], harness := (true, "8253aef63da0ff460f57003f30ab4848067ff8a9f78dd89913e6160f0f00a945"), looks := false }, kinds := [], alts := [], laidByText := true, laidKinds := [.data, .pinned], laidTests := true, laidLooks := .later }
def StmtOutsideCardSaid : Prop := Claim7.holds Tryd.pinned (.plain (OpenSpec.ofChange stmtOutsideSpec)) stmtOutsideCard

/-- THE TIED CARD OF 'smithylaw07.StmtPrints'. -/
def stmtPrintsCard : Claim7 := { stood := { row := stmtPrintsRow, standIns := [], harness := (true, "8253aef63da0ff460f57003f30ab4848067ff8a9f78dd89913e6160f0f00a945"), looks := false }, kinds := [], alts := [], laidByText := true, laidKinds := [.data, .pinned], laidTests := true, laidLooks := .later }
def StmtPrintsCardSaid : Prop := Claim7.holds Tryd.pinned (.plain (OpenSpec.ofChange stmtPrintsSpec)) stmtPrintsCard

/-- THE TIED CARD OF 'smithylaw07.StmtBack'. -/
def stmtBackCard : Claim7 := { stood := { row := stmtBackRow, standIns := [], harness := (true, "8253aef63da0ff460f57003f30ab4848067ff8a9f78dd89913e6160f0f00a945"), looks := false }, kinds := [], alts := [], laidByText := true, laidKinds := [.data, .pinned], laidTests := true, laidLooks := .later }
def StmtBackCardSaid : Prop := Claim7.holds Tryd.pinned (.plain (OpenSpec.ofChange stmtBackSpec)) stmtBackCard

/-- THE SECOND FORM's CARD OF 'smithylaw07.StmtFinds'. -/
def stmtFindsUptoCard : Claim7 := { stood := { row := stmtFindsUptoRow, standIns := [], harness := (true, "8253aef63da0ff460f57003f30ab4848067ff8a9f78dd89913e6160f0f00a945"), looks := false }, kinds := [], alts := [], laidByText := true, laidKinds := [.data, .pinned], laidTests := true, laidLooks := .later }
def StmtFindsUptoCardSaid : Prop := Claim7.holds Tryd.pinned (.plain (OpenSpec.upto stmtFindsSpec)) stmtFindsUptoCard

/-- THE SECOND FORM's CARD OF 'smithylaw07.StmtParses'. -/
def stmtParsesUptoCard : Claim7 := { stood := { row := stmtParsesUptoRow, standIns := [], harness := (true, "8253aef63da0ff460f57003f30ab4848067ff8a9f78dd89913e6160f0f00a945"), looks := false }, kinds := [], alts := [], laidByText := true, laidKinds := [.data, .pinned], laidTests := true, laidLooks := .later }
def StmtParsesUptoCardSaid : Prop := Claim7.holds Tryd.pinned (.plain (OpenSpec.upto stmtParsesSpec)) stmtParsesUptoCard

/-- THE SECOND FORM's CARD OF 'smithylaw07.StmtOutside'. -/
def stmtOutsideUptoCard : Claim7 := { stood := { row := stmtOutsideUptoRow, standIns := [], harness := (true, "8253aef63da0ff460f57003f30ab4848067ff8a9f78dd89913e6160f0f00a945"), looks := false }, kinds := [], alts := [], laidByText := true, laidKinds := [.data, .pinned], laidTests := true, laidLooks := .later }
def StmtOutsideUptoCardSaid : Prop := Claim7.holds Tryd.pinned (.plain (OpenSpec.upto stmtOutsideSpec)) stmtOutsideUptoCard

/-- THE SECOND FORM's CARD OF 'smithylaw07.StmtPrints'. -/
def stmtPrintsUptoCard : Claim7 := { stood := { row := stmtPrintsUptoRow, standIns := [], harness := (true, "8253aef63da0ff460f57003f30ab4848067ff8a9f78dd89913e6160f0f00a945"), looks := false }, kinds := [], alts := [], laidByText := true, laidKinds := [.data, .pinned], laidTests := true, laidLooks := .later }
def StmtPrintsUptoCardSaid : Prop := Claim7.holds Tryd.pinned (.plain (OpenSpec.upto stmtPrintsSpec)) stmtPrintsUptoCard

/-- THE SECOND FORM's CARD OF 'smithylaw07.StmtBack'. -/
def stmtBackUptoCard : Claim7 := { stood := { row := stmtBackUptoRow, standIns := [], harness := (true, "8253aef63da0ff460f57003f30ab4848067ff8a9f78dd89913e6160f0f00a945"), looks := false }, kinds := [], alts := [], laidByText := true, laidKinds := [.data, .pinned], laidTests := true, laidLooks := .later }
def StmtBackUptoCardSaid : Prop := Claim7.holds Tryd.pinned (.plain (OpenSpec.upto stmtBackSpec)) stmtBackUptoCard
end Rows
end Go.Proofs.YtjdielkpdnedeaaDoor
