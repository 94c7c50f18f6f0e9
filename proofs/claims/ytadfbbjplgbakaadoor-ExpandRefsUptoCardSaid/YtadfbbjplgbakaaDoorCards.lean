/-
  DERIVED. GIVEN WITH THE SEED: THE CARDS: each row of YtadfbbjplgbakaaDoorRows.lean that lists a variable, with what it lists TIED to the program's text (the seventh form; the later family's looks); each row that meets fmt, with fmt's text TOLD by the authors' own Lean function (tested against real Go, not proved from fmt's source: count such statements apart). THE CARD IS WHAT COUNTS. Prove the row's statement (the work); the ties are given (YtadfbbjplgbakaaDoorTie.lean); close each card by the builder's one call (the guide's Derived/Test/ToyasCard.lean, 'card_holds'). Laid BY PROGRAM, IN A SANDBOX (cutbox-door.mjs). By AI agents, Wed Nov 11 2026. No macro, syntax, notation, axiom, sorry.
-/
import Derived.Test.YtadfbbjplgbakaaDoorRows
import GoSem.ClaimSeven
namespace Go.Proofs.YtadfbbjplgbakaaDoor
namespace Rows

/-- THE TIED CARD OF 'smithylaw06.ExpandEscapes'. -/
def expandEscapesCard : Claim7 := { stood := { row := expandEscapesRow, standIns := [], harness := (true, "03e0524ac29f9e308ccf55f76e870103b2e7f065624dbacca4a6394c9350f0df"), looks := true }, kinds := [], alts := [], laidByText := true, laidKinds := [.data, .pinned], laidTests := true, laidLooks := .later }
def ExpandEscapesCardSaid : Prop := Claim7.holds Tryd.pinned (.plain (OpenSpec.ofChange expandEscapesSpec)) expandEscapesCard

/-- THE TIED CARD OF 'smithylaw06.ExpandRefs'. -/
def expandRefsCard : Claim7 := { stood := { row := expandRefsRow, standIns := [], harness := (true, "03e0524ac29f9e308ccf55f76e870103b2e7f065624dbacca4a6394c9350f0df"), looks := true }, kinds := [], alts := [], laidByText := true, laidKinds := [.data, .pinned], laidTests := true, laidLooks := .later }
def ExpandRefsCardSaid : Prop := Claim7.holds Tryd.pinned (.plain (OpenSpec.ofChange expandRefsSpec)) expandRefsCard

/-- THE SECOND FORM's CARD OF 'smithylaw06.ExpandEscapes'. -/
def expandEscapesUptoCard : Claim7 := { stood := { row := expandEscapesUptoRow, standIns := [], harness := (true, "03e0524ac29f9e308ccf55f76e870103b2e7f065624dbacca4a6394c9350f0df"), looks := true }, kinds := [], alts := [], laidByText := true, laidKinds := [.data, .pinned], laidTests := true, laidLooks := .later }
def ExpandEscapesUptoCardSaid : Prop := Claim7.holds Tryd.pinned (.plain (OpenSpec.upto expandEscapesSpec)) expandEscapesUptoCard

/-- THE SECOND FORM's CARD OF 'smithylaw06.ExpandRefs'. -/
def expandRefsUptoCard : Claim7 := { stood := { row := expandRefsUptoRow, standIns := [], harness := (true, "03e0524ac29f9e308ccf55f76e870103b2e7f065624dbacca4a6394c9350f0df"), looks := true }, kinds := [], alts := [], laidByText := true, laidKinds := [.data, .pinned], laidTests := true, laidLooks := .later }
def ExpandRefsUptoCardSaid : Prop := Claim7.holds Tryd.pinned (.plain (OpenSpec.upto expandRefsSpec)) expandRefsUptoCard
end Rows
end Go.Proofs.YtadfbbjplgbakaaDoor
