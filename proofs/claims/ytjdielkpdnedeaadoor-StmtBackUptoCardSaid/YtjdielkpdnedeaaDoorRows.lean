/-
  NARROWER THAN 'FOR EVERY INPUT', by the rows' own cells (each row's printed sentence says how): StmtFinds: laid · StmtParses: laid · StmtOutside: laid · StmtPrints: laid · StmtBack: laid.
  DERIVED. THE GIVEN ROWS OF THIS SEAT. 5 by the template 'for every input the law returns true; each argument reads behind the call as it read before'; 0 by the template 'total and deterministic' (their statements: YtjdielkpdnedeaaDoorTotals.lean).
  GIVEN WITH THE SEED: the statements are not yours to turn. If you find one false, say at which input.
  Laid BY PROGRAM, IN A SANDBOX (cutbox-rows.mjs): the forced cells as the released guide's own fill.sh prints them over the translation 0d4e704352eeb412… (all of the seat's roots in one cut). By AI agents, Wed Nov 11 2026. No macro, syntax, notation, axiom, sorry.
-/
import Derived.Test.YtjdielkpdnedeaaDoorChecked
import GoSem.PinnedTables
import GoSem.Claim
import GoSem.ClaimJoined
import GoSem.ClaimMapViews
import Derived.JoinedTies
import Derived.KernelRfl
namespace Go.Proofs.YtjdielkpdnedeaaDoor
/- THE CELL 'sum', in the pinned program and in every row, IS THE sha256 OF THE DUMP (.gsa) THAT YtjdielkpdnedeaaDoorProg.lean LOADS. Nothing in Lean hashes anything: it is a label: what it is worth is what the hold of that sum in a sandbox is worth. -/
noncomputable def Tryd.pinned : Pinned := { name := "ytjdielkpdnedeaadoor", sum := "0d4e704352eeb41217e866f3dcc7c7ab6d6d104e6129f27e2c6b1005e246a729", checked := Tryd.checked }
namespace Rows
def none {H : Type} : Left H := { results := [], args := [] }

/- WHAT THE LISTED PACKAGE-LEVEL VARIABLES READ AS WHEN THE CALL BEGINS. Each datum BY PROGRAM (the guide's laid-datum.mjs) off the statement by which the dump's own 'gosem.cut.vars' lays the variable. In a bare row this is a premise. The card (YtjdielkpdnedeaaDoorCards.lean) ties it to the program's text. -/
def laid_unicode_utf8_acceptRanges {H : Type} : DataW H := .agg [.agg [.lit (.int .u8 128), .lit (.int .u8 191)], .agg [.lit (.int .u8 160), .lit (.int .u8 191)], .agg [.lit (.int .u8 128), .lit (.int .u8 159)], .agg [.lit (.int .u8 144), .lit (.int .u8 191)], .agg [.lit (.int .u8 128), .lit (.int .u8 143)], .agg [.lit (.int .u8 0), .lit (.int .u8 0)], .agg [.lit (.int .u8 0), .lit (.int .u8 0)], .agg [.lit (.int .u8 0), .lit (.int .u8 0)], .agg [.lit (.int .u8 0), .lit (.int .u8 0)], .agg [.lit (.int .u8 0), .lit (.int .u8 0)], .agg [.lit (.int .u8 0), .lit (.int .u8 0)], .agg [.lit (.int .u8 0), .lit (.int .u8 0)], .agg [.lit (.int .u8 0), .lit (.int .u8 0)], .agg [.lit (.int .u8 0), .lit (.int .u8 0)], .agg [.lit (.int .u8 0), .lit (.int .u8 0)], .agg [.lit (.int .u8 0), .lit (.int .u8 0)]]
/-- One of Go's own tables, pinned by name: the form's constant. -/
def laid_unicode_utf8_first : DataW Unit := Go.Pinned.utf8First

/-- 'smithylaw07.StmtFinds': WHATEVER THE INPUT: true; the input reads as it did. -/
def stmtFindsSpec : ChangeSpec := { name := "stmtFinds", fn := fun _ => fun
  | [d1, d2] => { results := [.lit (.bool true)], args := [d1, d2] }
  | _ => none }
def stmtFindsRow : OpenClaim := { program := "ytjdielkpdnedeaadoor", sum := "0d4e704352eeb41217e866f3dcc7c7ab6d6d104e6129f27e2c6b1005e246a729", func := "smithy/smithylaw07.StmtFinds", spec := "stmtFinds", inPlace := ["internal/bytealg.IndexByteString", "internal/bytealg.IndexString"], unfollowed := true, recurses := true, named := ["unicode/utf8.first", "unicode/utf8.acceptRanges", "internal/bytealg.MaxLen"], apart := false, laid := [("unicode/utf8.acceptRanges", laid_unicode_utf8_acceptRanges), ("unicode/utf8.first", laid_unicode_utf8_first)] }
def StmtFindsSaid : Prop := stmtFindsRow.holds Tryd.pinned (OpenSpec.ofChange stmtFindsSpec)

/-- ITS FALSE NEIGHBOUR: 'it returns false'. Refute it at one input. -/
def stmtFindsWrong : ChangeSpec := { name := "stmtFinds", fn := fun _ => fun
  | [d1, d2] => { results := [.lit (.bool false)], args := [d1, d2] }
  | _ => none }
def StmtFindsWrongFalsely : Prop := stmtFindsRow.holds Tryd.pinned (OpenSpec.ofChange stmtFindsWrong)

/-- 'smithylaw07.StmtParses': WHATEVER THE INPUT: true; the input reads as it did. -/
def stmtParsesSpec : ChangeSpec := { name := "stmtParses", fn := fun _ => fun
  | [d] => { results := [.lit (.bool true)], args := [d] }
  | _ => none }
def stmtParsesRow : OpenClaim := { program := "ytjdielkpdnedeaadoor", sum := "0d4e704352eeb41217e866f3dcc7c7ab6d6d104e6129f27e2c6b1005e246a729", func := "smithy/smithylaw07.StmtParses", spec := "stmtParses", inPlace := ["internal/bytealg.IndexByteString", "internal/bytealg.IndexString"], unfollowed := true, recurses := true, named := ["unicode/utf8.first", "unicode/utf8.acceptRanges", "internal/bytealg.MaxLen"], apart := false, laid := [("unicode/utf8.acceptRanges", laid_unicode_utf8_acceptRanges), ("unicode/utf8.first", laid_unicode_utf8_first)] }
def StmtParsesSaid : Prop := stmtParsesRow.holds Tryd.pinned (OpenSpec.ofChange stmtParsesSpec)

/-- ITS FALSE NEIGHBOUR: 'it returns false'. Refute it at one input. -/
def stmtParsesWrong : ChangeSpec := { name := "stmtParses", fn := fun _ => fun
  | [d] => { results := [.lit (.bool false)], args := [d] }
  | _ => none }
def StmtParsesWrongFalsely : Prop := stmtParsesRow.holds Tryd.pinned (OpenSpec.ofChange stmtParsesWrong)

/-- 'smithylaw07.StmtOutside': WHATEVER THE INPUT: true; the input reads as it did. -/
def stmtOutsideSpec : ChangeSpec := { name := "stmtOutside", fn := fun _ => fun
  | [d1, d2, d3] => { results := [.lit (.bool true)], args := [d1, d2, d3] }
  | _ => none }
def stmtOutsideRow : OpenClaim := { program := "ytjdielkpdnedeaadoor", sum := "0d4e704352eeb41217e866f3dcc7c7ab6d6d104e6129f27e2c6b1005e246a729", func := "smithy/smithylaw07.StmtOutside", spec := "stmtOutside", inPlace := ["internal/bytealg.IndexByteString", "internal/bytealg.IndexString"], unfollowed := true, recurses := true, named := ["unicode/utf8.first", "unicode/utf8.acceptRanges", "internal/bytealg.MaxLen"], apart := false, laid := [("unicode/utf8.acceptRanges", laid_unicode_utf8_acceptRanges), ("unicode/utf8.first", laid_unicode_utf8_first)] }
def StmtOutsideSaid : Prop := stmtOutsideRow.holds Tryd.pinned (OpenSpec.ofChange stmtOutsideSpec)

/-- ITS FALSE NEIGHBOUR: 'it returns false'. Refute it at one input. -/
def stmtOutsideWrong : ChangeSpec := { name := "stmtOutside", fn := fun _ => fun
  | [d1, d2, d3] => { results := [.lit (.bool false)], args := [d1, d2, d3] }
  | _ => none }
def StmtOutsideWrongFalsely : Prop := stmtOutsideRow.holds Tryd.pinned (OpenSpec.ofChange stmtOutsideWrong)

/-- 'smithylaw07.StmtPrints': WHATEVER THE INPUT: true; the input reads as it did. -/
def stmtPrintsSpec : ChangeSpec := { name := "stmtPrints", fn := fun _ => fun
  | [d] => { results := [.lit (.bool true)], args := [d] }
  | _ => none }
def stmtPrintsRow : OpenClaim := { program := "ytjdielkpdnedeaadoor", sum := "0d4e704352eeb41217e866f3dcc7c7ab6d6d104e6129f27e2c6b1005e246a729", func := "smithy/smithylaw07.StmtPrints", spec := "stmtPrints", inPlace := ["internal/bytealg.IndexByteString", "internal/bytealg.IndexString"], unfollowed := true, recurses := true, named := ["unicode/utf8.first", "unicode/utf8.acceptRanges", "internal/bytealg.MaxLen"], apart := false, laid := [("unicode/utf8.acceptRanges", laid_unicode_utf8_acceptRanges), ("unicode/utf8.first", laid_unicode_utf8_first)] }
def StmtPrintsSaid : Prop := stmtPrintsRow.holds Tryd.pinned (OpenSpec.ofChange stmtPrintsSpec)

/-- ITS FALSE NEIGHBOUR: 'it returns false'. Refute it at one input. -/
def stmtPrintsWrong : ChangeSpec := { name := "stmtPrints", fn := fun _ => fun
  | [d] => { results := [.lit (.bool false)], args := [d] }
  | _ => none }
def StmtPrintsWrongFalsely : Prop := stmtPrintsRow.holds Tryd.pinned (OpenSpec.ofChange stmtPrintsWrong)

/-- 'smithylaw07.StmtBack': WHATEVER THE INPUT: true; the input reads as it did. -/
def stmtBackSpec : ChangeSpec := { name := "stmtBack", fn := fun _ => fun
  | [d1, d2] => { results := [.lit (.bool true)], args := [d1, d2] }
  | _ => none }
def stmtBackRow : OpenClaim := { program := "ytjdielkpdnedeaadoor", sum := "0d4e704352eeb41217e866f3dcc7c7ab6d6d104e6129f27e2c6b1005e246a729", func := "smithy/smithylaw07.StmtBack", spec := "stmtBack", inPlace := ["internal/bytealg.IndexByteString", "internal/bytealg.IndexString"], unfollowed := true, recurses := true, named := ["unicode/utf8.first", "unicode/utf8.acceptRanges", "internal/bytealg.MaxLen"], apart := false, laid := [("unicode/utf8.acceptRanges", laid_unicode_utf8_acceptRanges), ("unicode/utf8.first", laid_unicode_utf8_first)] }
def StmtBackSaid : Prop := stmtBackRow.holds Tryd.pinned (OpenSpec.ofChange stmtBackSpec)

/-- ITS FALSE NEIGHBOUR: 'it returns false'. Refute it at one input. -/
def stmtBackWrong : ChangeSpec := { name := "stmtBack", fn := fun _ => fun
  | [d1, d2] => { results := [.lit (.bool false)], args := [d1, d2] }
  | _ => none }
def StmtBackWrongFalsely : Prop := stmtBackRow.holds Tryd.pinned (OpenSpec.ofChange stmtBackWrong)

/- THE SECOND FORM. 'bulk': how many values and letters a reading holds, each counted each time it is reached (what is shared counts as often as it is met; a slice's spare places count too). A statement '..UptoSaid' is the law's where the arguments, and the package variables that the reading takes, are together of bulk at most 1048576: NARROWER than '..Said'. Prove '..Said' where nothing that the law and all that it calls make is longer than what came in: it says more and counts as full. Else prove '..UptoSaid'. A law counts once. -/
mutual
def uptoBulk {H : Type} : DataW H → Nat
  | .lit (.string bytes) => bytes.length + 1
  | .lit _ => 1
  | .nil => 1
  | .ptr d => uptoBulk d + 1
  | .slice elems spare => uptoBulkAll elems + uptoBulkAll spare + 1
  | .agg parts => uptoBulkAll parts + 1
  | .iface _ d => uptoBulk d + 1
  | .map entries => uptoBulkEntries entries + 1
  | .held _ => 1
def uptoBulkAll {H : Type} : List (DataW H) → Nat
  | [] => 0
  | d :: r => uptoBulk d + uptoBulkAll r
def uptoBulkEntries {H : Type} : List (Lit × DataW H) → Nat
  | [] => 0
  | x :: r => uptoBulkEntry x + uptoBulkEntries r
def uptoBulkEntry {H : Type} : Lit × DataW H → Nat
  | (.string bytes, d) => bytes.length + uptoBulk d + 1
  | (_, d) => uptoBulk d + 1
 end
def uptoSmall : (H : Type) → List (DataW H) → Bool := fun _ ds => decide (uptoBulkAll ds ≤ 1048576)
def OpenSpec.upto (s : _root_.Go.ChangeSpec) : _root_.Go.OpenSpec := { _root_.Go.OpenSpec.ofChange s with cond := some uptoSmall }

/-- 'smithylaw07.StmtFinds', WHERE WHAT IT READS IS OF BULK AT MOST 1048576: true; the input reads as it did. -/
def stmtFindsUptoRow : OpenClaim := { program := "ytjdielkpdnedeaadoor", sum := "0d4e704352eeb41217e866f3dcc7c7ab6d6d104e6129f27e2c6b1005e246a729", func := "smithy/smithylaw07.StmtFinds", spec := "stmtFinds", inPlace := ["internal/bytealg.IndexByteString", "internal/bytealg.IndexString"], unfollowed := true, recurses := true, named := ["unicode/utf8.first", "unicode/utf8.acceptRanges", "internal/bytealg.MaxLen"], apart := false, laid := [("unicode/utf8.acceptRanges", laid_unicode_utf8_acceptRanges), ("unicode/utf8.first", laid_unicode_utf8_first)], narrowed := true }
def StmtFindsUptoSaid : Prop := stmtFindsUptoRow.holds Tryd.pinned (OpenSpec.upto stmtFindsSpec)

/-- 'smithylaw07.StmtParses', WHERE WHAT IT READS IS OF BULK AT MOST 1048576: true; the input reads as it did. -/
def stmtParsesUptoRow : OpenClaim := { program := "ytjdielkpdnedeaadoor", sum := "0d4e704352eeb41217e866f3dcc7c7ab6d6d104e6129f27e2c6b1005e246a729", func := "smithy/smithylaw07.StmtParses", spec := "stmtParses", inPlace := ["internal/bytealg.IndexByteString", "internal/bytealg.IndexString"], unfollowed := true, recurses := true, named := ["unicode/utf8.first", "unicode/utf8.acceptRanges", "internal/bytealg.MaxLen"], apart := false, laid := [("unicode/utf8.acceptRanges", laid_unicode_utf8_acceptRanges), ("unicode/utf8.first", laid_unicode_utf8_first)], narrowed := true }
def StmtParsesUptoSaid : Prop := stmtParsesUptoRow.holds Tryd.pinned (OpenSpec.upto stmtParsesSpec)

/-- 'smithylaw07.StmtOutside', WHERE WHAT IT READS IS OF BULK AT MOST 1048576: true; the input reads as it did. -/
def stmtOutsideUptoRow : OpenClaim := { program := "ytjdielkpdnedeaadoor", sum := "0d4e704352eeb41217e866f3dcc7c7ab6d6d104e6129f27e2c6b1005e246a729", func := "smithy/smithylaw07.StmtOutside", spec := "stmtOutside", inPlace := ["internal/bytealg.IndexByteString", "internal/bytealg.IndexString"], unfollowed := true, recurses := true, named := ["unicode/utf8.first", "unicode/utf8.acceptRanges", "internal/bytealg.MaxLen"], apart := false, laid := [("unicode/utf8.acceptRanges", laid_unicode_utf8_acceptRanges), ("unicode/utf8.first", laid_unicode_utf8_first)], narrowed := true }
def StmtOutsideUptoSaid : Prop := stmtOutsideUptoRow.holds Tryd.pinned (OpenSpec.upto stmtOutsideSpec)

/-- 'smithylaw07.StmtPrints', WHERE WHAT IT READS IS OF BULK AT MOST 1048576: true; the input reads as it did. -/
def stmtPrintsUptoRow : OpenClaim := { program := "ytjdielkpdnedeaadoor", sum := "0d4e704352eeb41217e866f3dcc7c7ab6d6d104e6129f27e2c6b1005e246a729", func := "smithy/smithylaw07.StmtPrints", spec := "stmtPrints", inPlace := ["internal/bytealg.IndexByteString", "internal/bytealg.IndexString"], unfollowed := true, recurses := true, named := ["unicode/utf8.first", "unicode/utf8.acceptRanges", "internal/bytealg.MaxLen"], apart := false, laid := [("unicode/utf8.acceptRanges", laid_unicode_utf8_acceptRanges), ("unicode/utf8.first", laid_unicode_utf8_first)], narrowed := true }
def StmtPrintsUptoSaid : Prop := stmtPrintsUptoRow.holds Tryd.pinned (OpenSpec.upto stmtPrintsSpec)

/-- 'smithylaw07.StmtBack', WHERE WHAT IT READS IS OF BULK AT MOST 1048576: true; the input reads as it did. -/
def stmtBackUptoRow : OpenClaim := { program := "ytjdielkpdnedeaadoor", sum := "0d4e704352eeb41217e866f3dcc7c7ab6d6d104e6129f27e2c6b1005e246a729", func := "smithy/smithylaw07.StmtBack", spec := "stmtBack", inPlace := ["internal/bytealg.IndexByteString", "internal/bytealg.IndexString"], unfollowed := true, recurses := true, named := ["unicode/utf8.first", "unicode/utf8.acceptRanges", "internal/bytealg.MaxLen"], apart := false, laid := [("unicode/utf8.acceptRanges", laid_unicode_utf8_acceptRanges), ("unicode/utf8.first", laid_unicode_utf8_first)], narrowed := true }
def StmtBackUptoSaid : Prop := stmtBackUptoRow.holds Tryd.pinned (OpenSpec.upto stmtBackSpec)

end Rows
end Go.Proofs.YtjdielkpdnedeaaDoor
