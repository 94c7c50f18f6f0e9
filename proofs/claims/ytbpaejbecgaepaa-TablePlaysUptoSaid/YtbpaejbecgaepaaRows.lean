/-
  No cell of these rows narrows 'for every input' (looked for: loops, veiled, ifaces, maps, wideKeys, modest, calm, conditions, laid).
  DERIVED. THE GIVEN ROWS OF THIS SEAT. 7 by the template 'for every input the law returns true; each argument reads behind the call as it read before'; 0 by the template 'total and deterministic' (their statements: YtbpaejbecgaepaaTotals.lean).
  GIVEN WITH THE SEED: the statements are not yours to turn. If you find one false, say at which input.
  Laid BY PROGRAM, IN A SANDBOX (cutbox-rows.mjs): the forced cells as the released guide's own fill.sh prints them over the translation 483793de13f4f5aa… (all of the seat's roots in one cut). By AI agents, Wed Nov 11 2026. No macro, syntax, notation, axiom, sorry.
-/
import Derived.Test.YtbpaejbecgaepaaChecked
import GoSem.Claim
import GoSem.ClaimJoined
import GoSem.ClaimMapViews
import Derived.JoinedTies
import Derived.KernelRfl
namespace Go.Proofs.Ytbpaejbecgaepaa
/- THE CELL 'sum', in the pinned program and in every row, IS THE sha256 OF THE DUMP (.gsa) THAT YtbpaejbecgaepaaProg.lean LOADS. Nothing in Lean hashes anything: it is a label: what it is worth is what the hold of that sum in a sandbox is worth. -/
noncomputable def Try.pinned : Pinned := { name := "ytbpaejbecgaepaa", sum := "483793de13f4f5aaf3e9763adf18c06862f660594c11591cee88dfbb3fcbdea6", checked := Try.checked }
namespace Rows
def none {H : Type} : Left H := { results := [], args := [] }

/-- 'smithylaw01.TableOver': WHATEVER THE INPUT: true; the input reads as it did. -/
def tableOverSpec : ChangeSpec := { name := "tableOver", fn := fun _ => fun
  | [d1, d2] => { results := [.lit (.bool true)], args := [d1, d2] }
  | _ => none }
def tableOverRow : OpenClaim := { program := "ytbpaejbecgaepaa", sum := "483793de13f4f5aaf3e9763adf18c06862f660594c11591cee88dfbb3fcbdea6", func := "smithy/smithylaw01.TableOver", spec := "tableOver", inPlace := ["slices.overlaps[smithy/table.row[int, string]]", "slices.overlaps[smithy/table.row[string, int]]"], unfollowed := true, recurses := true, apart := false }
def TableOverSaid : Prop := tableOverRow.holds Try.pinned (OpenSpec.ofChange tableOverSpec)

/-- ITS FALSE NEIGHBOUR: 'it returns false'. Refute it at one input. -/
def tableOverWrong : ChangeSpec := { name := "tableOver", fn := fun _ => fun
  | [d1, d2] => { results := [.lit (.bool false)], args := [d1, d2] }
  | _ => none }
def TableOverWrongFalsely : Prop := tableOverRow.holds Try.pinned (OpenSpec.ofChange tableOverWrong)

/-- 'smithylaw01.TableFrom': WHATEVER THE INPUT: true; the input reads as it did. -/
def tableFromSpec : ChangeSpec := { name := "tableFrom", fn := fun _ => fun
  | [d1, d2] => { results := [.lit (.bool true)], args := [d1, d2] }
  | _ => none }
def tableFromRow : OpenClaim := { program := "ytbpaejbecgaepaa", sum := "483793de13f4f5aaf3e9763adf18c06862f660594c11591cee88dfbb3fcbdea6", func := "smithy/smithylaw01.TableFrom", spec := "tableFrom", inPlace := ["slices.overlaps[smithy/table.row[int, string]]", "slices.overlaps[smithy/table.row[string, int]]"], unfollowed := true, recurses := true, apart := false }
def TableFromSaid : Prop := tableFromRow.holds Try.pinned (OpenSpec.ofChange tableFromSpec)

/-- ITS FALSE NEIGHBOUR: 'it returns false'. Refute it at one input. -/
def tableFromWrong : ChangeSpec := { name := "tableFrom", fn := fun _ => fun
  | [d1, d2] => { results := [.lit (.bool false)], args := [d1, d2] }
  | _ => none }
def TableFromWrongFalsely : Prop := tableFromRow.holds Try.pinned (OpenSpec.ofChange tableFromWrong)

/-- 'smithylaw01.TableOrder': WHATEVER THE INPUT: true; the input reads as it did. -/
def tableOrderSpec : ChangeSpec := { name := "tableOrder", fn := fun _ => fun
  | [d] => { results := [.lit (.bool true)], args := [d] }
  | _ => none }
def tableOrderRow : OpenClaim := { program := "ytbpaejbecgaepaa", sum := "483793de13f4f5aaf3e9763adf18c06862f660594c11591cee88dfbb3fcbdea6", func := "smithy/smithylaw01.TableOrder", spec := "tableOrder", inPlace := ["slices.overlaps[smithy/table.row[string, int]]", "slices.overlaps[smithy/table.row[int, int]]"], unfollowed := true, recurses := true, apart := false }
def TableOrderSaid : Prop := tableOrderRow.holds Try.pinned (OpenSpec.ofChange tableOrderSpec)

/-- ITS FALSE NEIGHBOUR: 'it returns false'. Refute it at one input. -/
def tableOrderWrong : ChangeSpec := { name := "tableOrder", fn := fun _ => fun
  | [d] => { results := [.lit (.bool false)], args := [d] }
  | _ => none }
def TableOrderWrongFalsely : Prop := tableOrderRow.holds Try.pinned (OpenSpec.ofChange tableOrderWrong)

/-- 'smithylaw01.TableKept': WHATEVER THE INPUT: true; the input reads as it did. -/
def tableKeptSpec : ChangeSpec := { name := "tableKept", fn := fun _ => fun
  | [d] => { results := [.lit (.bool true)], args := [d] }
  | _ => none }
def tableKeptRow : OpenClaim := { program := "ytbpaejbecgaepaa", sum := "483793de13f4f5aaf3e9763adf18c06862f660594c11591cee88dfbb3fcbdea6", func := "smithy/smithylaw01.TableKept", spec := "tableKept", inPlace := ["slices.overlaps[smithy/table.row[int, string]]", "slices.overlaps[smithy/table.row[string, int]]"], unfollowed := true, recurses := true, apart := false }
def TableKeptSaid : Prop := tableKeptRow.holds Try.pinned (OpenSpec.ofChange tableKeptSpec)

/-- ITS FALSE NEIGHBOUR: 'it returns false'. Refute it at one input. -/
def tableKeptWrong : ChangeSpec := { name := "tableKept", fn := fun _ => fun
  | [d] => { results := [.lit (.bool false)], args := [d] }
  | _ => none }
def TableKeptWrongFalsely : Prop := tableKeptRow.holds Try.pinned (OpenSpec.ofChange tableKeptWrong)

/-- 'smithylaw01.TablePlays': WHATEVER THE INPUT: true; the input reads as it did. -/
def tablePlaysSpec : ChangeSpec := { name := "tablePlays", fn := fun _ => fun
  | [d] => { results := [.lit (.bool true)], args := [d] }
  | _ => none }
def tablePlaysRow : OpenClaim := { program := "ytbpaejbecgaepaa", sum := "483793de13f4f5aaf3e9763adf18c06862f660594c11591cee88dfbb3fcbdea6", func := "smithy/smithylaw01.TablePlays", spec := "tablePlays", inPlace := ["slices.overlaps[smithy/table.row[int, string]]", "slices.overlaps[smithy/table.row[string, int]]"], unfollowed := true, recurses := true, apart := false }
def TablePlaysSaid : Prop := tablePlaysRow.holds Try.pinned (OpenSpec.ofChange tablePlaysSpec)

/-- ITS FALSE NEIGHBOUR: 'it returns false'. Refute it at one input. -/
def tablePlaysWrong : ChangeSpec := { name := "tablePlays", fn := fun _ => fun
  | [d] => { results := [.lit (.bool false)], args := [d] }
  | _ => none }
def TablePlaysWrongFalsely : Prop := tablePlaysRow.holds Try.pinned (OpenSpec.ofChange tablePlaysWrong)

/-- 'smithylaw01.TableMerges': WHATEVER THE INPUT: true; the input reads as it did. -/
def tableMergesSpec : ChangeSpec := { name := "tableMerges", fn := fun _ => fun
  | [d1, d2] => { results := [.lit (.bool true)], args := [d1, d2] }
  | _ => none }
def tableMergesRow : OpenClaim := { program := "ytbpaejbecgaepaa", sum := "483793de13f4f5aaf3e9763adf18c06862f660594c11591cee88dfbb3fcbdea6", func := "smithy/smithylaw01.TableMerges", spec := "tableMerges", inPlace := ["slices.overlaps[smithy/table.row[string, int]]", "slices.overlaps[smithy/table.row[int, string]]"], unfollowed := true, recurses := true, apart := false }
def TableMergesSaid : Prop := tableMergesRow.holds Try.pinned (OpenSpec.ofChange tableMergesSpec)

/-- ITS FALSE NEIGHBOUR: 'it returns false'. Refute it at one input. -/
def tableMergesWrong : ChangeSpec := { name := "tableMerges", fn := fun _ => fun
  | [d1, d2] => { results := [.lit (.bool false)], args := [d1, d2] }
  | _ => none }
def TableMergesWrongFalsely : Prop := tableMergesRow.holds Try.pinned (OpenSpec.ofChange tableMergesWrong)

/-- 'smithylaw01.TableNil': WHATEVER THE INPUT: true; the input reads as it did. -/
def tableNilSpec : ChangeSpec := { name := "tableNil", fn := fun _ => fun
  | [d] => { results := [.lit (.bool true)], args := [d] }
  | _ => none }
def tableNilRow : OpenClaim := { program := "ytbpaejbecgaepaa", sum := "483793de13f4f5aaf3e9763adf18c06862f660594c11591cee88dfbb3fcbdea6", func := "smithy/smithylaw01.TableNil", spec := "tableNil", inPlace := ["slices.overlaps[smithy/table.row[int, string]]"], unfollowed := true, recurses := true, apart := false }
def TableNilSaid : Prop := tableNilRow.holds Try.pinned (OpenSpec.ofChange tableNilSpec)

/-- ITS FALSE NEIGHBOUR: 'it returns false'. Refute it at one input. -/
def tableNilWrong : ChangeSpec := { name := "tableNil", fn := fun _ => fun
  | [d] => { results := [.lit (.bool false)], args := [d] }
  | _ => none }
def TableNilWrongFalsely : Prop := tableNilRow.holds Try.pinned (OpenSpec.ofChange tableNilWrong)

/- THE SECOND FORM. 'bulk': how many values and letters a reading holds, each counted each time it is reached (what is shared counts as often as it is met; a slice's spare places count too). A statement '..UptoSaid' is the law's where the arguments, and the package variables that the reading takes, are together of bulk at most 1048576: NARROWER than '..Said'. Prove '..Said' where nothing that the law and all that it calls make is longer than what came in: it says more and counts as full. Else prove '..UptoSaid'. A law counts once. -/
mutual
def uptoBulk {H : Type} : DataW H → Nat
  | .lit (.string bytes) => bytes.length + 1
  | .lit _ => 1
  | .nil => 1
  | .ptr d => uptoBulk d + 1
  | .slice elems spare => uptoBulkAll elems + uptoBulkAll spare + 1
  | .agg parts => uptoBulkAll parts + 1
  | .iface _ d => uptoBulk d + 1
  | .map entries => uptoBulkEntries entries + 1
  | .held _ => 1
def uptoBulkAll {H : Type} : List (DataW H) → Nat
  | [] => 0
  | d :: r => uptoBulk d + uptoBulkAll r
def uptoBulkEntries {H : Type} : List (Lit × DataW H) → Nat
  | [] => 0
  | x :: r => uptoBulkEntry x + uptoBulkEntries r
def uptoBulkEntry {H : Type} : Lit × DataW H → Nat
  | (.string bytes, d) => bytes.length + uptoBulk d + 1
  | (_, d) => uptoBulk d + 1
 end
def uptoSmall : (H : Type) → List (DataW H) → Bool := fun _ ds => decide (uptoBulkAll ds ≤ 1048576)
def OpenSpec.upto (s : _root_.Go.ChangeSpec) : _root_.Go.OpenSpec := { _root_.Go.OpenSpec.ofChange s with cond := some uptoSmall }

/-- 'smithylaw01.TableOver', WHERE WHAT IT READS IS OF BULK AT MOST 1048576: true; the input reads as it did. -/
def tableOverUptoRow : OpenClaim := { program := "ytbpaejbecgaepaa", sum := "483793de13f4f5aaf3e9763adf18c06862f660594c11591cee88dfbb3fcbdea6", func := "smithy/smithylaw01.TableOver", spec := "tableOver", inPlace := ["slices.overlaps[smithy/table.row[int, string]]", "slices.overlaps[smithy/table.row[string, int]]"], unfollowed := true, recurses := true, apart := false, narrowed := true }
def TableOverUptoSaid : Prop := tableOverUptoRow.holds Try.pinned (OpenSpec.upto tableOverSpec)

/-- 'smithylaw01.TableFrom', WHERE WHAT IT READS IS OF BULK AT MOST 1048576: true; the input reads as it did. -/
def tableFromUptoRow : OpenClaim := { program := "ytbpaejbecgaepaa", sum := "483793de13f4f5aaf3e9763adf18c06862f660594c11591cee88dfbb3fcbdea6", func := "smithy/smithylaw01.TableFrom", spec := "tableFrom", inPlace := ["slices.overlaps[smithy/table.row[int, string]]", "slices.overlaps[smithy/table.row[string, int]]"], unfollowed := true, recurses := true, apart := false, narrowed := true }
def TableFromUptoSaid : Prop := tableFromUptoRow.holds Try.pinned (OpenSpec.upto tableFromSpec)

/-- 'smithylaw01.TableOrder', WHERE WHAT IT READS IS OF BULK AT MOST 1048576: true; the input reads as it did. -/
def tableOrderUptoRow : OpenClaim := { program := "ytbpaejbecgaepaa", sum := "483793de13f4f5aaf3e9763adf18c06862f660594c11591cee88dfbb3fcbdea6", func := "smithy/smithylaw01.TableOrder", spec := "tableOrder", inPlace := ["slices.overlaps[smithy/table.row[string, int]]", "slices.overlaps[smithy/table.row[int, int]]"], unfollowed := true, recurses := true, apart := false, narrowed := true }
def TableOrderUptoSaid : Prop := tableOrderUptoRow.holds Try.pinned (OpenSpec.upto tableOrderSpec)

/-- 'smithylaw01.TableKept', WHERE WHAT IT READS IS OF BULK AT MOST 1048576: true; the input reads as it did. -/
def tableKeptUptoRow : OpenClaim := { program := "ytbpaejbecgaepaa", sum := "483793de13f4f5aaf3e9763adf18c06862f660594c11591cee88dfbb3fcbdea6", func := "smithy/smithylaw01.TableKept", spec := "tableKept", inPlace := ["slices.overlaps[smithy/table.row[int, string]]", "slices.overlaps[smithy/table.row[string, int]]"], unfollowed := true, recurses := true, apart := false, narrowed := true }
def TableKeptUptoSaid : Prop := tableKeptUptoRow.holds Try.pinned (OpenSpec.upto tableKeptSpec)

/-- 'smithylaw01.TablePlays', WHERE WHAT IT READS IS OF BULK AT MOST 1048576: true; the input reads as it did. -/
def tablePlaysUptoRow : OpenClaim := { program := "ytbpaejbecgaepaa", sum := "483793de13f4f5aaf3e9763adf18c06862f660594c11591cee88dfbb3fcbdea6", func := "smithy/smithylaw01.TablePlays", spec := "tablePlays", inPlace := ["slices.overlaps[smithy/table.row[int, string]]", "slices.overlaps[smithy/table.row[string, int]]"], unfollowed := true, recurses := true, apart := false, narrowed := true }
def TablePlaysUptoSaid : Prop := tablePlaysUptoRow.holds Try.pinned (OpenSpec.upto tablePlaysSpec)

/-- 'smithylaw01.TableMerges', WHERE WHAT IT READS IS OF BULK AT MOST 1048576: true; the input reads as it did. -/
def tableMergesUptoRow : OpenClaim := { program := "ytbpaejbecgaepaa", sum := "483793de13f4f5aaf3e9763adf18c06862f660594c11591cee88dfbb3fcbdea6", func := "smithy/smithylaw01.TableMerges", spec := "tableMerges", inPlace := ["slices.overlaps[smithy/table.row[string, int]]", "slices.overlaps[smithy/table.row[int, string]]"], unfollowed := true, recurses := true, apart := false, narrowed := true }
def TableMergesUptoSaid : Prop := tableMergesUptoRow.holds Try.pinned (OpenSpec.upto tableMergesSpec)

/-- 'smithylaw01.TableNil', WHERE WHAT IT READS IS OF BULK AT MOST 1048576: true; the input reads as it did. -/
def tableNilUptoRow : OpenClaim := { program := "ytbpaejbecgaepaa", sum := "483793de13f4f5aaf3e9763adf18c06862f660594c11591cee88dfbb3fcbdea6", func := "smithy/smithylaw01.TableNil", spec := "tableNil", inPlace := ["slices.overlaps[smithy/table.row[int, string]]"], unfollowed := true, recurses := true, apart := false, narrowed := true }
def TableNilUptoSaid : Prop := tableNilUptoRow.holds Try.pinned (OpenSpec.upto tableNilSpec)

end Rows
end Go.Proofs.Ytbpaejbecgaepaa
