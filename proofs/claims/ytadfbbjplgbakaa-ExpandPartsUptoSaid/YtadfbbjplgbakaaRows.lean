/-
  No cell of these rows narrows 'for every input' (looked for: loops, veiled, ifaces, maps, wideKeys, modest, calm, conditions, laid).
  DERIVED. THE GIVEN ROWS OF THIS SEAT. 3 by the template 'for every input the law returns true; each argument reads behind the call as it read before'; 0 by the template 'total and deterministic' (their statements: YtadfbbjplgbakaaTotals.lean).
  GIVEN WITH THE SEED: the statements are not yours to turn. If you find one false, say at which input.
  Laid BY PROGRAM, IN A SANDBOX (cutbox-rows.mjs): the forced cells as the released guide's own fill.sh prints them over the translation f7c5f4854a709e63… (all of the seat's roots in one cut). By AI agents, Wed Nov 11 2026. No macro, syntax, notation, axiom, sorry.
-/
import Derived.Test.YtadfbbjplgbakaaChecked
import GoSem.Claim
import GoSem.ClaimJoined
import GoSem.ClaimMapViews
import Derived.JoinedTies
import Derived.KernelRfl
namespace Go.Proofs.Ytadfbbjplgbakaa
/- THE CELL 'sum', in the pinned program and in every row, IS THE sha256 OF THE DUMP (.gsa) THAT YtadfbbjplgbakaaProg.lean LOADS. Nothing in Lean hashes anything: it is a label: what it is worth is what the hold of that sum in a sandbox is worth. -/
noncomputable def Try.pinned : Pinned := { name := "ytadfbbjplgbakaa", sum := "f7c5f4854a709e6325f350c78b9c95482342f5019de48243431ce9c5f53e4576", checked := Try.checked }
namespace Rows
def none {H : Type} : Left H := { results := [], args := [] }

/-- 'smithylaw06.ExpandParts': WHATEVER THE INPUT: true; the input reads as it did. -/
def expandPartsSpec : ChangeSpec := { name := "expandParts", fn := fun _ => fun
  | [d1, d2, d3] => { results := [.lit (.bool true)], args := [d1, d2, d3] }
  | _ => none }
def expandPartsRow : OpenClaim := { program := "ytadfbbjplgbakaa", sum := "f7c5f4854a709e6325f350c78b9c95482342f5019de48243431ce9c5f53e4576", func := "smithy/smithylaw06.ExpandParts", spec := "expandParts", inPlace := ["internal/bytealg.abigen_runtime_cmpstring", "internal/bytealg.IndexByteString", "internal/bytealg.IndexString", "internal/abi.NoEscape", "internal/bytealg.MakeNoZero"], unfollowed := true, recurses := true, named := ["internal/bytealg.MaxLen"], apart := false }
def ExpandPartsSaid : Prop := expandPartsRow.holds Try.pinned (OpenSpec.ofChange expandPartsSpec)

/-- ITS FALSE NEIGHBOUR: 'it returns false'. Refute it at one input. -/
def expandPartsWrong : ChangeSpec := { name := "expandParts", fn := fun _ => fun
  | [d1, d2, d3] => { results := [.lit (.bool false)], args := [d1, d2, d3] }
  | _ => none }
def ExpandPartsWrongFalsely : Prop := expandPartsRow.holds Try.pinned (OpenSpec.ofChange expandPartsWrong)

/-- 'smithylaw06.ExpandReaches': WHATEVER THE INPUT: true; the input reads as it did. -/
def expandReachesSpec : ChangeSpec := { name := "expandReaches", fn := fun _ => fun
  | [d1, d2, d3] => { results := [.lit (.bool true)], args := [d1, d2, d3] }
  | _ => none }
def expandReachesRow : OpenClaim := { program := "ytadfbbjplgbakaa", sum := "f7c5f4854a709e6325f350c78b9c95482342f5019de48243431ce9c5f53e4576", func := "smithy/smithylaw06.ExpandReaches", spec := "expandReaches", inPlace := ["internal/bytealg.abigen_runtime_cmpstring", "internal/bytealg.IndexByteString", "internal/bytealg.IndexString", "internal/abi.NoEscape", "internal/bytealg.MakeNoZero"], unfollowed := true, recurses := true, named := ["internal/bytealg.MaxLen"], apart := false }
def ExpandReachesSaid : Prop := expandReachesRow.holds Try.pinned (OpenSpec.ofChange expandReachesSpec)

/-- ITS FALSE NEIGHBOUR: 'it returns false'. Refute it at one input. -/
def expandReachesWrong : ChangeSpec := { name := "expandReaches", fn := fun _ => fun
  | [d1, d2, d3] => { results := [.lit (.bool false)], args := [d1, d2, d3] }
  | _ => none }
def ExpandReachesWrongFalsely : Prop := expandReachesRow.holds Try.pinned (OpenSpec.ofChange expandReachesWrong)

/-- 'smithylaw06.ExpandLoops': WHATEVER THE INPUT: true; the input reads as it did. -/
def expandLoopsSpec : ChangeSpec := { name := "expandLoops", fn := fun _ => fun
  | [d1, d2] => { results := [.lit (.bool true)], args := [d1, d2] }
  | _ => none }
def expandLoopsRow : OpenClaim := { program := "ytadfbbjplgbakaa", sum := "f7c5f4854a709e6325f350c78b9c95482342f5019de48243431ce9c5f53e4576", func := "smithy/smithylaw06.ExpandLoops", spec := "expandLoops", inPlace := ["internal/bytealg.abigen_runtime_cmpstring", "internal/bytealg.IndexByteString", "internal/bytealg.IndexString", "internal/abi.NoEscape", "internal/bytealg.MakeNoZero"], unfollowed := true, recurses := true, named := ["internal/bytealg.MaxLen"], apart := false }
def ExpandLoopsSaid : Prop := expandLoopsRow.holds Try.pinned (OpenSpec.ofChange expandLoopsSpec)

/-- ITS FALSE NEIGHBOUR: 'it returns false'. Refute it at one input. -/
def expandLoopsWrong : ChangeSpec := { name := "expandLoops", fn := fun _ => fun
  | [d1, d2] => { results := [.lit (.bool false)], args := [d1, d2] }
  | _ => none }
def ExpandLoopsWrongFalsely : Prop := expandLoopsRow.holds Try.pinned (OpenSpec.ofChange expandLoopsWrong)

/- THE SECOND FORM. 'bulk': how many values and letters a reading holds, each counted each time it is reached (what is shared counts as often as it is met; a slice's spare places count too). A statement '..UptoSaid' is the law's where the arguments, and the package variables that the reading takes, are together of bulk at most 1048576: NARROWER than '..Said'. Prove '..Said' where nothing that the law and all that it calls make is longer than what came in: it says more and counts as full. Else prove '..UptoSaid'. A law counts once. -/
mutual
def uptoBulk {H : Type} : DataW H → Nat
  | .lit (.string bytes) => bytes.length + 1
  | .lit _ => 1
  | .nil => 1
  | .ptr d => uptoBulk d + 1
  | .slice elems spare => uptoBulkAll elems + uptoBulkAll spare + 1
  | .agg parts => uptoBulkAll parts + 1
  | .iface _ d => uptoBulk d + 1
  | .map entries => uptoBulkEntries entries + 1
  | .held _ => 1
def uptoBulkAll {H : Type} : List (DataW H) → Nat
  | [] => 0
  | d :: r => uptoBulk d + uptoBulkAll r
def uptoBulkEntries {H : Type} : List (Lit × DataW H) → Nat
  | [] => 0
  | x :: r => uptoBulkEntry x + uptoBulkEntries r
def uptoBulkEntry {H : Type} : Lit × DataW H → Nat
  | (.string bytes, d) => bytes.length + uptoBulk d + 1
  | (_, d) => uptoBulk d + 1
 end
def uptoSmall : (H : Type) → List (DataW H) → Bool := fun _ ds => decide (uptoBulkAll ds ≤ 1048576)
def OpenSpec.upto (s : _root_.Go.ChangeSpec) : _root_.Go.OpenSpec := { _root_.Go.OpenSpec.ofChange s with cond := some uptoSmall }

/-- 'smithylaw06.ExpandParts', WHERE WHAT IT READS IS OF BULK AT MOST 1048576: true; the input reads as it did. -/
def expandPartsUptoRow : OpenClaim := { program := "ytadfbbjplgbakaa", sum := "f7c5f4854a709e6325f350c78b9c95482342f5019de48243431ce9c5f53e4576", func := "smithy/smithylaw06.ExpandParts", spec := "expandParts", inPlace := ["internal/bytealg.abigen_runtime_cmpstring", "internal/bytealg.IndexByteString", "internal/bytealg.IndexString", "internal/abi.NoEscape", "internal/bytealg.MakeNoZero"], unfollowed := true, recurses := true, named := ["internal/bytealg.MaxLen"], apart := false, narrowed := true }
def ExpandPartsUptoSaid : Prop := expandPartsUptoRow.holds Try.pinned (OpenSpec.upto expandPartsSpec)

/-- 'smithylaw06.ExpandReaches', WHERE WHAT IT READS IS OF BULK AT MOST 1048576: true; the input reads as it did. -/
def expandReachesUptoRow : OpenClaim := { program := "ytadfbbjplgbakaa", sum := "f7c5f4854a709e6325f350c78b9c95482342f5019de48243431ce9c5f53e4576", func := "smithy/smithylaw06.ExpandReaches", spec := "expandReaches", inPlace := ["internal/bytealg.abigen_runtime_cmpstring", "internal/bytealg.IndexByteString", "internal/bytealg.IndexString", "internal/abi.NoEscape", "internal/bytealg.MakeNoZero"], unfollowed := true, recurses := true, named := ["internal/bytealg.MaxLen"], apart := false, narrowed := true }
def ExpandReachesUptoSaid : Prop := expandReachesUptoRow.holds Try.pinned (OpenSpec.upto expandReachesSpec)

/-- 'smithylaw06.ExpandLoops', WHERE WHAT IT READS IS OF BULK AT MOST 1048576: true; the input reads as it did. -/
def expandLoopsUptoRow : OpenClaim := { program := "ytadfbbjplgbakaa", sum := "f7c5f4854a709e6325f350c78b9c95482342f5019de48243431ce9c5f53e4576", func := "smithy/smithylaw06.ExpandLoops", spec := "expandLoops", inPlace := ["internal/bytealg.abigen_runtime_cmpstring", "internal/bytealg.IndexByteString", "internal/bytealg.IndexString", "internal/abi.NoEscape", "internal/bytealg.MakeNoZero"], unfollowed := true, recurses := true, named := ["internal/bytealg.MaxLen"], apart := false, narrowed := true }
def ExpandLoopsUptoSaid : Prop := expandLoopsUptoRow.holds Try.pinned (OpenSpec.upto expandLoopsSpec)

end Rows
end Go.Proofs.Ytadfbbjplgbakaa
