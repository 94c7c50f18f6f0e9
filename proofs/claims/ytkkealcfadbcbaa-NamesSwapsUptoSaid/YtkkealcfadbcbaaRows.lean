/-
  No cell of these rows narrows 'for every input' (looked for: loops, veiled, ifaces, maps, wideKeys, modest, calm, conditions, laid).
  DERIVED. THE GIVEN ROWS OF THIS SEAT. 7 by the template 'for every input the law returns true; each argument reads behind the call as it read before'; 0 by the template 'total and deterministic' (their statements: YtkkealcfadbcbaaTotals.lean).
  GIVEN WITH THE SEED: the statements are not yours to turn. If you find one false, say at which input.
  Laid BY PROGRAM, IN A SANDBOX (cutbox-rows.mjs): the forced cells as the released guide's own fill.sh prints them over the translation 10b93b35e642ec7a… (all of the seat's roots in one cut). By AI agents, Wed Nov 11 2026. No macro, syntax, notation, axiom, sorry.
-/
import Derived.Test.YtkkealcfadbcbaaChecked
import GoSem.Claim
import GoSem.ClaimJoined
import GoSem.ClaimMapViews
import Derived.JoinedTies
import Derived.KernelRfl
namespace Go.Proofs.Ytkkealcfadbcbaa
/- THE CELL 'sum', in the pinned program and in every row, IS THE sha256 OF THE DUMP (.gsa) THAT YtkkealcfadbcbaaProg.lean LOADS. Nothing in Lean hashes anything: it is a label: what it is worth is what the hold of that sum in a sandbox is worth. -/
noncomputable def Try.pinned : Pinned := { name := "ytkkealcfadbcbaa", sum := "10b93b35e642ec7a5cc919925a616a692c34e7505c580f30348ddef2c79479b5", checked := Try.checked }
namespace Rows
def none {H : Type} : Left H := { results := [], args := [] }

/-- 'smithylaw03.NamesParts': WHATEVER THE INPUT: true; the input reads as it did. -/
def namesPartsSpec : ChangeSpec := { name := "namesParts", fn := fun _ => fun
  | [d] => { results := [.lit (.bool true)], args := [d] }
  | _ => none }
def namesPartsRow : OpenClaim := { program := "ytkkealcfadbcbaa", sum := "10b93b35e642ec7a5cc919925a616a692c34e7505c580f30348ddef2c79479b5", func := "smithy/smithylaw03.NamesParts", spec := "namesParts", inPlace := ["internal/bytealg.IndexByteString"], apart := false }
def NamesPartsSaid : Prop := namesPartsRow.holds Try.pinned (OpenSpec.ofChange namesPartsSpec)

/-- ITS FALSE NEIGHBOUR: 'it returns false'. Refute it at one input. -/
def namesPartsWrong : ChangeSpec := { name := "namesParts", fn := fun _ => fun
  | [d] => { results := [.lit (.bool false)], args := [d] }
  | _ => none }
def NamesPartsWrongFalsely : Prop := namesPartsRow.holds Try.pinned (OpenSpec.ofChange namesPartsWrong)

/-- 'smithylaw03.NamesOnce': WHATEVER THE INPUT: true; the input reads as it did. -/
def namesOnceSpec : ChangeSpec := { name := "namesOnce", fn := fun _ => fun
  | [d] => { results := [.lit (.bool true)], args := [d] }
  | _ => none }
def namesOnceRow : OpenClaim := { program := "ytkkealcfadbcbaa", sum := "10b93b35e642ec7a5cc919925a616a692c34e7505c580f30348ddef2c79479b5", func := "smithy/smithylaw03.NamesOnce", spec := "namesOnce", inPlace := ["internal/bytealg.IndexByteString"], apart := false }
def NamesOnceSaid : Prop := namesOnceRow.holds Try.pinned (OpenSpec.ofChange namesOnceSpec)

/-- ITS FALSE NEIGHBOUR: 'it returns false'. Refute it at one input. -/
def namesOnceWrong : ChangeSpec := { name := "namesOnce", fn := fun _ => fun
  | [d] => { results := [.lit (.bool false)], args := [d] }
  | _ => none }
def NamesOnceWrongFalsely : Prop := namesOnceRow.holds Try.pinned (OpenSpec.ofChange namesOnceWrong)

/-- 'smithylaw03.NamesChecks': WHATEVER THE INPUT: true; the input reads as it did. -/
def namesChecksSpec : ChangeSpec := { name := "namesChecks", fn := fun _ => fun
  | [d] => { results := [.lit (.bool true)], args := [d] }
  | _ => none }
def namesChecksRow : OpenClaim := { program := "ytkkealcfadbcbaa", sum := "10b93b35e642ec7a5cc919925a616a692c34e7505c580f30348ddef2c79479b5", func := "smithy/smithylaw03.NamesChecks", spec := "namesChecks", inPlace := ["internal/bytealg.IndexByteString", "internal/bytealg.IndexString"], named := ["internal/bytealg.MaxLen"], apart := false }
def NamesChecksSaid : Prop := namesChecksRow.holds Try.pinned (OpenSpec.ofChange namesChecksSpec)

/-- ITS FALSE NEIGHBOUR: 'it returns false'. Refute it at one input. -/
def namesChecksWrong : ChangeSpec := { name := "namesChecks", fn := fun _ => fun
  | [d] => { results := [.lit (.bool false)], args := [d] }
  | _ => none }
def NamesChecksWrongFalsely : Prop := namesChecksRow.holds Try.pinned (OpenSpec.ofChange namesChecksWrong)

/-- 'smithylaw03.NamesBack': WHATEVER THE INPUT: true; the input reads as it did. -/
def namesBackSpec : ChangeSpec := { name := "namesBack", fn := fun _ => fun
  | [d1, d2] => { results := [.lit (.bool true)], args := [d1, d2] }
  | _ => none }
def namesBackRow : OpenClaim := { program := "ytkkealcfadbcbaa", sum := "10b93b35e642ec7a5cc919925a616a692c34e7505c580f30348ddef2c79479b5", func := "smithy/smithylaw03.NamesBack", spec := "namesBack", inPlace := ["internal/abi.NoEscape", "internal/bytealg.MakeNoZero", "internal/bytealg.IndexByteString"], unfollowed := true, recurses := true, apart := false }
def NamesBackSaid : Prop := namesBackRow.holds Try.pinned (OpenSpec.ofChange namesBackSpec)

/-- ITS FALSE NEIGHBOUR: 'it returns false'. Refute it at one input. -/
def namesBackWrong : ChangeSpec := { name := "namesBack", fn := fun _ => fun
  | [d1, d2] => { results := [.lit (.bool false)], args := [d1, d2] }
  | _ => none }
def NamesBackWrongFalsely : Prop := namesBackRow.holds Try.pinned (OpenSpec.ofChange namesBackWrong)

/-- 'smithylaw03.NamesEnds': WHATEVER THE INPUT: true; the input reads as it did. -/
def namesEndsSpec : ChangeSpec := { name := "namesEnds", fn := fun _ => fun
  | [d1, d2, d3] => { results := [.lit (.bool true)], args := [d1, d2, d3] }
  | _ => none }
def namesEndsRow : OpenClaim := { program := "ytkkealcfadbcbaa", sum := "10b93b35e642ec7a5cc919925a616a692c34e7505c580f30348ddef2c79479b5", func := "smithy/smithylaw03.NamesEnds", spec := "namesEnds", inPlace := ["internal/abi.NoEscape", "internal/bytealg.MakeNoZero", "internal/bytealg.IndexByteString"], unfollowed := true, recurses := true, apart := false }
def NamesEndsSaid : Prop := namesEndsRow.holds Try.pinned (OpenSpec.ofChange namesEndsSpec)

/-- ITS FALSE NEIGHBOUR: 'it returns false'. Refute it at one input. -/
def namesEndsWrong : ChangeSpec := { name := "namesEnds", fn := fun _ => fun
  | [d1, d2, d3] => { results := [.lit (.bool false)], args := [d1, d2, d3] }
  | _ => none }
def NamesEndsWrongFalsely : Prop := namesEndsRow.holds Try.pinned (OpenSpec.ofChange namesEndsWrong)

/-- 'smithylaw03.NamesSwaps': WHATEVER THE INPUT: true; the input reads as it did. -/
def namesSwapsSpec : ChangeSpec := { name := "namesSwaps", fn := fun _ => fun
  | [d1, d2, d3] => { results := [.lit (.bool true)], args := [d1, d2, d3] }
  | _ => none }
def namesSwapsRow : OpenClaim := { program := "ytkkealcfadbcbaa", sum := "10b93b35e642ec7a5cc919925a616a692c34e7505c580f30348ddef2c79479b5", func := "smithy/smithylaw03.NamesSwaps", spec := "namesSwaps", inPlace := ["internal/bytealg.IndexByteString", "internal/abi.NoEscape", "internal/bytealg.MakeNoZero"], unfollowed := true, recurses := true, apart := false }
def NamesSwapsSaid : Prop := namesSwapsRow.holds Try.pinned (OpenSpec.ofChange namesSwapsSpec)

/-- ITS FALSE NEIGHBOUR: 'it returns false'. Refute it at one input. -/
def namesSwapsWrong : ChangeSpec := { name := "namesSwaps", fn := fun _ => fun
  | [d1, d2, d3] => { results := [.lit (.bool false)], args := [d1, d2, d3] }
  | _ => none }
def NamesSwapsWrongFalsely : Prop := namesSwapsRow.holds Try.pinned (OpenSpec.ofChange namesSwapsWrong)

/-- 'smithylaw03.NamesWords': WHATEVER THE INPUT: true; the input reads as it did. -/
def namesWordsSpec : ChangeSpec := { name := "namesWords", fn := fun _ => fun
  | [d1, d2] => { results := [.lit (.bool true)], args := [d1, d2] }
  | _ => none }
def namesWordsRow : OpenClaim := { program := "ytkkealcfadbcbaa", sum := "10b93b35e642ec7a5cc919925a616a692c34e7505c580f30348ddef2c79479b5", func := "smithy/smithylaw03.NamesWords", spec := "namesWords", inPlace := ["internal/abi.NoEscape", "internal/bytealg.MakeNoZero", "internal/bytealg.IndexByteString"], unfollowed := true, recurses := true, apart := false }
def NamesWordsSaid : Prop := namesWordsRow.holds Try.pinned (OpenSpec.ofChange namesWordsSpec)

/-- ITS FALSE NEIGHBOUR: 'it returns false'. Refute it at one input. -/
def namesWordsWrong : ChangeSpec := { name := "namesWords", fn := fun _ => fun
  | [d1, d2] => { results := [.lit (.bool false)], args := [d1, d2] }
  | _ => none }
def NamesWordsWrongFalsely : Prop := namesWordsRow.holds Try.pinned (OpenSpec.ofChange namesWordsWrong)

/- THE SECOND FORM. 'bulk': how many values and letters a reading holds, each counted each time it is reached (what is shared counts as often as it is met; a slice's spare places count too). A statement '..UptoSaid' is the law's where the arguments, and the package variables that the reading takes, are together of bulk at most 1048576: NARROWER than '..Said'. Prove '..Said' where nothing that the law and all that it calls make is longer than what came in: it says more and counts as full. Else prove '..UptoSaid'. A law counts once. -/
mutual
def uptoBulk {H : Type} : DataW H → Nat
  | .lit (.string bytes) => bytes.length + 1
  | .lit _ => 1
  | .nil => 1
  | .ptr d => uptoBulk d + 1
  | .slice elems spare => uptoBulkAll elems + uptoBulkAll spare + 1
  | .agg parts => uptoBulkAll parts + 1
  | .iface _ d => uptoBulk d + 1
  | .map entries => uptoBulkEntries entries + 1
  | .held _ => 1
def uptoBulkAll {H : Type} : List (DataW H) → Nat
  | [] => 0
  | d :: r => uptoBulk d + uptoBulkAll r
def uptoBulkEntries {H : Type} : List (Lit × DataW H) → Nat
  | [] => 0
  | x :: r => uptoBulkEntry x + uptoBulkEntries r
def uptoBulkEntry {H : Type} : Lit × DataW H → Nat
  | (.string bytes, d) => bytes.length + uptoBulk d + 1
  | (_, d) => uptoBulk d + 1
 end
def uptoSmall : (H : Type) → List (DataW H) → Bool := fun _ ds => decide (uptoBulkAll ds ≤ 1048576)
def OpenSpec.upto (s : _root_.Go.ChangeSpec) : _root_.Go.OpenSpec := { _root_.Go.OpenSpec.ofChange s with cond := some uptoSmall }

/-- 'smithylaw03.NamesParts', WHERE WHAT IT READS IS OF BULK AT MOST 1048576: true; the input reads as it did. -/
def namesPartsUptoRow : OpenClaim := { program := "ytkkealcfadbcbaa", sum := "10b93b35e642ec7a5cc919925a616a692c34e7505c580f30348ddef2c79479b5", func := "smithy/smithylaw03.NamesParts", spec := "namesParts", inPlace := ["internal/bytealg.IndexByteString"], apart := false, narrowed := true }
def NamesPartsUptoSaid : Prop := namesPartsUptoRow.holds Try.pinned (OpenSpec.upto namesPartsSpec)

/-- 'smithylaw03.NamesOnce', WHERE WHAT IT READS IS OF BULK AT MOST 1048576: true; the input reads as it did. -/
def namesOnceUptoRow : OpenClaim := { program := "ytkkealcfadbcbaa", sum := "10b93b35e642ec7a5cc919925a616a692c34e7505c580f30348ddef2c79479b5", func := "smithy/smithylaw03.NamesOnce", spec := "namesOnce", inPlace := ["internal/bytealg.IndexByteString"], apart := false, narrowed := true }
def NamesOnceUptoSaid : Prop := namesOnceUptoRow.holds Try.pinned (OpenSpec.upto namesOnceSpec)

/-- 'smithylaw03.NamesChecks', WHERE WHAT IT READS IS OF BULK AT MOST 1048576: true; the input reads as it did. -/
def namesChecksUptoRow : OpenClaim := { program := "ytkkealcfadbcbaa", sum := "10b93b35e642ec7a5cc919925a616a692c34e7505c580f30348ddef2c79479b5", func := "smithy/smithylaw03.NamesChecks", spec := "namesChecks", inPlace := ["internal/bytealg.IndexByteString", "internal/bytealg.IndexString"], named := ["internal/bytealg.MaxLen"], apart := false, narrowed := true }
def NamesChecksUptoSaid : Prop := namesChecksUptoRow.holds Try.pinned (OpenSpec.upto namesChecksSpec)

/-- 'smithylaw03.NamesBack', WHERE WHAT IT READS IS OF BULK AT MOST 1048576: true; the input reads as it did. -/
def namesBackUptoRow : OpenClaim := { program := "ytkkealcfadbcbaa", sum := "10b93b35e642ec7a5cc919925a616a692c34e7505c580f30348ddef2c79479b5", func := "smithy/smithylaw03.NamesBack", spec := "namesBack", inPlace := ["internal/abi.NoEscape", "internal/bytealg.MakeNoZero", "internal/bytealg.IndexByteString"], unfollowed := true, recurses := true, apart := false, narrowed := true }
def NamesBackUptoSaid : Prop := namesBackUptoRow.holds Try.pinned (OpenSpec.upto namesBackSpec)

/-- 'smithylaw03.NamesEnds', WHERE WHAT IT READS IS OF BULK AT MOST 1048576: true; the input reads as it did. -/
def namesEndsUptoRow : OpenClaim := { program := "ytkkealcfadbcbaa", sum := "10b93b35e642ec7a5cc919925a616a692c34e7505c580f30348ddef2c79479b5", func := "smithy/smithylaw03.NamesEnds", spec := "namesEnds", inPlace := ["internal/abi.NoEscape", "internal/bytealg.MakeNoZero", "internal/bytealg.IndexByteString"], unfollowed := true, recurses := true, apart := false, narrowed := true }
def NamesEndsUptoSaid : Prop := namesEndsUptoRow.holds Try.pinned (OpenSpec.upto namesEndsSpec)

/-- 'smithylaw03.NamesSwaps', WHERE WHAT IT READS IS OF BULK AT MOST 1048576: true; the input reads as it did. -/
def namesSwapsUptoRow : OpenClaim := { program := "ytkkealcfadbcbaa", sum := "10b93b35e642ec7a5cc919925a616a692c34e7505c580f30348ddef2c79479b5", func := "smithy/smithylaw03.NamesSwaps", spec := "namesSwaps", inPlace := ["internal/bytealg.IndexByteString", "internal/abi.NoEscape", "internal/bytealg.MakeNoZero"], unfollowed := true, recurses := true, apart := false, narrowed := true }
def NamesSwapsUptoSaid : Prop := namesSwapsUptoRow.holds Try.pinned (OpenSpec.upto namesSwapsSpec)

/-- 'smithylaw03.NamesWords', WHERE WHAT IT READS IS OF BULK AT MOST 1048576: true; the input reads as it did. -/
def namesWordsUptoRow : OpenClaim := { program := "ytkkealcfadbcbaa", sum := "10b93b35e642ec7a5cc919925a616a692c34e7505c580f30348ddef2c79479b5", func := "smithy/smithylaw03.NamesWords", spec := "namesWords", inPlace := ["internal/abi.NoEscape", "internal/bytealg.MakeNoZero", "internal/bytealg.IndexByteString"], unfollowed := true, recurses := true, apart := false, narrowed := true }
def NamesWordsUptoSaid : Prop := namesWordsUptoRow.holds Try.pinned (OpenSpec.upto namesWordsSpec)

end Rows
end Go.Proofs.Ytkkealcfadbcbaa
