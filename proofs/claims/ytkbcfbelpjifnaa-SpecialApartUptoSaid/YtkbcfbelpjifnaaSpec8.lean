/- special.suffixes: is a member no suffix? -/
import Derived.Test.YtkbcfbelpjifnaaSpec7
namespace Go.Proofs.Ytkbcfbelpjifnaa.Spec
open Go Go.RowKit Go.Proofs Go.Proofs.YtkbcfbelpjifnaaW.PrintWords Go.Proofs.Ytkbcfbelpjifnaa.PX Go.Proofs.Ytkbcfbelpjifnaa.Plain
set_option linter.unusedVariables false
set_option linter.unusedSimpArgs false

set_option maxHeartbeats 1000000 in
theorem suf_not (s : ByteArray) (hs : s.size ≤ 4611686018427387904) (w : World) : Calls Try.prog 51 #[.string s] w fun e w' => e = .returned (.bool (!isSuf s)) ∧ Below w.heap.size w w' := by
  have hc := suffix_calls s hs w
  generalize isSuf s = q at hc
  go_enter Try.func51, Try.ntmps51
  go_wp2_with fail
  refine hc.mono ?_
  rintro e w2 ⟨rfl, hb⟩
  go_wp2
  go_ret
  exact ⟨rfl, hb⟩
/-- Is a member no suffix? -/
theorem any_not_suf (A : Option Addr) (c : Nat) (l : List ByteArray) (w : World) (hr : Kd.string.C w A l.length l) (hfit : ∀ n ∈ l, n.size ≤ 4611686018427387904) :
    Calls Try.prog 22 #[.slice A l.length c, .func (.func 51) #[] #[]] w fun e w' => e = .returned (.bool (l.any fun s => !isSuf s)) ∧ Below w.heap.size w w' :=
  contains_func 51 (fun s => !isSuf s) A c l w hr (enters_of Try.func51 (by kernel_rfl) rfl) (fun x hx W _ => suf_not x (hfit x hx) W)
end Go.Proofs.Ytkbcfbelpjifnaa.Spec
