/- SpecialOnce: the walk, as its row asks for it. -/
import Derived.Test.YtkbcfbelpjifnaaSpec22
import Derived.Test.YtkbcfbelpjifnaaOpens
namespace Go.Proofs.Ytkbcfbelpjifnaa.Hand
open Go Go.RowKit Go.Proofs Go.Proofs.YtkbcfbelpjifnaaW.PrintWords Go.Proofs.Ytkbcfbelpjifnaa.PX Go.Proofs.Ytkbcfbelpjifnaa.Spec Go.Proofs.Ytkbcfbelpjifnaa.Opens

/-- How much a rule holds. -/
abbrev bkR (x : S30) : Nat := bkS x.f0 + (bkL bkS x.f1 + (bkL bkS x.f2 + 1)) + 1
theorem sum_le {α : Type} (f : α → Nat) : ∀ (l : List α) (x : α), x ∈ l → f x ≤ (l.map f).sum
  | [], x, h => by cases h
  | y :: l, x, h => by
    rw [List.map_cons, List.sum_cons]
    rcases List.mem_cons.1 h with rfl | h
    · omega
    · have := sum_le f l x h
      omega
theorem fits_of {l : List S30} (hB : bkL bkR l ≤ 1048576) : ∀ x ∈ l, Fits x := fun x hx => by
  have h1 := sum_le bkR l x hx
  unfold bkL at hB
  have h2 : bkR x ≤ 1048576 := by omega
  simp only [bkR, bkS, bkL] at h2
  refine ⟨by omega, fun n hn => ?_⟩
  have h3 := sum_le bkS x.f1 n hn
  have h4 : bkS n = n.size + 1 := rfl
  have h5 : (x.f1.map bkS).sum = (x.f1.map fun s => s.size + 1).sum := rfl
  omega
theorem SpecialOnce.row (A : Option Addr) (c : Nat) (l : List S30) (w : World) (hB : bkL bkR l ≤ 1048576) (hr : k30.C w A l.length l) (_hc : l.length ≤ c) :
    Calls Try.prog 3 #[.slice A l.length c] w fun e w' => e = .returned (.bool true) ∧ Below w.heap.size w w' :=
  once_calls A c l w hr (fits_of hB)
end Go.Proofs.Ytkbcfbelpjifnaa.Hand
