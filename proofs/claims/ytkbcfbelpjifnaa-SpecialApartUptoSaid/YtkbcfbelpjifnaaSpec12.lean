/- special.list. -/
import Derived.Test.YtkbcfbelpjifnaaSpec11
import Derived.Laws.EntriesVeiled
import Derived.Handy
namespace Go.Proofs.Ytkbcfbelpjifnaa.Spec
open Go Go.RowKit Go.Proofs Go.Proofs.YtkbcfbelpjifnaaW.PrintWords Go.Proofs.Ytkbcfbelpjifnaa.PX Go.Proofs.Ytkbcfbelpjifnaa.Plain
set_option linter.unusedVariables false
set_option linter.unusedSimpArgs false

/-- A row of the table: a closure over two boxes that hold functions. -/
theorem list_calls (f g : Nat) (w : World) : Calls Try.prog 36 #[.func (.func f) #[] #[], .func (.func g) #[] #[]] w fun e w' =>
    e = .returned (.agg #[.func (.func 52) #[] #[.pointer (some ⟨w.heap.size + 1, 0, none⟩), .pointer (some ⟨w.heap.size, 0, none⟩)]]) ∧
      w'.cell? ⟨w.heap.size, 0, none⟩ = some (.func (.func f) #[] #[]) ∧ w'.cell? ⟨w.heap.size + 1, 0, none⟩ = some (.func (.func g) #[] #[]) ∧ Below w.heap.size w w' := by
  go_enter Try.func36, Try.ntmps36
  go_wp2
  go_returns
  have b := fun (W : World) (o : Obj) => below_alloc (Below.refl W.heap.size W) o
  refine ⟨rfl, pw_cell_below (b _ _) (pw_cell_below (b _ _) (World.cell?_alloc_at (w := w) _ _ w.heap.size 0 rfl)), pw_cell_below (b _ _) ?_, ((below_alloc (Below.refl _ w) _).alloc (by simp) _).alloc (by simp; omega) _⟩
  exact World.cell?_alloc_at (w := w.alloc (.cells #[.func (.func f) #[] #[]] 73)) #[.func (.func g) #[] #[]] 74 (w.heap.size + 1) 0 (by simp)
end Go.Proofs.Ytkbcfbelpjifnaa.Spec
