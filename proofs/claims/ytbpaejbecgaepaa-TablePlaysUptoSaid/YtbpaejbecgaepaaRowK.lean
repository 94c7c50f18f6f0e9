/- What a row's slice of ints says. -/
import Derived.Test.YtbpaejbecgaepaaOpens
namespace Go.Proofs.Ytbpaejbecgaepaa.Hand
open Go Go.RowKit Go.Proofs Go.Proofs.YtbpaejbecgaepaaW.PrintWords Go.Proofs.Ytbpaejbecgaepaa.Opens

theorem ints_of {w : World} {A : Option Addr} {l : List Int} (h : (Kd.int .i64).C w A l.length l) : ∀ i x, l[i]? = some x → ∃ ad, A = some ad ∧ w.cell? (ad.add i) = some (.int .i64 x) := by
  intro i x hx
  have hi := (List.getElem?_eq_some_iff.1 hx).1
  obtain ⟨ad, e, hc⟩ := h.2.2 (by omega)
  obtain ⟨c, hs, hr, hcell⟩ := hc i x hx
  have hr' : c = [Value.int .i64 x] := hr
  subst hr'
  have := hcell 0 _ rfl
  refine ⟨ad, e, ?_⟩
  simpa [Kd.int, Kd.scalar] using this
theorem sum_ones (l : List Int) : (l.map (fun _ => 1)).sum = l.length := by induction l with
  | nil => rfl
  | cons x l ih => simp only [List.map_cons, List.sum_cons, List.length_cons, ih]; omega
end Go.Proofs.Ytbpaejbecgaepaa.Hand
