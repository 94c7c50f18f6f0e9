/- What the reference's Has comes to: membership. -/
import Derived.Test.YtadfbbjplgbakaaGreatNames2X
import Derived.Test.YtadfbbjplgbakaaGreatPXx13
namespace Go.Proofs.YtadfbbjplgbakaaGreat.Plain
open Go.RowKit Go.Proofs.YtadfbbjplgbakaaGreatW.PrintWords Go.Proofs.YtadfbbjplgbakaaGreat.PX

theorem has_loop (l : List ByteArray) (x : ByteArray) (hl : l.length ≤ 4611686018427387904) : ∀ (d i : Nat), i + d = l.length →
    Ev (fun k => smithyref03_Has.l0 k x l (l.length : Int) (i : Int)) (memB x (l.drop i))
  | 0, i, hi => by
    obtain rfl : i = l.length := by omega
    exact Ev.step (fun _ => rfl) (ev_neg (by omega) (ev_some (memB_of (by simp))))
  | d + 1, i, hi => by
    have hlt : i < l.length := by omega
    have ih := has_loop l x hl d (i + 1) (by omega)
    rw [drop_cons hlt]
    refine Ev.step (fun _ => rfl) (ev_pos (by omega) (ev_pos (by omega) (ev_pos (by omega) ?_)))
    by_cases hx : l[i] = x
    · refine ev_pos ?_ (ev_some ?_)
      · rw [rdOf_get hlt]; exact toList_inj.2 hx
      · exact memB_of ⟨fun _ => hx ▸ List.mem_cons_self, fun _ => rfl⟩
    · refine ev_neg ?_ ?_
      · rw [rdOf_get hlt]; exact fun h => hx (toList_inj.1 h)
      · rw [wrap_id (by omega) (by omega)]
        refine ev_eq ih (memB_of ?_)
        rw [memB_iff, List.mem_cons]
        exact ⟨.inr, fun h => h.resolve_left (fun e => hx e.symm)⟩
theorem has_ev (l : List ByteArray) (x : ByteArray) (hl : l.length ≤ 4611686018427387904) : Ev (fun k => smithyref03_Has.f k l x) (memB x l) := by
  have := has_loop l x hl l.length 0 (by omega)
  rw [List.drop_zero] at this
  exact this
end Go.Proofs.YtadfbbjplgbakaaGreat.Plain
