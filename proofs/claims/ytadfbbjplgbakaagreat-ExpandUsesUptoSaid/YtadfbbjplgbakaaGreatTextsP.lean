/- What the statements' Texts comes to: equal lists of texts. -/
import Derived.Test.YtadfbbjplgbakaaGreatNames2X
import Derived.Test.YtadfbbjplgbakaaGreatPXx9
namespace Go.Proofs.YtadfbbjplgbakaaGreat.Plain
open Go.RowKit Go.Proofs.YtadfbbjplgbakaaGreatW.PrintWords Go.Proofs.YtadfbbjplgbakaaGreat.PX

theorem texts_loop (a b : List ByteArray) (hl : a.length = b.length) (hm : a.length ≤ 4611686018427387904) : ∀ (d i : Nat), i + d = a.length →
    Ev (fun k => smithyplain_Texts.l0 k a b (a.length : Int) (i : Int)) (decide (a.drop i = b.drop i))
  | 0, i, hi => by
    obtain rfl : i = a.length := by omega
    refine Ev.step (fun _ => rfl) (ev_neg (by omega) (ev_some ?_))
    rw [List.drop_length, hl, List.drop_length]; simp
  | d + 1, i, hi => by
    have hlt : i < a.length := by omega
    have hlt2 : i < b.length := by omega
    have ih := texts_loop a b hl hm d (i + 1) (by omega)
    rw [drop_cons hlt, drop_cons hlt2]
    refine Ev.step (fun _ => rfl) (ev_pos (by omega) (ev_pos (by omega) (ev_pos (by omega) (ev_pos (by omega) ?_))))
    by_cases hx : a[i] = b[i]
    · refine ev_pos ?_ ?_
      · rw [rdOf_get hlt, rdOf_get hlt2]; exact toList_inj.2 hx
      · rw [wrap_id (by omega) (by omega)]
        exact ev_eq ih (by rw [decide_eq_decide, List.cons.injEq]; simp only [hx, true_and])
    · refine ev_neg ?_ (ev_some ?_)
      · rw [rdOf_get hlt, rdOf_get hlt2]; exact fun h => hx (toList_inj.1 h)
      · refine (decide_eq_false ?_).symm
        rw [List.cons.injEq]
        exact fun h => hx h.1
theorem texts_ev (a b : List ByteArray) (hm : a.length ≤ 4611686018427387904) : Ev (fun k => smithyplain_Texts.f k a b) (decide (a = b)) := by
  by_cases hl : a.length = b.length
  · have := texts_loop a b hl hm a.length 0 (by omega)
    rw [List.drop_zero, List.drop_zero] at this
    exact ev_pos (by omega) this
  · exact ev_neg (by omega) (ev_some (by simp; intro e; exact hl (by rw [e])))

end Go.Proofs.YtadfbbjplgbakaaGreat.Plain
