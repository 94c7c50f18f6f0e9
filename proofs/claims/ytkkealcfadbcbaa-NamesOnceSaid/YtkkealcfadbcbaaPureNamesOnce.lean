/- For every list of texts, Unique tells each of its members once and no other, and Unique of that is it again. -/
import Derived.Test.YtkkealcfadbcbaaNames1
import Derived.Test.YtkkealcfadbcbaaNames2
import Derived.Test.YtkkealcfadbcbaaPXx3
namespace Go.Proofs.Ytkkealcfadbcbaa.Pure
open Go.RowKit Go.Proofs.Ytkkealcfadbcbaa.PX Go.Proofs.YtkkealcfadbcbaaW.PrintWords Go.Proofs.Ytkkealcfadbcbaa.Plain

theorem not_before {l : List ByteArray} (h : l.Nodup) {i : Nat} (hi : i < l.length) : ¬ l[i] ∈ l.take i := by
  intro hm
  obtain ⟨j, hj, e⟩ := List.getElem_of_mem hm
  rw [List.getElem_take] at e
  have hj' : j < i := by rw [List.length_take] at hj; omega
  have := (List.nodup_iff_pairwise_ne.1 h)
  exact (List.pairwise_iff_getElem.1 this) j i (by omega) hi hj' e
theorem loop1 (l u : List ByteArray) (hl : l.length < 8796093022208) (hu : u.length < 8796093022208) (hall : ∀ x ∈ l, x ∈ u) (hn : u.Nodup) : ∀ (d i : Nat), i + d = l.length →
    Ev (fun k => smithylaw03_NamesOnce.l1 k u l (l.length : Int) (i : Int)) true
  | 0, i, hi => by
    obtain rfl : i = l.length := by omega
    refine Ev.step (fun _ => rfl) (ev_neg (by omega) (Ev.bind (unique_ev u hu) (Ev.bind (texts_ev _ u ?_) (ev_pos ?_ (Ev.bind small_ev (ev_some rfl))))))
    · have := uniq_len u []; simp at this; omega
    · rw [uniq_self u [] (by simpa using hn)]; simp
  | d + 1, i, hi => by
    have hlt : i < l.length := by omega
    refine Ev.step (fun _ => rfl) (ev_pos (by omega) (ev_pos (by omega) (ev_pos (by omega) (Ev.bind (has_ev u _ (by omega)) (ev_pos ?_ ?_)))))
    · rw [rdOf_get hlt]; exact memB_iff.2 (hall _ (List.getElem_mem hlt))
    · rw [wrap_id (by omega) (by omega)]
      exact loop1 l u hl hu hall hn d (i + 1) (by omega)
theorem loop0 (l u : List ByteArray) (hl : l.length < 8796093022208) (hu : u.length < 8796093022208) (hall : ∀ x ∈ l, x ∈ u) (hback : ∀ x ∈ u, x ∈ l) (hn : u.Nodup) : ∀ (d i : Nat), i + d = u.length →
    Ev (fun k => smithylaw03_NamesOnce.l0 k l u (u.length : Int) (i : Int)) true
  | 0, i, hi => by
    obtain rfl : i = u.length := by omega
    exact Ev.step (fun _ => rfl) (ev_neg (by omega) (loop1 l u hl hu hall hn l.length 0 (by omega)))
  | d + 1, i, hi => by
    have hlt : i < u.length := by omega
    refine Ev.step (fun _ => rfl) (ev_pos (by omega) (ev_pos (by omega) (ev_pos (by omega) (ev_pos (by omega) (Ev.bind (has_ev _ _ ?_) (ev_neg ?_ (Ev.bind (has_ev l _ (by omega)) (ev_pos ?_ ?_))))))))
    · rw [List.length_take]; omega
    · rw [rdOf_get hlt]; exact fun hm => not_before hn hlt (memB_iff.1 hm)
    · rw [rdOf_get hlt]; exact memB_iff.2 (hback _ (List.getElem_mem hlt))
    · rw [wrap_id (by omega) (by omega)]
      exact loop0 l u hl hu hall hback hn d (i + 1) (by omega)
theorem NamesOnce (l0 : List ByteArray) (h : l0.length * 16 ≤ 140737488351232) : ∃ k, smithylaw03_NamesOnce.f k l0 = some true := by
  refine Ev.rounds (r := true) (Ev.bind (unique_ev l0 (by omega)) ?_)
  have hlen := uniq_len l0 []
  simp at hlen
  exact loop0 l0 (uniq [] l0) (by omega) (by omega) (fun x hx => (uniq_mem x l0 []).2 (.inr hx)) (fun x hx => ((uniq_mem x l0 []).1 hx).resolve_left (by simp)) (uniq_nodup l0 [] (by simp)) (uniq [] l0).length 0 (by omega)
end Go.Proofs.Ytkkealcfadbcbaa.Pure
