/- There and back: what is printed is read as it was; what is read and can be printed is read as the same. -/
import Derived.Test.YtjdielkpdnedeaaDoorStmtPrintP
import Derived.Test.YtjdielkpdnedeaaDoorStmtSmall
import Derived.Test.YtjdielkpdnedeaaDoorPXx8
namespace Go.Proofs.YtjdielkpdnedeaaDoor.Pure
open Go.RowKit Go.Proofs.YtjdielkpdnedeaaDoor.PX Go.Proofs.YtjdielkpdnedeaaDoorW.PrintWords Go.Proofs.YtjdielkpdnedeaaDoor.Plain

theorem fits_weak {n m : Nat} {s : St} (h : Fits n s) (hn : n ≤ m) : Fits m s := by
  obtain ⟨h1, h2, h3, h4, h5⟩ := h
  exact ⟨by omega, by omega, by omega, by omega, by omega⟩
theorem well_parts {s : Sn} (h : s.2.2.2.2.2.2.2 = 0) : well (parts s) = s := by
  obtain ⟨s1, s2, s3, s4, s5, s6, s7, s8⟩ := s
  simp only at h
  subst h
  rfl
theorem backj (x : ByteArray) (w : x.size ≤ 140737488351232) : Ev (fun k => smithylaw07_StmtBack.j0 k x) true := by
  obtain ⟨s, hs, he, f1, _⟩ := parse_ex x (by omega)
  refine Ev.step (fun _ => rfl) (Ev.bind f1 ?_)
  by_cases h0 : s.2.2.2.2.2.2.2 = 0
  · refine ev_pos h0 ?_
    obtain ⟨p, p1, _, p3⟩ := print_ex (parts s) (fits_weak hs w)
    refine Ev.bind p1 ?_
    by_cases hp : p.2 = 0
    · have h := p3 hp
      rw [well_parts h0] at h
      exact ev_pos hp (Ev.bind h (ev_pos h0 (ev_pos (by simp) (Ev.bind small_ev (ev_some rfl)))))
    · exact ev_neg hp (Ev.bind small_ev (ev_some rfl))
  · refine ev_neg h0 ?_
    rcases he with h | ⟨e, _, rfl⟩
    · exact absurd h h0
    · have e0 : em.toList = [] := by rw [toList_L]; rfl
      exact ev_pos (by simp [bad, e0]) (Ev.bind small_ev (ev_some rfl))
theorem back (a : St) (hf : Fits 140737488351232 a) (x : ByteArray) (w : x.size ≤ 140737488351232) : ∃ k, smithylaw07_StmtBack.f k a.1 a.2.1 a.2.2.1 a.2.2.2.1 a.2.2.2.2.1 a.2.2.2.2.2.1 a.2.2.2.2.2.2 x = some true := by
  refine Ev.rounds (r := true) ?_
  obtain ⟨p, f1, _, f3⟩ := print_ex a hf
  refine Ev.bind f1 ?_
  by_cases hp : p.2 = 0
  · have hn : ¬ neq (well a) a = true := by rw [neq_well]; decide
    exact ev_pos hp (Ev.bind (f3 hp) (ev_pos rfl (ev_neg hn (backj x w))))
  · exact ev_neg hp (backj x w)
theorem StmtBack (a : St) (x : ByteArray) (hB : (1 + (a.2.1.size + 1) + (a.2.2.1.size + 1) + (a.2.2.2.1.size + 1) + (a.2.2.2.2.1.size + 1) + (a.2.2.2.2.2.1.size + 1) + 1 + 1) + (x.size + 1) ≤ 1048576) : ∃ k, smithylaw07_StmtBack.f k a.1 a.2.1 a.2.2.1 a.2.2.2.1 a.2.2.2.2.1 a.2.2.2.2.2.1 a.2.2.2.2.2.2 x = some true :=
  back a ⟨by omega, by omega, by omega, by omega, by omega⟩ x (by omega)
end Go.Proofs.YtjdielkpdnedeaaDoor.Pure
