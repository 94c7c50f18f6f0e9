/- For all macros and every text: an escaped text stands for the text itself. -/
import Derived.Test.YtadfbbjplgbakaaDoorExpQ
import Derived.Test.YtadfbbjplgbakaaDoorOpens
import Derived.Test.YtadfbbjplgbakaaDoorPXx9
namespace Go.Proofs.YtadfbbjplgbakaaDoor.Pure
open Go.RowKit Go.Proofs.YtadfbbjplgbakaaDoor.PX Go.Proofs.YtadfbbjplgbakaaDoorW.PrintWords Go.Proofs.YtadfbbjplgbakaaDoor.Plain Go.Proofs.YtadfbbjplgbakaaDoor.Exp

theorem names_small : ∀ (l : List Mac) (n : Nat), Opens.bkL (fun x : Mac => (fun v => (fun x => Opens.bkS x.1 + (fun x => Opens.bkS x.1 + (fun _ => 1) x.2) x.2) v + 1) (x.f0, x.f1, x.f2)) l ≤ n → ∀ x ∈ l, x.f0.size ≤ n ∧ x.f1.size ≤ n
  | [], n, h, x, hx => by cases hx
  | y :: t, n, h, x, hx => by
    unfold Opens.bkL at h
    rw [List.map_cons, List.sum_cons] at h
    rcases List.mem_cons.1 hx with rfl | hx
    · simp only [Opens.bkS] at h
      omega
    · exact names_small t n (by unfold Opens.bkL; simp only [Opens.bkS] at h ⊢; omega) x hx
theorem ExpandEscapes (l0 : List Mac) (a1 : ByteArray) (hB : Opens.bkL (fun x : Mac => (fun v => (fun x => Opens.bkS x.1 + (fun x => Opens.bkS x.1 + (fun _ => 1) x.2) x.2) v + 1) (x.f0, x.f1, x.f2)) l0 + (a1.size + 1) ≤ 1048576) : ∃ k, smithylaw06_ExpandEscapes.f k l0 a1 = some true := by
  have hn := names_small l0 1048576 (by omega)
  have hc := check_ev l0 (fun x hx => by have := (hn x hx).1; omega)
  have hr := rcheck_ev l0 (fun x hx => by have := (hn x hx).1; omega)
  have hz := size_L a1
  have hle := escL_len (L a1)
  have hcl : (L a1).count 36 ≤ (L a1).length := List.count_le_length
  obtain ⟨s, hs⟩ : ∃ s, B (escL (L a1)) = s := ⟨_, rfl⟩
  have hsz : s.size = a1.size + (L a1).count 36 := by rw [← hs, size_L, L_B, hle, hz]
  have hE : expand_Escape.f a1 = some s := by unfold expand_Escape.f; rw [if_pos (by omega), hs]
  have hw : wrap64 ((s.size : Int) - (a1.size : Int)) = (((L a1).count 36 : Nat) : Int) := by rw [wrap_id (by omega) (by omega)]; omega
  have stop : ∀ b, b = true → Ev (fun k => smithylaw06_ExpandEscapes.j0 k l0 a1 s (((L a1).count 36 : Nat) : Int) b) true := fun b hb =>
    Ev.step (fun _ => rfl) (ev_pos hb (Ev.bind speaks_ev (Ev.now _)))
  refine Ev.rounds (r := true) ?_
  refine ev_const hE (Ev.bind hr ?_)
  show Ev (fun k => if chkV l0 = 0 then (if (a1.size : Int) > 8192 then (smithylaw06_ExpandEscapes.j0 k l0 a1 s (wrap64 ((s.size : Int) - (a1.size : Int))) true) else (if (wrap64 ((s.size : Int) - (a1.size : Int))) > 4096 then (smithylaw06_ExpandEscapes.j0 k l0 a1 s (wrap64 ((s.size : Int) - (a1.size : Int))) true) else (smithylaw06_ExpandEscapes.j0 k l0 a1 s (wrap64 ((s.size : Int) - (a1.size : Int))) (decide ((s.size : Int) > 65536))))) else (smithylaw06_ExpandEscapes.j0 k l0 a1 s (wrap64 ((s.size : Int) - (a1.size : Int))) true)) true
  rw [hw]
  refine ev_ite2 (fun h0 => ?_) (fun _ => stop _ rfl)
  rw [h0] at hc
  refine ev_ite2 (fun _ => stop _ rfl) (fun h1 => ev_ite2 (fun _ => stop _ rfl) (fun h2 => ?_))
  by_cases h3 : (s.size : Int) > 65536
  · exact stop _ (decide_eq_true h3)
  · rw [decide_eq_false h3]
    have hT : Ev (fun k => expand_Text.f k l0 [] s) (a1, 0) := by
      unfold expand_Text.f
      refine ev_pos rfl (Ev.bind hc ?_)
      rw [← hs, outT_esc l0 a1 (by omega) (by omega)]
      exact Ev.now _
    refine Ev.step (f := fun k => (expand_Text.f k l0 [] s).bind fun bt => if bt.1.toList = a1.toList then (if bt.2 = 0 then (if (((L a1).count 36 : Nat) : Int) ≥ 0 then (smithylaw06_speaks.f k).bind fun t => some t else some false) else some false) else some false) (fun _ => rfl) ?_
    refine Ev.bind hT ?_
    exact ev_pos rfl (ev_pos rfl (ev_pos (Int.natCast_nonneg _) (Ev.bind speaks_ev (Ev.now _))))
end Go.Proofs.YtadfbbjplgbakaaDoor.Pure
