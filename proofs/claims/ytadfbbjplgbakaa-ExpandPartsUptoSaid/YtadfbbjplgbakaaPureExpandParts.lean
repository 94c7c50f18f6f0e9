/- For all macros and every two texts: what the two become one behind the other is what each becomes, one behind the other. -/
import Derived.Test.YtadfbbjplgbakaaExpZ
import Derived.Test.YtadfbbjplgbakaaExpRr
import Derived.Test.YtadfbbjplgbakaaPXx7
namespace Go.Proofs.Ytadfbbjplgbakaa.Pure
open Go Go.RowKit Go.Proofs.Ytadfbbjplgbakaa.PX Go.Proofs.YtadfbbjplgbakaaW.PrintWords Go.Proofs.Ytadfbbjplgbakaa.Plain Go.Proofs.Ytadfbbjplgbakaa.Exp

theorem ExpandParts (l0 : List Mac) (a1 a2 : ByteArray) (hB : bulkM l0 + (a1.size + 1) + (a2.size + 1) ≤ 1048576) : ∃ k, smithylaw06_ExpandParts.f k l0 a1 a2 = some true := by
  have hn := (names_small l0 1048576 (by omega)).2
  have hs : ∀ x ∈ l0, x.f0.size ≤ 4611686018427387904 := fun x hx => by have := (hn x hx).1; omega
  have hsum : (a1 ++ a2).size = a1.size + a2.size := by rw [size_L, L_append, List.length_append, ← size_L, ← size_L]
  have stop : ∀ b, b = true → Ev (fun k => smithylaw06_ExpandParts.j0 k l0 a1 a2 b) true := fun b hb =>
    Ev.step (fun _ => rfl) (ev_pos hb (Ev.bind speaks_ev (Ev.now _)))
  refine Ev.rounds (r := true) ?_
  refine Ev.bind (rRefs_ev a1) (Ev.bind (rRefs_ev a2) ?_)
  refine ev_ite2 (fun h1 => ev_ite2 (fun h2 => ?_) (fun _ => stop _ rfl)) (fun _ => stop _ rfl)
  obtain ⟨_, n1, _⟩ := refs_names a1 h1
  have hz1 : a1.size + a2.size ≤ 1048576 := by omega
  have hz2 : a1.size + a2.size ≤ 9223372036854775807 := by omega
  have hw : wrap64 ((a1.size : Int) + (a2.size : Int)) = ((a1.size + a2.size : Nat) : Int) := Plain.wrap_add _ _ hz1
  rw [hw]
  by_cases hb : ((a1.size + a2.size : Nat) : Int) > 65536
  · exact stop _ (decide_eq_true hb)
  rw [decide_eq_false hb]
  have hle : a1.size + a2.size ≤ 65536 := by omega
  refine Ev.step (fun _ => rfl) (ev_pos hz2 (Ev.bind (Text_ev l0 hs (a1 ++ a2)) ?_))
  by_cases hg : (outT l0 (chkV l0) (a1 ++ a2)).2 = 0
  · refine ev_pos hg ?_
    obtain ⟨h0, _, o, m, hT, ho⟩ := outT_ok hg
    rw [L_append] at hT
    obtain ⟨t, u, m1, m2, hA, hU, he⟩ := TX_parts (envM l0) (L a1) (L a2) o m n1 hT
    have e1 : outT l0 (chkV l0) a1 = (B t, 0) := by rw [outT_of h0 (by omega), hA]
    have e2 : outT l0 (chkV l0) a2 = (B u, 0) := by rw [outT_of h0 (by omega), hU]
    have lt := tx_len _ _ _ _ _ _ _ _ hA (by simp)
    have lu := tx_len _ _ _ _ _ _ _ _ hU (by simp)
    have ht := Text_ev l0 hs a1
    have hu := Text_ev l0 hs a2
    rw [e1] at ht
    rw [e2] at hu
    refine Ev.bind ht (Ev.bind hu ?_)
    refine ev_pos rfl (ev_pos rfl (ev_pos ?_ (ev_pos ?_ (Ev.bind speaks_ev (Ev.now _)))))
    · show (B t).size + (B u).size ≤ _
      rw [size_L, size_L, L_B, L_B]; omega
    · rw [ho, he]
      show (B (t ++ u)).toList = (B t ++ B u).toList
      rw [append_B]
  · refine ev_neg hg (ev_pos ?_ (Ev.bind speaks_ev (Ev.now _)))
    rw [outT_bad hg]
    exact toL_B []
end Go.Proofs.Ytadfbbjplgbakaa.Pure
