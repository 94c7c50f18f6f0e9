/- Plain: what the laws of the layer share: small macros, what Text tells. -/
import Derived.Test.YtadfbbjplgbakaaGreatExpQa
import Derived.Test.YtadfbbjplgbakaaGreatExpRg
import Derived.Test.YtadfbbjplgbakaaGreatOpens
import Derived.Test.YtadfbbjplgbakaaGreatPXx0
namespace Go.Proofs.YtadfbbjplgbakaaGreat.Plain
open Go Go.RowKit Go.Proofs.YtadfbbjplgbakaaGreatW.PrintWords Go.Proofs.YtadfbbjplgbakaaGreat.PX Go.Proofs.YtadfbbjplgbakaaGreat.Exp
set_option linter.unusedVariables false

/-- How much macros hold. -/
abbrev bulkM (l : List Mac) : Nat := Opens.bkL (fun x : Mac => (fun v => (fun x => Opens.bkS x.1 + (fun x => Opens.bkS x.1 + (fun _ => 1) x.2) x.2) v + 1) (x.f0, x.f1, x.f2)) l
theorem names_small : ∀ (l : List Mac) (n : Nat), bulkM l ≤ n → l.length ≤ n ∧ ∀ x ∈ l, x.f0.size ≤ n ∧ x.f1.size ≤ n
  | [], n, h => ⟨Nat.zero_le _, fun x hx => by cases hx⟩
  | y :: t, n, h => by
    unfold bulkM Opens.bkL at h
    rw [List.map_cons, List.sum_cons] at h
    simp only [Opens.bkS] at h
    obtain ⟨h1, h2⟩ := names_small t (n - 1) (by unfold bulkM Opens.bkL; simp only [Opens.bkS]; omega)
    refine ⟨by rw [List.length_cons]; omega, fun x hx => ?_⟩
    rcases List.mem_cons.1 hx with rfl | hx
    · omega
    · have := h2 x hx
      omega
theorem Text_ev (M : List Mac) (hs : ∀ x ∈ M, x.f0.size ≤ 4611686018427387904) (s : ByteArray) : Ev (fun k => expand_Text.f k M [] s) (outT M (chkV M) s) := by
  unfold expand_Text.f
  exact ev_pos rfl (Ev.bind (check_ev M hs) (Ev.now _))
/-- A text that is told is told by its references. -/
theorem outT_ok {M : List Mac} {s : ByteArray} (h : (outT M (chkV M) s).2 = 0) : chkV M = 0 ∧ s.size ≤ 65536 ∧ ∃ o m, TX (envM M) [] 0 [] (L s) = .ok o m ∧ (outT M (chkV M) s).1 = B o := by
  unfold outT at h ⊢
  have ha : askE (chkV M) s = 0 → chkV M = 0 ∧ s.size ≤ 65536 := fun h => by
    unfold askE at h
    by_cases h1 : chkV M = 0
    · rw [if_pos h1] at h
      by_cases h2 : s.size ≤ 65536
      · exact ⟨h1, h2⟩
      · rw [if_neg h2] at h; cases h
    · rw [if_neg h1] at h; exact absurd h h1
  by_cases h0 : askE (chkV M) s = 0
  · rw [if_pos h0] at h ⊢
    refine ⟨(ha h0).1, (ha h0).2, ?_⟩
    cases hT : TX (envM M) [] 0 [] (L s) with
    | ok o m => exact ⟨o, m, rfl, rfl⟩
    | bad c =>
      rw [hT] at h
      have hc : (c : Int) = 0 := h
      obtain rfl : c = 0 := by omega
      exfalso
      have : ∀ (E : Env) (K : Nat) (u : List (List UInt8)) (n : Nat) (out l : List UInt8), tx E K u n out l ≠ .bad 0 := by
        intro E K
        induction K with
        | zero => intro u n out l h; cases h
        | succ K ih =>
          intro u n out l h
          rw [tx_succ] at h
          by_cases c1 : l = []
          · rw [if_pos c1] at h; cases h
          rw [if_neg c1] at h
          generalize aheadB 36 l = a at h
          generalize l.drop a.length = l1 at h
          by_cases c2 : 8192 < (out ++ a).length
          · rw [if_pos c2] at h; cases h
          rw [if_neg c2] at h
          by_cases c3 : l1 = []
          · rw [if_pos c3] at h; cases h
          rw [if_neg c3] at h
          by_cases c4 : (rdX l1).2 = false
          · rw [if_pos c4] at h; cases h
          rw [if_neg c4] at h
          by_cases c5 : 4096 < n + 1
          · rw [if_pos c5] at h; cases h
          rw [if_neg c5] at h
          cases hs : stp E (fun u n l => tx E K u n [] l) u (n + 1) (rdX l1).1 with
          | ok t q =>
            rw [hs] at h
            simp only [Res.then] at h
            by_cases c6 : 8192 < (out ++ a ++ t).length
            · rw [if_pos c6] at h; cases h
            rw [if_neg c6] at h
            exact ih _ _ _ _ h
          | bad c =>
            rw [hs] at h
            simp only [Res.then] at h
            obtain rfl : c = 0 := by injection h
            unfold stp at hs
            by_cases c7 : (rdX l1).1.name = [36]
            · rw [if_pos c7] at hs; cases hs
            rw [if_neg c7] at hs
            simp only at hs
            generalize hg : (if innL (rdX l1).1.name = true then Res.ok [] (n + 1) else if (rdX l1).1.name ∈ u then .bad 61 else tx E K (u ++ [(rdX l1).1.name]) (n + 1) [] (E.val (rdX l1).1.name)) = r at hs
            cases r with
            | ok t q =>
              simp only [Res.then] at hs
              by_cases c8 : (rdX l1).1.swap = true
              · rw [if_pos c8] at hs
                by_cases c9 : 8192 < (E.swap t (rdX l1).1.from_ (rdX l1).1.to_).length
                · rw [if_pos c9] at hs; cases hs
                · rw [if_neg c9] at hs; cases hs
              · rw [if_neg c8] at hs; cases hs
            | bad c =>
              simp only [Res.then] at hs
              obtain rfl : c = 0 := by injection hs
              by_cases c8 : innL (rdX l1).1.name = true
              · rw [if_pos c8] at hg; cases hg
              rw [if_neg c8] at hg
              by_cases c9 : (rdX l1).1.name ∈ u
              · rw [if_pos c9] at hg; cases hg
              rw [if_neg c9] at hg
              exact ih _ _ _ _ hg
      exact this _ _ _ _ _ _ hT
  · rw [if_neg h0] at h; exact absurd h h0
theorem outT_of {M : List Mac} {s : ByteArray} (h0 : chkV M = 0) (hs : s.size ≤ 65536) : outT M (chkV M) s = (match TX (envM M) [] 0 [] (L s) with | .ok o _ => (B o, 0) | .bad c => (⟨#[]⟩, (c : Int))) := by
  unfold outT askE
  rw [if_pos (by rw [if_pos h0, if_pos hs])]
  cases TX (envM M) [] 0 [] (L s) <;> rfl
theorem outT_bad {M : List Mac} {s : ByteArray} (h : (outT M (chkV M) s).2 ≠ 0) : (outT M (chkV M) s).1 = ⟨#[]⟩ := by
  unfold outT at h ⊢
  by_cases h0 : askE (chkV M) s = 0
  · rw [if_pos h0] at h ⊢
    cases hT : TX (envM M) [] 0 [] (L s) with
    | ok o m => rw [hT] at h; exact absurd rfl h
    | bad c => rfl
  · rw [if_neg h0]
/-- What is right, of macros that are small. -/
theorem good_of {M : List Mac} (hs : ∀ x ∈ M, x.f0.size ≤ 4611686018427387904) (h : chkV M = 0) : M.length ≤ 256 ∧ ∀ x ∈ M, goodM x := by
  obtain ⟨K, hK⟩ := check_ev M hs
  rw [h] at hK
  exact check_good (hK K (Nat.le_refl _))
theorem refs_names (s : ByteArray) (h : (refsV s).2 = 0) : s.size ≤ 65536 ∧ (NM (L s)).2 = true ∧ (refsV s).1 = (NM (L s)).1.map B := by
  unfold refsV at h ⊢
  by_cases h1 : s.size ≤ 65536
  · rw [if_pos h1] at h ⊢
    by_cases h2 : (NM (L s)).2 = true
    · rw [if_pos h2]; exact ⟨h1, h2, rfl⟩
    · rw [if_neg h2] at h; cases h
  · rw [if_neg h1] at h; cases h
end Go.Proofs.YtadfbbjplgbakaaGreat.Plain
