/- For all macros and every text: which macros a text reaches, and which are reached from themselves, as the document says. -/
import Derived.Test.YtadfbbjplgbakaaGreatExpUs
import Derived.Test.YtadfbbjplgbakaaGreatTextsP
import Derived.Test.YtadfbbjplgbakaaGreatPXx0
import Derived.Test.YtadfbbjplgbakaaGreatPXx5
import Derived.Test.YtadfbbjplgbakaaGreatPXx8
import Derived.Test.YtadfbbjplgbakaaGreatPXx9
import Derived.Test.YtadfbbjplgbakaaGreatPXx12
namespace Go.Proofs.YtadfbbjplgbakaaGreat.Pure
open Go Go.RowKit Go.Proofs.YtadfbbjplgbakaaGreat.PX Go.Proofs.YtadfbbjplgbakaaGreatW.PrintWords Go.Proofs.YtadfbbjplgbakaaGreat.Plain Go.Proofs.YtadfbbjplgbakaaGreat.Exp Go.Proofs.YtadfbbjplgbakaaGreat.Strs

/-- What a text reaches, by the reference: the same as by the program. -/
theorem rreached_ev (M : List Mac) (hs : ∀ x ∈ M, x.f0.size ≤ 4611686018427387904) (h0 : chkV M = 0) (s : ByteArray) (hz : s.size ≤ 1048576) :
    ∃ R, Ev (fun k => smithyref06_reached.f k M s) R ∧ R.length ≤ 16777216 ∧ Rise R ∧ ∀ y, y ∈ R ↔ Rch (envM M).val (NM (L s)).1 (L y) := by
  obtain ⟨hM, hg⟩ := good_of hs h0
  obtain ⟨F, hF⟩ : ∃ F, F = (NM (L s)).1.map B := ⟨_, rfl⟩
  have hFl : F.length ≤ 1048576 := by
    have := (NM_small _ (L s) (Nat.le_refl _)).1
    rw [← size_L] at this
    rw [hF, List.length_map]; omega
  obtain ⟨U, hU⟩ : ∃ U, U = F ++ M.flatMap fun m => (NM (L m.f1)).1.map B := ⟨_, rfl⟩
  have hmem : ∀ x, ∀ y ∈ nmM M x, y ∈ M.flatMap fun m => (NM (L m.f1)).1.map B := fun x y hy => by
    rcases val_or M x with h | ⟨m, hm, h, _⟩
    · rw [nmM_nil h] at hy; cases hy
    · unfold nmM at hy
      rw [h] at hy
      exact List.mem_flatMap.2 ⟨m, hm, hy⟩
  have hlen : ∀ l : List Mac, (∀ x ∈ l, goodM x) → (l.flatMap fun m => (NM (L m.f1)).1.map B).length ≤ l.length * 8192 := by
    intro l
    induction l with
    | nil => intro _; simp
    | cons m t ih =>
      intro h
      have h1 := ih (fun x hx => h x (List.mem_cons_of_mem _ hx))
      have h2 := (NM_small _ (L m.f1) (Nat.le_refl _)).1
      have h3 := (h m (List.mem_cons_self ..)).2.2.2
      rw [size_L] at h3
      rw [List.flatMap_cons, List.length_append, List.length_map, List.length_cons]
      omega
  have hUl : U.length ≤ 16777216 := by
    have := hlen M hg
    rw [hU, List.length_append]
    have : M.length * 8192 ≤ 256 * 8192 := Nat.mul_le_mul_right _ hM
    omega
  have hUF : ∀ x ∈ F, x ∈ U := fun x hx => by rw [hU]; exact List.mem_append_left _ hx
  have hUc : ∀ x ∈ U, ∀ y ∈ nmM M x, y ∈ U := fun x _ y hy => by rw [hU]; exact List.mem_append_right _ (hmem x y hy)
  obtain ⟨res, h1, h2, h3⟩ := bfs_ok M hM h0 hg U hUc hUl U.length F.length [] F (by simp) (Nat.le_refl _) (fun x hx => by cases hx) hUF List.Pairwise.nil (by simp; exact hFl)
  refine ⟨res, ?_, ?_, h2, fun y => ?_⟩
  · unfold smithyref06_reached.f
    refine Ev.bind (names_ev s hz) ?_
    rw [hF] at h1
    exact h1
  · exact Nat.le_trans (nodup_len res U h3.once (fun x hx => h3.of (· ∈ U) (fun x h => by cases h) hUF hUc x hx)) hUl
  · have hFL : F.map L = (NM (L s)).1 := by rw [hF, map_L_B]
    rw [← hFL]
    constructor
    · intro hy
      refine h3.of (fun y => Rch (envM M).val (F.map L) (L y)) (fun x h => by cases h) (fun x h => .base (List.mem_map.2 ⟨x, h, rfl⟩)) (fun x hx y hy => ?_) y hy
      unfold nmM at hy
      obtain ⟨z, hz, rfl⟩ := List.mem_map.1 hy
      exact .step hx hz
    · intro hy
      have : ∀ z, Rch (envM M).val (F.map L) z → B z ∈ res := by
        intro z hz
        induction hz with
        | base h =>
          obtain ⟨x, hx, rfl⟩ := List.mem_map.1 h
          exact h3.t x hx
        | @step x z _ hz ih =>
          rcases h3.shut _ ih with h | h
          · cases h
          · exact h _ (List.mem_map.2 ⟨z, hz, rfl⟩)
      exact this _ hy
theorem fit_ev (M : List Mac) (hs : ∀ x ∈ M, x.f0.size ≤ 4611686018427387904) (s : ByteArray) : Ev (fun k => smithyref06_Fit.f k M [] s) (if chkV M = 0 then (if s.size ≤ 65536 then 0 else 2) else chkV M) := by
  unfold smithyref06_Fit.f
  refine Ev.bind (rcheck_ev M hs) ?_
  by_cases h0 : chkV M = 0
  · rw [if_pos h0]
    refine ev_pos h0 (ev_neg (by simp) ?_)
    refine Ev.step (f := fun _ => if (s.size : Int) > 65536 then some 2 else some 0) (fun k => by
      rw [smithyref06_Fit.l0, if_neg (by simp)]) ?_
    by_cases h1 : s.size ≤ 65536
    · rw [if_pos h1]; exact ev_neg (by omega) (Ev.now _)
    · rw [if_neg h1]; exact ev_pos (by omega) (Ev.now _)
  · rw [if_neg h0]
    exact ev_neg h0 (Ev.now _)
theorem rloops_loop (M : List Mac) (hs : ∀ x ∈ M, x.f0.size ≤ 4611686018427387904) (h0 : chkV M = 0) : ∀ (d i : Nat) (acc : List ByteArray), i + d = M.length → acc.length ≤ i →
    Ev (fun k => smithyref06_Loops.l0 k M acc (i : Int)) (acc ++ ((M.drop i).filter (loopB M)).map (fun x => x.f0), 0) := by
  obtain ⟨hM, hg⟩ := good_of hs h0
  intro d
  induction d with
  | zero =>
    intro i acc hi ha
    rw [List.drop_eq_nil_of_le (by omega), List.filter_nil, List.map_nil, List.append_nil]
    exact Ev.step (fun _ => rfl) (ev_neg (by omega) (Ev.now _))
  | succ d ih =>
    intro i acc hi ha
    have hlt : i < M.length := by omega
    have hrd : rd_T42 M (i : Int) = M[i] := rdM_at (List.getElem?_eq_getElem hlt)
    have hsz := (hg _ (List.getElem_mem hlt)).2.2.2
    obtain ⟨R, r1, r2, _, r4⟩ := rreached_ev M hs h0 M[i].f1 (by omega)
    have hmem : memB M[i].f0 R = loopB M M[i] := by
      cases h1 : loopB M M[i] with
      | true => exact memB_iff.2 ((r4 _).2 ((loopB_iff _ _).1 h1))
      | false =>
        cases h2 : memB M[i].f0 R with
        | false => rfl
        | true =>
          have := (loopB_iff M M[i]).2 ((r4 _).1 (memB_iff.1 h2))
          rw [h1] at this; cases this
    have q1 : (i : Int) < (M.length : Int) := by omega
    have q2 : (0 : Int) ≤ (i : Int) := by omega
    have q3 : acc.length < 8796093022208 := by omega
    have hh := has_ev R M[i].f0 (by omega)
    have nx1 := ih (i + 1) acc (by omega) (by omega)
    have nx2 := ih (i + 1) (acc ++ [M[i].f0]) (by omega) (by rw [List.length_append, List.length_singleton]; omega)
    have hw : wrap64 ((i : Int) + 1) = ((i + 1 : Nat) : Int) := Plain.wrap_add i 1 (by omega)
    refine Ev.step (fun _ => rfl) (ev_pos q1 (ev_pos q2 ?_))
    rw [hrd, hw, drop_cons hlt, List.filter_cons]
    refine Ev.bind r1 (Ev.bind hh ?_)
    rw [hmem]
    by_cases hl : loopB M M[i] = true
    · rw [if_pos hl]
      refine ev_pos hl (ev_pos q3 ?_)
      rw [List.append_assoc] at nx2
      exact nx2
    · rw [if_neg hl]
      exact ev_neg hl nx1
theorem rLoops_ev (M : List Mac) (hs : ∀ x ∈ M, x.f0.size ≤ 4611686018427387904) : Ev (fun k => smithyref06_Loops.f k M) (if chkV M = 0 then (loopsV M, 0) else ([], chkV M)) := by
  unfold smithyref06_Loops.f
  refine Ev.bind (rcheck_ev M hs) ?_
  by_cases h0 : chkV M = 0
  · have hll := rloops_loop M hs h0 M.length 0 [] (by omega) (Nat.le_refl _)
    rw [if_pos h0]
    exact ev_pos h0 hll
  · rw [if_neg h0]
    exact ev_neg h0 (Ev.now _)
theorem ExpandUses (l0 : List Mac) (a1 : ByteArray) (hB : bulkM l0 + (a1.size + 1) ≤ 1048576) : ∃ k, smithylaw06_ExpandUses.f k l0 a1 = some true := by
  have hn := (names_small l0 1048576 (by omega)).2
  have hlen := (names_small l0 1048576 (by omega)).1
  have hs : ∀ x ∈ l0, x.f0.size ≤ 4611686018427387904 := fun x hx => by have := (hn x hx).1; omega
  obtain ⟨R, e, hU, hRl, hRe, hR⟩ := Uses_ev l0 hs a1
  have hll := loops_len l0
  have same : Ev (fun k => smithyref06_Uses.f k l0 a1) (R, e) := by
    unfold smithyref06_Uses.f
    refine Ev.bind (fit_ev l0 hs a1) ?_
    obtain ⟨K, hK⟩ := hU
    have hk := hK K (Nat.le_refl _)
    by_cases h0 : chkV l0 = 0
    · rw [if_pos h0]
      by_cases h1 : a1.size ≤ 65536
      · rw [if_pos h1]
        refine ev_pos rfl (Ev.bind (names_ev a1 (by omega)) ?_)
        by_cases h2 : (NM (L a1)).2 = true
        · have he : e = 0 := by
            refine Classical.byContradiction fun he => ?_
            obtain ⟨R', r1, r2, _⟩ := reached_ev l0 ((NM (L a1)).1.map B) (by have := check_ev l0 hs; rw [h0] at this; exact this) (by
              have := (NM_small _ (L a1) (Nat.le_refl _)).1
              rw [← size_L] at this
              rw [List.length_map]; omega) (fun x hx => by
              obtain ⟨y, hy, rfl⟩ := List.mem_map.1 hx
              have := (NM_small _ (L a1) (Nat.le_refl _)).2 y hy
              rw [← size_L] at this
              rw [size_L, L_B]; omega)
            have hr : Ev (fun k => expand_Uses.f k l0 a1) (R', 0) := by
              have hck := check_ev l0 hs
              rw [h0] at hck
              have hrv : refsV a1 = ((NM (L a1)).1.map B, 0) := by unfold refsV; rw [if_pos h1, if_pos h2]
              have hrf := Refs_ev a1
              rw [hrv] at hrf
              unfold expand_Uses.f
              exact Ev.bind hck (ev_pos rfl (Ev.bind hrf (ev_pos rfl (Ev.bind r1 (Ev.now _)))))
            obtain ⟨K2, hK2⟩ := hr
            have a := hK (max K K2) (Nat.le_max_left ..)
            have b := hK2 (max K K2) (Nat.le_max_right ..)
            rw [a] at b
            have := Option.some.inj b
            exact he (congrArg Prod.snd this)
          obtain ⟨_, _, _, ⟨l, hl1, hl2⟩, h3⟩ := hR he
          obtain ⟨R2, s1, _, s3, s4⟩ := rreached_ev l0 hs h0 a1 (by omega)
          have hRR : R2 = R := rise_eq R2 R s3 (by rw [hl1]; exact sortS_rise hl2) (fun y => (s4 y).trans (h3 y).symm)
          rw [hRR] at s1
          refine ev_pos h2 (Ev.bind s1 (ev_some ?_))
          rw [he]
        · have he : (R, e) = ([], 60) := by
            have hr : Ev (fun k => expand_Uses.f k l0 a1) ([], 60) := by
              have hck := check_ev l0 hs
              rw [h0] at hck
              have hrv : refsV a1 = ([], 60) := by unfold refsV; rw [if_pos h1, if_neg h2]
              have hrf := Refs_ev a1
              rw [hrv] at hrf
              unfold expand_Uses.f
              exact Ev.bind hck (ev_pos rfl (Ev.bind hrf (ev_neg (by decide) (Ev.now _))))
            obtain ⟨K2, hK2⟩ := hr
            have a := hK (max K K2) (Nat.le_max_left ..)
            have b := hK2 (max K K2) (Nat.le_max_right ..)
            rw [a] at b
            exact Option.some.inj b
          rw [he]
          exact ev_neg h2 (Ev.now _)
      · rw [if_neg h1]
        have he : (R, e) = ([], 2) := by
          have hr : Ev (fun k => expand_Uses.f k l0 a1) ([], 2) := by
            have hck := check_ev l0 hs
            rw [h0] at hck
            have hrv : refsV a1 = ([], 2) := by unfold refsV; rw [if_neg h1]
            have hrf := Refs_ev a1
            rw [hrv] at hrf
            unfold expand_Uses.f
            exact Ev.bind hck (ev_pos rfl (Ev.bind hrf (ev_neg (by decide) (Ev.now _))))
          obtain ⟨K2, hK2⟩ := hr
          have a := hK (max K K2) (Nat.le_max_left ..)
          have b := hK2 (max K K2) (Nat.le_max_right ..)
          rw [a] at b
          exact Option.some.inj b
        rw [he]
        exact ev_neg (by decide) (Ev.now _)
    · rw [if_neg h0]
      have he : (R, e) = ([], chkV l0) := by
        have hr : Ev (fun k => expand_Uses.f k l0 a1) ([], chkV l0) := by
          unfold expand_Uses.f
          exact Ev.bind (check_ev l0 hs) (ev_neg h0 (Ev.now _))
        obtain ⟨K2, hK2⟩ := hr
        have a := hK (max K K2) (Nat.le_max_left ..)
        have b := hK2 (max K K2) (Nat.le_max_right ..)
        rw [a] at b
        exact Option.some.inj b
      rw [he]
      exact ev_neg h0 (Ev.now _)
  have l1 : ∀ q : List ByteArray × Int, q.1.length ≤ 16777216 → Ev (fun k => smithyplain_Texts.f k q.1 q.1) true := fun q hq => by
    have := texts_ev q.1 q.1 (by omega)
    rw [decide_eq_true rfl] at this
    exact this
  have hlv : (if chkV l0 = 0 then (loopsV l0, (0 : Int)) else ([], chkV l0)).1.length ≤ 16777216 := by
    split
    · show (loopsV l0).length ≤ _
      omega
    · simp
  refine Ev.rounds (r := true) ?_
  refine Ev.bind hU (Ev.bind same (Ev.bind (Loops_ev l0 hs) (Ev.bind (rLoops_ev l0 hs) (Ev.bind (l1 (R, e) hRl) ?_))))
  refine ev_pos rfl (ev_pos rfl (Ev.bind (l1 _ hlv) (ev_pos rfl (ev_pos rfl (Ev.bind speaks_ev (Ev.now _))))))
end Go.Proofs.YtadfbbjplgbakaaGreat.Pure
