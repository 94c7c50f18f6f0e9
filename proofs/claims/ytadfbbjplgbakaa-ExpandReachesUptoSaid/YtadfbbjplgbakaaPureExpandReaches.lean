/- For all macros and texts: what a text becomes hangs on the macros alone that it reaches. -/
import Derived.Test.YtadfbbjplgbakaaExpY
import Derived.Test.YtadfbbjplgbakaaHasP
import Derived.Test.YtadfbbjplgbakaaPXx0
import Derived.Test.YtadfbbjplgbakaaPXx5
namespace Go.Proofs.Ytadfbbjplgbakaa.Pure
open Go Go.RowKit Go.Proofs.Ytadfbbjplgbakaa.PX Go.Proofs.YtadfbbjplgbakaaW.PrintWords Go.Proofs.Ytadfbbjplgbakaa.Plain Go.Proofs.Ytadfbbjplgbakaa.Exp Go.Proofs.Ytadfbbjplgbakaa.Strs

/-- The macros, another value in each that is not among some. -/
def turnM (R : List ByteArray) (v : ByteArray) (x : Mac) : Mac := if memB x.f0 R = true then x else ⟨x.f0, v, x.f2⟩
theorem turn_f0 (R : List ByteArray) (v : ByteArray) (x : Mac) : (turnM R v x).f0 = x.f0 := by unfold turnM; split <;> rfl
theorem turn_f2 (R : List ByteArray) (v : ByteArray) (x : Mac) : (turnM R v x).f2 = x.f2 := by unfold turnM; split <;> rfl
theorem getD_map (R : List ByteArray) (v : ByteArray) (M : List Mac) (i : Nat) (h : i < M.length) : (M.map (turnM R v)).getD i zM = turnM R v (M.getD i zM) := by
  rw [List.getD_eq_getElem?_getD, List.getD_eq_getElem?_getD, List.getElem?_map, List.getElem?_eq_getElem h]; rfl
theorem mbs_map (R : List ByteArray) (v : ByteArray) (M : List Mac) (x : ByteArray) : ∀ n i j, j ≤ M.length → mbs (M.map (turnM R v)) x n i j = mbs M x n i j
  | 0, _, _, _ => rfl
  | n + 1, i, j, h => by
    unfold mbs
    by_cases hij : i < j
    · rw [if_pos hij, if_pos hij, getD_map R v M _ (by omega), turn_f0]
      rw [mbs_map R v M x n _ _ h, mbs_map R v M x n _ _ (by omega)]
    · rw [if_neg hij, if_neg hij]
theorem val_map (R : List ByteArray) (v : ByteArray) (M : List Mac) (x : ByteArray) (hx : x ∈ R) : valM (M.map (turnM R v)) x = valM M x := by
  have hat : mAt (M.map (turnM R v)) x = mAt M x := by
    unfold mAt
    rw [List.length_map]
    exact mbs_map R v M x _ _ _ (Nat.le_refl _)
  unfold valM mHas
  rw [hat, List.length_map]
  by_cases h1 : macro_Name.f x = some true
  · rw [if_pos h1, if_pos h1]
    by_cases h2 : mAt M x < M.length
    · rw [getD_map R v M _ h2, turn_f0]
      by_cases h3 : cmpS (M.getD (mAt M x) zM).f0 x = 0
      · rw [if_pos (by rw [decide_eq_true_eq]; exact ⟨h2, h3⟩), if_pos (by rw [decide_eq_true_eq]; exact ⟨h2, h3⟩)]
        unfold turnM
        rw [if_pos (memB_iff.2 (by rw [(cmp_eq0 _ _).1 h3]; exact hx))]
      · rw [if_neg (by rw [decide_eq_true_eq]; exact fun h => h3 h.2), if_neg (by rw [decide_eq_true_eq]; exact fun h => h3 h.2)]
    · rw [if_neg (by rw [decide_eq_true_eq]; exact fun h => h2 h.1), if_neg (by rw [decide_eq_true_eq]; exact fun h => h2 h.1)]
  · rw [if_neg h1, if_neg h1]
theorem ones_map (R : List ByteArray) (v : ByteArray) (hv : v.size ≤ 8192) : ∀ M : List Mac, onesV M = 0 → onesV (M.map (turnM R v)) = 0
  | [], _ => rfl
  | x :: t, h => by
    have h' : (if oneV x = 0 then onesV t else oneV x) = 0 := h
    by_cases h1 : oneV x = 0
    · rw [if_pos h1] at h'
      show (if oneV (turnM R v x) = 0 then onesV (t.map (turnM R v)) else oneV (turnM R v x)) = 0
      have h2 : oneV (turnM R v x) = 0 := by
        unfold turnM
        split
        · exact h1
        · unfold oneV at h1 ⊢
          by_cases a : namL (L x.f0) = true
          · rw [if_pos a] at h1 ⊢
            by_cases b : 0 ≤ x.f2 ∧ x.f2 ≤ 2
            · rw [if_pos b, if_pos hv]
            · rw [if_neg b] at h1; cases h1
          · rw [if_neg a] at h1; cases h1
      rw [if_pos h2]
      exact ones_map R v hv t h'
    · rw [if_neg h1] at h'; exact absurd h' h1
theorem rise_map (R : List ByteArray) (v : ByteArray) (M : List Mac) : ∀ d i, i + d ≤ M.length → riseI (M.map (turnM R v)) d i = riseI M d i
  | 0, _, _ => rfl
  | d + 1, i, h => by
    show ((i == 0 || Op.bytesLess ((M.map (turnM R v)).getD (i - 1) zM).f0.toList ((M.map (turnM R v)).getD i zM).f0.toList) && riseI (M.map (turnM R v)) d (i + 1)) = ((i == 0 || Op.bytesLess (M.getD (i - 1) zM).f0.toList (M.getD i zM).f0.toList) && riseI M d (i + 1))
    rw [getD_map R v M _ (by omega), getD_map R v M _ (by omega), turn_f0, turn_f0, rise_map R v M d (i + 1) (by omega)]
theorem chk_map (R : List ByteArray) (v : ByteArray) (hv : v.size ≤ 8192) (M : List Mac) (h : chkV M = 0) : chkV (M.map (turnM R v)) = 0 := by
  have hr := chk_rise h
  unfold chkV at h ⊢
  rw [List.length_map]
  by_cases h1 : M.length ≤ 256
  · rw [if_pos h1] at h ⊢
    by_cases h2 : onesV M = 0
    · rw [if_pos (ones_map R v hv M h2), rise_map R v M M.length 0 (by omega), if_pos hr]
    · rw [if_neg h2] at h; exact absurd h h2
  · rw [if_neg h1] at h; cases h
theorem ExpandReaches (l0 : List Mac) (a1 a2 : ByteArray) (hB : bulkM l0 + (a1.size + 1) + (a2.size + 1) ≤ 1048576) : ∃ k, smithylaw06_ExpandReaches.f k l0 a1 a2 = some true := by
  have hn := (names_small l0 1048576 (by omega)).2
  have hlen := (names_small l0 1048576 (by omega)).1
  have hs : ∀ x ∈ l0, x.f0.size ≤ 4611686018427387904 := fun x hx => by have := (hn x hx).1; omega
  obtain ⟨R, e, hU, hRl, _, hR⟩ := Uses_ev l0 hs a1
  have stop : ∀ b, b = true → Ev (fun k => smithylaw06_ExpandReaches.j0 k l0 a1 a2 R b) true := fun b hb =>
    Ev.step (fun _ => rfl) (ev_pos hb (Ev.bind speaks_ev (Ev.now _)))
  refine Ev.rounds (r := true) ?_
  refine Ev.bind hU (ev_ite2 (fun he => ?_) (fun _ => stop _ rfl))
  by_cases hb : (a2.size : Int) > 8192
  · exact stop _ (decide_eq_true hb)
  rw [decide_eq_false hb]
  obtain ⟨h0, h1, h2, _, h3⟩ := hR he
  have hs2 : ∀ x ∈ l0.map (turnM R a2), x.f0.size ≤ 4611686018427387904 := fun x hx => by
    obtain ⟨y, hy, rfl⟩ := List.mem_map.1 hx
    rw [turn_f0]; exact hs y hy
  have hc2 := chk_map R a2 (by omega) l0 h0
  have hsame : outT (l0.map (turnM R a2)) (chkV (l0.map (turnM R a2))) a1 = outT l0 (chkV l0) a1 := by
    rw [outT_of hc2 h1, outT_of h0 h1]
    have : TX (envM l0) [] 0 [] (L a1) = TX (envM (l0.map (turnM R a2))) [] 0 [] (L a1) :=
      tx_same (envM l0) (envM (l0.map (turnM R a2))) (fun y => B y ∈ R) rfl (fun y hy => by
        show L (valM l0 (B y)) = L (valM (l0.map (turnM R a2)) (B y))
        rw [val_map R a2 l0 (B y) hy]) (fun y hy z hz => (h3 (B z)).2 (.step ((h3 (B y)).1 hy) hz)) 4097 [] 0 [] (L a1) (fun y hy => (h3 (B y)).2 (.base hy))
    rw [this]
  have hT1 := Text_ev l0 hs a1
  have hT2 := Text_ev (l0.map (turnM R a2)) hs2 a1
  rw [hsame] at hT2
  show Ev (fun k => smithylaw06_ExpandReaches.j0 k l0 a1 a2 R false) true
  refine Ev.step (f := fun k => smithylaw06_ExpandReaches.l0 k l0 a1 a2 R [] 0) (fun _ => rfl) ?_
  have loop : ∀ (d i : Nat), i + d = l0.length → Ev (fun k => smithylaw06_ExpandReaches.l0 k l0 a1 a2 R ((l0.take i).map (turnM R a2)) (i : Int)) true := by
    intro d
    induction d with
    | zero =>
      intro i hi
      have e1 : (l0.take i).map (turnM R a2) = l0.map (turnM R a2) := by rw [List.take_of_length_le (by omega)]
      rw [e1]
      refine Ev.step (fun _ => rfl) (ev_neg (by omega) (Ev.bind hT1 (Ev.bind hT2 ?_)))
      exact ev_pos rfl (ev_pos rfl (Ev.bind speaks_ev (Ev.now _)))
    | succ d ih =>
      intro i hi
      have hlt : i < l0.length := by omega
      have hget := List.getElem?_eq_getElem hlt
      have hrd : rd_T34 l0 (i : Int) = l0[i] := rdM_at hget
      have hh := has_ev R (l0[i]).f0 (by omega)
      have q1 : (i : Int) < (l0.length : Int) := by omega
      have q2 : (0 : Int) ≤ (i : Int) := by omega
      have q3 : ((l0.take i).map (turnM R a2)).length < 3518437208883 := by rw [List.length_map, List.length_take]; omega
      have hw : wrap64 ((i : Int) + 1) = ((i + 1 : Nat) : Int) := Plain.wrap_add i 1 (by omega)
      have nx := ih (i + 1) (by omega)
      have hsn : (l0.take (i + 1)).map (turnM R a2) = (l0.take i).map (turnM R a2) ++ [turnM R a2 l0[i]] := by
        rw [List.take_succ_eq_append_getElem hlt, List.map_append]; rfl
      rw [hsn] at nx
      refine Ev.step (fun _ => rfl) (ev_pos q1 (ev_pos q2 ?_))
      rw [hrd, hw]
      refine Ev.bind hh ?_
      by_cases hm : memB (l0[i]).f0 R = true
      · refine ev_pos hm (ev_pos q3 ?_)
        have e1 : turnM R a2 l0[i] = ⟨l0[i].f0, l0[i].f1, l0[i].f2⟩ := if_pos hm
        rw [e1] at nx
        exact nx
      · refine ev_neg hm (ev_pos q3 ?_)
        have e1 : turnM R a2 l0[i] = ⟨l0[i].f0, a2, l0[i].f2⟩ := if_neg hm
        rw [e1] at nx
        exact nx
  exact loop l0.length 0 (by omega)
end Go.Proofs.Ytadfbbjplgbakaa.Pure
