/- For all macros and texts: a reference alone to a macro that is reached from itself becomes nothing; where a text reaches none such, there is no loop. -/
import Derived.Test.YtadfbbjplgbakaaExpY
import Derived.Test.YtadfbbjplgbakaaHasP
import Derived.Test.YtadfbbjplgbakaaPXx6
import Derived.Test.YtadfbbjplgbakaaPXx10
import Derived.Test.YtadfbbjplgbakaaPXx11
namespace Go.Proofs.Ytadfbbjplgbakaa.Pure
open Go Go.RowKit Go.Proofs.Ytadfbbjplgbakaa.PX Go.Proofs.YtadfbbjplgbakaaW.PrintWords Go.Proofs.Ytadfbbjplgbakaa.Plain Go.Proofs.Ytadfbbjplgbakaa.Exp Go.Proofs.Ytadfbbjplgbakaa.Strs

theorem nam_bytes {y : List UInt8} (h : namL y = true) (c : UInt8) (hc : c ∈ y) : namB c = true := by
  unfold namL at h
  rw [Bool.and_eq_true] at h
  exact List.all_eq_true.1 h.2 c hc
theorem nam_not_inn {y : List UInt8} (h : namL y = true) : innL y = false := by
  cases hi : innL y with
  | false => rfl
  | true =>
    exfalso
    have h6 : ∀ c : UInt8, (innB c && namB c) = false := fun c => all_bytes (p := fun c => (innB c && namB c) = false) (by decide +kernel) c
    rcases y with _ | ⟨a, _ | ⟨b, _ | ⟨c, t⟩⟩⟩
    · cases hi
    · have h7 : innB a = true := hi
      have h8 := h6 a
      rw [h7, nam_bytes h a (by simp)] at h8; cases h8
    · have h7 : innB a = true := by
        have : (innB a && (b == 68 || b == 70)) = true := hi
        exact (Bool.and_eq_true_iff.1 this).1
      have h8 := h6 a
      rw [h7, nam_bytes h a (by simp)] at h8; cases h8
    · cases hi
theorem NM_ref (y : List UInt8) (h : namL y = true) : (NM (36 :: 40 :: (y ++ [41]))).1 = [y] := by
  have n41 : (41 : UInt8) ∉ y := fun hm => by have := nam_bytes h _ hm; revert this; decide
  have n58 : (58 : UInt8) ∉ y := fun hm => by have := nam_bytes h _ hm; revert this; decide
  have ha : aheadB 41 (y ++ [41]) = y := by
    rw [ahead_app_no 41 y [41] n41]
    have : aheadB 41 ([41] : List UInt8) = [] := rfl
    rw [this, List.append_nil]
  have hr : rdX (36 :: 40 :: (y ++ [41])) = (⟨y, false, [], [], y.length + 3⟩, true) := by
    have h1 : rdX (36 :: 40 :: (y ++ [41])) = if (y ++ [41]).contains 41 = true then rdIn (aheadB 41 (y ++ [41])) else (Rf.none, false) := by
      unfold rdX
      exact (if_neg (by decide)).trans (if_pos (Or.inl rfl))
    rw [h1, if_pos (by simp), ha]
    unfold rdIn
    simp only
    rw [if_neg (by simpa using n58), ahead_all 58 y n58, h]
    rfl
  rw [NM_at (36 :: 40 :: (y ++ [41])) 0 (36 :: 40 :: (y ++ [41])) (List.mem_cons_self ..) rfl rfl, hr]
  have hne : ¬ y = [36] := by
    rintro rfl
    revert h
    decide
  rw [if_neg (fun h => by cases h), if_neg hne]
  have hd : (36 :: 40 :: (y ++ [41])).drop (y.length + 3) = [] := List.drop_eq_nil_of_le (by simp)
  show [y] ++ (NM ((36 :: 40 :: (y ++ [41])).drop (y.length + 3))).1 = [y]
  rw [hd, NM_none [] (by simp)]
  rfl
theorem Rch_none {V : List UInt8 → List UInt8} {y : List UInt8} (h : Rch V [] y) : False := by
  induction h with
  | base h => cases h
  | step _ _ ih => exact ih
theorem ExpandLoops (l0 : List Mac) (a1 : ByteArray) (hB : bulkM l0 + (a1.size + 1) ≤ 1048576) : ∃ k, smithylaw06_ExpandLoops.f k l0 a1 = some true := by
  have hn := (names_small l0 1048576 (by omega)).2
  have hlen := (names_small l0 1048576 (by omega)).1
  have hs : ∀ x ∈ l0, x.f0.size ≤ 4611686018427387904 := fun x hx => by have := (hn x hx).1; omega
  refine Ev.rounds (r := true) ?_
  refine Ev.bind (Loops_ev l0 hs) ?_
  by_cases h0 : chkV l0 = 0
  · rw [if_pos h0]
    refine ev_pos rfl ?_
    obtain ⟨hM, hg⟩ := good_of hs h0
    obtain ⟨R, e, hU, hRl, hRe, hR⟩ := Uses_ev l0 hs a1
    have hll := loops_len l0
    have hT := Text_ev l0 hs a1
    -- the last loop
    have last : e = 0 → ∀ (d i : Nat), i + d = R.length → ((outT l0 (chkV l0) a1).2 = 61 → ∃ y ∈ R.drop i, y ∈ loopsV l0) → Ev (fun k => smithylaw06_ExpandLoops.l1 k l0 a1 (i : Int) (loopsV l0) R) true := by
      intro he d
      induction d with
      | zero =>
        intro i hi hy
        refine Ev.step (fun _ => rfl) (ev_neg (by omega) (Ev.bind hT ?_))
        refine ev_neg (fun h => ?_) (Ev.bind speaks_ev (Ev.now _))
        obtain ⟨y, h1, _⟩ := hy h
        rw [List.drop_eq_nil_of_le (by omega)] at h1
        cases h1
      | succ d ih =>
        intro i hi hy
        have hlt : i < R.length := by omega
        have q1 : (i : Int) < (R.length : Int) := by omega
        have q2 : (0 : Int) ≤ (i : Int) := by omega
        have hh := has_ev (loopsV l0) R[i] (by omega)
        have hw : wrap64 ((i : Int) + 1) = ((i + 1 : Nat) : Int) := by
          rw [wrap_id (by omega) (by omega)]; omega
        have hrd : rdOf ByteArray.empty R (i : Int) = R[i] := rdOf_get hlt
        refine Ev.step (fun _ => rfl) (ev_pos q1 (ev_pos q2 ?_))
        rw [hrd, hw]
        refine Ev.bind hh ?_
        by_cases hm : memB R[i] (loopsV l0) = true
        · exact ev_pos hm (Ev.bind speaks_ev (Ev.now _))
        · refine ev_neg hm (ih (i + 1) (by omega) (fun h => ?_))
          obtain ⟨y, h1, h2⟩ := hy h
          rw [drop_cons hlt] at h1
          rcases List.mem_cons.1 h1 with rfl | h1
          · exact absurd (memB_iff.2 h2) hm
          · exact ⟨y, h1, h2⟩
    -- behind the first
    have tail : Ev (fun k => (expand_Uses.f k l0 a1).bind fun bt276 => (if bt276.2 = 0 then (smithylaw06_ExpandLoops.l1 k l0 a1 0 (loopsV l0) bt276.1) else (if (bt276.1.length : Int) = 0 then ((smithylaw06_speaks.f k).bind fun t280 => (some t280)) else (some false)))) true := by
      refine Ev.bind hU (ev_ite2 (fun he => ?_) (fun he => ?_))
      · refine last he R.length 0 (by omega) (fun h61 => ?_)
        obtain ⟨_, h1, h2, _, h3⟩ := hR he
        rw [List.drop_zero]
        have hbad : TX (envM l0) [] 0 [] (L a1) = .bad 61 := by
          rw [outT_of h0 h1] at h61
          cases hT : TX (envM l0) [] 0 [] (L a1) with
          | ok o m => rw [hT] at h61; cases h61
          | bad c =>
            rw [hT] at h61
            have : (c : Int) = 61 := h61
            congr 1
            omega
        obtain ⟨y, r1, r2⟩ := tx_61 (envM l0) (NM (L a1)).1 4097 [] 0 [] (L a1) (Nat.le_refl _) hbad (fun x hx => by cases hx) (fun y hy => .base hy)
        refine ⟨B y, (h3 _).2 r1, ?_⟩
        rw [loops_mem]
        rcases val_or l0 (B y) with hv | ⟨m, hm, hv, hc⟩
        · exfalso
          have : (NM ((envM l0).val y)).1 = [] := by
            show (NM (L (valM l0 (B y)))).1 = []
            rw [hv]; rfl
          rw [this] at r2
          exact Rch_none r2
        · have hf := (cmp_eq0 _ _).1 hc
          refine ⟨m, hm, hf, ?_⟩
          have e1 : (envM l0).val y = L m.f1 := by
            show L (valM l0 (B y)) = _
            rw [hv]
          rw [e1] at r2
          rw [hf, L_B]
          exact r2
      · refine ev_pos ?_ (Ev.bind speaks_ev (Ev.now _))
        rw [hRe he]; rfl
    -- the first loop
    have first : ∀ (d i : Nat), i + d = (loopsV l0).length → Ev (fun k => smithylaw06_ExpandLoops.l0 k l0 a1 (i : Int) (loopsV l0)) true := by
      intro d
      induction d with
      | zero =>
        intro i hi
        exact Ev.step (fun _ => rfl) (ev_neg (by omega) tail)
      | succ d ih =>
        intro i hi
        have hlt : i < (loopsV l0).length := by omega
        have q1 : (i : Int) < ((loopsV l0).length : Int) := by omega
        have q2 : (0 : Int) ≤ (i : Int) := by omega
        have hrd : rdOf ByteArray.empty (loopsV l0) (i : Int) = (loopsV l0)[i] := rdOf_get hlt
        obtain ⟨x, hx, hf, hrch⟩ := (loops_mem l0 _).1 (List.getElem_mem hlt)
        obtain ⟨y, hy⟩ : ∃ y, (loopsV l0)[i] = y := ⟨_, rfl⟩
        rw [hy] at hrd hf
        subst hf
        have hnm := (hg x hx).1
        have hsz : x.f0.size ≤ 1048576 := (hn x hx).1
        have q3 : 2 + x.f0.size ≤ 9223372036854775807 := by omega
        have hs2 : ((⟨#[36, 40]⟩ : ByteArray) ++ x.f0).size = 2 + x.f0.size := by rw [size_L, L_append, List.length_append, ← size_L]; rfl
        have q4 : ((⟨#[36, 40]⟩ : ByteArray) ++ x.f0).size + 1 ≤ 9223372036854775807 := by rw [hs2]; omega
        have hw : wrap64 ((i : Int) + 1) = ((i + 1 : Nat) : Int) := Plain.wrap_add i 1 (by omega)
        have hL : L (((⟨#[36, 40]⟩ : ByteArray) ++ x.f0) ++ (⟨#[41]⟩ : ByteArray)) = 36 :: 40 :: (L x.f0 ++ [41]) := by
          rw [L_append, L_append]
          show [36, 40] ++ L x.f0 ++ [41] = _
          simp
        have hbad : ¬ (outT l0 (chkV l0) (((⟨#[36, 40]⟩ : ByteArray) ++ x.f0) ++ (⟨#[41]⟩ : ByteArray))).2 = 0 := by
          intro hk
          obtain ⟨_, _, o, m, hTX, _⟩ := outT_ok hk
          rw [hL] at hTX
          have hin := nam_not_inn hnm
          obtain ⟨_, k, n', o', m', _, hk2⟩ := (tx_all (envM l0) 4097 [] 0 [] _ _ _ hTX).2 (L x.f0) (by rw [NM_ref _ hnm]; simp) hin
          have hval : (envM l0).val (L x.f0) = L x.f1 := by
            show L (valM l0 (B (L x.f0))) = _
            rw [B_L, val_of h0 hg hx]
          exact tx_loop (envM l0) (fun y hy => inn_val l0 hg y hy) (by rw [hval]; exact hrch) hin [] k n' o' m' hk2
        refine Ev.step (fun _ => rfl) (ev_pos q1 (ev_pos q2 ?_))
        rw [hrd, hw]
        refine ev_pos q3 (ev_pos q4 (Ev.bind (Text_ev l0 hs _) ?_))
        exact ev_neg hbad (ih (i + 1) (by omega))
    exact first (loopsV l0).length 0 (by omega)
  · rw [if_neg h0]
    exact ev_neg h0 (ev_pos rfl (Ev.bind speaks_ev (Ev.now _)))
end Go.Proofs.Ytadfbbjplgbakaa.Pure
