/- Plain: what the reference reaches, and its loops. -/
import Derived.Test.YtadfbbjplgbakaaGreatExpY
import Derived.Test.YtadfbbjplgbakaaGreatExpQb
import Derived.Test.YtadfbbjplgbakaaGreatExpRh
import Derived.Test.YtadfbbjplgbakaaGreatHasP
import Derived.Test.YtadfbbjplgbakaaGreatExpPt
import Derived.Test.YtadfbbjplgbakaaGreatPXx0
import Derived.Test.YtadfbbjplgbakaaGreatPXx8
import Derived.Test.YtadfbbjplgbakaaGreatPXx13
namespace Go.Proofs.YtadfbbjplgbakaaGreat.Plain
open Go Go.RowKit Go.Proofs.YtadfbbjplgbakaaGreatW.PrintWords Go.Proofs.YtadfbbjplgbakaaGreat.PX Go.Proofs.YtadfbbjplgbakaaGreat.Exp Go.Proofs.YtadfbbjplgbakaaGreat.Strs
set_option linter.unusedVariables false

/-! ### sorted lists -/
/-- Texts that rise. -/
abbrev Rise (l : List ByteArray) : Prop := l.Pairwise fun a b => L a < L b
theorem rise_eq : ∀ (l m : List ByteArray), Rise l → Rise m → (∀ x, x ∈ l ↔ x ∈ m) → l = m
  | [], [], _, _, _ => rfl
  | [], b :: m, _, _, h => by have := (h b).2 (List.mem_cons_self ..); cases this
  | a :: l, [], _, _, h => by have := (h a).1 (List.mem_cons_self ..); cases this
  | a :: l, b :: m, hl, hm, h => by
    obtain ⟨l1, l2⟩ := List.pairwise_cons.1 hl
    obtain ⟨m1, m2⟩ := List.pairwise_cons.1 hm
    have hab : a = b := by
      rcases List.mem_cons.1 ((h a).1 (List.mem_cons_self ..)) with e | e
      · exact e
      · rcases List.mem_cons.1 ((h b).2 (List.mem_cons_self ..)) with e2 | e2
        · exact e2.symm
        · exact absurd (m1 a e) (fun q => List.lt_asymm q (l1 b e2))
    subst hab
    have ha : a ∉ l := fun hm => lt_irr _ (l1 a hm)
    have ha2 : a ∉ m := fun hm => lt_irr _ (m1 a hm)
    rw [rise_eq l m l2 m2 (fun x => ⟨fun hx => by
      rcases List.mem_cons.1 ((h x).1 (List.mem_cons_of_mem _ hx)) with e | e
      · subst e; exact absurd hx ha
      · exact e, fun hx => by
      rcases List.mem_cons.1 ((h x).2 (List.mem_cons_of_mem _ hx)) with e | e
      · subst e; exact absurd hx ha2
      · exact e⟩)]
theorem rise_nodup {l : List ByteArray} (h : Rise l) : l.Nodup := List.Pairwise.imp (fun {a b} hab e => by subst e; exact lt_irr _ hab) h
theorem sortS_rise {l : List ByteArray} (h : l.Nodup) : Rise (sortS l) := by
  have h1 : ((l.map L).mergeSort fun x y => decide (x ≤ y)).Pairwise (fun a b => decide (a ≤ b) = true) := by
    refine List.pairwise_mergeSort (fun a b c h1 h2 => ?_) (fun a b => ?_) _
    · exact decide_eq_true (List.le_trans (of_decide_eq_true h1) (of_decide_eq_true h2))
    · rcases List.le_total a b with h | h
      · rw [decide_eq_true h]; rfl
      · rw [decide_eq_true h]; simp
  have h2 : ((l.map L).mergeSort fun x y => decide (x ≤ y)).Nodup := by
    refine (List.mergeSort_perm _ _).nodup_iff.2 ?_
    rw [List.nodup_iff_pairwise_ne, List.pairwise_map]
    exact List.Pairwise.imp (fun {a b} hab e => hab (L_inj e)) h
  unfold Rise sortS
  rw [List.pairwise_map]
  refine List.Pairwise.imp (fun {a b} hab => ?_) (h1.and h2)
  rw [L_B, L_B]
  obtain ⟨h3, h4⟩ := hab
  rcases Std.lt_trichotomy a b with h | h | h
  · exact h
  · exact absurd h h4
  · exact absurd h (List.not_lt.2 (of_decide_eq_true h3))

/-! ### put -/
theorem putV_mem (s : ByteArray) (x : ByteArray) : ∀ l : List ByteArray, x ∈ putV s l ↔ x = s ∨ x ∈ l
  | [] => by simp [putV]
  | a :: t => by
    unfold putV
    by_cases h1 : a = s
    · rw [if_pos h1]
      subst h1
      simp
    · rw [if_neg h1]
      by_cases h2 : Op.bytesLess s.toList a.toList = true
      · rw [if_pos h2]; simp
      · rw [if_neg h2, List.mem_cons, putV_mem s x t, List.mem_cons]
        constructor
        · rintro (h | h | h)
          · exact Or.inr (Or.inl h)
          · exact Or.inl h
          · exact Or.inr (Or.inr h)
        · rintro (h | h | h)
          · exact Or.inr (Or.inl h)
          · exact Or.inl h
          · exact Or.inr (Or.inr h)
theorem putV_rise (s : ByteArray) : ∀ l : List ByteArray, Rise l → Rise (putV s l)
  | [], _ => by simp [putV, Rise]
  | a :: t, h => by
    obtain ⟨h1, h2⟩ := List.pairwise_cons.1 h
    unfold putV
    by_cases c1 : a = s
    · rw [if_pos c1]; exact h
    · rw [if_neg c1]
      by_cases c2 : Op.bytesLess s.toList a.toList = true
      · rw [if_pos c2]
        have hlt := (less_iff s a).1 c2
        refine List.pairwise_cons.2 ⟨fun x hx => ?_, h⟩
        rcases List.mem_cons.1 hx with e | e
        · rw [e]; exact hlt
        · exact List.lt_trans hlt (h1 x e)
      · rw [if_neg c2]
        refine List.pairwise_cons.2 ⟨fun x hx => ?_, putV_rise s t h2⟩
        rcases (putV_mem s x t).1 hx with e | e
        · rw [e]
          rcases Std.lt_trichotomy (L a) (L s) with q | q | q
          · exact q
          · exact absurd (L_inj q) c1
          · exact absurd ((less_iff s a).2 q) c2
        · exact h1 x e
theorem putV_len (s : ByteArray) : ∀ l : List ByteArray, (putV s l).length ≤ l.length + 1
  | [] => by simp [putV]
  | a :: t => by
    unfold putV
    by_cases h1 : a = s
    · rw [if_pos h1]; omega
    · rw [if_neg h1]
      by_cases h2 : Op.bytesLess s.toList a.toList = true
      · rw [if_pos h2]; simp
      · rw [if_neg h2, List.length_cons, List.length_cons]
        have := putV_len s t
        omega
theorem putV_len2 (s : ByteArray) : ∀ l : List ByteArray, s ∉ l → (putV s l).length = l.length + 1
  | [], _ => rfl
  | a :: t, h => by
    have h1 : ¬ a = s := fun e => h (by rw [e]; exact List.mem_cons_self ..)
    unfold putV
    rw [if_neg h1]
    by_cases h2 : Op.bytesLess s.toList a.toList = true
    · rw [if_pos h2]; rfl
    · rw [if_neg h2, List.length_cons, List.length_cons, putV_len2 s t (fun hm => h (List.mem_cons_of_mem _ hm))]
/-! ### the names of a macro's value, looked for one by one -/
def nmF (s : ByteArray) : List Mac → List ByteArray
  | [] => []
  | m :: t => (if m.f0 = s then (NM (L m.f1)).1.map B else []) ++ nmF s t
theorem nmF_none (s : ByteArray) : ∀ M : List Mac, (∀ m ∈ M, m.f0 ≠ s) → nmF s M = []
  | [], _ => rfl
  | m :: t, h => by
    unfold nmF
    rw [if_neg (h m (List.mem_cons_self ..)), nmF_none s t (fun x hx => h x (List.mem_cons_of_mem _ hx))]
    rfl
theorem nmF_one (s : ByteArray) : ∀ M : List Mac, (M.Pairwise fun a b => a.f0 ≠ b.f0) → ∀ m ∈ M, m.f0 = s → nmF s M = (NM (L m.f1)).1.map B
  | [], _, m, hm, _ => by cases hm
  | x :: t, hp, m, hm, hs => by
    obtain ⟨p1, p2⟩ := List.pairwise_cons.1 hp
    unfold nmF
    rcases List.mem_cons.1 hm with e | hm
    · subst e
      rw [if_pos hs, nmF_none s t (fun y hy e => p1 y hy (hs.trans e.symm)), List.append_nil]
    · rw [if_neg (fun e => p1 m hm (e.trans hs.symm)), nmF_one s t p2 m hm hs]
      rfl
theorem chk_apart {M : List Mac} (h : chkV M = 0) : M.Pairwise fun a b => a.f0 ≠ b.f0 := by
  rw [List.pairwise_iff_getElem]
  intro i j hi hj hij e
  have := rise_lt M (chk_rise h) (j - i - 1) i (by omega)
  rw [show i + (j - i - 1) + 1 = j by omega, List.getD_eq_getElem?_getD, List.getD_eq_getElem?_getD, List.getElem?_eq_getElem hi, List.getElem?_eq_getElem hj] at this
  simp only [Option.getD_some] at this
  rw [e] at this
  exact lt_irr _ this
theorem nmF_eq {M : List Mac} (h : chkV M = 0) (hg : ∀ x ∈ M, goodM x) (s : ByteArray) : nmF s M = nmM M s := by
  cases hx : M.any (fun m => decide (m.f0 = s)) with
  | true =>
    obtain ⟨m, hm, hs⟩ := List.any_eq_true.1 hx
    have hs := of_decide_eq_true hs
    rw [nmF_one s M (chk_apart h) m hm hs]
    unfold nmM
    rw [← hs, val_of h hg hm]
  | false =>
    have hno : ∀ m ∈ M, m.f0 ≠ s := fun m hm e => by
      have h2 : M.any (fun m => decide (m.f0 = s)) = true := List.any_eq_true.2 ⟨m, hm, decide_eq_true e⟩
      rw [hx] at h2; cases h2
    rw [nmF_none s M hno]
    rcases val_or M s with hv | ⟨m, hm, _, hc⟩
    · rw [nmM_nil hv]
    · exact absurd ((cmp_eq0 _ _).1 hc) (hno m hm)

/-! ### what is reached -/
theorem l1_to (M : List Mac) (hM : M.length ≤ 256) (hg : ∀ x ∈ M, goodM x) (out : List ByteArray) (s : ByteArray) (r : List ByteArray) : ∀ (d i : Nat) (todo : List ByteArray), i + d = M.length → todo.length + 8192 * d + 8192 ≤ 4398046511104 →
    Ev (fun k => smithyref06_reached.l0 k M out (todo ++ nmF s (M.drop i))) r → Ev (fun k => smithyref06_reached.l1 k M out todo s (i : Int)) r := by
  intro d
  induction d with
  | zero =>
    intro i todo hi ht h
    rw [List.drop_eq_nil_of_le (by omega)] at h
    have h' : Ev (fun k => smithyref06_reached.l0 k M out todo) r := by
      have e : todo ++ nmF s [] = todo := List.append_nil _
      rw [e] at h; exact h
    exact Ev.step (f := fun k => if (i : Int) < (M.length : Int) then none else smithyref06_reached.l0 k M out todo) (fun k => by
      show smithyref06_reached.l1 (k + 1) M out todo s (i : Int) = _
      rw [smithyref06_reached.l1, if_neg (by omega), if_neg (by omega)]) (ev_neg (by omega) h')
  | succ d ih =>
    intro i todo hi ht h
    have hlt : i < M.length := by omega
    have q1 : (i : Int) < (M.length : Int) := by omega
    have hi1 : i + 1 + d = M.length := by omega
    have ht1 : todo.length + 8192 * d + 8192 ≤ 4398046511104 := by clear h ih hg; omega
    have hx0 := (hg _ (List.getElem_mem hlt)).2.2.2
    have hs0 := (NM_small _ (L M[i].f1) (Nat.le_refl _)).1
    rw [← size_L] at hs0
    have ht2 : (todo ++ (NM (L M[i].f1)).1.map B).length + 8192 * d + 8192 ≤ 4398046511104 := by rw [List.length_append, List.length_map]; clear h ih hg; omega
    have n1 := ih (i + 1) todo hi1 ht1
    have n2 := ih (i + 1) (todo ++ (NM (L M[i].f1)).1.map B) hi1 ht2
    have q2 : (0 : Int) ≤ (i : Int) := by omega
    have hrd : rd_T42 M (i : Int) = M[i] := rdM_at (List.getElem?_eq_getElem hlt)
    have hx := (hg _ (List.getElem_mem hlt)).2.2.2
    have hsm := (NM_small _ (L M[i].f1) (Nat.le_refl _)).1
    rw [← size_L] at hsm
    have hnm := names_ev M[i].f1 (by omega)
    have hw : wrap64 ((i : Int) + 1) = ((i + 1 : Nat) : Int) := by rw [wrap_id (by omega) (by omega)]; omega
    have q3 : ([] : List ByteArray).length + todo.length < 8796093022208 := by simp; omega
    have q4 : (todo).length + ((NM (L M[i].f1)).1.map B).length < 8796093022208 := by rw [List.length_map]; omega
    rw [drop_cons hlt] at h
    refine Ev.step (f := fun k => if (i : Int) < (M.length : Int) then (if 0 ≤ (i : Int) then (if ((rd_T42 M (i : Int)).f0).toList = s.toList then ((smithyref06_names.f k ((rd_T42 M (i : Int)).f1)).bind fun bt276 => ((some (([] : List ByteArray) : List ByteArray)).bind fun y280 => (if y280.length + todo.length < 8796093022208 then ((some (y280 ++ todo : List ByteArray)).bind fun y283 => (if y283.length + bt276.1.length < 8796093022208 then (smithyref06_reached.l1 k M out (y283 ++ bt276.1) s (wrap64 ((i : Int) + 1))) else (none))) else (none)))) else (smithyref06_reached.l1 k M out todo s (wrap64 ((i : Int) + 1)))) else (none)) else (smithyref06_reached.l0 k M out todo)) (fun k => by rw [smithyref06_reached.l1]) (ev_pos q1 (ev_pos q2 ?_))
    rw [hrd, hw]
    by_cases he : M[i].f0 = s
    · refine ev_pos (toList_inj.2 he) (Ev.bind hnm (ev_const rfl (ev_pos q3 (ev_const rfl ?_))))
      rw [List.nil_append]
      refine ev_pos q4 (n2 ?_)
      unfold nmF at h
      rw [if_pos he] at h
      rw [List.append_assoc]
      exact h
    · refine ev_neg (fun h => he (toList_inj.1 h)) (n1 ?_)
      unfold nmF at h
      rw [if_neg he, List.nil_append] at h
      exact h
theorem bfs_ok (M : List Mac) (hM : M.length ≤ 256) (h0 : chkV M = 0) (hg : ∀ x ∈ M, goodM x) (U : List ByteArray) (hc : ∀ x ∈ U, ∀ y ∈ nmM M x, y ∈ U) (hUl : U.length ≤ 16777216) :
    ∀ (a b : Nat) (out todo : List ByteArray), U.length - out.length ≤ a → todo.length ≤ b → (∀ x ∈ out, x ∈ U) → (∀ x ∈ todo, x ∈ U) → Rise out → todo.length ≤ 1048576 + out.length * 8192 → ∃ res, Ev (fun k => smithyref06_reached.l0 k M out todo) res ∧ Rise res ∧ RSp M out todo res := by
  have fin : ∀ out todo : List ByteArray, todo.length = 0 → Rise out → ∃ res, Ev (fun k => smithyref06_reached.l0 k M out todo) res ∧ Rise res ∧ RSp M out todo res := fun out todo h hr =>
    ⟨out, Ev.step (f := fun _ => some out) (fun k => by
      rw [smithyref06_reached.l0, if_neg (by omega)]) (Ev.now _), hr, RSp_nil h (rise_nodup hr)⟩
  -- one round: what is done with the first
  have go : ∀ (out todo : List ByteArray) (s : ByteArray) (t : List ByteArray) (res : List ByteArray), todo = s :: t → out.length ≤ 16777216 → t.length ≤ 1099511627776 →
      (s ∈ out → Ev (fun k => smithyref06_reached.l0 k M out t) res) → (s ∉ out → Ev (fun k => smithyref06_reached.l0 k M (putV s out) (t ++ nmM M s)) res) → Ev (fun k => smithyref06_reached.l0 k M out todo) res := by
    intro out todo s t res he hol htl h1 h2
    subst he
    have hh := has_ev out s (by omega)
    have hp : smithyref06_put.f out s = some (putV s out) := by unfold smithyref06_put.f; rw [if_pos (by omega)]
    have q1 : ((s :: t).length : Int) > 0 := by rw [List.length_cons]; omega
    have q2 : (1 : Int) ≤ ((s :: t).length : Int) := by rw [List.length_cons]; omega
    refine Ev.step (f := fun k => (smithyref03_Has.f k out s).bind fun t270 => if t270 = true then smithyref06_reached.l0 k M out t else (smithyref06_put.f out s).bind fun t271 => smithyref06_reached.l1 k M t271 t s 0) (fun k => by
      rw [smithyref06_reached.l0, if_pos q1, if_pos q1, if_pos q2]
      rfl) ?_
    refine Ev.bind hh ?_
    by_cases hm : memB s out = true
    · exact ev_pos hm (h1 (memB_iff.1 hm))
    · refine ev_neg hm (ev_const hp ?_)
      have := l1_to M hM hg (putV s out) s res M.length 0 t (by omega) (by
        omega)
      rw [List.drop_zero, nmF_eq h0 hg] at this
      exact this (h2 (fun h => hm (memB_iff.2 h)))
  intro a
  induction a with
  | zero =>
    intro b
    induction b with
    | zero => intro out todo _ hb _ _ hr _; exact fin out todo (by omega) hr
    | succ b ihb =>
      intro out todo ha hb ho ht hr hl
      cases todo with
      | nil => exact fin out [] rfl hr
      | cons s t =>
        have hsU := ht s (List.mem_cons_self ..)
        have hin : s ∈ out := by
          refine Classical.byContradiction fun hni => ?_
          have := nodup_len (out ++ [s]) U (nodup_snoc (rise_nodup hr) hni) (mem_snoc ho hsU)
          rw [List.length_append, List.length_singleton] at this
          omega
        have hoU := nodup_len out U (rise_nodup hr) ho
        rw [List.length_cons] at hb hl
        obtain ⟨res, h1, h2, h3⟩ := ihb out t ha (by omega) ho (fun x h => ht x (List.mem_cons_of_mem _ h)) hr (by omega)
        refine ⟨res, go out _ s t res rfl (by omega) (by omega) (fun _ => h1) (fun h => absurd hin h), h2, h3.once, h3.o, fun x h => ?_, h3.shut, fun P p1 p2 p3 => h3.of P p1 (fun x h => p2 x (List.mem_cons_of_mem _ h)) p3⟩
        rcases List.mem_cons.1 h with e | h
        · rw [e]; exact h3.o _ hin
        · exact h3.t x h
  | succ a iha =>
    intro b
    induction b with
    | zero => intro out todo _ hb _ _ hr _; exact fin out todo (by omega) hr
    | succ b ihb =>
      intro out todo ha hb ho ht hr hl
      cases todo with
      | nil => exact fin out [] rfl hr
      | cons s t =>
        have hsU := ht s (List.mem_cons_self ..)
        have hoU := nodup_len out U (rise_nodup hr) ho
        rw [List.length_cons] at hb hl
        by_cases hin : s ∈ out
        · obtain ⟨res, h1, h2, h3⟩ := ihb out t ha (by omega) ho (fun x h => ht x (List.mem_cons_of_mem _ h)) hr (by omega)
          refine ⟨res, go out _ s t res rfl (by omega) (by omega) (fun _ => h1) (fun h => absurd hin h), h2, h3.once, h3.o, fun x h => ?_, h3.shut, fun P p1 p2 p3 => h3.of P p1 (fun x h => p2 x (List.mem_cons_of_mem _ h)) p3⟩
          rcases List.mem_cons.1 h with e | h
          · rw [e]; exact h3.o _ hin
          · exact h3.t x h
        · have hpl := putV_len2 s out hin
          have hpU : ∀ x ∈ putV s out, x ∈ U := fun x h => by
            rcases (putV_mem s x out).1 h with e | e
            · rw [e]; exact hsU
            · exact ho x e
          have hnx := nmM_len hg s
          have hpr := putV_rise s out hr
          have hpo := nodup_len _ U (rise_nodup hpr) hpU
          obtain ⟨res, h1, h2, h3⟩ := iha _ (putV s out) (t ++ nmM M s) (by omega) (Nat.le_refl _) hpU (fun x h => by
            rcases List.mem_append.1 h with h | h
            · exact ht x (List.mem_cons_of_mem _ h)
            · exact hc s hsU x h) hpr (by rw [List.length_append, hpl]; omega)
          refine ⟨res, go out _ s t res rfl (by omega) (by omega) (fun h => absurd h hin) (fun _ => h1), h2, h3.once, fun x h => h3.o x ((putV_mem s x out).2 (Or.inr h)), fun x h => ?_, fun x h => ?_, fun P p1 p2 p3 => h3.of P (fun x h => ?_) (fun x h => ?_) p3⟩
          · rcases List.mem_cons.1 h with e | h
            · rw [e]; exact h3.o _ ((putV_mem s s out).2 (Or.inl rfl))
            · exact h3.t x (List.mem_append_left _ h)
          · rcases h3.shut x h with q | q
            · rcases (putV_mem s x out).1 q with e | e
              · subst e
                exact Or.inr (fun y hy => h3.t y (List.mem_append_right _ hy))
              · exact Or.inl e
            · exact Or.inr q
          · rcases (putV_mem s x out).1 h with e | e
            · rw [e]; exact p2 s (List.mem_cons_self ..)
            · exact p1 x e
          · rcases List.mem_append.1 h with h | h
            · exact p2 x (List.mem_cons_of_mem _ h)
            · exact p3 s (p2 s (List.mem_cons_self ..)) x h
end Go.Proofs.YtadfbbjplgbakaaGreat.Plain
