/- Merging what is merged gives it back: the plain law. -/
import Derived.Test.YtkbcfbelpjifnaaSpec5
namespace Go.Proofs.Ytkbcfbelpjifnaa.Spec
open Go Go.RowKit Go.Proofs Go.Proofs.YtkbcfbelpjifnaaW.PrintWords Go.Proofs.Ytkbcfbelpjifnaa.PX Go.Proofs.Ytkbcfbelpjifnaa.Plain
set_option linter.unusedVariables false
set_option linter.unusedSimpArgs false

/-- A rule as Merge leaves it. -/
structure Fine1 (y : Rl) : Prop where
  once : uniq [] y.f1 = y.f1
  few : y.f1.length ≤ 64
  bare : y.f3 = false → y.f2 = []
  name : isName y.f0 = true
  needs : ∀ n ∈ y.f1, isName n = true
  recs : y.f2.length ≤ 64
theorem mg_fix : ∀ (l a : List Rl) (i : Nat), (nms (a ++ l)).Nodup → (∀ y ∈ l, Fine1 y) → mg i a l = (a ++ l, 0, 0)
  | [], a, i, _, _ => by simp [mg]
  | x :: l, a, i, hnd, hf => by
    have hx := hf x (by simp)
    have hno : x.f0 ∉ nms a := by
      intro h
      rw [nms, List.map_append, List.map_cons, List.nodup_append] at hnd
      exact hnd.2.2 _ h _ (by simp) rfl
    have hmem : memB x.f0 (nms a) = false := memB_no.2 hno
    have hp : put1 a x.f0 = a ++ [⟨x.f0, [], [], false⟩] := by unfold put1; rw [hmem]; rfl
    have hix : ixOf x.f0 (nms a) = a.length := by rw [ixOf_no hno]; simp
    have hg : (a ++ [(⟨x.f0, [], [], false⟩ : Rl)]).getD a.length dfl = ⟨x.f0, [], [], false⟩ := by simp [List.getD_eq_getElem?_getD]
    have hu : upd x ⟨x.f0, [], [], false⟩ = x := by
      unfold upd
      cases h3 : x.f3 with
      | true =>
        simp only [if_true, List.nil_append, hx.once]
        cases x; simp at h3; simp [h3]
      | false =>
        simp only [List.nil_append, hx.once]
        have := hx.bare h3
        cases x; simp at h3 this; simp [h3, this]
    unfold mg
    rw [hp, hix, hg]
    have hlen : ¬ 64 < (uniq [] ([] ++ x.f1)).length := by rw [List.nil_append, hx.once]; have := hx.few; omega
    rw [if_neg (by simp), if_neg hlen, hu]
    have hs : (a ++ [(⟨x.f0, [], [], false⟩ : Rl)]).set a.length x = a ++ [x] := by
      rw [List.set_append_right _ _ (by omega)]
      simp
    rw [hs, mg_fix l (a ++ [x]) (i + 1) (by simpa using hnd) (fun y hy => hf y (by simp [hy]))]
    simp
theorem uniq_twice (l : List ByteArray) : uniq [] (uniq [] l) = uniq [] l := by
  have := uniq_self (uniq [] l) [] (by simpa using uniq_nodup l [] List.nodup_nil)
  simpa using this
theorem ck_needs {x : Rl} (h : ckRule x = 0) : ∀ n ∈ x.f1, isName n = true := by
  unfold ckRule at h
  split at h
  · cases h
  · rename_i h1
    simp at h1
    exact h1.2
theorem upd_fine {x y : Rl} (hx : ckRule x = 0) (hy : Fine1 y) (h64 : ¬ 64 < (uniq [] (y.f1 ++ x.f1)).length) : Fine1 (upd x y) := by
  have hn : ∀ n ∈ uniq [] (y.f1 ++ x.f1), isName n = true := by
    intro n hn
    rw [uniq_mem] at hn
    rcases hn with h | h
    · cases h
    · rcases List.mem_append.1 h with h | h
      · exact hy.needs n h
      · exact ck_needs hx n h
  unfold upd
  split
  · exact ⟨uniq_twice _, by show (uniq [] (y.f1 ++ x.f1)).length ≤ 64; omega, (fun h => by cases h), hy.name, hn, (ck_ok hx).2.2.2⟩
  · exact ⟨uniq_twice _, by show (uniq [] (y.f1 ++ x.f1)).length ≤ 64; omega, hy.bare, hy.name, hn, hy.recs⟩
theorem mg_fine : ∀ (l : List Rl) (i : Nat) (m : List Rl), (∀ x ∈ l, ckRule x = 0) → (nms m).Nodup → (∀ y ∈ m, Fine1 y) → (mg i m l).2.1 = 0 →
    (nms (mg i m l).1).Nodup ∧ (∀ y ∈ (mg i m l).1, Fine1 y) ∧ (mg i m l).1.length ≤ m.length + l.length
  | [], i, m, _, hnd, hf, _ => ⟨hnd, hf, by simp [mg]⟩
  | x :: l, i, m, hck, hnd, hf, h => by
    have hx := hck x (by simp)
    unfold mg at h ⊢
    have hj := put1_len (m := m) (s := x.f0)
    have hf1 : ∀ y ∈ put1 m x.f0, Fine1 y := by
      unfold put1
      split
      · exact hf
      · intro y hy
        rcases List.mem_append.1 hy with hy | hy
        · exact hf y hy
        · rw [List.mem_singleton.1 hy]
          exact ⟨rfl, by simp, fun _ => rfl, (ck_ok hx).1, (fun n hn => by cases hn), by simp⟩
    have hnd1 : (nms (put1 m x.f0)).Nodup := by
      rw [put1_names]
      split
      · exact hnd
      · rename_i hm
        have hno : x.f0 ∉ nms m := memB_no.1 (by simpa using hm)
        rw [List.nodup_append]
        exact ⟨hnd, by simp, fun a ha b hb e => hno (by rw [List.mem_singleton.1 hb] at e; rw [← e]; exact ha)⟩
    have hlen : (put1 m x.f0).length ≤ m.length + 1 := by unfold put1; split <;> simp
    generalize put1 m x.f0 = M at *
    generalize ixOf x.f0 (nms m) = j at *
    obtain ⟨y, hy⟩ : ∃ y, M[j]? = some y := ⟨_, List.getElem?_eq_getElem hj⟩
    have hgd : M.getD j dfl = y := by rw [List.getD_eq_getElem?_getD, hy]; rfl
    rw [hgd] at h ⊢
    by_cases hb : x.f3 = true ∧ y.f3 = true
    · rw [if_pos hb] at h; cases h
    · rw [if_neg hb] at h ⊢
      by_cases h6 : 64 < (uniq [] (y.f1 ++ x.f1)).length
      · rw [if_pos h6] at h; cases h
      · rw [if_neg h6] at h ⊢
        have hu := upd_fine hx (hf1 y (List.mem_of_getElem? hy)) h6
        have := mg_fine l (i + 1) (M.set j (upd x y)) (fun z hz => hck z (by simp [hz])) (by rw [set_names hy (upd_f0 x y)]; exact hnd1) (fun z hz => by
          rcases List.mem_or_eq_of_mem_set hz with hz | hz
          · exact hf1 z hz
          · rw [hz]; exact hu) h
        refine ⟨this.1, this.2.1, Nat.le_trans this.2.2 ?_⟩
        rw [List.length_set]
        simp
        omega
theorem fine_ck {y : Rl} (h : Fine1 y) : ckRule y = 0 := by
  unfold ckRule
  have h1 : (y.f1.any fun n => !isName n) = false := by
    rw [List.any_eq_false]
    intro n hn
    simp [h.needs n hn]
  have h2 := h.few
  have h3 := h.recs
  rw [h.name, h1]
  simp
  omega
theorem ask_all : ∀ (l : List Rl) (i : Nat), (∀ x ∈ l, ckRule x = 0) → askL i l = (0, 0)
  | [], i, h => rfl
  | x :: l, i, h => by
    unfold askL
    rw [if_pos (h x (by simp))]
    exact ask_all l (i + 1) (fun y hy => h y (by simp [hy]))
theorem asked_all {l : List Rl} (hl : l.length ≤ 512) (h : ∀ x ∈ l, ckRule x = 0) : askedL l = (0, 0) := by
  unfold askedL
  rw [if_neg (by omega)]
  exact ask_all l 0 h
/-- What Merge leaves is fine, and no longer than what came in. -/
theorem merge_fine {l : List Rl} (h : (mergeL l).2.1 = 0) : (nms (mergeL l).1).Nodup ∧ (∀ y ∈ (mergeL l).1, Fine1 y) ∧ (mergeL l).1.length ≤ 512 := by
  unfold mergeL at h ⊢
  by_cases h0 : (askedL l).1 = 0
  · rw [if_pos h0] at h ⊢
    obtain ⟨hl, hck⟩ := asked_ok h0
    have := mg_fine l 0 [] hck (by simp) (fun y hy => by cases hy) h
    exact ⟨this.1, this.2.1, Nat.le_trans this.2.2 (by simpa using hl)⟩
  · rw [if_neg h0] at h
    exact absurd h h0
/-- What Merge leaves, merged again, is as it was. -/
theorem merge_twice {l : List Rl} (h : (mergeL l).2.1 = 0) : mergeL (mergeL l).1 = ((mergeL l).1, 0, 0) := by
  obtain ⟨h1, h2, h3⟩ := merge_fine h
  generalize (mergeL l).1 = m at *
  have ha := asked_all h3 (fun x hx => fine_ck (h2 x hx))
  unfold mergeL
  rw [ha, if_pos rfl]
  simpa using mg_fix m [] 0 (by simpa using h1) h2
end Go.Proofs.Ytkbcfbelpjifnaa.Spec
