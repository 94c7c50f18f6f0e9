/- What Merge leaves holds every line's needs once, in order: the plain law. -/
import Derived.Test.YtkbcfbelpjifnaaSpec9
namespace Go.Proofs.Ytkbcfbelpjifnaa.Spec
open Go Go.RowKit Go.Proofs Go.Proofs.YtkbcfbelpjifnaaW.PrintWords Go.Proofs.Ytkbcfbelpjifnaa.PX Go.Proofs.Ytkbcfbelpjifnaa.Plain
set_option linter.unusedVariables false
set_option linter.unusedSimpArgs false

theorem uniq_app : ∀ (l1 l2 acc : List ByteArray), uniq acc (l1 ++ l2) = uniq (uniq acc l1) l2
  | [], l2, acc => rfl
  | x :: l1, l2, acc => by
    have hs : ∀ l, uniq acc (x :: l) = if memB x acc = true then uniq acc l else uniq (acc ++ [x]) l := fun _ => rfl
    rw [List.cons_append, hs (l1 ++ l2), hs l1]
    by_cases h : memB x acc = true
    · rw [if_pos h, if_pos h]; exact uniq_app l1 l2 acc
    · rw [if_neg h, if_neg h]; exact uniq_app l1 l2 (acc ++ [x])
theorem uniq_uniq (a b : List ByteArray) : uniq [] (uniq [] a ++ b) = uniq [] (a ++ b) := by
  rw [uniq_app, uniq_app, uniq_twice]
/-- The needs of all the lines of a target, in order. -/
def gather (s : ByteArray) : List Rl → List ByteArray
  | [] => []
  | x :: l => (if x.f0 = s then x.f1 else []) ++ gather s l
theorem gather_app (s : ByteArray) : ∀ (a b : List Rl), gather s (a ++ b) = gather s a ++ gather s b
  | [], b => rfl
  | x :: a, b => by simp [gather, gather_app s a b]
theorem put1_at {m : List Rl} {s : ByteArray} {y : Rl} (h : (put1 m s)[ixOf s (nms m)]? = some y) : y.f0 = s := by
  have hn : (nms (put1 m s))[ixOf s (nms m)]? = some y.f0 := by unfold nms; rw [List.getElem?_map, h]; rfl
  rw [put1_names] at hn
  by_cases hm : memB s (nms m) = true
  · rw [if_pos hm, ixOf_at (memB_iff.1 hm)] at hn
    exact (Option.some.inj hn).symm
  · have hno : s ∉ nms m := memB_no.1 (by simpa using hm)
    rw [if_neg hm, ixOf_no hno] at hn
    simp at hn
    exact hn.symm
theorem mg_gather : ∀ (l : List Rl) (i : Nat) (m P : List Rl), (nms m).Nodup → (∀ y ∈ m, y.f1 = uniq [] (gather y.f0 P)) → (∀ s, s ∉ nms m → gather s P = []) → (mg i m l).2.1 = 0 →
    ∀ y ∈ (mg i m l).1, y.f1 = uniq [] (gather y.f0 (P ++ l))
  | [], i, m, P, hnd, hf, _, _ => by simpa [mg] using hf
  | x :: l, i, m, P, hnd, hf, hno, h => by
    unfold mg at h ⊢
    have hj := put1_len (m := m) (s := x.f0)
    obtain ⟨y, hy⟩ : ∃ y, (put1 m x.f0)[ixOf x.f0 (nms m)]? = some y := ⟨_, List.getElem?_eq_getElem hj⟩
    have hy0 := put1_at hy
    have hf1 : ∀ z ∈ put1 m x.f0, z.f1 = uniq [] (gather z.f0 P) := by
      unfold put1
      split
      · exact hf
      · rename_i hm
        intro z hz
        rcases List.mem_append.1 hz with hz | hz
        · exact hf z hz
        · rw [List.mem_singleton.1 hz, hno x.f0 (memB_no.1 (by simpa using hm))]
          rfl
    have hnd1 : (nms (put1 m x.f0)).Nodup := by
      rw [put1_names]
      split
      · exact hnd
      · rename_i hm
        have hno : x.f0 ∉ nms m := memB_no.1 (by simpa using hm)
        rw [List.nodup_append]
        exact ⟨hnd, by simp, fun a ha b hb e => hno (by rw [List.mem_singleton.1 hb] at e; rw [← e]; exact ha)⟩
    have hno1 : ∀ s, s ∉ nms (put1 m x.f0) → s ≠ x.f0 ∧ gather s P = [] := by
      intro s hs
      rw [put1_names] at hs
      split at hs
      · rename_i hm
        exact ⟨fun e => hs (by rw [e]; exact memB_iff.1 hm), hno s hs⟩
      · simp at hs
        exact ⟨hs.2, hno s (by simpa using hs.1)⟩
    generalize put1 m x.f0 = M at *
    generalize ixOf x.f0 (nms m) = j at *
    have hgd : M.getD j dfl = y := by rw [List.getD_eq_getElem?_getD, hy]; rfl
    rw [hgd] at h ⊢
    by_cases hb : x.f3 = true ∧ y.f3 = true
    · rw [if_pos hb] at h; cases h
    · rw [if_neg hb] at h ⊢
      by_cases h6 : 64 < (uniq [] (y.f1 ++ x.f1)).length
      · rw [if_pos h6] at h; cases h
      · rw [if_neg h6] at h ⊢
        have hg : ∀ s, gather s (P ++ [x]) = gather s P ++ (if x.f0 = s then x.f1 else []) := fun s => by rw [gather_app]; simp [gather]
        have := mg_gather l (i + 1) (M.set j (upd x y)) (P ++ [x]) (by rw [set_names hy (upd_f0 x y)]; exact hnd1) (fun z hz => by
          obtain ⟨k, hk⟩ := List.mem_iff_getElem?.1 hz
          rw [List.getElem?_set] at hk
          split at hk
          · have e := (Option.some.inj hk).symm
            rw [e, upd_f1, upd_f0, hg, hy0, if_pos rfl, hf1 y (List.mem_of_getElem? hy), hy0, uniq_uniq]
          · rename_i hjk
            have hz0 : z.f0 ≠ x.f0 := by
              intro e
              have hk' : (nms M)[k]? = some x.f0 := by unfold nms; rw [List.getElem?_map, hk, ← e]; rfl
              have hj' : (nms M)[j]? = some x.f0 := by unfold nms; rw [List.getElem?_map, hy, ← hy0]; rfl
              have hkl := (List.getElem?_eq_some_iff.1 hk')
              have hjl := (List.getElem?_eq_some_iff.1 hj')
              exact hjk ((List.getElem_inj hnd1).1 (hjl.2.trans hkl.2.symm))
            rw [hg, if_neg (fun e => hz0 e.symm), List.append_nil]
            exact hf1 z (List.mem_of_getElem? hk)) (fun s hs => by
          rw [set_names hy (upd_f0 x y)] at hs
          obtain ⟨a, b⟩ := hno1 s hs
          rw [hg, if_neg (fun e => a e.symm), b]
          rfl) h
        intro z hz
        rw [this z hz, List.append_assoc]
        rfl
theorem merge_gather {l : List Rl} (h : (mergeL l).2.1 = 0) : ∀ y ∈ (mergeL l).1, y.f1 = uniq [] (gather y.f0 l) := by
  unfold mergeL at h ⊢
  by_cases h0 : (askedL l).1 = 0
  · rw [if_pos h0] at h ⊢
    exact mg_gather l 0 [] [] (by simp) (fun y hy => by cases hy) (fun s _ => rfl) h
  · rw [if_neg h0] at h
    exact absurd h h0
/-- Where Merge finds a fault it leaves nothing. -/
theorem mg_nil : ∀ (l : List Rl) (i : Nat) (m : List Rl), (mg i m l).2.1 ≠ 0 → (mg i m l).1 = []
  | [], i, m, h => absurd rfl h
  | x :: l, i, m, h => by
    unfold mg at h ⊢
    split
    · rfl
    · rename_i h1
      rw [if_neg h1] at h
      split
      · rfl
      · rename_i h2
        rw [if_neg h2] at h
        exact mg_nil l (i + 1) _ h
theorem merge_nil {l : List Rl} (h : (mergeL l).2.1 ≠ 0) : (mergeL l).1 = [] := by
  unfold mergeL at h ⊢
  by_cases h0 : (askedL l).1 = 0
  · rw [if_pos h0] at h ⊢
    exact mg_nil l 0 [] h
  · rw [if_neg h0]
end Go.Proofs.Ytkbcfbelpjifnaa.Spec
