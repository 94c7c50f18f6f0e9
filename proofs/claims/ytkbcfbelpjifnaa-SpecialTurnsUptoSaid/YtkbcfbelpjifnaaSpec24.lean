/- Two neighbours of unlike targets may change places: the plain law. -/
import Derived.Test.YtkbcfbelpjifnaaSpec10
namespace Go.Proofs.Ytkbcfbelpjifnaa.Spec
open Go Go.RowKit Go.Proofs Go.Proofs.YtkbcfbelpjifnaaW.PrintWords Go.Proofs.Ytkbcfbelpjifnaa.PX Go.Proofs.Ytkbcfbelpjifnaa.Plain
set_option linter.unusedVariables false
set_option linter.unusedSimpArgs false

/-- The rule of a target, as it stands; a new one, if there is none. -/
def lk (m : List Rl) (s : ByteArray) : Rl := (put1 m s).getD (ixOf s (nms m)) dfl
def bad (x y : Rl) : Prop := (x.f3 = true ∧ y.f3 = true) ∨ 64 < (uniq [] (y.f1 ++ x.f1)).length
def stp (m : List Rl) (x : Rl) : List Rl := (put1 m x.f0).set (ixOf x.f0 (nms m)) (upd x (lk m x.f0))
def okL (m : List Rl) : List Rl → Prop
  | [] => True
  | x :: l => ¬ bad x (lk m x.f0) ∧ okL (stp m x) l
def fin (m : List Rl) : List Rl → List Rl
  | [] => m
  | x :: l => fin (stp m x) l
theorem mg_ok : ∀ (l : List Rl) (i : Nat) (m : List Rl), ((mg i m l).2.1 = 0 ↔ okL m l) ∧ (okL m l → (mg i m l).1 = fin m l)
  | [], i, m => ⟨by simp [mg, okL], fun _ => rfl⟩
  | x :: l, i, m => by
    have ih := mg_ok l (i + 1) (stp m x)
    have e1 : ((put1 m x.f0).set (ixOf x.f0 (nms m)) (upd x ((put1 m x.f0).getD (ixOf x.f0 (nms m)) dfl))) = stp m x := rfl
    have e2 : (put1 m x.f0).getD (ixOf x.f0 (nms m)) dfl = lk m x.f0 := rfl
    rw [mg, e1, e2]
    unfold okL fin bad
    by_cases h1 : x.f3 = true ∧ (lk m x.f0).f3 = true
    · rw [if_pos h1]
      exact ⟨⟨(fun h => by cases h), fun h => absurd (Or.inl h1) h.1⟩, fun h => absurd (Or.inl h1) h.1⟩
    · rw [if_neg h1]
      by_cases h2 : 64 < (uniq [] ((lk m x.f0).f1 ++ x.f1)).length
      · rw [if_pos h2]
        exact ⟨⟨(fun h => by cases h), fun h => absurd (Or.inr h2) h.1⟩, fun h => absurd (Or.inr h2) h.1⟩
      · rw [if_neg h2]
        have hno : ¬ ((x.f3 = true ∧ (lk m x.f0).f3 = true) ∨ 64 < (uniq [] ((lk m x.f0).f1 ++ x.f1)).length) := fun h => h.elim h1 h2
        exact ⟨⟨fun h => ⟨hno, ih.1.1 h⟩, fun h => ih.1.2 h.2⟩, fun h => ih.2 h.2⟩
theorem nodup_inj {m : List Rl} (nd : (nms m).Nodup) : ∀ {a b : Rl}, a ∈ m → b ∈ m → a.f0 = b.f0 → a = b := by
  induction m with
  | nil => intro a b h; cases h
  | cons c m ih =>
    intro a b ha hb e
    rw [nms, List.map_cons, List.nodup_cons] at nd
    rcases List.mem_cons.1 ha with h1 | h1
    · rcases List.mem_cons.1 hb with h2 | h2
      · rw [h1, h2]
      · refine absurd (List.mem_map.2 ⟨b, h2, ?_⟩) nd.1
        rw [← e, h1]
    · rcases List.mem_cons.1 hb with h2 | h2
      · refine absurd (List.mem_map.2 ⟨a, h1, ?_⟩) nd.1
        rw [e, h2]
      · exact ih nd.2 h1 h2 e
theorem put1_nodup {m : List Rl} (nd : (nms m).Nodup) (s : ByteArray) : (nms (put1 m s)).Nodup := by
  rw [put1_names]
  split
  · exact nd
  · rename_i hm
    have hno : s ∉ nms m := memB_no.1 (by simpa using hm)
    rw [List.nodup_append]
    exact ⟨nd, by simp, fun a ha b hb e => hno (by rw [List.mem_singleton.1 hb] at e; rw [← e]; exact ha)⟩
theorem lk_at (m : List Rl) (s : ByteArray) : (put1 m s)[ixOf s (nms m)]? = some (lk m s) := by
  have hj := put1_len (m := m) (s := s)
  unfold lk
  rw [List.getD_eq_getElem?_getD, List.getElem?_eq_getElem hj]; rfl
theorem lk_f0 (m : List Rl) (s : ByteArray) : (lk m s).f0 = s := put1_at (lk_at m s)
theorem put1_mem {m : List Rl} {s : ByteArray} {r : Rl} (h : r.f0 ≠ s) : r ∈ put1 m s ↔ r ∈ m := by
  unfold put1
  split
  · exact Iff.rfl
  · rw [List.mem_append]
    refine ⟨fun hr => hr.elim id fun hr => ?_, Or.inl⟩
    rw [List.mem_singleton.1 hr] at h
    exact absurd rfl h
theorem lk_mem {m : List Rl} (nd : (nms m).Nodup) {r : Rl} (h : r ∈ m) : lk m r.f0 = r := by
  have h1 : r ∈ put1 m r.f0 := by
    unfold put1
    split
    · exact h
    · exact List.mem_append_left _ h
  exact nodup_inj (put1_nodup nd r.f0) (List.mem_of_getElem? (lk_at m r.f0)) h1 (lk_f0 m r.f0)
theorem lk_new {m : List Rl} {s : ByteArray} (h : ∀ r ∈ m, r.f0 ≠ s) : lk m s = ⟨s, [], [], false⟩ := by
  have hno : s ∉ nms m := fun hs => by
    obtain ⟨r, hr, e⟩ := List.mem_map.1 hs
    exact h r hr e
  have h1 := lk_at m s
  rw [ixOf_no hno] at h1
  unfold put1 at h1
  rw [memB_no.2 hno] at h1
  simp at h1
  exact h1.symm
theorem stp_names (m : List Rl) (x : Rl) : nms (stp m x) = nms (put1 m x.f0) := set_names (lk_at m x.f0) (upd_f0 x _)
theorem stp_nodup {m : List Rl} (nd : (nms m).Nodup) (x : Rl) : (nms (stp m x)).Nodup := by rw [stp_names]; exact put1_nodup nd x.f0
theorem stp_mem {m : List Rl} (nd : (nms m).Nodup) (x r : Rl) : r ∈ stp m x ↔ r = upd x (lk m x.f0) ∨ (r ∈ m ∧ r.f0 ≠ x.f0) := by
  have hu : (upd x (lk m x.f0)).f0 = x.f0 := (upd_f0 x _).trans (lk_f0 m x.f0)
  have hj := put1_len (m := m) (s := x.f0)
  have hin : upd x (lk m x.f0) ∈ stp m x := List.mem_set (h := hj) (a := _)
  constructor
  · intro h
    by_cases e : r.f0 = x.f0
    · exact Or.inl (nodup_inj (stp_nodup nd x) h hin (e.trans hu.symm))
    · rcases List.mem_or_eq_of_mem_set h with h | h
      · exact Or.inr ⟨(put1_mem e).1 h, e⟩
      · exact Or.inl h
  · rintro (rfl | ⟨h, e⟩)
    · exact hin
    · have h1 := (put1_mem e).2 h
      obtain ⟨i, hi⟩ := List.mem_iff_getElem?.1 h1
      have hne : ixOf x.f0 (nms m) ≠ i := fun e2 => by
        rw [← e2, lk_at] at hi
        injection hi with hi
        exact e (by rw [← hi]; exact lk_f0 _ _)
      refine List.mem_iff_getElem?.2 ⟨i, ?_⟩
      unfold stp
      rw [List.getElem?_set_ne hne]
      exact hi
/-- Two states that have the same rules. -/
structure Sim (a b : List Rl) : Prop where
  na : (nms a).Nodup
  nb : (nms b).Nodup
  same : ∀ r, r ∈ a ↔ r ∈ b
theorem Sim.lk {a b : List Rl} (h : Sim a b) (s : ByteArray) : lk a s = lk b s := by
  by_cases hs : ∃ r ∈ a, r.f0 = s
  · obtain ⟨r, hr, rfl⟩ := hs
    rw [lk_mem h.na hr, lk_mem h.nb ((h.same r).1 hr)]
  · rw [lk_new (fun r hr e => hs ⟨r, hr, e⟩), lk_new (fun r hr e => hs ⟨r, (h.same r).2 hr, e⟩)]
theorem Sim.stp {a b : List Rl} (h : Sim a b) (x : Rl) : Sim (stp a x) (stp b x) :=
  ⟨stp_nodup h.na x, stp_nodup h.nb x, fun r => by rw [stp_mem h.na, stp_mem h.nb, h.lk, h.same]⟩
theorem Sim.fin : ∀ (l : List Rl) {a b : List Rl}, Sim a b → (okL a l ↔ okL b l) ∧ Sim (fin a l) (fin b l)
  | [], a, b, h => ⟨Iff.rfl, h⟩
  | x :: l, a, b, h => by
    have ih := Sim.fin l (h.stp x)
    unfold okL Spec.fin
    rw [h.lk, ih.1]
    exact ⟨Iff.rfl, ih.2⟩
theorem lk_stp {m : List Rl} (nd : (nms m).Nodup) {x : Rl} {s : ByteArray} (h : s ≠ x.f0) : lk (stp m x) s = lk m s := by
  by_cases hs : ∃ r ∈ m, r.f0 = s
  · obtain ⟨r, hr, rfl⟩ := hs
    rw [lk_mem nd hr, lk_mem (stp_nodup nd x) ((stp_mem nd x r).2 (Or.inr ⟨hr, h⟩))]
  · rw [lk_new (fun r hr e => hs ⟨r, hr, e⟩), lk_new (fun r hr e => ?_)]
    rcases (stp_mem nd x r).1 hr with rfl | ⟨h1, _⟩
    · exact h (by rw [← e, upd_f0, lk_f0])
    · exact hs ⟨r, h1, e⟩
theorem two_sim {m : List Rl} (nd : (nms m).Nodup) {x y : Rl} (h : x.f0 ≠ y.f0) : Sim (stp (stp m x) y) (stp (stp m y) x) := by
  refine ⟨stp_nodup (stp_nodup nd x) y, stp_nodup (stp_nodup nd y) x, fun r => ?_⟩
  rw [stp_mem (stp_nodup nd x), stp_mem nd, stp_mem (stp_nodup nd y), stp_mem nd, lk_stp nd h.symm, lk_stp nd h]
  have e1 : (upd x (lk m x.f0)).f0 = x.f0 := (upd_f0 x _).trans (lk_f0 m x.f0)
  have e2 : (upd y (lk m y.f0)).f0 = y.f0 := (upd_f0 y _).trans (lk_f0 m y.f0)
  constructor
  · rintro (rfl | ⟨rfl | ⟨h1, h2⟩, h3⟩)
    · exact Or.inr ⟨Or.inl rfl, by rw [e2]; exact h.symm⟩
    · exact Or.inl rfl
    · exact Or.inr ⟨Or.inr ⟨h1, h3⟩, h2⟩
  · rintro (rfl | ⟨rfl | ⟨h1, h2⟩, h3⟩)
    · exact Or.inr ⟨Or.inl rfl, by rw [e1]; exact h⟩
    · exact Or.inl rfl
    · exact Or.inr ⟨Or.inr ⟨h1, h3⟩, h2⟩
/-- Behind a change of places: the same is right, and the same comes of it. -/
theorem swap_sim : ∀ (p q : List Rl) {x y : Rl} {m : List Rl}, (nms m).Nodup → x.f0 ≠ y.f0 → (okL m (p ++ x :: y :: q) ↔ okL m (p ++ y :: x :: q)) ∧ Sim (fin m (p ++ x :: y :: q)) (fin m (p ++ y :: x :: q))
  | [], q, x, y, m, nd, h => by
    have hs := Sim.fin q (two_sim nd h)
    simp only [List.nil_append, okL, Spec.fin]
    rw [lk_stp nd h.symm, lk_stp nd h, hs.1]
    exact ⟨⟨fun ⟨a, b, c⟩ => ⟨b, a, c⟩, fun ⟨a, b, c⟩ => ⟨b, a, c⟩⟩, hs.2⟩
  | z :: p, q, x, y, m, nd, h => by
    have ih := swap_sim p q (stp_nodup nd z) h
    simp only [List.cons_append, okL, Spec.fin]
    rw [ih.1]
    exact ⟨Iff.rfl, ih.2⟩
theorem Sim.len {a b : List Rl} (h : Sim a b) : a.length = b.length := by
  have nda : ∀ {m : List Rl}, (nms m).Nodup → m.Nodup := fun {m} hm => by
    unfold nms at hm
    exact List.Pairwise.imp (fun {a b} hab e => hab (by rw [e])) (List.pairwise_map.1 hm)
  exact ((List.perm_ext_iff_of_nodup (nda h.na) (nda h.nb)).2 h.same).length_eq
theorem ask_iff : ∀ (l : List Rl) (i : Nat), (askL i l).1 = 0 ↔ ∀ x ∈ l, ckRule x = 0
  | [], i => by simp [askL]
  | x :: l, i => by
    have ih := ask_iff l (i + 1)
    unfold askL
    by_cases h : ckRule x = 0
    · rw [if_pos h, ih]
      simp [h]
    · rw [if_neg h]
      simp [h]
theorem asked_iff (l : List Rl) : (askedL l).1 = 0 ↔ l.length ≤ 512 ∧ ∀ x ∈ l, ckRule x = 0 := by
  unfold askedL
  by_cases h : 512 < l.length
  · rw [if_pos h]
    exact ⟨(fun e => by cases e), fun e => by omega⟩
  · rw [if_neg h, ask_iff]
    exact ⟨fun e => ⟨by omega, e⟩, fun e => e.2⟩
/-- The plain law of SpecialTurns. -/
theorem merge_swap (p q : List Rl) {x y : Rl} (h : x.f0 ≠ y.f0) : ((mergeL (p ++ x :: y :: q)).2.1 = 0 ↔ (mergeL (p ++ y :: x :: q)).2.1 = 0) ∧
    ((mergeL (p ++ x :: y :: q)).2.1 = 0 → (mergeL (p ++ x :: y :: q)).1.length = (mergeL (p ++ y :: x :: q)).1.length ∧ ∀ r ∈ (mergeL (p ++ x :: y :: q)).1, r ∈ (mergeL (p ++ y :: x :: q)).1) := by
  have hs := swap_sim p q (m := []) (by simp) h
  have h1 := mg_ok (p ++ x :: y :: q) 0 []
  have h2 := mg_ok (p ++ y :: x :: q) 0 []
  have ha : (askedL (p ++ x :: y :: q)).1 = 0 ↔ (askedL (p ++ y :: x :: q)).1 = 0 := by
    rw [asked_iff, asked_iff]
    have : ∀ z, z ∈ p ++ x :: y :: q ↔ z ∈ p ++ y :: x :: q := fun z => by simp; exact ⟨fun h => by rcases h with h | h | h | h <;> simp [h], fun h => by rcases h with h | h | h | h <;> simp [h]⟩
    simp only [this]
    simp
  unfold mergeL
  by_cases hk : (askedL (p ++ x :: y :: q)).1 = 0
  · rw [if_pos hk, if_pos (ha.1 hk), h1.1, h2.1, hs.1]
    refine ⟨Iff.rfl, fun ho => ?_⟩
    rw [h1.2 (hs.1.2 ho), h2.2 ho]
    exact ⟨hs.2.len, fun r hr => (hs.2.same r).1 hr⟩
  · rw [if_neg hk, if_neg (fun e => hk (ha.2 e))]
    exact ⟨⟨fun e => absurd e hk, fun e => absurd (ha.2 e) hk⟩, fun e => absurd e hk⟩
end Go.Proofs.Ytkbcfbelpjifnaa.Spec
