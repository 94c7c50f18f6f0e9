/- What the printed functions on lists of texts come to: membership, each once, equal lists. -/
import Derived.Test.YtadfbbjplgbakaaGreatBase
import Derived.Test.YtadfbbjplgbakaaGreatPXx6
namespace Go.Proofs.YtadfbbjplgbakaaGreat.Plain
open Go.RowKit Go.Proofs.YtadfbbjplgbakaaGreatW.PrintWords Go.Proofs.YtadfbbjplgbakaaGreat.PX

theorem toList_inj {s t : ByteArray} : s.toList = t.toList ↔ s = t := ⟨fun h => L_inj (by rw [← toList_L, ← toList_L]; exact h), fun h => h ▸ rfl⟩
theorem rdOf_get {α : Type} {d : α} {xs : List α} {i : Nat} (h : i < xs.length) : rdOf d xs (i : Int) = xs[i] := rdOf_at (List.getElem?_eq_getElem h)
theorem drop_cons {α : Type} {xs : List α} {i : Nat} (h : i < xs.length) : xs.drop i = xs[i] :: xs.drop (i + 1) := List.drop_eq_getElem_cons h

/-- Is a text among some? -/
def memB (x : ByteArray) (l : List ByteArray) : Bool := l.any fun y => decide (y = x)
theorem memB_iff {x : ByteArray} {l : List ByteArray} : memB x l = true ↔ x ∈ l := by
  unfold memB
  rw [List.any_eq_true]
  constructor
  · rintro ⟨y, hy, e⟩
    rw [← of_decide_eq_true e]; exact hy
  · exact fun h => ⟨x, h, decide_eq_true rfl⟩
theorem memB_no {x : ByteArray} {l : List ByteArray} : memB x l = false ↔ ¬ x ∈ l := by
  rw [← memB_iff]; simp
theorem memB_of {x : ByteArray} {l : List ByteArray} {b : Bool} (h : b = true ↔ x ∈ l) : b = memB x l := by
  have := memB_iff (x := x) (l := l)
  cases b <;> cases hm : memB x l <;> simp_all
theorem index_loop (l : List ByteArray) (x : ByteArray) (hl : l.length ≤ 4611686018427387904) : ∀ (d i : Nat), i + d = l.length →
    ∃ r, Ev (fun k => slices_Index_string_string.l0 k l x (l.length : Int) (i : Int)) r ∧ (r ≥ 0 ↔ x ∈ l.drop i)
  | 0, i, hi => by
    obtain rfl : i = l.length := by omega
    exact ⟨-1, Ev.step (fun _ => rfl) (ev_neg (by omega) (ev_some rfl)), by simp⟩
  | d + 1, i, hi => by
    have hlt : i < l.length := by omega
    obtain ⟨r, h1, h2⟩ := index_loop l x hl d (i + 1) (by omega)
    rw [drop_cons hlt]
    by_cases hx : x = l[i]
    · refine ⟨(i : Int), Ev.step (fun _ => rfl) (ev_pos (by omega) (ev_pos (by omega) (ev_pos (by omega) (ev_pos ?_ (ev_some rfl))))), ?_⟩
      · rw [rdOf_get hlt]; exact toList_inj.2 hx
      · exact ⟨fun _ => hx ▸ List.mem_cons_self, fun _ => by omega⟩
    · refine ⟨r, Ev.step (fun _ => rfl) (ev_pos (by omega) (ev_pos (by omega) (ev_pos (by omega) (ev_neg ?_ ?_)))), ?_⟩
      · rw [rdOf_get hlt]; exact fun h => hx (toList_inj.1 h)
      · rw [wrap_id (by omega) (by omega)]; exact h1
      · rw [h2, List.mem_cons]
        exact ⟨.inr, fun h => h.resolve_left hx⟩
theorem contains_ev (l : List ByteArray) (x : ByteArray) (hl : l.length ≤ 4611686018427387904) : Ev (fun k => slices_Contains_string_string.f k l x) (memB x l) := by
  obtain ⟨r, h1, h2⟩ := index_loop l x hl l.length 0 (by omega)
  refine Ev.bind h1 (ev_some ?_)
  rw [List.drop_zero] at h2
  exact memB_of (by rw [← h2]; simp)
/-- The members that haven't come yet, behind those that have. -/
def uniq (acc : List ByteArray) : List ByteArray → List ByteArray
  | [] => acc
  | w :: l => if memB w acc = true then uniq acc l else uniq (acc ++ [w]) l
theorem uniq_len : ∀ (l acc : List ByteArray), (uniq acc l).length ≤ acc.length + l.length
  | [], acc => by simp [uniq]
  | w :: l, acc => by
    unfold uniq
    split
    · have := uniq_len l acc; simp; omega
    · have := uniq_len l (acc ++ [w]); simp at this ⊢; omega
theorem uniq_mem (x : ByteArray) : ∀ (l acc : List ByteArray), x ∈ uniq acc l ↔ x ∈ acc ∨ x ∈ l
  | [], acc => by simp [uniq]
  | w :: l, acc => by
    unfold uniq
    split
    · rename_i h
      have h := memB_iff.1 h
      rw [uniq_mem x l acc, List.mem_cons]
      constructor
      · rintro (h1 | h1)
        · exact .inl h1
        · exact .inr (.inr h1)
      · rintro (h1 | rfl | h1)
        · exact .inl h1
        · exact .inl h
        · exact .inr h1
    · rw [uniq_mem x l (acc ++ [w]), List.mem_append, List.mem_singleton, List.mem_cons, or_assoc]
theorem uniq_nodup : ∀ (l acc : List ByteArray), acc.Nodup → (uniq acc l).Nodup
  | [], acc, h => by simpa [uniq] using h
  | w :: l, acc, h => by
    unfold uniq
    split
    · exact uniq_nodup l acc h
    · rename_i hw
      have hw : ¬ w ∈ acc := fun hm => hw (memB_iff.2 hm)
      refine uniq_nodup l (acc ++ [w]) ?_
      rw [List.nodup_append]
      refine ⟨h, by simp, ?_⟩
      intro a ha b hb
      rw [List.mem_singleton.1 hb]
      exact fun e => hw (e ▸ ha)
theorem uniq_self : ∀ (l acc : List ByteArray), (acc ++ l).Nodup → uniq acc l = acc ++ l
  | [], acc, _ => by simp [uniq]
  | w :: l, acc, h => by
    unfold uniq
    have hw : ¬ w ∈ acc := by
      rw [List.nodup_append] at h
      exact fun hm => h.2.2 w hm w (by simp) rfl
    rw [if_neg (fun hm => hw (memB_iff.1 hm)), uniq_self l (acc ++ [w]) (by simpa using h)]
    simp
end Go.Proofs.YtadfbbjplgbakaaGreat.Plain
