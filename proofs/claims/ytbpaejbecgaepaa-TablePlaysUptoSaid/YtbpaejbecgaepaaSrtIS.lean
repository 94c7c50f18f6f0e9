/- Sorted lists of pairs: what putting and deleting do. -/
import Derived.Test.YtbpaejbecgaepaaRef2
namespace Go.Proofs.Ytbpaejbecgaepaa.TabIS
open Go Go.RowKit Go.Proofs

abbrev Prs := List (Int × ByteArray)
def rk (xs : Prs) (k : Int) : Nat := (xs.takeWhile fun x => decide (x.1 < k)).length
def Srt (xs : Prs) : Prop := xs.Pairwise fun x y => x.1 < y.1
theorem rk_cons (y : Int × ByteArray) (ys : Prs) (k : Int) : rk (y :: ys) k = if y.1 < k then rk ys k + 1 else 0 := by
  unfold rk
  rw [List.takeWhile_cons]
  by_cases h : y.1 < k <;> simp [h]
theorem place_rk : ∀ (xs : Prs) (k : Int), Srt xs → Place xs k (rk xs k)
  | [], k, _ => ⟨by simp [rk], fun i x h => by simp at h⟩
  | y :: ys, k, h => by
    obtain ⟨h1, h2⟩ := List.pairwise_cons.1 h
    obtain ⟨p1, p2⟩ := place_rk ys k h2
    rw [rk_cons]
    by_cases hy : y.1 < k
    · rw [if_pos hy]
      refine ⟨by simp; omega, fun i x hx => ?_⟩
      cases i with
      | zero => simp at hx; subst hx; simp [ltK, hy]
      | succ i => rw [p2 i x (by simpa using hx)]; omega
    · rw [if_neg hy]
      refine ⟨Nat.zero_le _, fun i x hx => ?_⟩
      constructor
      · intro hlt
        have : x.1 < k := by simpa [ltK] using hlt
        cases i with
        | zero => simp at hx; subst hx; exact absurd this hy
        | succ i =>
          have := h1 x (List.mem_of_getElem? (by simpa using hx))
          omega
      · omega
/-- A row's own place. -/
theorem place_own {xs : Prs} (h : Srt xs) {i : Nat} {x : Int × ByteArray} (hx : xs[i]? = some x) : Place xs x.1 i := by
  obtain ⟨hi, ex⟩ := List.getElem?_eq_some_iff.1 hx
  have hp := List.pairwise_iff_getElem.1 h
  refine ⟨by omega, fun j z hz => ?_⟩
  obtain ⟨hj, ez⟩ := List.getElem?_eq_some_iff.1 hz
  constructor
  · intro h
    have h2 : z.1 < x.1 := by simpa [ltK] using h
    by_cases hji : j < i
    · exact hji
    · by_cases e : i = j
      · subst e; rw [ex] at ez; subst ez; omega
      · have := hp i j hi hj (by omega); rw [ex, ez] at this; omega
  · intro h
    have := hp j i hj hi h
    rw [ex, ez] at this
    simpa [ltK] using this
theorem get_own {xs : Prs} {i : Nat} {x : Int × ByteArray} (hx : xs[i]? = some x) : getL xs x.1 i = (x.2, true) := by
  unfold getL
  rw [hx]
  simp [cmp_zero]
def insL (k : Int) (v : ByteArray) : Prs → Prs
  | [] => [(k, v)]
  | y :: ys => if y.1 < k then y :: insL k v ys else if y.1 = k then (y.1, v) :: ys else (k, v) :: y :: ys
theorem putL_insL : ∀ (xs : Prs) (k : Int) (v : ByteArray), putL xs k v (rk xs k) = insL k v xs
  | [], k, v => rfl
  | y :: ys, k, v => by
    have ih := putL_insL ys k v
    rw [rk_cons, insL]
    by_cases hy : y.1 < k
    · rw [if_pos hy, if_pos hy, ← ih]
      unfold putL
      rw [List.getElem?_cons_succ]
      cases hr : ys[rk ys k]? with
      | none => simp
      | some z => by_cases hz : (cmpK z.1 k == 0) = true <;> simp [hz]
    · rw [if_neg hy, if_neg hy]
      unfold putL
      simp only [List.getElem?_cons_zero, cmp_zero]
      by_cases h : y.1 = k <;> simp [h]
theorem insL_key (k : Int) (v : ByteArray) : ∀ (xs : Prs) (x : Int × ByteArray), x ∈ insL k v xs → x ∈ xs ∨ x.1 = k
  | [], x, h => by simp [insL] at h; exact .inr (by rw [h])
  | y :: ys, x, h => by
    rw [insL] at h
    split at h
    · rcases List.mem_cons.1 h with rfl | h
      · exact .inl List.mem_cons_self
      · exact (insL_key k v ys x h).imp (List.mem_cons_of_mem _) id
    · split at h
      · rename_i h2
        rcases List.mem_cons.1 h with rfl | h
        · exact .inr h2
        · exact .inl (List.mem_cons_of_mem _ h)
      · rcases List.mem_cons.1 h with rfl | h
        · exact .inr rfl
        · exact .inl h
theorem insL_srt (k : Int) (v : ByteArray) : ∀ (xs : Prs), Srt xs → Srt (insL k v xs)
  | [], _ => by simp [insL, Srt]
  | y :: ys, hs => by
    obtain ⟨h1, h2⟩ := List.pairwise_cons.1 hs
    rw [insL]
    split
    · rename_i hy
      refine List.pairwise_cons.2 ⟨fun z hz => ?_, insL_srt k v ys h2⟩
      rcases insL_key k v ys z hz with hz | hz
      · exact h1 z hz
      · rw [hz]; exact hy
    · split
      · exact List.pairwise_cons.2 ⟨h1, h2⟩
      · rename_i hy1 hy2
        refine List.pairwise_cons.2 ⟨fun z hz => ?_, hs⟩
        rcases List.mem_cons.1 hz with rfl | hz
        · show k < z.1; omega
        · have := h1 z hz; show k < z.1; omega
theorem insL_len (k : Int) (v : ByteArray) : ∀ xs : Prs, (insL k v xs).length ≤ xs.length + 1
  | [] => by simp [insL]
  | y :: ys => by
    have := insL_len k v ys
    rw [insL]
    split
    · simp; omega
    · split <;> simp
theorem delL_sub (xs : Prs) (k : Int) (r : Nat) : (delL xs k r).Sublist xs := by
  unfold delL
  split
  · have : (xs.take r ++ xs.drop (r + 1)).Sublist (xs.take r ++ xs.drop r) := by
      refine List.Sublist.append (List.Sublist.refl _) ?_
      rw [← List.drop_drop]
      exact List.drop_sublist _ _
    rwa [List.take_append_drop] at this
  · exact List.Sublist.refl _
theorem delL_srt {xs : Prs} (h : Srt xs) (k : Int) (r : Nat) : Srt (delL xs k r) := h.sublist (delL_sub xs k r)
theorem delL_len (xs : Prs) (k : Int) (r : Nat) : (delL xs k r).length ≤ xs.length := (delL_sub xs k r).length_le
theorem putL_srt {xs : Prs} (h : Srt xs) (k : Int) (v : ByteArray) : Srt (putL xs k v (rk xs k)) := by rw [putL_insL]; exact insL_srt k v xs h
theorem putL_len (xs : Prs) (k : Int) (v : ByteArray) : (putL xs k v (rk xs k)).length ≤ xs.length + 1 := by rw [putL_insL]; exact insL_len k v xs
end Go.Proofs.Ytbpaejbecgaepaa.TabIS
