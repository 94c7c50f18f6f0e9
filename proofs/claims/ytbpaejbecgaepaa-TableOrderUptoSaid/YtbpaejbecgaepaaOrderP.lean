/- A sorted list of keys, each its own value: what putting does. -/
import Derived.Test.YtbpaejbecgaepaaKeysII
namespace Go.Proofs.Ytbpaejbecgaepaa.TabII
open Go Go.RowKit Go.Proofs

/-- The place of a key. -/
def rk (xs : List (Int × Int)) (k : Int) : Nat := (xs.takeWhile fun x => decide (x.1 < k)).length
def Srt (xs : List (Int × Int)) : Prop := xs.Pairwise fun x y => x.1 < y.1
theorem rk_cons (y : Int × Int) (ys : List (Int × Int)) (k : Int) : rk (y :: ys) k = if y.1 < k then rk ys k + 1 else 0 := by
  unfold rk
  rw [List.takeWhile_cons]
  by_cases h : y.1 < k <;> simp [h]
theorem place_rk : ∀ (xs : List (Int × Int)) (k : Int), Srt xs → Place xs k (rk xs k)
  | [], k, _ => ⟨by simp [rk], fun i x h => by simp at h⟩
  | y :: ys, k, h => by
    obtain ⟨h1, h2⟩ := List.pairwise_cons.1 h
    obtain ⟨p1, p2⟩ := place_rk ys k h2
    rw [rk_cons]
    by_cases hy : y.1 < k
    · rw [if_pos hy]
      refine ⟨by simp; omega, fun i x hx => ?_⟩
      cases i with
      | zero => simp at hx; subst hx; simp [ltK, hy]
      | succ i => rw [p2 i x (by simpa using hx)]; omega
    · rw [if_neg hy]
      refine ⟨Nat.zero_le _, fun i x hx => ?_⟩
      constructor
      · intro hlt
        have : x.1 < k := by simpa [ltK] using hlt
        cases i with
        | zero => simp at hx; subst hx; exact absurd this hy
        | succ i =>
          have := h1 x (List.mem_of_getElem? (by simpa using hx))
          omega
      · omega
theorem cmp_zero (a b : Int) : (cmpK a b == 0) = decide (a = b) := by
  unfold cmpK ltK gtK
  by_cases h1 : a < b
  · simp [h1]; omega
  · by_cases h2 : b < a
    · simp [h1, h2]; omega
    · simp [h1, h2]; omega
/-- Putting, by recursion. -/
def insL (k : Int) : List (Int × Int) → List (Int × Int)
  | [] => [(k, k)]
  | y :: ys => if y.1 < k then y :: insL k ys else if y.1 = k then (y.1, k) :: ys else (k, k) :: y :: ys
theorem putL_insL : ∀ (xs : List (Int × Int)) (k : Int), putL xs k k (rk xs k) = insL k xs
  | [], k => rfl
  | y :: ys, k => by
    have ih := putL_insL ys k
    rw [rk_cons, insL]
    by_cases hy : y.1 < k
    · rw [if_pos hy, if_pos hy, ← ih]
      unfold putL
      rw [List.getElem?_cons_succ]
      cases hr : ys[rk ys k]? with
      | none => simp
      | some z => by_cases hz : (cmpK z.1 k == 0) = true <;> simp [hz]
    · rw [if_neg hy, if_neg hy]
      unfold putL
      simp only [List.getElem?_cons_zero, cmp_zero]
      by_cases h : y.1 = k <;> simp [h]
theorem has_rk (xs : List (Int × Int)) (k : Int) (r : Nat) : hasAt xs k r = true → ∃ x, xs[r]? = some x ∧ x.1 = k := by
  unfold hasAt
  cases h : xs[r]? with
  | none => intro h; cases h
  | some x => intro h2; have h3 : (cmpK x.1 k == 0) = true := h2; rw [cmp_zero] at h3; exact ⟨x, rfl, by simpa using h3⟩
theorem insL_mem (k : Int) : ∀ (xs : List (Int × Int)), (∀ x ∈ xs, x.2 = x.1) → ∀ x, x ∈ insL k xs ↔ x ∈ xs ∨ x = (k, k)
  | [], _, x => by simp [insL]
  | y :: ys, h, x => by
    have ih := insL_mem k ys (fun z hz => h z (List.mem_cons_of_mem _ hz)) x
    have hy2 := h y List.mem_cons_self
    rw [insL]
    split
    · rw [List.mem_cons, ih, List.mem_cons, or_assoc]
    · split
      · rename_i h1 h2
        have e : (y.1, k) = y := Prod.ext rfl (show k = y.2 by rw [hy2, h2])
        have e2 : (k, k) = y := Prod.ext h2.symm (show k = y.2 by rw [hy2, h2])
        rw [e, e2, List.mem_cons]
        constructor
        · intro h; exact .inl h
        · rintro (h | h)
          · exact h
          · exact .inl h
      · simp only [List.mem_cons]
        constructor
        · rintro (h | h | h)
          · exact .inr h
          · exact .inl (.inl h)
          · exact .inl (.inr h)
        · rintro ((h | h) | h)
          · exact .inr (.inl h)
          · exact .inr (.inr h)
          · exact .inl h
theorem insL_srt (k : Int) : ∀ (xs : List (Int × Int)), (∀ x ∈ xs, x.2 = x.1) → Srt xs → Srt (insL k xs)
  | [], _, _ => by simp [insL, Srt]
  | y :: ys, h, hs => by
    obtain ⟨h1, h2⟩ := List.pairwise_cons.1 hs
    have hd := fun z hz => h z (List.mem_cons_of_mem y hz)
    rw [insL]
    split
    · rename_i hy
      refine List.pairwise_cons.2 ⟨fun z hz => ?_, insL_srt k ys hd h2⟩
      rcases (insL_mem k ys hd z).1 hz with hz | rfl
      · exact h1 z hz
      · exact hy
    · split
      · exact List.pairwise_cons.2 ⟨h1, h2⟩
      · rename_i hy1 hy2
        refine List.pairwise_cons.2 ⟨fun z hz => ?_, hs⟩
        rcases List.mem_cons.1 hz with rfl | hz
        · show k < z.1; omega
        · have := h1 z hz; show k < z.1; omega
theorem insL_len (k : Int) : ∀ xs : List (Int × Int), (insL k xs).length ≤ xs.length + 1
  | [] => by simp [insL]
  | y :: ys => by
    have := insL_len k ys
    rw [insL]
    split
    · simp; omega
    · split <;> simp
/-- Two sorted lists with the same members are one. -/
theorem srt_ext : ∀ (xs ys : List (Int × Int)), Srt xs → Srt ys → (∀ x, x ∈ xs ↔ x ∈ ys) → xs = ys
  | [], [], _, _, _ => rfl
  | [], y :: ys, _, _, h => absurd ((h y).2 List.mem_cons_self) (by simp)
  | x :: xs, [], _, _, h => absurd ((h x).1 List.mem_cons_self) (by simp)
  | x :: xs, y :: ys, hx, hy, h => by
    obtain ⟨a1, a2⟩ := List.pairwise_cons.1 hx
    obtain ⟨b1, b2⟩ := List.pairwise_cons.1 hy
    have e : x = y := by
      rcases List.mem_cons.1 ((h x).1 List.mem_cons_self) with e | hm
      · exact e
      · rcases List.mem_cons.1 ((h y).2 List.mem_cons_self) with e | hn
        · exact e.symm
        · have := b1 x hm; have := a1 y hn; omega
    subst e
    congr 1
    refine srt_ext xs ys a2 b2 (fun z => ?_)
    have hz := h z
    rw [List.mem_cons, List.mem_cons] at hz
    constructor
    · intro hm
      rcases hz.1 (.inr hm) with rfl | h2
      · exact absurd (a1 z hm) (by omega)
      · exact h2
    · intro hm
      rcases hz.2 (.inr hm) with rfl | h2
      · exact absurd (b1 z hm) (by omega)
      · exact h2
/-- What has come of the keys put so far. -/
structure Good (S : Int → Prop) (xs : List (Int × Int)) : Prop where
  srt : Srt xs
  diag : ∀ x ∈ xs, x.2 = x.1
  mem : ∀ k, (k, k) ∈ xs ↔ S k
theorem Good.put {S : Int → Prop} {xs : List (Int × Int)} (h : Good S xs) (k : Int) : Good (fun q => S q ∨ q = k) (insL k xs) := by
  refine ⟨insL_srt k xs h.diag h.srt, fun x hx => ?_, fun q => ?_⟩
  · rcases (insL_mem k xs h.diag x).1 hx with hx | rfl
    · exact h.diag x hx
    · rfl
  · rw [insL_mem k xs h.diag, h.mem]
    simp
theorem Good.one {S : Int → Prop} {xs ys : List (Int × Int)} (h : Good S xs) (k : Good S ys) : xs = ys := by
  refine srt_ext xs ys h.srt k.srt (fun x => ?_)
  have e : ∀ zs : List (Int × Int), (∀ z ∈ zs, z.2 = z.1) → x ∈ zs → x = (x.1, x.1) := fun zs hz hx => by
    have := hz x hx
    exact Prod.ext rfl this
  constructor
  · intro hx
    have e1 := e xs h.diag hx
    rw [e1] at hx ⊢
    exact (k.mem _).2 ((h.mem _).1 hx)
  · intro hx
    have e1 := e ys k.diag hx
    rw [e1] at hx ⊢
    exact (h.mem _).2 ((k.mem _).1 hx)
theorem Good.nil : Good (fun _ => False) [] := ⟨List.Pairwise.nil, by simp, by simp⟩
end Go.Proofs.Ytbpaejbecgaepaa.TabII
