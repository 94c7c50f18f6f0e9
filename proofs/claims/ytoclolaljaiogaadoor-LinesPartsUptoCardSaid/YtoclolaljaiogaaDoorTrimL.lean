/- Blanks at the ends of bytes: plain lists, no program in sight. -/
namespace Go.Proofs.YtoclolaljaiogaaDoor.Plain

/-- Is a byte a blank? -/
def blk (b : UInt8) : Bool := b == 32 || b == 9
/-- Bytes without blanks at the front; at the end; at both. -/
def frontL (l : List UInt8) : List UInt8 := l.dropWhile blk
def endL (l : List UInt8) : List UInt8 := (l.reverse.dropWhile blk).reverse
def trimL (l : List UInt8) : List UInt8 := endL (frontL l)
theorem cs_blk : (fun b : UInt8 => ([32, 9] : List UInt8).contains b) = blk := by
  funext b
  simp only [blk, List.contains, List.elem]
  cases b == 32 <;> cases b == 9 <;> rfl
theorem endL_nil : endL [] = [] := rfl
theorem endL_cons (a : UInt8) (t : List UInt8) : endL (a :: t) = if endL t = [] then (if blk a = true then [] else [a]) else a :: endL t := by
  unfold endL
  rw [List.reverse_cons, List.dropWhile_append]
  by_cases h : t.reverse.dropWhile blk = []
  · simp only [h, List.isEmpty_nil, if_true, List.reverse_nil]
    by_cases hb : blk a = true
    · simp [List.dropWhile, hb]
    · have hb' : blk a = false := by simpa using hb
      simp [List.dropWhile, hb']
  · have h2 : (t.reverse.dropWhile blk).isEmpty = false := by simpa using h
    rw [h2]
    simp [h]
theorem front_blk {a : UInt8} {t : List UInt8} (h : blk a = true) : frontL (a :: t) = frontL t := by
  unfold frontL; rw [List.dropWhile_cons, if_pos h]
theorem front_head {a : UInt8} {t : List UInt8} (h : blk a = false) : frontL (a :: t) = a :: t := by
  unfold frontL; rw [List.dropWhile_cons, if_neg (by rw [h]; decide)]
theorem end_last {b : UInt8} {t : List UInt8} (h : blk b = false) : endL (t ++ [b]) = t ++ [b] := by
  unfold endL
  rw [List.reverse_append, List.reverse_singleton, List.singleton_append, List.dropWhile_cons, if_neg (by rw [h]; decide)]
  simp
theorem end_blk {b : UInt8} {t : List UInt8} (h : blk b = true) : endL (t ++ [b]) = endL t := by
  unfold endL
  rw [List.reverse_append, List.reverse_singleton, List.singleton_append, List.dropWhile_cons, if_pos h]
theorem front_end : ∀ l : List UInt8, frontL (endL l) = endL (frontL l)
  | [] => rfl
  | a :: t => by
    have ih := front_end t
    rw [endL_cons]
    cases hb : blk a with
    | true =>
      rw [front_blk hb, ← ih]
      by_cases h : endL t = []
      · rw [if_pos h, if_pos rfl, h]
      · rw [if_neg h, front_blk hb]
    | false =>
      rw [front_head hb, endL_cons, hb]
      by_cases h : endL t = []
      · rw [if_pos h, if_neg (by decide)]
        exact front_head hb
      · rw [if_neg h]
        exact front_head hb
theorem dw_len (p : UInt8 → Bool) (l : List UInt8) : (l.dropWhile p).length ≤ l.length := (List.dropWhile_sublist p).length_le
theorem front_len (l : List UInt8) : (frontL l).length ≤ l.length := dw_len _ _
theorem end_len (l : List UInt8) : (endL l).length ≤ l.length := by
  unfold endL
  rw [List.length_reverse]
  exact Nat.le_trans (dw_len _ _) (by rw [List.length_reverse]; exact Nat.le_refl _)
theorem trim_len (l : List UInt8) : (trimL l).length ≤ l.length := Nat.le_trans (end_len _) (front_len _)
theorem front_mem {l : List UInt8} {b : UInt8} (h : b ∈ frontL l) : b ∈ l := (List.dropWhile_sublist _).subset h
theorem end_mem {l : List UInt8} {b : UInt8} (h : b ∈ endL l) : b ∈ l := by
  unfold endL at h
  exact List.mem_reverse.1 ((List.dropWhile_sublist _).subset (List.mem_reverse.1 h))
theorem trim_mem {l : List UInt8} {b : UInt8} (h : b ∈ trimL l) : b ∈ l := front_mem (end_mem h)
theorem dw_idem (p : UInt8 → Bool) : ∀ l : List UInt8, (l.dropWhile p).dropWhile p = l.dropWhile p
  | [] => rfl
  | a :: t => by
    cases h : p a with
    | true => rw [List.dropWhile_cons, if_pos h]; exact dw_idem p t
    | false =>
      have e : (a :: t).dropWhile p = a :: t := by rw [List.dropWhile_cons, if_neg (by rw [h]; decide)]
      rw [e, e]
theorem front_idem (l : List UInt8) : frontL (frontL l) = frontL l := dw_idem _ _
theorem end_idem (l : List UInt8) : endL (endL l) = endL l := by
  unfold endL
  rw [List.reverse_reverse, dw_idem]
theorem trim_idem (l : List UInt8) : trimL (trimL l) = trimL l := by
  unfold trimL
  rw [front_end, end_idem, front_idem]
/-- What ends in no blank ends so behind the front is cut. -/
theorem end_of_trim {l : List UInt8} (h : trimL l = l) : endL l = l := by
  rw [← h]; unfold trimL; exact end_idem _
theorem front_of_trim {l : List UInt8} (h : trimL l = l) : frontL l = l := by
  rw [← h]; unfold trimL; rw [front_end, front_idem]
theorem front_snoc {b : UInt8} (h : blk b = false) : ∀ t : List UInt8, frontL (t ++ [b]) = frontL t ++ [b]
  | [] => front_head h
  | a :: t => by
    cases ha : blk a with
    | true => rw [List.cons_append, front_blk ha, front_blk ha]; exact front_snoc h t
    | false => rw [List.cons_append, front_head ha, front_head ha]; rfl
theorem end_shape (l : List UInt8) : endL l = [] ∨ ∃ t b, endL l = t ++ [b] ∧ blk b = false := by
  rcases List.eq_nil_or_concat (endL l) with h | ⟨t, b, h⟩
  · exact .inl h
  · refine .inr ⟨t, b, by rw [h, List.concat_eq_append], ?_⟩
    cases hb : blk b with
    | false => rfl
    | true =>
      have h2 := end_idem l
      rw [h, List.concat_eq_append, end_blk hb] at h2
      have h3 := end_len t
      rw [h2] at h3
      simp at h3
      omega
end Go.Proofs.YtoclolaljaiogaaDoor.Plain
