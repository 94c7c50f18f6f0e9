/- Lines of bytes: plain lists, no program in sight. -/
import Derived.Test.YtoclolaljaiogaaDoorTrimL
namespace Go.Proofs.YtoclolaljaiogaaDoor.Plain

/-! ### physical lines -/
def physA : List UInt8 → List UInt8 → List (List UInt8)
  | cur, [] => if cur = [] then [] else [cur]
  | cur, b :: l => if b = 10 then cur :: physA [] l else physA (cur ++ [b]) l
def phys (l : List UInt8) : List (List UInt8) := physA [] l
theorem physA_run : ∀ (a cur l : List UInt8), (10 : UInt8) ∉ a → physA cur (a ++ l) = physA (cur ++ a) l
  | [], cur, l, _ => by simp
  | b :: a, cur, l, h => by
    have hb : ¬ b = 10 := fun e => h (by simp [e])
    rw [List.cons_append, physA, if_neg hb, physA_run a (cur ++ [b]) l (fun hm => h (by simp [hm]))]
    simp
theorem phys_cut (a b : List UInt8) (h : (10 : UInt8) ∉ a) : phys (a ++ 10 :: b) = a :: phys b := by
  unfold phys
  rw [physA_run a [] _ h, List.nil_append, physA, if_pos rfl]
theorem phys_last (a : List UInt8) (h : (10 : UInt8) ∉ a) : phys a = if a = [] then [] else [a] := by
  unfold phys
  have := physA_run a [] [] h
  rw [List.append_nil, List.nil_append] at this
  rw [this, physA]
theorem physA_append (a b : List UInt8) : ∀ cur, physA cur (a ++ 10 :: b) = physA cur (a ++ [10]) ++ phys b := by
  induction a with
  | nil => intro cur; simp [physA, phys]
  | cons x a ih =>
    intro cur
    simp only [List.cons_append, physA]
    by_cases h : x = 10
    · rw [if_pos h, if_pos h, ih]; rfl
    · rw [if_neg h, if_neg h, ih]
theorem phys_append (a b : List UInt8) : phys ((a ++ [10]) ++ b) = phys (a ++ [10]) ++ phys b := by
  unfold phys
  rw [List.append_assoc, List.singleton_append]
  exact physA_append a b []
theorem physA_mem : ∀ (l cur x : List UInt8), (10 : UInt8) ∉ cur → x ∈ physA cur l → (10 : UInt8) ∉ x ∧ ∀ b ∈ x, b ∈ cur ∨ b ∈ l
  | [], cur, x, hc, h => by
    rw [physA] at h
    split at h
    · simp at h
    · rw [List.mem_singleton.1 h]; exact ⟨hc, fun b hb => .inl hb⟩
  | c :: l, cur, x, hc, h => by
    rw [physA] at h
    split at h
    · rcases List.mem_cons.1 h with h | h
      · rw [h]; exact ⟨hc, fun b hb => .inl hb⟩
      · obtain ⟨h1, h2⟩ := physA_mem l [] x (by simp) h
        exact ⟨h1, fun b hb => by rcases h2 b hb with h | h; simp at h; exact .inr (List.mem_cons_of_mem _ h)⟩
    · rename_i hb
      obtain ⟨h1, h2⟩ := physA_mem l (cur ++ [c]) x (by simp [hc]; exact fun e => hb e.symm) h
      refine ⟨h1, fun b hm => ?_⟩
      rcases h2 b hm with h | h
      · rcases List.mem_append.1 h with h | h
        · exact .inl h
        · rw [List.mem_singleton.1 h]; exact .inr List.mem_cons_self
      · exact .inr (List.mem_cons_of_mem _ h)
theorem phys_mem {l x : List UInt8} (h : x ∈ phys l) : (10 : UInt8) ∉ x ∧ ∀ b ∈ x, b ∈ l := by
  obtain ⟨h1, h2⟩ := physA_mem l [] x (by simp) h
  exact ⟨h1, fun b hb => by rcases h2 b hb with h | h; simp at h; exact h⟩
theorem physA_len : ∀ (l cur : List UInt8), (physA cur l).length ≤ l.length + (if cur = [] then 0 else 1)
  | [], cur => by rw [physA]; split <;> simp
  | c :: l, cur => by
    rw [physA]
    split
    · have := physA_len l []
      simp only [if_true, Nat.add_zero] at this
      simp only [List.length_cons]; split <;> omega
    · have := physA_len l (cur ++ [c])
      have hne : ¬ (cur ++ [c] = []) := by simp
      rw [if_neg hne] at this
      simp only [List.length_cons]; split <;> omega
theorem phys_len (l : List UInt8) : (phys l).length ≤ l.length := by
  have := physA_len l []
  simpa [phys] using this
theorem physA_sum : ∀ (l cur : List UInt8), ((physA cur l).map List.length).sum ≤ l.length + cur.length
  | [], cur => by rw [physA]; split <;> simp
  | c :: l, cur => by
    rw [physA]
    split
    · have := physA_sum l []
      simp only [List.map_cons, List.sum_cons, List.length_cons, List.length_nil] at *; omega
    · have := physA_sum l (cur ++ [c])
      simp only [List.length_append, List.length_cons, List.length_nil] at *; omega
theorem phys_sum (l : List UInt8) : ((phys l).map List.length).sum ≤ l.length := by
  have := physA_sum l []
  simpa [phys] using this

/-! ### wrong bytes -/
/-- A byte that may not stand in a line. -/
def badb (b : UInt8) : Bool := b != 9 && (decide (b.toNat < 32) || decide (126 < b.toNat))
/-- The number of the first line with such a byte; 0: none. -/
def wrongL : List (List UInt8) → Nat
  | [] => 0
  | x :: xs => if x.any badb = true then 1 else if wrongL xs = 0 then 0 else wrongL xs + 1
theorem wrongL_zero : ∀ {ls : List (List UInt8)}, wrongL ls = 0 ↔ ∀ x ∈ ls, x.any badb = false
  | [] => by simp [wrongL]
  | x :: xs => by
    rw [wrongL]
    have ih := @wrongL_zero xs
    by_cases h : x.any badb = true
    · rw [if_pos h]
      refine ⟨fun h => by omega, fun h2 => ?_⟩
      rw [h2 x List.mem_cons_self] at h; cases h
    · rw [if_neg h]
      have h' : x.any badb = false := by simpa using h
      by_cases h2 : wrongL xs = 0
      · rw [if_pos h2]
        simp only [List.mem_cons, forall_eq_or_imp, true_iff]
        exact ⟨h', ih.1 h2⟩
      · rw [if_neg h2]
        refine ⟨fun h => by omega, fun h => absurd (ih.2 fun x hx => h x (List.mem_cons_of_mem _ hx)) h2⟩
theorem physA_bad : ∀ (l cur : List UInt8), cur.any badb = true → wrongL (physA cur l) = 1
  | [], cur, h => by
    have hne : cur ≠ [] := fun e => by rw [e] at h; simp at h
    rw [physA, if_neg hne, wrongL, if_pos h]
  | c :: l, cur, h => by
    rw [physA]
    split
    · rw [wrongL, if_pos h]
    · exact physA_bad l (cur ++ [c]) (by rw [List.any_append, h]; rfl)
theorem physA_good : ∀ (l cur : List UInt8), cur.any badb = false → (∀ b ∈ l, b ≠ 10 → badb b = false) → wrongL (physA cur l) = 0
  | [], cur, h, _ => by
    rw [physA]; split
    · rfl
    · rw [wrongL, if_neg (by rw [h]; decide)]; rfl
  | c :: l, cur, h, hl => by
    rw [physA]
    split
    · rw [wrongL, if_neg (by rw [h]; decide), if_pos (physA_good l [] rfl (fun b hb => hl b (List.mem_cons_of_mem _ hb)))]
    · rename_i hc
      refine physA_good l (cur ++ [c]) ?_ (fun b hb => hl b (List.mem_cons_of_mem _ hb))
      rw [List.any_append, h, Bool.false_or]
      simp [hl c List.mem_cons_self hc]
theorem physA_first : ∀ (a cur : List UInt8) (c : UInt8) (l : List UInt8), cur.any badb = false → (∀ b ∈ a, b ≠ 10 → badb b = false) → badb c = true → c ≠ 10 → wrongL (physA cur (a ++ c :: l)) = a.count 10 + 1
  | [], cur, c, l, h, _, hc, hn => by
    rw [List.nil_append, physA, if_neg hn]
    exact physA_bad l (cur ++ [c]) (by rw [List.any_append]; simp [hc])
  | x :: a, cur, c, l, h, ha, hc, hn => by
    rw [List.cons_append, physA]
    split
    · rename_i hx
      have ih := physA_first a [] c l rfl (fun b hb => ha b (List.mem_cons_of_mem _ hb)) hc hn
      rw [wrongL, if_neg (by rw [h]; decide), ih, if_neg (by omega), hx, List.count_cons_self]
    · rename_i hx
      rw [physA_first a (cur ++ [x]) c l (by rw [List.any_append, h, Bool.false_or]; simp [ha x List.mem_cons_self hx]) (fun b hb => ha b (List.mem_cons_of_mem _ hb)) hc hn, List.count_cons_of_ne hx]

/-! ### logical lines -/
/-- Does a line go on? What stands ahead of its backslash. -/
def cont (x : List UInt8) : Bool := (endL x).getLast? == some 92
def cutc (x : List UInt8) : List UInt8 := endL (endL x).dropLast
def stripL (x : List UInt8) : List UInt8 := trimL (x.takeWhile (· != 35))
def recL (x : List UInt8) : Bool := x.head? == some 9
/-- A logical line: its number, whether it is a recipe's, its text. -/
abbrev Ln : Type := Nat × Bool × List UInt8
def txt (rc : Bool) (t : List UInt8) : List UInt8 := if rc = true then trimL t else stripL t
def emit (no : Nat) (rc : Bool) (t : List UInt8) : List Ln := if txt rc t = [] then [] else [(no, rc, txt rc t)]
/-- From the physical line cur (number no) on, acc having come of the logical one that began at no0. -/
def step (no0 : Nat) (rc : Bool) : List UInt8 → List UInt8 → Nat → List (List UInt8) → List Ln
  | acc, cur, _, [] => emit no0 rc (acc ++ cur)
  | acc, cur, no, y :: ys => if cont cur = true then step no0 rc (acc ++ cutc cur ++ [32]) (frontL y) (no + 1) ys else emit no0 rc (acc ++ cur) ++ step (no + 1) (recL y) [] y (no + 1) ys
def logicL : List (List UInt8) → List Ln
  | [] => []
  | x :: xs => step 1 (recL x) [] x 1 xs
theorem cont_front (x : List UInt8) : cont (frontL x) = cont x := by
  unfold cont
  rw [← front_end]
  rcases end_shape x with h | ⟨t, b, h, hb⟩
  · rw [h]; rfl
  · rw [h, front_snoc hb]; simp
theorem cont_shape {x : List UInt8} (h : cont x = true) : ∃ t, endL x = t ++ [92] := by
  unfold cont at h
  rcases end_shape x with h2 | ⟨t, b, h2, hb⟩
  · rw [h2] at h; simp at h
  · rw [h2] at h
    simp at h
    exact ⟨t, by rw [h2, h]⟩
theorem cutc_front {x : List UInt8} (h : cont x = true) : cutc (frontL x) = frontL (cutc x) := by
  obtain ⟨t, ht⟩ := cont_shape h
  unfold cutc
  rw [← front_end x, ht, front_snoc (by decide), List.dropLast_concat, List.dropLast_concat, front_end]
theorem cont_trim (x : List UInt8) : ((trimL x).getLast? == some 92) = cont x := by
  unfold trimL
  rw [← front_end]
  unfold cont
  rcases end_shape x with h | ⟨t, b, h, hb⟩
  · rw [h]; rfl
  · rw [h, front_snoc hb]; simp

/-! ### two texts, one behind the other -/
def lastOk : List UInt8 → List (List UInt8) → Bool
  | cur, [] => !cont cur
  | _, y :: ys => lastOk y ys
def shift (k : Nat) (x : Ln) : Ln := (x.1 + k, x.2)
theorem emit_shift (k no : Nat) (rc : Bool) (t : List UInt8) : emit (no + k) rc t = (emit no rc t).map (shift k) := by
  unfold emit
  split <;> rfl
theorem step_shift (k : Nat) : ∀ (ls : List (List UInt8)) (no0 : Nat) (rc : Bool) (acc cur : List UInt8) (no : Nat), step (no0 + k) rc acc cur (no + k) ls = (step no0 rc acc cur no ls).map (shift k)
  | [], no0, rc, acc, cur, no => emit_shift k no0 rc _
  | y :: ys, no0, rc, acc, cur, no => by
    rw [step, step]
    by_cases h : cont cur = true
    · rw [if_pos h, if_pos h, show no + k + 1 = no + 1 + k by omega]
      exact step_shift k ys no0 rc _ _ _
    · rw [if_neg h, if_neg h, List.map_append, emit_shift, show no + k + 1 = no + 1 + k by omega, step_shift k ys (no + 1)]
theorem step_append (z : List UInt8) (zs : List (List UInt8)) : ∀ (ls : List (List UInt8)) (no0 : Nat) (rc : Bool) (acc cur : List UInt8) (no : Nat), lastOk cur ls = true →
    step no0 rc acc cur no (ls ++ z :: zs) = step no0 rc acc cur no ls ++ step (no + ls.length + 1) (recL z) [] z (no + ls.length + 1) zs
  | [], no0, rc, acc, cur, no, h => by
    have h' : cont cur = false := by simpa [lastOk] using h
    show (if cont cur = true then _ else emit no0 rc (acc ++ cur) ++ step (no + 1) (recL z) [] z (no + 1) zs) = emit no0 rc (acc ++ cur) ++ _
    rw [if_neg (by rw [h']; decide)]
    rfl
  | y :: ys, no0, rc, acc, cur, no, h => by
    rw [List.cons_append, step, step, List.length_cons]
    have e : no + (ys.length + 1) + 1 = no + 1 + ys.length + 1 := by omega
    by_cases hc : cont cur = true
    · rw [if_pos hc, if_pos hc, e]
      refine step_append z zs ys no0 rc _ _ _ ?_
      cases ys with
      | nil => simpa [lastOk, cont_front] using h
      | cons => exact h
    · rw [if_neg hc, if_neg hc, List.append_assoc, e]
      congr 1
      exact step_append z zs ys (no + 1) (recL y) [] y (no + 1) h
theorem logic_append (x : List UInt8) (xs : List (List UInt8)) (zs : List (List UInt8)) (h : lastOk x xs = true) : logicL ((x :: xs) ++ zs) = logicL (x :: xs) ++ (logicL zs).map (shift (x :: xs).length) := by
  cases zs with
  | nil => simp [logicL]
  | cons z zs =>
    show step 1 (recL x) [] x 1 (xs ++ z :: zs) = step 1 (recL x) [] x 1 xs ++ _
    rw [step_append z zs xs 1 (recL x) [] x 1 h]
    congr 1
    show _ = (step 1 (recL z) [] z 1 zs).map (shift (xs.length + 1))
    rw [← step_shift]
    congr 1 <;> omega

/-! ### what comes out -/
/-- What can be printed and read again. -/
def Fine (x : Ln) : Prop := x.2.2 ≠ [] ∧ trimL x.2.2 = x.2.2 ∧ (x.2.1 = false → (35 : UInt8) ∉ x.2.2)
theorem mem_takeWhile {p : UInt8 → Bool} {b : UInt8} : ∀ {l : List UInt8}, b ∈ l.takeWhile p → p b = true
  | [], h => by simp at h
  | a :: l, h => by
    rw [List.takeWhile_cons] at h
    split at h
    · rename_i ha
      rcases List.mem_cons.1 h with h | h
      · rw [h]; exact ha
      · exact mem_takeWhile h
    · simp at h
theorem strip_mem {x : List UInt8} {b : UInt8} (h : b ∈ stripL x) : b ∈ x ∧ b ≠ 35 := by
  have h1 := trim_mem h
  refine ⟨(List.takeWhile_sublist _).subset h1, fun e => ?_⟩
  have h2 := mem_takeWhile h1
  rw [e] at h2
  simp at h2
theorem txt_mem {rc : Bool} {x : List UInt8} {b : UInt8} (h : b ∈ txt rc x) : b ∈ x := by
  unfold txt at h
  split at h
  · exact trim_mem h
  · exact (strip_mem h).1
theorem emit_fine {no : Nat} {rc : Bool} {t : List UInt8} {x : Ln} (h : x ∈ emit no rc t) : Fine x ∧ x.1 = no ∧ ∀ b ∈ x.2.2, b ∈ t := by
  unfold emit at h
  split at h
  · simp at h
  · rename_i hne
    rw [List.mem_singleton.1 h]
    refine ⟨⟨hne, ?_, ?_⟩, rfl, fun b hb => txt_mem hb⟩
    · show trimL (txt rc t) = txt rc t
      unfold txt
      split
      · exact trim_idem _
      · exact trim_idem _
    · intro hr hm
      obtain rfl : rc = false := hr
      exact (strip_mem hm).2 rfl
theorem cutc_mem {x : List UInt8} {b : UInt8} (h : b ∈ cutc x) : b ∈ x := end_mem ((List.dropLast_sublist _).subset (end_mem h))
theorem step_fine (ok : UInt8 → Prop) (h32 : ok 32) : ∀ (ls : List (List UInt8)) (no0 : Nat) (rc : Bool) (acc cur : List UInt8) (no : Nat), (∀ b ∈ acc, ok b) → (∀ b ∈ cur, ok b) → (∀ y ∈ ls, ∀ b ∈ y, ok b) → no0 ≤ no →
    (∀ x ∈ step no0 rc acc cur no ls, Fine x ∧ no0 ≤ x.1 ∧ x.1 ≤ no + ls.length ∧ ∀ b ∈ x.2.2, ok b) ∧ (step no0 rc acc cur no ls).Pairwise (fun x y => x.1 < y.1)
  | [], no0, rc, acc, cur, no, ha, hc, _, hn => by
    rw [step]
    refine ⟨fun x hx => ?_, ?_⟩
    · obtain ⟨h1, h2, h3⟩ := emit_fine hx
      refine ⟨h1, by omega, by simp; omega, fun b hb => ?_⟩
      rcases List.mem_append.1 (h3 b hb) with h | h
      · exact ha b h
      · exact hc b h
    · unfold emit; split <;> simp
  | y :: ys, no0, rc, acc, cur, no, ha, hc, hl, hn => by
    rw [step]
    split
    · obtain ⟨h1, h2⟩ := step_fine ok h32 ys no0 rc (acc ++ cutc cur ++ [32]) (frontL y) (no + 1)
        (fun b hb => by
          rcases List.mem_append.1 hb with h | h
          · rcases List.mem_append.1 h with h | h
            · exact ha b h
            · exact hc b (cutc_mem h)
          · rw [List.mem_singleton.1 h]; exact h32)
        (fun b hb => hl y List.mem_cons_self b (front_mem hb)) (fun z hz => hl z (List.mem_cons_of_mem _ hz)) (by omega)
      refine ⟨fun x hx => ?_, h2⟩
      obtain ⟨q1, q2, q3, q4⟩ := h1 x hx
      exact ⟨q1, q2, by simp only [List.length_cons]; omega, q4⟩
    · obtain ⟨h1, h2⟩ := step_fine ok h32 ys (no + 1) (recL y) [] y (no + 1) (fun b hb => by simp at hb)
        (fun b hb => hl y List.mem_cons_self b hb) (fun z hz => hl z (List.mem_cons_of_mem _ hz)) (by omega)
      refine ⟨fun x hx => ?_, ?_⟩
      · rcases List.mem_append.1 hx with hx | hx
        · obtain ⟨q1, q2, q3⟩ := emit_fine hx
          refine ⟨q1, by omega, by simp only [List.length_cons]; omega, fun b hb => ?_⟩
          rcases List.mem_append.1 (q3 b hb) with h | h
          · exact ha b h
          · exact hc b h
        · obtain ⟨q1, q2, q3, q4⟩ := h1 x hx
          exact ⟨q1, by omega, by simp only [List.length_cons]; omega, q4⟩
      · rw [List.pairwise_append]
        refine ⟨by unfold emit; split <;> simp, h2, fun a ha' b hb => ?_⟩
        obtain ⟨_, q2, _⟩ := emit_fine ha'
        obtain ⟨_, r2, _⟩ := h1 b hb
        omega
theorem logic_fine (ok : UInt8 → Prop) (h32 : ok 32) (ls : List (List UInt8)) (hl : ∀ y ∈ ls, ∀ b ∈ y, ok b) :
    (∀ x ∈ logicL ls, Fine x ∧ 1 ≤ x.1 ∧ x.1 ≤ ls.length ∧ ∀ b ∈ x.2.2, ok b) ∧ (logicL ls).Pairwise (fun x y => x.1 < y.1) := by
  cases ls with
  | nil => simp [logicL]
  | cons x xs =>
    obtain ⟨h1, h2⟩ := step_fine ok h32 xs 1 (recL x) [] x 1 (by simp) (hl x List.mem_cons_self) (fun z hz => hl z (List.mem_cons_of_mem _ hz)) (Nat.le_refl _)
    refine ⟨fun y hy => ?_, h2⟩
    obtain ⟨q1, q2, q3, q4⟩ := h1 y hy
    exact ⟨q1, q2, by simp only [List.length_cons]; omega, q4⟩
theorem step_len : ∀ (ls : List (List UInt8)) (no0 : Nat) (rc : Bool) (acc cur : List UInt8) (no : Nat), (step no0 rc acc cur no ls).length ≤ ls.length + 1
  | [], no0, rc, acc, cur, no => by rw [step]; unfold emit; split <;> simp
  | y :: ys, no0, rc, acc, cur, no => by
    rw [step]
    split
    · have := step_len ys no0 rc (acc ++ cutc cur ++ [32]) (frontL y) (no + 1)
      simp only [List.length_cons]; omega
    · have := step_len ys (no + 1) (recL y) [] y (no + 1)
      have h2 : (emit no0 rc (acc ++ cur)).length ≤ 1 := by unfold emit; split <;> simp
      rw [List.length_append, List.length_cons]; omega
theorem logic_len (ls : List (List UInt8)) : (logicL ls).length ≤ ls.length := by
  cases ls with
  | nil => simp [logicL]
  | cons x xs => exact step_len xs _ _ _ _ _

/-! ### printed, and read again -/
/-- A line as it is printed, without its end. -/
def lineL (rc : Bool) (t : List UInt8) : List UInt8 := if rc = true then 9 :: t else t
def textL (l : List (Bool × List UInt8)) : List UInt8 := l.flatMap fun x => lineL x.1 x.2 ++ [10]
theorem phys_text : ∀ l : List (Bool × List UInt8), (∀ x ∈ l, (10 : UInt8) ∉ x.2) → phys (textL l) = l.map fun x => lineL x.1 x.2
  | [], _ => rfl
  | x :: l, h => by
    have hx : (10 : UInt8) ∉ lineL x.1 x.2 := by
      have := h x List.mem_cons_self
      unfold lineL; split <;> simp [this]
    show phys ((lineL x.1 x.2 ++ [10]) ++ textL l) = _
    rw [List.append_assoc, List.singleton_append, phys_cut _ _ hx, phys_text l (fun y hy => h y (List.mem_cons_of_mem _ hy))]
    rfl
/-- A text that is read as it was printed. -/
def Goes (x : Bool × List UInt8) : Prop := x.2 ≠ [] ∧ trimL x.2 = x.2 ∧ (x.1 = false → (35 : UInt8) ∉ x.2) ∧ x.2.getLast? ≠ some 92
theorem goes_cont {x : Bool × List UInt8} (h : Goes x) : cont (lineL x.1 x.2) = false := by
  obtain ⟨h1, h2, h3, h4⟩ := h
  have e := end_of_trim h2
  have key : cont x.2 = false := by unfold cont; rw [e]; simpa using h4
  unfold lineL
  split
  · unfold cont
    rw [endL_cons, e, if_neg h1]
    rw [List.getLast?_cons_of_ne_nil h1]
    simpa using h4
  · exact key
theorem take_all {p : UInt8 → Bool} : ∀ {l : List UInt8}, (∀ b ∈ l, p b = true) → l.takeWhile p = l
  | [], _ => rfl
  | b :: l, h => by rw [List.takeWhile_cons, if_pos (h b List.mem_cons_self), take_all (fun c hc => h c (List.mem_cons_of_mem _ hc))]
theorem strip_self {t : List UInt8} (h : (35 : UInt8) ∉ t) : stripL t = trimL t := by
  unfold stripL
  rw [take_all (fun b hb => by simp; exact fun e => h (e ▸ hb))]
theorem goes_txt {x : Bool × List UInt8} (h : Goes x) : recL (lineL x.1 x.2) = x.1 ∧ txt x.1 (lineL x.1 x.2) = x.2 := by
  obtain ⟨h1, h2, h3, h4⟩ := h
  obtain ⟨rc, t⟩ := x
  cases rc with
  | true =>
    refine ⟨rfl, ?_⟩
    show trimL (9 :: t) = t
    unfold trimL
    rw [front_blk (by decide)]
    exact h2
  | false =>
    refine ⟨?_, ?_⟩
    · show (t.head? == some 9) = false
      cases t with
      | nil => rfl
      | cons a t =>
        have hf := front_of_trim h2
        cases ha : blk a with
        | true =>
          rw [front_blk ha] at hf
          have hl := front_len t
          have : t.length < (a :: t).length := by simp
          rw [show frontL t = a :: t from hf] at hl
          omega
        | false =>
          simp only [List.head?_cons]
          rw [beq_eq_false_iff_ne]
          intro e
          obtain rfl : a = 9 := by simpa using e
          exact absurd ha (by decide)
    · show stripL t = t
      rw [strip_self (h3 rfl)]
      exact h2
theorem goes_emit {x : Bool × List UInt8} (h : Goes x) (no : Nat) : emit no x.1 (lineL x.1 x.2) = [(no, x.1, x.2)] := by
  unfold emit
  rw [(goes_txt h).2, if_neg h.1]
/-- Numbered one behind the other. -/
def numL : Nat → List (Bool × List UInt8) → List Ln
  | _, [] => []
  | n, x :: l => (n, x.1, x.2) :: numL (n + 1) l
theorem step_goes : ∀ (l : List (Bool × List UInt8)) (x : Bool × List UInt8) (no : Nat), Goes x → (∀ y ∈ l, Goes y) → step no x.1 [] (lineL x.1 x.2) no (l.map fun x => lineL x.1 x.2) = numL no (x :: l)
  | [], x, no, hx, _ => by
    show emit no x.1 ([] ++ lineL x.1 x.2) = _
    rw [List.nil_append, goes_emit hx]; rfl
  | y :: l, x, no, hx, hl => by
    rw [List.map_cons, step, if_neg (by rw [goes_cont hx]; decide), List.nil_append, goes_emit hx, (goes_txt (hl y List.mem_cons_self)).1, step_goes l y (no + 1) (hl y List.mem_cons_self) (fun z hz => hl z (List.mem_cons_of_mem _ hz))]
    rfl
theorem logic_goes (l : List (Bool × List UInt8)) (h : ∀ x ∈ l, Goes x) : logicL (l.map fun x => lineL x.1 x.2) = numL 1 l := by
  cases l with
  | nil => rfl
  | cons x l =>
    show step 1 (recL (lineL x.1 x.2)) [] (lineL x.1 x.2) 1 _ = _
    rw [(goes_txt (h x List.mem_cons_self)).1]
    exact step_goes l x 1 (h x List.mem_cons_self) (fun y hy => h y (List.mem_cons_of_mem _ hy))
theorem numL_len : ∀ (l : List (Bool × List UInt8)) (n : Nat), (numL n l).length = l.length
  | [], _ => rfl
  | x :: l, n => by rw [numL, List.length_cons, numL_len l, List.length_cons]
theorem numL_get : ∀ (l : List (Bool × List UInt8)) (n i : Nat) (x : Bool × List UInt8), l[i]? = some x → (numL n l)[i]? = some (n + i, x.1, x.2)
  | [], _, _, _, h => by simp at h
  | y :: l, n, 0, x, h => by
    obtain rfl : y = x := by simpa using h
    rfl
  | y :: l, n, i + 1, x, h => by
    rw [numL, List.getElem?_cons_succ, numL_get l (n + 1) i x (by simpa using h), show n + 1 + i = n + (i + 1) by omega]
end Go.Proofs.YtoclolaljaiogaaDoor.Plain
