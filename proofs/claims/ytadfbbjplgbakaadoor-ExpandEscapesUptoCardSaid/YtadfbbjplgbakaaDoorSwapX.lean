/- What the printed functions that join words, and swap their ends, come to. -/
import Derived.Test.YtadfbbjplgbakaaDoorWordsX
import Derived.Test.YtadfbbjplgbakaaDoorNames2X
import Derived.Test.YtadfbbjplgbakaaDoorPXx4
import Derived.Test.YtadfbbjplgbakaaDoorPXx5
namespace Go.Proofs.YtadfbbjplgbakaaDoor.Plain
open Go.RowKit Go.Proofs.YtadfbbjplgbakaaDoorW.PrintWords Go.Proofs.YtadfbbjplgbakaaDoor.PX

/-- Words with one blank between. -/
def joinB (ws : List ByteArray) : ByteArray := B (Lib.join (ws.map L) [32])
/-- A bound on what they become. -/
def sumS (ws : List ByteArray) : Nat := (ws.map fun w => w.size + 1).sum
theorem sumS_cons (w : ByteArray) (ws : List ByteArray) : sumS (w :: ws) = w.size + 1 + sumS ws := by simp [sumS]
theorem sumS_append (a b : List ByteArray) : sumS (a ++ b) = sumS a + sumS b := by simp [sumS]
theorem sumS_len (ws : List ByteArray) : ws.length ≤ sumS ws := by
  induction ws with
  | nil => simp
  | cons w ws ih => rw [sumS_cons, List.length_cons]; omega
theorem tail_cons (x : List UInt8) (xs : List (List UInt8)) : Lib.joinTail [32] (x :: xs) = 32 :: x ++ Lib.joinTail [32] xs := by simp [Lib.joinTail]
theorem tail_len (ws : List ByteArray) : (Lib.joinTail [32] (ws.map L)).length = sumS ws := by
  induction ws with
  | nil => simp [Lib.joinTail, sumS]
  | cons w ws ih => rw [List.map_cons, tail_cons, sumS_cons, List.length_append, ih, List.length_cons, size_L]
theorem joinB_len (ws : List ByteArray) : (Lib.join (ws.map L) [32]).length ≤ sumS ws := by
  cases ws with
  | nil => simp [Lib.join_nil]
  | cons w ws => rw [List.map_cons, Lib.join_cons, List.length_append, tail_len, sumS_cons, size_L]; omega
theorem joinB_size (ws : List ByteArray) : (joinB ws).size ≤ sumS ws := by
  rw [size_L]; exact joinB_len ws
theorem join_some (ws : List ByteArray) (h : sumS ws ≤ 140737488355328) : names_Join.f ws = some (joinB ws) := by
  have h1 := sumS_len ws
  have h2 := joinB_len ws
  have e : strings_Join.f ws ⟨#[32]⟩ = some (joinB ws) := by
    unfold strings_Join.f
    rw [if_pos (by omega)]
    exact if_pos (by show (Lib.join (ws.map L) [32]).length ≤ _; omega)
  unfold names_Join.f
  rw [e]; rfl
/-! ### ends -/
/-- Does a text end with another one? -/
def sufB (a b : ByteArray) : Bool := decide (b.size ≤ a.size) && decide (a.extract (a.size - b.size) a.size = b)
/-- A text without an end. -/
def cutB (a b : ByteArray) : ByteArray × Bool := if sufB a b = true then (a.extract 0 (a.size - b.size), true) else (a, false)
theorem sub_nat {a b : Nat} (h : b ≤ a) (ha : a ≤ 4611686018427387904) : wrap64 ((a : Int) - (b : Int)) = ((a - b : Nat) : Int) := by
  rw [wrap_id (by omega) (by omega)]; omega
theorem hassuf_eq (a b : ByteArray) (ha : a.size ≤ 4611686018427387904) : stringslite_HasSuffix.f a b = some (sufB a b) := by
  unfold stringslite_HasSuffix.f sufB
  by_cases h : b.size ≤ a.size
  · rw [if_pos (by omega), sub_nat h ha, if_pos (by omega), if_pos (by omega), Int.toNat_natCast, decide_eq_true h, Bool.true_and]
    by_cases h2 : a.extract (a.size - b.size) a.size = b
    · rw [decide_eq_true h2, h2]; simp
    · rw [decide_eq_false h2, beq_eq_false_iff_ne.2 (fun e => h2 (toList_inj.1 e))]
  · rw [if_neg (by omega), decide_eq_false h]; rfl
theorem sufB_size {a b : ByteArray} (h : sufB a b = true) : b.size ≤ a.size := by
  unfold sufB at h
  simp only [Bool.and_eq_true, decide_eq_true_eq] at h
  exact h.1
theorem sufB_eq {a b : ByteArray} (h : sufB a b = true) : a.extract (a.size - b.size) a.size = b := by
  unfold sufB at h
  simp only [Bool.and_eq_true, decide_eq_true_eq] at h
  exact h.2
theorem cutSuf_eq (a b : ByteArray) (ha : a.size ≤ 4611686018427387904) : strings_CutSuffix.f a b = some (cutB a b) := by
  have e : stringslite_CutSuffix.f a b = some (cutB a b) := by
    unfold stringslite_CutSuffix.f cutB
    rw [hassuf_eq a b ha, Option.bind_some]
    by_cases h : sufB a b = true
    · rw [if_pos h, if_pos h, sub_nat (sufB_size h) ha, if_pos (by omega), if_pos (by omega), Int.toNat_natCast]
    · rw [if_neg h, if_neg h]
  unfold strings_CutSuffix.f
  rw [e]; rfl
/-- A name without an end, if it has that end, and something ahead of it. -/
def stemB (a b : ByteArray) : ByteArray × Bool := if b.size = 0 then (⟨#[]⟩, false) else if sufB a b = false then (⟨#[]⟩, false) else if a.size = b.size then (⟨#[]⟩, false) else (a.extract 0 (a.size - b.size), true)
theorem nil_iff (a : ByteArray) : a.toList = [] ↔ a.size = 0 := by
  rw [toList_L, size_L]
  exact ⟨fun h => by rw [h]; rfl, List.eq_nil_of_length_eq_zero⟩
theorem cutB_yes {a b : ByteArray} (h : sufB a b = true) : cutB a b = (a.extract 0 (a.size - b.size), true) := if_pos h
theorem cutB_no {a b : ByteArray} (h : sufB a b = false) : cutB a b = (a, false) := if_neg (by rw [h]; decide)
/-- A word that ends with one end has another one. -/
def swapB (f t w : ByteArray) : ByteArray := if sufB w f = true then w.extract 0 (w.size - f.size) ++ t else w
theorem swapB_size (f t w : ByteArray) : (swapB f t w).size ≤ w.size + t.size := by
  unfold swapB
  split
  · rw [ByteArray.size_append, ByteArray.size_extract]; omega
  · omega
theorem swap_loop (f t : ByteArray) (ws : List ByteArray) (hl : ws.length ≤ 4611686018427387904) (hw : ∀ w ∈ ws, w.size + t.size ≤ 4611686018427387904) (hj : sumS (ws.map (swapB f t)) ≤ 140737488355328) :
    ∀ (d i : Nat) (pre : List ByteArray), i + d = ws.length → pre = (ws.take i).map (swapB f t) →
    Ev (fun k => names_Swap.l0 k f t (pre ++ ws.drop i) (ws.length : Int) (i : Int)) (joinB (ws.map (swapB f t)))
  | 0, i, pre, hi, hp => by
    obtain rfl : i = ws.length := by omega
    refine Ev.step (fun _ => rfl) (ev_neg (by omega) ?_)
    rw [List.drop_length, List.append_nil, hp, List.take_length]
    exact ev_const (join_some _ hj) (ev_some rfl)
  | d + 1, i, pre, hi, hp => by
    have hlt : i < ws.length := by omega
    obtain ⟨w, hww⟩ : ∃ w, ws[i]? = some w := ⟨_, List.getElem?_eq_getElem hlt⟩
    have hpl : pre.length = i := by rw [hp, List.length_map, List.length_take]; omega
    have hd := drop_at hww
    have hsz := hw w (List.mem_of_getElem? hww)
    have hg : (pre ++ ws.drop i)[i]? = some w := by rw [hd, ← hpl]; simp
    have htk : ws.take (i + 1) = ws.take i ++ [w] := by rw [List.take_add_one, hww]; rfl
    have ih := swap_loop f t ws hl hw hj d (i + 1) (pre ++ [swapB f t w]) (by omega) (by rw [htk, List.map_append, ← hp]; rfl)
    rw [List.append_assoc, List.singleton_append] at ih
    refine Ev.step (fun _ => rfl) (ev_pos (by omega) (ev_pos (by omega) (ev_pos ?_ ?_)))
    · rw [List.length_append, List.length_drop]; omega
    · rw [rdOf_at hg, wrap_id (by omega) (by omega)]
      refine ev_const (cutSuf_eq w f (by omega)) ?_
      unfold cutB
      by_cases h : sufB w f = true
      · rw [if_pos h]
        have e : swapB f t w = w.extract 0 (w.size - f.size) ++ t := by unfold swapB; rw [if_pos h]
        refine ev_pos rfl (ev_pos ?_ ?_)
        · simp only [ByteArray.size_extract]; omega
        · simp only []
          rw [← e, Int.toNat_natCast, hd, ← hpl, Lib.set_mid, hpl]
          exact ih
      · rw [if_neg h]
        have e : swapB f t w = w := by unfold swapB; rw [if_neg h]
        rw [e] at ih
        refine ev_neg (by simp) ?_
        rw [hd]
        exact ih
/-- Swap: the words, each swapped, joined. -/
def swapOf (s f t : ByteArray) : ByteArray := joinB (((words (L s)).map B).map (swapB f t))
/-- The words' letters, and one more for each, are at most the text's and one. -/
theorem wgo_sum : ∀ (l cur : List UInt8), ((wgo l cur).map (fun w => w.length + 1)).sum ≤ l.length + cur.length + 1
  | [], cur => by
    unfold wgo
    split <;> simp
  | b :: l, cur => by
    unfold wgo
    split
    · split
      · have := wgo_sum l []; simp at this ⊢; omega
      · have := wgo_sum l []; simp at this ⊢; omega
    · have := wgo_sum l (cur ++ [b]); simp at this ⊢; omega
theorem words_sum (s : ByteArray) : sumS ((words (L s)).map B) ≤ s.size + 1 := by
  have := wgo_sum (L s) []
  unfold sumS
  rw [List.map_map, show ((fun w : ByteArray => w.size + 1) ∘ B) = (fun w => w.length + 1) from funext fun w => by show (B w).size + 1 = _; rw [size_L, L_B], size_L]
  unfold words
  simpa using this
theorem sumS_mem {w : ByteArray} {ws : List ByteArray} (h : w ∈ ws) : w.size + 1 ≤ sumS ws := by
  induction ws with
  | nil => cases h
  | cons x ws ih =>
    rw [sumS_cons]
    rcases List.mem_cons.1 h with rfl | h
    · omega
    · have := ih h; omega
theorem sumS_swap (f t : ByteArray) (ws : List ByteArray) : sumS (ws.map (swapB f t)) ≤ sumS ws + ws.length * t.size := by
  induction ws with
  | nil => simp [sumS]
  | cons w ws ih =>
    rw [List.map_cons, sumS_cons, sumS_cons, List.length_cons, Nat.succ_mul]
    have := swapB_size f t w
    omega
theorem swap_ev (s f t : ByteArray) (hs : s.size ≤ 4398046511104) (h : sumS (((words (L s)).map B).map (swapB f t)) ≤ 140737488355328) (ht : t.size ≤ 140737488355328) : Ev (fun k => names_Swap.f k s f t) (swapOf s f t) := by
  have h1 := words_sum s
  have h2 := sumS_len ((words (L s)).map B)
  refine ev_const (words_some s hs) ?_
  have := swap_loop f t ((words (L s)).map B) (by omega) (fun w hw => by have := sumS_mem hw; omega) h _ 0 [] (Nat.zero_add _) rfl
  rw [List.drop_zero, List.nil_append] at this
  exact this
end Go.Proofs.YtadfbbjplgbakaaDoor.Plain
