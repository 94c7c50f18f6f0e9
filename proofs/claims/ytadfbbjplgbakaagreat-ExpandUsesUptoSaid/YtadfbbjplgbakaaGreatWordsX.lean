/- What the printed functions that cut texts into words come to. -/
import Derived.Test.YtadfbbjplgbakaaGreatBase
import Derived.Lib.FieldsP
import Derived.Test.YtadfbbjplgbakaaGreatFieldsW
import Derived.Test.YtadfbbjplgbakaaGreatPXx6
import Derived.Test.YtadfbbjplgbakaaGreatNames2X
namespace Go.Proofs.YtadfbbjplgbakaaGreat.Plain
open Go.RowKit Go.Proofs.YtadfbbjplgbakaaGreatW.PrintWords Go.Proofs.YtadfbbjplgbakaaGreat.PX

/-- Is a byte a blank? -/
def blk (b : UInt8) : Bool := b == 32 || b == 9
/-- The words of bytes, behind what has come of a word. -/
def wgo : List UInt8 → List UInt8 → List (List UInt8)
  | [], cur => if cur = [] then [] else [cur]
  | b :: l, cur => if blk b = true then (if cur = [] then wgo l [] else cur :: wgo l []) else wgo l (cur ++ [b])
def words (l : List UInt8) : List (List UInt8) := wgo l []
theorem wgo_black : ∀ (xs l cur : List UInt8), (∀ b ∈ xs, blk b = false) → wgo (xs ++ l) cur = wgo l (cur ++ xs)
  | [], l, cur, _ => by simp
  | x :: xs, l, cur, h => by
    have hx := h x (by simp)
    rw [List.cons_append, wgo, if_neg (by simp [hx]), wgo_black xs l (cur ++ [x]) (fun b hb => h b (by simp [hb]))]
    simp

/-! ### runes and bytes -/
theorem get_L (s : ByteArray) (i : Nat) (h : i < (L s).length) : s.get! i = (L s)[i] := by
  have h' : i < s.data.size := by simpa [L] using h
  show s.data[i]! = _
  rw [getElem!_pos s.data i h']
  simp [L]
theorem getq_L {s : ByteArray} {i : Nat} {b : UInt8} (h : (L s)[i]? = some b) : s.get! i = b := by
  obtain ⟨hi, e⟩ := List.getElem?_eq_some_iff.1 h
  rw [get_L s i hi, e]
theorem drop_at {α : Type} {l : List α} {i : Nat} {b : α} (h : l[i]? = some b) : l.drop i = b :: l.drop (i + 1) := by
  obtain ⟨hi, e⟩ := List.getElem?_eq_some_iff.1 h
  rw [List.drop_eq_getElem_cons hi, e]
theorem dec_ascii (s : ByteArray) (pos : Nat) (h : (s.get! pos).toNat < 128) : Utf8.decode s pos = ((s.get! pos).toNat, 1) := by
  unfold Utf8.decode
  simp only [Nat.add_zero]
  rw [if_pos (by simpa using h)]
theorem dec_other (s : ByteArray) (pos : Nat) (h : 128 ≤ (s.get! pos).toNat) : 128 ≤ (Utf8.decode s pos).1 ∧ ∀ j, j < (Utf8.decode s pos).2 → 128 ≤ (s.get! (pos + j)).toNat := by
  unfold Utf8.decode
  simp only [Nat.add_zero]
  rw [if_neg (by simpa using h)]
  have one : ∀ j, j < 1 → 128 ≤ (s.get! (pos + j)).toNat := fun j hj => by
    obtain rfl : j = 0 := by omega
    exact h
  split
  · rename_i h2
    simp only [Bool.and_eq_true, decide_eq_true_eq, beq_iff_eq] at h2
    split
    · refine ⟨by assumption, fun j hj => ?_⟩
      rcases (by omega : j = 0 ∨ j = 1) with rfl | rfl
      · exact h
      · omega
    · exact ⟨by decide, one⟩
  · split
    · rename_i h2
      simp only [Bool.and_eq_true, decide_eq_true_eq, beq_iff_eq] at h2
      split
      · rename_i h3
        simp only [Bool.and_eq_true, decide_eq_true_eq] at h3
        refine ⟨by simp only []; omega, fun j hj => ?_⟩
        simp only [] at hj
        rcases (by omega : j = 0 ∨ j = 1 ∨ j = 2) with rfl | rfl | rfl
        · exact h
        · omega
        · omega
      · exact ⟨by decide, one⟩
    · split
      · rename_i h2
        simp only [Bool.and_eq_true, decide_eq_true_eq, beq_iff_eq] at h2
        split
        · rename_i h3
          simp only [Bool.and_eq_true, decide_eq_true_eq] at h3
          refine ⟨by simp only []; omega, fun j hj => ?_⟩
          simp only [] at hj
          rcases (by omega : j = 0 ∨ j = 1 ∨ j = 2 ∨ j = 3) with rfl | rfl | rfl | rfl
          · exact h
          · omega
          · omega
          · omega
        · exact ⟨by decide, one⟩
      · exact ⟨by decide, one⟩
theorem blk_num (b : UInt8) : names_Words.bl b.toNat = blk b := by
  unfold names_Words.bl blk
  have h1 : (b.toNat == 32) = (b == 32) := by
    by_cases h : b = 32
    · subst h; rfl
    · rw [beq_eq_false_iff_ne.2 h]; exact beq_eq_false_iff_ne.2 (fun e => h (u8_eq.1 e))
  have h2 : (b.toNat == 9) = (b == 9) := by
    by_cases h : b = 9
    · subst h; rfl
    · rw [beq_eq_false_iff_ne.2 h]; exact beq_eq_false_iff_ne.2 (fun e => h (u8_eq.1 e))
  rw [h1, h2]
theorem blk_big {b : UInt8} (h : 128 ≤ b.toNat) : blk b = false := by
  rw [← blk_num]
  unfold names_Words.bl
  simp only [Bool.or_eq_false_iff, beq_eq_false_iff_ne]
  omega
/-- What has come of a word that began at a place. -/
def curOf (s : ByteArray) (st : Option Nat) (pos : Nat) : List UInt8 :=
  match st with
  | none => []
  | some a => ((L s).drop a).take (pos - a)
theorem curOf_self (s : ByteArray) (pos : Nat) : curOf s (some pos) pos = [] := by simp [curOf]
theorem curOf_more (s : ByteArray) (a pos K : Nat) (ha : a ≤ pos) : curOf s (some a) (pos + K) = curOf s (some a) pos ++ ((L s).drop pos).take K := by
  unfold curOf
  simp only []
  rw [show pos + K - a = (pos - a) + K by omega, List.take_add, List.drop_drop, show a + (pos - a) = pos by omega]
theorem curOf_ne (s : ByteArray) (a pos : Nat) (h : a < pos) (hp : pos ≤ (L s).length) : curOf s (some a) pos ≠ [] := by
  intro e
  have := congrArg List.length e
  simp only [curOf, List.length_take, List.length_drop, List.length_nil] at this
  omega
theorem curOf_ext (s : ByteArray) (a pos : Nat) : s.extract a pos = B (curOf s (some a) pos) := extract_B s a pos

theorem spans_words (s : ByteArray) : ∀ (m f pos : Nat) (st : Option Nat) (acc : List (Nat × Nat)), (L s).length - pos = m → (L s).length ≤ pos + f → pos ≤ (L s).length → (∀ a, st = some a → a < pos) →
    (Lib.closeSpans s (Lib.spansFromP names_Words.bl s f pos st acc)).map (fun x => s.extract x.1 x.2) = acc.map (fun x => s.extract x.1 x.2) ++ (wgo ((L s).drop pos) (curOf s st pos)).map B := by
  intro m
  induction m using Nat.strongRecOn with
  | _ m ih =>
  intro f pos st acc hm hf hp hst
  have hsz : s.size = (L s).length := size_L s
  by_cases hlt : pos < (L s).length
  · obtain ⟨f, rfl⟩ : ∃ g, f = g + 1 := ⟨f - 1, by omega⟩
    have hlt' : pos < s.size := by omega
    have hw := Lib.width_pos s pos
    have hwn : pos + (Utf8.decode s pos).2 ≤ (L s).length := by
      have := Lib.decodeN_le_n' (s.size - pos) (s.get! pos).toNat (s.get! (pos + 1)).toNat (s.get! (pos + 2)).toNat (s.get! (pos + 3)).toNat (by omega)
      rw [← Lib.decode_at] at this
      omega
    unfold Lib.spansFromP
    rw [if_pos hlt']
    obtain ⟨b0, hb0⟩ : ∃ b, (L s)[pos]? = some b := ⟨_, List.getElem?_eq_getElem hlt⟩
    have hb := getq_L hb0
    have hdrop := drop_at hb0
    by_cases ha : (s.get! pos).toNat < 128
    · rw [dec_ascii s pos ha] at hw hwn ⊢
      simp only [] at hw hwn ⊢
      rw [hb, blk_num, hdrop, wgo]
      by_cases hk : blk b0 = true
      · rw [if_pos hk, if_pos hk]
        cases st with
        | none =>
          rw [ih _ (by omega) f (pos + 1) none acc rfl (by omega) (by omega) (fun a h => by cases h)]
          simp [curOf]
        | some a =>
          have hap := hst a rfl
          rw [ih _ (by omega) f (pos + 1) none (acc ++ [(a, pos)]) rfl (by omega) (by omega) (fun a h => by cases h), if_neg (curOf_ne s a pos hap hp)]
          simp only [List.map_append, List.map_cons, List.map_nil, List.append_assoc, List.cons_append, List.nil_append, curOf_ext]
          rfl
      · rw [if_neg hk, if_neg hk]
        cases st with
        | none =>
          have e : curOf s (some pos) (pos + 1) = [b0] := by
            rw [curOf_more s pos pos 1 (Nat.le_refl _), curOf_self, hdrop]; rfl
          simp only []
          rw [ih _ (by omega) f (pos + 1) (some pos) acc rfl (by omega) (by omega) (fun a h => by cases h; omega), e]
          rfl
        | some a =>
          have hap := hst a rfl
          have e : curOf s (some a) (pos + 1) = curOf s (some a) pos ++ [b0] := by
            rw [curOf_more s a pos 1 (by omega), hdrop]; rfl
          simp only []
          rw [ih _ (by omega) f (pos + 1) (some a) acc rfl (by omega) (by omega) (fun a' h => by cases h; omega), e]
    · obtain ⟨hr, hall⟩ := dec_other s pos (by omega)
      obtain ⟨R, K, hd⟩ : ∃ R K, Utf8.decode s pos = (R, K) := ⟨_, _, rfl⟩
      rw [hd] at hw hwn hr hall ⊢
      simp only [] at hw hwn hr hall ⊢
      have hbl : names_Words.bl R = false := by
        unfold names_Words.bl
        simp only [Bool.or_eq_false_iff, beq_eq_false_iff_ne]
        omega
      rw [hbl, if_neg (by simp)]
      have hsplit : (L s).drop pos = ((L s).drop pos).take K ++ (L s).drop (pos + K) := by
        rw [← List.drop_drop]; exact (List.take_append_drop _ _).symm
      have hblack : ∀ b ∈ ((L s).drop pos).take K, blk b = false := by
        intro b hb
        obtain ⟨j, hj, e⟩ := List.getElem_of_mem hb
        rw [List.getElem_take, List.getElem_drop] at e
        rw [List.length_take, List.length_drop] at hj
        have := hall j (by omega)
        rw [get_L s (pos + j) (by omega), e] at this
        exact blk_big this
      cases st with
      | none =>
        have e : curOf s (some pos) (pos + K) = ((L s).drop pos).take K := by
          rw [curOf_more s pos pos K (Nat.le_refl _), curOf_self, List.nil_append]
        simp only []
        rw [ih _ (by omega) f (pos + K) (some pos) acc rfl (by omega) (by omega) (fun a h => by cases h; omega), e]
        conv => rhs; rw [hsplit]
        rw [wgo_black _ _ _ hblack]
        simp [curOf]
      | some a =>
        have hap := hst a rfl
        have e := curOf_more s a pos K (by omega)
        simp only []
        rw [ih _ (by omega) f (pos + K) (some a) acc rfl (by omega) (by omega) (fun a' h => by cases h; omega), e]
        conv => rhs; rw [hsplit]
        rw [wgo_black _ _ _ hblack]
  · obtain rfl : pos = (L s).length := by omega
    rw [Lib.spansFromP_end _ _ _ _ _ _ (by omega), List.drop_length]
    cases st with
    | none => simp [Lib.closeSpans, wgo, curOf]
    | some a =>
      have hap := hst a rfl
      simp only [Lib.closeSpans, wgo]
      rw [if_neg (curOf_ne s a _ hap (Nat.le_refl _))]
      simp only [List.map_append, List.map_cons, List.map_nil, hsz, curOf_ext]
theorem words_some (s : ByteArray) (h : s.size ≤ 4398046511104) : names_Words.f s = some ((words (L s)).map B) := by
  unfold names_Words.f
  rw [if_pos h]
  have := spans_words s (L s).length s.size 0 none [] (by omega) (by rw [size_L]; omega) (by omega) (fun a h => by cases h)
  rw [List.drop_zero] at this
  exact congrArg some this

/-! ### the reference's words -/
theorem wgo_len : ∀ (l cur : List UInt8), (wgo l cur).length ≤ l.length + 1
  | [], cur => by unfold wgo; split <;> simp
  | b :: l, cur => by
    unfold wgo
    split
    · split
      · have := wgo_len l []; simp; omega
      · have := wgo_len l []; simp; omega
    · have := wgo_len l (cur ++ [b]); simp; omega
def fromOf (st : Option Nat) : Int := match st with | none => -1 | some a => (a : Int)
end Go.Proofs.YtadfbbjplgbakaaGreat.Plain
namespace Go.Proofs.YtadfbbjplgbakaaGreat.Plain
open Go.RowKit Go.Proofs.YtadfbbjplgbakaaGreatW.PrintWords Go.Proofs.YtadfbbjplgbakaaGreat.PX

/-- Words with one blank between. -/
def joinB (ws : List ByteArray) : ByteArray := B (Lib.join (ws.map L) [32])
/-- A bound on what they become. -/
def sumS (ws : List ByteArray) : Nat := (ws.map fun w => w.size + 1).sum
theorem sumS_cons (w : ByteArray) (ws : List ByteArray) : sumS (w :: ws) = w.size + 1 + sumS ws := by simp [sumS]
theorem sumS_append (a b : List ByteArray) : sumS (a ++ b) = sumS a + sumS b := by simp [sumS]
theorem sumS_len (ws : List ByteArray) : ws.length ≤ sumS ws := by
  induction ws with
  | nil => simp
  | cons w ws ih => rw [sumS_cons, List.length_cons]; omega
theorem tail_cons (x : List UInt8) (xs : List (List UInt8)) : Lib.joinTail [32] (x :: xs) = 32 :: x ++ Lib.joinTail [32] xs := by simp [Lib.joinTail]
theorem tail_len (ws : List ByteArray) : (Lib.joinTail [32] (ws.map L)).length = sumS ws := by
  induction ws with
  | nil => simp [Lib.joinTail, sumS]
  | cons w ws ih => rw [List.map_cons, tail_cons, sumS_cons, List.length_append, ih, List.length_cons, size_L]
theorem joinB_len (ws : List ByteArray) : (Lib.join (ws.map L) [32]).length ≤ sumS ws := by
  cases ws with
  | nil => simp [Lib.join_nil]
  | cons w ws => rw [List.map_cons, Lib.join_cons, List.length_append, tail_len, sumS_cons, size_L]; omega
theorem joinB_size (ws : List ByteArray) : (joinB ws).size ≤ sumS ws := by
  rw [size_L]; exact joinB_len ws
theorem join_some (ws : List ByteArray) (h : sumS ws ≤ 140737488355328) : names_Join.f ws = some (joinB ws) := by
  have h1 := sumS_len ws
  have h2 := joinB_len ws
  have e : strings_Join.f ws ⟨#[32]⟩ = some (joinB ws) := by
    unfold strings_Join.f
    rw [if_pos (by omega)]
    exact if_pos (by show (Lib.join (ws.map L) [32]).length ≤ _; omega)
  unfold names_Join.f
  rw [e]; rfl
/-! ### ends -/
/-- Does a text end with another one? -/
def sufB (a b : ByteArray) : Bool := decide (b.size ≤ a.size) && decide (a.extract (a.size - b.size) a.size = b)
/-- A text without an end. -/
def cutB (a b : ByteArray) : ByteArray × Bool := if sufB a b = true then (a.extract 0 (a.size - b.size), true) else (a, false)
theorem sub_nat {a b : Nat} (h : b ≤ a) (ha : a ≤ 4611686018427387904) : wrap64 ((a : Int) - (b : Int)) = ((a - b : Nat) : Int) := by
  rw [wrap_id (by omega) (by omega)]; omega
theorem hassuf_eq (a b : ByteArray) (ha : a.size ≤ 4611686018427387904) : stringslite_HasSuffix.f a b = some (sufB a b) := by
  unfold stringslite_HasSuffix.f sufB
  by_cases h : b.size ≤ a.size
  · rw [if_pos (by omega), sub_nat h ha, if_pos (by omega), if_pos (by omega), Int.toNat_natCast, decide_eq_true h, Bool.true_and]
    by_cases h2 : a.extract (a.size - b.size) a.size = b
    · rw [decide_eq_true h2, h2]; simp
    · rw [decide_eq_false h2, beq_eq_false_iff_ne.2 (fun e => h2 (toList_inj.1 e))]
  · rw [if_neg (by omega), decide_eq_false h]; rfl
theorem sufB_size {a b : ByteArray} (h : sufB a b = true) : b.size ≤ a.size := by
  unfold sufB at h
  simp only [Bool.and_eq_true, decide_eq_true_eq] at h
  exact h.1
theorem sufB_eq {a b : ByteArray} (h : sufB a b = true) : a.extract (a.size - b.size) a.size = b := by
  unfold sufB at h
  simp only [Bool.and_eq_true, decide_eq_true_eq] at h
  exact h.2
theorem cutSuf_eq (a b : ByteArray) (ha : a.size ≤ 4611686018427387904) : strings_CutSuffix.f a b = some (cutB a b) := by
  have e : stringslite_CutSuffix.f a b = some (cutB a b) := by
    unfold stringslite_CutSuffix.f cutB
    rw [hassuf_eq a b ha, Option.bind_some]
    by_cases h : sufB a b = true
    · rw [if_pos h, if_pos h, sub_nat (sufB_size h) ha, if_pos (by omega), if_pos (by omega), Int.toNat_natCast]
    · rw [if_neg h, if_neg h]
  unfold strings_CutSuffix.f
  rw [e]; rfl
/-- A name without an end, if it has that end, and something ahead of it. -/
def stemB (a b : ByteArray) : ByteArray × Bool := if b.size = 0 then (⟨#[]⟩, false) else if sufB a b = false then (⟨#[]⟩, false) else if a.size = b.size then (⟨#[]⟩, false) else (a.extract 0 (a.size - b.size), true)
theorem nil_iff (a : ByteArray) : a.toList = [] ↔ a.size = 0 := by
  rw [toList_L, size_L]
  exact ⟨fun h => by rw [h]; rfl, List.eq_nil_of_length_eq_zero⟩
theorem cutB_yes {a b : ByteArray} (h : sufB a b = true) : cutB a b = (a.extract 0 (a.size - b.size), true) := if_pos h
theorem cutB_no {a b : ByteArray} (h : sufB a b = false) : cutB a b = (a, false) := if_neg (by rw [h]; decide)
/-- A word that ends with one end has another one. -/
def swapB (f t w : ByteArray) : ByteArray := if sufB w f = true then w.extract 0 (w.size - f.size) ++ t else w
theorem swapB_size (f t w : ByteArray) : (swapB f t w).size ≤ w.size + t.size := by
  unfold swapB
  split
  · rw [ByteArray.size_append, ByteArray.size_extract]; omega
  · omega
theorem swap_loop (f t : ByteArray) (ws : List ByteArray) (hl : ws.length ≤ 4611686018427387904) (hw : ∀ w ∈ ws, w.size + t.size ≤ 4611686018427387904) (hj : sumS (ws.map (swapB f t)) ≤ 140737488355328) :
    ∀ (d i : Nat) (pre : List ByteArray), i + d = ws.length → pre = (ws.take i).map (swapB f t) →
    Ev (fun k => names_Swap.l0 k f t (pre ++ ws.drop i) (ws.length : Int) (i : Int)) (joinB (ws.map (swapB f t)))
  | 0, i, pre, hi, hp => by
    obtain rfl : i = ws.length := by omega
    refine Ev.step (fun _ => rfl) (ev_neg (by omega) ?_)
    rw [List.drop_length, List.append_nil, hp, List.take_length]
    exact ev_const (join_some _ hj) (ev_some rfl)
  | d + 1, i, pre, hi, hp => by
    have hlt : i < ws.length := by omega
    obtain ⟨w, hww⟩ : ∃ w, ws[i]? = some w := ⟨_, List.getElem?_eq_getElem hlt⟩
    have hpl : pre.length = i := by rw [hp, List.length_map, List.length_take]; omega
    have hd := drop_at hww
    have hsz := hw w (List.mem_of_getElem? hww)
    have hg : (pre ++ ws.drop i)[i]? = some w := by rw [hd, ← hpl]; simp
    have htk : ws.take (i + 1) = ws.take i ++ [w] := by rw [List.take_add_one, hww]; rfl
    have ih := swap_loop f t ws hl hw hj d (i + 1) (pre ++ [swapB f t w]) (by omega) (by rw [htk, List.map_append, ← hp]; rfl)
    rw [List.append_assoc, List.singleton_append] at ih
    refine Ev.step (fun _ => rfl) (ev_pos (by omega) (ev_pos (by omega) (ev_pos ?_ ?_)))
    · rw [List.length_append, List.length_drop]; omega
    · rw [rdOf_at hg, wrap_id (by omega) (by omega)]
      refine ev_const (cutSuf_eq w f (by omega)) ?_
      unfold cutB
      by_cases h : sufB w f = true
      · rw [if_pos h]
        have e : swapB f t w = w.extract 0 (w.size - f.size) ++ t := by unfold swapB; rw [if_pos h]
        refine ev_pos rfl (ev_pos ?_ ?_)
        · simp only [ByteArray.size_extract]; omega
        · simp only []
          rw [← e, Int.toNat_natCast, hd, ← hpl, Lib.set_mid, hpl]
          exact ih
      · rw [if_neg h]
        have e : swapB f t w = w := by unfold swapB; rw [if_neg h]
        rw [e] at ih
        refine ev_neg (by simp) ?_
        rw [hd]
        exact ih
/-- Swap: the words, each swapped, joined. -/
def swapOf (s f t : ByteArray) : ByteArray := joinB (((words (L s)).map B).map (swapB f t))
/-- The words' letters, and one more for each, are at most the text's and one. -/
theorem wgo_sum : ∀ (l cur : List UInt8), ((wgo l cur).map (fun w => w.length + 1)).sum ≤ l.length + cur.length + 1
  | [], cur => by
    unfold wgo
    split <;> simp
  | b :: l, cur => by
    unfold wgo
    split
    · split
      · have := wgo_sum l []; simp at this ⊢; omega
      · have := wgo_sum l []; simp at this ⊢; omega
    · have := wgo_sum l (cur ++ [b]); simp at this ⊢; omega
theorem words_sum (s : ByteArray) : sumS ((words (L s)).map B) ≤ s.size + 1 := by
  have := wgo_sum (L s) []
  unfold sumS
  rw [List.map_map, show ((fun w : ByteArray => w.size + 1) ∘ B) = (fun w => w.length + 1) from funext fun w => by show (B w).size + 1 = _; rw [size_L, L_B], size_L]
  unfold words
  simpa using this
theorem sumS_mem {w : ByteArray} {ws : List ByteArray} (h : w ∈ ws) : w.size + 1 ≤ sumS ws := by
  induction ws with
  | nil => cases h
  | cons x ws ih =>
    rw [sumS_cons]
    rcases List.mem_cons.1 h with rfl | h
    · omega
    · have := ih h; omega
theorem sumS_swap (f t : ByteArray) (ws : List ByteArray) : sumS (ws.map (swapB f t)) ≤ sumS ws + ws.length * t.size := by
  induction ws with
  | nil => simp [sumS]
  | cons w ws ih =>
    rw [List.map_cons, sumS_cons, sumS_cons, List.length_cons, Nat.succ_mul]
    have := swapB_size f t w
    omega
theorem swap_ev (s f t : ByteArray) (hs : s.size ≤ 4398046511104) (h : sumS (((words (L s)).map B).map (swapB f t)) ≤ 140737488355328) (ht : t.size ≤ 140737488355328) : Ev (fun k => names_Swap.f k s f t) (swapOf s f t) := by
  have h1 := words_sum s
  have h2 := sumS_len ((words (L s)).map B)
  refine ev_const (words_some s hs) ?_
  have := swap_loop f t ((words (L s)).map B) (by omega) (fun w hw => by have := sumS_mem hw; omega) h _ 0 [] (Nat.zero_add _) rfl
  rw [List.drop_zero, List.nil_append] at this
  exact this
end Go.Proofs.YtadfbbjplgbakaaGreat.Plain
