/- What Trim, TrimLeft and the reference's Trim and front come to. -/
import Derived.Test.YtjdielkpdnedeaaDoorBase
import Derived.Lib.SlTrimSet
import Derived.Test.YtjdielkpdnedeaaDoorWordsP
import Derived.Test.YtjdielkpdnedeaaDoorPXx2
import Derived.Test.YtjdielkpdnedeaaDoorPXx3
import Derived.Test.YtjdielkpdnedeaaDoorPXx5
namespace Go.Proofs.YtjdielkpdnedeaaDoor.Plain
open Go.RowKit Go.Proofs.YtjdielkpdnedeaaDoorW.PrintWords Go.Proofs.YtjdielkpdnedeaaDoor.PX

/-- Bytes without blanks at the front; at the end; at both. -/
def frontL (l : List UInt8) : List UInt8 := l.dropWhile blk
def endL (l : List UInt8) : List UInt8 := (l.reverse.dropWhile blk).reverse
def trimL (l : List UInt8) : List UInt8 := endL (frontL l)
theorem cs_blk : (fun b : UInt8 => ([32, 9] : List UInt8).contains b) = blk := by
  funext b
  simp only [blk, List.contains, List.elem]
  cases b == 32 <;> cases b == 9 <;> rfl
theorem endL_cons (a : UInt8) (t : List UInt8) : endL (a :: t) = if endL t = [] then (if blk a = true then [] else [a]) else a :: endL t := by
  unfold endL
  rw [List.reverse_cons, List.dropWhile_append]
  by_cases h : t.reverse.dropWhile blk = []
  · simp only [h, List.isEmpty_nil, if_true, List.reverse_nil]
    by_cases hb : blk a = true
    · simp [List.dropWhile, hb]
    · have hb' : blk a = false := by simpa using hb
      simp [List.dropWhile, hb']
  · have h2 : (t.reverse.dropWhile blk).isEmpty = false := by simpa using h
    rw [h2]
    simp [h]
theorem front_end : ∀ l : List UInt8, frontL (endL l) = endL (frontL l)
  | [] => rfl
  | a :: t => by
    have ih := front_end t
    rw [endL_cons]
    by_cases hb : blk a = true
    · have e1 : frontL (a :: t) = frontL t := by unfold frontL; rw [List.dropWhile_cons, if_pos hb]
      rw [e1, ← ih]
      by_cases h : endL t = []
      · rw [if_pos h, if_pos hb, h]
      · rw [if_neg h]
        unfold frontL
        rw [List.dropWhile_cons, if_pos hb]
    · have e1 : frontL (a :: t) = a :: t := by unfold frontL; rw [List.dropWhile_cons, if_neg hb]
      rw [e1, endL_cons]
      by_cases h : endL t = []
      · rw [if_pos h, if_neg hb]
        unfold frontL
        rw [List.dropWhile_cons, if_neg hb]
      · rw [if_neg h]
        unfold frontL
        rw [List.dropWhile_cons, if_neg hb]
theorem dw_len (p : UInt8 → Bool) (l : List UInt8) : (l.dropWhile p).length ≤ l.length := (List.dropWhile_sublist p).length_le
theorem front_len (l : List UInt8) : (frontL l).length ≤ l.length := dw_len _ _
theorem end_len (l : List UInt8) : (endL l).length ≤ l.length := by
  unfold endL
  rw [List.length_reverse]
  exact Nat.le_trans (dw_len _ _) (by rw [List.length_reverse]; exact Nat.le_refl _)
theorem trim_some (s : ByteArray) (h : s.size ≤ 4611686018427387904) : stmt_trim.f s = some (B (trimL (L s))) := by
  unfold stmt_trim.f strings_Trim.f
  rw [if_pos rfl, if_pos (by omega)]
  show some (B (Lib.trimS (L s) [32, 9])) = _
  unfold Lib.trimS Lib.trimLeftS Lib.trimRightS trimL
  rw [← front_end]
  unfold frontL endL
  rw [← cs_blk]
theorem left_some (s : ByteArray) (h : s.size ≤ 4611686018427387904) : strings_TrimLeft.f s ⟨#[32, 9]⟩ = some (B (frontL (L s))) := by
  unfold strings_TrimLeft.f
  rw [if_pos rfl, if_pos (by omega)]
  show some (B (Lib.trimLeftS (L s) [32, 9])) = _
  unfold Lib.trimLeftS frontL
  rw [← cs_blk]
theorem blank_eq (b : UInt8) : smithyref07_blank.f (b.toNat : Int) = some (blk b) := by
  unfold smithyref07_blank.f blk
  by_cases h32 : b = 32
  · subst h32; rfl
  · rw [if_neg (fun h => h32 (u8_eq.1 (by exact_mod_cast h))), beq_eq_false_iff_ne.2 h32, Bool.false_or]
    congr 1
    by_cases h9 : b = 9
    · subst h9; rfl
    · rw [beq_eq_false_iff_ne.2 h9]
      exact beq_eq_false_iff_ne.2 (fun h => h9 (u8_eq.1 (by exact_mod_cast h)))
theorem front_ev : ∀ (n : Nat) (s : ByteArray), (L s).length = n → s.size ≤ 4611686018427387904 → Ev (fun k => smithyref07_front.f k s) (B (frontL (L s)))
  | 0, s, hn, _ => by
    have hsz := size_L s
    refine Ev.step (fun _ => rfl) (ev_neg (by omega) (ev_some ?_))
    rw [List.eq_nil_of_length_eq_zero hn]
    exact L_inj (by rw [List.eq_nil_of_length_eq_zero hn]; rfl)
  | n + 1, s, hn, hs => by
    have hsz := size_L s
    obtain ⟨b, hb⟩ : ∃ b, (L s)[0]? = some b := ⟨_, List.getElem?_eq_getElem (by omega)⟩
    have hd := drop_at hb
    rw [List.drop_zero] at hd
    refine Ev.step (fun _ => rfl) (ev_pos (by omega) (ev_pos (by omega) ?_))
    rw [show bt s 0 = (b.toNat : Int) from bt_at_L hb, hd]
    refine ev_const (blank_eq b) ?_
    unfold frontL
    rw [List.dropWhile_cons]
    by_cases hk : blk b = true
    · rw [if_pos hk]
      have e : L (s.extract 1 s.size) = (L s).drop 1 := by rw [L_extract, List.take_of_length_le (by rw [List.length_drop]; omega)]
      refine ev_pos hk (ev_pos (by omega) (ev_eq (front_ev n (s.extract 1 s.size) (by rw [e, List.length_drop]; omega) (by rw [ByteArray.size_extract]; omega)) ?_))
      rw [e]; rfl
    · rw [if_neg hk, ← hd]
      exact ev_neg hk (ev_some rfl)
theorem end_ev : ∀ (n : Nat) (s : ByteArray), (L s).length = n → s.size ≤ 4611686018427387904 → Ev (fun k => smithyref07_Trim.l0 k s) (B (endL (L s)))
  | 0, s, hn, _ => by
    have hsz := size_L s
    refine Ev.step (fun _ => rfl) (ev_neg (by omega) (ev_some ?_))
    rw [List.eq_nil_of_length_eq_zero hn]
    exact L_inj (by rw [List.eq_nil_of_length_eq_zero hn]; rfl)
  | n + 1, s, hn, hs => by
    have hsz := size_L s
    obtain ⟨b, hb⟩ : ∃ b, (L s)[n]? = some b := ⟨_, List.getElem?_eq_getElem (by omega)⟩
    have hd : L s = (L s).take n ++ [b] := by
      conv => lhs; rw [← List.take_append_drop n (L s), drop_at hb, List.drop_of_length_le (by omega)]
    have ew : wrap64 ((s.size : Int) - 1) = (n : Int) := by rw [wrap_id (by omega) (by omega)]; omega
    refine Ev.step (fun _ => rfl) (ev_pos (by omega) ?_)
    rw [ew]
    refine ev_pos (by omega) (ev_pos (by omega) ?_)
    rw [bt_at_L hb]
    refine ev_const (blank_eq b) ?_
    by_cases hk : blk b = true
    · have e : L (s.extract 0 (n : Int).toNat) = (L s).take n := by rw [L_extract, List.drop_zero, Int.toNat_natCast, Nat.sub_zero]
      refine ev_pos hk (ev_pos (by omega) (ev_eq (end_ev n (s.extract 0 (n : Int).toNat) (by rw [e, List.length_take]; omega) (by rw [ByteArray.size_extract]; omega)) ?_))
      rw [e]
      conv => rhs; rw [hd]
      unfold endL
      rw [List.reverse_append, List.reverse_singleton, List.singleton_append, List.dropWhile_cons, if_pos hk]
    · refine ev_neg hk (ev_some ?_)
      have : endL (L s) = L s := by
        conv => lhs; rw [hd]
        unfold endL
        rw [List.reverse_append, List.reverse_singleton, List.singleton_append, List.dropWhile_cons, if_neg hk]
        conv => rhs; rw [hd]
        simp
      rw [this]; rfl
theorem rtrim_ev (s : ByteArray) (hs : s.size ≤ 4611686018427387904) : Ev (fun k => smithyref07_Trim.f k s) (B (trimL (L s))) := by
  refine Ev.bind (front_ev _ s rfl hs) ?_
  have h := front_len (L s)
  have hsz := size_L s
  have := end_ev _ (B (frontL (L s))) rfl (by rw [size_L, L_B]; omega)
  rw [L_B] at this
  exact this

/-! ### the words of a text that is trimmed -/
theorem wgo_count : ∀ (l cur : List UInt8), ((wgo l cur).map List.length).sum = l.countP (fun b => !blk b) + cur.length
  | [], cur => by
    unfold wgo
    split
    · rename_i h; subst h; rfl
    · simp
  | b :: l, cur => by
    unfold wgo
    by_cases hk : blk b = true
    · rw [if_pos hk, List.countP_cons, hk]
      by_cases h : cur = []
      · subst h
        rw [if_pos rfl, wgo_count l []]; simp
      · rw [if_neg h, List.map_cons, List.sum_cons, wgo_count l []]
        simp only [List.length_nil, Bool.not_true, Bool.false_eq_true, if_false]; omega
    · rw [if_neg hk, List.countP_cons, if_pos (by simp [hk]), wgo_count l (cur ++ [b])]
      simp only [List.length_append, List.length_cons, List.length_nil]; omega
theorem front_count (l : List UInt8) : (frontL l).countP (fun b => !blk b) = l.countP (fun b => !blk b) := by
  unfold frontL
  induction l with
  | nil => rfl
  | cons a t ih =>
    rw [List.dropWhile_cons]
    by_cases hk : blk a = true
    · rw [if_pos hk, ih, List.countP_cons, if_neg (by simp [hk])]; omega
    · rw [if_neg hk]
theorem end_count (l : List UInt8) : (endL l).countP (fun b => !blk b) = l.countP (fun b => !blk b) := by
  unfold endL
  rw [List.countP_reverse]
  have := front_count l.reverse
  unfold frontL at this
  rw [this, List.countP_reverse]
theorem trim_room {l : List UInt8} {w : List UInt8} {ws : List (List UInt8)} (h : words l = w :: ws) : w.length ≤ (trimL l).length := by
  have h1 := wgo_count l []
  unfold words at h
  rw [h, List.map_cons, List.sum_cons, List.length_nil] at h1
  have h2 : (trimL l).countP (fun b => !blk b) ≤ (trimL l).length := List.countP_le_length
  unfold trimL at h2
  rw [end_count, front_count] at h2
  unfold trimL
  omega
end Go.Proofs.YtjdielkpdnedeaaDoor.Plain
