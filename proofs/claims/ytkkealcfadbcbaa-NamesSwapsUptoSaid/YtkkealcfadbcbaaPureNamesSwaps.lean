/- For every list and every two ends: words that end with one end, swapped there and back, are the same words (a bulk of at most 1048576). -/
import Derived.Test.YtkkealcfadbcbaaNames1
import Derived.Test.YtkkealcfadbcbaaNames2
import Derived.Test.YtkkealcfadbcbaaSwapP
import Derived.Test.YtkkealcfadbcbaaOpens
import Derived.Test.YtkkealcfadbcbaaPureNamesBack
import Derived.Test.YtkkealcfadbcbaaPXx7
set_option linter.unusedVariables false
set_option linter.unusedSimpArgs false
namespace Go.Proofs.Ytkkealcfadbcbaa.Pure
open Go.RowKit Go.Proofs.Ytkkealcfadbcbaa.PX Go.Proofs.YtkkealcfadbcbaaW.PrintWords Go.Proofs.Ytkkealcfadbcbaa.Plain Go.Proofs.Ytkkealcfadbcbaa.Opens

/-- A text of words, each behind a blank, each with an end. -/
def tl (F : List UInt8) (ws : List (List UInt8)) : List UInt8 := Lib.joinTail [32] (ws.map (· ++ F))
def sumW (ws : List (List UInt8)) : Nat := (ws.map fun w => w.length + 1).sum
theorem sumW_cons (w : List UInt8) (ws : List (List UInt8)) : sumW (w :: ws) = w.length + 1 + sumW ws := by simp [sumW]
theorem sumW_append (a b : List (List UInt8)) : sumW (a ++ b) = sumW a + sumW b := by simp [sumW]
theorem sumW_len (ws : List (List UInt8)) : ws.length ≤ sumW ws := by
  induction ws with
  | nil => simp
  | cons w ws ih => rw [sumW_cons, List.length_cons]; omega
theorem sumW_words (l : List UInt8) : sumW (words l) ≤ l.length + 1 := by
  have := wgo_sum l []
  unfold sumW words
  simpa using this
theorem sumW_end (F : List UInt8) (ws : List (List UInt8)) : sumW (ws.map (· ++ F)) = sumW ws + ws.length * F.length := by
  induction ws with
  | nil => simp [sumW]
  | cons w ws ih => rw [List.map_cons, sumW_cons, sumW_cons, ih, List.length_append, List.length_cons, Nat.succ_mul]; omega
theorem sumS_B (ws : List (List UInt8)) : sumS (ws.map B) = sumW ws := by
  induction ws with
  | nil => rfl
  | cons w ws ih => rw [List.map_cons, sumS_cons, sumW_cons, ih, size_L, L_B]
theorem tl_nil (F : List UInt8) : tl F [] = [] := rfl
theorem tl_cons (F w : List UInt8) (ws : List (List UInt8)) : tl F (w :: ws) = 32 :: (w ++ F) ++ tl F ws := tail_cons _ _
theorem tl_append (F : List UInt8) (a b : List (List UInt8)) : tl F (a ++ b) = tl F a ++ tl F b := by
  induction a with
  | nil => rfl
  | cons w a ih => rw [List.cons_append, tl_cons, tl_cons, ih]; simp
theorem tl_len (F : List UInt8) (ws : List (List UInt8)) : (tl F ws).length = sumW ws + ws.length * F.length := by
  induction ws with
  | nil => simp [tl_nil, sumW]
  | cons w ws ih => rw [tl_cons, sumW_cons, List.length_append, ih, List.length_cons, List.length_cons, List.length_append, Nat.succ_mul]; omega
theorem words_tl (F : List UInt8) (hF : ∀ b ∈ F, blk b = false) (ws : List (List UInt8)) (h : ∀ x ∈ ws, isW x) : words (tl F ws) = ws.map (· ++ F) := by
  have hw : ∀ x ∈ ws.map (· ++ F), isW x := by
    intro x hx
    obtain ⟨y, hy, rfl⟩ := List.mem_map.1 hx
    obtain ⟨h1, h2⟩ := h y hy
    refine ⟨by simp [h1], fun b hb => ?_⟩
    rcases List.mem_append.1 hb with hb | hb
    · exact h2 b hb
    · exact hF b hb
  unfold tl
  generalize ws.map (· ++ F) = vs at hw
  cases vs with
  | nil => rfl
  | cons v vs =>
    have hv := hw v (by simp)
    unfold words
    rw [tail_cons, List.cons_append, wgo, if_pos (show blk 32 = true from rfl), if_pos rfl, wgo_black v _ [] hv.2, List.nil_append, wgo_tail vs v hv (fun y hy => hw y (by simp [hy]))]
/-- All words of a list. -/
def wordsAll (l : List ByteArray) : List (List UInt8) := l.flatMap fun w => words (L w)
theorem wordsAll_cons (w : ByteArray) (l : List ByteArray) : wordsAll (w :: l) = words (L w) ++ wordsAll l := by simp [wordsAll]
theorem wordsAll_isW (l : List ByteArray) : ∀ x ∈ wordsAll l, isW x := by
  intro x hx
  obtain ⟨w, _, hw⟩ := List.mem_flatMap.1 hx
  exact wgo_isW (L w) [] (fun b hb => by cases hb) x hw
theorem wordsAll_sum (l : List ByteArray) : sumW (wordsAll l) ≤ (l.map fun w => w.size + 1).sum := by
  induction l with
  | nil => simp [wordsAll, sumW]
  | cons w l ih =>
    rw [wordsAll_cons, sumW_append, List.map_cons, List.sum_cons]
    have := sumW_words (L w)
    have hz := size_L w
    omega
theorem swap_end (f t : ByteArray) (w : List UInt8) : swapB f t (B (w ++ L f)) = B (w ++ L t) := by
  have hz : (B (w ++ L f)).size = w.length + f.size := by rw [size_L, L_B, List.length_append, size_L f]
  have hf := size_L f
  have hs : sufB (B (w ++ L f)) f = true := by
    unfold sufB
    rw [hz]
    simp only [Bool.and_eq_true, decide_eq_true_eq]
    refine ⟨by omega, L_inj ?_⟩
    rw [L_extract, L_B, show w.length + f.size - f.size = w.length by omega, List.drop_left, List.take_of_length_le (by omega)]
  unfold swapB
  rw [if_pos hs, hz, show w.length + f.size - f.size = w.length by omega]
  refine L_inj ?_
  rw [L_append, L_extract, L_B, List.drop_zero, Nat.sub_zero, List.take_left]
  rfl
theorem swap_all (f t : ByteArray) (ws : List (List UInt8)) : ((ws.map (· ++ L f)).map B).map (swapB f t) = (ws.map (· ++ L t)).map B := by
  rw [List.map_map, List.map_map, List.map_map]
  exact List.map_congr_left (fun w _ => swap_end f t w)
theorem join_words (ws : List (List UInt8)) (h : ∀ x ∈ ws, isW x) : words (L (joinB (ws.map B))) = ws := by
  unfold joinB
  rw [L_B, map_L_B]
  exact words_join ws h
/-- An end that is no blank. -/
theorem end_ok (f : ByteArray) (h1 : (words (L f)).length ≤ 1) (h2 : 0 < f.size → joinB ((words (L f)).map B) = f) : ∀ b ∈ L f, blk b = false := by
  by_cases h0 : 0 < f.size
  · have h3 := h2 h0
    cases hw : words (L f) with
    | nil =>
      rw [hw] at h3
      rw [← h3] at h0
      exact absurd h0 (by decide)
    | cons w ws =>
      rw [hw] at h1 h3
      have : ws = [] := List.eq_nil_of_length_eq_zero (by simp at h1; simpa using h1)
      subst this
      have h4 : L f = w := by
        have := congrArg L h3
        rw [← this]
        unfold joinB
        rw [L_B]
        simp [Lib.join_cons, Lib.joinTail, L_B]
      rw [h4]
      exact (wgo_isW (L f) [] (fun b hb => by cases hb) w (by show w ∈ words (L f); rw [hw]; simp)).2
  · have e : L f = [] := List.eq_nil_of_length_eq_zero (by have := size_L f; omega)
    rw [e]
    intro b hb
    cases hb
theorem isW_end {F : List UInt8} (hF : ∀ b ∈ F, blk b = false) {ws : List (List UInt8)} (h : ∀ x ∈ ws, isW x) : ∀ x ∈ ws.map (· ++ F), isW x := by
  intro x hx
  obtain ⟨y, hy, rfl⟩ := List.mem_map.1 hx
  obtain ⟨h1, h2⟩ := h y hy
  refine ⟨by simp [h1], fun b hb => ?_⟩
  rcases List.mem_append.1 hb with hb | hb
  · exact h2 b hb
  · exact hF b hb
/-- The ends fit: there and back. -/
theorem sw_back (f t : ByteArray) (ws : List (List UInt8)) (hw : ∀ x ∈ ws, isW x) (hf : ∀ b ∈ L f, blk b = false) (ht : ∀ b ∈ L t, blk b = false) (hm : sumW ws ≤ 1048576) (hfs : f.size ≤ 1048576) (hts : t.size ≤ 1048576) (z : Bool) (hz : z = false) :
    Ev (fun k => smithylaw03_NamesSwaps.j2 k f t (B (tl (L f) ws)) z) true := by
  have hn := sumW_len ws
  have m1 : ws.length * (L f).length ≤ 1048576 * 1048576 := Nat.mul_le_mul (by omega) (by rw [← size_L]; exact hfs)
  have m2 : ws.length * (L t).length ≤ 1048576 * 1048576 := Nat.mul_le_mul (by omega) (by rw [← size_L]; exact hts)
  have hT : (B (tl (L f) ws)).size ≤ 4398046511104 := by rw [size_L, L_B, tl_len]; omega
  have hwT : words (L (B (tl (L f) ws))) = ws.map (· ++ L f) := by rw [L_B]; exact words_tl (L f) hf ws hw
  have s1 : sumS ((ws.map (· ++ L f)).map B) ≤ 140737488355328 := by rw [sumS_B, sumW_end]; omega
  have s2 : sumS ((ws.map (· ++ L t)).map B) ≤ 4398046511104 := by rw [sumS_B, sumW_end]; omega
  have e1 := swap_ev (B (tl (L f) ws)) f t hT (by rw [hwT, swap_all]; omega) (by omega)
  have hS1 : swapOf (B (tl (L f) ws)) f t = joinB ((ws.map (· ++ L t)).map B) := by unfold swapOf; rw [hwT, swap_all]
  rw [hS1] at e1
  have hT2 : (joinB ((ws.map (· ++ L t)).map B)).size ≤ 4398046511104 := Nat.le_trans (joinB_size _) s2
  have hw2 : words (L (joinB ((ws.map (· ++ L t)).map B))) = ws.map (· ++ L t) := join_words _ (isW_end ht hw)
  have e2 := swap_ev (joinB ((ws.map (· ++ L t)).map B)) t f hT2 (by rw [hw2, swap_all]; exact s1) (by omega)
  have hS2 : swapOf (joinB ((ws.map (· ++ L t)).map B)) t f = joinB ((ws.map (· ++ L f)).map B) := by unfold swapOf; rw [hw2, swap_all]
  rw [hS2] at e2
  have e3 := words_some (B (tl (L f) ws)) hT
  rw [hwT] at e3
  exact Ev.step (fun _ => rfl) (ev_neg (by rw [hz]; decide) (Ev.bind e1 (Ev.bind e2 (ev_const e3 (ev_const (join_some _ s1) (ev_pos rfl (Ev.bind small_ev (ev_some rfl))))))))
theorem sw_end (f t : ByteArray) (l : List ByteArray) (ws : List (List UInt8)) (hw : ∀ x ∈ ws, isW x) (hm : sumW ws ≤ 1048576) (hfs : f.size ≤ 1048576) (hts : t.size ≤ 1048576) :
    Ev (fun k => smithylaw03_NamesSwaps.l0 k f t (B (tl (L f) ws)) l (l.length : Int) (l.length : Int)) true := by
  obtain ⟨T, hT⟩ : ∃ T, B (tl (L f) ws) = T := ⟨_, rfl⟩
  have hback := sw_back f t ws hw
  rw [hT] at hback ⊢
  have stop : ∀ z, z = true → Ev (fun k => smithylaw03_NamesSwaps.j2 k f t T z) true := fun z hz => Ev.step (fun _ => rfl) (ev_pos hz (Ev.bind small_ev (ev_some rfl)))
  have wf := rwords_ev f (by omega)
  have wt := rwords_ev t (by omega)
  have jf := rjoin_ev ((words (L f)).map B) (by have := words_sum f; omega)
  have jt := rjoin_ev ((words (L t)).map B) (by have := words_sum t; omega)
  have lf : (((words (L f)).map B).length : Int) = ((words (L f)).length : Int) := by rw [List.length_map]
  have lt : (((words (L t)).map B).length : Int) = ((words (L t)).length : Int) := by rw [List.length_map]
  refine Ev.step (fun _ => rfl) (ev_neg (by omega) (Ev.bind wf (ev_ite2 (fun _ => stop _ rfl) (fun c1 => Ev.bind wt (ev_ite2 (fun _ => stop _ rfl) (fun c2 => ?_))))))
  rw [lf] at c1
  rw [lt] at c2
  have key : (0 < f.size → joinB ((words (L f)).map B) = f) → (0 < t.size → joinB ((words (L t)).map B) = t) → ∀ z, z = false → Ev (fun k => smithylaw03_NamesSwaps.j2 k f t T z) true := fun h1 h2 z hz =>
    hback (end_ok f (by omega) h1) (end_ok t (by omega) h2) hm hfs hts z hz
  have bit : ∀ a b : ByteArray, (a.toList != b.toList) = decide (a ≠ b) := fun a b => by
    by_cases h : a = b
    · subst h; simp
    · have : a.toList ≠ b.toList := fun e => h (toList_inj.1 e)
      rw [bne_iff_ne.2 this]; simp [h]
  have two : (0 < f.size → joinB ((words (L f)).map B) = f) → Ev (fun k => smithylaw03_NamesSwaps.j2 k f t T ((joinB ((words (L t)).map B)).toList != t.toList)) true := fun h1 => by
    rw [bit]
    by_cases h : joinB ((words (L t)).map B) = t
    · exact key h1 (fun _ => h) _ (by simp [h])
    · exact stop _ (by simp [h])
  refine ev_ite2 (fun c3 => Ev.bind wf (Ev.bind jf (ev_ite2 (fun c4 => ?_) (fun _ => stop _ rfl)))) (fun c3 => ?_)
  · have h1 : joinB ((words (L f)).map B) = f := toList_inj.1 c4
    exact ev_ite2 (fun c5 => Ev.bind wt (Ev.bind jt (two (fun _ => h1)))) (fun c5 => key (fun _ => h1) (fun h => absurd h (by omega)) _ rfl)
  · exact ev_ite2 (fun c5 => Ev.bind wt (Ev.bind jt (two (fun h => absurd h (by omega))))) (fun c5 => key (fun h => absurd h (by omega)) (fun h => absurd h (by omega)) _ rfl)
theorem sw_inner (f t : ByteArray) (l : List ByteArray) (n i : Int) (ws : List (List UInt8)) (W : List ByteArray) (hW : ws.map B = W) (hl : ws.length ≤ 4611686018427387904) : ∀ (d j : Nat) (T : ByteArray), j + d = W.length → T.size + (tl (L f) (ws.drop j)).length ≤ 4611686018427387904 →
    (∀ T', L T' = L T ++ tl (L f) (ws.drop j) → Ev (fun k => smithylaw03_NamesSwaps.l0 k f t T' l n (wrap64 (i + 1))) true) → Ev (fun k => smithylaw03_NamesSwaps.l1 k f t T l n i W (W.length : Int) (j : Int)) true
  | 0, j, T, hj, hs, h => by
    have hWl : W.length = ws.length := by rw [← hW, List.length_map]
    refine Ev.step (fun _ => rfl) (ev_neg (by omega) (h T ?_))
    rw [List.drop_of_length_le (by omega), tl_nil, List.append_nil]
  | d + 1, j, T, hj, hs, h => by
    have hWl : W.length = ws.length := by rw [← hW, List.length_map]
    have c1 : (j : Int) < (W.length : Int) := by omega
    have c2 : (0 : Int) ≤ (j : Int) := Int.natCast_nonneg j
    obtain ⟨w, hw⟩ : ∃ w, ws[j]? = some w := ⟨_, List.getElem?_eq_getElem (by omega)⟩
    rw [drop_at hw, tl_cons] at hs h
    obtain ⟨x, hx⟩ : ∃ x, B w = x := ⟨_, rfl⟩
    have hzw : x.size = w.length := by rw [← hx, size_L, L_B]
    have hLx : L x = w := by rw [← hx]; exact L_B w
    have hzf := size_L f
    rw [List.length_append, List.length_cons, List.length_append] at hs
    have hrd : rdOf ByteArray.empty W (j : Int) = x := rdOf_at (by rw [← hW, List.getElem?_map, hw, ← hx]; rfl)
    have hwr : wrap64 ((j : Int) + 1) = ((j + 1 : Nat) : Int) := by rw [wrap_id (by omega) (by omega)]; omega
    have z1 : (T ++ (⟨#[32]⟩ : ByteArray)).size = T.size + 1 := by rw [ByteArray.size_append]; rfl
    have z2 : (T ++ (⟨#[32]⟩ : ByteArray) ++ x).size = T.size + 1 + w.length := by rw [ByteArray.size_append, z1, hzw]
    have z3 : (T ++ (⟨#[32]⟩ : ByteArray) ++ x ++ f).size = T.size + 1 + w.length + f.size := by rw [ByteArray.size_append, z2]
    have hL : L (T ++ (⟨#[32]⟩ : ByteArray) ++ x ++ f) = L T ++ (32 :: (w ++ L f)) := by
      rw [L_append, L_append, L_append, hLx, show L (⟨#[32]⟩ : ByteArray) = [32] from rfl]; simp
    have ih := sw_inner f t l n i ws W hW hl d (j + 1) (T ++ (⟨#[32]⟩ : ByteArray) ++ x ++ f) (by omega) (by rw [z3]; omega) (fun T' hT' => h T' (by rw [hT', hL]; simp))
    have c3 : T.size + 1 ≤ 9223372036854775807 := by omega
    have c4 : (T ++ (⟨#[32]⟩ : ByteArray)).size + x.size ≤ 9223372036854775807 := by rw [z1, hzw]; omega
    have c5 : (T ++ (⟨#[32]⟩ : ByteArray) ++ x).size + f.size ≤ 9223372036854775807 := by rw [z2]; omega
    clear hs z1 z2 z3 hL hzf hLx hzw
    refine Ev.step (fun _ => rfl) (ev_pos c1 (ev_pos c2 (ev_pos c1 (ev_pos c3 ?_))))
    rw [hrd, hwr]
    exact ev_pos c4 (ev_pos c5 ih)
theorem sw_outer (f t : ByteArray) (l : List ByteArray) (hl : l.length ≤ 1048576) (hs : ∀ w ∈ l, w.size ≤ 1048576) (hfin : ∀ T, L T = tl (L f) (wordsAll l) → Ev (fun k => smithylaw03_NamesSwaps.l0 k f t T l (l.length : Int) (l.length : Int)) true)
    (hsz : (tl (L f) (wordsAll l)).length ≤ 4611686018427387904) : ∀ (d i : Nat) (T : ByteArray), i + d = l.length → L T ++ tl (L f) (wordsAll (l.drop i)) = tl (L f) (wordsAll l) →
    Ev (fun k => smithylaw03_NamesSwaps.l0 k f t T l (l.length : Int) (i : Int)) true
  | 0, i, T, hi, he => by
    obtain rfl : i = l.length := by omega
    rw [List.drop_of_length_le (Nat.le_refl _), show wordsAll [] = [] from rfl, tl_nil, List.append_nil] at he
    exact hfin T he
  | d + 1, i, T, hi, he => by
    obtain ⟨w, hw⟩ : ∃ w, l[i]? = some w := ⟨_, List.getElem?_eq_getElem (by omega)⟩
    rw [drop_at hw, wordsAll_cons, tl_append] at he
    have hws := hs w (List.mem_of_getElem? hw)
    have hlen := congrArg List.length he
    rw [List.length_append, List.length_append, ← size_L] at hlen
    have hwl : (words (L w)).length ≤ 4611686018427387904 := by have h1 := sumW_words (L w); have h2 := sumW_len (words (L w)); have h3 := size_L w; omega
    have hwr : wrap64 ((i : Int) + 1) = ((i + 1 : Nat) : Int) := by rw [wrap_id (by omega) (by omega)]; omega
    have hrw := rwords_ev w (by omega)
    obtain ⟨W, hW⟩ : ∃ W, (words (L w)).map B = W := ⟨_, rfl⟩
    rw [hW] at hrw
    have c1 : (i : Int) < (l.length : Int) := by omega
    have c2 : (0 : Int) ≤ (i : Int) := Int.natCast_nonneg i
    refine Ev.step (fun _ => rfl) (ev_pos c1 (ev_pos c2 (ev_pos c1 ?_)))
    rw [rdOf_at hw]
    refine Ev.bind hrw ?_
    refine sw_inner f t l (l.length : Int) (i : Int) (words (L w)) W hW hwl W.length 0 T (by omega) (by rw [List.drop_zero]; omega) (fun T' hT' => ?_)
    rw [List.drop_zero] at hT'
    rw [hwr]
    exact sw_outer f t l hl hs hfin hsz d (i + 1) T' (by omega) (by rw [hT', List.append_assoc]; exact he)
theorem NamesSwaps (l0 : List ByteArray) (a1 a2 : ByteArray) (hB : bkL bkS l0 + bkS a1 + bkS a2 ≤ 1048576) : ∃ k, smithylaw03_NamesSwaps.f k l0 a1 a2 = some true := by
  have h1 : (l0.map fun w => w.size + 1).sum ≤ bkL bkS l0 := by
    unfold bkL
    rw [show bkS = (fun w : ByteArray => w.size + 1) from rfl]
    omega
  have h2 : a1.size ≤ 1048576 ∧ a2.size ≤ 1048576 := by unfold bkS at hB; omega
  have hsum := wordsAll_sum l0
  have hn := sumW_len (wordsAll l0)
  have hm : sumW (wordsAll l0) ≤ 1048576 := by omega
  have m1 : (wordsAll l0).length * (L a1).length ≤ 1048576 * 1048576 := Nat.mul_le_mul (by omega) (by rw [← size_L]; omega)
  have hlen : ∀ l : List ByteArray, l.length ≤ (l.map fun w => w.size + 1).sum := by
    intro l
    induction l with
    | nil => simp
    | cons x l ih => rw [List.map_cons, List.sum_cons, List.length_cons]; omega
  have hl := hlen l0
  have hmem : ∀ w ∈ l0, w.size ≤ 1048576 := fun w hw => by
    have : ∀ l : List ByteArray, w ∈ l → w.size + 1 ≤ (l.map fun w => w.size + 1).sum := by
      intro l
      induction l with
      | nil => intro h; cases h
      | cons x l ih =>
        intro h
        rw [List.map_cons, List.sum_cons]
        rcases List.mem_cons.1 h with rfl | h
        · omega
        · have := ih h; omega
    have := this l0 hw
    omega
  refine Ev.rounds (r := true) ?_
  refine sw_outer a1 a2 l0 (by omega) hmem (fun T hT => ?_) (by rw [tl_len]; omega) l0.length 0 ⟨#[]⟩ (by omega) (by rw [List.drop_zero]; rfl)
  have e : B (tl (L a1) (wordsAll l0)) = T := by rw [← hT]; rfl
  rw [← e]
  exact sw_end a1 a2 l0 _ (wordsAll_isW l0) hm h2.1 h2.2
end Go.Proofs.Ytkkealcfadbcbaa.Pure
