/- For every list and every name: words that are joined are cut into the same; directory, base, stem and suffix make the name again (a bulk of at most 1048576). -/
import Derived.Test.YtkkealcfadbcbaaNames1
import Derived.Test.YtkkealcfadbcbaaSwapP
import Derived.Test.YtkkealcfadbcbaaOpens
import Derived.Test.YtkkealcfadbcbaaPXx1
import Derived.Test.YtkkealcfadbcbaaPXx2
import Derived.Test.YtkkealcfadbcbaaPXx5
namespace Go.Proofs.Ytkkealcfadbcbaa.Pure
open Go.RowKit Go.Proofs.Ytkkealcfadbcbaa.PX Go.Proofs.YtkkealcfadbcbaaW.PrintWords Go.Proofs.Ytkkealcfadbcbaa.Plain Go.Proofs.Ytkkealcfadbcbaa.Opens

/-- A word: not empty, no blank. -/
def isW (w : List UInt8) : Prop := w ≠ [] ∧ ∀ b ∈ w, blk b = false
theorem wgo_isW : ∀ (l cur : List UInt8), (∀ b ∈ cur, blk b = false) → ∀ w ∈ wgo l cur, isW w
  | [], cur, hc, w, hw => by
    unfold wgo at hw
    split at hw
    · cases hw
    · rename_i h
      rw [List.mem_singleton.1 hw]
      exact ⟨h, hc⟩
  | b :: l, cur, hc, w, hw => by
    unfold wgo at hw
    split at hw
    · split at hw
      · exact wgo_isW l [] (fun b hb => by cases hb) w hw
      · rename_i h
        rcases List.mem_cons.1 hw with rfl | hw
        · exact ⟨h, hc⟩
        · exact wgo_isW l [] (fun b hb => by cases hb) w hw
    · rename_i h
      refine wgo_isW l (cur ++ [b]) (fun x hx => ?_) w hw
      rcases List.mem_append.1 hx with hx | hx
      · exact hc x hx
      · rw [List.mem_singleton.1 hx]; simpa using h
theorem wgo_tail : ∀ (ws : List (List UInt8)) (w : List UInt8), isW w → (∀ x ∈ ws, isW x) → wgo (Lib.joinTail [32] ws) w = w :: ws
  | [], w, hw, _ => by
    rw [show Lib.joinTail [32] [] = [] from rfl, wgo, if_neg hw.1]
  | x :: xs, w, hw, h => by
    have hx := h x (by simp)
    rw [tail_cons, List.cons_append, wgo, if_pos (show blk 32 = true from rfl), if_neg hw.1, wgo_black x _ [] hx.2, List.nil_append, wgo_tail xs x hx (fun y hy => h y (by simp [hy]))]
theorem words_join : ∀ (ws : List (List UInt8)), (∀ x ∈ ws, isW x) → words (Lib.join ws [32]) = ws
  | [], _ => rfl
  | w :: ws, h => by
    have hw := h w (by simp)
    unfold words
    rw [Lib.join_cons, wgo_black w _ [] hw.2, List.nil_append, wgo_tail ws w hw (fun y hy => h y (by simp [hy]))]
/-- The parts make the name. -/
theorem parts (s : ByteArray) (h : 0 < lastIx s 47 s.size) : (dirOf s ++ (⟨#[47]⟩ : ByteArray)) ++ baseOf s = s := by
  obtain ⟨hr1, hr2⟩ := lastIx_range s 47 s.size
  have hat := lastIx_at s 47 s.size (by omega)
  rw [dirOf_else h]
  unfold baseOf
  obtain ⟨n, hn⟩ : ∃ n : Nat, lastIx s 47 s.size = (n : Int) := ⟨(lastIx s 47 s.size).toNat, by omega⟩
  rw [hn] at hat h hr2 ⊢
  have hlt : n < (L s).length := by rw [← size_L]; omega
  obtain ⟨b, hb⟩ : ∃ b, (L s)[n]? = some b := ⟨_, List.getElem?_eq_getElem hlt⟩
  rw [bt_at_L hb] at hat
  have e47 : b = 47 := u8_eq.1 (by exact_mod_cast hat)
  apply L_inj
  rw [L_append, L_append, L_extract, L_extract, show (⟨#[47]⟩ : ByteArray) = B [47] from rfl, L_B [47]]
  rw [show (((n : Nat) : Int)).toNat = n from rfl, show ((n : Int) + 1).toNat = n + 1 by omega, List.drop_zero, Nat.sub_zero, size_L, List.take_of_length_le (l := (L s).drop (n + 1)) (by rw [List.length_drop]; omega), List.append_assoc, List.singleton_append, ← e47, ← drop_at hb, List.take_append_drop]
/-- Stem and suffix of the base. -/
theorem stem_suffix (s : ByteArray) : ((suffixOf s).size = 0 → (stemB (baseOf s) (suffixOf s)).2 = false) ∧
    ((suffixOf s).size ≠ 0 → (stemB (baseOf s) (suffixOf s)).2 = true ∧ (stemB (baseOf s) (suffixOf s)).1 ++ suffixOf s = baseOf s) := by
  refine ⟨fun h => by unfold stemB; rw [if_pos h], fun h => ?_⟩
  obtain ⟨hr1, hr2⟩ := lastIx_range (baseOf s) 46 (baseOf s).size
  by_cases h0 : lastIx (baseOf s) 46 (baseOf s).size > 0
  · have e : suffixOf s = (baseOf s).extract (lastIx (baseOf s) 46 (baseOf s).size).toNat (baseOf s).size := if_pos h0
    obtain ⟨n, hn⟩ : ∃ n : Nat, lastIx (baseOf s) 46 (baseOf s).size = (n : Int) := ⟨(lastIx (baseOf s) 46 (baseOf s).size).toNat, by omega⟩
    rw [hn, Int.toNat_natCast] at e
    rw [hn] at h0 hr2
    have hsz : (suffixOf s).size = (baseOf s).size - n := by rw [e, ByteArray.size_extract]; omega
    have hsub : (baseOf s).size - (suffixOf s).size = n := by omega
    have hs : sufB (baseOf s) (suffixOf s) = true := by
      unfold sufB
      rw [decide_eq_true (by omega), hsub, Bool.true_and]
      exact decide_eq_true e.symm
    have est : stemB (baseOf s) (suffixOf s) = ((baseOf s).extract 0 n, true) := by
      unfold stemB
      rw [if_neg h, if_neg (by rw [hs]; decide), if_neg (by omega), hsub]
    rw [est]
    refine ⟨rfl, ?_⟩
    show (baseOf s).extract 0 n ++ suffixOf s = baseOf s
    apply L_inj
    rw [e, L_append, L_extract, L_extract, List.drop_zero, Nat.sub_zero, size_L, List.take_of_length_le (l := (L (baseOf s)).drop n) (by rw [List.length_drop]; omega), List.take_append_drop]
  · have e : suffixOf s = ⟨#[]⟩ := if_neg h0
    exact absurd (by rw [e]; rfl) h
theorem back_end (s : ByteArray) (hs : s.size ≤ 1048576) : Ev (fun k => smithylaw03_NamesBack.j2 k s false) true := by
  have hb := baseOf_size s
  obtain ⟨h1, h2⟩ := stem_suffix s
  refine Ev.step (f := fun k => (names_Suffix.f k s).bind fun t188 => ((names_Base.f k s).bind fun t189 => ((names_Stem.f t189 t188).bind fun bt190 => (if t188.toList = ([] : List UInt8) then (if bt190.2 = true then (some false) else (some true)) else (if bt190.2 = true then (if bt190.1.size + t188.size ≤ 9223372036854775807 then (some ((bt190.1 ++ t188).toList == t189.toList)) else (none)) else (some false)))))) (fun _ => rfl) ?_
  refine Ev.bind (suffix_ev s (by omega)) (Ev.bind (base_ev s (by omega)) (ev_const (stem_eq _ _ (by omega)) ?_))
  by_cases h0 : (suffixOf s).size = 0
  · exact ev_pos ((nil_iff _).2 h0) (ev_neg (by rw [h1 h0]; decide) (ev_some rfl))
  · obtain ⟨h3, h4⟩ := h2 h0
    refine ev_neg (fun e => h0 ((nil_iff _).1 e)) (ev_pos h3 (ev_pos ?_ (ev_some ?_)))
    · rw [← ByteArray.size_append, h4]; omega
    · rw [h4]; simp
theorem back_loop (s : ByteArray) (hs : s.size ≤ 1048576) : ∀ (d i : Nat), i + d = s.size → Ev (fun k => smithylaw03_NamesBack.l0 k s (lastIx s 47 i) (i : Int)) true
  | 0, i, hi => by
    obtain rfl : i = s.size := by omega
    refine Ev.step (fun _ => rfl) (ev_neg (by omega) ?_)
    by_cases h : lastIx s 47 s.size > 0
    · have hp := parts s h
      have hsz : (dirOf s ++ (⟨#[47]⟩ : ByteArray)).size + (baseOf s).size = s.size := by rw [← ByteArray.size_append, hp]
      have hsz2 : (dirOf s ++ (⟨#[47]⟩ : ByteArray)).size = (dirOf s).size + 1 := by rw [ByteArray.size_append]; rfl
      refine ev_pos h (Ev.bind (dir_ev s (by omega)) (ev_pos (by omega) (Ev.bind (base_ev s (by omega)) (ev_pos (by omega) ?_))))
      rw [hp, show (s.toList != s.toList) = false by simp]
      exact back_end s hs
    · exact ev_neg h (back_end s hs)
  | d + 1, i, hi => by
    have h := back_loop s hs d (i + 1) (by omega)
    refine Ev.step (fun _ => rfl) (ev_pos (by omega) (ev_pos (by omega) ?_))
    rw [wrap_id (by omega) (by omega)]
    rw [lastIx] at h
    refine ev_ite2 (fun hc => ?_) (fun hc => ?_)
    · rw [if_pos hc] at h; exact h
    · rw [if_neg hc] at h; exact h
theorem NamesBack (l0 : List ByteArray) (a1 : ByteArray) (hB : bkL bkS l0 + bkS a1 ≤ 1048576) : ∃ k, smithylaw03_NamesBack.f k l0 a1 = some true := by
  unfold bkS at hB
  rw [show bkL (fun s : ByteArray => s.size + 1) l0 = sumS l0 + 1 from rfl] at hB
  have h1 := joinB_size l0
  have h2 := words_sum (joinB l0)
  have h3 := joinB_size ((words (L (joinB l0))).map B)
  have hl := sumS_len ((words (L (joinB l0))).map B)
  have hw : words (L (joinB ((words (L (joinB l0))).map B))) = words (L (joinB l0)) := by
    unfold joinB
    rw [L_B, map_L_B]
    exact words_join _ (wgo_isW _ [] (fun b hb => by cases hb))
  refine Ev.rounds (r := true) ?_
  refine ev_const (join_some l0 (by omega)) (ev_const (words_some _ (by omega)) (ev_const (join_some _ (by omega)) (ev_const (words_some _ (by omega)) (Ev.bind (texts_ev _ _ (by omega)) (ev_pos (by rw [hw]; simp) (Ev.bind small_ev ?_))))))
  exact Ev.step (f := fun k => smithylaw03_NamesBack.l0 k a1 (-1) 0) (fun _ => rfl) (back_loop a1 (by omega) a1.size 0 (by omega))
end Go.Proofs.Ytkkealcfadbcbaa.Pure
