/- The reference's put: a text put into texts that rise, once. -/
import Derived.Test.YtadfbbjplgbakaaGreatStrsX
import Derived.Sort.Walk0
import Derived.Laws.Cover1
namespace Go.Proofs.YtadfbbjplgbakaaGreat.Plain
open Go Go.RowKit Go.Proofs.YtadfbbjplgbakaaGreatW.PrintWords
/-- A text put into texts that rise, once. -/
def putV (s : ByteArray) : List ByteArray → List ByteArray
  | [] => [s]
  | a :: t => if a = s then a :: t else if Op.bytesLess s.toList a.toList = true then s :: a :: t else a :: putV s t
theorem less_iff (a b : ByteArray) : Op.bytesLess a.toList b.toList = true ↔ L a < L b := by
  rw [bytesLess_eq, toList_L, toList_L]
  exact decide_eq_true_iff
end Go.Proofs.YtadfbbjplgbakaaGreat.Plain
namespace Go.Proofs.YtadfbbjplgbakaaGreat.Exp
open Go Go.RowKit Go.Proofs Go.Proofs.YtadfbbjplgbakaaGreatW.PrintWords Go.Proofs.YtadfbbjplgbakaaGreatW.PrintLast Go.Proofs.YtadfbbjplgbakaaGreatW.PrintMore Go.Proofs.YtadfbbjplgbakaaGreat.Plain Go.Proofs.YtadfbbjplgbakaaGreat.Strs
set_option linter.unusedVariables false
set_option linter.unusedSimpArgs false
theorem toL_inj {s t : ByteArray} : s.toList = t.toList ↔ s = t := ⟨fun h => L_inj (by rw [← toList_L, ← toList_L]; exact h), fun h => h ▸ rfl⟩
theorem own_keptP {w w' : World} {base n : Nat} {v : Value} {xs : List Value} (h : w.ownsRow base 9 1 v n xs) (hb : Below w.heap.size w w') : w'.ownsRow base 9 1 v n xs :=
  h.kept (grown_of_below hb none) (by cases v.ownBlock <;> simp)
theorem push_below {w0 w w5 : World} {x : ByteArray} {v : Value} {n : Nat} {xs : List Value} (hb : Below w0.heap.size w0 w) (hown : w.ownsRow w0.heap.size 9 1 v n xs) (hg : (w.alloc (.cells #[.string x] 9)).grownBy w5 v.ownBlock) : Below w0.heap.size w0 w5 := by
  have hb1 : Below w0.heap.size w0 (w.alloc (.cells #[.string x] 9)) := hb.alloc hb.size _
  exact hb1.grown hg hb1.size (fun q hq => (hown.lt q hq).1)
/-- What is left to be put. -/
def leftV (s : ByteArray) (done : Bool) (l : List ByteArray) : List ByteArray := if done = true then l else putV s l
set_option maxHeartbeats 8000000 in
set_option maxRecDepth 100000 in
theorem put_calls (A : Option Addr) (c : Nat) (l : List ByteArray) (s : ByteArray) (w : World) (hr : Kd.string.C w A l.length l) (hl : l.length ≤ 1073741824) :
    Calls Tryz.prog 28 #[.slice A l.length c, .string s] w fun e w' => ∃ v, e = .returned v ∧ w'.ownsRow w.heap.size 9 1 v (putV s l).length (strs (putV s l)) ∧ Below w.heap.size w w' := by
  have hP : Hid (putV s l = putV s l) := rfl
  obtain ⟨R, hR⟩ : ∃ R, R = putV s l := ⟨_, rfl⟩
  rw [← hR]
  have hRh : Hid (R = putV s l) := hR
  clear hP hR
  go_enter Tryz.func28, Tryz.ntmps28
  go_wp2_with fail
  go_loopw [5, 6, 7] (fun v5 v6 v7 wr => ∃ (i : Nat) (done : Bool) (acc : List ByteArray), v7 = .int .i64 (i : Int) ∧ v6 = .bool done ∧ i ≤ l.length ∧ acc.length ≤ i + done.toNat ∧ Aside0 (R = acc ++ leftV s done (l.drop i)) ∧ wr.ownsRow w.heap.size 9 1 v5 acc.length (strs acc) ∧ Below w.heap.size w wr) (fun _ _ v7 _ => l.length - (intOf v7).toNat)
  case atStart => exact ⟨0, false, [], rfl, rfl, Nat.zero_le _, by simp, ⟨by rw [hRh.out]; rfl⟩, World.ownsRow_nil _ _ _ _, Below.refl _ _⟩
  case round =>
    obtain ⟨i, done, acc, rfl, rfl, hi, hal, hA, hown, hB⟩ := hrel
    by_cases hlt : i < l.length
    · obtain ⟨y, hy⟩ : ∃ y, l[i]? = some y := ⟨_, List.getElem?_eq_getElem hlt⟩
      have hdr : l.drop i = y :: l.drop (i + 1) := by
        rw [List.drop_eq_getElem_cons hlt, (List.getElem?_eq_some_iff.1 hy).2]
      have hA2 := hA.out
      rw [hdr] at hA2
      obtain ⟨ad, rfl, hc⟩ := str_at (Kd.C_below hr hB) hy
      have hi1 : i + 1 ≤ l.length := hlt
      have hal0 : acc.length ≤ i + 1 := by have : done.toNat ≤ 1 := Bool.toNat_le done
                                           omega
      have hac : acc.length + 1 ≤ 4398046511104 := by omega
      have hac2 : acc.length + 1 + 1 ≤ 4398046511104 := by omega
      have q1 : (i : Int) < (l.length : Int) := by omega
      have q2 : (0 : Int) ≤ (i : Int) := by omega
      have q3 : (i : Int) ≤ 1073741824 := by omega
      have hmeas : l.length - (i + 1) < l.length - i := by omega
      have hyh : Hid (l[i]? = some y) := hy
      clear hA hdr hy
      cases done with
      | true =>
        have hal1 : acc.length + 1 ≤ i + 1 + 1 := by have : acc.length ≤ i + 1 := hal
                                                     omega
        have hA3 : Aside0 (R = acc ++ [y] ++ leftV s true (l.drop (i + 1))) := ⟨by rw [hA2]; show acc ++ (y :: l.drop (i + 1)) = _; simp [leftV]⟩
        clear hA2
        go_wp2_with (at_builtin; go_must (refine append_one rfl (.tmp 37) (.tmp 42) rfl w.heap.size _ acc.length (strs acc) rfl (own_keptP hown (below_alloc (Below.refl _ _) _)) wr.heap.size y rfl (heap_alloc_new wr _) hac (Nat.le_trans hB.size (by simp)) ?_; intro v5' w5 hown5 hgrow5 hat5))
        go_roundw
        case rel => exact ⟨i + 1, true, acc ++ [y], by go_num, rfl, hi1, by rw [List.length_append]; exact hal1, hA3, by rw [List.length_append, strs, List.map_append]; exact hown5, push_below hB hown hgrow5⟩
        case measure => simp [intOf]; omega
      | false =>
        have hal2 : acc.length ≤ i := hal
        have hal1 : acc.length + 1 ≤ i + 1 + 1 := by omega
        have hal3 : acc.length + 1 + 1 ≤ i + 1 + 1 := by omega
        have hal4 : acc.length + 1 ≤ i + 1 + 0 := by omega
        by_cases he : y = s
        · have e1 : (y.toList == s.toList) = true := by rw [he]; simp
          have hA3 : Aside0 (R = acc ++ [y] ++ leftV s true (l.drop (i + 1))) := ⟨by
            rw [hA2]
            show acc ++ putV s (y :: l.drop (i + 1)) = _
            unfold putV
            rw [if_pos he]; simp [leftV]⟩
          clear hA2 he
          go_wp2_with (at_builtin; go_must (refine append_one rfl (.tmp 37) (.tmp 42) rfl w.heap.size _ acc.length (strs acc) rfl (own_keptP hown (below_alloc (Below.refl _ _) _)) wr.heap.size y rfl (heap_alloc_new wr _) hac (Nat.le_trans hB.size (by simp)) ?_; intro v5' w5 hown5 hgrow5 hat5))
          go_roundw
          case rel => exact ⟨i + 1, true, acc ++ [y], by go_num, rfl, hi1, by rw [List.length_append]; exact hal1, hA3, by rw [List.length_append, strs, List.map_append]; exact hown5, push_below hB hown hgrow5⟩
          case measure => simp [intOf]; omega
        · have e1 : (y.toList == s.toList) = false := beq_eq_false_iff_ne.2 (fun h => he (toL_inj.1 h))
          by_cases hs : Op.bytesLess s.toList y.toList = true
          · have e2 : Op.bytesLess y.toList s.toList = false := by
              cases h : Op.bytesLess y.toList s.toList with
              | false => rfl
              | true => exact absurd ((less_iff s y).1 hs) (fun q => List.lt_asymm q ((less_iff y s).1 h))
            have hA3 : Aside0 (R = acc ++ [s] ++ [y] ++ leftV s true (l.drop (i + 1))) := ⟨by
              rw [hA2]
              show acc ++ putV s (y :: l.drop (i + 1)) = _
              unfold putV
              rw [if_neg he, if_pos hs]; simp [leftV]⟩
            clear hA2 he hs
            go_upto_region 10 with (at_builtin; go_must (refine append_one rfl (.tmp 33) (.tmp 35) rfl w.heap.size _ acc.length (strs acc) rfl (own_keptP hown (below_alloc (Below.refl _ _) _)) wr.heap.size s rfl (heap_alloc_new wr _) hac (Nat.le_trans hB.size (by simp)) ?_; intro v5' w5 hown5 hgrow5 hat5))
            have hB5 := push_below hB hown hgrow5
            have ho5 : w5.ownsRow w.heap.size 9 1 v5' (acc ++ [s]).length (strs (acc ++ [s])) := by rw [List.length_append, strs, List.map_append]; exact hown5
            obtain ⟨ad5, had5, hc5⟩ := str_at (Kd.C_below hr hB5) hyh.out
            cases had5
            clear hB hown hgrow5 hown5 hc
            have hac3 : (acc ++ [s]).length + 1 ≤ 4398046511104 := by rw [List.length_append]; exact hac2
            go_wp2_with (at_builtin; go_must (refine append_one rfl (.tmp 37) (.tmp 42) rfl w.heap.size _ (acc ++ [s]).length (strs (acc ++ [s])) rfl (own_keptP ho5 (below_alloc (Below.refl _ _) _)) w5.heap.size y rfl (heap_alloc_new w5 _) hac3 (Nat.le_trans hB5.size (by simp)) ?_; intro v6' w6 hown6 hgrow6 hat6))
            go_roundw
            case rel => exact ⟨i + 1, true, acc ++ [s] ++ [y], by go_num, rfl, hi1, by rw [List.length_append, List.length_append]; exact hal3, hA3, by rw [List.length_append, strs, List.map_append]; exact hown6, push_below hB5 ho5 hgrow6⟩
            case measure => simp [intOf]; omega
          · have e2 : Op.bytesLess y.toList s.toList = true := by
              refine (less_iff y s).2 ?_
              rcases Std.lt_trichotomy (L y) (L s) with q | q | q
              · exact q
              · exact absurd (L_inj q) he
              · exact absurd ((less_iff s y).2 q) hs
            have hA3 : Aside0 (R = acc ++ [y] ++ leftV s false (l.drop (i + 1))) := ⟨by
              rw [hA2]
              show acc ++ putV s (y :: l.drop (i + 1)) = _
              unfold putV
              rw [if_neg he, if_neg hs]; simp [leftV]⟩
            clear hA2 he hs
            go_wp2_with (at_builtin; go_must (refine append_one rfl (.tmp 37) (.tmp 42) rfl w.heap.size _ acc.length (strs acc) rfl (own_keptP hown (below_alloc (Below.refl _ _) _)) wr.heap.size y rfl (heap_alloc_new wr _) hac (Nat.le_trans hB.size (by simp)) ?_; intro v5' w5 hown5 hgrow5 hat5))
            go_roundw
            case rel => exact ⟨i + 1, false, acc ++ [y], by go_num, rfl, hi1, by rw [List.length_append]; exact hal4, hA3, by rw [List.length_append, strs, List.map_append]; exact hown5, push_below hB hown hgrow5⟩
            case measure => simp [intOf]; omega
    · obtain rfl : i = l.length := by omega
      have hA2 := hA.out
      rw [List.drop_length] at hA2
      have q1 : ¬ (l.length : Int) < (l.length : Int) := by omega
      have hac : acc.length + 1 ≤ 4398046511104 := by have : done.toNat ≤ 1 := Bool.toNat_le done
                                                      omega
      clear hA hlt hi hal
      cases done with
      | true =>
        have hA3 : R = acc := by rw [hA2]; simp [leftV]
        subst hA3
        clear hA2 hRh
        go_wp2_with fail
        go_ret
        exact ⟨_, rfl, hown, hB⟩
      | false =>
        have hA3 : R = acc ++ [s] := by rw [hA2]; rfl
        subst hA3
        clear hA2 hRh
        go_wp2_with (at_builtin; go_must (refine append_one rfl (.tmp 46) (.tmp 48) rfl w.heap.size _ acc.length (strs acc) rfl (own_keptP hown (below_alloc (Below.refl _ _) _)) wr.heap.size s rfl (heap_alloc_new wr _) hac (Nat.le_trans hB.size (by simp)) ?_; intro v5' w5 hown5 hgrow5 hat5))
        go_ret
        refine ⟨_, rfl, ?_, push_below hB hown hgrow5⟩
        exact hown5
end Go.Proofs.YtadfbbjplgbakaaGreat.Exp

/-! ### as the printed texts ask it -/
namespace Go.Proofs.YtadfbbjplgbakaaGreat.PX
open Go Go.RowKit Go.Proofs.YtadfbbjplgbakaaGreatW.PrintWords Go.Proofs.YtadfbbjplgbakaaGreat.Plain Go.Proofs.YtadfbbjplgbakaaGreat.Exp Go.Proofs.YtadfbbjplgbakaaGreat.Strs
set_option linter.unusedVariables false
def smithyref06_put.f (l0 : List ByteArray) (a1 : ByteArray) : Option (List ByteArray) := if l0.length ≤ 1073741824 then some (putV a1 l0) else none
theorem smithyref06_put.calls (A0 : Option Addr) (c0 : Nat) (l0 : List ByteArray) (a1 : ByteArray) (r : List ByteArray) (w : World) (hr0 : Kd.C Kd.string w A0 l0.length l0) (hc0 : l0.length ≤ c0) (h : smithyref06_put.f l0 a1 = some r) :
    Calls Tryz.prog 28 #[.slice A0 l0.length c0, .string a1] w fun e w' => ∃ v0_ : Value, e = .returned (v0_) ∧ Kd.R Kd.string 9 w' w.heap.size (fun _ => True) v0_ r ∧ Below w.heap.size w w' := by
  unfold smithyref06_put.f at h
  by_cases c : l0.length ≤ 1073741824
  · rw [if_pos c] at h
    obtain rfl := Option.some.inj h
    refine (put_calls A0 c0 l0 a1 w hr0 c).mono ?_
    rintro e w' ⟨v, he, ho, hb⟩
    exact ⟨v, he, R_strs ho, hb⟩
  · rw [if_neg c] at h
    cases h
end Go.Proofs.YtadfbbjplgbakaaGreat.PX
