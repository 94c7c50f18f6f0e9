/- Physical and logical lines: what the program's and the reference's Split come to. -/
import Derived.Test.YtoclolaljaiogaaDoorLineQ
import Derived.Test.YtoclolaljaiogaaDoorPhys
import Derived.Test.YtoclolaljaiogaaDoorPXx0
import Derived.Test.YtoclolaljaiogaaDoorPXx2
import Derived.Test.YtoclolaljaiogaaDoorPXx3
import Derived.Test.YtoclolaljaiogaaDoorPXx4
import Derived.Test.YtoclolaljaiogaaDoorPXx5
import Derived.Test.YtoclolaljaiogaaDoorPXx7
set_option linter.unusedVariables false
set_option linter.unusedSimpArgs false
namespace Go.Proofs.YtoclolaljaiogaaDoor.Plain
open Go.RowKit Go.Proofs.YtoclolaljaiogaaDoorW.PrintWords Go.Proofs.YtoclolaljaiogaaDoor.PX

/-! ### physical lines -/
theorem map_BL (l : List (List UInt8)) : (l.map B).map L = l := by
  rw [List.map_map]; exact (List.map_congr_left (fun x _ => rfl)).trans (List.map_id l)
theorem phys_some (s : ByteArray) (h : s.size ≤ 4398046511104) : lines_Physical.f s = some ((phys (L s)).map B) := by
  unfold lines_Physical.f
  rw [if_pos h]; rfl
theorem rphys_go (s : ByteArray) (hs : s.size ≤ 4611686018427387904) (hb : s.size < 8796093022208) : ∀ (d i f : Nat) (acc : List ByteArray), i + d = (L s).length → f ≤ i → acc.length ≤ f → (10 : UInt8) ∉ ((L s).drop f).take (i - f) →
    Ev (fun k => smithyref04_Physical.l0 k s acc (f : Int) (i : Int)) (acc ++ (phys ((L s).drop f)).map B)
  | 0, i, f, acc, hi, hf, ha, hn => by
    have hz := size_L s
    obtain rfl : i = (L s).length := by omega
    rw [List.take_of_length_le (by rw [List.length_drop]; omega)] at hn
    rw [phys_last _ hn]
    refine Ev.step (fun _ => rfl) (ev_neg (by omega) ?_)
    by_cases h : (f : Int) < (s.size : Int)
    · have hne : ¬ (L s).drop f = [] := fun e => by
        have := congrArg List.length e
        rw [List.length_drop] at this; simp at this; omega
      rw [if_neg hne]
      refine ev_pos h (ev_pos (by omega) (ev_pos (by omega) (ev_pos (by omega) (ev_some ?_))))
      congr 2
      refine L_inj ?_
      rw [L_extract, Int.toNat_natCast, List.take_of_length_le (by rw [List.length_drop]; omega)]; rfl
    · rw [if_pos (List.drop_of_length_le (by omega))]
      exact ev_neg h (ev_some (by simp))
  | d + 1, i, f, acc, hi, hf, ha, hn => by
    have hz := size_L s
    have hlt : i < (L s).length := by omega
    obtain ⟨b, hb2⟩ : ∃ b, (L s)[i]? = some b := ⟨_, List.getElem?_eq_getElem hlt⟩
    have hw : wrap64 ((i : Int) + 1) = ((i + 1 : Nat) : Int) := wrap_1 (by omega)
    refine Ev.step (fun _ => rfl) (ev_pos (by omega) (ev_pos (by omega) ?_))
    rw [bt_at_L hb2, hw]
    by_cases h : b = 10
    · subst h
      have e1 : (L s).drop f = ((L s).drop f).take (i - f) ++ 10 :: (L s).drop (i + 1) := by
        conv => lhs; rw [← List.take_append_drop (i - f) ((L s).drop f)]
        rw [List.drop_drop, show f + (i - f) = i by omega, drop_at hb2]
      refine ev_pos rfl (ev_pos (by omega) (ev_pos (by omega) (ev_pos (by omega) (ev_pos (by omega) ?_))))
      refine ev_eq (rphys_go s hs hb d (i + 1) (i + 1) _ (by omega) (Nat.le_refl _) (by simp; omega) (by simp)) ?_
      conv => rhs; rw [e1]
      rw [phys_cut _ _ hn, List.map_cons, List.append_assoc, List.singleton_append]
      congr 2
      refine L_inj ?_
      rw [L_extract, Int.toNat_natCast, Int.toNat_natCast]; rfl
    · refine ev_neg (fun e => h (u8_eq.1 (by exact_mod_cast e))) ?_
      refine rphys_go s hs hb d (i + 1) f acc (by omega) (by omega) ha ?_
      have e2 : ((L s).drop f).take (i + 1 - f) = ((L s).drop f).take (i - f) ++ [b] := by
        rw [show i + 1 - f = (i - f) + 1 by omega, List.take_add_one, List.getElem?_drop, show f + (i - f) = i by omega, hb2]; rfl
      rw [e2, List.mem_append, List.mem_singleton]
      rintro (h2 | h2)
      · exact hn h2
      · exact h h2.symm
theorem rphys_ev (s : ByteArray) (hb : s.size < 8796093022208) : Ev (fun k => smithyref04_Physical.f k s) ((phys (L s)).map B) := by
  have := rphys_go s (by omega) hb (L s).length 0 0 [] (by omega) (Nat.le_refl _) (Nat.zero_le _) (by simp)
  rw [List.drop_zero, List.nil_append] at this
  exact this

/-! ### lines that go on -/
theorem on_ev (ls : List ByteArray) (hl : ls.length ≤ 4611686018427387904) (i : Nat) (x : ByteArray) (hx : ls[i]? = some x) (hs : x.size ≤ 4611686018427387904) :
    Ev (fun k => smithyref04_on.f k ls (i : Int)) (decide (i + 1 < ls.length) && cont (L x)) := by
  have hlt := (List.getElem?_eq_some_iff.1 hx).1
  have hz := size_L x
  have he := end_len (L x)
  refine ev_pos (by omega) (ev_pos (by omega) ?_)
  rw [rdOf_at hx, wrap_1 (by omega)]
  refine Ev.bind (back_ev x hs) ?_
  have hsz : (B (endL (L x))).size = (endL (L x)).length := by rw [size_L]; rfl
  by_cases h1 : i + 1 < ls.length
  · refine ev_pos (by omega) ?_
    rw [decide_eq_true h1, Bool.true_and]
    unfold cont
    rcases end_shape (L x) with h | ⟨t, b, h, _⟩
    · rw [h]
      exact ev_neg (by rw [show (B ([] : List UInt8)).size = 0 from rfl]; omega) (ev_some rfl)
    · rw [h] at hsz he ⊢
      have hl2 : (t ++ [b]).length = t.length + 1 := by simp
      have hw : wrap64 (((B (t ++ [b])).size : Int) - 1) = ((t.length : Nat) : Int) := by rw [hsz, hl2, wrap_id (by omega) (by omega)]; omega
      refine ev_pos (by omega) ?_
      rw [hw]
      refine ev_pos (by omega) (ev_pos (by omega) (ev_some ?_))
      have hb : (L (B (t ++ [b])))[t.length]? = some b := by rw [L_B]; simp
      rw [bt_at_L hb]
      simp only [List.getLast?_append, List.getLast?_singleton, Option.some_or]
      by_cases h92 : b = 92
      · subst h92; rfl
      · rw [beq_eq_false_iff_ne.2 (fun e => h92 (u8_eq.1 (by exact_mod_cast e)))]
        symm
        simpa using h92
  · rw [decide_eq_false h1, Bool.false_and]
    exact ev_neg (by omega) (ev_some rfl)
theorem part_ev (ls : List ByteArray) (hl : ls.length ≤ 4611686018427387904) (i : Nat) (x : ByteArray) (hx : ls[i]? = some x) (hs : x.size ≤ 4611686018427387904) :
    Ev (fun k => smithyref04_part.f k ls (i : Int)) (B (if i + 1 < ls.length ∧ cont (L x) = true then cutc (L x) else L x)) := by
  have hlt := (List.getElem?_eq_some_iff.1 hx).1
  have hz := size_L x
  have he := end_len (L x)
  refine Ev.bind (on_ev ls hl i x hx hs) ?_
  by_cases h : i + 1 < ls.length ∧ cont (L x) = true
  · rw [if_pos h, decide_eq_true h.1, h.2]
    obtain ⟨t, ht⟩ := cont_shape h.2
    have hl3 : (endL (L x)).length = t.length + 1 := by rw [ht]; simp
    have hsz : (B (endL (L x))).size = t.length + 1 := by rw [size_L, L_B, ht]; simp
    have hw : wrap64 (((B (endL (L x))).size : Int) - 1) = ((t.length : Nat) : Int) := by rw [hsz, wrap_id (by omega) (by omega)]; omega
    refine ev_pos rfl (ev_pos (by omega) (ev_pos (by omega) ?_))
    rw [rdOf_at hx]
    refine Ev.bind (back_ev x hs) ?_
    rw [hw]
    refine ev_pos (by omega) (ev_pos (by omega) ?_)
    have hb := back_ev ((B (endL (L x))).extract 0 ((t.length : Nat) : Int).toNat) (by rw [ByteArray.size_extract, hsz]; rw [ht] at he; simp at he; omega)
    refine Ev.bind hb (ev_some ?_)
    rw [L_extract, Int.toNat_natCast, List.drop_zero, Nat.sub_zero, L_B]
    unfold cutc
    rw [ht, List.dropLast_concat, List.take_left]
  · rw [if_neg h]
    have h2 : (decide (i + 1 < ls.length) && cont (L x)) = false := by
      rw [Bool.and_eq_false_iff]
      by_cases h1 : i + 1 < ls.length
      · right
        cases hc : cont (L x) with
        | false => rfl
        | true => exact absurd ⟨h1, hc⟩ h
      · left; simpa using h1
    rw [h2]
    refine ev_neg (by decide) (ev_pos (by omega) (ev_pos (by omega) (ev_some ?_)))
    rw [rdOf_at hx]; rfl

/-! ### Split: the program's -/
/-- A logical line as the program has it. -/
def mkS (n : ByteArray) (x : Ln) : S37 := ⟨n, (x.1 : Int), x.2.1, B x.2.2⟩
theorem size_B (l : List UInt8) : (B l).size = l.length := by rw [size_L, L_B]
theorem hasp_eq (x : ByteArray) : strings_HasPrefix.f x ⟨#[9]⟩ = some (recL (L x)) := by
  have hz := size_L x
  unfold strings_HasPrefix.f stringslite_HasPrefix.f
  have e1 : ((⟨#[9]⟩ : ByteArray).size : Int) = 1 := rfl
  rw [e1]
  by_cases h : (x.size : Int) ≥ 1
  · rw [if_pos h, if_pos (by omega), if_pos (by omega)]
    simp only [Option.bind_some, Option.some.injEq]
    rw [toList_L, L_extract, toList_L, List.drop_zero]
    show ((L x).take 1 == [9]) = _
    unfold recL
    cases hl : L x with
    | nil => rw [hl, List.length_nil] at hz; omega
    | cons a t =>
      by_cases ha : a = 9 <;> simp [ha]
  · rw [if_neg h]
    have : L x = [] := List.eq_nil_of_length_eq_zero (by omega)
    rw [this]; rfl
theorem cutsuf_eq (x : List UInt8) (hs : x.length ≤ 4611686018427387904) : strings_CutSuffix.f (B x) ⟨#[92]⟩ = some (if x.getLast? = some 92 then (B x.dropLast, true) else (B x, false)) := by
  have hz := size_B x
  unfold strings_CutSuffix.f stringslite_CutSuffix.f stringslite_HasSuffix.f
  have e1 : ((⟨#[92]⟩ : ByteArray).size : Int) = 1 := rfl
  rw [e1]
  by_cases h : ((B x).size : Int) ≥ 1
  · obtain ⟨t, b, rfl⟩ : ∃ t b, x = t ++ [b] := by
      rcases List.eq_nil_or_concat x with rfl | ⟨t, b, hx⟩
      · rw [hz] at h; simp at h
      · exact ⟨t, b, by rw [hx, List.concat_eq_append]⟩
    have hl2 : (t ++ [b]).length = t.length + 1 := by simp
    have hw : wrap64 (((B (t ++ [b])).size : Int) - 1) = ((t.length : Nat) : Int) := by rw [hz, hl2, wrap_id (by omega) (by omega)]; omega
    rw [if_pos h, hw, if_pos (by omega), if_pos (by omega)]
    simp only [Option.bind_some]
    rw [toList_L, L_extract, toList_L, Int.toNat_natCast, L_B, List.drop_left]
    have e2 : ([b] : List UInt8).take ((B (t ++ [b])).size - t.length) = [b] := List.take_of_length_le (by rw [hz, hl2]; simp)
    rw [e2]
    by_cases hb : b = 92
    · subst hb
      have hb' : (([92] : List UInt8) == (L (⟨#[92]⟩ : ByteArray))) = true := rfl
      rw [hb', if_pos rfl, if_pos (by omega), if_pos (by omega), if_pos (by simp)]
      simp only [Option.bind_some, List.dropLast_concat]
      congr 2
      refine L_inj ?_
      rw [L_extract, List.drop_zero, Nat.sub_zero, L_B, L_B, List.take_left]
    · have hb' : (([b] : List UInt8) == (L (⟨#[92]⟩ : ByteArray))) = false := by
        rw [beq_eq_false_iff_ne]
        intro e
        have e' : [b] = [92] := e
        exact hb (by simpa using e')
      rw [hb', if_neg (by decide), if_neg (by simp [hb])]
      rfl
  · rw [if_neg h]
    have : x = [] := List.eq_nil_of_length_eq_zero (by omega)
    subst this
    rfl
theorem join_bb (a b : List UInt8) : B a ++ B b = B (a ++ b) := append_B a b
/-- What is told of a list of lines. -/
def Small (ls : List ByteArray) : Prop := (ls.map ByteArray.size).sum + ls.length ≤ 1048576
theorem small_tail {ls : List ByteArray} (h : Small ls) {i : Nat} {x : ByteArray} (hx : ls[i]? = some x) : ((ls.drop i).map ByteArray.size).sum = x.size + ((ls.drop (i + 1)).map ByteArray.size).sum := by
  rw [drop_at hx, List.map_cons, List.sum_cons]
theorem small_drop (ls : List ByteArray) (i : Nat) : ((ls.drop i).map ByteArray.size).sum ≤ (ls.map ByteArray.size).sum := by
  conv => rhs; rw [← List.take_append_drop i ls, List.map_append, List.sum_append]
  omega
theorem cutc_len (x : List UInt8) : (cutc x).length ≤ x.length := by
  unfold cutc
  have h1 := end_len (endL x).dropLast; have h2 := end_len x
  rw [List.length_dropLast] at h1; omega
/-- One logical line is over: it is put away, unless it is empty. -/
theorem emit_ev (n t : ByteArray) (ls : List ByteArray) (out : List S37) (no0 no : Nat) (rc : Bool) (acc cur h0 : List UInt8) (u : ByteArray) (hsz : acc.length + cur.length ≤ 4611686018427387904) (ho : out.length ≤ 1048576) (R : List S37)
    (z : Bool) (hz : z = true)
    (hk : Ev (fun k => lines_Split.l0 k (out ++ (emit no0 rc (acc ++ cur)).map (mkS n)) (no : Int) ls n t) (R, 0, 0)) :
    Ev (fun k => lines_Split.j2 k ls out (no : Int) (B acc) (B cur) u z n t n (no0 : Int) rc (⟨#[]⟩ : ByteArray)) (R, 0, 0) := by
  have e1 := size_B acc; have e2 := size_B cur
  have e3 : L (B (acc ++ cur)) = acc ++ cur := rfl
  have e4 : (B (acc ++ cur)).size ≤ 4611686018427387904 := by rw [size_B, List.length_append]; exact hsz
  refine Ev.step (fun _ => rfl) (ev_pos hz (ev_pos (by omega) ?_))
  rw [join_bb]
  cases rc with
  | true =>
    refine ev_pos rfl (ev_const (trim_some _ e4) ?_)
    rw [e3, toList_L, L_B]
    by_cases h : trimL (acc ++ cur) = []
    · rw [show emit no0 true (acc ++ cur) = [] from if_pos h, List.map_nil, List.append_nil] at hk
      exact ev_pos h hk
    · rw [show emit no0 true (acc ++ cur) = [(no0, true, trimL (acc ++ cur))] from if_neg h] at hk
      exact ev_neg h (ev_pos (by omega) hk)
  | false =>
    refine ev_neg (by decide) (ev_const (strip_some _ e4) ?_)
    rw [e3, toList_L, L_B]
    by_cases h : stripL (acc ++ cur) = []
    · rw [show emit no0 false (acc ++ cur) = [] from if_pos h, List.map_nil, List.append_nil] at hk
      exact ev_pos h hk
    · rw [show emit no0 false (acc ++ cur) = [(no0, false, stripL (acc ++ cur))] from if_neg h] at hk
      exact ev_neg h (ev_pos (by omega) hk)
theorem emit_len (no : Nat) (rc : Bool) (t : List UInt8) : (emit no rc t).length ≤ 1 := by unfold emit; split <;> simp
theorem split_go (n t : ByteArray) (ls : List ByteArray) (hl : ls.length ≤ 524288) (hS : (ls.map ByteArray.size).sum ≤ 4294967296) : ∀ (d i : Nat) (out : List S37) (no0 : Nat) (rc : Bool) (acc cur : List UInt8), i + 1 + d = ls.length → out.length ≤ i → acc.length + cur.length + 2 * ((ls.drop (i + 1)).map ByteArray.size).sum + d ≤ 4294967296 * 4 →
    Ev (fun k => lines_Split.l1 k out (i : Int) (B acc) (B cur) ls n t n (no0 : Int) rc (⟨#[]⟩ : ByteArray)) (out ++ (step no0 rc acc cur (i + 1) ((ls.drop (i + 1)).map L)).map (mkS n), 0, 0)
  | 0, i, out, no0, rc, acc, cur, hi, ho, hb => by
    have hw : wrap64 ((i : Int) + 1) = ((i + 1 : Nat) : Int) := wrap_1 (by omega)
    have hce := end_len cur
    rw [List.drop_of_length_le (by omega), List.map_nil, step]
    refine Ev.step (fun _ => rfl) (ev_const (right_some _ (by rw [size_B]; omega)) ?_)
    rw [L_B]
    refine ev_const (cutsuf_eq _ (by omega)) ?_
    have fin : ∀ (u : ByteArray) (z : Bool), z = true → Ev (fun k => lines_Split.j2 k ls out ((i + 1 : Nat) : Int) (B acc) (B cur) u z n t n (no0 : Int) rc (⟨#[]⟩ : ByteArray)) (out ++ (emit no0 rc (acc ++ cur)).map (mkS n), 0, 0) := fun u z hz =>
      emit_ev n t ls out no0 (i + 1) rc acc cur [] u (by omega) (by omega) _ z hz (Ev.step (fun _ => rfl) (ev_neg (by omega) (ev_some rfl)))
    rw [hw]
    by_cases h : (endL cur).getLast? = some 92
    · rw [if_pos h]
      exact ev_pos rfl (fin _ _ (by rw [beq_iff_eq]; omega))
    · rw [if_neg h]
      exact ev_neg (fun e => by cases e) (fin _ _ rfl)
  | d + 1, i, out, no0, rc, acc, cur, hi, ho, hb => by
    have hw : wrap64 ((i : Int) + 1) = ((i + 1 : Nat) : Int) := wrap_1 (by omega)
    obtain ⟨y, hy⟩ : ∃ y, ls[i + 1]? = some y := ⟨_, List.getElem?_eq_getElem (by omega)⟩
    have hsum : ((ls.drop (i + 1)).map ByteArray.size).sum = y.size + ((ls.drop (i + 1 + 1)).map ByteArray.size).sum := by rw [drop_at hy, List.map_cons, List.sum_cons]
    have hys := size_L y
    have hce := end_len cur
    have hfy := front_len (L y)
    have hdr : (ls.drop (i + 1)).map L = L y :: (ls.drop (i + 1 + 1)).map L := by rw [drop_at hy, List.map_cons]
    rw [hdr, step]
    refine Ev.step (fun _ => rfl) (ev_const (right_some _ (by rw [size_B]; omega)) ?_)
    rw [L_B]
    refine ev_const (cutsuf_eq _ (by omega)) ?_
    rw [hw]
    by_cases h : (endL cur).getLast? = some 92
    · have hc : cont cur = true := by unfold cont; rw [h]; rfl
      have hcl := cutc_len cur
      have hcd := end_len (endL cur).dropLast
      rw [List.length_dropLast] at hcd
      rw [if_pos h, if_pos hc]
      refine ev_pos rfl (Ev.step (fun _ => rfl) (ev_neg (by rw [beq_iff_eq]; omega) (ev_const (right_some _ (by rw [size_B, List.length_dropLast]; omega)) ?_)))
      rw [L_B]
      have eB : B (endL (endL cur).dropLast) ++ (⟨#[32]⟩ : ByteArray) = B (cutc cur ++ [32]) := append_B _ [32]
      have e1 : (B (endL (endL cur).dropLast)).size = (cutc cur).length := size_B _
      have e2 : (B (cutc cur ++ [32])).size = (cutc cur).length + 1 := by rw [size_B]; simp
      have e3 := size_B acc
      refine ev_pos (by rw [e1]; omega) ?_
      rw [eB]
      refine ev_pos (by rw [e2, e3]; omega) (ev_pos (by omega) (ev_pos (by omega) ?_))
      rw [rdOf_at hy]
      refine ev_const (left_some y (by omega)) ?_
      rw [append_B, ← List.append_assoc]
      exact split_go n t ls hl hS d (i + 1) out no0 rc (acc ++ cutc cur ++ [32]) (frontL (L y)) (by omega) (by omega) (by simp only [List.length_append, List.length_cons, List.length_nil]; omega)
    · have hc : ¬ cont cur = true := by unfold cont; simpa using h
      have hel := emit_len no0 rc (acc ++ cur)
      rw [if_neg h, if_neg hc]
      refine ev_neg (fun e => by cases e) (emit_ev n t ls out no0 (i + 1) rc acc cur [] _ (by omega) (by omega) _ true rfl ?_)
      refine Ev.step (fun _ => rfl) (ev_pos (by omega) (ev_pos (by omega) ?_))
      rw [rdOf_at hy]
      refine ev_const (hasp_eq y) ?_
      rw [wrap_1 (by omega)]
      have ih := split_go n t ls hl hS d (i + 1) (out ++ (emit no0 rc (acc ++ cur)).map (mkS n)) (i + 1 + 1) (recL (L y)) [] (L y) (by omega) (by rw [List.length_append, List.length_map]; omega) (by simp only [List.length_nil]; omega)
      refine ev_eq ih ?_
      rw [List.map_append, List.append_assoc]
end Go.Proofs.YtoclolaljaiogaaDoor.Plain
