/- What the small printed functions on lines come to. -/
import Derived.Test.YtoclolaljaiogaaDoorBase
import Derived.Test.YtoclolaljaiogaaDoorLineL
import Derived.Lib.SlTrimSet
import Derived.Lib.IndexLaws
import Derived.Test.YtoclolaljaiogaaDoorPXx2
import Derived.Test.YtoclolaljaiogaaDoorPXx3
import Derived.Test.YtoclolaljaiogaaDoorPXx5
import Derived.Test.YtoclolaljaiogaaDoorPXx7
set_option linter.unusedVariables false
set_option linter.unusedSimpArgs false
namespace Go.Proofs.YtoclolaljaiogaaDoor.Plain
open Go.RowKit Go.Proofs.YtoclolaljaiogaaDoorW.PrintWords Go.Proofs.YtoclolaljaiogaaDoor.PX

theorem drop_at {α : Type} {l : List α} {i : Nat} {b : α} (h : l[i]? = some b) : l.drop i = b :: l.drop (i + 1) := by
  obtain ⟨hi, e⟩ := List.getElem?_eq_some_iff.1 h
  rw [List.drop_eq_getElem_cons hi, e]
theorem wrap_s {i n : Nat} (h1 : i ≤ 4611686018427387904) (h2 : n ≤ 4611686018427387903) : wrap64 ((i : Int) + (n : Int)) = ((i + n : Nat) : Int) := by
  rw [wrap_id (by omega) (by omega)]; omega
theorem wrap_1 {i : Nat} (h1 : i ≤ 4611686018427387904) : wrap64 ((i : Int) + 1) = ((i + 1 : Nat) : Int) := wrap_s (n := 1) h1 (by omega)
theorem ix_ge (l : List UInt8) (c : UInt8) : -1 ≤ Lib.indexByte l c := Lib.indexByte_ge l c
theorem ix_none {l : List UInt8} {c : UInt8} (h : Lib.indexByte l c < 0) : c ∉ l := by
  have h' : Lib.indexByte l c = -1 := by have := ix_ge l c; omega
  intro hm
  obtain ⟨k, hk⟩ := List.mem_iff_getElem?.1 hm
  exact Lib.indexByte_none h' k hk
theorem ix_some {l : List UInt8} {c : UInt8} (h : 0 ≤ Lib.indexByte l c) : ∃ o : Nat, Lib.indexByte l c = o ∧ l[o]? = some c ∧ ∀ k, k < o → l[k]? ≠ some c := by
  obtain ⟨o, ho⟩ : ∃ o : Nat, Lib.indexByte l c = o := ⟨(Lib.indexByte l c).toNat, by omega⟩
  exact ⟨o, ho, Lib.indexByte_some ho⟩
theorem ix_mem {l : List UInt8} {c : UInt8} : 0 ≤ Lib.indexByte l c ↔ c ∈ l := by
  constructor
  · intro h
    obtain ⟨o, _, h1, _⟩ := ix_some h
    exact List.mem_of_getElem? h1
  · intro h
    by_cases hn : Lib.indexByte l c < 0
    · exact absurd h (ix_none hn)
    · omega

/-! ### blanks -/
theorem trim_some (s : ByteArray) (h : s.size ≤ 4611686018427387904) : lines_Trim.f s = some (B (trimL (L s))) := by
  unfold lines_Trim.f strings_Trim.f
  rw [if_pos rfl, if_pos (by omega)]
  show some (B (Lib.trimS (L s) [32, 9])) = _
  unfold Lib.trimS Lib.trimLeftS Lib.trimRightS trimL
  rw [← front_end]
  unfold frontL endL
  rw [← cs_blk]
theorem left_some (s : ByteArray) (h : s.size ≤ 4611686018427387904) : strings_TrimLeft.f s ⟨#[32, 9]⟩ = some (B (frontL (L s))) := by
  unfold strings_TrimLeft.f
  rw [if_pos rfl, if_pos (by omega)]
  show some (B (Lib.trimLeftS (L s) [32, 9])) = _
  unfold Lib.trimLeftS frontL
  rw [← cs_blk]
theorem right_some (s : ByteArray) (h : s.size ≤ 4611686018427387904) : strings_TrimRight.f s ⟨#[32, 9]⟩ = some (B (endL (L s))) := by
  unfold strings_TrimRight.f
  rw [if_pos rfl, if_pos (by omega)]
  show some (B (Lib.trimRightS (L s) [32, 9])) = _
  unfold Lib.trimRightS endL
  rw [← cs_blk]
theorem blank_eq (b : UInt8) : smithyref04_blank.f (b.toNat : Int) = some (blk b) := by
  unfold smithyref04_blank.f blk
  by_cases h32 : b = 32
  · subst h32; rfl
  · rw [if_neg (fun h => h32 (u8_eq.1 (by exact_mod_cast h))), beq_eq_false_iff_ne.2 h32, Bool.false_or]
    congr 1
    by_cases h9 : b = 9
    · subst h9; rfl
    · rw [beq_eq_false_iff_ne.2 h9]
      exact beq_eq_false_iff_ne.2 (fun h => h9 (u8_eq.1 (by exact_mod_cast h)))
theorem front_go (s : ByteArray) (hs : s.size ≤ 4611686018427387904) : ∀ (d i : Nat), i + d = (L s).length → Ev (fun k => smithyref04_front.l0 k s (i : Int)) (B (frontL ((L s).drop i)))
  | 0, i, hi => by
    have hz := size_L s
    refine Ev.step (fun _ => rfl) (ev_neg (by omega) (ev_pos (by omega) (ev_pos (by omega) (ev_some ?_))))
    rw [List.drop_of_length_le (by omega)]
    refine L_inj ?_
    rw [L_extract, Int.toNat_natCast, List.drop_of_length_le (by omega), List.take_nil]; rfl
  | d + 1, i, hi => by
    have hz := size_L s
    obtain ⟨b, hb⟩ : ∃ b, (L s)[i]? = some b := ⟨_, List.getElem?_eq_getElem (by omega)⟩
    refine Ev.step (fun _ => rfl) (ev_pos (by omega) (ev_pos (by omega) ?_))
    rw [bt_at_L hb]
    refine ev_const (blank_eq b) ?_
    rw [drop_at hb]
    cases hk : blk b with
    | true =>
      rw [front_blk hk, wrap_1 (by omega)]
      exact ev_pos rfl (front_go s hs d (i + 1) (by omega))
    | false =>
      rw [front_head hk, ← drop_at hb]
      refine ev_neg (by decide) (ev_pos (by omega) (ev_some (L_inj ?_)))
      rw [L_extract, Int.toNat_natCast, List.take_of_length_le (by rw [List.length_drop]; omega)]; rfl
theorem front_ev (s : ByteArray) (hs : s.size ≤ 4611686018427387904) : Ev (fun k => smithyref04_front.f k s) (B (frontL (L s))) := by
  have := front_go s hs (L s).length 0 (by omega)
  rw [List.drop_zero] at this
  exact this
theorem back_go (s : ByteArray) (hs : s.size ≤ 4611686018427387904) : ∀ (i : Nat), i ≤ (L s).length → Ev (fun k => smithyref04_back.l0 k s (i : Int)) (B (endL ((L s).take i)))
  | 0, hi => by
    have hz := size_L s
    refine Ev.step (fun _ => rfl) (ev_neg (by omega) (ev_pos (by omega) (ev_pos (by omega) (ev_some (L_inj ?_)))))
    rw [L_extract]; rfl
  | i + 1, hi => by
    have hz := size_L s
    obtain ⟨b, hb⟩ : ∃ b, (L s)[i]? = some b := ⟨_, List.getElem?_eq_getElem (by omega)⟩
    have ew : wrap64 (((i + 1 : Nat) : Int) - 1) = (i : Int) := by rw [wrap_id (by omega) (by omega)]; omega
    have et : (L s).take (i + 1) = (L s).take i ++ [b] := by rw [List.take_add_one, hb]; rfl
    refine Ev.step (fun _ => rfl) (ev_pos (by omega) ?_)
    rw [ew]
    refine ev_pos (by omega) (ev_pos (by omega) ?_)
    rw [bt_at_L hb]
    refine ev_const (blank_eq b) ?_
    cases hk : blk b with
    | true =>
      rw [et, end_blk hk]
      exact ev_pos rfl (back_go s hs i (by omega))
    | false =>
      refine ev_neg (by decide) (ev_pos (by omega) (ev_pos (by omega) (ev_some (L_inj ?_))))
      rw [L_extract, Int.toNat_natCast, List.drop_zero, Nat.sub_zero, et, end_last hk]; rfl
theorem back_ev (s : ByteArray) (hs : s.size ≤ 4611686018427387904) : Ev (fun k => smithyref04_back.f k s) (B (endL (L s))) := by
  have := back_go s hs (L s).length (Nat.le_refl _)
  rw [List.take_length, ← size_L] at this
  exact this
theorem rtrim_ev (s : ByteArray) (hs : s.size ≤ 4611686018427387904) : Ev (fun k => smithyref04_Trim.f k s) (B (trimL (L s))) := by
  refine Ev.bind (back_ev s hs) ?_
  have h := end_len (L s)
  have hz := size_L s
  refine Ev.bind (front_ev (B (endL (L s))) (by rw [size_L, L_B]; omega)) (ev_some ?_)
  rw [L_B, front_end]; rfl

/-! ### remarks -/
theorem takeW_at {l : List UInt8} {c : UInt8} {o : Nat} (h1 : l[o]? = some c) (h2 : ∀ k, k < o → l[k]? ≠ some c) : l.takeWhile (· != c) = l.take o := by
  induction l generalizing o with
  | nil => simp at h1
  | cons a l ih =>
    cases o with
    | zero =>
      obtain rfl : a = c := by simpa using h1
      simp [List.takeWhile_cons]
    | succ o =>
      have ha : ¬ a = c := fun e => h2 0 (by omega) (by simp [e])
      rw [List.takeWhile_cons, if_pos (by simpa using ha), List.take_succ_cons, ih (by simpa using h1) (fun k hk => by have := h2 (k + 1) (by omega); simpa using this)]
theorem takeW_not {l : List UInt8} {c : UInt8} (h : c ∉ l) : l.takeWhile (· != c) = l := take_all (fun b hb => by simp; exact fun e => h (e ▸ hb))
theorem cut_ev (s : ByteArray) (hs : s.size ≤ 4611686018427387904) (c : UInt8) : ∃ b ok, strings_Cut.f s ⟨#[c]⟩ = some (B ((L s).takeWhile (· != c)), b, ok) := by
  have hz := size_L s
  have hx : stringslite_Index.f s ⟨#[c]⟩ = some (Lib.indexByte (L s) c) := by unfold stringslite_Index.f; exact if_pos rfl
  unfold strings_Cut.f stringslite_Cut.f
  rw [hx]
  simp only [Option.bind_some]
  by_cases h : 0 ≤ Lib.indexByte (L s) c
  · obtain ⟨o, ho, h1, h2⟩ := ix_some h
    have hlt : o < (L s).length := (List.getElem?_eq_some_iff.1 h1).1
    have e1 : ((⟨#[c]⟩ : ByteArray).size : Int) = 1 := rfl
    rw [ho, e1, wrap_1 (by omega), if_pos (by omega), if_pos (by omega), if_pos (by omega), if_pos (by omega), if_pos (by omega)]
    refine ⟨_, _, congrArg some (congrArg (·, _) (L_inj ?_))⟩
    rw [L_extract, Int.toNat_natCast, List.drop_zero, Nat.sub_zero, takeW_at h1 h2]; rfl
  · rw [if_neg (by show ¬ Lib.indexByte (L s) c ≥ 0; omega)]
    refine ⟨_, _, congrArg some (congrArg (·, _) (L_inj ?_))⟩
    rw [takeW_not (ix_none (by omega))]; rfl
theorem tw_len (p : UInt8 → Bool) (l : List UInt8) : (l.takeWhile p).length ≤ l.length := (List.takeWhile_sublist p).length_le
theorem strip_some (s : ByteArray) (hs : s.size ≤ 4611686018427387904) : lines_Strip.f s = some (B (stripL (L s))) := by
  obtain ⟨b, ok, h⟩ := cut_ev s hs 35
  have hz := size_L s
  have := tw_len (· != 35) (L s)
  unfold lines_Strip.f
  rw [h]
  simp only [Option.bind_some]
  rw [trim_some _ (by rw [size_L, L_B]; omega)]; rfl
theorem rstrip_go (s : ByteArray) (hs : s.size ≤ 4611686018427387904) : ∀ (d i : Nat), i + d = (L s).length → (∀ k, k < i → (L s)[k]? ≠ some 35) → Ev (fun k => smithyref04_Strip.l0 k s (i : Int)) (B (stripL (L s)))
  | 0, i, hi, hp => by
    have hz := size_L s
    refine Ev.step (fun _ => rfl) (ev_neg (by omega) (Ev.bind (rtrim_ev s hs) (ev_some ?_)))
    rw [strip_self (fun hm => by
      obtain ⟨k, hk⟩ := List.mem_iff_getElem?.1 hm
      exact hp k (by have := (List.getElem?_eq_some_iff.1 hk).1; omega) hk)]
  | d + 1, i, hi, hp => by
    have hz := size_L s
    obtain ⟨b, hb⟩ : ∃ b, (L s)[i]? = some b := ⟨_, List.getElem?_eq_getElem (by omega)⟩
    refine Ev.step (fun _ => rfl) (ev_pos (by omega) (ev_pos (by omega) ?_))
    rw [bt_at_L hb]
    by_cases h : b = 35
    · subst h
      refine ev_pos rfl (ev_pos (by omega) (Ev.bind (rtrim_ev _ (by rw [ByteArray.size_extract]; omega)) (ev_some ?_)))
      rw [L_extract, Int.toNat_natCast, List.drop_zero, Nat.sub_zero]
      unfold stripL
      rw [takeW_at hb hp]
    · refine ev_neg (fun e => h (u8_eq.1 (by exact_mod_cast e))) ?_
      rw [wrap_1 (by omega)]
      refine rstrip_go s hs d (i + 1) (by omega) (fun k hk => ?_)
      rcases Nat.lt_or_ge k i with h2 | h2
      · exact hp k h2
      · obtain rfl : k = i := by omega
        rw [hb]; simpa using h
theorem rstrip_ev (s : ByteArray) (hs : s.size ≤ 4611686018427387904) : Ev (fun k => smithyref04_Strip.f k s) (B (stripL (L s))) := rstrip_go s hs (L s).length 0 (by omega) (fun k hk => absurd hk (by omega))
end Go.Proofs.YtoclolaljaiogaaDoor.Plain
