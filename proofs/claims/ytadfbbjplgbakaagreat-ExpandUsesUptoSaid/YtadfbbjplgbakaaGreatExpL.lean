/- What the printed functions on bytes and names come to: single, isInner, macro.Name, strings.Cut. -/
import Derived.Test.YtadfbbjplgbakaaGreatExpP
import Derived.Test.YtadfbbjplgbakaaGreatMacN
import Derived.Test.YtadfbbjplgbakaaGreatPXx2
import Derived.Test.YtadfbbjplgbakaaGreatPXx3
import Derived.Laws.RangeString
import Derived.Laws.RangeAny
import Derived.Lib.Strings
namespace Go.Proofs.YtadfbbjplgbakaaGreat.Plain
open Go Go.RowKit Go.Proofs.YtadfbbjplgbakaaGreatW.PrintWords Go.Proofs.YtadfbbjplgbakaaGreat.PX Go.Proofs.YtadfbbjplgbakaaGreat.Hand

set_option maxRecDepth 100000 in
theorem single_eq (c : UInt8) : expand_single.f (c.toNat : Int) = some (oneB c) := all_bytes (p := fun c => expand_single.f (c.toNat : Int) = some (oneB c)) (by decide +kernel) c
theorem inner_eq (s : ByteArray) : expand_isInner.f s = some (innL (L s)) := by
  have hz := size_L s
  obtain ⟨l, hl⟩ : ∃ l, L s = l := ⟨_, rfl⟩
  rw [hl] at hz ⊢
  unfold expand_isInner.f
  rcases l with _ | ⟨c, _ | ⟨d, _ | ⟨e, t⟩⟩⟩
  · rw [if_pos (by rw [hz]; decide)]; rfl
  · have hc : bt s 0 = (c.toNat : Int) := bt_at_L (i := 0) (by rw [hl]; rfl)
    rw [if_neg (by rw [hz]; simp), if_neg (by rw [hz]; simp), if_pos (by rw [hz]; simp), hc]
    have hi := inn_index c
    unfold strings_IndexByte.f
    rw [byte_back, Option.bind_some]
    show (if Lib.indexByte [64, 60, 63, 42, 94] c < 0 then _ else _) = _
    by_cases h : Lib.indexByte [64, 60, 63, 42, 94] c < 0
    · rw [if_pos h]; rw [decide_eq_true h] at hi
      simp [innL]; simpa using hi
    · rw [if_neg h, if_pos (by rw [hz]; rfl)]; rw [decide_eq_false h] at hi
      simp [innL]; simpa using hi
  · have hc : bt s 0 = (c.toNat : Int) := bt_at_L (i := 0) (by rw [hl]; rfl)
    have hd : bt s 1 = (d.toNat : Int) := bt_at_L (i := 1) (by rw [hl]; rfl)
    rw [if_neg (by rw [hz]; simp), if_neg (by rw [hz]; simp), if_pos (by rw [hz]; simp), hc]
    have hi := inn_index c
    unfold strings_IndexByte.f
    rw [byte_back, Option.bind_some]
    show (if Lib.indexByte [64, 60, 63, 42, 94] c < 0 then _ else _) = _
    by_cases h : Lib.indexByte [64, 60, 63, 42, 94] c < 0
    · rw [if_pos h]; rw [decide_eq_true h] at hi
      have : innB c = false := by simpa using hi
      simp [innL, this]
    · rw [if_neg h, if_neg (by rw [hz]; simp), if_pos (by rw [hz]; simp), hd]; rw [decide_eq_false h] at hi
      have : innB c = true := by simpa using hi
      have h1 : ((d.toNat : Int) = 68) ↔ d = 68 := ⟨fun h => u8_eq.1 (Int.ofNat.inj h), fun h => by subst h; rfl⟩
      have h2 : ((d.toNat : Int) = 70) ↔ d = 70 := ⟨fun h => u8_eq.1 (Int.ofNat.inj h), fun h => by subst h; rfl⟩
      by_cases h68 : d = 68
      · rw [if_pos (h1.2 h68)]; simp [innL, this, h68]
      · rw [if_neg (fun h => h68 (h1.1 h))]
        by_cases h70 : d = 70
        · have h7 : ((d.toNat : Int) == 70) = true := beq_iff_eq.2 (h2.2 h70)
          rw [h7]; simp only [innL, this, h70]; rfl
        · have h7 : ((d.toNat : Int) == 70) = false := beq_eq_false_iff_ne.2 (fun h => h70 (h2.1 h))
          rw [h7]
          have h8 : (d == 68) = false := beq_eq_false_iff_ne.2 h68
          have h9 : (d == 70) = false := beq_eq_false_iff_ne.2 h70
          simp only [innL, this, h8, h9]; rfl
  · rw [if_neg (by rw [hz]; simp; omega), if_pos (by rw [hz]; simp; omega)]; rfl
set_option maxRecDepth 100000 in
theorem ot_nam (c : UInt8) : (decide (c.toNat < 128) && otR c.toNat) = (decide (c.toNat < 128) && !(namB c)) := all_bytes (p := fun c => (decide (c.toNat < 128) && otR c.toNat) = (decide (c.toNat < 128) && !(namB c))) (by decide +kernel) c
theorem ot_high {n : Nat} (h : 128 ≤ n) : otR n = true := by
  unfold otR
  simp
  omega
theorem idx_nam (s : ByteArray) : ∀ (f pos : Nat), s.size ≤ pos + f → decide (0 ≤ Lib.idxFuncFrom otR true s f pos) = !(((L s).drop pos).all namB)
  | 0, pos, h => by
    rw [List.drop_eq_nil_of_le (by rw [← size_L]; omega)]; rfl
  | f + 1, pos, h => by
    unfold Lib.idxFuncFrom
    by_cases hp : pos < s.size
    · rw [if_pos hp]
      have hp2 : pos < (L s).length := by rw [← size_L]; exact hp
      have hb : s[pos]'hp = (L s)[pos]'hp2 := rfl
      rw [List.drop_eq_getElem_cons hp2, List.all_cons, ← hb]
      obtain ⟨b, hbb⟩ : ∃ b, s[pos]'hp = b := ⟨_, rfl⟩
      by_cases ha : (s[pos]'hp).toNat < 128
      · rw [decode_ascii s pos hp ha, hbb]
        rw [hbb] at ha
        have hn := ot_nam b
        rw [decide_eq_true ha, Bool.true_and, Bool.true_and] at hn
        by_cases ho : otR b.toNat = true
        · rw [if_pos ho]
          rw [ho] at hn
          have : namB b = false := by simpa using hn
          rw [this]
          simp
        · rw [if_neg ho, idx_nam s f (pos + 1) (by omega)]
          have ho' : otR b.toNat = false := by simpa using ho
          rw [ho'] at hn
          have : namB b = true := by simpa using hn
          rw [this, Bool.true_and]
      · have hd := decode_high s pos hp (by omega)
        rw [hbb] at ha
        rw [if_pos (ot_high hd.1), hbb]
        have := nam_high b
        rw [decide_eq_true (by omega), Bool.true_and] at this
        rw [this]
        simp
    · rw [if_neg hp, List.drop_eq_nil_of_le (by rw [← size_L]; omega)]; rfl
theorem name_eq (s : ByteArray) : macro_Name.v s = namL (L s) := by
  unfold macro_Name.v namL Lib.idxFunc
  rw [idx_nam s s.size 0 (by omega), List.drop_zero, size_L, Bool.not_not, Bool.and_assoc]
theorem index_eq (b : UInt8) (l : List UInt8) : Lib.indexByte l b = if l.contains b = true then ((aheadB b l).length : Int) else -1 := by
  by_cases h : l.contains b = true
  · rw [if_pos h]
    have hm : b ∈ l := by simpa using h
    have h1 := ahead_at b l hm
    have hge := Lib.indexByte_ge l b
    by_cases h0 : Lib.indexByte l b = -1
    · exact absurd h1 (Lib.indexByte_none h0 _)
    · obtain ⟨i, hi⟩ : ∃ i : Nat, Lib.indexByte l b = i := ⟨(Lib.indexByte l b).toNat, by omega⟩
      obtain ⟨h2, h3⟩ := Lib.indexByte_some hi
      rw [hi]
      have h4 : ¬ i < (aheadB b l).length := fun hlt => by
        have : (aheadB b l)[i]? = some b := by rw [ahead_eq, List.getElem?_take_of_lt hlt]; exact h2
        exact ahead_not b l (List.mem_of_getElem? this)
      have h5 : ¬ (aheadB b l).length < i := fun hlt => h3 _ hlt h1
      omega
  · rw [if_neg h]
    have hge := Lib.indexByte_ge l b
    by_cases h0 : Lib.indexByte l b = -1
    · exact h0
    · obtain ⟨i, hi⟩ : ∃ i : Nat, Lib.indexByte l b = i := ⟨(Lib.indexByte l b).toNat, by omega⟩
      obtain ⟨h2, h3⟩ := Lib.indexByte_some hi
      exact absurd (by simpa using List.mem_of_getElem? h2) h
theorem cut_eq (s : ByteArray) (b : UInt8) (hs : s.size ≤ 4611686018427387904) : strings_Cut.f s ⟨#[b]⟩ = some (B (aheadB b (L s)), if (L s).contains b = true then B (behindB b (L s)) else ⟨#[]⟩, (L s).contains b) := by
  have hi : stringslite_Index.f s ⟨#[b]⟩ = some (Lib.indexByte (L s) b) := by
    exact if_pos rfl
  unfold strings_Cut.f stringslite_Cut.f
  rw [hi, Option.bind_some, index_eq]
  have hz := size_L s
  have hsz : (⟨#[b]⟩ : ByteArray).size = 1 := rfl
  by_cases h : (L s).contains b = true
  · have hm : b ∈ L s := by simpa using h
    have h1 := ahead_at b (L s) hm
    have hlt := (List.getElem?_eq_some_iff.1 h1).1
    obtain ⟨n, hn⟩ : ∃ n, (aheadB b (L s)).length = n := ⟨_, rfl⟩
    have hae := ahead_eq b (L s)
    unfold behindB
    rw [h, if_pos rfl, if_pos rfl]
    rw [hn] at hlt hae ⊢
    rw [hsz, wrap_id (by omega) (by omega)]
    rw [if_pos (by omega), if_pos (by omega), if_pos (by omega), if_pos (by omega), if_pos (by omega), Option.bind_some]
    rw [extract_B, extract_B, hae]
    rw [show ((n : Int) + ((1 : Nat) : Int)).toNat = n + 1 by omega, show ((n : Int)).toNat = n by omega, List.drop_zero, Nat.sub_zero, List.take_of_length_le (i := s.size - (n + 1)) (by rw [List.length_drop]; omega)]
  · have h' : (L s).contains b = false := by simpa using h
    rw [h', if_neg (by simp), if_neg (by simp), Option.bind_some, ahead_all b _ (fun hm => h (by simpa using hm))]
    rfl
theorem cont_eq (s : ByteArray) (b : UInt8) : strings_Contains.f s ⟨#[b]⟩ = some ((L s).contains b) := by
  have h0 : strings_Contains.f s ⟨#[b]⟩ = some (decide (0 ≤ Lib.indexByte (L s) b)) := if_pos rfl
  rw [h0, index_eq]
  by_cases h : (L s).contains b = true
  · rw [if_pos h, h]; simp
  · rw [if_neg h]; simp only [Bool.not_eq_true] at h; rw [h]; rfl
theorem indexB_eq (s : ByteArray) (b : UInt8) : strings_IndexByte.f s (b.toNat : Int) = some (if (L s).contains b = true then ((aheadB b (L s)).length : Int) else -1) := by
  unfold strings_IndexByte.f
  rw [byte_back, ← index_eq]
  rfl
end Go.Proofs.YtadfbbjplgbakaaGreat.Plain
