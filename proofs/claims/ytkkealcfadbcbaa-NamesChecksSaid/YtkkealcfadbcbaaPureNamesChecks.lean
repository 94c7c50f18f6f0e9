/- For every text, Check and Special of the package names are what the reference says of it: proved for all texts that the statement lets in. -/
import Derived.Test.YtkkealcfadbcbaaNames1
import Derived.Test.YtkkealcfadbcbaaPXx4
import Derived.Test.YtkkealcfadbcbaaPXx5
namespace Go.Proofs.Ytkkealcfadbcbaa.Pure
open Go.RowKit Go.Proofs.Ytkkealcfadbcbaa.PX Go.Proofs.YtkkealcfadbcbaaW.PrintWords Go.Proofs.YtkkealcfadbcbaaW.PrintLast Go.Proofs.Ytkkealcfadbcbaa.Plain

theorem index_ge (l : List UInt8) (c : UInt8) : -1 ≤ Lib.indexByte l c := by
  induction l with
  | nil => unfold Lib.indexByte; omega
  | cons b t ih =>
    unfold Lib.indexByte
    split
    · omega
    · split <;> omega
/-- Is a byte in a text? -/
theorem index_mem (l : List UInt8) (c : UInt8) : 0 ≤ Lib.indexByte l c ↔ c ∈ l := by
  induction l with
  | nil => simp [Lib.indexByte]
  | cons b t ih =>
    have hg := index_ge t c
    unfold Lib.indexByte
    split
    · rename_i h
      have : b = c := by simpa using h
      subst this
      simp
    · rename_i h
      have hne : ¬ b = c := by simpa using h
      split
      · rename_i h2
        have h2' : Lib.indexByte t c = -1 := by simpa using h2
        have : ¬ c ∈ t := fun hm => by have := ih.2 hm; omega
        simp [this]
        exact fun e => hne e.symm
      · rename_i h2
        have h2' : ¬ Lib.indexByte t c = -1 := by simpa using h2
        have : c ∈ t := ih.1 (by omega)
        simp [this]
        omega
theorem last_none (s : ByteArray) (c : UInt8) : ∀ n, n ≤ s.size → (lastIx s c.toNat n < 0 ↔ ¬ c ∈ (L s).take n)
  | 0, _ => by simp [lastIx]
  | n + 1, hn => by
    have ih := last_none s c n (by omega)
    have hl : n < (L s).length := by rw [← size_L]; omega
    have hg := bt_at_L (List.getElem?_eq_getElem hl)
    rw [List.take_succ_eq_append_getElem hl, lastIx, hg]
    by_cases h : (L s)[n] = c
    · rw [if_pos (by rw [h])]
      simp [h]
    · rw [if_neg (fun e => h (u8_eq.1 (by exact_mod_cast e)))]
      rw [ih, List.mem_append, List.mem_singleton]
      constructor
      · intro hm
        rintro (h2 | h2)
        · exact hm h2
        · exact h h2.symm
      · exact fun hm h2 => hm (.inl h2)
theorem special_eq (s : ByteArray) (hs : s.size ≤ 4611686018427387904) : ∃ b, names_Special.f s = some b ∧ Ev (fun k => smithyref03_Special.f k s) b := by
  by_cases h0 : s.size = 0
  · refine ⟨false, ?_, ev_neg (by omega) (ev_some rfl)⟩
    have hp : strings_HasPrefix.f s ⟨#[46]⟩ = some false := by
      unfold strings_HasPrefix.f stringslite_HasPrefix.f
      rw [if_neg (by rw [h0]; decide)]; rfl
    unfold names_Special.f
    rw [hp]; rfl
  · have hl : 0 < (L s).length := by rw [← size_L]; omega
    have hb := bt_at_L (List.getElem?_eq_getElem hl)
    have hp : strings_HasPrefix.f s ⟨#[46]⟩ = some (decide ((L s)[0] = 46)) := by
      unfold strings_HasPrefix.f stringslite_HasPrefix.f
      have e1 : ((⟨#[46]⟩ : ByteArray).size : Int) = 1 := rfl
      rw [e1, if_pos (by omega), if_pos (by omega), if_pos (by omega)]
      simp only [Option.bind_some, Option.some.injEq]
      rw [toList_L, L_extract, toList_L]
      show (((L s).drop 0).take 1 == [46]) = _
      rw [List.drop_zero]
      clear hb
      revert hl
      cases L s with
      | nil => intro hl; simp at hl
      | cons a t =>
        intro _
        by_cases h : a = 46 <;> simp [h]
    unfold names_Special.f
    rw [hp]
    by_cases h46 : (L s)[0] = 46
    · have hc : strings_Contains.f s ⟨#[47]⟩ = some (decide (0 ≤ Lib.indexByte (L s) 47)) := by
        unfold strings_Contains.f
        exact if_pos rfl
      refine ⟨decide (lastIx s 47 s.size < 0), ?_, ?_⟩
      · rw [hc]
        simp only [h46, decide_true, Option.bind_some, if_true, Option.some.injEq]
        have h2 := last_none s 47 s.size (Nat.le_refl _)
        rw [show (L s).take s.size = L s by rw [size_L]; exact List.take_length] at h2
        have h3 := index_mem (L s) 47
        have h2' : lastIx s 47 s.size < 0 ↔ ¬ (47 : UInt8) ∈ L s := h2
        by_cases hm : (47 : UInt8) ∈ L s
        · rw [decide_eq_true (h3.2 hm), decide_eq_false (fun h => h2'.1 h hm)]; rfl
        · rw [decide_eq_false (fun h => hm (h3.1 h)), decide_eq_true (h2'.2 hm)]; rfl
      · refine ev_pos (by omega) (ev_pos (by omega) (ev_pos ?_ (Ev.bind (stroke_ev s hs) (ev_some rfl))))
        rw [show (0 : Int) = ((0 : Nat) : Int) from rfl, hb, h46]; rfl
    · refine ⟨false, ?_, ?_⟩
      · simp [h46]
      · refine ev_pos (by omega) (ev_pos (by omega) (ev_neg ?_ (ev_some rfl)))
        rw [show (0 : Int) = ((0 : Nat) : Int) from rfl, hb]
        intro e
        exact h46 (u8_eq.1 (by exact_mod_cast e))
theorem NamesChecks : smithylaw03_NamesChecks.Pure := by
  intro s hn
  have hs : s.size ≤ 4611686018427387904 := by omega
  refine Ev.rounds (r := true) ?_
  obtain ⟨b, h1, h2⟩ := special_eq s hs
  refine Ev.bind (check_ev s hs) (Ev.bind (rcheck_ev s hs) (ev_pos rfl ?_))
  refine ev_const h1 (Ev.bind h2 (ev_pos (by simp) ?_))
  exact Ev.bind small_ev (ev_some rfl)

end Go.Proofs.Ytkkealcfadbcbaa.Pure
