/- What the printed functions of the package names come to: strokes, letters, names. -/
import Derived.Test.YtkkealcfadbcbaaBase
import Derived.Test.YtkkealcfadbcbaaPXx1
import Derived.Test.YtkkealcfadbcbaaPXx2
import Derived.Test.YtkkealcfadbcbaaPXx4
namespace Go.Proofs.Ytkkealcfadbcbaa.Plain
open Go.RowKit Go.Proofs.YtkkealcfadbcbaaW.PrintWords Go.Proofs.Ytkkealcfadbcbaa.PX

/-- The last place of a byte among the first n; -1: none. -/
def lastIx (s : ByteArray) (c : Int) : Nat → Int
  | 0 => -1
  | n + 1 => if bt s (n : Int) = c then (n : Int) else lastIx s c n
theorem lastIx_range (s : ByteArray) (c : Int) : ∀ n, -1 ≤ lastIx s c n ∧ lastIx s c n < (n : Int)
  | 0 => by unfold lastIx; omega
  | n + 1 => by
    have h := lastIx_range s c n
    unfold lastIx
    split <;> omega
theorem lastIx_at (s : ByteArray) (c : Int) : ∀ n, 0 ≤ lastIx s c n → bt s (lastIx s c n) = c
  | 0 => by unfold lastIx; omega
  | n + 1 => by
    have h := lastIx_at s c n
    unfold lastIx
    split
    · intro _; assumption
    · exact h
theorem lib_last (s : ByteArray) (c : Int) (hs : s.size ≤ 4611686018427387904) : ∀ (n : Nat) (x : Int), x = (n : Int) - 1 → n ≤ s.size → Ev (fun k => bytealg_LastIndexByteString.l0 k s c x) (lastIx s c n)
  | 0, x, hx, _ => by
    refine Ev.step (fun _ => rfl) (ev_neg (by omega) (ev_some ?_))
    rfl
  | n + 1, x, hx, hn => by
    obtain rfl : x = (n : Int) := by omega
    refine Ev.step (fun _ => rfl) (ev_pos (by omega) (ev_pos (by omega) (ev_pos (by omega) ?_)))
    unfold lastIx
    refine ev_ite (fun _ => ev_some rfl) (fun _ => lib_last s c hs n _ ?_ (by omega))
    rw [wrap_id (by omega) (by omega)]
theorem last_ev (s : ByteArray) (c : Int) (hs : s.size ≤ 4611686018427387904) : Ev (fun k => strings_LastIndexByte.f k s c) (lastIx s c s.size) := by
  refine Ev.bind (lib_last s c hs s.size _ ?_ (Nat.le_refl _)) (ev_some rfl)
  rw [wrap_id (by omega) (by omega)]
theorem stroke_loop (s : ByteArray) (hs : s.size ≤ 4611686018427387904) : ∀ (d i : Nat), i + d = s.size → Ev (fun k => smithyref03_stroke.l0 k s (lastIx s 47 i) (i : Int)) (lastIx s 47 s.size)
  | 0, i, hi => by
    obtain rfl : i = s.size := by omega
    exact Ev.step (fun _ => rfl) (ev_neg (by omega) (ev_some rfl))
  | d + 1, i, hi => by
    have h := stroke_loop s hs d (i + 1) (by omega)
    refine Ev.step (fun _ => rfl) (ev_pos (by omega) (ev_pos (by omega) ?_))
    rw [wrap_id (by omega) (by omega)]
    rw [lastIx] at h
    refine ev_ite2 (fun hc => ?_) (fun hc => ?_)
    · rw [if_pos hc] at h; exact h
    · rw [if_neg hc] at h; exact h
theorem stroke_ev (s : ByteArray) (hs : s.size ≤ 4611686018427387904) : Ev (fun k => smithyref03_stroke.f k s) (lastIx s 47 s.size) := stroke_loop s hs s.size 0 (by omega)

/-- The part ahead of the last stroke. -/
def dirOf (s : ByteArray) : ByteArray := if lastIx s 47 s.size < 0 then ⟨#[46]⟩ else if lastIx s 47 s.size = 0 then ⟨#[47]⟩ else s.extract 0 (lastIx s 47 s.size).toNat
/-- The part behind it. -/
def baseOf (s : ByteArray) : ByteArray := s.extract (lastIx s 47 s.size + 1).toNat s.size
theorem baseOf_size (s : ByteArray) : (baseOf s).size ≤ s.size := by unfold baseOf; rw [ByteArray.size_extract]; omega
theorem dirOf_none {s : ByteArray} (h : lastIx s 47 s.size < 0) : dirOf s = ⟨#[46]⟩ := if_pos h
theorem dirOf_root {s : ByteArray} (h : lastIx s 47 s.size = 0) : dirOf s = ⟨#[47]⟩ := by unfold dirOf; rw [if_neg (by omega), if_pos h]
theorem dirOf_else {s : ByteArray} (h : 0 < lastIx s 47 s.size) : dirOf s = s.extract 0 (lastIx s 47 s.size).toNat := by unfold dirOf; rw [if_neg (by omega), if_neg (by omega)]
theorem dir_ev (s : ByteArray) (hs : s.size ≤ 4611686018427387904) : Ev (fun k => names_Dir.f k s) (dirOf s) := by
  have h := lastIx_range s 47 s.size
  refine Ev.bind (last_ev s 47 hs) ?_
  by_cases h1 : lastIx s 47 s.size < 0
  · exact ev_pos (by omega) (ev_some (dirOf_none h1).symm)
  · refine ev_neg (by omega) ?_
    by_cases h2 : lastIx s 47 s.size = 0
    · exact ev_pos h2 (ev_some (dirOf_root h2).symm)
    · exact ev_neg h2 (ev_pos (by omega) (ev_pos (by omega) (ev_some (dirOf_else (by omega)).symm)))
theorem rdir_ev (s : ByteArray) (hs : s.size ≤ 4611686018427387904) : Ev (fun k => smithyref03_Dir.f k s) (dirOf s) := by
  have h := lastIx_range s 47 s.size
  refine Ev.bind (stroke_ev s hs) ?_
  by_cases h1 : lastIx s 47 s.size < 0
  · exact ev_pos h1 (ev_some (dirOf_none h1).symm)
  · refine ev_neg h1 ?_
    by_cases h2 : lastIx s 47 s.size = 0
    · exact ev_pos h2 (ev_some (dirOf_root h2).symm)
    · exact ev_neg h2 (ev_pos (by omega) (ev_pos (by omega) (ev_some (dirOf_else (by omega)).symm)))
theorem base_ev (s : ByteArray) (hs : s.size ≤ 4611686018427387904) : Ev (fun k => names_Base.f k s) (baseOf s) := by
  have h := lastIx_range s 47 s.size
  refine Ev.bind (last_ev s 47 hs) ?_
  rw [wrap_id (by omega) (by omega)]
  exact ev_pos (by omega) (ev_pos (by omega) (ev_some rfl))
theorem rbase_ev (s : ByteArray) (hs : s.size ≤ 4611686018427387904) : Ev (fun k => smithyref03_Base.f k s) (baseOf s) := by
  have h := lastIx_range s 47 s.size
  refine Ev.bind (stroke_ev s hs) ?_
  rw [wrap_id (by omega) (by omega)]
  exact ev_pos (by omega) (ev_pos (by omega) (ev_some rfl))
/-- From the last dot of the base on. -/
def suffixOf (s : ByteArray) : ByteArray := if lastIx (baseOf s) 46 (baseOf s).size > 0 then (baseOf s).extract (lastIx (baseOf s) 46 (baseOf s).size).toNat (baseOf s).size else ⟨#[]⟩
theorem suffix_ev (s : ByteArray) (hs : s.size ≤ 4611686018427387904) : Ev (fun k => names_Suffix.f k s) (suffixOf s) := by
  have hb := baseOf_size s
  have h := lastIx_range (baseOf s) 46 (baseOf s).size
  refine Ev.bind (base_ev s hs) (Ev.bind (last_ev (baseOf s) 46 (by omega)) ?_)
  unfold suffixOf
  exact ev_ite (fun h1 => ev_pos (by omega) (ev_pos (by omega) (ev_some rfl))) (fun _ => ev_some rfl)
theorem rsuffix_loop (b : ByteArray) (hs : b.size ≤ 4611686018427387904) : ∀ (n : Nat) (x : Int), x = (n : Int) - 1 → n ≤ b.size →
    Ev (fun k => smithyref03_Suffix.l0 k b x) (if lastIx b 46 n > 0 then b.extract (lastIx b 46 n).toNat b.size else ⟨#[]⟩)
  | 0, x, hx, _ => by
    rw [if_neg (by unfold lastIx; omega)]
    exact Ev.step (fun _ => rfl) (ev_neg (by omega) (ev_some rfl))
  | n + 1, x, hx, hn => by
    obtain rfl : x = (n : Int) := by omega
    by_cases h0 : n = 0
    · subst h0
      rw [if_neg (by unfold lastIx lastIx; split <;> omega)]
      exact Ev.step (fun _ => rfl) (ev_neg (by omega) (ev_some rfl))
    · have ih := rsuffix_loop b hs n _ rfl (by omega)
      refine Ev.step (fun _ => rfl) (ev_pos (by omega) (ev_pos (by omega) (ev_pos (by omega) ?_)))
      rw [wrap_id (by omega) (by omega)]
      by_cases hc : bt b (n : Int) = 46
      · refine ev_pos hc (ev_pos (by omega) (ev_some ?_))
        rw [lastIx, if_pos hc, if_pos (by omega)]
      · refine ev_neg hc ?_
        rw [lastIx, if_neg hc]
        exact ih
theorem rsuffix_ev (s : ByteArray) (hs : s.size ≤ 4611686018427387904) : Ev (fun k => smithyref03_Suffix.f k s) (suffixOf s) := by
  have hb := baseOf_size s
  refine Ev.bind (rbase_ev s hs) ?_
  rw [wrap_id (by omega) (by omega)]
  exact rsuffix_loop (baseOf s) (by omega) (baseOf s).size _ rfl (Nat.le_refl _)

/-! ### letters, names -/
theorem letter_eq (c : Int) (h0 : 0 ≤ c) (h1 : c ≤ 255) : names_letter.f c = smithyref03_letter.f c := by
  have h : ∀ n : Fin 256, names_letter.f (n.val : Int) = smithyref03_letter.f (n.val : Int) := by decide +kernel
  have := h ⟨c.toNat, by omega⟩
  rw [show ((⟨c.toNat, by omega⟩ : Fin 256).val : Int) = c by simp; omega] at this
  exact this
theorem letter_some (c : Int) (h0 : 0 ≤ c) (h1 : c ≤ 255) : ∃ b, smithyref03_letter.f c = some b := by
  have h : ∀ n : Fin 256, (smithyref03_letter.f (n.val : Int)).isSome = true := by decide +kernel
  have := h ⟨c.toNat, by omega⟩
  rw [show ((⟨c.toNat, by omega⟩ : Fin 256).val : Int) = c by simp; omega] at this
  exact Option.isSome_iff_exists.1 this
/-- May a byte stand in a name? -/
def letB (c : Int) : Bool := (smithyref03_letter.f c).getD false
theorem rletter_eq (s : ByteArray) (i : Int) : smithyref03_letter.f (bt s i) = some (letB (bt s i)) := by
  obtain ⟨b, hb⟩ := letter_some (bt s i) (bt_range s i).1 (bt_range s i).2
  unfold letB
  rw [hb]; rfl
theorem nletter_eq (s : ByteArray) (i : Int) : names_letter.f (bt s i) = some (letB (bt s i)) := by
  rw [letter_eq _ (bt_range s i).1 (bt_range s i).2, rletter_eq]
/-- Are all bytes from a place on letters? -/
def allLet (s : ByteArray) : Nat → Nat → Bool
  | 0, _ => true
  | d + 1, i => letB (bt s (i : Int)) && allLet s d (i + 1)
/-- Is a text a name? -/
def isName (s : ByteArray) : Bool := decide (1 ≤ s.size) && decide (s.size ≤ 64) && allLet s s.size 0
theorem check_loop (s : ByteArray) (hs : s.size ≤ 4611686018427387904) : ∀ (d i : Nat), i + d = s.size → Ev (fun k => names_Check.l0 k s (s.size : Int) (i : Int)) (if allLet s d i = true then 0 else 3)
  | 0, i, hi => by
    exact Ev.step (fun _ => rfl) (ev_neg (by omega) (ev_some (by simp [allLet])))
  | d + 1, i, hi => by
    have ih := check_loop s hs d (i + 1) (by omega)
    refine Ev.step (fun _ => rfl) (ev_pos (by omega) (ev_pos (by omega) (ev_pos (by omega) (ev_const (nletter_eq s i) ?_))))
    rw [wrap_id (by omega) (by omega)]
    unfold allLet
    cases letB (bt s (i : Int)) with
    | true => exact ev_pos (by rfl) ih
    | false => exact ev_neg (by decide) (ev_some rfl)
theorem isName_empty {s : ByteArray} (h : s.size = 0) : isName s = false := by unfold isName; simp [h]
theorem isName_long {s : ByteArray} (h : ¬ s.size ≤ 64) : isName s = false := by
  unfold isName
  have e2 : decide (s.size ≤ 64) = false := by simp; omega
  rw [e2]; simp
theorem isName_mid {s : ByteArray} (h0 : ¬ s.size = 0) (h : s.size ≤ 64) : isName s = allLet s s.size 0 := by
  unfold isName
  have e1 : decide (1 ≤ s.size) = true := by simp; omega
  have e2 : decide (s.size ≤ 64) = true := by simp; omega
  rw [e1, e2]; rfl
theorem check_ev (s : ByteArray) (hs : s.size ≤ 4611686018427387904) : Ev (fun k => names_Check.f k s) (if isName s = true then 0 else 3) := by
  have hl := check_loop s hs s.size 0 (by omega)
  by_cases h0 : s.size = 0
  · exact ev_pos (by omega) (Ev.step (f := fun _ => some 3) (fun _ => rfl) (ev_some (by rw [isName_empty h0]; rfl)))
  · refine ev_neg (by omega) (Ev.step (fun _ => rfl) ?_)
    by_cases h1 : s.size ≤ 64
    · exact ev_neg (by simp; omega) (ev_eq hl (by rw [isName_mid h0 h1]))
    · exact ev_pos (by simp; omega) (ev_some (by rw [isName_long h1]; rfl))
theorem is_loop (s : ByteArray) (hs : s.size ≤ 4611686018427387904) : ∀ (d i : Nat), i + d = s.size → Ev (fun k => smithyref03_Is.l0 k s (i : Int)) (allLet s d i)
  | 0, i, hi => Ev.step (fun _ => rfl) (ev_neg (by omega) (ev_some rfl))
  | d + 1, i, hi => by
    have ih := is_loop s hs d (i + 1) (by omega)
    refine Ev.step (fun _ => rfl) (ev_pos (by omega) (ev_pos (by omega) (ev_const (rletter_eq s i) ?_)))
    rw [wrap_id (by omega) (by omega)]
    unfold allLet
    cases letB (bt s (i : Int)) with
    | true => exact ev_pos (by rfl) ih
    | false => exact ev_neg (by decide) (ev_some rfl)
theorem is_ev (s : ByteArray) (hs : s.size ≤ 4611686018427387904) : Ev (fun k => smithyref03_Is.f k s) (isName s) := by
  have hl := is_loop s hs s.size 0 (by omega)
  by_cases h0 : s.size = 0
  · exact ev_pos (by omega) (Ev.step (f := fun _ => some false) (fun _ => rfl) (ev_some (isName_empty h0).symm))
  · refine ev_neg (by omega) (Ev.step (fun _ => rfl) ?_)
    by_cases h1 : s.size ≤ 64
    · exact ev_neg (by simp; omega) (ev_eq hl (isName_mid h0 h1).symm)
    · exact ev_pos (by simp; omega) (ev_some (isName_long h1).symm)
theorem rcheck_ev (s : ByteArray) (hs : s.size ≤ 4611686018427387904) : Ev (fun k => smithyref03_Check.f k s) (if isName s = true then 0 else 3) := by
  refine Ev.bind (is_ev s hs) ?_
  exact ev_ite (fun _ => ev_some rfl) (fun _ => ev_some rfl)

theorem small_ev : Ev (fun k => smithylaw03_small.f k) true := Ev.of (fun k => smithylaw03_small.mono k) (k := 30) (by decide +kernel)

end Go.Proofs.Ytkkealcfadbcbaa.Plain
