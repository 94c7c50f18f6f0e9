/- What macro.Check and its reference come to. -/
import Derived.Test.YtadfbbjplgbakaaDoorExpL
import Derived.Test.YtadfbbjplgbakaaDoorExp2
import Derived.Test.YtadfbbjplgbakaaDoorPXx0
import Derived.Test.YtadfbbjplgbakaaDoorPXx2
import Derived.Test.YtadfbbjplgbakaaDoorPXx3
namespace Go.Proofs.YtadfbbjplgbakaaDoor.Plain
open Go Go.RowKit Go.Proofs.YtadfbbjplgbakaaDoorW.PrintWords Go.Proofs.YtadfbbjplgbakaaDoor.PX Go.Proofs.YtadfbbjplgbakaaDoor.Exp
set_option linter.unusedVariables false

/-- A macro that is right. -/
def goodM (x : Mac) : Prop := namL (L x.f0) = true ∧ 0 ≤ x.f2 ∧ x.f2 ≤ 2 ∧ x.f1.size ≤ 8192
theorem one_zero {k : Nat} {x : Mac} (h : macro_one.f k x.f0 x.f1 x.f2 = some 0) : goodM x := by
  unfold macro_one.f macro_Name.f at h
  by_cases hs : x.f0.size ≤ 9223372036854775807
  · rw [if_pos hs, Option.bind_some, name_eq] at h
    by_cases hn : namL (L x.f0) = true
    · rw [if_pos hn] at h
      by_cases h0 : x.f2 < 0
      · rw [if_pos h0] at h
        cases k with
        | zero => cases h
        | succ k => rw [macro_one.j0, if_pos rfl] at h; cases h
      · rw [if_neg h0] at h
        cases k with
        | zero => cases h
        | succ k =>
          rw [macro_one.j0] at h
          by_cases h2 : decide (x.f2 > 2) = true
          · rw [if_pos h2] at h; cases h
          · rw [if_neg h2] at h
            by_cases h3 : (x.f1.size : Int) > 8192
            · rw [if_pos h3] at h; cases h
            · have h4 : ¬ x.f2 > 2 := by simpa using h2
              exact ⟨hn, by omega, by omega, by omega⟩
    · rw [if_neg hn] at h; cases h
  · rw [if_neg hs] at h; cases h
theorem rdM_at {M : List Mac} {i : Nat} {x : Mac} (h : M[i]? = some x) : rd_T43 M (i : Int) = x := by
  unfold rd_T43
  rw [Int.toNat_natCast, List.getD_eq_getElem?_getD, h]
  rfl
theorem check_l0 {M : List Mac} (hM : M.length ≤ 256) : ∀ (k i : Nat), macro_Check.l0 k M M (M.length : Int) (i : Int) = some 0 → ∀ (j : Nat) x, i ≤ j → M[j]? = some x → goodM x
  | 0, i, h, _, _, _, _ => by cases h
  | k + 1, i, h, j, x, hij, hx => by
    rw [macro_Check.l0] at h
    have hj := (List.getElem?_eq_some_iff.1 hx).1
    rw [if_pos (by omega), if_pos (by omega), if_pos (by omega)] at h
    obtain ⟨y, hy⟩ : ∃ y, M[i]? = some y := ⟨_, List.getElem?_eq_getElem (by omega)⟩
    rw [rdM_at hy] at h
    obtain ⟨t, h1, h2⟩ := Option.bind_eq_some_iff.1 h
    by_cases ht : t = 0
    · subst ht
      rw [if_pos rfl, wrap_id (by omega) (by omega)] at h2
      by_cases hij2 : i = j
      · subst hij2
        rw [hy] at hx
        cases hx
        exact one_zero h1
      · exact check_l0 hM k (i + 1) h2 j x (by omega) hx
    · rw [if_neg ht] at h2
      cases h2
      exact absurd rfl ht
/-- Macros that are right: few, each right. -/
theorem check_good {k : Nat} {M : List Mac} (h : macro_Check.f k M = some 0) : M.length ≤ 256 ∧ ∀ x ∈ M, goodM x := by
  unfold macro_Check.f at h
  by_cases hl : (M.length : Int) > 256
  · rw [if_pos hl] at h; cases h
  · rw [if_neg hl] at h
    refine ⟨by omega, fun x hx => ?_⟩
    obtain ⟨j, hj⟩ := List.mem_iff_getElem?.1 hx
    exact check_l0 (by omega) k 0 h j x (Nat.zero_le _) hj
theorem val_size {M : List Mac} (h : ∀ x ∈ M, goodM x) (y : ByteArray) : (valM M y).size ≤ 8192 := by
  unfold valM
  by_cases h1 : macro_Name.f y = some true
  · rw [if_pos h1]
    by_cases h2 : mHas M y = true
    · rw [if_pos h2]
      unfold mHas at h2
      have h3 := (of_decide_eq_true h2).1
      rw [List.getD_eq_getElem?_getD, List.getElem?_eq_getElem h3]
      exact (h _ (List.getElem_mem h3)).2.2.2
    · rw [if_neg h2]; decide
  · rw [if_neg h1]; decide
end Go.Proofs.YtadfbbjplgbakaaDoor.Plain
