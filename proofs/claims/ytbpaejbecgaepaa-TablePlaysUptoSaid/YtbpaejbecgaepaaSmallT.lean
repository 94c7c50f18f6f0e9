/- small(): three keys are put, the keys told, one looked up. -/
import Derived.Test.YtbpaejbecgaepaaKeysSI
namespace Go.Proofs.Ytbpaejbecgaepaa.TabSI
open Go Go.RowKit Go.Proofs
set_option linter.unusedVariables false
set_option linter.unusedSimpArgs false

abbrev sA : ByteArray := { data := #[97] }
abbrev sB : ByteArray := { data := #[98] }
theorem place0 : Place [] sB 0 := ⟨by simp, fun i x h => by simp at h⟩
theorem place1 : Place [(sB, (1 : Int))] sA 0 := ⟨by simp, fun i x h => by
  match i, h with
  | 0, h => simp at h; subst h; decide +kernel
  | (i + 1), h => simp at h⟩
theorem place2 : Place [(sA, (2 : Int)), (sB, 1)] sB 1 := ⟨by simp, fun i x h => by
  match i, h with
  | 0, h => simp at h; subst h; decide +kernel
  | 1, h => simp at h; subst h; decide +kernel
  | (i + 2), h => simp at h⟩
theorem place3 : Place [(sA, (2 : Int)), (sB, 3)] sB 1 := ⟨by simp, fun i x h => by
  match i, h with
  | 0, h => simp at h; subst h; decide +kernel
  | 1, h => simp at h; subst h; decide +kernel
  | (i + 2), h => simp at h⟩
theorem has0 : hasAt [] sB 0 = false := rfl
theorem has1 : hasAt [(sB, (1 : Int))] sA 0 = false := by decide +kernel
theorem has2 : hasAt [(sA, (2 : Int)), (sB, 1)] sB 1 = true := by decide +kernel
theorem put0 : putL [] sB 1 0 = [(sB, 1)] := rfl
theorem put1 : putL [(sB, (1 : Int))] sA 2 0 = [(sA, 2), (sB, 1)] := by
  have h : (cmpK sB sA == 0) = false := by decide +kernel
  simp [putL, h]
theorem put2 : putL [(sA, (2 : Int)), (sB, 1)] sB 3 1 = [(sA, 2), (sB, 3)] := by
  have h : (cmpK sB sB == 0) = true := by decide +kernel
  simp [putL, h]
theorem get3 : getL [(sA, (2 : Int)), (sB, 3)] sB 1 = (3, true) := by
  have h : (cmpK sB sB == 0) = true := by decide +kernel
  simp [getL, h]
/-- A call on a table that lies behind all of w0 leaves w0's blocks as they were. -/
theorem turned_below {w0 w w' : World} {base b : Nat} {v v' : Value} {ys xs : List (ByteArray × Int)} (hb : Below w0.heap.size w0 w) (hT : IsTab w base b v xs) (h0 : w0.heap.size ≤ base) (h1 : w0.heap.size ≤ b) (hk : Keep w w' (Own b v)) : Below w0.heap.size w0 w' :=
  hb.trans ⟨hk.os, hk.tape, hk.output, hk.size, fun k hk' => hk.block k (Nat.lt_of_lt_of_le hk' hb.size) (fun h => by
    rcases h with rfl | h
    · omega
    · have := (hT.rows.lt k h).1; omega)⟩
set_option maxHeartbeats 4000000 in
set_option maxRecDepth 100000 in
theorem small_calls (w : World) : Calls Try.prog 11 #[] w fun e w' => e = .returned (.bool true) ∧ Below w.heap.size w w' := by
  go_enter Try.func11, Try.ntmps11
  go_wp2_with fail
  refine (new_calls w).mono ?_
  rintro e w1 ⟨rfl, hT1, hb1⟩
  go_wp2_with fail
  refine (put_calls w.heap.size w.heap.size _ [] sB 1 0 w1 hT1 place0 (by simp) hb1.size).mono ?_
  rintro e w2 ⟨rfl, v2, hT2, hk2, _⟩
  rw [put0] at hT2
  have hb2 := turned_below (v' := v2) (ys := []) hb1 hT1 (Nat.le_refl _) (Nat.le_refl _) hk2
  go_wp2_with fail
  refine (put_calls w.heap.size w.heap.size _ _ sA 2 0 w2 hT2 place1 (by simp) hb2.size).mono ?_
  rintro e w3 ⟨rfl, v3, hT3, hk3, _⟩
  rw [put1] at hT3
  have hb3 := turned_below (v' := v3) (ys := []) hb2 hT2 (Nat.le_refl _) (Nat.le_refl _) hk3
  go_wp2_with fail
  refine (put_calls w.heap.size w.heap.size _ _ sB 3 1 w3 hT3 place2 (by simp) hb3.size).mono ?_
  rintro e w4 ⟨rfl, v4, hT4, hk4, _⟩
  rw [put2] at hT4
  have hb4 := turned_below (v' := v4) (ys := []) hb3 hT3 (Nat.le_refl _) (Nat.le_refl _) hk4
  rw [has2]
  go_wp2_with fail
  refine (keys_calls w.heap.size w.heap.size _ _ w4 hT4 (by simp)).mono ?_
  rintro e w5 ⟨v5, rfl, hR5, hb5⟩
  have hT5 := hT4.below hb5
  have hb45 := below_trans hb4 hb5
  obtain ⟨g, cap, rfl, hg, hcap⟩ := own_form hR5 (by simp)
  go_wp2_with fail
  refine (get_calls w.heap.size w.heap.size _ _ sB 1 w5 hT5 place3 (by simp) hb45.size).mono ?_
  rintro e w6 ⟨rfl, hb6⟩
  rw [get3]
  have hR6 := own_below hR5 hb6
  have hc0 : w6.cell? ⟨g, 0, none⟩ = some (.string sA) := (hR6.cellAt 0 (by simp)).trans rfl
  have hc1 : w6.cell? ⟨g, 1, none⟩ = some (.string sB) := (hR6.cellAt 1 (by simp)).trans rfl
  go_wp2
  go_ret
  exact ⟨rfl, below_trans hb45 hb6⟩
end Go.Proofs.Ytbpaejbecgaepaa.TabSI
