/- macro.Name: a text of 1 to 64 bytes, whose runes are all letters, digits, '_' or '.'. -/
import Derived.Shelf.GgClosure.StringsIndexFuncTop
import Derived.Test.YtadfbbjplgbakaaGreatShelf
import Derived.Test.YtadfbbjplgbakaaGreatWWords
namespace Go.Proofs.YtadfbbjplgbakaaGreat.Hand
open Go Go.RowKit Go.Shelf Go.Proofs
set_option linter.unusedVariables false
set_option linter.unusedSimpArgs false

/-- A rune that no name has. -/
def otR : Nat → Bool := fun c => !(decide (97 ≤ c) && decide (c ≤ 122) || decide (65 ≤ c) && decide (c ≤ 90) || decide (48 ≤ c) && decide (c ≤ 57) || c == 95 || c == 46)
set_option maxHeartbeats 4000000 in
theorem otR_calls (W : World) (R : Nat) : Calls Tryz.prog 56 #[.int .i32 (R : Int)] W fun e W' => e = .returned (.bool (otR R)) ∧ ∃ q, W' = W.drewN q := by
  have hc : (97 ≤ R ∧ R ≤ 122) ∨ (122 < R) ∨ (65 ≤ R ∧ R ≤ 90) ∨ (R = 95) ∨ (90 < R ∧ R < 97 ∧ R ≠ 95) ∨ (48 ≤ R ∧ R ≤ 57) ∨ (57 < R ∧ R < 65) ∨ (R = 46) ∨ (R < 48 ∧ R ≠ 46) := by omega
  rcases hc with h | h | h | h | h | h | h | h | h
  · have hr : otR R = false := by
      unfold otR
      simp
      omega
    rw [hr]
    have e1 : decide ((97 : Int) ≤ (R : Int)) = true := decide_eq_true (by omega)
    have n1 : decide (97 ≤ R) = true := decide_eq_true (by omega)
    have e2 : decide ((R : Int) ≤ (122 : Int)) = true := decide_eq_true (by omega)
    have n2 : decide (R ≤ 122) = true := decide_eq_true (by omega)
    clear h hr
    go_enter Tryz.func56, Tryz.ntmps56
    go_wp2
    go_ret
    exact ⟨rfl, 0, rfl⟩
  · have hr : otR R = true := by
      unfold otR
      simp
      omega
    rw [hr]
    have e1 : decide ((97 : Int) ≤ (R : Int)) = true := decide_eq_true (by omega)
    have n1 : decide (97 ≤ R) = true := decide_eq_true (by omega)
    have e2 : decide ((R : Int) ≤ (122 : Int)) = false := decide_eq_false (by omega)
    have n2 : decide (R ≤ 122) = false := decide_eq_false (by omega)
    have e3 : decide ((65 : Int) ≤ (R : Int)) = true := decide_eq_true (by omega)
    have n3 : decide (65 ≤ R) = true := decide_eq_true (by omega)
    have e4 : decide ((R : Int) ≤ (90 : Int)) = false := decide_eq_false (by omega)
    have n4 : decide (R ≤ 90) = false := decide_eq_false (by omega)
    have e5 : decide ((48 : Int) ≤ (R : Int)) = true := decide_eq_true (by omega)
    have n5 : decide (48 ≤ R) = true := decide_eq_true (by omega)
    have e6 : decide ((R : Int) ≤ (57 : Int)) = false := decide_eq_false (by omega)
    have n6 : decide (R ≤ 57) = false := decide_eq_false (by omega)
    have e7 : ((R : Int) == 95) = false := by rw [beq_eq_false_iff_ne]; omega
    have n7 : (R == 95) = false := by rw [beq_eq_false_iff_ne]; omega
    have e8 : ((R : Int) == 46) = false := by rw [beq_eq_false_iff_ne]; omega
    have n8 : (R == 46) = false := by rw [beq_eq_false_iff_ne]; omega
    clear h hr
    go_enter Tryz.func56, Tryz.ntmps56
    go_wp2
    go_ret
    exact ⟨rfl, 0, rfl⟩
  · have hr : otR R = false := by
      unfold otR
      simp
      omega
    rw [hr]
    have e1 : decide ((97 : Int) ≤ (R : Int)) = false := decide_eq_false (by omega)
    have n1 : decide (97 ≤ R) = false := decide_eq_false (by omega)
    have e2 : decide ((65 : Int) ≤ (R : Int)) = true := decide_eq_true (by omega)
    have n2 : decide (65 ≤ R) = true := decide_eq_true (by omega)
    have e3 : decide ((R : Int) ≤ (90 : Int)) = true := decide_eq_true (by omega)
    have n3 : decide (R ≤ 90) = true := decide_eq_true (by omega)
    clear h hr
    go_enter Tryz.func56, Tryz.ntmps56
    go_wp2
    go_ret
    exact ⟨rfl, 0, rfl⟩
  · subst h
    go_enter Tryz.func56, Tryz.ntmps56
    go_wp2
    go_ret
    exact ⟨rfl, 0, rfl⟩
  · have hr : otR R = true := by
      unfold otR
      simp
      omega
    rw [hr]
    have e1 : decide ((97 : Int) ≤ (R : Int)) = false := decide_eq_false (by omega)
    have n1 : decide (97 ≤ R) = false := decide_eq_false (by omega)
    have e2 : decide ((65 : Int) ≤ (R : Int)) = true := decide_eq_true (by omega)
    have n2 : decide (65 ≤ R) = true := decide_eq_true (by omega)
    have e3 : decide ((R : Int) ≤ (90 : Int)) = false := decide_eq_false (by omega)
    have n3 : decide (R ≤ 90) = false := decide_eq_false (by omega)
    have e4 : decide ((48 : Int) ≤ (R : Int)) = true := decide_eq_true (by omega)
    have n4 : decide (48 ≤ R) = true := decide_eq_true (by omega)
    have e5 : decide ((R : Int) ≤ (57 : Int)) = false := decide_eq_false (by omega)
    have n5 : decide (R ≤ 57) = false := decide_eq_false (by omega)
    have e6 : ((R : Int) == 95) = false := by rw [beq_eq_false_iff_ne]; omega
    have n6 : (R == 95) = false := by rw [beq_eq_false_iff_ne]; omega
    have e7 : ((R : Int) == 46) = false := by rw [beq_eq_false_iff_ne]; omega
    have n7 : (R == 46) = false := by rw [beq_eq_false_iff_ne]; omega
    clear h hr
    go_enter Tryz.func56, Tryz.ntmps56
    go_wp2
    go_ret
    exact ⟨rfl, 0, rfl⟩
  · have hr : otR R = false := by
      unfold otR
      simp
      omega
    rw [hr]
    have e1 : decide ((97 : Int) ≤ (R : Int)) = false := decide_eq_false (by omega)
    have n1 : decide (97 ≤ R) = false := decide_eq_false (by omega)
    have e2 : decide ((65 : Int) ≤ (R : Int)) = false := decide_eq_false (by omega)
    have n2 : decide (65 ≤ R) = false := decide_eq_false (by omega)
    have e3 : decide ((48 : Int) ≤ (R : Int)) = true := decide_eq_true (by omega)
    have n3 : decide (48 ≤ R) = true := decide_eq_true (by omega)
    have e4 : decide ((R : Int) ≤ (57 : Int)) = true := decide_eq_true (by omega)
    have n4 : decide (R ≤ 57) = true := decide_eq_true (by omega)
    clear h hr
    go_enter Tryz.func56, Tryz.ntmps56
    go_wp2
    go_ret
    exact ⟨rfl, 0, rfl⟩
  · have hr : otR R = true := by
      unfold otR
      simp
      omega
    rw [hr]
    have e1 : decide ((97 : Int) ≤ (R : Int)) = false := decide_eq_false (by omega)
    have n1 : decide (97 ≤ R) = false := decide_eq_false (by omega)
    have e2 : decide ((65 : Int) ≤ (R : Int)) = false := decide_eq_false (by omega)
    have n2 : decide (65 ≤ R) = false := decide_eq_false (by omega)
    have e3 : decide ((48 : Int) ≤ (R : Int)) = true := decide_eq_true (by omega)
    have n3 : decide (48 ≤ R) = true := decide_eq_true (by omega)
    have e4 : decide ((R : Int) ≤ (57 : Int)) = false := decide_eq_false (by omega)
    have n4 : decide (R ≤ 57) = false := decide_eq_false (by omega)
    have e5 : ((R : Int) == 95) = false := by rw [beq_eq_false_iff_ne]; omega
    have n5 : (R == 95) = false := by rw [beq_eq_false_iff_ne]; omega
    have e6 : ((R : Int) == 46) = false := by rw [beq_eq_false_iff_ne]; omega
    have n6 : (R == 46) = false := by rw [beq_eq_false_iff_ne]; omega
    clear h hr
    go_enter Tryz.func56, Tryz.ntmps56
    go_wp2
    go_ret
    exact ⟨rfl, 0, rfl⟩
  · subst h
    go_enter Tryz.func56, Tryz.ntmps56
    go_wp2
    go_ret
    exact ⟨rfl, 0, rfl⟩
  · have hr : otR R = true := by
      unfold otR
      simp
      omega
    rw [hr]
    have e1 : decide ((97 : Int) ≤ (R : Int)) = false := decide_eq_false (by omega)
    have n1 : decide (97 ≤ R) = false := decide_eq_false (by omega)
    have e2 : decide ((65 : Int) ≤ (R : Int)) = false := decide_eq_false (by omega)
    have n2 : decide (65 ≤ R) = false := decide_eq_false (by omega)
    have e3 : decide ((48 : Int) ≤ (R : Int)) = false := decide_eq_false (by omega)
    have n3 : decide (48 ≤ R) = false := decide_eq_false (by omega)
    have e4 : ((R : Int) == 95) = false := by rw [beq_eq_false_iff_ne]; omega
    have n4 : (R == 95) = false := by rw [beq_eq_false_iff_ne]; omega
    have e5 : ((R : Int) == 46) = false := by rw [beq_eq_false_iff_ne]; omega
    have n5 : (R == 46) = false := by rw [beq_eq_false_iff_ne]; omega
    clear h hr
    go_enter Tryz.func56, Tryz.ntmps56
    go_wp2
    go_ret
    exact ⟨rfl, 0, rfl⟩
end Go.Proofs.YtadfbbjplgbakaaGreat.Hand

/-! ### as the printed texts ask it -/
namespace Go.Proofs.YtadfbbjplgbakaaGreat.PX
open Go Go.RowKit Go.Proofs.YtadfbbjplgbakaaGreatW.PrintWords Go.Proofs.YtadfbbjplgbakaaGreat.Hand Go.Proofs
def macro_Name.v (a0 : ByteArray) : Bool := decide (0 < a0.size) && (decide (a0.size ≤ 64) && !decide (0 ≤ Lib.idxFunc otR true a0))
def macro_Name.f (a0 : ByteArray) : Option Bool := if a0.size ≤ 9223372036854775807 then some (macro_Name.v a0) else none
set_option maxHeartbeats 4000000 in
theorem macro_Name.calls (a0 : ByteArray) (r : Bool) (w : World) (h : macro_Name.f a0 = some r) :
    Calls Tryz.prog 36 #[.string a0] w fun e w' => e = .returned (.bool r) ∧ Below w.heap.size w w' := by
  unfold macro_Name.f at h
  by_cases hsz : a0.size ≤ 9223372036854775807
  · rw [if_pos hsz] at h
    obtain rfl := Option.some.inj h
    clear h
    have eg := enters_of Tryz.func56 (by kernel_rfl) rfl
    have hcf := Tryz.strings_ContainsFunc 56 #[] eg otR a0 w (fun W x _ => otR_calls W x)
    obtain ⟨q, hq⟩ : ∃ q, macro_Name.v a0 = q := ⟨_, rfl⟩
    rw [hq]
    unfold macro_Name.v at hq
    by_cases h0 : 0 < a0.size
    · have e0 : decide ((0 : Int) < (a0.size : Int)) = true := decide_eq_true (by omega)
      have n0 : decide (0 < a0.size) = true := decide_eq_true h0
      by_cases h1 : a0.size ≤ 64
      · have e1 : decide ((a0.size : Int) ≤ 64) = true := decide_eq_true (by omega)
        have n1 : decide (a0.size ≤ 64) = true := decide_eq_true h1
        rw [n0, n1, Bool.true_and, Bool.true_and] at hq
        generalize decide (0 ≤ Lib.idxFunc otR true a0) = z at hcf hq
        subst hq
        clear h0 h1
        go_enter Tryz.func36, Tryz.ntmps36
        go_wp2_with fail
        refine hcf.mono ?_
        rintro e w2 ⟨rfl, hb⟩
        go_wp2
        go_ret
        exact ⟨rfl, hb⟩
      · have e1 : decide ((a0.size : Int) ≤ 64) = false := decide_eq_false (by omega)
        have n1 : decide (a0.size ≤ 64) = false := decide_eq_false h1
        rw [n1, Bool.false_and, Bool.and_false] at hq
        subst hq
        clear h0 h1
        go_enter Tryz.func36, Tryz.ntmps36
        go_wp2
        go_ret
        exact ⟨rfl, Below.refl _ _⟩
    · have e0 : decide ((0 : Int) < (a0.size : Int)) = false := decide_eq_false (by omega)
      have n0 : decide (0 < a0.size) = false := decide_eq_false h0
      rw [n0, Bool.false_and] at hq
      subst hq
      clear h0
      go_enter Tryz.func36, Tryz.ntmps36
      go_wp2
      go_ret
      exact ⟨rfl, Below.refl _ _⟩
  · rw [if_neg hsz] at h
    cases h
end Go.Proofs.YtadfbbjplgbakaaGreat.PX
