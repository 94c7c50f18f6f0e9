/- Names, out of the program's own letter() alone; calls of Check and Unique in plain words. -/
import Derived.Test.YtkbcfbelpjifnaaNames2
import Derived.Test.YtkbcfbelpjifnaaPXx1
namespace Go.Proofs.Ytkbcfbelpjifnaa.Plain
open Go Go.RowKit Go.Proofs.YtkbcfbelpjifnaaW.PrintWords Go.Proofs.Ytkbcfbelpjifnaa.PX

theorem letter_some (c : Int) (h0 : 0 ≤ c) (h1 : c ≤ 255) : ∃ b, names_letter.f c = some b := by
  have h : ∀ n : Fin 256, (names_letter.f (n.val : Int)).isSome = true := by decide +kernel
  have := h ⟨c.toNat, by omega⟩
  rw [show ((⟨c.toNat, by omega⟩ : Fin 256).val : Int) = c by simp; omega] at this
  exact Option.isSome_iff_exists.1 this
/-- May a byte stand in a name? -/
def letB (c : Int) : Bool := (names_letter.f c).getD false
theorem nletter_eq (s : ByteArray) (i : Int) : names_letter.f (bt s i) = some (letB (bt s i)) := by
  obtain ⟨b, hb⟩ := letter_some (bt s i) (bt_range s i).1 (bt_range s i).2
  unfold letB
  rw [hb]; rfl
/-- Are all bytes from a place on letters? -/
def allLet (s : ByteArray) : Nat → Nat → Bool
  | 0, _ => true
  | d + 1, i => letB (bt s (i : Int)) && allLet s d (i + 1)
/-- Is a text a name? -/
def isName (s : ByteArray) : Bool := decide (1 ≤ s.size) && decide (s.size ≤ 64) && allLet s s.size 0
theorem check_loop (s : ByteArray) (hs : s.size ≤ 4611686018427387904) : ∀ (d i : Nat), i + d = s.size → Ev (fun k => names_Check.l0 k s (s.size : Int) (i : Int)) (if allLet s d i = true then 0 else 3)
  | 0, i, hi => by
    exact Ev.step (fun _ => rfl) (ev_neg (by omega) (ev_some (by simp [allLet])))
  | d + 1, i, hi => by
    have ih := check_loop s hs d (i + 1) (by omega)
    refine Ev.step (fun _ => rfl) (ev_pos (by omega) (ev_pos (by omega) (ev_pos (by omega) (ev_const (nletter_eq s i) ?_))))
    rw [wrap_id (by omega) (by omega)]
    unfold allLet
    cases letB (bt s (i : Int)) with
    | true => exact ev_pos (by rfl) ih
    | false => exact ev_neg (by decide) (ev_some rfl)
theorem isName_empty {s : ByteArray} (h : s.size = 0) : isName s = false := by unfold isName; simp [h]
theorem isName_long {s : ByteArray} (h : ¬ s.size ≤ 64) : isName s = false := by
  unfold isName
  have e2 : decide (s.size ≤ 64) = false := by simp; omega
  rw [e2]; simp
theorem isName_mid {s : ByteArray} (h0 : ¬ s.size = 0) (h : s.size ≤ 64) : isName s = allLet s s.size 0 := by
  unfold isName
  have e1 : decide (1 ≤ s.size) = true := by simp; omega
  have e2 : decide (s.size ≤ 64) = true := by simp; omega
  rw [e1, e2]; rfl
theorem check_ev (s : ByteArray) (hs : s.size ≤ 4611686018427387904) : Ev (fun k => names_Check.f k s) (if isName s = true then 0 else 3) := by
  have hl := check_loop s hs s.size 0 (by omega)
  by_cases h0 : s.size = 0
  · exact ev_pos (by omega) (Ev.step (f := fun _ => some 3) (fun _ => rfl) (ev_some (by rw [isName_empty h0]; rfl)))
  · refine ev_neg (by omega) (Ev.step (fun _ => rfl) ?_)
    by_cases h1 : s.size ≤ 64
    · exact ev_neg (by simp; omega) (ev_eq hl (by rw [isName_mid h0 h1]))
    · exact ev_pos (by simp; omega) (ev_some (by rw [isName_long h1]; rfl))
/-- names.Check, in plain words. -/
theorem check_calls (s : ByteArray) (hs : s.size ≤ 4611686018427387904) (w : World) : Calls Try.prog 30 #[.string s] w fun e w' => e = .returned (.int .i64 (if isName s = true then 0 else 3)) ∧ Drawn0 w w' := by
  obtain ⟨k, hk⟩ := check_ev s hs
  exact names_Check.calls k s _ w (hk k (Nat.le_refl _))
/-- names.Unique, in plain words. -/
theorem unique_calls (A0 : Option Addr) (c0 : Nat) (l : List ByteArray) (hl : l.length < 8796093022208) (w : World) (hr : Kd.C Kd.string w A0 l.length l) (hc : l.length ≤ c0) :
    Calls Try.prog 17 #[.slice A0 l.length c0] w fun e w' => ∃ v, e = .returned v ∧ Kd.R Kd.string 9 w' w.heap.size (fun _ => True) v (uniq [] l) ∧ Below w.heap.size w w' := by
  obtain ⟨k, hk⟩ := unique_ev l hl
  exact names_Unique.calls k A0 c0 l _ w hr hc (hk k (Nat.le_refl _))
end Go.Proofs.Ytkbcfbelpjifnaa.Plain
