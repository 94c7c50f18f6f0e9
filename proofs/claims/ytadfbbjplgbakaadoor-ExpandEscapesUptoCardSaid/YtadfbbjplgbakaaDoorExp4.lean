/- expand.asked, with no inner macros. -/
import Derived.Test.YtadfbbjplgbakaaDoorExp2
import Derived.Test.YtadfbbjplgbakaaDoorExpL
namespace Go.Proofs.YtadfbbjplgbakaaDoor.Exp
open Go Go.RowKit Go.Proofs Go.Proofs.YtadfbbjplgbakaaDoorW.PrintWords Go.Proofs.YtadfbbjplgbakaaDoor.PX Go.Proofs.YtadfbbjplgbakaaDoor.Plain
set_option linter.unusedVariables false
set_option linter.unusedSimpArgs false

set_option maxHeartbeats 1000000 in
theorem contains_none (A : Option Addr) (c : Nat) (f : Value) (w : World) :
    Calls Tryd.prog 27 #[.slice A 0 c, f] w fun e w' => e = .returned (.bool false) ∧ w' = w := by
  have h : ∀ W, Calls Tryd.prog 45 #[.slice A 0 c, f] W fun e w' => e = .returned (.int .i64 (-1)) ∧ w' = W := by
    intro W
    go_enter Tryd.func45, Tryd.ntmps45
    go_wp2_with fail
    go_loopw [8] (fun i wr => i = .int .i64 0 ∧ wr = W) (fun _ wr => 0)
    case atStart => exact ⟨rfl, rfl⟩
    case round =>
      obtain ⟨rfl, rfl⟩ := hrel
      go_wp2
      go_ret
      exact ⟨rfl, rfl⟩
  go_enter Tryd.func27, Tryd.ntmps27
  go_wp2_with fail
  refine (h _).mono ?_
  rintro e w' ⟨rfl, rfl⟩
  go_wp2
  go_ret
  exact ⟨rfl, rfl⟩
/-- What is wrong with macros and a text. -/
def askE (e : Int) (s : ByteArray) : Int := if e = 0 then (if s.size ≤ 65536 then 0 else 2) else e
set_option maxHeartbeats 1000000 in
theorem asked_calls (k : Nat) (A Ai : Option Addr) (c ci : Nat) (M : List Mac) (e0 : Int) (s : ByteArray) (w : World) (hr : kM.C w A M.length M) (hc : M.length ≤ c) (hck : macro_Check.f k M = some e0) :
    Calls Tryd.prog 17 #[.slice A M.length c, .slice Ai 0 ci, .string s] w fun e w' => e = .returned (.int .i64 (askE e0 s)) ∧ Below w.heap.size w w' := by
  have h1 := fun W hW => macro_Check.calls k A c M e0 W (Kd.C_below hr hW) hc hck
  have h2 := fun W => contains_none Ai ci (.func (.func 28) #[] #[]) W
  clear hr hck
  obtain ⟨r, hr'⟩ : ∃ r, askE e0 s = r := ⟨_, rfl⟩
  rw [hr']
  have hr : Hid (askE e0 s = r) := hr'
  clear hr'
  go_enter Tryd.func17, Tryd.ntmps17
  go_wp2_with fail
  refine (h1 _ (Below.refl _ _)).mono ?_
  rintro e w2 ⟨rfl, hb2⟩
  by_cases h0 : e0 = 0
  · subst h0
    by_cases hs : s.size ≤ 65536
    · have d1 : decide ((65536 : Int) < (s.size : Int)) = false := decide_eq_false (by omega)
      have hr2 : r = 0 := by rw [← hr.out]; unfold askE; rw [if_pos rfl, if_pos hs]
      subst hr2
      clear hr hs h1
      go_wp2_with fail
      refine (h2 _).mono ?_
      rintro e w3 ⟨rfl, rfl⟩
      go_wp2
      go_ret
      exact ⟨rfl, hb2⟩
    · have d1 : decide ((65536 : Int) < (s.size : Int)) = true := decide_eq_true (by omega)
      have hr2 : r = 2 := by rw [← hr.out]; unfold askE; rw [if_pos rfl, if_neg hs]
      subst hr2
      clear hr hs h1
      go_wp2_with fail
      refine (h2 _).mono ?_
      rintro e w3 ⟨rfl, rfl⟩
      go_wp2
      go_ret
      exact ⟨rfl, hb2⟩
  · have d1 : (e0 == 0) = false := beq_eq_false_iff_ne.2 h0
    have d2 : (e0 != 0) = true := by simp [h0]
    have hr2 : r = e0 := by rw [← hr.out]; unfold askE; rw [if_neg h0]
    subst hr2
    clear hr h1 h2
    go_wp2
    go_ret
    exact ⟨rfl, hb2⟩
end Go.Proofs.YtadfbbjplgbakaaDoor.Exp
