/- special.byDefault. -/
import Derived.Test.YtkbcfbelpjifnaaSpec14
namespace Go.Proofs.Ytkbcfbelpjifnaa.Spec
open Go Go.RowKit Go.Proofs Go.Proofs.YtkbcfbelpjifnaaW.PrintWords Go.Proofs.Ytkbcfbelpjifnaa.PX Go.Proofs.Ytkbcfbelpjifnaa.Plain
set_option linter.unusedVariables false
set_option linter.unusedSimpArgs false

/-- What a line of .DEFAULT does. -/
def dfltS (x : Rl) (s : Sp) : Int × Sp :=
  if (!x.f3 || decide (0 < x.f1.length) || s.f 9) = true then (80, s) else (0, ⟨up s.r 8 x.f2, up s.f 9 true⟩)
set_option maxHeartbeats 4000000 in
set_option maxRecDepth 100000 in
theorem default_calls (b : Nat) (s : Sp) (V : Nat → Value) (x : Rl) (A1 : Option Addr) (c1 : Nat) (A2 : Option Addr) (c2 : Nat) (w : World) (hS : SpAt w b s V) (r2 : ∀ W, Below b w W → Kd.string.C W A2 x.f2.length x.f2) (h64 : x.f1.length ≤ 64) (h642 : x.f2.length ≤ 64) :
    Calls Try.prog 35 #[.pointer (some ⟨b, 0, none⟩), .agg #[.string x.f0, .slice A1 x.f1.length c1, .slice A2 x.f2.length c2, .bool x.f3]] w fun e w' => e = .returned (.int .i64 (dfltS x s).1) ∧ (∃ V', SpAt w' b (dfltS x s).2 V') ∧ Below b w w' := by
  have hlt := hS.lt
  have hm9 := hS.mark (i := 9) (by decide)
  obtain ⟨c9, f9⟩ := hm9
  cases hx3 : x.f3 with
  | false =>
    have hm : dfltS x s = (80, s) := if_pos (by rw [hx3]; rfl)
    rw [hm]
    by_cases h0 : x.f1.length = 0
    · have d0 : decide (0 < x.f1.length) = false := decide_eq_false (by omega)
      clear h0
      go_enter Try.func35, Try.ntmps35
      go_wp2_with fail
      go_ret
      exact ⟨rfl, ⟨V, hS.below (below_alloc (Below.refl _ _) _)⟩, (below_alloc (Below.refl _ w) _).mono (by omega)⟩
    · have d0 : decide (0 < x.f1.length) = true := decide_eq_true (by omega)
      clear h0
      go_enter Try.func35, Try.ntmps35
      go_wp2_with fail
      go_ret
      exact ⟨rfl, ⟨V, hS.below (below_alloc (Below.refl _ _) _)⟩, (below_alloc (Below.refl _ w) _).mono (by omega)⟩
  | true =>
    by_cases h0 : x.f1.length = 0
    · have d0 : decide (0 < x.f1.length) = false := decide_eq_false (by omega)
      cases h9 : s.f 9 with
      | true =>
        have hm : dfltS x s = (80, s) := if_pos (by rw [h9]; simp)
        rw [hm]
        rw [h9] at c9
        clear h0
        go_enter Try.func35, Try.ntmps35
        go_wp2_with fail
        go_ret
        exact ⟨rfl, ⟨V, hS.below (below_alloc (Below.refl _ _) _)⟩, (below_alloc (Below.refl _ w) _).mono (by omega)⟩
      | false =>
        have hm : dfltS x s = (0, ⟨up s.r 8 x.f2, up s.f 9 true⟩) := if_neg (by rw [h9, hx3, h0]; simp)
        rw [hm]
        rw [h9] at c9
        clear h0
        have hb1 : Below w.heap.size w (w.alloc (.cells #[.string x.f0, .slice A1 x.f1.length c1, .slice A2 x.f2.length c2, .bool true] 30)) := below_alloc (Below.refl _ w) _
        have hcl := clone_str A2 c2 x.f2 (w.alloc (.cells #[.string x.f0, .slice A1 x.f1.length c1, .slice A2 x.f2.length c2, .bool true] 30)) (r2 _ (hb1.mono (Nat.le_of_lt hlt))) (by omega)
        go_enter Try.func35, Try.ntmps35
        go_wp2_with fail
        refine hcl.mono ?_
        rintro e w9 ⟨v9, rfl, hR9, hb9⟩
        have hb3 : Below w.heap.size w w9 := below_t hb1 hb9
        have hS9 := hS.below hb3
        obtain ⟨A9, c9', rfl, _, _⟩ := Kd.R_reads hR9
        obtain ⟨k9, g9⟩ := hS9.mark (i := 9) (by decide)
        have hSa := hS9.flag (i := 9) (by decide) true
        obtain ⟨k8, g8⟩ := hSa.cell (i := 8) (by decide)
        obtain ⟨A8, c8, hV8, _, _⟩ := Kd.R_reads (hSa.rows 8)
        rw [hV8] at k8
        have hN : w.heap.size ≤ (w.alloc (.cells #[.string x.f0, .slice A1 x.f1.length c1, .slice A2 x.f2.length c2, .bool true] 30)).heap.size := hb1.size
        obtain ⟨hv9, hne9⟩ := hS.apart hR9 hN
        have hSb := hSa.put (i := 8) (by decide) (Kd.R_far hv9 (fun k hk => hk) _) (fun j k _ h1 h2 => hne9 j k h1 h2)
        have hba := (hb3.mono (Nat.le_of_lt hlt)).setCell (p := ⟨b, 9, none⟩) (Nat.le_refl _) (.bool true)
        have hbb := hba.setCell (p := ⟨b, 8, none⟩) (Nat.le_refl _) (.slice A9 x.f2.length c9')
        go_wp2_with fail
        go_ret
        exact ⟨rfl, ⟨_, hSb⟩, hbb⟩
    · have d0 : decide (0 < x.f1.length) = true := decide_eq_true (by omega)
      have hm : dfltS x s = (80, s) := if_pos (by simp; omega)
      rw [hm]
      clear h0
      go_enter Try.func35, Try.ntmps35
      go_wp2_with fail
      go_ret
      exact ⟨rfl, ⟨V, hS.below (below_alloc (Below.refl _ _) _)⟩, (below_alloc (Below.refl _ w) _).mono (by omega)⟩
end Go.Proofs.Ytkbcfbelpjifnaa.Spec
