-- Printed by this session's own program (wip/tools/xprint.py) out of the translation. Lean checks it.
import Derived.Test.YtoclolaljaiogaaDoorPXx0
import Derived.Test.YtoclolaljaiogaaDoorPXx1
import Derived.Test.YtoclolaljaiogaaDoorPXx4
import Derived.Test.YtoclolaljaiogaaDoorPXx5
import Derived.Test.YtoclolaljaiogaaDoorPXx9
attribute [-simp] ByteArray.size_extract
namespace Go.Proofs.YtoclolaljaiogaaDoor.PX
open Go.RowKit Go.Proofs.YtoclolaljaiogaaDoorW.PrintWords Go.Proofs.YtoclolaljaiogaaDoorW.PrintLast Go.Proofs.YtoclolaljaiogaaDoorW.PrintMore
attribute [local go_sem] max2_int min2_int max_two min_two max_three min_three max_four min_four   -- for this text's walks alone
set_option linter.unusedVariables false
set_option linter.unusedSimpArgs false

attribute [local go_sem high] eqA37
theorem cell_old {w : World} {p : Addr} {v : Value} (h : w.cell? p = some v) (o : Obj) : (w.alloc o).cell? p = some v := by
  have hlt : p.block < w.heap.size := by
    rcases Nat.lt_or_ge p.block w.heap.size with hl | hl
    · exact hl
    · unfold World.cell? at h
      rw [Array.getElem?_eq_none hl] at h
      cases h
  have := Below.heap_alloc w o p.block hlt
  unfold World.cell? at h ⊢
  rw [this]
  exact h
/-! ### smithylaw04_LinesParts: function 4 -/
mutual
def smithylaw04_LinesParts.j0 : Nat → ByteArray → ByteArray → List ByteArray → Bool → Option (Bool)
  | 0, _, _, _, _ => none
  | k + 1, x0, x1, x5, x38 => if x38 = true then ((smithylaw04_speaks.f k).bind fun t172 => (some t172)) else (if (x5.length : Int) > 0 then (if 0 ≤ (wrap64 ((x5.length : Int) - 1)) then (if (wrap64 ((x5.length : Int) - 1)) < (x5.length : Int) then ((smithyref04_Trim.f k (rdOf ByteArray.empty x5 (wrap64 ((x5.length : Int) - 1)))).bind fun t174 => (if (t174.size : Int) > 0 then (if 0 ≤ (wrap64 ((t174.size : Int) - 1)) then (if (wrap64 ((t174.size : Int) - 1)) < (t174.size : Int) then (if (bt t174 (wrap64 ((t174.size : Int) - 1))) = 92 then ((smithylaw04_speaks.f k).bind fun t175 => (some t175)) else (smithylaw04_LinesParts.j1 k x0 x1 x5)) else (none)) else (none)) else (smithylaw04_LinesParts.j1 k x0 x1 x5))) else (none)) else (none)) else (smithylaw04_LinesParts.j1 k x0 x1 x5))
def smithylaw04_LinesParts.j1 : Nat → ByteArray → ByteArray → List ByteArray → Option (Bool)
  | 0, _, _, _ => none
  | k + 1, x0, x1, x5 => (lines_Split.f k (⟨#[109]⟩ : ByteArray) x0).bind fun bt176 => ((lines_Split.f k (⟨#[109]⟩ : ByteArray) x1).bind fun bt181 => (if x0.size + x1.size ≤ 9223372036854775807 then ((lines_Split.f k (⟨#[109]⟩ : ByteArray) (x0 ++ x1)).bind fun bt186 => (if bt176.2.1 = 0 then (smithylaw04_LinesParts.j2 k x5 bt176.1 bt181.1 bt186.1 bt186.2.1 (bt181.2.1 != 0)) else (smithylaw04_LinesParts.j2 k x5 bt176.1 bt181.1 bt186.1 bt186.2.1 true))) else (none)))
def smithylaw04_LinesParts.j2 : Nat → List ByteArray → List (S37) → List (S37) → List (S37) → Int → Bool → Option (Bool)
  | 0, _, _, _, _, _, _ => none
  | k + 1, x5, x7, x10, x13, x14, x90 => if x90 = true then (if x14 = 0 then (some false) else (if (x13.length : Int) = 0 then ((smithylaw04_speaks.f k).bind fun t191 => (some t191)) else (some false))) else (if x14 = 0 then (smithylaw04_LinesParts.j3 k x5 x7 x10 x13 ((x13.length : Int) != (wrap64 ((x7.length : Int) + (x10.length : Int))))) else (smithylaw04_LinesParts.j3 k x5 x7 x10 x13 true))
def smithylaw04_LinesParts.j3 : Nat → List ByteArray → List (S37) → List (S37) → List (S37) → Bool → Option (Bool)
  | 0, _, _, _, _, _ => none
  | k + 1, x5, x7, x10, x13, x112 => if x112 = true then (some false) else (smithylaw04_LinesParts.l0 k x5 x7 x10 x13 0)
def smithylaw04_LinesParts.l0 : Nat → List ByteArray → List (S37) → List (S37) → List (S37) → Int → Option (Bool)
  | 0, _, _, _, _, _ => none
  | k + 1, x5, x7, x10, x13, x16 => if x16 < (x13.length : Int) then (if x16 < (x7.length : Int) then (if 0 ≤ x16 then (if (!((((rd_T37 x13 x16).f0).toList) == (((rd_T37 x7 x16).f0).toList)) || (!(((rd_T37 x13 x16).f1) == ((rd_T37 x7 x16).f1)) || (!(((rd_T37 x13 x16).f2) == ((rd_T37 x7 x16).f2)) || (!((((rd_T37 x13 x16).f3).toList) == (((rd_T37 x7 x16).f3).toList)))))) = true then (some false) else (smithylaw04_LinesParts.l0 k x5 x7 x10 x13 (wrap64 (x16 + 1)))) else (none)) else (if 0 ≤ (wrap64 (x16 - (x7.length : Int))) then (if (wrap64 (x16 - (x7.length : Int))) < (x10.length : Int) then (if 0 ≤ x16 then (if (!((((rd_T37 x13 x16).f0).toList) == (((rd_T37 x10 (wrap64 (x16 - (x7.length : Int)))).f0).toList)) || (!(((rd_T37 x13 x16).f1) == (wrap64 (((rd_T37 x10 (wrap64 (x16 - (x7.length : Int)))).f1) + (x5.length : Int)))) || (!(((rd_T37 x13 x16).f2) == ((rd_T37 x10 (wrap64 (x16 - (x7.length : Int)))).f2)) || (!((((rd_T37 x13 x16).f3).toList) == (((rd_T37 x10 (wrap64 (x16 - (x7.length : Int)))).f3).toList)))))) = true then (some false) else (smithylaw04_LinesParts.l0 k x5 x7 x10 x13 (wrap64 (x16 + 1)))) else (none)) else (none)) else (none))) else ((smithylaw04_speaks.f k).bind fun t192 => (some t192))
end
def smithylaw04_LinesParts.f (k : Nat) (a0 : ByteArray) (a1 : ByteArray) : Option (Bool) := (smithyref04_Physical.f k a0).bind fun t169 => (if (a0.size : Int) > 0 then (if 0 ≤ (wrap64 ((a0.size : Int) - 1)) then (if (wrap64 ((a0.size : Int) - 1)) < (a0.size : Int) then (if (bt a0 (wrap64 ((a0.size : Int) - 1))) = 10 then (smithylaw04_LinesParts.j0 k a0 a1 t169 (decide ((wrap64 ((a0.size : Int) + (a1.size : Int))) > 65536))) else (smithylaw04_LinesParts.j0 k a0 a1 t169 true)) else (none)) else (none)) else (smithylaw04_LinesParts.j0 k a0 a1 t169 (decide ((wrap64 ((a0.size : Int) + (a1.size : Int))) > 65536))))
theorem smithylaw04_LinesParts.mono_l : ∀ k, (∀ y0 y1 y2 y3, LeO (smithylaw04_LinesParts.j0 k y0 y1 y2 y3) (smithylaw04_LinesParts.j0 (k + 1) y0 y1 y2 y3)) ∧ (∀ y0 y1 y2, LeO (smithylaw04_LinesParts.j1 k y0 y1 y2) (smithylaw04_LinesParts.j1 (k + 1) y0 y1 y2)) ∧ (∀ y0 y1 y2 y3 y4 y5, LeO (smithylaw04_LinesParts.j2 k y0 y1 y2 y3 y4 y5) (smithylaw04_LinesParts.j2 (k + 1) y0 y1 y2 y3 y4 y5)) ∧ (∀ y0 y1 y2 y3 y4, LeO (smithylaw04_LinesParts.j3 k y0 y1 y2 y3 y4) (smithylaw04_LinesParts.j3 (k + 1) y0 y1 y2 y3 y4)) ∧ (∀ y0 y1 y2 y3 y4, LeO (smithylaw04_LinesParts.l0 k y0 y1 y2 y3 y4) (smithylaw04_LinesParts.l0 (k + 1) y0 y1 y2 y3 y4))
  | 0 => ⟨fun _ _ _ _ r h => by simp [smithylaw04_LinesParts.j0] at h, fun _ _ _ r h => by simp [smithylaw04_LinesParts.j1] at h, fun _ _ _ _ _ _ r h => by simp [smithylaw04_LinesParts.j2] at h, fun _ _ _ _ _ r h => by simp [smithylaw04_LinesParts.j3] at h, fun _ _ _ _ _ r h => by simp [smithylaw04_LinesParts.l0] at h⟩
  | k + 1 => by
    obtain ⟨ih0, ih1, ih2, ih3, ih4⟩ := smithylaw04_LinesParts.mono_l k
    refine ⟨?_, ?_, ?_, ?_, ?_⟩
    · intro y0 y1 y2 y3
      unfold smithylaw04_LinesParts.j0
      repeat' first
      | (with_reducible exact ih0 _ _ _ _)
      | (with_reducible exact ih1 _ _ _)
      | (with_reducible exact ih2 _ _ _ _ _ _)
      | (with_reducible exact ih3 _ _ _ _ _)
      | (with_reducible exact ih4 _ _ _ _ _)
      | (with_reducible exact lines_Split.mono _ _ _)
      | (with_reducible exact smithylaw04_speaks.mono _)
      | (with_reducible exact smithyref04_Physical.mono _ _)
      | (with_reducible exact smithyref04_Trim.mono _ _)
      | (with_reducible exact LeO.refl _)
      | (with_reducible exact LeO.none _)
      | (with_reducible refine LeO.ite ?_ ?_)
      | (with_reducible refine LeO.bind ?_ (fun _ => ?_))
      | exact ih0 _ _ _ _
      | exact ih1 _ _ _
      | exact ih2 _ _ _ _ _ _
      | exact ih3 _ _ _ _ _
      | exact ih4 _ _ _ _ _
      | exact lines_Split.mono _ _ _
      | exact smithylaw04_speaks.mono _
      | exact smithyref04_Physical.mono _ _
      | exact smithyref04_Trim.mono _ _
      | exact LeO.none _
      | refine LeO.ite ?_ ?_
      | refine LeO.bind ?_ (fun _ => ?_)
    · intro y0 y1 y2
      unfold smithylaw04_LinesParts.j1
      repeat' first
      | (with_reducible exact ih0 _ _ _ _)
      | (with_reducible exact ih1 _ _ _)
      | (with_reducible exact ih2 _ _ _ _ _ _)
      | (with_reducible exact ih3 _ _ _ _ _)
      | (with_reducible exact ih4 _ _ _ _ _)
      | (with_reducible exact lines_Split.mono _ _ _)
      | (with_reducible exact smithylaw04_speaks.mono _)
      | (with_reducible exact smithyref04_Physical.mono _ _)
      | (with_reducible exact smithyref04_Trim.mono _ _)
      | (with_reducible exact LeO.refl _)
      | (with_reducible exact LeO.none _)
      | (with_reducible refine LeO.ite ?_ ?_)
      | (with_reducible refine LeO.bind ?_ (fun _ => ?_))
      | exact ih0 _ _ _ _
      | exact ih1 _ _ _
      | exact ih2 _ _ _ _ _ _
      | exact ih3 _ _ _ _ _
      | exact ih4 _ _ _ _ _
      | exact lines_Split.mono _ _ _
      | exact smithylaw04_speaks.mono _
      | exact smithyref04_Physical.mono _ _
      | exact smithyref04_Trim.mono _ _
      | exact LeO.none _
      | refine LeO.ite ?_ ?_
      | refine LeO.bind ?_ (fun _ => ?_)
    · intro y0 y1 y2 y3 y4 y5
      unfold smithylaw04_LinesParts.j2
      repeat' first
      | (with_reducible exact ih0 _ _ _ _)
      | (with_reducible exact ih1 _ _ _)
      | (with_reducible exact ih2 _ _ _ _ _ _)
      | (with_reducible exact ih3 _ _ _ _ _)
      | (with_reducible exact ih4 _ _ _ _ _)
      | (with_reducible exact lines_Split.mono _ _ _)
      | (with_reducible exact smithylaw04_speaks.mono _)
      | (with_reducible exact smithyref04_Physical.mono _ _)
      | (with_reducible exact smithyref04_Trim.mono _ _)
      | (with_reducible exact LeO.refl _)
      | (with_reducible exact LeO.none _)
      | (with_reducible refine LeO.ite ?_ ?_)
      | (with_reducible refine LeO.bind ?_ (fun _ => ?_))
      | exact ih0 _ _ _ _
      | exact ih1 _ _ _
      | exact ih2 _ _ _ _ _ _
      | exact ih3 _ _ _ _ _
      | exact ih4 _ _ _ _ _
      | exact lines_Split.mono _ _ _
      | exact smithylaw04_speaks.mono _
      | exact smithyref04_Physical.mono _ _
      | exact smithyref04_Trim.mono _ _
      | exact LeO.none _
      | refine LeO.ite ?_ ?_
      | refine LeO.bind ?_ (fun _ => ?_)
    · intro y0 y1 y2 y3 y4
      unfold smithylaw04_LinesParts.j3
      repeat' first
      | (with_reducible exact ih0 _ _ _ _)
      | (with_reducible exact ih1 _ _ _)
      | (with_reducible exact ih2 _ _ _ _ _ _)
      | (with_reducible exact ih3 _ _ _ _ _)
      | (with_reducible exact ih4 _ _ _ _ _)
      | (with_reducible exact lines_Split.mono _ _ _)
      | (with_reducible exact smithylaw04_speaks.mono _)
      | (with_reducible exact smithyref04_Physical.mono _ _)
      | (with_reducible exact smithyref04_Trim.mono _ _)
      | (with_reducible exact LeO.refl _)
      | (with_reducible exact LeO.none _)
      | (with_reducible refine LeO.ite ?_ ?_)
      | (with_reducible refine LeO.bind ?_ (fun _ => ?_))
      | exact ih0 _ _ _ _
      | exact ih1 _ _ _
      | exact ih2 _ _ _ _ _ _
      | exact ih3 _ _ _ _ _
      | exact ih4 _ _ _ _ _
      | exact lines_Split.mono _ _ _
      | exact smithylaw04_speaks.mono _
      | exact smithyref04_Physical.mono _ _
      | exact smithyref04_Trim.mono _ _
      | exact LeO.none _
      | refine LeO.ite ?_ ?_
      | refine LeO.bind ?_ (fun _ => ?_)
    · intro y0 y1 y2 y3 y4
      unfold smithylaw04_LinesParts.l0
      repeat' first
      | (with_reducible exact ih0 _ _ _ _)
      | (with_reducible exact ih1 _ _ _)
      | (with_reducible exact ih2 _ _ _ _ _ _)
      | (with_reducible exact ih3 _ _ _ _ _)
      | (with_reducible exact ih4 _ _ _ _ _)
      | (with_reducible exact lines_Split.mono _ _ _)
      | (with_reducible exact smithylaw04_speaks.mono _)
      | (with_reducible exact smithyref04_Physical.mono _ _)
      | (with_reducible exact smithyref04_Trim.mono _ _)
      | (with_reducible exact LeO.refl _)
      | (with_reducible exact LeO.none _)
      | (with_reducible refine LeO.ite ?_ ?_)
      | (with_reducible refine LeO.bind ?_ (fun _ => ?_))
      | exact ih0 _ _ _ _
      | exact ih1 _ _ _
      | exact ih2 _ _ _ _ _ _
      | exact ih3 _ _ _ _ _
      | exact ih4 _ _ _ _ _
      | exact lines_Split.mono _ _ _
      | exact smithylaw04_speaks.mono _
      | exact smithyref04_Physical.mono _ _
      | exact smithyref04_Trim.mono _ _
      | exact LeO.none _
      | refine LeO.ite ?_ ?_
      | refine LeO.bind ?_ (fun _ => ?_)
theorem smithylaw04_LinesParts.mono : ∀ a0 a1 k, LeO (smithylaw04_LinesParts.f k a0 a1) (smithylaw04_LinesParts.f (k + 1) a0 a1) := by
  intro a0 a1 k
  obtain ⟨ih0, ih1, ih2, ih3, ih4⟩ := smithylaw04_LinesParts.mono_l k
  unfold smithylaw04_LinesParts.f
  repeat' first
      | (with_reducible exact ih0 _ _ _ _)
      | (with_reducible exact ih1 _ _ _)
      | (with_reducible exact ih2 _ _ _ _ _ _)
      | (with_reducible exact ih3 _ _ _ _ _)
      | (with_reducible exact ih4 _ _ _ _ _)
      | (with_reducible exact lines_Split.mono _ _ _)
      | (with_reducible exact smithylaw04_speaks.mono _)
      | (with_reducible exact smithyref04_Physical.mono _ _)
      | (with_reducible exact smithyref04_Trim.mono _ _)
      | (with_reducible exact LeO.refl _)
      | (with_reducible exact LeO.none _)
      | (with_reducible refine LeO.ite ?_ ?_)
      | (with_reducible refine LeO.bind ?_ (fun _ => ?_))
      | exact ih0 _ _ _ _
      | exact ih1 _ _ _
      | exact ih2 _ _ _ _ _ _
      | exact ih3 _ _ _ _ _
      | exact ih4 _ _ _ _ _
      | exact lines_Split.mono _ _ _
      | exact smithylaw04_speaks.mono _
      | exact smithyref04_Physical.mono _ _
      | exact smithyref04_Trim.mono _ _
      | exact LeO.none _
      | refine LeO.ite ?_ ?_
      | refine LeO.bind ?_ (fun _ => ?_)
set_option maxHeartbeats 8000000 in
set_option maxRecDepth 100000 in
theorem smithylaw04_LinesParts.calls (k : Nat) (a0 : ByteArray) (a1 : ByteArray) (r : Bool) (w : World) (h : smithylaw04_LinesParts.f k a0 a1 = some r) :
    Calls Tryd.prog 4 #[.string a0, .string a1] w fun e w' => e = .returned (.bool r) ∧ Below w.heap.size w w' := by
  have hu23 := Tryd.underlying23
  have hu37 := Tryd.underlying37
  have HB := Aside0.mk (Below.refl w.heap.size w)
  have H : ((smithyref04_Physical.f k a0).bind fun t169 => (if (a0.size : Int) > 0 then (if 0 ≤ (wrap64 ((a0.size : Int) - 1)) then (if (wrap64 ((a0.size : Int) - 1)) < (a0.size : Int) then (if (bt a0 (wrap64 ((a0.size : Int) - 1))) = 10 then (smithylaw04_LinesParts.j0 k a0 a1 t169 (decide ((wrap64 ((a0.size : Int) + (a1.size : Int))) > 65536))) else (smithylaw04_LinesParts.j0 k a0 a1 t169 true)) else (none)) else (none)) else (smithylaw04_LinesParts.j0 k a0 a1 t169 (decide ((wrap64 ((a0.size : Int) + (a1.size : Int))) > 65536))))) = some r := h
  clear h
  replace H := Option.bind_eq_some_iff.mp H
  obtain ⟨t169, A30, H⟩ := H
  replace H : (if (a0.size : Int) > 0 then (if 0 ≤ (wrap64 ((a0.size : Int) - 1)) then (if (wrap64 ((a0.size : Int) - 1)) < (a0.size : Int) then (if (bt a0 (wrap64 ((a0.size : Int) - 1))) = 10 then (smithylaw04_LinesParts.j0 k a0 a1 t169 (decide ((wrap64 ((a0.size : Int) + (a1.size : Int))) > 65536))) else (smithylaw04_LinesParts.j0 k a0 a1 t169 true)) else (none)) else (none)) else (smithylaw04_LinesParts.j0 k a0 a1 t169 (decide ((wrap64 ((a0.size : Int) + (a1.size : Int))) > 65536)))) = some r := H
  have A3 := Aside0.mk A30
  clear A30
  have HC4 := Aside0.mk H
  clear H
  go_enter Tryd.func4, Tryd.ntmps4
  go_upto_region 2 with (first | (go_at_call 12; (with_reducible refine (smithyref04_Physical.calls k a0 t169 _ A3.out).mono ?_); rintro e w5 ⟨v170, rfl, ho0, hb⟩; have n0_ := Aside0.mk (Kd.R_lower ho0 (below_size (by (repeat (first | (with_reducible first | exact HB.out | apply below_alloc | apply pw_below_drewN | apply below_drew1) | exact HB.out))))); have n1_ := Aside0.mk (below_step (by (repeat (first | (with_reducible first | exact HB.out | apply below_alloc | apply pw_below_drewN | apply below_drew1) | exact HB.out))) hb); clear HB; have HO171 := n0_; have HB := n1_; clear n0_ n1_; (try clear hb); (try clear hb2); (try clear hk); (try clear hi); (try clear ho0)))
  repeat (go_quiet (first | (go_at_call 12; (with_reducible refine (smithyref04_Physical.calls k a0 t169 _ A3.out).mono ?_); rintro e w5 ⟨v170, rfl, ho0, hb⟩; have n0_ := Aside0.mk (Kd.R_lower ho0 (below_size (by (repeat (first | (with_reducible first | exact HB.out | apply below_alloc | apply pw_below_drewN | apply below_drew1) | exact HB.out))))); have n1_ := Aside0.mk (below_step (by (repeat (first | (with_reducible first | exact HB.out | apply below_alloc | apply pw_below_drewN | apply below_drew1) | exact HB.out))) hb); clear HB; have HO171 := n0_; have HB := n1_; clear n0_ n1_; (try clear hb); (try clear hb2); (try clear hk); (try clear hi); (try clear ho0))); go_upto_region 2 with (first | (go_at_call 12; (with_reducible refine (smithyref04_Physical.calls k a0 t169 _ A3.out).mono ?_); rintro e w5 ⟨v170, rfl, ho0, hb⟩; have n0_ := Aside0.mk (Kd.R_lower ho0 (below_size (by (repeat (first | (with_reducible first | exact HB.out | apply below_alloc | apply pw_below_drewN | apply below_drew1) | exact HB.out))))); have n1_ := Aside0.mk (below_step (by (repeat (first | (with_reducible first | exact HB.out | apply below_alloc | apply pw_below_drewN | apply below_drew1) | exact HB.out))) hb); clear HB; have HO171 := n0_; have HB := n1_; clear n0_ n1_; (try clear hb); (try clear hb2); (try clear hk); (try clear hi); (try clear ho0))))
  (try simp only [Act.put, List.setIfInBounds_toArray, List.set_cons_zero, List.set_cons_succ])
  go_cut [38] (fun v38 wc => ∃ (kq : Nat) (x38_3 : Bool), v38 = .bool x38_3 ∧ Aside0 (smithylaw04_LinesParts.j0 kq a0 a1 t169 x38_3 = some r) ∧ Aside0 (kq ≤ k) ∧ Aside0 (Kd.R Kd.string 9 wc w.heap.size (fun _ => True) v170 t169) ∧ Aside0 (Below w.heap.size w wc))
  case first =>
    have H := HC4.out
    clear HC4
    by_cases c6 : (a0.size : Int) > 0
    · rw [if_pos c6] at H
      have c6b0 : decide (0 < (a0.size : Int)) = true := decide_eq_true c6
      have c6b1 : decide (0 < a0.size) = true := decide_eq_true (by omega)
      clear c6
      (first | rw [c6b0] | (simp only [i64_w, i32_w]; rw [c6b0]) | skip)
      obtain ⟨ji7, hji7⟩ : ∃ j_ : Int, (wrap64 ((a0.size : Int) - 1)) = j_ := ⟨_, rfl⟩
      replace H : (if 0 ≤ (ji7) then (if (ji7) < (a0.size : Int) then (if (bt a0 (ji7)) = 10 then (smithylaw04_LinesParts.j0 k a0 a1 t169 (decide ((wrap64 ((a0.size : Int) + (a1.size : Int))) > 65536))) else (smithylaw04_LinesParts.j0 k a0 a1 t169 true)) else (none)) else (none)) = some r := by first | (rw [hji7] at H; exact H) | (simp only [hji7] at H ⊢; exact H)
      have hji7w : (IntKind.i64.wrap ((a0.size : Int) - 1)) = ji7 := (i64_w _).trans hji7
      by_cases c8 : 0 ≤ (ji7)
      · rw [if_pos c8] at H
        have c8b0 : decide (0 ≤ (ji7)) = true := decide_eq_true c8
        clear c8
        by_cases c9 : (ji7) < (a0.size : Int)
        · rw [if_pos c9] at H
          have c9b0 : decide ((ji7) < (a0.size : Int)) = true := decide_eq_true c9
          clear c9
          by_cases c11 : (bt a0 (ji7)) = 10
          · rw [if_pos c11] at H
            have c11b0 : ((bt a0 (ji7)) == 10) = true := beq_iff_eq.mpr c11
            have c11b1 : ((bt a0 (ji7)) != 10) = false := bne_eq_false_iff_eq.mpr c11
            clear c11
            have H' := Aside0.mk H
            clear H
            have p10 : 0 ≤ ((ji7) : Int) := of_decide_eq_true (by first | (with_reducible assumption) | assumption)
            have q10 : (ji7) < (a0.size : Int) := of_decide_eq_true (by first | (with_reducible assumption) | assumption)
            have hx10 := bt_at a0 (ji7)
            replace p10 := eq_true p10
            replace q10 := eq_true q10
            go_wp2
            repeat (go_quiet (fail); try go_wp2)
            go_meet
            case rel => exact ⟨_, (decide ((wrap64 ((a0.size : Int) + (a1.size : Int))) > 65536)), (by first | rfl | (simp; done) | (simp [*]; done)), (by first | exact H' | (subst_vars; exact H')), ⟨by first | omega | exact Nat.le_refl _⟩, ⟨by ((with_reducible repeat (first | apply Kd.R_alloc | apply Kd.R_drewN | apply Kd.R_drew))); exact HO171.out⟩, ⟨by (repeat (first | (with_reducible first | exact HB.out | apply below_alloc | apply pw_below_drewN | apply below_drew1) | exact HB.out))⟩⟩
          · rw [if_neg c11] at H
            have c11b0 : ((bt a0 (ji7)) == 10) = false := beq_eq_false_iff_ne.mpr c11
            have c11b1 : ((bt a0 (ji7)) != 10) = true := bne_iff_ne.mpr c11
            have H' := Aside0.mk H
            clear H
            have p10 : 0 ≤ ((ji7) : Int) := of_decide_eq_true (by first | (with_reducible assumption) | assumption)
            have q10 : (ji7) < (a0.size : Int) := of_decide_eq_true (by first | (with_reducible assumption) | assumption)
            have hx10 := bt_at a0 (ji7)
            replace p10 := eq_true p10
            replace q10 := eq_true q10
            go_wp2
            repeat (go_quiet (fail); try go_wp2)
            go_meet
            case rel => exact ⟨_, (true), (by first | rfl | (simp; done) | (simp [*]; done)), (by first | exact H' | (subst_vars; exact H')), ⟨by first | omega | exact Nat.le_refl _⟩, ⟨by ((with_reducible repeat (first | apply Kd.R_alloc | apply Kd.R_drewN | apply Kd.R_drew))); exact HO171.out⟩, ⟨by (repeat (first | (with_reducible first | exact HB.out | apply below_alloc | apply pw_below_drewN | apply below_drew1) | exact HB.out))⟩⟩
        · rw [if_neg c9] at H
          exact absurd H (by simp)
      · rw [if_neg c8] at H
        exact absurd H (by simp)
    · rw [if_neg c6] at H
      have c6b0 : decide (0 < (a0.size : Int)) = false := decide_eq_false c6
      have c6b1 : decide (0 < a0.size) = false := decide_eq_false (by omega)
      clear c6
      (first | rw [c6b0] | (simp only [i64_w, i32_w]; rw [c6b0]) | skip)
      have H' := Aside0.mk H
      clear H
      go_wp2
      repeat (go_quiet (fail); try go_wp2)
      go_meet
      case rel => exact ⟨_, (decide ((wrap64 ((a0.size : Int) + (a1.size : Int))) > 65536)), (by first | rfl | (simp; done) | (simp [*]; done)), (by first | exact H' | (subst_vars; exact H')), ⟨by first | omega | exact Nat.le_refl _⟩, ⟨by ((with_reducible repeat (first | apply Kd.R_alloc | apply Kd.R_drewN | apply Kd.R_drew))); exact HO171.out⟩, ⟨by (repeat (first | (with_reducible first | exact HB.out | apply below_alloc | apply pw_below_drewN | apply below_drew1) | exact HB.out))⟩⟩
  case rest =>
    clear HC4
    try clear c1
    try clear p1
    try clear q1
    try clear hx1
    try clear p2
    try clear c4
    try clear c6
    try clear c6b0
    try clear c6b1
    try clear p6
    try clear c8
    try clear c8b0
    try clear c9
    try clear c9b0
    try clear p10
    try clear q10
    try clear hx10
    try clear c11
    try clear c11b0
    try clear c11b1
    try clear p10
    try clear q10
    obtain ⟨kq, x38_3, rfl, HA, HJ3, HO_5, HB⟩ := hcut
    cases kq with
    | zero => exact absurd HA.out (by simp [smithylaw04_LinesParts.j0])
    | succ kj3 =>
      have H := HA.out
      clear HA
      simp only [smithylaw04_LinesParts.j0] at H
      by_cases c12 : x38_3 = true
      · subst c12
        have H1 : ((smithylaw04_speaks.f kj3).bind fun t172 => (some t172)) = some r := by rw [if_pos rfl] at H; exact H
        clear H
        have H := H1
        clear H1
        replace H := Option.bind_eq_some_iff.mp H
        obtain ⟨t172, A130, H⟩ := H
        replace H : (some t172) = some r := H
        have A13 := Aside0.mk A130
        clear A130
        obtain rfl := Option.some.inj H
        go_wp2_with (first | (go_at_call 11; (with_reducible refine (smithylaw04_speaks.calls kj3  t172 _ A13.out).mono ?_); rintro e w14 ⟨rfl, hb⟩; have n0_ := Aside0.mk (Kd.R_below (by ((with_reducible repeat (first | apply Kd.R_alloc | apply Kd.R_drewN | apply Kd.R_drew))); exact HO_5.out) hb); have n1_ := Aside0.mk (below_step (by (repeat (first | (with_reducible first | exact HB.out | apply below_alloc | apply pw_below_drewN | apply below_drew1) | exact HB.out))) hb); clear HO_5; clear HB; have HO_5 := n0_; have HB := n1_; clear n0_ n1_; (try clear hb); (try clear hb2); (try clear hk); (try clear hi)))
        repeat (go_quiet (first | (go_at_call 11; (with_reducible refine (smithylaw04_speaks.calls kj3  t172 _ A13.out).mono ?_); rintro e w14 ⟨rfl, hb⟩; have n0_ := Aside0.mk (Kd.R_below (by ((with_reducible repeat (first | apply Kd.R_alloc | apply Kd.R_drewN | apply Kd.R_drew))); exact HO_5.out) hb); have n1_ := Aside0.mk (below_step (by (repeat (first | (with_reducible first | exact HB.out | apply below_alloc | apply pw_below_drewN | apply below_drew1) | exact HB.out))) hb); clear HO_5; clear HB; have HO_5 := n0_; have HB := n1_; clear n0_ n1_; (try clear hb); (try clear hb2); (try clear hk); (try clear hi))); try go_wp2_with (first | (go_at_call 11; (with_reducible refine (smithylaw04_speaks.calls kj3  t172 _ A13.out).mono ?_); rintro e w14 ⟨rfl, hb⟩; have n0_ := Aside0.mk (Kd.R_below (by ((with_reducible repeat (first | apply Kd.R_alloc | apply Kd.R_drewN | apply Kd.R_drew))); exact HO_5.out) hb); have n1_ := Aside0.mk (below_step (by (repeat (first | (with_reducible first | exact HB.out | apply below_alloc | apply pw_below_drewN | apply below_drew1) | exact HB.out))) hb); clear HO_5; clear HB; have HO_5 := n0_; have HB := n1_; clear n0_ n1_; (try clear hb); (try clear hb2); (try clear hk); (try clear hi))))
        go_ret
        exact ⟨by (first | rfl | (simp [errW_none, errW_some] <;> rfl) | (simp [*, errW_none, errW_some] <;> rfl)), by (repeat (first | (with_reducible first | exact HB.out | apply below_alloc | apply pw_below_drewN | apply below_drew1) | exact HB.out))⟩
      · replace c12 := Bool.eq_false_iff.mpr c12
        subst c12
        have H1 : (if (t169.length : Int) > 0 then (if 0 ≤ (wrap64 ((t169.length : Int) - 1)) then (if (wrap64 ((t169.length : Int) - 1)) < (t169.length : Int) then ((smithyref04_Trim.f kj3 (rdOf ByteArray.empty t169 (wrap64 ((t169.length : Int) - 1)))).bind fun t174 => (if (t174.size : Int) > 0 then (if 0 ≤ (wrap64 ((t174.size : Int) - 1)) then (if (wrap64 ((t174.size : Int) - 1)) < (t174.size : Int) then (if (bt t174 (wrap64 ((t174.size : Int) - 1))) = 92 then ((smithylaw04_speaks.f kj3).bind fun t175 => (some t175)) else (smithylaw04_LinesParts.j1 kj3 a0 a1 t169)) else (none)) else (none)) else (smithylaw04_LinesParts.j1 kj3 a0 a1 t169))) else (none)) else (none)) else (smithylaw04_LinesParts.j1 kj3 a0 a1 t169)) = some r := by rw [if_neg (show ¬ (false = true) by decide)] at H; exact H
        clear H
        have H := H1
        clear H1
        have HC15 := Aside0.mk H
        clear H
        obtain ⟨Ao16, co16, eo16⟩ := Kd.R_slice HO_5.out
        subst eo16
        go_upto_if 42 with (fail)
        repeat (go_quiet (fail); go_upto_if 42 with (fail))
        go_cut [] (fun wc => ∃ (kq : Nat), Aside0 (smithylaw04_LinesParts.j1 kq a0 a1 t169 = some r) ∧ Aside0 (kq ≤ kj3) ∧ Aside0 (Kd.R Kd.string 9 wc w.heap.size (fun _ => True) (.slice Ao16 t169.length co16) t169) ∧ Aside0 (Below w.heap.size w wc))
        case first =>
          have H := HC15.out
          clear HC15
          by_cases c17 : (t169.length : Int) > 0
          · rw [if_pos c17] at H
            have c17b0 : decide (0 < (t169.length : Int)) = true := decide_eq_true c17
            have c17b1 : decide (0 < t169.length) = true := decide_eq_true (by omega)
            clear c17
            (first | rw [c17b0] | (simp only [i64_w, i32_w]; rw [c17b0]) | rw [c17b1] | skip)
            obtain ⟨ji18, hji18⟩ : ∃ j_ : Int, (wrap64 ((t169.length : Int) - 1)) = j_ := ⟨_, rfl⟩
            replace H : (if 0 ≤ (ji18) then (if (ji18) < (t169.length : Int) then ((smithyref04_Trim.f kj3 (rdOf ByteArray.empty t169 (ji18))).bind fun t174 => (if (t174.size : Int) > 0 then (if 0 ≤ (wrap64 ((t174.size : Int) - 1)) then (if (wrap64 ((t174.size : Int) - 1)) < (t174.size : Int) then (if (bt t174 (wrap64 ((t174.size : Int) - 1))) = 92 then ((smithylaw04_speaks.f kj3).bind fun t175 => (some t175)) else (smithylaw04_LinesParts.j1 kj3 a0 a1 t169)) else (none)) else (none)) else (smithylaw04_LinesParts.j1 kj3 a0 a1 t169))) else (none)) else (none)) = some r := by first | (rw [hji18] at H; exact H) | (simp only [hji18] at H ⊢; exact H)
            have hji18w : (IntKind.i64.wrap ((t169.length : Int) - 1)) = ji18 := (i64_w _).trans hji18
            by_cases c19 : 0 ≤ (ji18)
            · rw [if_pos c19] at H
              have c19b0 : decide (0 ≤ (ji18)) = true := decide_eq_true c19
              clear c19
              by_cases c20 : (ji18) < (t169.length : Int)
              · rw [if_pos c20] at H
                have c20b0 : decide ((ji18) < (t169.length : Int)) = true := decide_eq_true c20
                clear c20
                replace H := Option.bind_eq_some_iff.mp H
                obtain ⟨t174, A210, H⟩ := H
                replace H : (if (t174.size : Int) > 0 then (if 0 ≤ (wrap64 ((t174.size : Int) - 1)) then (if (wrap64 ((t174.size : Int) - 1)) < (t174.size : Int) then (if (bt t174 (wrap64 ((t174.size : Int) - 1))) = 92 then ((smithylaw04_speaks.f kj3).bind fun t175 => (some t175)) else (smithylaw04_LinesParts.j1 kj3 a0 a1 t169)) else (none)) else (none)) else (smithylaw04_LinesParts.j1 kj3 a0 a1 t169)) = some r := H
                have A21 := Aside0.mk A210
                clear A210
                by_cases c22 : (t174.size : Int) > 0
                · rw [if_pos c22] at H
                  have c22b0 : decide (0 < (t174.size : Int)) = true := decide_eq_true c22
                  have c22b1 : decide (0 < t174.size) = true := decide_eq_true (by omega)
                  clear c22
                  obtain ⟨ji23, hji23⟩ : ∃ j_ : Int, (wrap64 ((t174.size : Int) - 1)) = j_ := ⟨_, rfl⟩
                  replace H : (if 0 ≤ (ji23) then (if (ji23) < (t174.size : Int) then (if (bt t174 (ji23)) = 92 then ((smithylaw04_speaks.f kj3).bind fun t175 => (some t175)) else (smithylaw04_LinesParts.j1 kj3 a0 a1 t169)) else (none)) else (none)) = some r := by first | (rw [hji23] at H; exact H) | (simp only [hji23] at H ⊢; exact H)
                  (try rw [hji23] at A21)
                  have hji23w : (IntKind.i64.wrap ((t174.size : Int) - 1)) = ji23 := (i64_w _).trans hji23
                  by_cases c24 : 0 ≤ (ji23)
                  · rw [if_pos c24] at H
                    have c24b0 : decide (0 ≤ (ji23)) = true := decide_eq_true c24
                    clear c24
                    by_cases c25 : (ji23) < (t174.size : Int)
                    · rw [if_pos c25] at H
                      have c25b0 : decide ((ji23) < (t174.size : Int)) = true := decide_eq_true c25
                      clear c25
                      by_cases c27 : (bt t174 (ji23)) = 92
                      · rw [if_pos c27] at H
                        have c27b0 : ((bt t174 (ji23)) == 92) = true := beq_iff_eq.mpr c27
                        have c27b1 : ((bt t174 (ji23)) != 92) = false := bne_eq_false_iff_eq.mpr c27
                        clear c27
                        replace H := Option.bind_eq_some_iff.mp H
                        obtain ⟨t175, A280, H⟩ := H
                        replace H : (some t175) = some r := H
                        have A28 := Aside0.mk A280
                        clear A280
                        obtain rfl := Option.some.inj H
                        have p173 : 0 ≤ ((ji18) : Int) := of_decide_eq_true (by first | (with_reducible assumption) | assumption)
                        have q173 : (ji18) < (t169.length : Int) := of_decide_eq_true (by first | (with_reducible assumption) | assumption)
                        obtain ⟨ad173, e173, hx173_0⟩ := Kd.at_string (Kd.R_reads' HO_5.out).2.2 (ji18) p173 q173
                        cases e173
                        replace p173 := eq_true p173
                        replace q173 := eq_true q173
                        go_wp2_with (first | (go_at_call 13; (with_reducible refine (smithyref04_Trim.calls kj3 (rdOf ByteArray.empty t169 (ji18)) t174 _ A21.out).mono ?_); rintro e w29 ⟨rfl, hb⟩; have n0_ := Aside0.mk (Kd.R_below (by ((with_reducible repeat (first | apply Kd.R_alloc | apply Kd.R_drewN | apply Kd.R_drew))); exact HO_5.out) hb); have n1_ := Aside0.mk (below_step (by (repeat (first | (with_reducible first | exact HB.out | apply below_alloc | apply pw_below_drewN | apply below_drew1) | exact HB.out))) hb); clear HO_5; clear HB; have HO_5 := n0_; have HB := n1_; clear n0_ n1_; (try clear hb); (try clear hb2); (try clear hk); (try clear hi); have p26 : 0 ≤ ((ji23) : Int) := of_decide_eq_true (by first | (with_reducible assumption) | assumption); have q26 : (ji23) < (t174.size : Int) := of_decide_eq_true (by first | (with_reducible assumption) | assumption); have hx26 := bt_at t174 (ji23); replace p26 := eq_true p26; replace q26 := eq_true q26) | (go_at_call 11; (with_reducible refine (smithylaw04_speaks.calls kj3  t175 _ A28.out).mono ?_); rintro e w30 ⟨rfl, hb⟩; have n0_ := Aside0.mk (Kd.R_below (by ((with_reducible repeat (first | apply Kd.R_alloc | apply Kd.R_drewN | apply Kd.R_drew))); exact HO_5.out) hb); have n1_ := Aside0.mk (below_step (by (repeat (first | (with_reducible first | exact HB.out | apply below_alloc | apply pw_below_drewN | apply below_drew1) | exact HB.out))) hb); clear HO_5; clear HB; have HO_5 := n0_; have HB := n1_; clear n0_ n1_; (try clear hb); (try clear hb2); (try clear hk); (try clear hi)))
                        repeat (go_quiet (first | (go_at_call 13; (with_reducible refine (smithyref04_Trim.calls kj3 (rdOf ByteArray.empty t169 (ji18)) t174 _ A21.out).mono ?_); rintro e w29 ⟨rfl, hb⟩; have n0_ := Aside0.mk (Kd.R_below (by ((with_reducible repeat (first | apply Kd.R_alloc | apply Kd.R_drewN | apply Kd.R_drew))); exact HO_5.out) hb); have n1_ := Aside0.mk (below_step (by (repeat (first | (with_reducible first | exact HB.out | apply below_alloc | apply pw_below_drewN | apply below_drew1) | exact HB.out))) hb); clear HO_5; clear HB; have HO_5 := n0_; have HB := n1_; clear n0_ n1_; (try clear hb); (try clear hb2); (try clear hk); (try clear hi); have p26 : 0 ≤ ((ji23) : Int) := of_decide_eq_true (by first | (with_reducible assumption) | assumption); have q26 : (ji23) < (t174.size : Int) := of_decide_eq_true (by first | (with_reducible assumption) | assumption); have hx26 := bt_at t174 (ji23); replace p26 := eq_true p26; replace q26 := eq_true q26) | (go_at_call 11; (with_reducible refine (smithylaw04_speaks.calls kj3  t175 _ A28.out).mono ?_); rintro e w30 ⟨rfl, hb⟩; have n0_ := Aside0.mk (Kd.R_below (by ((with_reducible repeat (first | apply Kd.R_alloc | apply Kd.R_drewN | apply Kd.R_drew))); exact HO_5.out) hb); have n1_ := Aside0.mk (below_step (by (repeat (first | (with_reducible first | exact HB.out | apply below_alloc | apply pw_below_drewN | apply below_drew1) | exact HB.out))) hb); clear HO_5; clear HB; have HO_5 := n0_; have HB := n1_; clear n0_ n1_; (try clear hb); (try clear hb2); (try clear hk); (try clear hi))); try go_wp2_with (first | (go_at_call 13; (with_reducible refine (smithyref04_Trim.calls kj3 (rdOf ByteArray.empty t169 (ji18)) t174 _ A21.out).mono ?_); rintro e w29 ⟨rfl, hb⟩; have n0_ := Aside0.mk (Kd.R_below (by ((with_reducible repeat (first | apply Kd.R_alloc | apply Kd.R_drewN | apply Kd.R_drew))); exact HO_5.out) hb); have n1_ := Aside0.mk (below_step (by (repeat (first | (with_reducible first | exact HB.out | apply below_alloc | apply pw_below_drewN | apply below_drew1) | exact HB.out))) hb); clear HO_5; clear HB; have HO_5 := n0_; have HB := n1_; clear n0_ n1_; (try clear hb); (try clear hb2); (try clear hk); (try clear hi); have p26 : 0 ≤ ((ji23) : Int) := of_decide_eq_true (by first | (with_reducible assumption) | assumption); have q26 : (ji23) < (t174.size : Int) := of_decide_eq_true (by first | (with_reducible assumption) | assumption); have hx26 := bt_at t174 (ji23); replace p26 := eq_true p26; replace q26 := eq_true q26) | (go_at_call 11; (with_reducible refine (smithylaw04_speaks.calls kj3  t175 _ A28.out).mono ?_); rintro e w30 ⟨rfl, hb⟩; have n0_ := Aside0.mk (Kd.R_below (by ((with_reducible repeat (first | apply Kd.R_alloc | apply Kd.R_drewN | apply Kd.R_drew))); exact HO_5.out) hb); have n1_ := Aside0.mk (below_step (by (repeat (first | (with_reducible first | exact HB.out | apply below_alloc | apply pw_below_drewN | apply below_drew1) | exact HB.out))) hb); clear HO_5; clear HB; have HO_5 := n0_; have HB := n1_; clear n0_ n1_; (try clear hb); (try clear hb2); (try clear hk); (try clear hi))))
                        go_ret
                        exact ⟨by first | rfl | (simp [errW_none, errW_some] <;> rfl) | (simp only [← hji18, ← hji23]; first | rfl | (simp [errW_none, errW_some] <;> rfl)) | (simp [*, errW_none, errW_some] <;> rfl), by (repeat (first | (with_reducible first | exact HB.out | apply below_alloc | apply pw_below_drewN | apply below_drew1) | exact HB.out))⟩
                      · rw [if_neg c27] at H
                        have c27b0 : ((bt t174 (ji23)) == 92) = false := beq_eq_false_iff_ne.mpr c27
                        have c27b1 : ((bt t174 (ji23)) != 92) = true := bne_iff_ne.mpr c27
                        have H' := Aside0.mk H
                        clear H
                        have p173 : 0 ≤ ((ji18) : Int) := of_decide_eq_true (by first | (with_reducible assumption) | assumption)
                        have q173 : (ji18) < (t169.length : Int) := of_decide_eq_true (by first | (with_reducible assumption) | assumption)
                        obtain ⟨ad173, e173, hx173_0⟩ := Kd.at_string (Kd.R_reads' HO_5.out).2.2 (ji18) p173 q173
                        cases e173
                        replace p173 := eq_true p173
                        replace q173 := eq_true q173
                        go_wp2_with (first | (go_at_call 13; (with_reducible refine (smithyref04_Trim.calls kj3 (rdOf ByteArray.empty t169 (ji18)) t174 _ A21.out).mono ?_); rintro e w31 ⟨rfl, hb⟩; have n0_ := Aside0.mk (Kd.R_below (by ((with_reducible repeat (first | apply Kd.R_alloc | apply Kd.R_drewN | apply Kd.R_drew))); exact HO_5.out) hb); have n1_ := Aside0.mk (below_step (by (repeat (first | (with_reducible first | exact HB.out | apply below_alloc | apply pw_below_drewN | apply below_drew1) | exact HB.out))) hb); clear HO_5; clear HB; have HO_5 := n0_; have HB := n1_; clear n0_ n1_; (try clear hb); (try clear hb2); (try clear hk); (try clear hi); have p26 : 0 ≤ ((ji23) : Int) := of_decide_eq_true (by first | (with_reducible assumption) | assumption); have q26 : (ji23) < (t174.size : Int) := of_decide_eq_true (by first | (with_reducible assumption) | assumption); have hx26 := bt_at t174 (ji23); replace p26 := eq_true p26; replace q26 := eq_true q26))
                        repeat (go_quiet (first | (go_at_call 13; (with_reducible refine (smithyref04_Trim.calls kj3 (rdOf ByteArray.empty t169 (ji18)) t174 _ A21.out).mono ?_); rintro e w31 ⟨rfl, hb⟩; have n0_ := Aside0.mk (Kd.R_below (by ((with_reducible repeat (first | apply Kd.R_alloc | apply Kd.R_drewN | apply Kd.R_drew))); exact HO_5.out) hb); have n1_ := Aside0.mk (below_step (by (repeat (first | (with_reducible first | exact HB.out | apply below_alloc | apply pw_below_drewN | apply below_drew1) | exact HB.out))) hb); clear HO_5; clear HB; have HO_5 := n0_; have HB := n1_; clear n0_ n1_; (try clear hb); (try clear hb2); (try clear hk); (try clear hi); have p26 : 0 ≤ ((ji23) : Int) := of_decide_eq_true (by first | (with_reducible assumption) | assumption); have q26 : (ji23) < (t174.size : Int) := of_decide_eq_true (by first | (with_reducible assumption) | assumption); have hx26 := bt_at t174 (ji23); replace p26 := eq_true p26; replace q26 := eq_true q26)); try go_wp2_with (first | (go_at_call 13; (with_reducible refine (smithyref04_Trim.calls kj3 (rdOf ByteArray.empty t169 (ji18)) t174 _ A21.out).mono ?_); rintro e w31 ⟨rfl, hb⟩; have n0_ := Aside0.mk (Kd.R_below (by ((with_reducible repeat (first | apply Kd.R_alloc | apply Kd.R_drewN | apply Kd.R_drew))); exact HO_5.out) hb); have n1_ := Aside0.mk (below_step (by (repeat (first | (with_reducible first | exact HB.out | apply below_alloc | apply pw_below_drewN | apply below_drew1) | exact HB.out))) hb); clear HO_5; clear HB; have HO_5 := n0_; have HB := n1_; clear n0_ n1_; (try clear hb); (try clear hb2); (try clear hk); (try clear hi); have p26 : 0 ≤ ((ji23) : Int) := of_decide_eq_true (by first | (with_reducible assumption) | assumption); have q26 : (ji23) < (t174.size : Int) := of_decide_eq_true (by first | (with_reducible assumption) | assumption); have hx26 := bt_at t174 (ji23); replace p26 := eq_true p26; replace q26 := eq_true q26)))
                        go_meet
                        case rel => exact ⟨_, (by first | exact H' | (subst_vars; exact H')), ⟨by have := HJ3.out; first | omega | exact Nat.le_refl _⟩, ⟨by ((with_reducible repeat (first | apply Kd.R_alloc | apply Kd.R_drewN | apply Kd.R_drew))); exact HO_5.out⟩, ⟨by (repeat (first | (with_reducible first | exact HB.out | apply below_alloc | apply pw_below_drewN | apply below_drew1) | exact HB.out))⟩⟩
                    · rw [if_neg c25] at H
                      exact absurd H (by simp)
                  · rw [if_neg c24] at H
                    exact absurd H (by simp)
                · rw [if_neg c22] at H
                  have c22b0 : decide (0 < (t174.size : Int)) = false := decide_eq_false c22
                  have c22b1 : decide (0 < t174.size) = false := decide_eq_false (by omega)
                  clear c22
                  have H' := Aside0.mk H
                  clear H
                  have p173 : 0 ≤ ((ji18) : Int) := of_decide_eq_true (by first | (with_reducible assumption) | assumption)
                  have q173 : (ji18) < (t169.length : Int) := of_decide_eq_true (by first | (with_reducible assumption) | assumption)
                  obtain ⟨ad173, e173, hx173_0⟩ := Kd.at_string (Kd.R_reads' HO_5.out).2.2 (ji18) p173 q173
                  cases e173
                  replace p173 := eq_true p173
                  replace q173 := eq_true q173
                  go_wp2_with (first | (go_at_call 13; (with_reducible refine (smithyref04_Trim.calls kj3 (rdOf ByteArray.empty t169 (ji18)) t174 _ A21.out).mono ?_); rintro e w32 ⟨rfl, hb⟩; have n0_ := Aside0.mk (Kd.R_below (by ((with_reducible repeat (first | apply Kd.R_alloc | apply Kd.R_drewN | apply Kd.R_drew))); exact HO_5.out) hb); have n1_ := Aside0.mk (below_step (by (repeat (first | (with_reducible first | exact HB.out | apply below_alloc | apply pw_below_drewN | apply below_drew1) | exact HB.out))) hb); clear HO_5; clear HB; have HO_5 := n0_; have HB := n1_; clear n0_ n1_; (try clear hb); (try clear hb2); (try clear hk); (try clear hi)))
                  repeat (go_quiet (first | (go_at_call 13; (with_reducible refine (smithyref04_Trim.calls kj3 (rdOf ByteArray.empty t169 (ji18)) t174 _ A21.out).mono ?_); rintro e w32 ⟨rfl, hb⟩; have n0_ := Aside0.mk (Kd.R_below (by ((with_reducible repeat (first | apply Kd.R_alloc | apply Kd.R_drewN | apply Kd.R_drew))); exact HO_5.out) hb); have n1_ := Aside0.mk (below_step (by (repeat (first | (with_reducible first | exact HB.out | apply below_alloc | apply pw_below_drewN | apply below_drew1) | exact HB.out))) hb); clear HO_5; clear HB; have HO_5 := n0_; have HB := n1_; clear n0_ n1_; (try clear hb); (try clear hb2); (try clear hk); (try clear hi))); try go_wp2_with (first | (go_at_call 13; (with_reducible refine (smithyref04_Trim.calls kj3 (rdOf ByteArray.empty t169 (ji18)) t174 _ A21.out).mono ?_); rintro e w32 ⟨rfl, hb⟩; have n0_ := Aside0.mk (Kd.R_below (by ((with_reducible repeat (first | apply Kd.R_alloc | apply Kd.R_drewN | apply Kd.R_drew))); exact HO_5.out) hb); have n1_ := Aside0.mk (below_step (by (repeat (first | (with_reducible first | exact HB.out | apply below_alloc | apply pw_below_drewN | apply below_drew1) | exact HB.out))) hb); clear HO_5; clear HB; have HO_5 := n0_; have HB := n1_; clear n0_ n1_; (try clear hb); (try clear hb2); (try clear hk); (try clear hi))))
                  go_meet
                  case rel => exact ⟨_, (by first | exact H' | (subst_vars; exact H')), ⟨by have := HJ3.out; first | omega | exact Nat.le_refl _⟩, ⟨by ((with_reducible repeat (first | apply Kd.R_alloc | apply Kd.R_drewN | apply Kd.R_drew))); exact HO_5.out⟩, ⟨by (repeat (first | (with_reducible first | exact HB.out | apply below_alloc | apply pw_below_drewN | apply below_drew1) | exact HB.out))⟩⟩
              · rw [if_neg c20] at H
                exact absurd H (by simp)
            · rw [if_neg c19] at H
              exact absurd H (by simp)
          · rw [if_neg c17] at H
            have c17b0 : decide (0 < (t169.length : Int)) = false := decide_eq_false c17
            have c17b1 : decide (0 < t169.length) = false := decide_eq_false (by omega)
            clear c17
            (first | rw [c17b0] | (simp only [i64_w, i32_w]; rw [c17b0]) | rw [c17b1] | skip)
            have H' := Aside0.mk H
            clear H
            go_wp2
            repeat (go_quiet (fail); try go_wp2)
            go_meet
            case rel => exact ⟨_, (by first | exact H' | (subst_vars; exact H')), ⟨by have := HJ3.out; first | omega | exact Nat.le_refl _⟩, ⟨by ((with_reducible repeat (first | apply Kd.R_alloc | apply Kd.R_drewN | apply Kd.R_drew))); exact HO_5.out⟩, ⟨by (repeat (first | (with_reducible first | exact HB.out | apply below_alloc | apply pw_below_drewN | apply below_drew1) | exact HB.out))⟩⟩
        case rest =>
          clear HC15
          try clear c1
          try clear p1
          try clear q1
          try clear hx1
          try clear c2
          try clear p2
          try clear q2
          try clear hx2
          try clear c4
          try clear c6
          try clear c6b0
          try clear c6b1
          try clear p6
          try clear c8
          try clear c8b0
          try clear c9
          try clear c9b0
          try clear p10
          try clear q10
          try clear hx10
          try clear c11
          try clear c11b0
          try clear c11b1
          try clear c12
          try clear c17
          try clear c17b0
          try clear c17b1
          try clear p17
          try clear q17
          try clear hx17
          try clear c19
          try clear c19b0
          try clear c20
          try clear c20b0
          try clear c22
          try clear c22b0
          try clear c22b1
          try clear c24
          try clear c24b0
          try clear c25
          try clear c25b0
          try clear p26
          try clear q26
          try clear hx26
          try clear c27
          try clear c27b0
          try clear c27b1
          try clear hx173_0
          try clear p1
          try clear p10
          try clear p173
          try clear p2
          try clear p26
          try clear p6
          try clear q1
          try clear q10
          try clear q173
          try clear q26
          obtain ⟨kq, HA, HJ14, HO_5, HB⟩ := hcut
          cases kq with
          | zero => exact absurd HA.out (by simp [smithylaw04_LinesParts.j1])
          | succ kj14 =>
            have H := HA.out
            clear HA
            simp only [smithylaw04_LinesParts.j1] at H
            replace H := Option.bind_eq_some_iff.mp H
            obtain ⟨⟨t176, t179, t180⟩, A330, H⟩ := H
            replace H : ((lines_Split.f kj14 (⟨#[109]⟩ : ByteArray) a1).bind fun bt181 => (if a0.size + a1.size ≤ 9223372036854775807 then ((lines_Split.f kj14 (⟨#[109]⟩ : ByteArray) (a0 ++ a1)).bind fun bt186 => (if t179 = 0 then (smithylaw04_LinesParts.j2 kj14 t169 t176 bt181.1 bt186.1 bt186.2.1 (bt181.2.1 != 0)) else (smithylaw04_LinesParts.j2 kj14 t169 t176 bt181.1 bt186.1 bt186.2.1 true))) else (none))) = some r := H
            have A33 := Aside0.mk A330
            clear A330
            replace H := Option.bind_eq_some_iff.mp H
            obtain ⟨⟨t181, t184, t185⟩, A340, H⟩ := H
            replace H : (if a0.size + a1.size ≤ 9223372036854775807 then ((lines_Split.f kj14 (⟨#[109]⟩ : ByteArray) (a0 ++ a1)).bind fun bt186 => (if t179 = 0 then (smithylaw04_LinesParts.j2 kj14 t169 t176 t181 bt186.1 bt186.2.1 (t184 != 0)) else (smithylaw04_LinesParts.j2 kj14 t169 t176 t181 bt186.1 bt186.2.1 true))) else (none)) = some r := H
            have A34 := Aside0.mk A340
            clear A340
            by_cases c35 : a0.size + a1.size ≤ 9223372036854775807
            · rw [if_pos c35] at H
              have c35b0 := eq_true c35
              have c35b1 : decide (a0.size + a1.size ≤ 9223372036854775807) = true := decide_eq_true c35
              try have c35b2 : (9223372036854775807 < a0.size + a1.size) = False := eq_false (Nat.not_lt.2 c35)
              replace H := Option.bind_eq_some_iff.mp H
              obtain ⟨⟨t186, t189, t190⟩, A360, H⟩ := H
              replace H : (if t179 = 0 then (smithylaw04_LinesParts.j2 kj14 t169 t176 t181 t186 t189 (t184 != 0)) else (smithylaw04_LinesParts.j2 kj14 t169 t176 t181 t186 t189 true)) = some r := H
              have A36 := Aside0.mk A360
              clear A360
              have HC37 := Aside0.mk H
              clear H
              go_upto_region 11 with (first | (go_at_call 8; (with_reducible refine (lines_Split.calls kj14 (⟨#[109]⟩ : ByteArray) a0 t176 t179 t180 _ A33.out).mono ?_); rintro e w38 ⟨v177, rfl, ho0, hb⟩; have n0_ := Aside0.mk (Kd.R_below (by ((with_reducible repeat (first | apply Kd.R_alloc | apply Kd.R_drewN | apply Kd.R_drew))); exact HO_5.out) hb); have n1_ := Aside0.mk (Kd.R_lower ho0 (below_size (by (repeat (first | (with_reducible first | exact HB.out | apply below_alloc | apply pw_below_drewN | apply below_drew1) | exact HB.out))))); have n2_ := Aside0.mk (below_step (by (repeat (first | (with_reducible first | exact HB.out | apply below_alloc | apply pw_below_drewN | apply below_drew1) | exact HB.out))) hb); clear HO_5; clear HB; have HO_5 := n0_; have HO178 := n1_; have HB := n2_; clear n0_ n1_ n2_; (try clear hb); (try clear hb2); (try clear hk); (try clear hi); (try clear ho0)) | (go_at_call 8; (with_reducible refine (lines_Split.calls kj14 (⟨#[109]⟩ : ByteArray) a1 t181 t184 t185 _ A34.out).mono ?_); rintro e w39 ⟨v182, rfl, ho0, hb⟩; have n0_ := Aside0.mk (Kd.R_below (by ((with_reducible repeat (first | apply Kd.R_alloc | apply Kd.R_drewN | apply Kd.R_drew))); exact HO_5.out) hb); have n1_ := Aside0.mk (Kd.R_elder' (by ((with_reducible repeat (first | apply Kd.R_alloc | apply Kd.R_drewN | apply Kd.R_drew))); exact HO178.out) (Kd.R_base ho0) hb); have n2_ := Aside0.mk (Kd.R_lower (Kd.R_new' ho0 (Kd.R_lt (by ((with_reducible repeat (first | apply Kd.R_alloc | apply Kd.R_drewN | apply Kd.R_drew))); exact HO178.out))) (below_size (by (repeat (first | (with_reducible first | exact HB.out | apply below_alloc | apply pw_below_drewN | apply below_drew1) | exact HB.out))))); have n3_ := Aside0.mk (below_step (by (repeat (first | (with_reducible first | exact HB.out | apply below_alloc | apply pw_below_drewN | apply below_drew1) | exact HB.out))) hb); clear HO_5; clear HO178; clear HB; have HO_5 := n0_; have HO178 := n1_; have HO183 := n2_; have HB := n3_; clear n0_ n1_ n2_ n3_; (try clear hb); (try clear hb2); (try clear hk); (try clear hi); (try clear ho0)) | (go_at_call 8; (with_reducible refine (lines_Split.calls kj14 (⟨#[109]⟩ : ByteArray) (a0 ++ a1) t186 t189 t190 _ A36.out).mono ?_); rintro e w40 ⟨v187, rfl, ho0, hb⟩; have n0_ := Aside0.mk (Kd.R_below (by ((with_reducible repeat (first | apply Kd.R_alloc | apply Kd.R_drewN | apply Kd.R_drew))); exact HO_5.out) hb); have n1_ := Aside0.mk (Kd.R_elder' (by ((with_reducible repeat (first | apply Kd.R_alloc | apply Kd.R_drewN | apply Kd.R_drew))); exact HO178.out) (Kd.R_base ho0) hb); have n2_ := Aside0.mk (Kd.R_elder' (by ((with_reducible repeat (first | apply Kd.R_alloc | apply Kd.R_drewN | apply Kd.R_drew))); exact HO183.out) (Kd.R_base ho0) hb); have n3_ := Aside0.mk (Kd.R_lower (Kd.R_new' (Kd.R_new' ho0 (Kd.R_lt (by ((with_reducible repeat (first | apply Kd.R_alloc | apply Kd.R_drewN | apply Kd.R_drew))); exact HO178.out))) (Kd.R_lt (by ((with_reducible repeat (first | apply Kd.R_alloc | apply Kd.R_drewN | apply Kd.R_drew))); exact HO183.out))) (below_size (by (repeat (first | (with_reducible first | exact HB.out | apply below_alloc | apply pw_below_drewN | apply below_drew1) | exact HB.out))))); have n4_ := Aside0.mk (below_step (by (repeat (first | (with_reducible first | exact HB.out | apply below_alloc | apply pw_below_drewN | apply below_drew1) | exact HB.out))) hb); clear HO_5; clear HO178; clear HO183; clear HB; have HO_5 := n0_; have HO178 := n1_; have HO183 := n2_; have HO188 := n3_; have HB := n4_; clear n0_ n1_ n2_ n3_ n4_; (try clear hb); (try clear hb2); (try clear hk); (try clear hi); (try clear ho0)))
              repeat (go_quiet (first | (go_at_call 8; (with_reducible refine (lines_Split.calls kj14 (⟨#[109]⟩ : ByteArray) a0 t176 t179 t180 _ A33.out).mono ?_); rintro e w38 ⟨v177, rfl, ho0, hb⟩; have n0_ := Aside0.mk (Kd.R_below (by ((with_reducible repeat (first | apply Kd.R_alloc | apply Kd.R_drewN | apply Kd.R_drew))); exact HO_5.out) hb); have n1_ := Aside0.mk (Kd.R_lower ho0 (below_size (by (repeat (first | (with_reducible first | exact HB.out | apply below_alloc | apply pw_below_drewN | apply below_drew1) | exact HB.out))))); have n2_ := Aside0.mk (below_step (by (repeat (first | (with_reducible first | exact HB.out | apply below_alloc | apply pw_below_drewN | apply below_drew1) | exact HB.out))) hb); clear HO_5; clear HB; have HO_5 := n0_; have HO178 := n1_; have HB := n2_; clear n0_ n1_ n2_; (try clear hb); (try clear hb2); (try clear hk); (try clear hi); (try clear ho0)) | (go_at_call 8; (with_reducible refine (lines_Split.calls kj14 (⟨#[109]⟩ : ByteArray) a1 t181 t184 t185 _ A34.out).mono ?_); rintro e w39 ⟨v182, rfl, ho0, hb⟩; have n0_ := Aside0.mk (Kd.R_below (by ((with_reducible repeat (first | apply Kd.R_alloc | apply Kd.R_drewN | apply Kd.R_drew))); exact HO_5.out) hb); have n1_ := Aside0.mk (Kd.R_elder' (by ((with_reducible repeat (first | apply Kd.R_alloc | apply Kd.R_drewN | apply Kd.R_drew))); exact HO178.out) (Kd.R_base ho0) hb); have n2_ := Aside0.mk (Kd.R_lower (Kd.R_new' ho0 (Kd.R_lt (by ((with_reducible repeat (first | apply Kd.R_alloc | apply Kd.R_drewN | apply Kd.R_drew))); exact HO178.out))) (below_size (by (repeat (first | (with_reducible first | exact HB.out | apply below_alloc | apply pw_below_drewN | apply below_drew1) | exact HB.out))))); have n3_ := Aside0.mk (below_step (by (repeat (first | (with_reducible first | exact HB.out | apply below_alloc | apply pw_below_drewN | apply below_drew1) | exact HB.out))) hb); clear HO_5; clear HO178; clear HB; have HO_5 := n0_; have HO178 := n1_; have HO183 := n2_; have HB := n3_; clear n0_ n1_ n2_ n3_; (try clear hb); (try clear hb2); (try clear hk); (try clear hi); (try clear ho0)) | (go_at_call 8; (with_reducible refine (lines_Split.calls kj14 (⟨#[109]⟩ : ByteArray) (a0 ++ a1) t186 t189 t190 _ A36.out).mono ?_); rintro e w40 ⟨v187, rfl, ho0, hb⟩; have n0_ := Aside0.mk (Kd.R_below (by ((with_reducible repeat (first | apply Kd.R_alloc | apply Kd.R_drewN | apply Kd.R_drew))); exact HO_5.out) hb); have n1_ := Aside0.mk (Kd.R_elder' (by ((with_reducible repeat (first | apply Kd.R_alloc | apply Kd.R_drewN | apply Kd.R_drew))); exact HO178.out) (Kd.R_base ho0) hb); have n2_ := Aside0.mk (Kd.R_elder' (by ((with_reducible repeat (first | apply Kd.R_alloc | apply Kd.R_drewN | apply Kd.R_drew))); exact HO183.out) (Kd.R_base ho0) hb); have n3_ := Aside0.mk (Kd.R_lower (Kd.R_new' (Kd.R_new' ho0 (Kd.R_lt (by ((with_reducible repeat (first | apply Kd.R_alloc | apply Kd.R_drewN | apply Kd.R_drew))); exact HO178.out))) (Kd.R_lt (by ((with_reducible repeat (first | apply Kd.R_alloc | apply Kd.R_drewN | apply Kd.R_drew))); exact HO183.out))) (below_size (by (repeat (first | (with_reducible first | exact HB.out | apply below_alloc | apply pw_below_drewN | apply below_drew1) | exact HB.out))))); have n4_ := Aside0.mk (below_step (by (repeat (first | (with_reducible first | exact HB.out | apply below_alloc | apply pw_below_drewN | apply below_drew1) | exact HB.out))) hb); clear HO_5; clear HO178; clear HO183; clear HB; have HO_5 := n0_; have HO178 := n1_; have HO183 := n2_; have HO188 := n3_; have HB := n4_; clear n0_ n1_ n2_ n3_ n4_; (try clear hb); (try clear hb2); (try clear hk); (try clear hi); (try clear ho0))); go_upto_region 11 with (first | (go_at_call 8; (with_reducible refine (lines_Split.calls kj14 (⟨#[109]⟩ : ByteArray) a0 t176 t179 t180 _ A33.out).mono ?_); rintro e w38 ⟨v177, rfl, ho0, hb⟩; have n0_ := Aside0.mk (Kd.R_below (by ((with_reducible repeat (first | apply Kd.R_alloc | apply Kd.R_drewN | apply Kd.R_drew))); exact HO_5.out) hb); have n1_ := Aside0.mk (Kd.R_lower ho0 (below_size (by (repeat (first | (with_reducible first | exact HB.out | apply below_alloc | apply pw_below_drewN | apply below_drew1) | exact HB.out))))); have n2_ := Aside0.mk (below_step (by (repeat (first | (with_reducible first | exact HB.out | apply below_alloc | apply pw_below_drewN | apply below_drew1) | exact HB.out))) hb); clear HO_5; clear HB; have HO_5 := n0_; have HO178 := n1_; have HB := n2_; clear n0_ n1_ n2_; (try clear hb); (try clear hb2); (try clear hk); (try clear hi); (try clear ho0)) | (go_at_call 8; (with_reducible refine (lines_Split.calls kj14 (⟨#[109]⟩ : ByteArray) a1 t181 t184 t185 _ A34.out).mono ?_); rintro e w39 ⟨v182, rfl, ho0, hb⟩; have n0_ := Aside0.mk (Kd.R_below (by ((with_reducible repeat (first | apply Kd.R_alloc | apply Kd.R_drewN | apply Kd.R_drew))); exact HO_5.out) hb); have n1_ := Aside0.mk (Kd.R_elder' (by ((with_reducible repeat (first | apply Kd.R_alloc | apply Kd.R_drewN | apply Kd.R_drew))); exact HO178.out) (Kd.R_base ho0) hb); have n2_ := Aside0.mk (Kd.R_lower (Kd.R_new' ho0 (Kd.R_lt (by ((with_reducible repeat (first | apply Kd.R_alloc | apply Kd.R_drewN | apply Kd.R_drew))); exact HO178.out))) (below_size (by (repeat (first | (with_reducible first | exact HB.out | apply below_alloc | apply pw_below_drewN | apply below_drew1) | exact HB.out))))); have n3_ := Aside0.mk (below_step (by (repeat (first | (with_reducible first | exact HB.out | apply below_alloc | apply pw_below_drewN | apply below_drew1) | exact HB.out))) hb); clear HO_5; clear HO178; clear HB; have HO_5 := n0_; have HO178 := n1_; have HO183 := n2_; have HB := n3_; clear n0_ n1_ n2_ n3_; (try clear hb); (try clear hb2); (try clear hk); (try clear hi); (try clear ho0)) | (go_at_call 8; (with_reducible refine (lines_Split.calls kj14 (⟨#[109]⟩ : ByteArray) (a0 ++ a1) t186 t189 t190 _ A36.out).mono ?_); rintro e w40 ⟨v187, rfl, ho0, hb⟩; have n0_ := Aside0.mk (Kd.R_below (by ((with_reducible repeat (first | apply Kd.R_alloc | apply Kd.R_drewN | apply Kd.R_drew))); exact HO_5.out) hb); have n1_ := Aside0.mk (Kd.R_elder' (by ((with_reducible repeat (first | apply Kd.R_alloc | apply Kd.R_drewN | apply Kd.R_drew))); exact HO178.out) (Kd.R_base ho0) hb); have n2_ := Aside0.mk (Kd.R_elder' (by ((with_reducible repeat (first | apply Kd.R_alloc | apply Kd.R_drewN | apply Kd.R_drew))); exact HO183.out) (Kd.R_base ho0) hb); have n3_ := Aside0.mk (Kd.R_lower (Kd.R_new' (Kd.R_new' ho0 (Kd.R_lt (by ((with_reducible repeat (first | apply Kd.R_alloc | apply Kd.R_drewN | apply Kd.R_drew))); exact HO178.out))) (Kd.R_lt (by ((with_reducible repeat (first | apply Kd.R_alloc | apply Kd.R_drewN | apply Kd.R_drew))); exact HO183.out))) (below_size (by (repeat (first | (with_reducible first | exact HB.out | apply below_alloc | apply pw_below_drewN | apply below_drew1) | exact HB.out))))); have n4_ := Aside0.mk (below_step (by (repeat (first | (with_reducible first | exact HB.out | apply below_alloc | apply pw_below_drewN | apply below_drew1) | exact HB.out))) hb); clear HO_5; clear HO178; clear HO183; clear HB; have HO_5 := n0_; have HO178 := n1_; have HO183 := n2_; have HO188 := n3_; have HB := n4_; clear n0_ n1_ n2_ n3_ n4_; (try clear hb); (try clear hb2); (try clear hk); (try clear hi); (try clear ho0))))
              (try simp only [Act.put, List.setIfInBounds_toArray, List.set_cons_zero, List.set_cons_succ])
              go_cut [90] (fun v90 wc => ∃ (kq : Nat) (x90_36 : Bool), v90 = .bool x90_36 ∧ Aside0 (smithylaw04_LinesParts.j2 kq t169 t176 t181 t186 t189 x90_36 = some r) ∧ Aside0 (kq ≤ kj14) ∧ Aside0 (Kd.R Kd.string 9 wc w.heap.size (fun _ => True) (.slice Ao16 t169.length co16) t169) ∧ Aside0 (Kd.R k37 37 wc w.heap.size (fun k_ => some k_ ≠ (v182 : Value).ownBlock ∧ some k_ ≠ (v187 : Value).ownBlock) v177 t176) ∧ Aside0 (Kd.R k37 37 wc w.heap.size (fun k_ => some k_ ≠ (v177 : Value).ownBlock ∧ some k_ ≠ (v187 : Value).ownBlock) v182 t181) ∧ Aside0 (Kd.R k37 37 wc w.heap.size (fun k_ => some k_ ≠ (v177 : Value).ownBlock ∧ some k_ ≠ (v182 : Value).ownBlock) v187 t186) ∧ Aside0 (Below w.heap.size w wc))
              case first =>
                have H := HC37.out
                clear HC37
                by_cases c41 : t179 = 0
                · rw [if_pos c41] at H
                  have c41b0 : (t179 == 0) = true := beq_iff_eq.mpr c41
                  have c41b1 : (t179 != 0) = false := bne_eq_false_iff_eq.mpr c41
                  clear c41
                  (first | rw [c41b0] | (simp only [i64_w, i32_w]; rw [c41b0]) | skip)
                  have H' := Aside0.mk H
                  clear H
                  go_wp2
                  repeat (go_quiet (fail); try go_wp2)
                  go_meet
                  case rel => exact ⟨_, ((t184 != 0)), (by first | rfl | (simp; done) | (simp [*]; done)), (by first | exact H' | (subst_vars; exact H')), ⟨by have := HJ3.out; have := HJ14.out; first | omega | exact Nat.le_refl _⟩, ⟨by ((with_reducible repeat (first | apply Kd.R_alloc | apply Kd.R_drewN | apply Kd.R_drew))); exact HO_5.out⟩, ⟨by ((with_reducible repeat (first | apply Kd.R_alloc | apply Kd.R_drewN | apply Kd.R_drew))); exact Kd.R_mono HO178.out (fun _ hk => ⟨hk.1.2, hk.2⟩)⟩, ⟨by ((with_reducible repeat (first | apply Kd.R_alloc | apply Kd.R_drewN | apply Kd.R_drew))); exact Kd.R_mono HO183.out (fun _ hk => ⟨hk.1.2, hk.2⟩)⟩, ⟨by ((with_reducible repeat (first | apply Kd.R_alloc | apply Kd.R_drewN | apply Kd.R_drew))); exact Kd.R_mono HO188.out (fun _ hk => ⟨hk.1.2, hk.2⟩)⟩, ⟨by (repeat (first | (with_reducible first | exact HB.out | apply below_alloc | apply pw_below_drewN | apply below_drew1) | exact HB.out))⟩⟩
                · rw [if_neg c41] at H
                  have c41b0 : (t179 == 0) = false := beq_eq_false_iff_ne.mpr c41
                  have c41b1 : (t179 != 0) = true := bne_iff_ne.mpr c41
                  (first | rw [c41b0] | (simp only [i64_w, i32_w]; rw [c41b0]) | skip)
                  have H' := Aside0.mk H
                  clear H
                  go_wp2
                  repeat (go_quiet (fail); try go_wp2)
                  go_meet
                  case rel => exact ⟨_, (true), (by first | rfl | (simp; done) | (simp [*]; done)), (by first | exact H' | (subst_vars; exact H')), ⟨by have := HJ3.out; have := HJ14.out; first | omega | exact Nat.le_refl _⟩, ⟨by ((with_reducible repeat (first | apply Kd.R_alloc | apply Kd.R_drewN | apply Kd.R_drew))); exact HO_5.out⟩, ⟨by ((with_reducible repeat (first | apply Kd.R_alloc | apply Kd.R_drewN | apply Kd.R_drew))); exact Kd.R_mono HO178.out (fun _ hk => ⟨hk.1.2, hk.2⟩)⟩, ⟨by ((with_reducible repeat (first | apply Kd.R_alloc | apply Kd.R_drewN | apply Kd.R_drew))); exact Kd.R_mono HO183.out (fun _ hk => ⟨hk.1.2, hk.2⟩)⟩, ⟨by ((with_reducible repeat (first | apply Kd.R_alloc | apply Kd.R_drewN | apply Kd.R_drew))); exact Kd.R_mono HO188.out (fun _ hk => ⟨hk.1.2, hk.2⟩)⟩, ⟨by (repeat (first | (with_reducible first | exact HB.out | apply below_alloc | apply pw_below_drewN | apply below_drew1) | exact HB.out))⟩⟩
              case rest =>
                clear HC37
                try clear c1
                try clear p1
                try clear q1
                try clear hx1
                try clear c2
                try clear p2
                try clear q2
                try clear hx2
                try clear c3
                try clear c4
                try clear c6
                try clear c6b0
                try clear c6b1
                try clear p6
                try clear c8
                try clear c8b0
                try clear c9
                try clear c9b0
                try clear p10
                try clear q10
                try clear hx10
                try clear c11
                try clear c11b0
                try clear c11b1
                try clear c12
                try clear c17
                try clear c17b0
                try clear c17b1
                try clear p17
                try clear q17
                try clear hx17
                try clear c19
                try clear c19b0
                try clear c20
                try clear c20b0
                try clear c22
                try clear c22b0
                try clear c22b1
                try clear c24
                try clear c24b0
                try clear c25
                try clear c25b0
                try clear p26
                try clear q26
                try clear hx26
                try clear c27
                try clear c27b0
                try clear c27b1
                try clear c35
                try clear c35b0
                try clear c35b1
                try clear c35b2
                try clear c41
                try clear c41b0
                try clear c41b1
                try clear hx173_0
                try clear p1
                try clear p10
                try clear p17
                try clear p173
                try clear p2
                try clear p26
                try clear p6
                try clear q1
                try clear q10
                try clear q17
                try clear q173
                try clear q2
                try clear q26
                obtain ⟨kq, x90_36, rfl, HA, HJ36, HO_5, HO_7, HO_10, HO_13, HB⟩ := hcut
                cases kq with
                | zero => exact absurd HA.out (by simp [smithylaw04_LinesParts.j2])
                | succ kj36 =>
                  have H := HA.out
                  clear HA
                  simp only [smithylaw04_LinesParts.j2] at H
                  by_cases c42 : x90_36 = true
                  · subst c42
                    have H1 : (if t189 = 0 then (some false) else (if (t186.length : Int) = 0 then ((smithylaw04_speaks.f kj36).bind fun t191 => (some t191)) else (some false))) = some r := by rw [if_pos rfl] at H; exact H
                    clear H
                    have H := H1
                    clear H1
                    by_cases c43 : t189 = 0
                    · rw [if_pos c43] at H
                      have c43b0 : (t189 == 0) = true := beq_iff_eq.mpr c43
                      have c43b1 : (t189 != 0) = false := bne_eq_false_iff_eq.mpr c43
                      clear c43
                      obtain rfl := Option.some.inj H
                      go_wp2
                      repeat (go_quiet (fail); try go_wp2)
                      go_ret
                      exact ⟨by (first | rfl | (simp [errW_none, errW_some] <;> rfl) | (simp [*, errW_none, errW_some] <;> rfl)), by (repeat (first | (with_reducible first | exact HB.out | apply below_alloc | apply pw_below_drewN | apply below_drew1) | exact HB.out))⟩
                    · rw [if_neg c43] at H
                      have c43b0 : (t189 == 0) = false := beq_eq_false_iff_ne.mpr c43
                      have c43b1 : (t189 != 0) = true := bne_iff_ne.mpr c43
                      by_cases c44 : (t186.length : Int) = 0
                      · rw [if_pos c44] at H
                        have c44b0 : ((t186.length : Int) == 0) = true := beq_iff_eq.mpr c44
                        have c44b1 : ((t186.length : Int) != 0) = false := bne_eq_false_iff_eq.mpr c44
                        clear c44
                        replace H := Option.bind_eq_some_iff.mp H
                        obtain ⟨t191, A450, H⟩ := H
                        replace H : (some t191) = some r := H
                        have A45 := Aside0.mk A450
                        clear A450
                        obtain rfl := Option.some.inj H
                        obtain ⟨Ao46, co46, eo46⟩ := Kd.R_slice HO_13.out
                        subst eo46
                        go_wp2_with (first | (go_at_call 11; (with_reducible refine (smithylaw04_speaks.calls kj36  t191 _ A45.out).mono ?_); rintro e w47 ⟨rfl, hb⟩; have n0_ := Aside0.mk (Kd.R_below (by ((with_reducible repeat (first | apply Kd.R_alloc | apply Kd.R_drewN | apply Kd.R_drew))); exact HO_5.out) hb); have n1_ := Aside0.mk (Kd.R_below (by ((with_reducible repeat (first | apply Kd.R_alloc | apply Kd.R_drewN | apply Kd.R_drew))); exact HO_7.out) hb); have n2_ := Aside0.mk (Kd.R_below (by ((with_reducible repeat (first | apply Kd.R_alloc | apply Kd.R_drewN | apply Kd.R_drew))); exact HO_10.out) hb); have n3_ := Aside0.mk (Kd.R_below (by ((with_reducible repeat (first | apply Kd.R_alloc | apply Kd.R_drewN | apply Kd.R_drew))); exact HO_13.out) hb); have n4_ := Aside0.mk (below_step (by (repeat (first | (with_reducible first | exact HB.out | apply below_alloc | apply pw_below_drewN | apply below_drew1) | exact HB.out))) hb); clear HO_5; clear HO_7; clear HO_10; clear HO_13; clear HB; have HO_5 := n0_; have HO_7 := n1_; have HO_10 := n2_; have HO_13 := n3_; have HB := n4_; clear n0_ n1_ n2_ n3_ n4_; (try clear hb); (try clear hb2); (try clear hk); (try clear hi)))
                        repeat (go_quiet (first | (go_at_call 11; (with_reducible refine (smithylaw04_speaks.calls kj36  t191 _ A45.out).mono ?_); rintro e w47 ⟨rfl, hb⟩; have n0_ := Aside0.mk (Kd.R_below (by ((with_reducible repeat (first | apply Kd.R_alloc | apply Kd.R_drewN | apply Kd.R_drew))); exact HO_5.out) hb); have n1_ := Aside0.mk (Kd.R_below (by ((with_reducible repeat (first | apply Kd.R_alloc | apply Kd.R_drewN | apply Kd.R_drew))); exact HO_7.out) hb); have n2_ := Aside0.mk (Kd.R_below (by ((with_reducible repeat (first | apply Kd.R_alloc | apply Kd.R_drewN | apply Kd.R_drew))); exact HO_10.out) hb); have n3_ := Aside0.mk (Kd.R_below (by ((with_reducible repeat (first | apply Kd.R_alloc | apply Kd.R_drewN | apply Kd.R_drew))); exact HO_13.out) hb); have n4_ := Aside0.mk (below_step (by (repeat (first | (with_reducible first | exact HB.out | apply below_alloc | apply pw_below_drewN | apply below_drew1) | exact HB.out))) hb); clear HO_5; clear HO_7; clear HO_10; clear HO_13; clear HB; have HO_5 := n0_; have HO_7 := n1_; have HO_10 := n2_; have HO_13 := n3_; have HB := n4_; clear n0_ n1_ n2_ n3_ n4_; (try clear hb); (try clear hb2); (try clear hk); (try clear hi))); try go_wp2_with (first | (go_at_call 11; (with_reducible refine (smithylaw04_speaks.calls kj36  t191 _ A45.out).mono ?_); rintro e w47 ⟨rfl, hb⟩; have n0_ := Aside0.mk (Kd.R_below (by ((with_reducible repeat (first | apply Kd.R_alloc | apply Kd.R_drewN | apply Kd.R_drew))); exact HO_5.out) hb); have n1_ := Aside0.mk (Kd.R_below (by ((with_reducible repeat (first | apply Kd.R_alloc | apply Kd.R_drewN | apply Kd.R_drew))); exact HO_7.out) hb); have n2_ := Aside0.mk (Kd.R_below (by ((with_reducible repeat (first | apply Kd.R_alloc | apply Kd.R_drewN | apply Kd.R_drew))); exact HO_10.out) hb); have n3_ := Aside0.mk (Kd.R_below (by ((with_reducible repeat (first | apply Kd.R_alloc | apply Kd.R_drewN | apply Kd.R_drew))); exact HO_13.out) hb); have n4_ := Aside0.mk (below_step (by (repeat (first | (with_reducible first | exact HB.out | apply below_alloc | apply pw_below_drewN | apply below_drew1) | exact HB.out))) hb); clear HO_5; clear HO_7; clear HO_10; clear HO_13; clear HB; have HO_5 := n0_; have HO_7 := n1_; have HO_10 := n2_; have HO_13 := n3_; have HB := n4_; clear n0_ n1_ n2_ n3_ n4_; (try clear hb); (try clear hb2); (try clear hk); (try clear hi))))
                        go_ret
                        exact ⟨by (first | rfl | (simp [errW_none, errW_some] <;> rfl) | (simp [*, errW_none, errW_some] <;> rfl)), by (repeat (first | (with_reducible first | exact HB.out | apply below_alloc | apply pw_below_drewN | apply below_drew1) | exact HB.out))⟩
                      · rw [if_neg c44] at H
                        have c44b0 : ((t186.length : Int) == 0) = false := beq_eq_false_iff_ne.mpr c44
                        have c44b1 : ((t186.length : Int) != 0) = true := bne_iff_ne.mpr c44
                        have c44b2 : ¬ (t186 = []) := fun h_ => c44 (by rw [h_]; rfl)
                        obtain rfl := Option.some.inj H
                        obtain ⟨Ao48, co48, eo48⟩ := Kd.R_slice HO_13.out
                        subst eo48
                        go_wp2
                        repeat (go_quiet (fail); try go_wp2)
                        go_ret
                        exact ⟨by (first | rfl | (simp [errW_none, errW_some] <;> rfl) | (simp [*, errW_none, errW_some] <;> rfl)), by (repeat (first | (with_reducible first | exact HB.out | apply below_alloc | apply pw_below_drewN | apply below_drew1) | exact HB.out))⟩
                  · replace c42 := Bool.eq_false_iff.mpr c42
                    subst c42
                    have H1 : (if t189 = 0 then (smithylaw04_LinesParts.j3 kj36 t169 t176 t181 t186 ((t186.length : Int) != (wrap64 ((t176.length : Int) + (t181.length : Int))))) else (smithylaw04_LinesParts.j3 kj36 t169 t176 t181 t186 true)) = some r := by rw [if_neg (show ¬ (false = true) by decide)] at H; exact H
                    clear H
                    have H := H1
                    clear H1
                    have HC49 := Aside0.mk H
                    clear H
                    go_upto_region 13 with (fail)
                    repeat (go_quiet (fail); go_upto_region 13 with (fail))
                    go_cut [112] (fun v112 wc => ∃ (kq : Nat) (x112_48 : Bool), v112 = .bool x112_48 ∧ Aside0 (smithylaw04_LinesParts.j3 kq t169 t176 t181 t186 x112_48 = some r) ∧ Aside0 (kq ≤ kj36) ∧ Aside0 (Kd.R Kd.string 9 wc w.heap.size (fun _ => True) (.slice Ao16 t169.length co16) t169) ∧ Aside0 (Kd.R k37 37 wc w.heap.size (fun k_ => some k_ ≠ (v182 : Value).ownBlock ∧ some k_ ≠ (v187 : Value).ownBlock) v177 t176) ∧ Aside0 (Kd.R k37 37 wc w.heap.size (fun k_ => some k_ ≠ (v177 : Value).ownBlock ∧ some k_ ≠ (v187 : Value).ownBlock) v182 t181) ∧ Aside0 (Kd.R k37 37 wc w.heap.size (fun k_ => some k_ ≠ (v177 : Value).ownBlock ∧ some k_ ≠ (v182 : Value).ownBlock) v187 t186) ∧ Aside0 (Below w.heap.size w wc))
                    case first =>
                      have H := HC49.out
                      clear HC49
                      by_cases c50 : t189 = 0
                      · rw [if_pos c50] at H
                        have c50b0 : (t189 == 0) = true := beq_iff_eq.mpr c50
                        have c50b1 : (t189 != 0) = false := bne_eq_false_iff_eq.mpr c50
                        clear c50
                        (first | rw [c50b0] | (simp only [i64_w, i32_w]; rw [c50b0]) | skip)
                        have H' := Aside0.mk H
                        clear H
                        obtain ⟨Ao51, co51, eo51⟩ := Kd.R_slice HO_13.out
                        subst eo51
                        obtain ⟨Ao52, co52, eo52⟩ := Kd.R_slice HO_7.out
                        subst eo52
                        obtain ⟨Ao53, co53, eo53⟩ := Kd.R_slice HO_10.out
                        subst eo53
                        go_wp2
                        repeat (go_quiet (fail); try go_wp2)
                        go_meet
                        case rel => exact ⟨_, (((t186.length : Int) != (wrap64 ((t176.length : Int) + (t181.length : Int))))), (by first | rfl | (simp; done) | (simp [*]; done)), (by first | exact H' | (subst_vars; exact H')), ⟨by have := HJ3.out; have := HJ14.out; have := HJ36.out; first | omega | exact Nat.le_refl _⟩, ⟨by ((with_reducible repeat (first | apply Kd.R_alloc | apply Kd.R_drewN | apply Kd.R_drew))); exact HO_5.out⟩, ⟨by ((with_reducible repeat (first | apply Kd.R_alloc | apply Kd.R_drewN | apply Kd.R_drew))); exact HO_7.out⟩, ⟨by ((with_reducible repeat (first | apply Kd.R_alloc | apply Kd.R_drewN | apply Kd.R_drew))); exact HO_10.out⟩, ⟨by ((with_reducible repeat (first | apply Kd.R_alloc | apply Kd.R_drewN | apply Kd.R_drew))); exact HO_13.out⟩, ⟨by (repeat (first | (with_reducible first | exact HB.out | apply below_alloc | apply pw_below_drewN | apply below_drew1) | exact HB.out))⟩⟩
                      · rw [if_neg c50] at H
                        have c50b0 : (t189 == 0) = false := beq_eq_false_iff_ne.mpr c50
                        have c50b1 : (t189 != 0) = true := bne_iff_ne.mpr c50
                        (first | rw [c50b0] | (simp only [i64_w, i32_w]; rw [c50b0]) | skip)
                        have H' := Aside0.mk H
                        clear H
                        go_wp2
                        repeat (go_quiet (fail); try go_wp2)
                        go_meet
                        case rel => exact ⟨_, (true), (by first | rfl | (simp; done) | (simp [*]; done)), (by first | exact H' | (subst_vars; exact H')), ⟨by have := HJ3.out; have := HJ14.out; have := HJ36.out; first | omega | exact Nat.le_refl _⟩, ⟨by ((with_reducible repeat (first | apply Kd.R_alloc | apply Kd.R_drewN | apply Kd.R_drew))); exact HO_5.out⟩, ⟨by ((with_reducible repeat (first | apply Kd.R_alloc | apply Kd.R_drewN | apply Kd.R_drew))); exact HO_7.out⟩, ⟨by ((with_reducible repeat (first | apply Kd.R_alloc | apply Kd.R_drewN | apply Kd.R_drew))); exact HO_10.out⟩, ⟨by ((with_reducible repeat (first | apply Kd.R_alloc | apply Kd.R_drewN | apply Kd.R_drew))); exact HO_13.out⟩, ⟨by (repeat (first | (with_reducible first | exact HB.out | apply below_alloc | apply pw_below_drewN | apply below_drew1) | exact HB.out))⟩⟩
                    case rest =>
                      clear HC49
                      try clear c1
                      try clear p1
                      try clear q1
                      try clear hx1
                      try clear c2
                      try clear p2
                      try clear q2
                      try clear hx2
                      try clear c3
                      try clear c4
                      try clear c5
                      try clear c6
                      try clear c6b0
                      try clear c6b1
                      try clear p6
                      try clear c8
                      try clear c8b0
                      try clear c9
                      try clear c9b0
                      try clear p10
                      try clear q10
                      try clear hx10
                      try clear c11
                      try clear c11b0
                      try clear c11b1
                      try clear c12
                      try clear c17
                      try clear c17b0
                      try clear c17b1
                      try clear p17
                      try clear q17
                      try clear hx17
                      try clear c19
                      try clear c19b0
                      try clear c20
                      try clear c20b0
                      try clear c22
                      try clear c22b0
                      try clear c22b1
                      try clear c24
                      try clear c24b0
                      try clear c25
                      try clear c25b0
                      try clear p26
                      try clear q26
                      try clear hx26
                      try clear c27
                      try clear c27b0
                      try clear c27b1
                      try clear c35
                      try clear c35b0
                      try clear c35b1
                      try clear c35b2
                      try clear c41
                      try clear c41b0
                      try clear c41b1
                      try clear c42
                      try clear c43
                      try clear c43b0
                      try clear c43b1
                      try clear c44
                      try clear c44b0
                      try clear c44b1
                      try clear c44b2
                      try clear c50
                      try clear c50b0
                      try clear c50b1
                      try clear hx173_0
                      try clear p1
                      try clear p10
                      try clear p17
                      try clear p173
                      try clear p2
                      try clear p26
                      try clear p6
                      try clear q1
                      try clear q10
                      try clear q17
                      try clear q173
                      try clear q2
                      try clear q26
                      obtain ⟨kq, x112_48, rfl, HA, HJ48, HO_5, HO_7, HO_10, HO_13, HB⟩ := hcut
                      cases kq with
                      | zero => exact absurd HA.out (by simp [smithylaw04_LinesParts.j3])
                      | succ kj48 =>
                        have H := HA.out
                        clear HA
                        simp only [smithylaw04_LinesParts.j3] at H
                        by_cases c54 : x112_48 = true
                        · subst c54
                          have H1 : (some false) = some r := by rw [if_pos rfl] at H; exact H
                          clear H
                          have H := H1
                          clear H1
                          obtain rfl := Option.some.inj H
                          go_wp2
                          repeat (go_quiet (fail); try go_wp2)
                          go_ret
                          exact ⟨by (first | rfl | (simp [errW_none, errW_some] <;> rfl) | (simp [*, errW_none, errW_some] <;> rfl)), by (repeat (first | (with_reducible first | exact HB.out | apply below_alloc | apply pw_below_drewN | apply below_drew1) | exact HB.out))⟩
                        · replace c54 := Bool.eq_false_iff.mpr c54
                          subst c54
                          have H1 : (smithylaw04_LinesParts.l0 kj48 t169 t176 t181 t186 0) = some r := by rw [if_neg (show ¬ (false = true) by decide)] at H; exact H
                          clear H
                          have H := H1
                          clear H1
                          have H' := Aside0.mk H
                          clear H
                          go_wp2
                          repeat (go_quiet (fail); try go_wp2)
                          go_loopg [16] kj48 (fun kq v16 w' => ∃ (x16_5 : Int), v16 = .int .i64 x16_5 ∧ Aside0 (smithylaw04_LinesParts.l0 kq t169 t176 t181 t186 x16_5 = some r) ∧ Aside0 (kq ≤ kj48) ∧ Aside0 (Kd.R Kd.string 9 w' w.heap.size (fun _ => True) (.slice Ao16 t169.length co16) t169) ∧ Aside0 (Kd.R k37 37 w' w.heap.size (fun k_ => some k_ ≠ (v182 : Value).ownBlock ∧ some k_ ≠ (v187 : Value).ownBlock) v177 t176) ∧ Aside0 (Kd.R k37 37 w' w.heap.size (fun k_ => some k_ ≠ (v177 : Value).ownBlock ∧ some k_ ≠ (v187 : Value).ownBlock) v182 t181) ∧ Aside0 (Kd.R k37 37 w' w.heap.size (fun k_ => some k_ ≠ (v177 : Value).ownBlock ∧ some k_ ≠ (v182 : Value).ownBlock) v187 t186) ∧ Aside0 (Below w.heap.size w w'))
                          case atStart => exact ⟨(0), (by first | rfl | (simp; done) | (simp [*]; done)), H', ⟨Nat.le_refl _⟩, ⟨by ((with_reducible repeat (first | apply Kd.R_alloc | apply Kd.R_drewN | apply Kd.R_drew))); exact HO_5.out⟩, ⟨by ((with_reducible repeat (first | apply Kd.R_alloc | apply Kd.R_drewN | apply Kd.R_drew))); exact HO_7.out⟩, ⟨by ((with_reducible repeat (first | apply Kd.R_alloc | apply Kd.R_drewN | apply Kd.R_drew))); exact HO_10.out⟩, ⟨by ((with_reducible repeat (first | apply Kd.R_alloc | apply Kd.R_drewN | apply Kd.R_drew))); exact HO_13.out⟩, ⟨by (repeat (first | (with_reducible first | exact HB.out | apply below_alloc | apply pw_below_drewN | apply below_drew1) | exact HB.out))⟩⟩
                          case round =>
                            clear H'
                            try clear c1
                            try clear p1
                            try clear q1
                            try clear hx1
                            try clear c2
                            try clear p2
                            try clear q2
                            try clear hx2
                            try clear c3
                            try clear c4
                            try clear c5
                            try clear c6
                            try clear c6b0
                            try clear c6b1
                            try clear p6
                            try clear c8
                            try clear c8b0
                            try clear c9
                            try clear c9b0
                            try clear p10
                            try clear q10
                            try clear hx10
                            try clear c11
                            try clear c11b0
                            try clear c11b1
                            try clear c12
                            try clear c17
                            try clear c17b0
                            try clear c17b1
                            try clear p17
                            try clear q17
                            try clear hx17
                            try clear c19
                            try clear c19b0
                            try clear c20
                            try clear c20b0
                            try clear c22
                            try clear c22b0
                            try clear c22b1
                            try clear c24
                            try clear c24b0
                            try clear c25
                            try clear c25b0
                            try clear p26
                            try clear q26
                            try clear hx26
                            try clear c27
                            try clear c27b0
                            try clear c27b1
                            try clear c35
                            try clear c35b0
                            try clear c35b1
                            try clear c35b2
                            try clear c41
                            try clear c41b0
                            try clear c41b1
                            try clear c42
                            try clear c43
                            try clear c43b0
                            try clear c43b1
                            try clear c44
                            try clear c44b0
                            try clear c44b1
                            try clear c44b2
                            try clear c50
                            try clear c50b0
                            try clear c50b1
                            try clear c54
                            try clear hx173_0
                            try clear p1
                            try clear p10
                            try clear p17
                            try clear p173
                            try clear p2
                            try clear p26
                            try clear p6
                            try clear q1
                            try clear q10
                            try clear q17
                            try clear q173
                            try clear q2
                            try clear q26
                            obtain ⟨x16_5, rfl, HA, HK5, HO_5, HO_7, HO_10, HO_13, HB⟩ := hrel
                            cases gk with
                            | zero => exact absurd HA.out (by simp [smithylaw04_LinesParts.l0])
                            | succ k5 =>
                              have H := HA.out
                              clear HA
                              simp only [smithylaw04_LinesParts.l0] at H
                              by_cases c55 : x16_5 < (t186.length : Int)
                              · rw [if_pos c55] at H
                                have c55b0 : decide (x16_5 < (t186.length : Int)) = true := decide_eq_true c55
                                clear c55
                                by_cases c56 : x16_5 < (t176.length : Int)
                                · rw [if_pos c56] at H
                                  have c56b0 : decide (x16_5 < (t176.length : Int)) = true := decide_eq_true c56
                                  clear c56
                                  by_cases c57 : 0 ≤ x16_5
                                  · rw [if_pos c57] at H
                                    have c57b0 : decide (0 ≤ x16_5) = true := decide_eq_true c57
                                    clear c57
                                    obtain ⟨Ao59, co59, eo59⟩ := Kd.R_slice HO_13.out
                                    subst eo59
                                    obtain ⟨Ao62, co62, eo62⟩ := Kd.R_slice HO_7.out
                                    subst eo62
                                    have p194 : 0 ≤ (x16_5 : Int) := of_decide_eq_true c57b0
                                    have q194 : x16_5 < (t176.length : Int) := of_decide_eq_true c56b0
                                    have q195 : x16_5 < (t186.length : Int) := of_decide_eq_true c55b0
                                    obtain ⟨ad194, e194, hx194_0, hx194_1, hx194_2, hx194_3⟩ := at_T37 (Kd.R_reads' HO_7.out).2.2 x16_5 p194 q194
                                    cases e194
                                    obtain ⟨ad195, e195, hx195_0, hx195_1, hx195_2, hx195_3⟩ := at_T37 (Kd.R_reads' HO_13.out).2.2 x16_5 p194 q195
                                    cases e195
                                    have hy194_0 := fun o => cell_old hx194_0 o
                                    have hy194_1 := fun o => cell_old hx194_1 o
                                    have hy194_2 := fun o => cell_old hx194_2 o
                                    have hy194_3 := fun o => cell_old hx194_3 o
                                    have hy195_0 := fun o => cell_old hx195_0 o
                                    have hy195_1 := fun o => cell_old hx195_1 o
                                    have hy195_2 := fun o => cell_old hx195_2 o
                                    have hy195_3 := fun o => cell_old hx195_3 o
                                    clear hx194_0 hx194_1 hx194_2 hx194_3 hx195_0 hx195_1 hx195_2 hx195_3
                                    by_cases c58 : (!((((rd_T37 t186 x16_5).f0).toList) == (((rd_T37 t176 x16_5).f0).toList)) || (!(((rd_T37 t186 x16_5).f1) == ((rd_T37 t176 x16_5).f1)) || (!(((rd_T37 t186 x16_5).f2) == ((rd_T37 t176 x16_5).f2)) || (!((((rd_T37 t186 x16_5).f3).toList) == (((rd_T37 t176 x16_5).f3).toList)))))) = true
                                    · rw [if_pos c58] at H
                                      obtain rfl := Option.some.inj H
                                      go_wp2_with fail
                                      repeat (go_quiet (fail); try go_wp2)
                                      go_ret
                                      exact ⟨by (first | rfl | (simp [errW_none, errW_some] <;> rfl) | (simp [*, errW_none, errW_some] <;> rfl)), by (repeat (first | (with_reducible first | exact HB.out | apply below_alloc | apply pw_below_drewN | apply below_drew1) | exact HB.out))⟩
                                    · rw [if_neg c58] at H
                                      have c58b0 : (!((((rd_T37 t186 x16_5).f0).toList) == (((rd_T37 t176 x16_5).f0).toList)) || (!(((rd_T37 t186 x16_5).f1) == ((rd_T37 t176 x16_5).f1)) || (!(((rd_T37 t186 x16_5).f2) == ((rd_T37 t176 x16_5).f2)) || (!((((rd_T37 t186 x16_5).f3).toList) == (((rd_T37 t176 x16_5).f3).toList)))))) = false := by simpa using c58
                                      clear c58
                                      have H' := Aside0.mk H
                                      clear H
                                      go_wp2_with fail
                                      repeat (go_quiet (fail); try go_wp2)
                                      go_roundg k5
                                      case measure => have := HJ3.out; have := HJ14.out; have := HJ36.out; have := HJ48.out; have := HK5.out; omega
                                      case rel => exact ⟨(wrap64 (x16_5 + 1)), (by first | rfl | (simp; done) | (simp [*]; done)), (by first | exact H' | (subst_vars; exact H')), ⟨by have := HJ3.out; have := HJ14.out; have := HJ36.out; have := HJ48.out; have := HK5.out; omega⟩, ⟨by ((with_reducible repeat (first | apply Kd.R_alloc | apply Kd.R_drewN | apply Kd.R_drew))); exact HO_5.out⟩, ⟨by ((with_reducible repeat (first | apply Kd.R_alloc | apply Kd.R_drewN | apply Kd.R_drew))); exact HO_7.out⟩, ⟨by ((with_reducible repeat (first | apply Kd.R_alloc | apply Kd.R_drewN | apply Kd.R_drew))); exact HO_10.out⟩, ⟨by ((with_reducible repeat (first | apply Kd.R_alloc | apply Kd.R_drewN | apply Kd.R_drew))); exact HO_13.out⟩, ⟨by (repeat (first | (with_reducible first | exact HB.out | apply below_alloc | apply pw_below_drewN | apply below_drew1) | exact HB.out))⟩⟩
                                  · rw [if_neg c57] at H
                                    exact absurd H (by simp)
                                · rw [if_neg c56] at H
                                  have c56b0 : decide (x16_5 < (t176.length : Int)) = false := decide_eq_false c56
                                  clear c56
                                  obtain ⟨ji67, hji67⟩ : ∃ j_ : Int, (wrap64 (x16_5 - (t176.length : Int))) = j_ := ⟨_, rfl⟩
                                  replace H : (if 0 ≤ (ji67) then (if (ji67) < (t181.length : Int) then (if 0 ≤ x16_5 then (if (!((((rd_T37 t186 x16_5).f0).toList) == (((rd_T37 t181 (ji67)).f0).toList)) || (!(((rd_T37 t186 x16_5).f1) == (wrap64 (((rd_T37 t181 (ji67)).f1) + (t169.length : Int)))) || (!(((rd_T37 t186 x16_5).f2) == ((rd_T37 t181 (ji67)).f2)) || (!((((rd_T37 t186 x16_5).f3).toList) == (((rd_T37 t181 (ji67)).f3).toList)))))) = true then (some false) else (smithylaw04_LinesParts.l0 k5 t169 t176 t181 t186 (wrap64 (x16_5 + 1)))) else (none)) else (none)) else (none)) = some r := by first | (rw [hji67] at H; exact H) | (simp only [hji67] at H ⊢; exact H)
                                  have hji67w : (IntKind.i64.wrap (x16_5 - (t176.length : Int))) = ji67 := (i64_w _).trans hji67
                                  by_cases c68 : 0 ≤ (ji67)
                                  · rw [if_pos c68] at H
                                    have c68b0 : decide (0 ≤ (ji67)) = true := decide_eq_true c68
                                    clear c68
                                    by_cases c69 : (ji67) < (t181.length : Int)
                                    · rw [if_pos c69] at H
                                      have c69b0 : decide ((ji67) < (t181.length : Int)) = true := decide_eq_true c69
                                      clear c69
                                      by_cases c70 : 0 ≤ x16_5
                                      · rw [if_pos c70] at H
                                        have c70b0 : decide (0 ≤ x16_5) = true := decide_eq_true c70
                                        clear c70
                                        obtain ⟨Ao59, co59, eo59⟩ := Kd.R_slice HO_13.out
                                        subst eo59
                                        obtain ⟨Ao61, co61, eo61⟩ := Kd.R_slice HO_7.out
                                        subst eo61
                                        obtain ⟨Ao62, co62, eo62⟩ := Kd.R_slice HO_10.out
                                        subst eo62
                                        have p194 : 0 ≤ (ji67 : Int) := of_decide_eq_true c68b0
                                        have q194 : ji67 < (t181.length : Int) := of_decide_eq_true c69b0
                                        have p195 : 0 ≤ (x16_5 : Int) := of_decide_eq_true c70b0
                                        have q195 : x16_5 < (t186.length : Int) := of_decide_eq_true c55b0
                                        obtain ⟨ad194, e194, hx194_0, hx194_1, hx194_2, hx194_3⟩ := at_T37 (Kd.R_reads' HO_10.out).2.2 ji67 p194 q194
                                        cases e194
                                        obtain ⟨ad195, e195, hx195_0, hx195_1, hx195_2, hx195_3⟩ := at_T37 (Kd.R_reads' HO_13.out).2.2 x16_5 p195 q195
                                        cases e195
                                        have hy194_0 := fun o => cell_old hx194_0 o
                                        have hy194_1 := fun o => cell_old hx194_1 o
                                        have hy194_2 := fun o => cell_old hx194_2 o
                                        have hy194_3 := fun o => cell_old hx194_3 o
                                        have hy195_0 := fun o => cell_old hx195_0 o
                                        have hy195_1 := fun o => cell_old hx195_1 o
                                        have hy195_2 := fun o => cell_old hx195_2 o
                                        have hy195_3 := fun o => cell_old hx195_3 o
                                        clear hx194_0 hx194_1 hx194_2 hx194_3 hx195_0 hx195_1 hx195_2 hx195_3
                                        by_cases c71 : (!((((rd_T37 t186 x16_5).f0).toList) == (((rd_T37 t181 (ji67)).f0).toList)) || (!(((rd_T37 t186 x16_5).f1) == (wrap64 (((rd_T37 t181 (ji67)).f1) + (t169.length : Int)))) || (!(((rd_T37 t186 x16_5).f2) == ((rd_T37 t181 (ji67)).f2)) || (!((((rd_T37 t186 x16_5).f3).toList) == (((rd_T37 t181 (ji67)).f3).toList)))))) = true
                                        · rw [if_pos c71] at H
                                          obtain rfl := Option.some.inj H
                                          go_wp2_with fail
                                          repeat (go_quiet (fail); try go_wp2)
                                          go_ret
                                          exact ⟨by (first | rfl | (simp [errW_none, errW_some] <;> rfl) | (simp [*, errW_none, errW_some] <;> rfl)), by (repeat (first | (with_reducible first | exact HB.out | apply below_alloc | apply pw_below_drewN | apply below_drew1) | exact HB.out))⟩
                                        · rw [if_neg c71] at H
                                          have c71b0 : (!((((rd_T37 t186 x16_5).f0).toList) == (((rd_T37 t181 (ji67)).f0).toList)) || (!(((rd_T37 t186 x16_5).f1) == (wrap64 (((rd_T37 t181 (ji67)).f1) + (t169.length : Int)))) || (!(((rd_T37 t186 x16_5).f2) == ((rd_T37 t181 (ji67)).f2)) || (!((((rd_T37 t186 x16_5).f3).toList) == (((rd_T37 t181 (ji67)).f3).toList)))))) = false := by simpa using c71
                                          clear c71
                                          have H' := Aside0.mk H
                                          clear H
                                          go_wp2_with fail
                                          repeat (go_quiet (fail); try go_wp2)
                                          go_roundg k5
                                          case measure => have := HJ3.out; have := HJ14.out; have := HJ36.out; have := HJ48.out; have := HK5.out; omega
                                          case rel => exact ⟨(wrap64 (x16_5 + 1)), (by first | rfl | (simp; done) | (simp [*]; done)), (by first | exact H' | (subst_vars; exact H')), ⟨by have := HJ3.out; have := HJ14.out; have := HJ36.out; have := HJ48.out; have := HK5.out; omega⟩, ⟨by ((with_reducible repeat (first | apply Kd.R_alloc | apply Kd.R_drewN | apply Kd.R_drew))); exact HO_5.out⟩, ⟨by ((with_reducible repeat (first | apply Kd.R_alloc | apply Kd.R_drewN | apply Kd.R_drew))); exact HO_7.out⟩, ⟨by ((with_reducible repeat (first | apply Kd.R_alloc | apply Kd.R_drewN | apply Kd.R_drew))); exact HO_10.out⟩, ⟨by ((with_reducible repeat (first | apply Kd.R_alloc | apply Kd.R_drewN | apply Kd.R_drew))); exact HO_13.out⟩, ⟨by (repeat (first | (with_reducible first | exact HB.out | apply below_alloc | apply pw_below_drewN | apply below_drew1) | exact HB.out))⟩⟩
                                      · rw [if_neg c70] at H
                                        exact absurd H (by simp)
                                    · rw [if_neg c69] at H
                                      exact absurd H (by simp)
                                  · rw [if_neg c68] at H
                                    exact absurd H (by simp)
                              · rw [if_neg c55] at H
                                have c55b0 : decide (x16_5 < (t186.length : Int)) = false := decide_eq_false c55
                                clear c55
                                replace H := Option.bind_eq_some_iff.mp H
                                obtain ⟨t192, A820, H⟩ := H
                                replace H : (some t192) = some r := H
                                have A82 := Aside0.mk A820
                                clear A820
                                obtain rfl := Option.some.inj H
                                obtain ⟨Ao83, co83, eo83⟩ := Kd.R_slice HO_13.out
                                subst eo83
                                go_wp2_with (first | (go_at_call 11; (with_reducible refine (smithylaw04_speaks.calls k5  t192 _ A82.out).mono ?_); rintro e w84 ⟨rfl, hb⟩; have n0_ := Aside0.mk (Kd.R_below (by ((with_reducible repeat (first | apply Kd.R_alloc | apply Kd.R_drewN | apply Kd.R_drew))); exact HO_5.out) hb); have n1_ := Aside0.mk (Kd.R_below (by ((with_reducible repeat (first | apply Kd.R_alloc | apply Kd.R_drewN | apply Kd.R_drew))); exact HO_7.out) hb); have n2_ := Aside0.mk (Kd.R_below (by ((with_reducible repeat (first | apply Kd.R_alloc | apply Kd.R_drewN | apply Kd.R_drew))); exact HO_10.out) hb); have n3_ := Aside0.mk (Kd.R_below (by ((with_reducible repeat (first | apply Kd.R_alloc | apply Kd.R_drewN | apply Kd.R_drew))); exact HO_13.out) hb); have n4_ := Aside0.mk (below_step (by (repeat (first | (with_reducible first | exact HB.out | apply below_alloc | apply pw_below_drewN | apply below_drew1) | exact HB.out))) hb); clear HO_5; clear HO_7; clear HO_10; clear HO_13; clear HB; have HO_5 := n0_; have HO_7 := n1_; have HO_10 := n2_; have HO_13 := n3_; have HB := n4_; clear n0_ n1_ n2_ n3_ n4_; (try clear hb); (try clear hb2); (try clear hk); (try clear hi)))
                                repeat (go_quiet (first | (go_at_call 11; (with_reducible refine (smithylaw04_speaks.calls k5  t192 _ A82.out).mono ?_); rintro e w84 ⟨rfl, hb⟩; have n0_ := Aside0.mk (Kd.R_below (by ((with_reducible repeat (first | apply Kd.R_alloc | apply Kd.R_drewN | apply Kd.R_drew))); exact HO_5.out) hb); have n1_ := Aside0.mk (Kd.R_below (by ((with_reducible repeat (first | apply Kd.R_alloc | apply Kd.R_drewN | apply Kd.R_drew))); exact HO_7.out) hb); have n2_ := Aside0.mk (Kd.R_below (by ((with_reducible repeat (first | apply Kd.R_alloc | apply Kd.R_drewN | apply Kd.R_drew))); exact HO_10.out) hb); have n3_ := Aside0.mk (Kd.R_below (by ((with_reducible repeat (first | apply Kd.R_alloc | apply Kd.R_drewN | apply Kd.R_drew))); exact HO_13.out) hb); have n4_ := Aside0.mk (below_step (by (repeat (first | (with_reducible first | exact HB.out | apply below_alloc | apply pw_below_drewN | apply below_drew1) | exact HB.out))) hb); clear HO_5; clear HO_7; clear HO_10; clear HO_13; clear HB; have HO_5 := n0_; have HO_7 := n1_; have HO_10 := n2_; have HO_13 := n3_; have HB := n4_; clear n0_ n1_ n2_ n3_ n4_; (try clear hb); (try clear hb2); (try clear hk); (try clear hi))); try go_wp2_with (first | (go_at_call 11; (with_reducible refine (smithylaw04_speaks.calls k5  t192 _ A82.out).mono ?_); rintro e w84 ⟨rfl, hb⟩; have n0_ := Aside0.mk (Kd.R_below (by ((with_reducible repeat (first | apply Kd.R_alloc | apply Kd.R_drewN | apply Kd.R_drew))); exact HO_5.out) hb); have n1_ := Aside0.mk (Kd.R_below (by ((with_reducible repeat (first | apply Kd.R_alloc | apply Kd.R_drewN | apply Kd.R_drew))); exact HO_7.out) hb); have n2_ := Aside0.mk (Kd.R_below (by ((with_reducible repeat (first | apply Kd.R_alloc | apply Kd.R_drewN | apply Kd.R_drew))); exact HO_10.out) hb); have n3_ := Aside0.mk (Kd.R_below (by ((with_reducible repeat (first | apply Kd.R_alloc | apply Kd.R_drewN | apply Kd.R_drew))); exact HO_13.out) hb); have n4_ := Aside0.mk (below_step (by (repeat (first | (with_reducible first | exact HB.out | apply below_alloc | apply pw_below_drewN | apply below_drew1) | exact HB.out))) hb); clear HO_5; clear HO_7; clear HO_10; clear HO_13; clear HB; have HO_5 := n0_; have HO_7 := n1_; have HO_10 := n2_; have HO_13 := n3_; have HB := n4_; clear n0_ n1_ n2_ n3_ n4_; (try clear hb); (try clear hb2); (try clear hk); (try clear hi))))
                                go_ret
                                exact ⟨by (first | rfl | (simp [errW_none, errW_some] <;> rfl) | (simp [*, errW_none, errW_some] <;> rfl)), by (repeat (first | (with_reducible first | exact HB.out | apply below_alloc | apply pw_below_drewN | apply below_drew1) | exact HB.out))⟩
            · rw [if_neg c35] at H
              exact absurd H (by simp)

/-- THE ONE PURE STATEMENT of smithylaw04_LinesParts: yours. -/
def smithylaw04_LinesParts.Pure : Prop := ∀ (a0 : ByteArray) (a1 : ByteArray), a0.size ≤ 140737488351232 → a1.size ≤ 140737488351232 → ∃ k, smithylaw04_LinesParts.f k a0 a1 = some true
theorem smithylaw04_LinesParts.walk (P : smithylaw04_LinesParts.Pure) (a0 : ByteArray) (a1 : ByteArray) (w : World) (w0 : a0.size ≤ 140737488351232) (w1 : a1.size ≤ 140737488351232) :
    Calls Tryd.prog 4 #[.string a0, .string a1] w fun e w' => e = .returned (.bool true) ∧ Below w.heap.size w w' := by
  obtain ⟨k, h⟩ := P a0 a1 w0 w1
  refine (smithylaw04_LinesParts.calls k a0 a1 true w h).mono ?_
  rintro e w' ⟨rfl, hd⟩
  exact ⟨rfl, hd⟩

end Go.Proofs.YtoclolaljaiogaaDoor.PX
