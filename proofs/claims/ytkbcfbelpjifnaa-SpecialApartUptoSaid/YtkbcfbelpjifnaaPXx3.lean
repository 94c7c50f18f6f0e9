-- Printed by this session's own program (wip/tools/xprint.py) out of the translation. Lean checks it.
import Derived.Test.YtkbcfbelpjifnaaPXx0
import Derived.Test.YtkbcfbelpjifnaaPXx1
attribute [-simp] ByteArray.size_extract
namespace Go.Proofs.Ytkbcfbelpjifnaa.PX
open Go.RowKit Go.Proofs.YtkbcfbelpjifnaaW.PrintWords Go.Proofs.YtkbcfbelpjifnaaW.PrintLast Go.Proofs.YtkbcfbelpjifnaaW.PrintMore
attribute [local go_sem] max2_int min2_int max_two min_two max_three min_three max_four min_four   -- for this text's walks alone
set_option linter.unusedVariables false
set_option linter.unusedSimpArgs false

/-! ### smithylaw08_same: function 14 -/
def smithylaw08_same.j0 : Nat → Bool → List ByteArray → List ByteArray → List ByteArray → List ByteArray → List ByteArray → Bool → Bool → Bool → List ByteArray → Bool → List ByteArray → List ByteArray → List ByteArray → List ByteArray → List ByteArray → Bool → Bool → Bool → List ByteArray → Bool → Option (Bool)
  | 0, _, _, _, _, _, _, _, _, _, _, _, _, _, _, _, _, _, _, _, _, _ => none
  | k + 1, x30, x151000, x151001, x151002, x151003, x151004, x151005, x151006, x151007, x151008, x151009, x152000, x152001, x152002, x152003, x152004, x152005, x152006, x152007, x152008, x152009 => if x30 = true then (some false) else ((smithyplain_Texts.f k x151000 x152000).bind fun t152 => (if t152 = true then ((smithyplain_Texts.f k x151001 x152001).bind fun t153 => (if t153 = true then ((smithyplain_Texts.f k x151002 x152002).bind fun t154 => (if t154 = true then ((smithyplain_Texts.f k x151003 x152003).bind fun t155 => (if t155 = true then ((smithyplain_Texts.f k x151004 x152004).bind fun t156 => (if t156 = true then ((smithyplain_Texts.f k x151008 x152008).bind fun t157 => (some t157)) else (some false))) else (some false))) else (some false))) else (some false))) else (some false)))
def smithylaw08_same.f (k : Nat) (l0_0 : List ByteArray) (l0_1 : List ByteArray) (l0_2 : List ByteArray) (l0_3 : List ByteArray) (l0_4 : List ByteArray) (a0_5 : Bool) (a0_6 : Bool) (a0_7 : Bool) (l0_8 : List ByteArray) (a0_9 : Bool) (l1_0 : List ByteArray) (l1_1 : List ByteArray) (l1_2 : List ByteArray) (l1_3 : List ByteArray) (l1_4 : List ByteArray) (a1_5 : Bool) (a1_6 : Bool) (a1_7 : Bool) (l1_8 : List ByteArray) (a1_9 : Bool) : Option (Bool) := if (a0_5 != a1_5) = true then (smithylaw08_same.j0 k true l0_0 l0_1 l0_2 l0_3 l0_4 a0_5 a0_6 a0_7 l0_8 a0_9 l1_0 l1_1 l1_2 l1_3 l1_4 a1_5 a1_6 a1_7 l1_8 a1_9) else (if (a0_6 != a1_6) = true then (smithylaw08_same.j0 k true l0_0 l0_1 l0_2 l0_3 l0_4 a0_5 a0_6 a0_7 l0_8 a0_9 l1_0 l1_1 l1_2 l1_3 l1_4 a1_5 a1_6 a1_7 l1_8 a1_9) else (if (a0_7 != a1_7) = true then (smithylaw08_same.j0 k true l0_0 l0_1 l0_2 l0_3 l0_4 a0_5 a0_6 a0_7 l0_8 a0_9 l1_0 l1_1 l1_2 l1_3 l1_4 a1_5 a1_6 a1_7 l1_8 a1_9) else (smithylaw08_same.j0 k (a0_9 != a1_9) l0_0 l0_1 l0_2 l0_3 l0_4 a0_5 a0_6 a0_7 l0_8 a0_9 l1_0 l1_1 l1_2 l1_3 l1_4 a1_5 a1_6 a1_7 l1_8 a1_9)))
theorem smithylaw08_same.mono_l : ∀ k, (∀ y0 y1 y2 y3 y4 y5 y6 y7 y8 y9 y10 y11 y12 y13 y14 y15 y16 y17 y18 y19 y20, LeO (smithylaw08_same.j0 k y0 y1 y2 y3 y4 y5 y6 y7 y8 y9 y10 y11 y12 y13 y14 y15 y16 y17 y18 y19 y20) (smithylaw08_same.j0 (k + 1) y0 y1 y2 y3 y4 y5 y6 y7 y8 y9 y10 y11 y12 y13 y14 y15 y16 y17 y18 y19 y20))
  | 0 => fun _ _ _ _ _ _ _ _ _ _ _ _ _ _ _ _ _ _ _ _ _ r h => by simp [smithylaw08_same.j0] at h
  | k + 1 => by
    have ih0 := smithylaw08_same.mono_l k
    · intro y0 y1 y2 y3 y4 y5 y6 y7 y8 y9 y10 y11 y12 y13 y14 y15 y16 y17 y18 y19 y20
      unfold smithylaw08_same.j0
      repeat' first
      | (with_reducible exact ih0 _ _ _ _ _ _ _ _ _ _ _ _ _ _ _ _ _ _ _ _ _)
      | (with_reducible exact smithyplain_Texts.mono _ _ _)
      | (with_reducible exact LeO.refl _)
      | (with_reducible exact LeO.none _)
      | (with_reducible refine LeO.ite ?_ ?_)
      | (with_reducible refine LeO.bind ?_ (fun _ => ?_))
      | exact ih0 _ _ _ _ _ _ _ _ _ _ _ _ _ _ _ _ _ _ _ _ _
      | exact smithyplain_Texts.mono _ _ _
      | exact LeO.none _
      | refine LeO.ite ?_ ?_
      | refine LeO.bind ?_ (fun _ => ?_)
theorem smithylaw08_same.mono : ∀ a0 a1 a2 a3 a4 a5 a6 a7 a8 a9 a10 a11 a12 a13 a14 a15 a16 a17 a18 a19 k, LeO (smithylaw08_same.f k a0 a1 a2 a3 a4 a5 a6 a7 a8 a9 a10 a11 a12 a13 a14 a15 a16 a17 a18 a19) (smithylaw08_same.f (k + 1) a0 a1 a2 a3 a4 a5 a6 a7 a8 a9 a10 a11 a12 a13 a14 a15 a16 a17 a18 a19) := by
  intro a0 a1 a2 a3 a4 a5 a6 a7 a8 a9 a10 a11 a12 a13 a14 a15 a16 a17 a18 a19 k
  have ih0 := smithylaw08_same.mono_l k
  unfold smithylaw08_same.f
  repeat' first
      | (with_reducible exact ih0 _ _ _ _ _ _ _ _ _ _ _ _ _ _ _ _ _ _ _ _ _)
      | (with_reducible exact smithyplain_Texts.mono _ _ _)
      | (with_reducible exact LeO.refl _)
      | (with_reducible exact LeO.none _)
      | (with_reducible refine LeO.ite ?_ ?_)
      | (with_reducible refine LeO.bind ?_ (fun _ => ?_))
      | exact ih0 _ _ _ _ _ _ _ _ _ _ _ _ _ _ _ _ _ _ _ _ _
      | exact smithyplain_Texts.mono _ _ _
      | exact LeO.none _
      | refine LeO.ite ?_ ?_
      | refine LeO.bind ?_ (fun _ => ?_)
set_option maxHeartbeats 8000000 in
set_option maxRecDepth 100000 in
theorem smithylaw08_same.calls (k : Nat) (A0_0 : Option Addr) (c0_0 : Nat) (l0_0 : List ByteArray) (A0_1 : Option Addr) (c0_1 : Nat) (l0_1 : List ByteArray) (A0_2 : Option Addr) (c0_2 : Nat) (l0_2 : List ByteArray) (A0_3 : Option Addr) (c0_3 : Nat) (l0_3 : List ByteArray) (A0_4 : Option Addr) (c0_4 : Nat) (l0_4 : List ByteArray) (a0_5 : Bool) (a0_6 : Bool) (a0_7 : Bool) (A0_8 : Option Addr) (c0_8 : Nat) (l0_8 : List ByteArray) (a0_9 : Bool) (A1_0 : Option Addr) (c1_0 : Nat) (l1_0 : List ByteArray) (A1_1 : Option Addr) (c1_1 : Nat) (l1_1 : List ByteArray) (A1_2 : Option Addr) (c1_2 : Nat) (l1_2 : List ByteArray) (A1_3 : Option Addr) (c1_3 : Nat) (l1_3 : List ByteArray) (A1_4 : Option Addr) (c1_4 : Nat) (l1_4 : List ByteArray) (a1_5 : Bool) (a1_6 : Bool) (a1_7 : Bool) (A1_8 : Option Addr) (c1_8 : Nat) (l1_8 : List ByteArray) (a1_9 : Bool) (r : Bool) (w : World) (hr0_0 : Kd.C Kd.string w A0_0 l0_0.length l0_0) (hc0_0 : l0_0.length ≤ c0_0) (hr0_1 : Kd.C Kd.string w A0_1 l0_1.length l0_1) (hc0_1 : l0_1.length ≤ c0_1) (hr0_2 : Kd.C Kd.string w A0_2 l0_2.length l0_2) (hc0_2 : l0_2.length ≤ c0_2) (hr0_3 : Kd.C Kd.string w A0_3 l0_3.length l0_3) (hc0_3 : l0_3.length ≤ c0_3) (hr0_4 : Kd.C Kd.string w A0_4 l0_4.length l0_4) (hc0_4 : l0_4.length ≤ c0_4) (hr0_8 : Kd.C Kd.string w A0_8 l0_8.length l0_8) (hc0_8 : l0_8.length ≤ c0_8) (hr1_0 : Kd.C Kd.string w A1_0 l1_0.length l1_0) (hc1_0 : l1_0.length ≤ c1_0) (hr1_1 : Kd.C Kd.string w A1_1 l1_1.length l1_1) (hc1_1 : l1_1.length ≤ c1_1) (hr1_2 : Kd.C Kd.string w A1_2 l1_2.length l1_2) (hc1_2 : l1_2.length ≤ c1_2) (hr1_3 : Kd.C Kd.string w A1_3 l1_3.length l1_3) (hc1_3 : l1_3.length ≤ c1_3) (hr1_4 : Kd.C Kd.string w A1_4 l1_4.length l1_4) (hc1_4 : l1_4.length ≤ c1_4) (hr1_8 : Kd.C Kd.string w A1_8 l1_8.length l1_8) (hc1_8 : l1_8.length ≤ c1_8) (h : smithylaw08_same.f k l0_0 l0_1 l0_2 l0_3 l0_4 a0_5 a0_6 a0_7 l0_8 a0_9 l1_0 l1_1 l1_2 l1_3 l1_4 a1_5 a1_6 a1_7 l1_8 a1_9 = some r) :
    Calls Try.prog 14 #[.agg #[.slice A0_0 l0_0.length c0_0, .slice A0_1 l0_1.length c0_1, .slice A0_2 l0_2.length c0_2, .slice A0_3 l0_3.length c0_3, .slice A0_4 l0_4.length c0_4, .bool a0_5, .bool a0_6, .bool a0_7, .slice A0_8 l0_8.length c0_8, .bool a0_9], .agg #[.slice A1_0 l1_0.length c1_0, .slice A1_1 l1_1.length c1_1, .slice A1_2 l1_2.length c1_2, .slice A1_3 l1_3.length c1_3, .slice A1_4 l1_4.length c1_4, .bool a1_5, .bool a1_6, .bool a1_7, .slice A1_8 l1_8.length c1_8, .bool a1_9]] w fun e w' => e = .returned (.bool r) ∧ Below w.heap.size w w' := by
  have hu38 := Try.underlying38
  have HR0_0 := Aside0.mk hr0_0
  have HC0_0 := Aside0.mk hc0_0
  clear hr0_0 hc0_0
  have HR0_1 := Aside0.mk hr0_1
  have HC0_1 := Aside0.mk hc0_1
  clear hr0_1 hc0_1
  have HR0_2 := Aside0.mk hr0_2
  have HC0_2 := Aside0.mk hc0_2
  clear hr0_2 hc0_2
  have HR0_3 := Aside0.mk hr0_3
  have HC0_3 := Aside0.mk hc0_3
  clear hr0_3 hc0_3
  have HR0_4 := Aside0.mk hr0_4
  have HC0_4 := Aside0.mk hc0_4
  clear hr0_4 hc0_4
  have HR0_8 := Aside0.mk hr0_8
  have HC0_8 := Aside0.mk hc0_8
  clear hr0_8 hc0_8
  have HR1_0 := Aside0.mk hr1_0
  have HC1_0 := Aside0.mk hc1_0
  clear hr1_0 hc1_0
  have HR1_1 := Aside0.mk hr1_1
  have HC1_1 := Aside0.mk hc1_1
  clear hr1_1 hc1_1
  have HR1_2 := Aside0.mk hr1_2
  have HC1_2 := Aside0.mk hc1_2
  clear hr1_2 hc1_2
  have HR1_3 := Aside0.mk hr1_3
  have HC1_3 := Aside0.mk hc1_3
  clear hr1_3 hc1_3
  have HR1_4 := Aside0.mk hr1_4
  have HC1_4 := Aside0.mk hc1_4
  clear hr1_4 hc1_4
  have HR1_8 := Aside0.mk hr1_8
  have HC1_8 := Aside0.mk hc1_8
  clear hr1_8 hc1_8
  have HB := Aside0.mk (Below.refl w.heap.size w)
  have H : (if (a0_5 != a1_5) = true then (smithylaw08_same.j0 k true l0_0 l0_1 l0_2 l0_3 l0_4 a0_5 a0_6 a0_7 l0_8 a0_9 l1_0 l1_1 l1_2 l1_3 l1_4 a1_5 a1_6 a1_7 l1_8 a1_9) else (if (a0_6 != a1_6) = true then (smithylaw08_same.j0 k true l0_0 l0_1 l0_2 l0_3 l0_4 a0_5 a0_6 a0_7 l0_8 a0_9 l1_0 l1_1 l1_2 l1_3 l1_4 a1_5 a1_6 a1_7 l1_8 a1_9) else (if (a0_7 != a1_7) = true then (smithylaw08_same.j0 k true l0_0 l0_1 l0_2 l0_3 l0_4 a0_5 a0_6 a0_7 l0_8 a0_9 l1_0 l1_1 l1_2 l1_3 l1_4 a1_5 a1_6 a1_7 l1_8 a1_9) else (smithylaw08_same.j0 k (a0_9 != a1_9) l0_0 l0_1 l0_2 l0_3 l0_4 a0_5 a0_6 a0_7 l0_8 a0_9 l1_0 l1_1 l1_2 l1_3 l1_4 a1_5 a1_6 a1_7 l1_8 a1_9)))) = some r := h
  clear h
  have HC3 := Aside0.mk H
  clear H
  go_enter Try.func14, Try.ntmps14
  go_upto_region 1 with (first | ((with_reducible refine gate_dst (N := 2) rfl ?_); refine box_event ?hg (N := 2) ?hd (cs := #[.slice A0_0 l0_0.length c0_0, .slice A0_1 l0_1.length c0_1, .slice A0_2 l0_2.length c0_2, .slice A0_3 l0_3.length c0_3, .slice A0_4 l0_4.length c0_4, .bool a0_5, .bool a0_6, .bool a0_7, .slice A0_8 l0_8.length c0_8, .bool a0_9]) (t := 38) ?hr ?_; (case hd => rfl); (case hg => rfl); (case hr => first | (go_simp; done) | (go_simp; rfl)); intro gb150 hg w4 hbox hb; have n0_ := Aside0.mk (below_step (by repeat (first | (with_reducible first | exact HB.out | apply below_alloc | apply pw_below_drewN | apply below_drew1) | exact HB.out)) hb); have n1_ := Aside0.mk (hbox); have n2_ := Aside0.mk ((by rw [hg]; exact (below_size (by repeat (first | (with_reducible first | exact HB.out | apply below_alloc | apply pw_below_drewN | apply below_drew1) | exact HB.out))) : w.heap.size ≤ gb150)); have n3_ := Aside0.mk ((by rw [hg]; exact (below_size (by repeat (first | (with_reducible first | exact HB.out | apply below_alloc | apply pw_below_drewN | apply below_drew1) | exact HB.out))) : w.heap.size ≤ gb150)); clear HB; have HB := n0_; have BK150 := n1_; have GW150 := n2_; have GE150 := n3_; clear n0_ n1_ n2_ n3_; clear hb hbox hg) | ((with_reducible refine gate_dst (N := 3) rfl ?_); refine box_event ?hg (N := 3) ?hd (cs := #[.slice A1_0 l1_0.length c1_0, .slice A1_1 l1_1.length c1_1, .slice A1_2 l1_2.length c1_2, .slice A1_3 l1_3.length c1_3, .slice A1_4 l1_4.length c1_4, .bool a1_5, .bool a1_6, .bool a1_7, .slice A1_8 l1_8.length c1_8, .bool a1_9]) (t := 38) ?hr ?_; (case hd => rfl); (case hg => rfl); (case hr => first | (go_simp; done) | (go_simp; rfl)); intro gb151 hg w5 hbox hb; have n0_ := Aside0.mk (blk_below (g := gb150) (o := .cells #[.slice A0_0 l0_0.length c0_0, .slice A0_1 l0_1.length c0_1, .slice A0_2 l0_2.length c0_2, .slice A0_3 l0_3.length c0_3, .slice A0_4 l0_4.length c0_4, .bool a0_5, .bool a0_6, .bool a0_7, .slice A0_8 l0_8.length c0_8, .bool a0_9] 38 (0, 0)) (by (with_reducible repeat (first | refine blk_drewN ?_ _ | refine blk_drew ?_ | refine blk_alloc ?_ _)); exact BK150.out) hb); have n1_ := Aside0.mk (below_step (by repeat (first | (with_reducible first | exact HB.out | apply below_alloc | apply pw_below_drewN | apply below_drew1 | refine below_set ?_ GE150.out) | exact HB.out)) hb); have n2_ := Aside0.mk (hbox); have n3_ := Aside0.mk ((by rw [hg]; exact (below_size (by repeat (first | (with_reducible first | exact HB.out | apply below_alloc | apply pw_below_drewN | apply below_drew1 | refine below_set ?_ GE150.out) | exact HB.out))) : w.heap.size ≤ gb151)); have n4_ := Aside0.mk ((by rw [hg]; exact (below_size (by repeat (first | (with_reducible first | exact HB.out | apply below_alloc | apply pw_below_drewN | apply below_drew1 | refine below_set ?_ GE150.out) | exact HB.out))) : w.heap.size ≤ gb151)); have n5_ := Aside0.mk ((by rw [hg]; exact Nat.ne_of_lt (blk_lt (g := gb150) (o := .cells #[.slice A0_0 l0_0.length c0_0, .slice A0_1 l0_1.length c0_1, .slice A0_2 l0_2.length c0_2, .slice A0_3 l0_3.length c0_3, .slice A0_4 l0_4.length c0_4, .bool a0_5, .bool a0_6, .bool a0_7, .slice A0_8 l0_8.length c0_8, .bool a0_9] 38 (0, 0)) (by (with_reducible repeat (first | refine blk_drewN ?_ _ | refine blk_drew ?_ | refine blk_alloc ?_ _)); exact BK150.out)) : gb150 ≠ gb151)); have n6_ := Aside0.mk ((by rw [hg]; exact Nat.ne_of_gt (blk_lt (g := gb150) (o := .cells #[.slice A0_0 l0_0.length c0_0, .slice A0_1 l0_1.length c0_1, .slice A0_2 l0_2.length c0_2, .slice A0_3 l0_3.length c0_3, .slice A0_4 l0_4.length c0_4, .bool a0_5, .bool a0_6, .bool a0_7, .slice A0_8 l0_8.length c0_8, .bool a0_9] 38 (0, 0)) (by (with_reducible repeat (first | refine blk_drewN ?_ _ | refine blk_drew ?_ | refine blk_alloc ?_ _)); exact BK150.out)) : gb151 ≠ gb150)); clear BK150; clear HB; have BK150 := n0_; have HB := n1_; have BK151 := n2_; have GW151 := n3_; have GE151 := n4_; have NB150_151 := n5_; have NB151_150 := n6_; clear n0_ n1_ n2_ n3_ n4_ n5_ n6_; clear hb hbox hg))
  (try simp only [Act.put, List.setIfInBounds_toArray, List.set_cons_zero, List.set_cons_succ])
  go_cut [30] (fun v30 wc => ∃ (kq : Nat) (x30_2 : Bool), v30 = .bool x30_2 ∧ Aside0 (smithylaw08_same.j0 kq x30_2 l0_0 l0_1 l0_2 l0_3 l0_4 a0_5 a0_6 a0_7 l0_8 a0_9 l1_0 l1_1 l1_2 l1_3 l1_4 a1_5 a1_6 a1_7 l1_8 a1_9 = some r) ∧ Aside0 (kq ≤ k) ∧ Aside0 (wc.heap[gb150]? = some (.cells #[(.slice A0_0 l0_0.length c0_0), (.slice A0_1 l0_1.length c0_1), (.slice A0_2 l0_2.length c0_2), (.slice A0_3 l0_3.length c0_3), (.slice A0_4 l0_4.length c0_4), .bool a0_5, .bool a0_6, .bool a0_7, (.slice A0_8 l0_8.length c0_8), .bool a0_9] 38 (0, 0))) ∧ Aside0 (wc.heap[gb151]? = some (.cells #[(.slice A1_0 l1_0.length c1_0), (.slice A1_1 l1_1.length c1_1), (.slice A1_2 l1_2.length c1_2), (.slice A1_3 l1_3.length c1_3), (.slice A1_4 l1_4.length c1_4), .bool a1_5, .bool a1_6, .bool a1_7, (.slice A1_8 l1_8.length c1_8), .bool a1_9] 38 (0, 0))) ∧ Aside0 (Below w.heap.size w wc))
  case first =>
    have H := HC3.out
    clear HC3
    by_cases c6 : (a0_5 != a1_5) = true
    · rw [if_pos c6] at H
      have c6b0 : (a0_5 != a1_5) = true := c6
      (try (have c6b1 : decide (a0_5 = a1_5) = false := by simpa using c6))
      (try (have c6b2 : (a0_5 == a1_5) = false := by simpa using c6))
      (try (have c6b3 : ¬ (a0_5 = a1_5) := by simpa using c6))
      clear c6
      (first | rw [c6b0] | (simp only [i64_w, i32_w]; rw [c6b0]) | skip)
      have H' := Aside0.mk H
      clear H
      have hnb7 := NB150_151.out
      have hnc7 := NB151_150.out
      have hcz8_0 : w5.cell? ⟨gb150, 0, none⟩ = some (.slice A0_0 l0_0.length c0_0) := (blk_cell BK150.out 0).trans rfl
      have hcz8_1 : w5.cell? ⟨gb150, 1, none⟩ = some (.slice A0_1 l0_1.length c0_1) := (blk_cell BK150.out 1).trans rfl
      have hcz8_2 : w5.cell? ⟨gb150, 2, none⟩ = some (.slice A0_2 l0_2.length c0_2) := (blk_cell BK150.out 2).trans rfl
      have hcz8_3 : w5.cell? ⟨gb150, 3, none⟩ = some (.slice A0_3 l0_3.length c0_3) := (blk_cell BK150.out 3).trans rfl
      have hcz8_4 : w5.cell? ⟨gb150, 4, none⟩ = some (.slice A0_4 l0_4.length c0_4) := (blk_cell BK150.out 4).trans rfl
      have hcz8_5 : w5.cell? ⟨gb150, 5, none⟩ = some (.bool a0_5) := (blk_cell BK150.out 5).trans rfl
      have hcz8_6 : w5.cell? ⟨gb150, 6, none⟩ = some (.bool a0_6) := (blk_cell BK150.out 6).trans rfl
      have hcz8_7 : w5.cell? ⟨gb150, 7, none⟩ = some (.bool a0_7) := (blk_cell BK150.out 7).trans rfl
      have hcz8_8 : w5.cell? ⟨gb150, 8, none⟩ = some (.slice A0_8 l0_8.length c0_8) := (blk_cell BK150.out 8).trans rfl
      have hcz8_9 : w5.cell? ⟨gb150, 9, none⟩ = some (.bool a0_9) := (blk_cell BK150.out 9).trans rfl
      have hfz8_0 := blk_frozen BK150.out 0
      have hfz8_1 := blk_frozen BK150.out 1
      have hfz8_2 := blk_frozen BK150.out 2
      have hfz8_3 := blk_frozen BK150.out 3
      have hfz8_4 := blk_frozen BK150.out 4
      have hfz8_5 := blk_frozen BK150.out 5
      have hfz8_6 := blk_frozen BK150.out 6
      have hfz8_7 := blk_frozen BK150.out 7
      have hfz8_8 := blk_frozen BK150.out 8
      have hfz8_9 := blk_frozen BK150.out 9
      have hcz9_0 : w5.cell? ⟨gb151, 0, none⟩ = some (.slice A1_0 l1_0.length c1_0) := (blk_cell BK151.out 0).trans rfl
      have hcz9_1 : w5.cell? ⟨gb151, 1, none⟩ = some (.slice A1_1 l1_1.length c1_1) := (blk_cell BK151.out 1).trans rfl
      have hcz9_2 : w5.cell? ⟨gb151, 2, none⟩ = some (.slice A1_2 l1_2.length c1_2) := (blk_cell BK151.out 2).trans rfl
      have hcz9_3 : w5.cell? ⟨gb151, 3, none⟩ = some (.slice A1_3 l1_3.length c1_3) := (blk_cell BK151.out 3).trans rfl
      have hcz9_4 : w5.cell? ⟨gb151, 4, none⟩ = some (.slice A1_4 l1_4.length c1_4) := (blk_cell BK151.out 4).trans rfl
      have hcz9_5 : w5.cell? ⟨gb151, 5, none⟩ = some (.bool a1_5) := (blk_cell BK151.out 5).trans rfl
      have hcz9_6 : w5.cell? ⟨gb151, 6, none⟩ = some (.bool a1_6) := (blk_cell BK151.out 6).trans rfl
      have hcz9_7 : w5.cell? ⟨gb151, 7, none⟩ = some (.bool a1_7) := (blk_cell BK151.out 7).trans rfl
      have hcz9_8 : w5.cell? ⟨gb151, 8, none⟩ = some (.slice A1_8 l1_8.length c1_8) := (blk_cell BK151.out 8).trans rfl
      have hcz9_9 : w5.cell? ⟨gb151, 9, none⟩ = some (.bool a1_9) := (blk_cell BK151.out 9).trans rfl
      have hfz9_0 := blk_frozen BK151.out 0
      have hfz9_1 := blk_frozen BK151.out 1
      have hfz9_2 := blk_frozen BK151.out 2
      have hfz9_3 := blk_frozen BK151.out 3
      have hfz9_4 := blk_frozen BK151.out 4
      have hfz9_5 := blk_frozen BK151.out 5
      have hfz9_6 := blk_frozen BK151.out 6
      have hfz9_7 := blk_frozen BK151.out 7
      have hfz9_8 := blk_frozen BK151.out 8
      have hfz9_9 := blk_frozen BK151.out 9
      go_wp2
      go_meet
      case rel => exact ⟨_, (true), (by first | rfl | (simp; done) | (simp [*]; done)), (by first | exact H' | (subst_vars; exact H')), ⟨by first | omega | exact Nat.le_refl _⟩, ⟨by (with_reducible repeat (first | refine blk_drewN ?_ _ | refine blk_drew ?_ | refine blk_alloc ?_ _)); exact BK150.out⟩, ⟨by (with_reducible repeat (first | refine blk_drewN ?_ _ | refine blk_drew ?_ | refine blk_alloc ?_ _)); exact BK151.out⟩, ⟨by repeat (first | (with_reducible first | exact HB.out | apply below_alloc | apply pw_below_drewN | apply below_drew1 | refine below_set ?_ GE150.out | refine below_set ?_ GE151.out) | exact HB.out)⟩⟩
    · rw [if_neg c6] at H
      have c6b0 : (a0_5 != a1_5) = false := by simpa using c6
      (try (have c6b1 : decide (a0_5 = a1_5) = true := by simpa using c6))
      (try (have c6b2 : (a0_5 == a1_5) = true := by simpa using c6))
      clear c6
      (first | rw [c6b0] | (simp only [i64_w, i32_w]; rw [c6b0]) | skip)
      by_cases c10 : (a0_6 != a1_6) = true
      · rw [if_pos c10] at H
        have c10b0 : (a0_6 != a1_6) = true := c10
        (try (have c10b1 : decide (a0_6 = a1_6) = false := by simpa using c10))
        (try (have c10b2 : (a0_6 == a1_6) = false := by simpa using c10))
        (try (have c10b3 : ¬ (a0_6 = a1_6) := by simpa using c10))
        clear c10
        have H' := Aside0.mk H
        clear H
        have hnb11 := NB150_151.out
        have hnc11 := NB151_150.out
        have hcz12_0 : w5.cell? ⟨gb150, 0, none⟩ = some (.slice A0_0 l0_0.length c0_0) := (blk_cell BK150.out 0).trans rfl
        have hcz12_1 : w5.cell? ⟨gb150, 1, none⟩ = some (.slice A0_1 l0_1.length c0_1) := (blk_cell BK150.out 1).trans rfl
        have hcz12_2 : w5.cell? ⟨gb150, 2, none⟩ = some (.slice A0_2 l0_2.length c0_2) := (blk_cell BK150.out 2).trans rfl
        have hcz12_3 : w5.cell? ⟨gb150, 3, none⟩ = some (.slice A0_3 l0_3.length c0_3) := (blk_cell BK150.out 3).trans rfl
        have hcz12_4 : w5.cell? ⟨gb150, 4, none⟩ = some (.slice A0_4 l0_4.length c0_4) := (blk_cell BK150.out 4).trans rfl
        have hcz12_5 : w5.cell? ⟨gb150, 5, none⟩ = some (.bool a0_5) := (blk_cell BK150.out 5).trans rfl
        have hcz12_6 : w5.cell? ⟨gb150, 6, none⟩ = some (.bool a0_6) := (blk_cell BK150.out 6).trans rfl
        have hcz12_7 : w5.cell? ⟨gb150, 7, none⟩ = some (.bool a0_7) := (blk_cell BK150.out 7).trans rfl
        have hcz12_8 : w5.cell? ⟨gb150, 8, none⟩ = some (.slice A0_8 l0_8.length c0_8) := (blk_cell BK150.out 8).trans rfl
        have hcz12_9 : w5.cell? ⟨gb150, 9, none⟩ = some (.bool a0_9) := (blk_cell BK150.out 9).trans rfl
        have hfz12_0 := blk_frozen BK150.out 0
        have hfz12_1 := blk_frozen BK150.out 1
        have hfz12_2 := blk_frozen BK150.out 2
        have hfz12_3 := blk_frozen BK150.out 3
        have hfz12_4 := blk_frozen BK150.out 4
        have hfz12_5 := blk_frozen BK150.out 5
        have hfz12_6 := blk_frozen BK150.out 6
        have hfz12_7 := blk_frozen BK150.out 7
        have hfz12_8 := blk_frozen BK150.out 8
        have hfz12_9 := blk_frozen BK150.out 9
        have hcz13_0 : w5.cell? ⟨gb151, 0, none⟩ = some (.slice A1_0 l1_0.length c1_0) := (blk_cell BK151.out 0).trans rfl
        have hcz13_1 : w5.cell? ⟨gb151, 1, none⟩ = some (.slice A1_1 l1_1.length c1_1) := (blk_cell BK151.out 1).trans rfl
        have hcz13_2 : w5.cell? ⟨gb151, 2, none⟩ = some (.slice A1_2 l1_2.length c1_2) := (blk_cell BK151.out 2).trans rfl
        have hcz13_3 : w5.cell? ⟨gb151, 3, none⟩ = some (.slice A1_3 l1_3.length c1_3) := (blk_cell BK151.out 3).trans rfl
        have hcz13_4 : w5.cell? ⟨gb151, 4, none⟩ = some (.slice A1_4 l1_4.length c1_4) := (blk_cell BK151.out 4).trans rfl
        have hcz13_5 : w5.cell? ⟨gb151, 5, none⟩ = some (.bool a1_5) := (blk_cell BK151.out 5).trans rfl
        have hcz13_6 : w5.cell? ⟨gb151, 6, none⟩ = some (.bool a1_6) := (blk_cell BK151.out 6).trans rfl
        have hcz13_7 : w5.cell? ⟨gb151, 7, none⟩ = some (.bool a1_7) := (blk_cell BK151.out 7).trans rfl
        have hcz13_8 : w5.cell? ⟨gb151, 8, none⟩ = some (.slice A1_8 l1_8.length c1_8) := (blk_cell BK151.out 8).trans rfl
        have hcz13_9 : w5.cell? ⟨gb151, 9, none⟩ = some (.bool a1_9) := (blk_cell BK151.out 9).trans rfl
        have hfz13_0 := blk_frozen BK151.out 0
        have hfz13_1 := blk_frozen BK151.out 1
        have hfz13_2 := blk_frozen BK151.out 2
        have hfz13_3 := blk_frozen BK151.out 3
        have hfz13_4 := blk_frozen BK151.out 4
        have hfz13_5 := blk_frozen BK151.out 5
        have hfz13_6 := blk_frozen BK151.out 6
        have hfz13_7 := blk_frozen BK151.out 7
        have hfz13_8 := blk_frozen BK151.out 8
        have hfz13_9 := blk_frozen BK151.out 9
        go_wp2
        go_meet
        case rel => exact ⟨_, (true), (by first | rfl | (simp; done) | (simp [*]; done)), (by first | exact H' | (subst_vars; exact H')), ⟨by first | omega | exact Nat.le_refl _⟩, ⟨by (with_reducible repeat (first | refine blk_drewN ?_ _ | refine blk_drew ?_ | refine blk_alloc ?_ _)); exact BK150.out⟩, ⟨by (with_reducible repeat (first | refine blk_drewN ?_ _ | refine blk_drew ?_ | refine blk_alloc ?_ _)); exact BK151.out⟩, ⟨by repeat (first | (with_reducible first | exact HB.out | apply below_alloc | apply pw_below_drewN | apply below_drew1 | refine below_set ?_ GE150.out | refine below_set ?_ GE151.out) | exact HB.out)⟩⟩
      · rw [if_neg c10] at H
        have c10b0 : (a0_6 != a1_6) = false := by simpa using c10
        (try (have c10b1 : decide (a0_6 = a1_6) = true := by simpa using c10))
        (try (have c10b2 : (a0_6 == a1_6) = true := by simpa using c10))
        clear c10
        by_cases c14 : (a0_7 != a1_7) = true
        · rw [if_pos c14] at H
          have c14b0 : (a0_7 != a1_7) = true := c14
          (try (have c14b1 : decide (a0_7 = a1_7) = false := by simpa using c14))
          (try (have c14b2 : (a0_7 == a1_7) = false := by simpa using c14))
          (try (have c14b3 : ¬ (a0_7 = a1_7) := by simpa using c14))
          clear c14
          have H' := Aside0.mk H
          clear H
          have hnb15 := NB150_151.out
          have hnc15 := NB151_150.out
          have hcz16_0 : w5.cell? ⟨gb150, 0, none⟩ = some (.slice A0_0 l0_0.length c0_0) := (blk_cell BK150.out 0).trans rfl
          have hcz16_1 : w5.cell? ⟨gb150, 1, none⟩ = some (.slice A0_1 l0_1.length c0_1) := (blk_cell BK150.out 1).trans rfl
          have hcz16_2 : w5.cell? ⟨gb150, 2, none⟩ = some (.slice A0_2 l0_2.length c0_2) := (blk_cell BK150.out 2).trans rfl
          have hcz16_3 : w5.cell? ⟨gb150, 3, none⟩ = some (.slice A0_3 l0_3.length c0_3) := (blk_cell BK150.out 3).trans rfl
          have hcz16_4 : w5.cell? ⟨gb150, 4, none⟩ = some (.slice A0_4 l0_4.length c0_4) := (blk_cell BK150.out 4).trans rfl
          have hcz16_5 : w5.cell? ⟨gb150, 5, none⟩ = some (.bool a0_5) := (blk_cell BK150.out 5).trans rfl
          have hcz16_6 : w5.cell? ⟨gb150, 6, none⟩ = some (.bool a0_6) := (blk_cell BK150.out 6).trans rfl
          have hcz16_7 : w5.cell? ⟨gb150, 7, none⟩ = some (.bool a0_7) := (blk_cell BK150.out 7).trans rfl
          have hcz16_8 : w5.cell? ⟨gb150, 8, none⟩ = some (.slice A0_8 l0_8.length c0_8) := (blk_cell BK150.out 8).trans rfl
          have hcz16_9 : w5.cell? ⟨gb150, 9, none⟩ = some (.bool a0_9) := (blk_cell BK150.out 9).trans rfl
          have hfz16_0 := blk_frozen BK150.out 0
          have hfz16_1 := blk_frozen BK150.out 1
          have hfz16_2 := blk_frozen BK150.out 2
          have hfz16_3 := blk_frozen BK150.out 3
          have hfz16_4 := blk_frozen BK150.out 4
          have hfz16_5 := blk_frozen BK150.out 5
          have hfz16_6 := blk_frozen BK150.out 6
          have hfz16_7 := blk_frozen BK150.out 7
          have hfz16_8 := blk_frozen BK150.out 8
          have hfz16_9 := blk_frozen BK150.out 9
          have hcz17_0 : w5.cell? ⟨gb151, 0, none⟩ = some (.slice A1_0 l1_0.length c1_0) := (blk_cell BK151.out 0).trans rfl
          have hcz17_1 : w5.cell? ⟨gb151, 1, none⟩ = some (.slice A1_1 l1_1.length c1_1) := (blk_cell BK151.out 1).trans rfl
          have hcz17_2 : w5.cell? ⟨gb151, 2, none⟩ = some (.slice A1_2 l1_2.length c1_2) := (blk_cell BK151.out 2).trans rfl
          have hcz17_3 : w5.cell? ⟨gb151, 3, none⟩ = some (.slice A1_3 l1_3.length c1_3) := (blk_cell BK151.out 3).trans rfl
          have hcz17_4 : w5.cell? ⟨gb151, 4, none⟩ = some (.slice A1_4 l1_4.length c1_4) := (blk_cell BK151.out 4).trans rfl
          have hcz17_5 : w5.cell? ⟨gb151, 5, none⟩ = some (.bool a1_5) := (blk_cell BK151.out 5).trans rfl
          have hcz17_6 : w5.cell? ⟨gb151, 6, none⟩ = some (.bool a1_6) := (blk_cell BK151.out 6).trans rfl
          have hcz17_7 : w5.cell? ⟨gb151, 7, none⟩ = some (.bool a1_7) := (blk_cell BK151.out 7).trans rfl
          have hcz17_8 : w5.cell? ⟨gb151, 8, none⟩ = some (.slice A1_8 l1_8.length c1_8) := (blk_cell BK151.out 8).trans rfl
          have hcz17_9 : w5.cell? ⟨gb151, 9, none⟩ = some (.bool a1_9) := (blk_cell BK151.out 9).trans rfl
          have hfz17_0 := blk_frozen BK151.out 0
          have hfz17_1 := blk_frozen BK151.out 1
          have hfz17_2 := blk_frozen BK151.out 2
          have hfz17_3 := blk_frozen BK151.out 3
          have hfz17_4 := blk_frozen BK151.out 4
          have hfz17_5 := blk_frozen BK151.out 5
          have hfz17_6 := blk_frozen BK151.out 6
          have hfz17_7 := blk_frozen BK151.out 7
          have hfz17_8 := blk_frozen BK151.out 8
          have hfz17_9 := blk_frozen BK151.out 9
          go_wp2
          go_meet
          case rel => exact ⟨_, (true), (by first | rfl | (simp; done) | (simp [*]; done)), (by first | exact H' | (subst_vars; exact H')), ⟨by first | omega | exact Nat.le_refl _⟩, ⟨by (with_reducible repeat (first | refine blk_drewN ?_ _ | refine blk_drew ?_ | refine blk_alloc ?_ _)); exact BK150.out⟩, ⟨by (with_reducible repeat (first | refine blk_drewN ?_ _ | refine blk_drew ?_ | refine blk_alloc ?_ _)); exact BK151.out⟩, ⟨by repeat (first | (with_reducible first | exact HB.out | apply below_alloc | apply pw_below_drewN | apply below_drew1 | refine below_set ?_ GE150.out | refine below_set ?_ GE151.out) | exact HB.out)⟩⟩
        · rw [if_neg c14] at H
          have c14b0 : (a0_7 != a1_7) = false := by simpa using c14
          (try (have c14b1 : decide (a0_7 = a1_7) = true := by simpa using c14))
          (try (have c14b2 : (a0_7 == a1_7) = true := by simpa using c14))
          clear c14
          have H' := Aside0.mk H
          clear H
          have hnb18 := NB150_151.out
          have hnc18 := NB151_150.out
          have hcz19_0 : w5.cell? ⟨gb150, 0, none⟩ = some (.slice A0_0 l0_0.length c0_0) := (blk_cell BK150.out 0).trans rfl
          have hcz19_1 : w5.cell? ⟨gb150, 1, none⟩ = some (.slice A0_1 l0_1.length c0_1) := (blk_cell BK150.out 1).trans rfl
          have hcz19_2 : w5.cell? ⟨gb150, 2, none⟩ = some (.slice A0_2 l0_2.length c0_2) := (blk_cell BK150.out 2).trans rfl
          have hcz19_3 : w5.cell? ⟨gb150, 3, none⟩ = some (.slice A0_3 l0_3.length c0_3) := (blk_cell BK150.out 3).trans rfl
          have hcz19_4 : w5.cell? ⟨gb150, 4, none⟩ = some (.slice A0_4 l0_4.length c0_4) := (blk_cell BK150.out 4).trans rfl
          have hcz19_5 : w5.cell? ⟨gb150, 5, none⟩ = some (.bool a0_5) := (blk_cell BK150.out 5).trans rfl
          have hcz19_6 : w5.cell? ⟨gb150, 6, none⟩ = some (.bool a0_6) := (blk_cell BK150.out 6).trans rfl
          have hcz19_7 : w5.cell? ⟨gb150, 7, none⟩ = some (.bool a0_7) := (blk_cell BK150.out 7).trans rfl
          have hcz19_8 : w5.cell? ⟨gb150, 8, none⟩ = some (.slice A0_8 l0_8.length c0_8) := (blk_cell BK150.out 8).trans rfl
          have hcz19_9 : w5.cell? ⟨gb150, 9, none⟩ = some (.bool a0_9) := (blk_cell BK150.out 9).trans rfl
          have hfz19_0 := blk_frozen BK150.out 0
          have hfz19_1 := blk_frozen BK150.out 1
          have hfz19_2 := blk_frozen BK150.out 2
          have hfz19_3 := blk_frozen BK150.out 3
          have hfz19_4 := blk_frozen BK150.out 4
          have hfz19_5 := blk_frozen BK150.out 5
          have hfz19_6 := blk_frozen BK150.out 6
          have hfz19_7 := blk_frozen BK150.out 7
          have hfz19_8 := blk_frozen BK150.out 8
          have hfz19_9 := blk_frozen BK150.out 9
          have hcz20_0 : w5.cell? ⟨gb151, 0, none⟩ = some (.slice A1_0 l1_0.length c1_0) := (blk_cell BK151.out 0).trans rfl
          have hcz20_1 : w5.cell? ⟨gb151, 1, none⟩ = some (.slice A1_1 l1_1.length c1_1) := (blk_cell BK151.out 1).trans rfl
          have hcz20_2 : w5.cell? ⟨gb151, 2, none⟩ = some (.slice A1_2 l1_2.length c1_2) := (blk_cell BK151.out 2).trans rfl
          have hcz20_3 : w5.cell? ⟨gb151, 3, none⟩ = some (.slice A1_3 l1_3.length c1_3) := (blk_cell BK151.out 3).trans rfl
          have hcz20_4 : w5.cell? ⟨gb151, 4, none⟩ = some (.slice A1_4 l1_4.length c1_4) := (blk_cell BK151.out 4).trans rfl
          have hcz20_5 : w5.cell? ⟨gb151, 5, none⟩ = some (.bool a1_5) := (blk_cell BK151.out 5).trans rfl
          have hcz20_6 : w5.cell? ⟨gb151, 6, none⟩ = some (.bool a1_6) := (blk_cell BK151.out 6).trans rfl
          have hcz20_7 : w5.cell? ⟨gb151, 7, none⟩ = some (.bool a1_7) := (blk_cell BK151.out 7).trans rfl
          have hcz20_8 : w5.cell? ⟨gb151, 8, none⟩ = some (.slice A1_8 l1_8.length c1_8) := (blk_cell BK151.out 8).trans rfl
          have hcz20_9 : w5.cell? ⟨gb151, 9, none⟩ = some (.bool a1_9) := (blk_cell BK151.out 9).trans rfl
          have hfz20_0 := blk_frozen BK151.out 0
          have hfz20_1 := blk_frozen BK151.out 1
          have hfz20_2 := blk_frozen BK151.out 2
          have hfz20_3 := blk_frozen BK151.out 3
          have hfz20_4 := blk_frozen BK151.out 4
          have hfz20_5 := blk_frozen BK151.out 5
          have hfz20_6 := blk_frozen BK151.out 6
          have hfz20_7 := blk_frozen BK151.out 7
          have hfz20_8 := blk_frozen BK151.out 8
          have hfz20_9 := blk_frozen BK151.out 9
          go_wp2
          go_meet
          case rel => exact ⟨_, ((a0_9 != a1_9)), (by first | rfl | (simp; done) | (simp [*]; done)), (by first | exact H' | (subst_vars; exact H')), ⟨by first | omega | exact Nat.le_refl _⟩, ⟨by (with_reducible repeat (first | refine blk_drewN ?_ _ | refine blk_drew ?_ | refine blk_alloc ?_ _)); exact BK150.out⟩, ⟨by (with_reducible repeat (first | refine blk_drewN ?_ _ | refine blk_drew ?_ | refine blk_alloc ?_ _)); exact BK151.out⟩, ⟨by repeat (first | (with_reducible first | exact HB.out | apply below_alloc | apply pw_below_drewN | apply below_drew1 | refine below_set ?_ GE150.out | refine below_set ?_ GE151.out) | exact HB.out)⟩⟩
  case rest =>
    clear HC3
    try clear c1
    try clear p2
    try clear c6
    try clear c6b0
    try clear c6b1
    try clear c6b2
    try clear c7
    try clear c10
    try clear c10b0
    try clear c10b1
    try clear c10b2
    try clear c11
    try clear c14
    try clear c14b0
    try clear c14b1
    try clear c14b2
    try clear c15
    try clear c18
    try clear hcz12_0
    try clear hcz12_1
    try clear hcz12_2
    try clear hcz12_3
    try clear hcz12_4
    try clear hcz12_5
    try clear hcz12_6
    try clear hcz12_7
    try clear hcz12_8
    try clear hcz12_9
    try clear hcz13_0
    try clear hcz13_1
    try clear hcz13_2
    try clear hcz13_3
    try clear hcz13_4
    try clear hcz13_5
    try clear hcz13_6
    try clear hcz13_7
    try clear hcz13_8
    try clear hcz13_9
    try clear hcz16_0
    try clear hcz16_1
    try clear hcz16_2
    try clear hcz16_3
    try clear hcz16_4
    try clear hcz16_5
    try clear hcz16_6
    try clear hcz16_7
    try clear hcz16_8
    try clear hcz16_9
    try clear hcz17_0
    try clear hcz17_1
    try clear hcz17_2
    try clear hcz17_3
    try clear hcz17_4
    try clear hcz17_5
    try clear hcz17_6
    try clear hcz17_7
    try clear hcz17_8
    try clear hcz17_9
    try clear hcz19_0
    try clear hcz19_1
    try clear hcz19_2
    try clear hcz19_3
    try clear hcz19_4
    try clear hcz19_5
    try clear hcz19_6
    try clear hcz19_7
    try clear hcz19_8
    try clear hcz19_9
    try clear hcz20_0
    try clear hcz20_1
    try clear hcz20_2
    try clear hcz20_3
    try clear hcz20_4
    try clear hcz20_5
    try clear hcz20_6
    try clear hcz20_7
    try clear hcz20_8
    try clear hcz20_9
    try clear hcz8_0
    try clear hcz8_1
    try clear hcz8_2
    try clear hcz8_3
    try clear hcz8_4
    try clear hcz8_5
    try clear hcz8_6
    try clear hcz8_7
    try clear hcz8_8
    try clear hcz8_9
    try clear hcz9_0
    try clear hcz9_1
    try clear hcz9_2
    try clear hcz9_3
    try clear hcz9_4
    try clear hcz9_5
    try clear hcz9_6
    try clear hcz9_7
    try clear hcz9_8
    try clear hcz9_9
    try clear hfz12_0
    try clear hfz12_1
    try clear hfz12_2
    try clear hfz12_3
    try clear hfz12_4
    try clear hfz12_5
    try clear hfz12_6
    try clear hfz12_7
    try clear hfz12_8
    try clear hfz12_9
    try clear hfz13_0
    try clear hfz13_1
    try clear hfz13_2
    try clear hfz13_3
    try clear hfz13_4
    try clear hfz13_5
    try clear hfz13_6
    try clear hfz13_7
    try clear hfz13_8
    try clear hfz13_9
    try clear hfz16_0
    try clear hfz16_1
    try clear hfz16_2
    try clear hfz16_3
    try clear hfz16_4
    try clear hfz16_5
    try clear hfz16_6
    try clear hfz16_7
    try clear hfz16_8
    try clear hfz16_9
    try clear hfz17_0
    try clear hfz17_1
    try clear hfz17_2
    try clear hfz17_3
    try clear hfz17_4
    try clear hfz17_5
    try clear hfz17_6
    try clear hfz17_7
    try clear hfz17_8
    try clear hfz17_9
    try clear hfz19_0
    try clear hfz19_1
    try clear hfz19_2
    try clear hfz19_3
    try clear hfz19_4
    try clear hfz19_5
    try clear hfz19_6
    try clear hfz19_7
    try clear hfz19_8
    try clear hfz19_9
    try clear hfz20_0
    try clear hfz20_1
    try clear hfz20_2
    try clear hfz20_3
    try clear hfz20_4
    try clear hfz20_5
    try clear hfz20_6
    try clear hfz20_7
    try clear hfz20_8
    try clear hfz20_9
    try clear hfz8_0
    try clear hfz8_1
    try clear hfz8_2
    try clear hfz8_3
    try clear hfz8_4
    try clear hfz8_5
    try clear hfz8_6
    try clear hfz8_7
    try clear hfz8_8
    try clear hfz8_9
    try clear hfz9_0
    try clear hfz9_1
    try clear hfz9_2
    try clear hfz9_3
    try clear hfz9_4
    try clear hfz9_5
    try clear hfz9_6
    try clear hfz9_7
    try clear hfz9_8
    try clear hfz9_9
    obtain ⟨kq, x30_2, rfl, HA, HJ2, BK150, BK151, HB⟩ := hcut
    cases kq with
    | zero => exact absurd HA.out (by simp [smithylaw08_same.j0])
    | succ kj2 =>
      have H := HA.out
      clear HA
      simp only [smithylaw08_same.j0] at H
      by_cases c21 : x30_2 = true
      · subst c21
        have H1 : (some false) = some r := by rw [if_pos rfl] at H; exact H
        clear H
        have H := H1
        clear H1
        obtain rfl := Option.some.inj H
        go_wp2
        go_ret
        exact ⟨by first | rfl | (simp [errW_none, errW_some] <;> rfl) | (simp [*, errW_none, errW_some] <;> rfl), by repeat (first | (with_reducible first | exact HB.out | apply below_alloc | apply pw_below_drewN | apply below_drew1 | refine below_set ?_ GE150.out | refine below_set ?_ GE151.out) | exact HB.out)⟩
      · replace c21 := Bool.eq_false_iff.mpr c21
        subst c21
        have H1 : ((smithyplain_Texts.f kj2 l0_0 l1_0).bind fun t152 => (if t152 = true then ((smithyplain_Texts.f kj2 l0_1 l1_1).bind fun t153 => (if t153 = true then ((smithyplain_Texts.f kj2 l0_2 l1_2).bind fun t154 => (if t154 = true then ((smithyplain_Texts.f kj2 l0_3 l1_3).bind fun t155 => (if t155 = true then ((smithyplain_Texts.f kj2 l0_4 l1_4).bind fun t156 => (if t156 = true then ((smithyplain_Texts.f kj2 l0_8 l1_8).bind fun t157 => (some t157)) else (some false))) else (some false))) else (some false))) else (some false))) else (some false))) = some r := by rw [if_neg (show ¬ (false = true) by decide)] at H; exact H
        clear H
        have H := H1
        clear H1
        replace H := Option.bind_eq_some_iff.mp H
        obtain ⟨t152, A220, H⟩ := H
        replace H : (if t152 = true then ((smithyplain_Texts.f kj2 l0_1 l1_1).bind fun t153 => (if t153 = true then ((smithyplain_Texts.f kj2 l0_2 l1_2).bind fun t154 => (if t154 = true then ((smithyplain_Texts.f kj2 l0_3 l1_3).bind fun t155 => (if t155 = true then ((smithyplain_Texts.f kj2 l0_4 l1_4).bind fun t156 => (if t156 = true then ((smithyplain_Texts.f kj2 l0_8 l1_8).bind fun t157 => (some t157)) else (some false))) else (some false))) else (some false))) else (some false))) else (some false)) = some r := H
        have A22 := Aside0.mk A220
        clear A220
        by_cases c23 : t152 = true
        · subst c23
          have H1 : ((smithyplain_Texts.f kj2 l0_1 l1_1).bind fun t153 => (if t153 = true then ((smithyplain_Texts.f kj2 l0_2 l1_2).bind fun t154 => (if t154 = true then ((smithyplain_Texts.f kj2 l0_3 l1_3).bind fun t155 => (if t155 = true then ((smithyplain_Texts.f kj2 l0_4 l1_4).bind fun t156 => (if t156 = true then ((smithyplain_Texts.f kj2 l0_8 l1_8).bind fun t157 => (some t157)) else (some false))) else (some false))) else (some false))) else (some false))) = some r := by rw [if_pos rfl] at H; exact H
          clear H
          have H := H1
          clear H1
          replace H := Option.bind_eq_some_iff.mp H
          obtain ⟨t153, A240, H⟩ := H
          replace H : (if t153 = true then ((smithyplain_Texts.f kj2 l0_2 l1_2).bind fun t154 => (if t154 = true then ((smithyplain_Texts.f kj2 l0_3 l1_3).bind fun t155 => (if t155 = true then ((smithyplain_Texts.f kj2 l0_4 l1_4).bind fun t156 => (if t156 = true then ((smithyplain_Texts.f kj2 l0_8 l1_8).bind fun t157 => (some t157)) else (some false))) else (some false))) else (some false))) else (some false)) = some r := H
          have A24 := Aside0.mk A240
          clear A240
          by_cases c25 : t153 = true
          · subst c25
            have H1 : ((smithyplain_Texts.f kj2 l0_2 l1_2).bind fun t154 => (if t154 = true then ((smithyplain_Texts.f kj2 l0_3 l1_3).bind fun t155 => (if t155 = true then ((smithyplain_Texts.f kj2 l0_4 l1_4).bind fun t156 => (if t156 = true then ((smithyplain_Texts.f kj2 l0_8 l1_8).bind fun t157 => (some t157)) else (some false))) else (some false))) else (some false))) = some r := by rw [if_pos rfl] at H; exact H
            clear H
            have H := H1
            clear H1
            replace H := Option.bind_eq_some_iff.mp H
            obtain ⟨t154, A260, H⟩ := H
            replace H : (if t154 = true then ((smithyplain_Texts.f kj2 l0_3 l1_3).bind fun t155 => (if t155 = true then ((smithyplain_Texts.f kj2 l0_4 l1_4).bind fun t156 => (if t156 = true then ((smithyplain_Texts.f kj2 l0_8 l1_8).bind fun t157 => (some t157)) else (some false))) else (some false))) else (some false)) = some r := H
            have A26 := Aside0.mk A260
            clear A260
            by_cases c27 : t154 = true
            · subst c27
              have H1 : ((smithyplain_Texts.f kj2 l0_3 l1_3).bind fun t155 => (if t155 = true then ((smithyplain_Texts.f kj2 l0_4 l1_4).bind fun t156 => (if t156 = true then ((smithyplain_Texts.f kj2 l0_8 l1_8).bind fun t157 => (some t157)) else (some false))) else (some false))) = some r := by rw [if_pos rfl] at H; exact H
              clear H
              have H := H1
              clear H1
              replace H := Option.bind_eq_some_iff.mp H
              obtain ⟨t155, A280, H⟩ := H
              replace H : (if t155 = true then ((smithyplain_Texts.f kj2 l0_4 l1_4).bind fun t156 => (if t156 = true then ((smithyplain_Texts.f kj2 l0_8 l1_8).bind fun t157 => (some t157)) else (some false))) else (some false)) = some r := H
              have A28 := Aside0.mk A280
              clear A280
              by_cases c29 : t155 = true
              · subst c29
                have H1 : ((smithyplain_Texts.f kj2 l0_4 l1_4).bind fun t156 => (if t156 = true then ((smithyplain_Texts.f kj2 l0_8 l1_8).bind fun t157 => (some t157)) else (some false))) = some r := by rw [if_pos rfl] at H; exact H
                clear H
                have H := H1
                clear H1
                replace H := Option.bind_eq_some_iff.mp H
                obtain ⟨t156, A300, H⟩ := H
                replace H : (if t156 = true then ((smithyplain_Texts.f kj2 l0_8 l1_8).bind fun t157 => (some t157)) else (some false)) = some r := H
                have A30 := Aside0.mk A300
                clear A300
                by_cases c31 : t156 = true
                · subst c31
                  have H1 : ((smithyplain_Texts.f kj2 l0_8 l1_8).bind fun t157 => (some t157)) = some r := by rw [if_pos rfl] at H; exact H
                  clear H
                  have H := H1
                  clear H1
                  replace H := Option.bind_eq_some_iff.mp H
                  obtain ⟨t157, A320, H⟩ := H
                  replace H : (some t157) = some r := H
                  have A32 := Aside0.mk A320
                  clear A320
                  obtain rfl := Option.some.inj H
                  have hnb33 := NB150_151.out
                  have hnc33 := NB151_150.out
                  have hcz34_0 : wc.cell? ⟨gb150, 0, none⟩ = some (.slice A0_0 l0_0.length c0_0) := (blk_cell BK150.out 0).trans rfl
                  have hcz34_1 : wc.cell? ⟨gb150, 1, none⟩ = some (.slice A0_1 l0_1.length c0_1) := (blk_cell BK150.out 1).trans rfl
                  have hcz34_2 : wc.cell? ⟨gb150, 2, none⟩ = some (.slice A0_2 l0_2.length c0_2) := (blk_cell BK150.out 2).trans rfl
                  have hcz34_3 : wc.cell? ⟨gb150, 3, none⟩ = some (.slice A0_3 l0_3.length c0_3) := (blk_cell BK150.out 3).trans rfl
                  have hcz34_4 : wc.cell? ⟨gb150, 4, none⟩ = some (.slice A0_4 l0_4.length c0_4) := (blk_cell BK150.out 4).trans rfl
                  have hcz34_5 : wc.cell? ⟨gb150, 5, none⟩ = some (.bool a0_5) := (blk_cell BK150.out 5).trans rfl
                  have hcz34_6 : wc.cell? ⟨gb150, 6, none⟩ = some (.bool a0_6) := (blk_cell BK150.out 6).trans rfl
                  have hcz34_7 : wc.cell? ⟨gb150, 7, none⟩ = some (.bool a0_7) := (blk_cell BK150.out 7).trans rfl
                  have hcz34_8 : wc.cell? ⟨gb150, 8, none⟩ = some (.slice A0_8 l0_8.length c0_8) := (blk_cell BK150.out 8).trans rfl
                  have hcz34_9 : wc.cell? ⟨gb150, 9, none⟩ = some (.bool a0_9) := (blk_cell BK150.out 9).trans rfl
                  have hfz34_0 := blk_frozen BK150.out 0
                  have hfz34_1 := blk_frozen BK150.out 1
                  have hfz34_2 := blk_frozen BK150.out 2
                  have hfz34_3 := blk_frozen BK150.out 3
                  have hfz34_4 := blk_frozen BK150.out 4
                  have hfz34_5 := blk_frozen BK150.out 5
                  have hfz34_6 := blk_frozen BK150.out 6
                  have hfz34_7 := blk_frozen BK150.out 7
                  have hfz34_8 := blk_frozen BK150.out 8
                  have hfz34_9 := blk_frozen BK150.out 9
                  have hcz35_0 : wc.cell? ⟨gb151, 0, none⟩ = some (.slice A1_0 l1_0.length c1_0) := (blk_cell BK151.out 0).trans rfl
                  have hcz35_1 : wc.cell? ⟨gb151, 1, none⟩ = some (.slice A1_1 l1_1.length c1_1) := (blk_cell BK151.out 1).trans rfl
                  have hcz35_2 : wc.cell? ⟨gb151, 2, none⟩ = some (.slice A1_2 l1_2.length c1_2) := (blk_cell BK151.out 2).trans rfl
                  have hcz35_3 : wc.cell? ⟨gb151, 3, none⟩ = some (.slice A1_3 l1_3.length c1_3) := (blk_cell BK151.out 3).trans rfl
                  have hcz35_4 : wc.cell? ⟨gb151, 4, none⟩ = some (.slice A1_4 l1_4.length c1_4) := (blk_cell BK151.out 4).trans rfl
                  have hcz35_5 : wc.cell? ⟨gb151, 5, none⟩ = some (.bool a1_5) := (blk_cell BK151.out 5).trans rfl
                  have hcz35_6 : wc.cell? ⟨gb151, 6, none⟩ = some (.bool a1_6) := (blk_cell BK151.out 6).trans rfl
                  have hcz35_7 : wc.cell? ⟨gb151, 7, none⟩ = some (.bool a1_7) := (blk_cell BK151.out 7).trans rfl
                  have hcz35_8 : wc.cell? ⟨gb151, 8, none⟩ = some (.slice A1_8 l1_8.length c1_8) := (blk_cell BK151.out 8).trans rfl
                  have hcz35_9 : wc.cell? ⟨gb151, 9, none⟩ = some (.bool a1_9) := (blk_cell BK151.out 9).trans rfl
                  have hfz35_0 := blk_frozen BK151.out 0
                  have hfz35_1 := blk_frozen BK151.out 1
                  have hfz35_2 := blk_frozen BK151.out 2
                  have hfz35_3 := blk_frozen BK151.out 3
                  have hfz35_4 := blk_frozen BK151.out 4
                  have hfz35_5 := blk_frozen BK151.out 5
                  have hfz35_6 := blk_frozen BK151.out 6
                  have hfz35_7 := blk_frozen BK151.out 7
                  have hfz35_8 := blk_frozen BK151.out 8
                  have hfz35_9 := blk_frozen BK151.out 9
                  go_wp2_with (first | ((with_reducible refine gate_callee (f := 9) rfl ?_); refine goesL_ (some 35) rfl rfl Try.func9 (by kernel_rfl) rfl #[.slice A0_0 l0_0.length c0_0, .slice A1_0 l1_0.length c1_0] rfl (by (try simp only [List.map_toArray, List.map_cons, List.map_nil]); first | done | rfl | (simp only [List.length_drop, List.length_take]; rfl)) ?_; (with_reducible refine (smithyplain_Texts.calls kj2 _ _ l0_0 _ _ l1_0 true _ ?side1 ?side2 ?side3 ?side4 A22.out).mono ?_); (case side1 => repeat (first | exact (Kd.C_below HR0_0.out HB.out) | (with_reducible refine Kd.C_alloc ?_ _) | (with_reducible refine Kd.C_drewN ?_ _) | (with_reducible refine Kd.C_drew ?_))); (case side2 => exact HC0_0.out); (case side3 => repeat (first | exact (Kd.C_below HR1_0.out HB.out) | (with_reducible refine Kd.C_alloc ?_ _) | (with_reducible refine Kd.C_drewN ?_ _) | (with_reducible refine Kd.C_drew ?_))); (case side4 => exact HC1_0.out); rintro e w' ⟨rfl, ⟨nd, rfl⟩⟩; refine ⟨_, rfl, ?_⟩) | (go_at_call 9; (with_reducible refine (smithyplain_Texts.calls kj2 _ _ l0_1 _ _ l1_1 true _ ?side1 ?side2 ?side3 ?side4 A24.out).mono ?_); (case side1 => repeat (first | exact (Kd.C_below HR0_1.out (by repeat (first | (with_reducible first | exact HB.out | apply below_alloc | apply pw_below_drewN | apply below_drew1 | refine below_set ?_ GE150.out | refine below_set ?_ GE151.out) | exact HB.out))) | (with_reducible refine Kd.C_alloc ?_ _) | (with_reducible refine Kd.C_drewN ?_ _) | (with_reducible refine Kd.C_drew ?_))); (case side2 => exact HC0_1.out); (case side3 => repeat (first | exact (Kd.C_below HR1_1.out (by repeat (first | (with_reducible first | exact HB.out | apply below_alloc | apply pw_below_drewN | apply below_drew1 | refine below_set ?_ GE150.out | refine below_set ?_ GE151.out) | exact HB.out))) | (with_reducible refine Kd.C_alloc ?_ _) | (with_reducible refine Kd.C_drewN ?_ _) | (with_reducible refine Kd.C_drew ?_))); (case side4 => exact HC1_1.out); rintro e w' ⟨rfl, ⟨nd, rfl⟩⟩) | (go_at_call 9; (with_reducible refine (smithyplain_Texts.calls kj2 _ _ l0_2 _ _ l1_2 true _ ?side1 ?side2 ?side3 ?side4 A26.out).mono ?_); (case side1 => repeat (first | exact (Kd.C_below HR0_2.out (by repeat (first | (with_reducible first | exact HB.out | apply below_alloc | apply pw_below_drewN | apply below_drew1 | refine below_set ?_ GE150.out | refine below_set ?_ GE151.out) | exact HB.out))) | (with_reducible refine Kd.C_alloc ?_ _) | (with_reducible refine Kd.C_drewN ?_ _) | (with_reducible refine Kd.C_drew ?_))); (case side2 => exact HC0_2.out); (case side3 => repeat (first | exact (Kd.C_below HR1_2.out (by repeat (first | (with_reducible first | exact HB.out | apply below_alloc | apply pw_below_drewN | apply below_drew1 | refine below_set ?_ GE150.out | refine below_set ?_ GE151.out) | exact HB.out))) | (with_reducible refine Kd.C_alloc ?_ _) | (with_reducible refine Kd.C_drewN ?_ _) | (with_reducible refine Kd.C_drew ?_))); (case side4 => exact HC1_2.out); rintro e w' ⟨rfl, ⟨nd, rfl⟩⟩) | (go_at_call 9; (with_reducible refine (smithyplain_Texts.calls kj2 _ _ l0_3 _ _ l1_3 true _ ?side1 ?side2 ?side3 ?side4 A28.out).mono ?_); (case side1 => repeat (first | exact (Kd.C_below HR0_3.out (by repeat (first | (with_reducible first | exact HB.out | apply below_alloc | apply pw_below_drewN | apply below_drew1 | refine below_set ?_ GE150.out | refine below_set ?_ GE151.out) | exact HB.out))) | (with_reducible refine Kd.C_alloc ?_ _) | (with_reducible refine Kd.C_drewN ?_ _) | (with_reducible refine Kd.C_drew ?_))); (case side2 => exact HC0_3.out); (case side3 => repeat (first | exact (Kd.C_below HR1_3.out (by repeat (first | (with_reducible first | exact HB.out | apply below_alloc | apply pw_below_drewN | apply below_drew1 | refine below_set ?_ GE150.out | refine below_set ?_ GE151.out) | exact HB.out))) | (with_reducible refine Kd.C_alloc ?_ _) | (with_reducible refine Kd.C_drewN ?_ _) | (with_reducible refine Kd.C_drew ?_))); (case side4 => exact HC1_3.out); rintro e w' ⟨rfl, ⟨nd, rfl⟩⟩) | (go_at_call 9; (with_reducible refine (smithyplain_Texts.calls kj2 _ _ l0_4 _ _ l1_4 true _ ?side1 ?side2 ?side3 ?side4 A30.out).mono ?_); (case side1 => repeat (first | exact (Kd.C_below HR0_4.out (by repeat (first | (with_reducible first | exact HB.out | apply below_alloc | apply pw_below_drewN | apply below_drew1 | refine below_set ?_ GE150.out | refine below_set ?_ GE151.out) | exact HB.out))) | (with_reducible refine Kd.C_alloc ?_ _) | (with_reducible refine Kd.C_drewN ?_ _) | (with_reducible refine Kd.C_drew ?_))); (case side2 => exact HC0_4.out); (case side3 => repeat (first | exact (Kd.C_below HR1_4.out (by repeat (first | (with_reducible first | exact HB.out | apply below_alloc | apply pw_below_drewN | apply below_drew1 | refine below_set ?_ GE150.out | refine below_set ?_ GE151.out) | exact HB.out))) | (with_reducible refine Kd.C_alloc ?_ _) | (with_reducible refine Kd.C_drewN ?_ _) | (with_reducible refine Kd.C_drew ?_))); (case side4 => exact HC1_4.out); rintro e w' ⟨rfl, ⟨nd, rfl⟩⟩) | (go_at_call 9; (with_reducible refine (smithyplain_Texts.calls kj2 _ _ l0_8 _ _ l1_8 t157 _ ?side1 ?side2 ?side3 ?side4 A32.out).mono ?_); (case side1 => repeat (first | exact (Kd.C_below HR0_8.out (by repeat (first | (with_reducible first | exact HB.out | apply below_alloc | apply pw_below_drewN | apply below_drew1 | refine below_set ?_ GE150.out | refine below_set ?_ GE151.out) | exact HB.out))) | (with_reducible refine Kd.C_alloc ?_ _) | (with_reducible refine Kd.C_drewN ?_ _) | (with_reducible refine Kd.C_drew ?_))); (case side2 => exact HC0_8.out); (case side3 => repeat (first | exact (Kd.C_below HR1_8.out (by repeat (first | (with_reducible first | exact HB.out | apply below_alloc | apply pw_below_drewN | apply below_drew1 | refine below_set ?_ GE150.out | refine below_set ?_ GE151.out) | exact HB.out))) | (with_reducible refine Kd.C_alloc ?_ _) | (with_reducible refine Kd.C_drewN ?_ _) | (with_reducible refine Kd.C_drew ?_))); (case side4 => exact HC1_8.out); rintro e w' ⟨rfl, ⟨nd, rfl⟩⟩))
                  go_ret
                  exact ⟨by first | rfl | (simp [errW_none, errW_some] <;> rfl) | (simp [*, errW_none, errW_some] <;> rfl), by repeat (first | (with_reducible first | exact HB.out | apply below_alloc | apply pw_below_drewN | apply below_drew1 | refine below_set ?_ GE150.out | refine below_set ?_ GE151.out) | exact HB.out)⟩
                · replace c31 := Bool.eq_false_iff.mpr c31
                  subst c31
                  have H1 : (some false) = some r := by rw [if_neg (show ¬ (false = true) by decide)] at H; exact H
                  clear H
                  have H := H1
                  clear H1
                  obtain rfl := Option.some.inj H
                  have hnb36 := NB150_151.out
                  have hnc36 := NB151_150.out
                  have hcz37_0 : wc.cell? ⟨gb150, 0, none⟩ = some (.slice A0_0 l0_0.length c0_0) := (blk_cell BK150.out 0).trans rfl
                  have hcz37_1 : wc.cell? ⟨gb150, 1, none⟩ = some (.slice A0_1 l0_1.length c0_1) := (blk_cell BK150.out 1).trans rfl
                  have hcz37_2 : wc.cell? ⟨gb150, 2, none⟩ = some (.slice A0_2 l0_2.length c0_2) := (blk_cell BK150.out 2).trans rfl
                  have hcz37_3 : wc.cell? ⟨gb150, 3, none⟩ = some (.slice A0_3 l0_3.length c0_3) := (blk_cell BK150.out 3).trans rfl
                  have hcz37_4 : wc.cell? ⟨gb150, 4, none⟩ = some (.slice A0_4 l0_4.length c0_4) := (blk_cell BK150.out 4).trans rfl
                  have hcz37_5 : wc.cell? ⟨gb150, 5, none⟩ = some (.bool a0_5) := (blk_cell BK150.out 5).trans rfl
                  have hcz37_6 : wc.cell? ⟨gb150, 6, none⟩ = some (.bool a0_6) := (blk_cell BK150.out 6).trans rfl
                  have hcz37_7 : wc.cell? ⟨gb150, 7, none⟩ = some (.bool a0_7) := (blk_cell BK150.out 7).trans rfl
                  have hcz37_8 : wc.cell? ⟨gb150, 8, none⟩ = some (.slice A0_8 l0_8.length c0_8) := (blk_cell BK150.out 8).trans rfl
                  have hcz37_9 : wc.cell? ⟨gb150, 9, none⟩ = some (.bool a0_9) := (blk_cell BK150.out 9).trans rfl
                  have hfz37_0 := blk_frozen BK150.out 0
                  have hfz37_1 := blk_frozen BK150.out 1
                  have hfz37_2 := blk_frozen BK150.out 2
                  have hfz37_3 := blk_frozen BK150.out 3
                  have hfz37_4 := blk_frozen BK150.out 4
                  have hfz37_5 := blk_frozen BK150.out 5
                  have hfz37_6 := blk_frozen BK150.out 6
                  have hfz37_7 := blk_frozen BK150.out 7
                  have hfz37_8 := blk_frozen BK150.out 8
                  have hfz37_9 := blk_frozen BK150.out 9
                  have hcz38_0 : wc.cell? ⟨gb151, 0, none⟩ = some (.slice A1_0 l1_0.length c1_0) := (blk_cell BK151.out 0).trans rfl
                  have hcz38_1 : wc.cell? ⟨gb151, 1, none⟩ = some (.slice A1_1 l1_1.length c1_1) := (blk_cell BK151.out 1).trans rfl
                  have hcz38_2 : wc.cell? ⟨gb151, 2, none⟩ = some (.slice A1_2 l1_2.length c1_2) := (blk_cell BK151.out 2).trans rfl
                  have hcz38_3 : wc.cell? ⟨gb151, 3, none⟩ = some (.slice A1_3 l1_3.length c1_3) := (blk_cell BK151.out 3).trans rfl
                  have hcz38_4 : wc.cell? ⟨gb151, 4, none⟩ = some (.slice A1_4 l1_4.length c1_4) := (blk_cell BK151.out 4).trans rfl
                  have hcz38_5 : wc.cell? ⟨gb151, 5, none⟩ = some (.bool a1_5) := (blk_cell BK151.out 5).trans rfl
                  have hcz38_6 : wc.cell? ⟨gb151, 6, none⟩ = some (.bool a1_6) := (blk_cell BK151.out 6).trans rfl
                  have hcz38_7 : wc.cell? ⟨gb151, 7, none⟩ = some (.bool a1_7) := (blk_cell BK151.out 7).trans rfl
                  have hcz38_8 : wc.cell? ⟨gb151, 8, none⟩ = some (.slice A1_8 l1_8.length c1_8) := (blk_cell BK151.out 8).trans rfl
                  have hcz38_9 : wc.cell? ⟨gb151, 9, none⟩ = some (.bool a1_9) := (blk_cell BK151.out 9).trans rfl
                  have hfz38_0 := blk_frozen BK151.out 0
                  have hfz38_1 := blk_frozen BK151.out 1
                  have hfz38_2 := blk_frozen BK151.out 2
                  have hfz38_3 := blk_frozen BK151.out 3
                  have hfz38_4 := blk_frozen BK151.out 4
                  have hfz38_5 := blk_frozen BK151.out 5
                  have hfz38_6 := blk_frozen BK151.out 6
                  have hfz38_7 := blk_frozen BK151.out 7
                  have hfz38_8 := blk_frozen BK151.out 8
                  have hfz38_9 := blk_frozen BK151.out 9
                  go_wp2_with (first | ((with_reducible refine gate_callee (f := 9) rfl ?_); refine goesL_ (some 35) rfl rfl Try.func9 (by kernel_rfl) rfl #[.slice A0_0 l0_0.length c0_0, .slice A1_0 l1_0.length c1_0] rfl (by (try simp only [List.map_toArray, List.map_cons, List.map_nil]); first | done | rfl | (simp only [List.length_drop, List.length_take]; rfl)) ?_; (with_reducible refine (smithyplain_Texts.calls kj2 _ _ l0_0 _ _ l1_0 true _ ?side1 ?side2 ?side3 ?side4 A22.out).mono ?_); (case side1 => repeat (first | exact (Kd.C_below HR0_0.out HB.out) | (with_reducible refine Kd.C_alloc ?_ _) | (with_reducible refine Kd.C_drewN ?_ _) | (with_reducible refine Kd.C_drew ?_))); (case side2 => exact HC0_0.out); (case side3 => repeat (first | exact (Kd.C_below HR1_0.out HB.out) | (with_reducible refine Kd.C_alloc ?_ _) | (with_reducible refine Kd.C_drewN ?_ _) | (with_reducible refine Kd.C_drew ?_))); (case side4 => exact HC1_0.out); rintro e w' ⟨rfl, ⟨nd, rfl⟩⟩; refine ⟨_, rfl, ?_⟩) | (go_at_call 9; (with_reducible refine (smithyplain_Texts.calls kj2 _ _ l0_1 _ _ l1_1 true _ ?side1 ?side2 ?side3 ?side4 A24.out).mono ?_); (case side1 => repeat (first | exact (Kd.C_below HR0_1.out (by repeat (first | (with_reducible first | exact HB.out | apply below_alloc | apply pw_below_drewN | apply below_drew1 | refine below_set ?_ GE150.out | refine below_set ?_ GE151.out) | exact HB.out))) | (with_reducible refine Kd.C_alloc ?_ _) | (with_reducible refine Kd.C_drewN ?_ _) | (with_reducible refine Kd.C_drew ?_))); (case side2 => exact HC0_1.out); (case side3 => repeat (first | exact (Kd.C_below HR1_1.out (by repeat (first | (with_reducible first | exact HB.out | apply below_alloc | apply pw_below_drewN | apply below_drew1 | refine below_set ?_ GE150.out | refine below_set ?_ GE151.out) | exact HB.out))) | (with_reducible refine Kd.C_alloc ?_ _) | (with_reducible refine Kd.C_drewN ?_ _) | (with_reducible refine Kd.C_drew ?_))); (case side4 => exact HC1_1.out); rintro e w' ⟨rfl, ⟨nd, rfl⟩⟩) | (go_at_call 9; (with_reducible refine (smithyplain_Texts.calls kj2 _ _ l0_2 _ _ l1_2 true _ ?side1 ?side2 ?side3 ?side4 A26.out).mono ?_); (case side1 => repeat (first | exact (Kd.C_below HR0_2.out (by repeat (first | (with_reducible first | exact HB.out | apply below_alloc | apply pw_below_drewN | apply below_drew1 | refine below_set ?_ GE150.out | refine below_set ?_ GE151.out) | exact HB.out))) | (with_reducible refine Kd.C_alloc ?_ _) | (with_reducible refine Kd.C_drewN ?_ _) | (with_reducible refine Kd.C_drew ?_))); (case side2 => exact HC0_2.out); (case side3 => repeat (first | exact (Kd.C_below HR1_2.out (by repeat (first | (with_reducible first | exact HB.out | apply below_alloc | apply pw_below_drewN | apply below_drew1 | refine below_set ?_ GE150.out | refine below_set ?_ GE151.out) | exact HB.out))) | (with_reducible refine Kd.C_alloc ?_ _) | (with_reducible refine Kd.C_drewN ?_ _) | (with_reducible refine Kd.C_drew ?_))); (case side4 => exact HC1_2.out); rintro e w' ⟨rfl, ⟨nd, rfl⟩⟩) | (go_at_call 9; (with_reducible refine (smithyplain_Texts.calls kj2 _ _ l0_3 _ _ l1_3 true _ ?side1 ?side2 ?side3 ?side4 A28.out).mono ?_); (case side1 => repeat (first | exact (Kd.C_below HR0_3.out (by repeat (first | (with_reducible first | exact HB.out | apply below_alloc | apply pw_below_drewN | apply below_drew1 | refine below_set ?_ GE150.out | refine below_set ?_ GE151.out) | exact HB.out))) | (with_reducible refine Kd.C_alloc ?_ _) | (with_reducible refine Kd.C_drewN ?_ _) | (with_reducible refine Kd.C_drew ?_))); (case side2 => exact HC0_3.out); (case side3 => repeat (first | exact (Kd.C_below HR1_3.out (by repeat (first | (with_reducible first | exact HB.out | apply below_alloc | apply pw_below_drewN | apply below_drew1 | refine below_set ?_ GE150.out | refine below_set ?_ GE151.out) | exact HB.out))) | (with_reducible refine Kd.C_alloc ?_ _) | (with_reducible refine Kd.C_drewN ?_ _) | (with_reducible refine Kd.C_drew ?_))); (case side4 => exact HC1_3.out); rintro e w' ⟨rfl, ⟨nd, rfl⟩⟩) | (go_at_call 9; (with_reducible refine (smithyplain_Texts.calls kj2 _ _ l0_4 _ _ l1_4 false _ ?side1 ?side2 ?side3 ?side4 A30.out).mono ?_); (case side1 => repeat (first | exact (Kd.C_below HR0_4.out (by repeat (first | (with_reducible first | exact HB.out | apply below_alloc | apply pw_below_drewN | apply below_drew1 | refine below_set ?_ GE150.out | refine below_set ?_ GE151.out) | exact HB.out))) | (with_reducible refine Kd.C_alloc ?_ _) | (with_reducible refine Kd.C_drewN ?_ _) | (with_reducible refine Kd.C_drew ?_))); (case side2 => exact HC0_4.out); (case side3 => repeat (first | exact (Kd.C_below HR1_4.out (by repeat (first | (with_reducible first | exact HB.out | apply below_alloc | apply pw_below_drewN | apply below_drew1 | refine below_set ?_ GE150.out | refine below_set ?_ GE151.out) | exact HB.out))) | (with_reducible refine Kd.C_alloc ?_ _) | (with_reducible refine Kd.C_drewN ?_ _) | (with_reducible refine Kd.C_drew ?_))); (case side4 => exact HC1_4.out); rintro e w' ⟨rfl, ⟨nd, rfl⟩⟩))
                  go_ret
                  exact ⟨by first | rfl | (simp [errW_none, errW_some] <;> rfl) | (simp [*, errW_none, errW_some] <;> rfl), by repeat (first | (with_reducible first | exact HB.out | apply below_alloc | apply pw_below_drewN | apply below_drew1 | refine below_set ?_ GE150.out | refine below_set ?_ GE151.out) | exact HB.out)⟩
              · replace c29 := Bool.eq_false_iff.mpr c29
                subst c29
                have H1 : (some false) = some r := by rw [if_neg (show ¬ (false = true) by decide)] at H; exact H
                clear H
                have H := H1
                clear H1
                obtain rfl := Option.some.inj H
                have hnb39 := NB150_151.out
                have hnc39 := NB151_150.out
                have hcz40_0 : wc.cell? ⟨gb150, 0, none⟩ = some (.slice A0_0 l0_0.length c0_0) := (blk_cell BK150.out 0).trans rfl
                have hcz40_1 : wc.cell? ⟨gb150, 1, none⟩ = some (.slice A0_1 l0_1.length c0_1) := (blk_cell BK150.out 1).trans rfl
                have hcz40_2 : wc.cell? ⟨gb150, 2, none⟩ = some (.slice A0_2 l0_2.length c0_2) := (blk_cell BK150.out 2).trans rfl
                have hcz40_3 : wc.cell? ⟨gb150, 3, none⟩ = some (.slice A0_3 l0_3.length c0_3) := (blk_cell BK150.out 3).trans rfl
                have hcz40_4 : wc.cell? ⟨gb150, 4, none⟩ = some (.slice A0_4 l0_4.length c0_4) := (blk_cell BK150.out 4).trans rfl
                have hcz40_5 : wc.cell? ⟨gb150, 5, none⟩ = some (.bool a0_5) := (blk_cell BK150.out 5).trans rfl
                have hcz40_6 : wc.cell? ⟨gb150, 6, none⟩ = some (.bool a0_6) := (blk_cell BK150.out 6).trans rfl
                have hcz40_7 : wc.cell? ⟨gb150, 7, none⟩ = some (.bool a0_7) := (blk_cell BK150.out 7).trans rfl
                have hcz40_8 : wc.cell? ⟨gb150, 8, none⟩ = some (.slice A0_8 l0_8.length c0_8) := (blk_cell BK150.out 8).trans rfl
                have hcz40_9 : wc.cell? ⟨gb150, 9, none⟩ = some (.bool a0_9) := (blk_cell BK150.out 9).trans rfl
                have hfz40_0 := blk_frozen BK150.out 0
                have hfz40_1 := blk_frozen BK150.out 1
                have hfz40_2 := blk_frozen BK150.out 2
                have hfz40_3 := blk_frozen BK150.out 3
                have hfz40_4 := blk_frozen BK150.out 4
                have hfz40_5 := blk_frozen BK150.out 5
                have hfz40_6 := blk_frozen BK150.out 6
                have hfz40_7 := blk_frozen BK150.out 7
                have hfz40_8 := blk_frozen BK150.out 8
                have hfz40_9 := blk_frozen BK150.out 9
                have hcz41_0 : wc.cell? ⟨gb151, 0, none⟩ = some (.slice A1_0 l1_0.length c1_0) := (blk_cell BK151.out 0).trans rfl
                have hcz41_1 : wc.cell? ⟨gb151, 1, none⟩ = some (.slice A1_1 l1_1.length c1_1) := (blk_cell BK151.out 1).trans rfl
                have hcz41_2 : wc.cell? ⟨gb151, 2, none⟩ = some (.slice A1_2 l1_2.length c1_2) := (blk_cell BK151.out 2).trans rfl
                have hcz41_3 : wc.cell? ⟨gb151, 3, none⟩ = some (.slice A1_3 l1_3.length c1_3) := (blk_cell BK151.out 3).trans rfl
                have hcz41_4 : wc.cell? ⟨gb151, 4, none⟩ = some (.slice A1_4 l1_4.length c1_4) := (blk_cell BK151.out 4).trans rfl
                have hcz41_5 : wc.cell? ⟨gb151, 5, none⟩ = some (.bool a1_5) := (blk_cell BK151.out 5).trans rfl
                have hcz41_6 : wc.cell? ⟨gb151, 6, none⟩ = some (.bool a1_6) := (blk_cell BK151.out 6).trans rfl
                have hcz41_7 : wc.cell? ⟨gb151, 7, none⟩ = some (.bool a1_7) := (blk_cell BK151.out 7).trans rfl
                have hcz41_8 : wc.cell? ⟨gb151, 8, none⟩ = some (.slice A1_8 l1_8.length c1_8) := (blk_cell BK151.out 8).trans rfl
                have hcz41_9 : wc.cell? ⟨gb151, 9, none⟩ = some (.bool a1_9) := (blk_cell BK151.out 9).trans rfl
                have hfz41_0 := blk_frozen BK151.out 0
                have hfz41_1 := blk_frozen BK151.out 1
                have hfz41_2 := blk_frozen BK151.out 2
                have hfz41_3 := blk_frozen BK151.out 3
                have hfz41_4 := blk_frozen BK151.out 4
                have hfz41_5 := blk_frozen BK151.out 5
                have hfz41_6 := blk_frozen BK151.out 6
                have hfz41_7 := blk_frozen BK151.out 7
                have hfz41_8 := blk_frozen BK151.out 8
                have hfz41_9 := blk_frozen BK151.out 9
                go_wp2_with (first | ((with_reducible refine gate_callee (f := 9) rfl ?_); refine goesL_ (some 35) rfl rfl Try.func9 (by kernel_rfl) rfl #[.slice A0_0 l0_0.length c0_0, .slice A1_0 l1_0.length c1_0] rfl (by (try simp only [List.map_toArray, List.map_cons, List.map_nil]); first | done | rfl | (simp only [List.length_drop, List.length_take]; rfl)) ?_; (with_reducible refine (smithyplain_Texts.calls kj2 _ _ l0_0 _ _ l1_0 true _ ?side1 ?side2 ?side3 ?side4 A22.out).mono ?_); (case side1 => repeat (first | exact (Kd.C_below HR0_0.out HB.out) | (with_reducible refine Kd.C_alloc ?_ _) | (with_reducible refine Kd.C_drewN ?_ _) | (with_reducible refine Kd.C_drew ?_))); (case side2 => exact HC0_0.out); (case side3 => repeat (first | exact (Kd.C_below HR1_0.out HB.out) | (with_reducible refine Kd.C_alloc ?_ _) | (with_reducible refine Kd.C_drewN ?_ _) | (with_reducible refine Kd.C_drew ?_))); (case side4 => exact HC1_0.out); rintro e w' ⟨rfl, ⟨nd, rfl⟩⟩; refine ⟨_, rfl, ?_⟩) | (go_at_call 9; (with_reducible refine (smithyplain_Texts.calls kj2 _ _ l0_1 _ _ l1_1 true _ ?side1 ?side2 ?side3 ?side4 A24.out).mono ?_); (case side1 => repeat (first | exact (Kd.C_below HR0_1.out (by repeat (first | (with_reducible first | exact HB.out | apply below_alloc | apply pw_below_drewN | apply below_drew1 | refine below_set ?_ GE150.out | refine below_set ?_ GE151.out) | exact HB.out))) | (with_reducible refine Kd.C_alloc ?_ _) | (with_reducible refine Kd.C_drewN ?_ _) | (with_reducible refine Kd.C_drew ?_))); (case side2 => exact HC0_1.out); (case side3 => repeat (first | exact (Kd.C_below HR1_1.out (by repeat (first | (with_reducible first | exact HB.out | apply below_alloc | apply pw_below_drewN | apply below_drew1 | refine below_set ?_ GE150.out | refine below_set ?_ GE151.out) | exact HB.out))) | (with_reducible refine Kd.C_alloc ?_ _) | (with_reducible refine Kd.C_drewN ?_ _) | (with_reducible refine Kd.C_drew ?_))); (case side4 => exact HC1_1.out); rintro e w' ⟨rfl, ⟨nd, rfl⟩⟩) | (go_at_call 9; (with_reducible refine (smithyplain_Texts.calls kj2 _ _ l0_2 _ _ l1_2 true _ ?side1 ?side2 ?side3 ?side4 A26.out).mono ?_); (case side1 => repeat (first | exact (Kd.C_below HR0_2.out (by repeat (first | (with_reducible first | exact HB.out | apply below_alloc | apply pw_below_drewN | apply below_drew1 | refine below_set ?_ GE150.out | refine below_set ?_ GE151.out) | exact HB.out))) | (with_reducible refine Kd.C_alloc ?_ _) | (with_reducible refine Kd.C_drewN ?_ _) | (with_reducible refine Kd.C_drew ?_))); (case side2 => exact HC0_2.out); (case side3 => repeat (first | exact (Kd.C_below HR1_2.out (by repeat (first | (with_reducible first | exact HB.out | apply below_alloc | apply pw_below_drewN | apply below_drew1 | refine below_set ?_ GE150.out | refine below_set ?_ GE151.out) | exact HB.out))) | (with_reducible refine Kd.C_alloc ?_ _) | (with_reducible refine Kd.C_drewN ?_ _) | (with_reducible refine Kd.C_drew ?_))); (case side4 => exact HC1_2.out); rintro e w' ⟨rfl, ⟨nd, rfl⟩⟩) | (go_at_call 9; (with_reducible refine (smithyplain_Texts.calls kj2 _ _ l0_3 _ _ l1_3 false _ ?side1 ?side2 ?side3 ?side4 A28.out).mono ?_); (case side1 => repeat (first | exact (Kd.C_below HR0_3.out (by repeat (first | (with_reducible first | exact HB.out | apply below_alloc | apply pw_below_drewN | apply below_drew1 | refine below_set ?_ GE150.out | refine below_set ?_ GE151.out) | exact HB.out))) | (with_reducible refine Kd.C_alloc ?_ _) | (with_reducible refine Kd.C_drewN ?_ _) | (with_reducible refine Kd.C_drew ?_))); (case side2 => exact HC0_3.out); (case side3 => repeat (first | exact (Kd.C_below HR1_3.out (by repeat (first | (with_reducible first | exact HB.out | apply below_alloc | apply pw_below_drewN | apply below_drew1 | refine below_set ?_ GE150.out | refine below_set ?_ GE151.out) | exact HB.out))) | (with_reducible refine Kd.C_alloc ?_ _) | (with_reducible refine Kd.C_drewN ?_ _) | (with_reducible refine Kd.C_drew ?_))); (case side4 => exact HC1_3.out); rintro e w' ⟨rfl, ⟨nd, rfl⟩⟩))
                go_ret
                exact ⟨by first | rfl | (simp [errW_none, errW_some] <;> rfl) | (simp [*, errW_none, errW_some] <;> rfl), by repeat (first | (with_reducible first | exact HB.out | apply below_alloc | apply pw_below_drewN | apply below_drew1 | refine below_set ?_ GE150.out | refine below_set ?_ GE151.out) | exact HB.out)⟩
            · replace c27 := Bool.eq_false_iff.mpr c27
              subst c27
              have H1 : (some false) = some r := by rw [if_neg (show ¬ (false = true) by decide)] at H; exact H
              clear H
              have H := H1
              clear H1
              obtain rfl := Option.some.inj H
              have hnb42 := NB150_151.out
              have hnc42 := NB151_150.out
              have hcz43_0 : wc.cell? ⟨gb150, 0, none⟩ = some (.slice A0_0 l0_0.length c0_0) := (blk_cell BK150.out 0).trans rfl
              have hcz43_1 : wc.cell? ⟨gb150, 1, none⟩ = some (.slice A0_1 l0_1.length c0_1) := (blk_cell BK150.out 1).trans rfl
              have hcz43_2 : wc.cell? ⟨gb150, 2, none⟩ = some (.slice A0_2 l0_2.length c0_2) := (blk_cell BK150.out 2).trans rfl
              have hcz43_3 : wc.cell? ⟨gb150, 3, none⟩ = some (.slice A0_3 l0_3.length c0_3) := (blk_cell BK150.out 3).trans rfl
              have hcz43_4 : wc.cell? ⟨gb150, 4, none⟩ = some (.slice A0_4 l0_4.length c0_4) := (blk_cell BK150.out 4).trans rfl
              have hcz43_5 : wc.cell? ⟨gb150, 5, none⟩ = some (.bool a0_5) := (blk_cell BK150.out 5).trans rfl
              have hcz43_6 : wc.cell? ⟨gb150, 6, none⟩ = some (.bool a0_6) := (blk_cell BK150.out 6).trans rfl
              have hcz43_7 : wc.cell? ⟨gb150, 7, none⟩ = some (.bool a0_7) := (blk_cell BK150.out 7).trans rfl
              have hcz43_8 : wc.cell? ⟨gb150, 8, none⟩ = some (.slice A0_8 l0_8.length c0_8) := (blk_cell BK150.out 8).trans rfl
              have hcz43_9 : wc.cell? ⟨gb150, 9, none⟩ = some (.bool a0_9) := (blk_cell BK150.out 9).trans rfl
              have hfz43_0 := blk_frozen BK150.out 0
              have hfz43_1 := blk_frozen BK150.out 1
              have hfz43_2 := blk_frozen BK150.out 2
              have hfz43_3 := blk_frozen BK150.out 3
              have hfz43_4 := blk_frozen BK150.out 4
              have hfz43_5 := blk_frozen BK150.out 5
              have hfz43_6 := blk_frozen BK150.out 6
              have hfz43_7 := blk_frozen BK150.out 7
              have hfz43_8 := blk_frozen BK150.out 8
              have hfz43_9 := blk_frozen BK150.out 9
              have hcz44_0 : wc.cell? ⟨gb151, 0, none⟩ = some (.slice A1_0 l1_0.length c1_0) := (blk_cell BK151.out 0).trans rfl
              have hcz44_1 : wc.cell? ⟨gb151, 1, none⟩ = some (.slice A1_1 l1_1.length c1_1) := (blk_cell BK151.out 1).trans rfl
              have hcz44_2 : wc.cell? ⟨gb151, 2, none⟩ = some (.slice A1_2 l1_2.length c1_2) := (blk_cell BK151.out 2).trans rfl
              have hcz44_3 : wc.cell? ⟨gb151, 3, none⟩ = some (.slice A1_3 l1_3.length c1_3) := (blk_cell BK151.out 3).trans rfl
              have hcz44_4 : wc.cell? ⟨gb151, 4, none⟩ = some (.slice A1_4 l1_4.length c1_4) := (blk_cell BK151.out 4).trans rfl
              have hcz44_5 : wc.cell? ⟨gb151, 5, none⟩ = some (.bool a1_5) := (blk_cell BK151.out 5).trans rfl
              have hcz44_6 : wc.cell? ⟨gb151, 6, none⟩ = some (.bool a1_6) := (blk_cell BK151.out 6).trans rfl
              have hcz44_7 : wc.cell? ⟨gb151, 7, none⟩ = some (.bool a1_7) := (blk_cell BK151.out 7).trans rfl
              have hcz44_8 : wc.cell? ⟨gb151, 8, none⟩ = some (.slice A1_8 l1_8.length c1_8) := (blk_cell BK151.out 8).trans rfl
              have hcz44_9 : wc.cell? ⟨gb151, 9, none⟩ = some (.bool a1_9) := (blk_cell BK151.out 9).trans rfl
              have hfz44_0 := blk_frozen BK151.out 0
              have hfz44_1 := blk_frozen BK151.out 1
              have hfz44_2 := blk_frozen BK151.out 2
              have hfz44_3 := blk_frozen BK151.out 3
              have hfz44_4 := blk_frozen BK151.out 4
              have hfz44_5 := blk_frozen BK151.out 5
              have hfz44_6 := blk_frozen BK151.out 6
              have hfz44_7 := blk_frozen BK151.out 7
              have hfz44_8 := blk_frozen BK151.out 8
              have hfz44_9 := blk_frozen BK151.out 9
              go_wp2_with (first | ((with_reducible refine gate_callee (f := 9) rfl ?_); refine goesL_ (some 35) rfl rfl Try.func9 (by kernel_rfl) rfl #[.slice A0_0 l0_0.length c0_0, .slice A1_0 l1_0.length c1_0] rfl (by (try simp only [List.map_toArray, List.map_cons, List.map_nil]); first | done | rfl | (simp only [List.length_drop, List.length_take]; rfl)) ?_; (with_reducible refine (smithyplain_Texts.calls kj2 _ _ l0_0 _ _ l1_0 true _ ?side1 ?side2 ?side3 ?side4 A22.out).mono ?_); (case side1 => repeat (first | exact (Kd.C_below HR0_0.out HB.out) | (with_reducible refine Kd.C_alloc ?_ _) | (with_reducible refine Kd.C_drewN ?_ _) | (with_reducible refine Kd.C_drew ?_))); (case side2 => exact HC0_0.out); (case side3 => repeat (first | exact (Kd.C_below HR1_0.out HB.out) | (with_reducible refine Kd.C_alloc ?_ _) | (with_reducible refine Kd.C_drewN ?_ _) | (with_reducible refine Kd.C_drew ?_))); (case side4 => exact HC1_0.out); rintro e w' ⟨rfl, ⟨nd, rfl⟩⟩; refine ⟨_, rfl, ?_⟩) | (go_at_call 9; (with_reducible refine (smithyplain_Texts.calls kj2 _ _ l0_1 _ _ l1_1 true _ ?side1 ?side2 ?side3 ?side4 A24.out).mono ?_); (case side1 => repeat (first | exact (Kd.C_below HR0_1.out (by repeat (first | (with_reducible first | exact HB.out | apply below_alloc | apply pw_below_drewN | apply below_drew1 | refine below_set ?_ GE150.out | refine below_set ?_ GE151.out) | exact HB.out))) | (with_reducible refine Kd.C_alloc ?_ _) | (with_reducible refine Kd.C_drewN ?_ _) | (with_reducible refine Kd.C_drew ?_))); (case side2 => exact HC0_1.out); (case side3 => repeat (first | exact (Kd.C_below HR1_1.out (by repeat (first | (with_reducible first | exact HB.out | apply below_alloc | apply pw_below_drewN | apply below_drew1 | refine below_set ?_ GE150.out | refine below_set ?_ GE151.out) | exact HB.out))) | (with_reducible refine Kd.C_alloc ?_ _) | (with_reducible refine Kd.C_drewN ?_ _) | (with_reducible refine Kd.C_drew ?_))); (case side4 => exact HC1_1.out); rintro e w' ⟨rfl, ⟨nd, rfl⟩⟩) | (go_at_call 9; (with_reducible refine (smithyplain_Texts.calls kj2 _ _ l0_2 _ _ l1_2 false _ ?side1 ?side2 ?side3 ?side4 A26.out).mono ?_); (case side1 => repeat (first | exact (Kd.C_below HR0_2.out (by repeat (first | (with_reducible first | exact HB.out | apply below_alloc | apply pw_below_drewN | apply below_drew1 | refine below_set ?_ GE150.out | refine below_set ?_ GE151.out) | exact HB.out))) | (with_reducible refine Kd.C_alloc ?_ _) | (with_reducible refine Kd.C_drewN ?_ _) | (with_reducible refine Kd.C_drew ?_))); (case side2 => exact HC0_2.out); (case side3 => repeat (first | exact (Kd.C_below HR1_2.out (by repeat (first | (with_reducible first | exact HB.out | apply below_alloc | apply pw_below_drewN | apply below_drew1 | refine below_set ?_ GE150.out | refine below_set ?_ GE151.out) | exact HB.out))) | (with_reducible refine Kd.C_alloc ?_ _) | (with_reducible refine Kd.C_drewN ?_ _) | (with_reducible refine Kd.C_drew ?_))); (case side4 => exact HC1_2.out); rintro e w' ⟨rfl, ⟨nd, rfl⟩⟩))
              go_ret
              exact ⟨by first | rfl | (simp [errW_none, errW_some] <;> rfl) | (simp [*, errW_none, errW_some] <;> rfl), by repeat (first | (with_reducible first | exact HB.out | apply below_alloc | apply pw_below_drewN | apply below_drew1 | refine below_set ?_ GE150.out | refine below_set ?_ GE151.out) | exact HB.out)⟩
          · replace c25 := Bool.eq_false_iff.mpr c25
            subst c25
            have H1 : (some false) = some r := by rw [if_neg (show ¬ (false = true) by decide)] at H; exact H
            clear H
            have H := H1
            clear H1
            obtain rfl := Option.some.inj H
            have hnb45 := NB150_151.out
            have hnc45 := NB151_150.out
            have hcz46_0 : wc.cell? ⟨gb150, 0, none⟩ = some (.slice A0_0 l0_0.length c0_0) := (blk_cell BK150.out 0).trans rfl
            have hcz46_1 : wc.cell? ⟨gb150, 1, none⟩ = some (.slice A0_1 l0_1.length c0_1) := (blk_cell BK150.out 1).trans rfl
            have hcz46_2 : wc.cell? ⟨gb150, 2, none⟩ = some (.slice A0_2 l0_2.length c0_2) := (blk_cell BK150.out 2).trans rfl
            have hcz46_3 : wc.cell? ⟨gb150, 3, none⟩ = some (.slice A0_3 l0_3.length c0_3) := (blk_cell BK150.out 3).trans rfl
            have hcz46_4 : wc.cell? ⟨gb150, 4, none⟩ = some (.slice A0_4 l0_4.length c0_4) := (blk_cell BK150.out 4).trans rfl
            have hcz46_5 : wc.cell? ⟨gb150, 5, none⟩ = some (.bool a0_5) := (blk_cell BK150.out 5).trans rfl
            have hcz46_6 : wc.cell? ⟨gb150, 6, none⟩ = some (.bool a0_6) := (blk_cell BK150.out 6).trans rfl
            have hcz46_7 : wc.cell? ⟨gb150, 7, none⟩ = some (.bool a0_7) := (blk_cell BK150.out 7).trans rfl
            have hcz46_8 : wc.cell? ⟨gb150, 8, none⟩ = some (.slice A0_8 l0_8.length c0_8) := (blk_cell BK150.out 8).trans rfl
            have hcz46_9 : wc.cell? ⟨gb150, 9, none⟩ = some (.bool a0_9) := (blk_cell BK150.out 9).trans rfl
            have hfz46_0 := blk_frozen BK150.out 0
            have hfz46_1 := blk_frozen BK150.out 1
            have hfz46_2 := blk_frozen BK150.out 2
            have hfz46_3 := blk_frozen BK150.out 3
            have hfz46_4 := blk_frozen BK150.out 4
            have hfz46_5 := blk_frozen BK150.out 5
            have hfz46_6 := blk_frozen BK150.out 6
            have hfz46_7 := blk_frozen BK150.out 7
            have hfz46_8 := blk_frozen BK150.out 8
            have hfz46_9 := blk_frozen BK150.out 9
            have hcz47_0 : wc.cell? ⟨gb151, 0, none⟩ = some (.slice A1_0 l1_0.length c1_0) := (blk_cell BK151.out 0).trans rfl
            have hcz47_1 : wc.cell? ⟨gb151, 1, none⟩ = some (.slice A1_1 l1_1.length c1_1) := (blk_cell BK151.out 1).trans rfl
            have hcz47_2 : wc.cell? ⟨gb151, 2, none⟩ = some (.slice A1_2 l1_2.length c1_2) := (blk_cell BK151.out 2).trans rfl
            have hcz47_3 : wc.cell? ⟨gb151, 3, none⟩ = some (.slice A1_3 l1_3.length c1_3) := (blk_cell BK151.out 3).trans rfl
            have hcz47_4 : wc.cell? ⟨gb151, 4, none⟩ = some (.slice A1_4 l1_4.length c1_4) := (blk_cell BK151.out 4).trans rfl
            have hcz47_5 : wc.cell? ⟨gb151, 5, none⟩ = some (.bool a1_5) := (blk_cell BK151.out 5).trans rfl
            have hcz47_6 : wc.cell? ⟨gb151, 6, none⟩ = some (.bool a1_6) := (blk_cell BK151.out 6).trans rfl
            have hcz47_7 : wc.cell? ⟨gb151, 7, none⟩ = some (.bool a1_7) := (blk_cell BK151.out 7).trans rfl
            have hcz47_8 : wc.cell? ⟨gb151, 8, none⟩ = some (.slice A1_8 l1_8.length c1_8) := (blk_cell BK151.out 8).trans rfl
            have hcz47_9 : wc.cell? ⟨gb151, 9, none⟩ = some (.bool a1_9) := (blk_cell BK151.out 9).trans rfl
            have hfz47_0 := blk_frozen BK151.out 0
            have hfz47_1 := blk_frozen BK151.out 1
            have hfz47_2 := blk_frozen BK151.out 2
            have hfz47_3 := blk_frozen BK151.out 3
            have hfz47_4 := blk_frozen BK151.out 4
            have hfz47_5 := blk_frozen BK151.out 5
            have hfz47_6 := blk_frozen BK151.out 6
            have hfz47_7 := blk_frozen BK151.out 7
            have hfz47_8 := blk_frozen BK151.out 8
            have hfz47_9 := blk_frozen BK151.out 9
            go_wp2_with (first | ((with_reducible refine gate_callee (f := 9) rfl ?_); refine goesL_ (some 35) rfl rfl Try.func9 (by kernel_rfl) rfl #[.slice A0_0 l0_0.length c0_0, .slice A1_0 l1_0.length c1_0] rfl (by (try simp only [List.map_toArray, List.map_cons, List.map_nil]); first | done | rfl | (simp only [List.length_drop, List.length_take]; rfl)) ?_; (with_reducible refine (smithyplain_Texts.calls kj2 _ _ l0_0 _ _ l1_0 true _ ?side1 ?side2 ?side3 ?side4 A22.out).mono ?_); (case side1 => repeat (first | exact (Kd.C_below HR0_0.out HB.out) | (with_reducible refine Kd.C_alloc ?_ _) | (with_reducible refine Kd.C_drewN ?_ _) | (with_reducible refine Kd.C_drew ?_))); (case side2 => exact HC0_0.out); (case side3 => repeat (first | exact (Kd.C_below HR1_0.out HB.out) | (with_reducible refine Kd.C_alloc ?_ _) | (with_reducible refine Kd.C_drewN ?_ _) | (with_reducible refine Kd.C_drew ?_))); (case side4 => exact HC1_0.out); rintro e w' ⟨rfl, ⟨nd, rfl⟩⟩; refine ⟨_, rfl, ?_⟩) | (go_at_call 9; (with_reducible refine (smithyplain_Texts.calls kj2 _ _ l0_1 _ _ l1_1 false _ ?side1 ?side2 ?side3 ?side4 A24.out).mono ?_); (case side1 => repeat (first | exact (Kd.C_below HR0_1.out (by repeat (first | (with_reducible first | exact HB.out | apply below_alloc | apply pw_below_drewN | apply below_drew1 | refine below_set ?_ GE150.out | refine below_set ?_ GE151.out) | exact HB.out))) | (with_reducible refine Kd.C_alloc ?_ _) | (with_reducible refine Kd.C_drewN ?_ _) | (with_reducible refine Kd.C_drew ?_))); (case side2 => exact HC0_1.out); (case side3 => repeat (first | exact (Kd.C_below HR1_1.out (by repeat (first | (with_reducible first | exact HB.out | apply below_alloc | apply pw_below_drewN | apply below_drew1 | refine below_set ?_ GE150.out | refine below_set ?_ GE151.out) | exact HB.out))) | (with_reducible refine Kd.C_alloc ?_ _) | (with_reducible refine Kd.C_drewN ?_ _) | (with_reducible refine Kd.C_drew ?_))); (case side4 => exact HC1_1.out); rintro e w' ⟨rfl, ⟨nd, rfl⟩⟩))
            go_ret
            exact ⟨by first | rfl | (simp [errW_none, errW_some] <;> rfl) | (simp [*, errW_none, errW_some] <;> rfl), by repeat (first | (with_reducible first | exact HB.out | apply below_alloc | apply pw_below_drewN | apply below_drew1 | refine below_set ?_ GE150.out | refine below_set ?_ GE151.out) | exact HB.out)⟩
        · replace c23 := Bool.eq_false_iff.mpr c23
          subst c23
          have H1 : (some false) = some r := by rw [if_neg (show ¬ (false = true) by decide)] at H; exact H
          clear H
          have H := H1
          clear H1
          obtain rfl := Option.some.inj H
          have hnb48 := NB150_151.out
          have hnc48 := NB151_150.out
          have hcz49_0 : wc.cell? ⟨gb150, 0, none⟩ = some (.slice A0_0 l0_0.length c0_0) := (blk_cell BK150.out 0).trans rfl
          have hcz49_1 : wc.cell? ⟨gb150, 1, none⟩ = some (.slice A0_1 l0_1.length c0_1) := (blk_cell BK150.out 1).trans rfl
          have hcz49_2 : wc.cell? ⟨gb150, 2, none⟩ = some (.slice A0_2 l0_2.length c0_2) := (blk_cell BK150.out 2).trans rfl
          have hcz49_3 : wc.cell? ⟨gb150, 3, none⟩ = some (.slice A0_3 l0_3.length c0_3) := (blk_cell BK150.out 3).trans rfl
          have hcz49_4 : wc.cell? ⟨gb150, 4, none⟩ = some (.slice A0_4 l0_4.length c0_4) := (blk_cell BK150.out 4).trans rfl
          have hcz49_5 : wc.cell? ⟨gb150, 5, none⟩ = some (.bool a0_5) := (blk_cell BK150.out 5).trans rfl
          have hcz49_6 : wc.cell? ⟨gb150, 6, none⟩ = some (.bool a0_6) := (blk_cell BK150.out 6).trans rfl
          have hcz49_7 : wc.cell? ⟨gb150, 7, none⟩ = some (.bool a0_7) := (blk_cell BK150.out 7).trans rfl
          have hcz49_8 : wc.cell? ⟨gb150, 8, none⟩ = some (.slice A0_8 l0_8.length c0_8) := (blk_cell BK150.out 8).trans rfl
          have hcz49_9 : wc.cell? ⟨gb150, 9, none⟩ = some (.bool a0_9) := (blk_cell BK150.out 9).trans rfl
          have hfz49_0 := blk_frozen BK150.out 0
          have hfz49_1 := blk_frozen BK150.out 1
          have hfz49_2 := blk_frozen BK150.out 2
          have hfz49_3 := blk_frozen BK150.out 3
          have hfz49_4 := blk_frozen BK150.out 4
          have hfz49_5 := blk_frozen BK150.out 5
          have hfz49_6 := blk_frozen BK150.out 6
          have hfz49_7 := blk_frozen BK150.out 7
          have hfz49_8 := blk_frozen BK150.out 8
          have hfz49_9 := blk_frozen BK150.out 9
          have hcz50_0 : wc.cell? ⟨gb151, 0, none⟩ = some (.slice A1_0 l1_0.length c1_0) := (blk_cell BK151.out 0).trans rfl
          have hcz50_1 : wc.cell? ⟨gb151, 1, none⟩ = some (.slice A1_1 l1_1.length c1_1) := (blk_cell BK151.out 1).trans rfl
          have hcz50_2 : wc.cell? ⟨gb151, 2, none⟩ = some (.slice A1_2 l1_2.length c1_2) := (blk_cell BK151.out 2).trans rfl
          have hcz50_3 : wc.cell? ⟨gb151, 3, none⟩ = some (.slice A1_3 l1_3.length c1_3) := (blk_cell BK151.out 3).trans rfl
          have hcz50_4 : wc.cell? ⟨gb151, 4, none⟩ = some (.slice A1_4 l1_4.length c1_4) := (blk_cell BK151.out 4).trans rfl
          have hcz50_5 : wc.cell? ⟨gb151, 5, none⟩ = some (.bool a1_5) := (blk_cell BK151.out 5).trans rfl
          have hcz50_6 : wc.cell? ⟨gb151, 6, none⟩ = some (.bool a1_6) := (blk_cell BK151.out 6).trans rfl
          have hcz50_7 : wc.cell? ⟨gb151, 7, none⟩ = some (.bool a1_7) := (blk_cell BK151.out 7).trans rfl
          have hcz50_8 : wc.cell? ⟨gb151, 8, none⟩ = some (.slice A1_8 l1_8.length c1_8) := (blk_cell BK151.out 8).trans rfl
          have hcz50_9 : wc.cell? ⟨gb151, 9, none⟩ = some (.bool a1_9) := (blk_cell BK151.out 9).trans rfl
          have hfz50_0 := blk_frozen BK151.out 0
          have hfz50_1 := blk_frozen BK151.out 1
          have hfz50_2 := blk_frozen BK151.out 2
          have hfz50_3 := blk_frozen BK151.out 3
          have hfz50_4 := blk_frozen BK151.out 4
          have hfz50_5 := blk_frozen BK151.out 5
          have hfz50_6 := blk_frozen BK151.out 6
          have hfz50_7 := blk_frozen BK151.out 7
          have hfz50_8 := blk_frozen BK151.out 8
          have hfz50_9 := blk_frozen BK151.out 9
          go_wp2_with (first | ((with_reducible refine gate_callee (f := 9) rfl ?_); refine goesL_ (some 35) rfl rfl Try.func9 (by kernel_rfl) rfl #[.slice A0_0 l0_0.length c0_0, .slice A1_0 l1_0.length c1_0] rfl (by (try simp only [List.map_toArray, List.map_cons, List.map_nil]); first | done | rfl | (simp only [List.length_drop, List.length_take]; rfl)) ?_; (with_reducible refine (smithyplain_Texts.calls kj2 _ _ l0_0 _ _ l1_0 false _ ?side1 ?side2 ?side3 ?side4 A22.out).mono ?_); (case side1 => repeat (first | exact (Kd.C_below HR0_0.out HB.out) | (with_reducible refine Kd.C_alloc ?_ _) | (with_reducible refine Kd.C_drewN ?_ _) | (with_reducible refine Kd.C_drew ?_))); (case side2 => exact HC0_0.out); (case side3 => repeat (first | exact (Kd.C_below HR1_0.out HB.out) | (with_reducible refine Kd.C_alloc ?_ _) | (with_reducible refine Kd.C_drewN ?_ _) | (with_reducible refine Kd.C_drew ?_))); (case side4 => exact HC1_0.out); rintro e w' ⟨rfl, ⟨nd, rfl⟩⟩; refine ⟨_, rfl, ?_⟩))
          go_ret
          exact ⟨by first | rfl | (simp [errW_none, errW_some] <;> rfl) | (simp [*, errW_none, errW_some] <;> rfl), by repeat (first | (with_reducible first | exact HB.out | apply below_alloc | apply pw_below_drewN | apply below_drew1 | refine below_set ?_ GE150.out | refine below_set ?_ GE151.out) | exact HB.out)⟩

end Go.Proofs.Ytkbcfbelpjifnaa.PX
