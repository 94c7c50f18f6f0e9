/- special.Sort. -/
import Derived.Test.YtkbcfbelpjifnaaSpecP
import Derived.Deep.RegionLaw
import Derived.Lib.AppendZeros
import Derived.Test.YtkbcfbelpjifnaaSpec9
import Derived.Test.YtkbcfbelpjifnaaPXx0
import Derived.Test.YtkbcfbelpjifnaaPXx2
import Derived.Test.YtkbcfbelpjifnaaPXx3
import Derived.Test.YtkbcfbelpjifnaaOpens
import Derived.Test.YtkbcfbelpjifnaaWNEv
namespace Go.Proofs.Ytkbcfbelpjifnaa.Spec
open Go Go.RowKit Go.Proofs Go.Proofs.YtkbcfbelpjifnaaW.PrintWords Go.Proofs.Ytkbcfbelpjifnaa.PX Go.Proofs.Ytkbcfbelpjifnaa.Plain
set_option linter.unusedVariables false
set_option linter.unusedSimpArgs false

/-- How many lines are of no special target. -/
def cnt (l : List Rl) : Nat := (l.filter fun x => !isSp x.f0).length
theorem cnt_step {l : List Rl} {k : Nat} {x : Rl} (h : l[k]? = some x) : cnt (l.take (k + 1)) = cnt (l.take k) + (if isSp x.f0 = true then 0 else 1) := by
  unfold cnt
  rw [List.take_add_one, h, List.filter_append, List.length_append]
  congr 1
  cases hq : isSp x.f0 <;> simp [hq]
/-- What Sort answers: how long its rows are. -/
def SortPost (w : World) (n : Nat) (e : Ending) (w' : World) : Prop :=
  (∃ (v u : Value) (c i : Int), e = .returned (.tuple #[v, u, .int .i64 c, .int .i64 i]) ∧ ((c = 0 ∧ ∃ A a ca B b cb, v = .slice A a ca ∧ u = .slice B b cb ∧ a + b = n) ∨ (c ≠ 0 ∧ v = .slice none 0 0 ∧ u = .slice none 0 0))) ∧ Below w.heap.size w w'
theorem SortPost.bad {w w' : World} {n : Nat} {c i : Int} (hc : c ≠ 0) (hb : Below w.heap.size w w') : SortPost w n (.returned (.tuple #[.slice none 0 0, .slice none 0 0, .int .i64 c, .int .i64 i])) w' :=
  ⟨⟨_, _, _, _, rfl, Or.inr ⟨hc, rfl, rfl⟩⟩, hb⟩
/-- Appending one element to one's own row, in a region that draws. -/
theorem step_append_inf {w : World} {ops : Array Oper} {o : Oper} {a : Act} {K : Act → World → Prop} {Q : Exit → Act → World → Prop} {E : Prop} (hgd : o.guard = none) (s x : Operand)
    (ho : o.op = .call { callee := .builtin .append, args := #[s, x], argTypes := #[42, 42] })
    (base : Nat) (v : Value) (ys : List Inf) (hs : a.eval s = v) (hown : w.ownsRow base 65 3 v ys.length (icells ys)) (g : Nat) (y : Inf) (hx : a.eval x = .slice (some ⟨g, 0, none⟩) 1 1)
    (hg : w.heap[g]? = some (.cells #[.string y.a, .string y.b, .slice y.A y.n y.c] 65 (0, 0))) (hl : ys.length ≤ 1048576) (hbase : base ≤ w.heap.size)
    (hK : ∀ v' w', w'.ownsRow base 65 3 v' (ys ++ [y]).length (icells (ys ++ [y])) → w.grownBy w' v.ownBlock → K (a.put o.dst v') w') : if Region.wanted o (yielded ops a.tmps) = true then Oper.wp Try.prog o a w K Q else E := by
  have hw : Region.wanted o (yielded ops a.tmps) = true := by simp [Region.wanted, hgd]
  rw [if_pos hw]
  obtain ⟨i0, hi0, hz0, hz1, hz2⟩ := info3 info_inf
  refine wp_append_own w s x 42 ho base 65 i0 _ 3 56 Try.underlying42 hi0 hz0 hz1 hz2 rfl (by decide) v ys.length (icells ys) hs hown ⟨g, 0, none⟩ 1 1 (icell y) hx rfl (fun j u hj => by
    rw [add0, cell_of_row _ _ _ _ _ _ hg, ← Array.getElem?_toList]; exact hj) (by intro u hu; simp at hu; rcases hu with rfl | rfl | rfl <;> rfl) (by unfold maxLen; omega) (by omega) hbase (fun v' w' h2 h3 _ => hK v' w' ?_ h3)
  have e : icells (ys ++ [y]) = icells ys ++ icell y := by simp [icells]
  rw [e, List.length_append]
  exact h2
set_option maxHeartbeats 8000000 in
set_option maxRecDepth 100000 in
theorem sort_calls (A : Option Addr) (c : Nat) (l : List Rl) (As : Option Addr) (cs : Nat) (sf : List ByteArray) (w : World) (hr : k30.C w A l.length l) (hfit : ∀ x ∈ l, Fits x) (hs : Kd.string.C w As sf.length sf) (hcs : sf.length ≤ cs) (hsf : ∀ n ∈ sf, n.size ≤ 4611686018427387904) :
    Calls Try.prog 15 #[.slice A l.length c, .slice As sf.length cs] w fun e w' => SortPost w (cnt l) e w' := by
  have hmx : l.length ≤ 9223372036854775807 := hr.2.1
  have hask := asked_calls A c l w hr hfit
  by_cases h0 : (askedL l).1 = 0
  · obtain ⟨hl, hck⟩ := asked_ok h0
    rw [h0] at hask
    generalize (askedL l).2 = q2 at hask
    clear h0
    by_cases h32 : 32 < sf.length
    · have d0 : (32 : Int) < (sf.length : Int) := by omega
      go_enter Try.func15, Try.ntmps15
      go_wp2_with fail
      refine hask.mono ?_
      rintro e w1 ⟨rfl, hb1⟩
      go_wp2_with fail
      go_returns
      exact SortPost.bad (by decide) hb1
    · have d0 : ¬ ((32 : Int) < (sf.length : Int)) := by omega
      have hany := fun W (hb : Below w.heap.size w W) => any_sort As cs sf W (Kd.C_below hs hb) hsf
      cases hq : sf.any fun s => !isSuf s with
      | true =>
        rw [hq] at hany
        go_enter Try.func15, Try.ntmps15
        go_wp2_with fail
        refine hask.mono ?_
        rintro e w1 ⟨rfl, hb1⟩
        go_wp2_with fail
        refine (hany _ hb1).mono ?_
        rintro e w2 ⟨rfl, hb2⟩
        go_wp2_with fail
        go_returns
        exact SortPost.bad (by decide) (below_t hb1 hb2)
      | false =>
        rw [hq] at hany
        have hcn : ∀ {k x}, l[k]? = some x → cnt (l.take (k + 1)) = cnt (l.take k) + (if isSp x.f0 = true then 0 else 1) := cnt_step
        obtain ⟨F, hF⟩ : ∃ F : Nat → Nat, F = fun k => cnt (l.take k) := ⟨_, rfl⟩
        have hF0 : F 0 = 0 := by rw [hF]; rfl
        have hFn : F l.length = cnt l := by rw [hF]; simp
        have hFs : Hid (∀ k x, l[k]? = some x → F (k + 1) = F k + (if isSp x.f0 = true then 0 else 1)) := fun k x h => by rw [hF]; exact cnt_step h
        have hFl : Hid (∀ k, F k ≤ k) := fun k => by
          rw [hF]
          exact Nat.le_trans (List.length_filter_le _ _) (by simp; omega)
        clear hF hcn hq
        rw [← hFn]
        clear hFn
        go_enter Try.func15, Try.ntmps15
        go_wp2_with fail
        refine hask.mono ?_
        rintro e w1 ⟨rfl, hb1⟩
        go_wp2_with fail
        refine (hany _ hb1).mono ?_
        rintro e w2 ⟨rfl, hb2⟩
        have hB2 : Below w.heap.size w w2 := below_t hb1 hb2
        clear hany hask hb1 hb2
        go_wp2_with fail
        go_loopw [10, 11, 33] (fun v u i wr => ∃ (k m : Nat) (ys : List Inf) (rs : List Value), i = .int .i64 (k : Int) ∧ k ≤ l.length ∧ wr.ownsRow w.heap.size 65 3 v ys.length (icells ys) ∧ wr.ownsRow w.heap.size 30 4 u m rs ∧ ys.length + m = F k ∧ Below w.heap.size w wr) (fun _ _ i _ => l.length - (intOf i).toNat)
        case atStart => exact ⟨0, 0, [], [], rfl, Nat.zero_le _, World.ownsRow_nil _ _ _ _, World.ownsRow_nil _ _ _ _, by rw [hF0]; rfl, hB2⟩
        case round =>
          obtain ⟨k, m, ys, rs, rfl, hk, hv, hu, hsum, hB⟩ := hrel
          obtain ⟨Av, cv, rfl⟩ := own_slice hv
          obtain ⟨Au, cu, rfl⟩ := own_slice hu
          have hsm : ys.length + m ≤ 512 := by have := hFl.out k; omega
          by_cases hlt : k < l.length
          · have d1 : (k : Int) < (l.length : Int) := by omega
            have d2 : (0 : Int) ≤ (k : Int) := by omega
            obtain ⟨x, hx⟩ : ∃ x, l[k]? = some x := ⟨_, List.getElem?_eq_getElem hlt⟩
            obtain ⟨hn, hs64, h64, h642⟩ := ck_ok (hck x (List.mem_of_getElem? hx))
            obtain ⟨ad, A1, c1, A2, c2, rfl, hxw⟩ := rul_at hr hx
            have hxr := hxw.below hB
            have e0 := hxr.e0
            have e1 := hxr.e1
            have e2 := hxr.e2
            have e3 := hxr.e3
            have hst := hFs.out k x hx
            have hB2' : Below w.heap.size w (wr.alloc (boxO x A1 c1 A2 c2)) := below_alloc hB _
            have hsp := split_ends As cs sf x.f0 (wr.alloc (boxO x A1 c1 A2 c2)) (Kd.C_below hs hB2') hcs (by omega)
            have hbox : (wr.alloc (boxO x A1 c1 A2 c2)).heap[wr.heap.size]? = some (boxO x A1 c1 A2 c2) := heap_alloc_new wr _
            have hba : Below wr.heap.size wr (wr.alloc (boxO x A1 c1 A2 c2)) := below_alloc (Below.refl _ _) _
            go_wp2_with fail
            refine hsp.mono ?_
            rintro e w3 ⟨a, b, q, rfl, hb3⟩
            have hbox3 := (hb3.block wr.heap.size (blk_lt hbox)).trans hbox
            have hb13 : Below wr.heap.size wr w3 := below_t hba hb3
            obtain ⟨f0, f1, f2, f3⟩ := box_cells hbox3
            clear hsp hbox hB2' hb3 hba
            clear f0 f1 f2 f3
            go_upto_region 15 with fail
            have hb4 : Below wr.heap.size wr ((w3.alloc (.cells #[.string a] 9)).alloc (.cells #[.string b] 9)) := below_alloc (below_alloc hb13 _) _
            have hbox4 : ((w3.alloc (.cells #[.string a] 9)).alloc (.cells #[.string b] 9)).heap[wr.heap.size]? = some (boxO x A1 c1 A2 c2) := (Below.heap_alloc _ _ _ (by have := blk_lt hbox3; simp; omega)).trans ((Below.heap_alloc _ _ _ (blk_lt hbox3)).trans hbox3)
            have ha4 : ((w3.alloc (.cells #[.string a] 9)).alloc (.cells #[.string b] 9)).heap[w3.heap.size]? = some (.cells #[.string a] 9 (0, 0)) := (Below.heap_alloc _ _ _ (by simp)).trans (heap_alloc_new w3 _)
            have hbb4 : ((w3.alloc (.cells #[.string a] 9)).alloc (.cells #[.string b] 9)).heap[w3.heap.size + 1]? = some (.cells #[.string b] 9 (0, 0)) := by
              rw [show w3.heap.size + 1 = (w3.alloc (.cells #[.string a] 9)).heap.size by simp]
              exact heap_alloc_new _ _
            generalize (w3.alloc (.cells #[.string a] 9)).alloc (.cells #[.string b] 9) = w4 at hb4 hbox4 ha4 hbb4 ⊢
            obtain ⟨ga, hga⟩ : ∃ g, g = w3.heap.size := ⟨_, rfl⟩
            obtain ⟨gb, hgb⟩ : ∃ g, g = w3.heap.size + 1 := ⟨_, rfl⟩
            rw [← hga] at ha4
            rw [← hgb] at hbb4
            rw [← hgb, ← hga]
            clear hga hgb hbox3 hb13
            obtain ⟨f0, f1, f2, f3⟩ := box_cells hbox4
            have his := is_calls x.f0 w4
            go_wp2_with fail
            refine his.mono ?_
            rintro e w5 ⟨rfl, hb5⟩
            have hB5 := hB.trans (hb4.trans (hb5.mono hb4.size) |>.mono hB.size)
            have hb45 := below_t hb4 hb5
            have hv5 := own_below hv hb45
            have hu5 := own_below hu hb45
            cases hsp : isSp x.f0 with
            | true =>
              rw [hsp, if_pos rfl] at hst
              go_wp2_with fail
              go_roundw
              case rel => exact ⟨k + 1, m, ys, rs, by go_num, by omega, hv5, hu5, by omega, hB5⟩
              case measure => simp [intOf]; omega
            | false =>
              rw [hsp, if_neg (by simp)] at hst
              have hst' : Hid (F (k + 1) = F k + 1) := hst
              have hbox5 := (hb5.block wr.heap.size (blk_lt hbox4)).trans hbox4
              have ha5 := cell_of_row w5 ga 0 _ _ _ ((hb5.block ga (blk_lt ha4)).trans ha4)
              have hbb5 := cell_of_row w5 gb 0 _ _ _ ((hb5.block gb (blk_lt hbb4)).trans hbb4)
              clear f0 f1 f2 f3 hst his
              obtain ⟨f0, f1, f2, f3⟩ := box_cells hbox5
              have r1 := Kd.C_below hxw.r1 hB5
              have r2 := Kd.C_below hxw.r2 hB5
              cases q with
              | false =>
                clear ha5 hbb5
                have hcp := copied_calls x A1 c1 A2 c2 w5 r1 r2 h64 h642
                go_wp2_with fail
                refine hcp.mono ?_
                rintro e w6 ⟨⟨B1, n1, g1, B2, n2, g2, rfl⟩, hb6⟩
                obtain ⟨i0, hi0, hz0, hz1, hz2⟩ := info3 info_rule
                have hal : Below w6.heap.size w6 (w6.alloc (.cells #[.string x.f0, .slice B1 n1 g1, .slice B2 n2 g2, .bool x.f3] 30)) := below_alloc (Below.refl _ _) _
                have hnw : (w6.alloc (.cells #[.string x.f0, .slice B1 n1 g1, .slice B2 n2 g2, .bool x.f3] 30)).heap[w6.heap.size]? = some (.cells #[.string x.f0, .slice B1 n1 g1, .slice B2 n2 g2, .bool x.f3] 30 (0, 0)) := heap_alloc_new w6 _
                have hB6 : Below w.heap.size w (w6.alloc (.cells #[.string x.f0, .slice B1 n1 g1, .slice B2 n2 g2, .bool x.f3] 30)) := below_t (below_t hB5 hb6) hal
                have hu6 := own_below hu5 (below_t hb6 hal)
                have hv6 := own_below hv5 (below_t hb6 hal)
                obtain ⟨v8, w8, hrun, hown8, hgrow8, _⟩ := run_append_own (P := Try.prog) (w := w6.alloc (.cells #[.string x.f0, .slice B1 n1 g1, .slice B2 n2 g2, .bool x.f3] 30)) w.heap.size 22 22 30 i0 _ 4 72 Try.underlying22 hi0 hz0 hz1 hz2 rfl (by decide) (.slice Au m cu) m rs hu6 ⟨w6.heap.size, 0, none⟩ 1 1 [.string x.f0, .slice B1 n1 g1, .slice B2 n2 g2, .bool x.f3] rfl (fun j u hj => by
                  rw [add0, cell_of_row _ _ _ _ _ _ hnw, ← Array.getElem?_toList]; exact hj) (by intro u hu; simp at hu; rcases hu with rfl | rfl | rfl | rfl <;> rfl) (by unfold maxLen; omega) (by omega) hB6.size
                have hv8 := hv6.kept hgrow8 (apart_types hu6 hv6 (by decide))
                have hB8 := hB6.grown hgrow8 hB6.size (fun k' hk' => (World.ownsRow.lt hu6 k' hk').1)
                go_wp2_with (at_builtin; go_must (refine Lib.wpList_append_run _ rfl (.tmp 46) (.tmp 49) 22 22 rfl _ _ rfl rfl v8 w8 hrun ?_))
                go_roundw
                case rel => exact ⟨k + 1, m + 1, ys, rs ++ [.string x.f0, .slice B1 n1 g1, .slice B2 n2 g2, .bool x.f3], by go_num, by omega, hv8, hown8, by have := hst'.out; omega, hB8⟩
                case measure => simp [intOf]; omega
              | true =>
                cases hx3 : x.f3 with
                | false =>
                  have hcp := copied_calls x A1 c1 A2 c2 w5 r1 r2 h64 h642
                  rw [hx3] at hcp f3
                  go_wp2_with fail
                  refine hcp.mono ?_
                  rintro e w6 ⟨⟨B1, n1, g1, B2, n2, g2, rfl⟩, hb6⟩
                  obtain ⟨i0, hi0, hz0, hz1, hz2⟩ := info3 info_rule
                  have hal : Below w6.heap.size w6 (w6.alloc (.cells #[.string x.f0, .slice B1 n1 g1, .slice B2 n2 g2, .bool false] 30)) := below_alloc (Below.refl _ _) _
                  have hnw : (w6.alloc (.cells #[.string x.f0, .slice B1 n1 g1, .slice B2 n2 g2, .bool false] 30)).heap[w6.heap.size]? = some (.cells #[.string x.f0, .slice B1 n1 g1, .slice B2 n2 g2, .bool false] 30 (0, 0)) := heap_alloc_new w6 _
                  have hB6 : Below w.heap.size w (w6.alloc (.cells #[.string x.f0, .slice B1 n1 g1, .slice B2 n2 g2, .bool false] 30)) := below_t (below_t hB5 hb6) hal
                  have hu6 := own_below hu5 (below_t hb6 hal)
                  have hv6 := own_below hv5 (below_t hb6 hal)
                  obtain ⟨v8, w8, hrun, hown8, hgrow8, _⟩ := run_append_own (P := Try.prog) (w := w6.alloc (.cells #[.string x.f0, .slice B1 n1 g1, .slice B2 n2 g2, .bool false] 30)) w.heap.size 22 22 30 i0 _ 4 72 Try.underlying22 hi0 hz0 hz1 hz2 rfl (by decide) (.slice Au m cu) m rs hu6 ⟨w6.heap.size, 0, none⟩ 1 1 [.string x.f0, .slice B1 n1 g1, .slice B2 n2 g2, .bool false] rfl (fun j u hj => by
                    rw [add0, cell_of_row _ _ _ _ _ _ hnw, ← Array.getElem?_toList]; exact hj) (by intro u hu; simp at hu; rcases hu with rfl | rfl | rfl | rfl <;> rfl) (by unfold maxLen; omega) (by omega) hB6.size
                  have hv8 := hv6.kept hgrow8 (apart_types hu6 hv6 (by decide))
                  have hB8 := hB6.grown hgrow8 hB6.size (fun k' hk' => (World.ownsRow.lt hu6 k' hk').1)
                  go_wp2_with (at_builtin; go_must (refine Lib.wpList_append_run _ rfl (.tmp 46) (.tmp 49) 22 22 rfl _ _ rfl rfl v8 w8 hrun ?_))
                  go_roundw
                  case rel => exact ⟨k + 1, m + 1, ys, rs ++ [.string x.f0, .slice B1 n1 g1, .slice B2 n2 g2, .bool false], by go_num, by omega, hv8, hown8, by have := hst'.out; omega, hB8⟩
                  case measure => simp [intOf]; omega
                | true =>
                  by_cases hl0 : x.f1.length = 0
                  · have d5 : ((x.f1.length : Int) == 0) = true := by rw [hl0]; rfl
                    rw [hx3] at f3
                    clear hl0
                    have hci := contains_inf (.slice Av ys.length cv) w.heap.size ys ga gb a b w5 hv5 (by omega) ha5 hbb5
                    go_wp2_with fail
                    refine hci.mono ?_
                    rintro e w6 ⟨⟨r, rfl⟩, hb6⟩
                    cases r with
                    | true =>
                      go_wp2_with fail
                      go_returns
                      exact SortPost.bad (by decide) (below_t hB5 hb6)
                    | false =>
                      have a6 := pw_cell_below hb6 ha5
                      have b6 := pw_cell_below hb6 hbb5
                      have g62 := pw_cell_below hb6 f2
                      have hB6 := below_t hB5 hb6
                      have hv6 := own_below hv5 hb6
                      have hu6 := own_below hu5 hb6
                      have hbd : Below w6.heap.size w6 w6.drew := below_drew (Below.refl _ _)
                      have hcl := clone_str A2 c2 x.f2 w6.drew (Kd.C_below (Kd.C_below r2 hb6) hbd) (by omega)
                      clear f0 f1 f2 f3 ha5 hbb5 hci
                      go_wp2_with fail
                      go_region_law (first
                        | (refine step_append_inf rfl (.tmp 71) (.tmp 78) rfl w.heap.size (.slice Av ys.length cv) ys (by simp [Act.eval, Act.put]) hv7 w7.heap.size ⟨a, b, A7, x.f2.length, c7⟩ (by simp [Act.eval, Act.put]) hnw (by omega) hB7.size ?_; intro v8 w8 hown8 hgrow8)
                        | (go_simp; go_wp2_with (go_at_call 19; refine hcl.mono ?_; rintro e w7 ⟨v7, rfl, hR7, hb7⟩; obtain ⟨A7, c7, rfl, _, _⟩ := Kd.R_reads hR7; have a7 := pw_cell_below (below_t hbd hb7) a6; have b7 := pw_cell_below (below_t hbd hb7) b6; have g72 := pw_cell_below (below_t hbd hb7) g62; have hal := below_alloc (Below.refl w7.heap.size w7) (.cells #[.string a, .string b, .slice A7 x.f2.length c7] 65); have hx7 := below_t (below_t hbd hb7) hal; have hB7 := below_t hB6 hx7; have hv7 := own_below hv6 hx7; have hu7 := own_below hu6 hx7; have hnw := heap_alloc_new w7 (.cells #[.string a, .string b, .slice A7 x.f2.length c7] 65))))
                      all_goals
                        have hu8 := hu7.kept hgrow8 (apart_types hv7 hu7 (by decide))
                        have hB8 := hB7.grown hgrow8 hB7.size (fun k' hk' => (World.ownsRow.lt hv7 k' hk').1)
                        go_wp2_with fail
                        go_roundw
                        case rel => exact ⟨k + 1, m, ys ++ [⟨a, b, A7, x.f2.length, c7⟩], rs, by go_num, by omega, hown8, hu8, by have := hst'.out; simp; omega, hB8⟩
                        case measure => simp [intOf]; omega
                  · have d5 : ((x.f1.length : Int) == 0) = false := by rw [beq_eq_false_iff_ne]; omega
                    clear hl0 ha5 hbb5
                    have hcp := copied_calls x A1 c1 A2 c2 w5 r1 r2 h64 h642
                    rw [hx3] at hcp f3
                    go_wp2_with fail
                    refine hcp.mono ?_
                    rintro e w6 ⟨⟨B1, n1, g1, B2, n2, g2, rfl⟩, hb6⟩
                    obtain ⟨i0, hi0, hz0, hz1, hz2⟩ := info3 info_rule
                    have hal : Below w6.heap.size w6 (w6.alloc (.cells #[.string x.f0, .slice B1 n1 g1, .slice B2 n2 g2, .bool true] 30)) := below_alloc (Below.refl _ _) _
                    have hnw : (w6.alloc (.cells #[.string x.f0, .slice B1 n1 g1, .slice B2 n2 g2, .bool true] 30)).heap[w6.heap.size]? = some (.cells #[.string x.f0, .slice B1 n1 g1, .slice B2 n2 g2, .bool true] 30 (0, 0)) := heap_alloc_new w6 _
                    have hB6 : Below w.heap.size w (w6.alloc (.cells #[.string x.f0, .slice B1 n1 g1, .slice B2 n2 g2, .bool true] 30)) := below_t (below_t hB5 hb6) hal
                    have hu6 := own_below hu5 (below_t hb6 hal)
                    have hv6 := own_below hv5 (below_t hb6 hal)
                    obtain ⟨v8, w8, hrun, hown8, hgrow8, _⟩ := run_append_own (P := Try.prog) (w := w6.alloc (.cells #[.string x.f0, .slice B1 n1 g1, .slice B2 n2 g2, .bool true] 30)) w.heap.size 22 22 30 i0 _ 4 72 Try.underlying22 hi0 hz0 hz1 hz2 rfl (by decide) (.slice Au m cu) m rs hu6 ⟨w6.heap.size, 0, none⟩ 1 1 [.string x.f0, .slice B1 n1 g1, .slice B2 n2 g2, .bool true] rfl (fun j u hj => by
                      rw [add0, cell_of_row _ _ _ _ _ _ hnw, ← Array.getElem?_toList]; exact hj) (by intro u hu; simp at hu; rcases hu with rfl | rfl | rfl | rfl <;> rfl) (by unfold maxLen; omega) (by omega) hB6.size
                    have hv8 := hv6.kept hgrow8 (apart_types hu6 hv6 (by decide))
                    have hB8 := hB6.grown hgrow8 hB6.size (fun k' hk' => (World.ownsRow.lt hu6 k' hk').1)
                    go_wp2_with (at_builtin; go_must (refine Lib.wpList_append_run _ rfl (.tmp 46) (.tmp 49) 22 22 rfl _ _ rfl rfl v8 w8 hrun ?_))
                    go_roundw
                    case rel => exact ⟨k + 1, m + 1, ys, rs ++ [.string x.f0, .slice B1 n1 g1, .slice B2 n2 g2, .bool true], by go_num, by omega, hv8, hown8, by have := hst'.out; omega, hB8⟩
                    case measure => simp [intOf]; omega
          · obtain rfl : k = l.length := by omega
            have d1 : ¬ ((l.length : Int) < (l.length : Int)) := by omega
            go_wp2_with fail
            go_returns
            exact ⟨⟨_, _, _, _, rfl, Or.inl ⟨rfl, _, _, _, _, _, _, rfl, rfl, hsum⟩⟩, hB⟩
  · generalize (askedL l).1 = q1 at hask h0
    generalize (askedL l).2 = q2 at hask
    go_enter Try.func15, Try.ntmps15
    go_wp2_with fail
    refine hask.mono ?_
    rintro e w1 ⟨rfl, hb1⟩
    go_wp2_with fail
    go_returns
    exact SortPost.bad h0 hb1
end Go.Proofs.Ytkbcfbelpjifnaa.Spec
namespace Go.Proofs.Ytkbcfbelpjifnaa.Spec
open Go Go.RowKit Go.Proofs Go.Proofs.YtkbcfbelpjifnaaW.PrintWords Go.Proofs.Ytkbcfbelpjifnaa.PX Go.Proofs.Ytkbcfbelpjifnaa.Plain
set_option linter.unusedVariables false
set_option linter.unusedSimpArgs false

theorem ofG_bad (LS : Nat → Rl → Sp → Int × Sp) : ∀ (l : List Rl) (i : Nat) (s : Sp), (ofG LS i s l).2.1 ≠ 0 → (ofG LS i s l).1 = s00
  | [], i, s, h => absurd rfl h
  | x :: l, i, s, h => by
    unfold ofG at h ⊢
    by_cases h0 : (step LS x s).1 = 0
    · rw [if_pos h0] at h ⊢
      exact ofG_bad LS l (i + 1) _ h
    · rw [if_neg h0]
theorem ofL_bad (LS : Nat → Rl → Sp → Int × Sp) (l : List Rl) (h : (ofL LS l).2.1 ≠ 0) : (ofL LS l).1 = s00 := by
  unfold ofL at h ⊢
  by_cases h0 : (askedL l).1 = 0
  · rw [if_pos h0] at h ⊢
    exact ofG_bad LS l 0 _ h
  · rw [if_neg h0]
theorem step_skip {LS : Nat → Rl → Sp → Int × Sp} {x : Rl} {s : Sp} (h : isSp x.f0 = false) : step LS x s = (0, s) := by
  unfold isSp at h
  simp at h
  unfold step
  rw [if_neg h.1, if_neg h.2.1, if_pos h.2.2]
/-- What the special targets say hangs on their own lines alone. -/
theorem ofG_own (LS : Nat → Rl → Sp → Int × Sp) : ∀ (l : List Rl) (i j : Nat) (s : Sp), (ofG LS i s l).2.1 = 0 → (ofG LS i s l).2.2 = 0 ∧ ofG LS j s (l.filter fun x => isSp x.f0) = ((ofG LS i s l).1, 0, 0)
  | [], i, j, s, _ => ⟨rfl, rfl⟩
  | x :: l, i, j, s, h => by
    unfold ofG at h
    by_cases h0 : (step LS x s).1 = 0
    · rw [if_pos h0] at h
      cases hs : isSp x.f0 with
      | true =>
        have ih := ofG_own LS l (i + 1) (j + 1) _ h
        rw [List.filter_cons_of_pos (by simpa using hs)]
        rw [ofG, if_pos h0, ofG, if_pos h0]
        exact ih
      | false =>
        have e := step_skip (LS := LS) (s := s) hs
        have ih := ofG_own LS l (i + 1) j _ h
        rw [List.filter_cons_of_neg (by simp [hs])]
        rw [ofG, if_pos h0]
        rw [e] at ih ⊢
        exact ih
    · rw [if_neg h0] at h
      exact absurd h h0
theorem ask_iff' : ∀ (l : List Rl) (i : Nat), (askL i l).1 = 0 ↔ ∀ x ∈ l, ckRule x = 0
  | [], i => by simp [askL]
  | x :: l, i => by
    have ih := ask_iff' l (i + 1)
    unfold askL
    by_cases h : ckRule x = 0
    · rw [if_pos h, ih]
      simp [h]
    · rw [if_neg h]
      simp [h]
theorem asked_sub {l l' : List Rl} (h : (askedL l).1 = 0) (hl : l'.length ≤ l.length) (hm : ∀ x ∈ l', x ∈ l) : (askedL l').1 = 0 := by
  obtain ⟨h1, h2⟩ := asked_ok h
  unfold askedL
  rw [if_neg (by omega), ask_iff']
  exact fun x hx => h2 x (hm x hx)
theorem ofL_own (LS : Nat → Rl → Sp → Int × Sp) (l : List Rl) (h : (ofL LS l).2.1 = 0) : ofL LS (l.filter fun x => isSp x.f0) = ((ofL LS l).1, 0, 0) := by
  unfold ofL at h ⊢
  by_cases h0 : (askedL l).1 = 0
  · rw [if_pos h0] at h ⊢
    rw [if_pos (asked_sub h0 (List.length_filter_le _ _) (fun x hx => (List.mem_filter.1 hx).1))]
    exact (ofG_own LS l 0 0 _ h).2
  · rw [if_neg h0] at h
    exact absurd h h0
/-- The suffixes are names. -/
theorem ofG_names : ∀ (l : List Rl) (i : Nat) (s : Sp), (∀ x ∈ l, ckRule x = 0) → (∀ n ∈ s.r 0, isName n = true) → ∀ n ∈ (ofG listS i s l).1.r 0, isName n = true
  | [], i, s, _, hs => hs
  | x :: l, i, s, hck, hs => by
    unfold ofG
    by_cases h0 : (step listS x s).1 = 0
    · rw [if_pos h0]
      refine ofG_names l (i + 1) _ (fun y hy => hck y (.tail _ hy)) ?_
      unfold step
      split
      · unfold sufS
        split
        · exact hs
        · intro n hn
          simp only [up_at] at hn
          rcases (uniq_mem n _ _).1 hn with hn | hn
          · cases hn
          · rcases List.mem_append.1 hn with hn | hn
            · split at hn
              · cases hn
              · exact hs n hn
            · exact ck_needs (hck x (.head _)) n hn
      · split
        · unfold dfltS
          split
          · exact hs
          · simp only [up_ne s.r x.f2 (show 0 ≠ 8 by decide)]; exact hs
        · split
          · exact hs
          · rename_i hk
            unfold listS
            split
            · exact hs
            · simp only [up_ne s.r _ (show 0 ≠ kOf x.f0 from fun e => hk e.symm)]; exact hs
    · rw [if_neg h0]
      intro n hn; cases hn
theorem ofL_names (l : List Rl) : ∀ n ∈ (ofL listS l).1.r 0, n.size ≤ 4611686018427387904 := by
  intro n hn
  have h1 : isName n = true := by
    unfold ofL at hn
    by_cases h0 : (askedL l).1 = 0
    · rw [if_pos h0] at hn
      exact ofG_names l 0 s00 (asked_ok h0).2 (fun n hn => by cases hn) n hn
    · rw [if_neg h0] at hn
      cases hn
  unfold isName at h1
  simp at h1
  omega
/-- The same compared with itself. -/
theorem same_ev (r : Nat → List ByteArray) (f : Nat → Bool) (hr : ∀ i, (r i).length ≤ 4611686018427387904) :
    Ev (fun k => smithylaw08_same.f k (r 0) (r 1) (r 2) (r 3) (r 4) (f 5) (f 6) (f 7) (r 8) (f 9) (r 0) (r 1) (r 2) (r 3) (r 4) (f 5) (f 6) (f 7) (r 8) (f 9)) true := by
  have ht := fun i => ev_eq (texts_ev (r i) (r i) (hr i)) (decide_eq_true rfl)
  refine ev_neg (by simp) (ev_neg (by simp) (ev_neg (by simp) (Ev.step (fun _ => rfl) (ev_neg (by simp) ?_))))
  exact Ev.bind (ht 0) (ev_pos rfl (Ev.bind (ht 1) (ev_pos rfl (Ev.bind (ht 2) (ev_pos rfl (Ev.bind (ht 3) (ev_pos rfl (Ev.bind (ht 4) (ev_pos rfl (Ev.bind (ht 8) (ev_some rfl)))))))))))
end Go.Proofs.Ytkbcfbelpjifnaa.Spec
namespace Go.Proofs.Ytkbcfbelpjifnaa.Spec
open Go Go.RowKit Go.Proofs Go.Proofs.YtkbcfbelpjifnaaW.PrintWords Go.Proofs.Ytkbcfbelpjifnaa.PX Go.Proofs.Ytkbcfbelpjifnaa.Plain
set_option linter.unusedVariables false
set_option linter.unusedSimpArgs false

theorem heapR2 : Kd.Heap k30 := Kd.heap_iso _ (Kd.heap_pair Kd.heap_string (Kd.heap_pair (Kd.heap_slice 9 Kd.heap_string) (Kd.heap_pair (Kd.heap_slice 9 Kd.heap_string) Kd.heap_bool)))
theorem ruleF2 {w W : World} {x : Rl} {A1 : Option Addr} {c1 : Nat} {A2 : Option Addr} {c2 : Nat} {p : Addr} (h : RulAt w p x A1 c1 A2 c2) (hb : Below w.heap.size w W) : Kd.FK k30 W (fun k => k < w.heap.size) x [.string x.f0, .slice A1 x.f1.length c1, .slice A2 x.f2.length c2, .bool x.f3] :=
  k30_mkF W _ x h.l1 (Kd.F_below (Kd.C_F Kd.heap_string h.r1) hb) h.l2 (Kd.F_below (Kd.C_F Kd.heap_string h.r2) hb)
def ownL (l : List Rl) : List Rl := l.filter fun x => isSp x.f0
theorem own_step {l : List Rl} {k : Nat} {x : Rl} (h : l[k]? = some x) : ownL (l.take (k + 1)) = ownL (l.take k) ++ (if isSp x.f0 = true then [x] else []) := by
  unfold ownL
  rw [List.take_add_one, h, List.filter_append]
  congr 1
  cases hq : isSp x.f0 <;> simp [hq]
theorem good00 : Good s00 := ⟨by simp [s00], fun i => by simp [s00]⟩
theorem ofG_good : ∀ (l : List Rl) (i : Nat) (s : Sp), (∀ x ∈ l, ckRule x = 0) → Good s → Good (ofG listS i s l).1
  | [], i, s, _, hs => hs
  | x :: l, i, s, hck, hs => by
    unfold ofG
    by_cases h0 : (step listS x s).1 = 0
    · rw [if_pos h0]
      refine ofG_good l (i + 1) _ (fun y hy => hck y (.tail _ hy)) ?_
      have h64 := (ck_ok (hck x (.head _))).2.2.2
      unfold step at h0 ⊢
      split
      · rename_i h1
        rw [if_pos h1] at h0
        exact suf_good hs h0
      · rename_i h1
        rw [if_neg h1] at h0
        split
        · exact dflt_good hs h64
        · rename_i h2
          rw [if_neg h2] at h0
          split
          · exact hs
          · rename_i h3
            rw [if_neg h3] at h0
            exact list_good (by omega) hs h0
    · rw [if_neg h0]
      exact good00
theorem ofL_good (l : List Rl) : Good (ofL listS l).1 := by
  unfold ofL
  by_cases h0 : (askedL l).1 = 0
  · rw [if_pos h0]
    exact ofG_good l 0 s00 (asked_ok h0).2 good00
  · rw [if_neg h0]
    exact good00
theorem sl_fn {w : World} {base : Nat} {ok : Nat → Prop} {V : Nat → Value} {r : Nat → List ByteArray} (hV : ∀ i, Kd.string.R 9 w base ok (V i) (r i)) :
    ∃ (A : Nat → Option Addr) (c : Nat → Nat), ∀ i, V i = .slice (A i) (r i).length (c i) ∧ (r i).length ≤ c i ∧ Kd.string.C w (A i) (r i).length (r i) := by
  refine ⟨fun i => match V i with | .slice A _ _ => A | _ => none, fun i => match V i with | .slice _ _ c => c | _ => 0, fun i => ?_⟩
  obtain ⟨A, c, h1, h2, h3⟩ := Kd.R_reads (hV i)
  simp only [h1]
  exact ⟨trivial, h2, h3⟩
/-- A Special's value. -/
abbrev spV (r : Nat → List ByteArray) (f : Nat → Bool) (A : Nat → Option Addr) (c : Nat → Nat) : Array Value := #[.slice (A 0) (r 0).length (c 0), .slice (A 1) (r 1).length (c 1), .slice (A 2) (r 2).length (c 2), .slice (A 3) (r 3).length (c 3), .slice (A 4) (r 4).length (c 4), .bool (f 5), .bool (f 6), .bool (f 7), .slice (A 8) (r 8).length (c 8), .bool (f 9)]
theorem same_refl (r : Nat → List ByteArray) (f : Nat → Bool) (A B : Nat → Option Addr) (c d : Nat → Nat) (W : World) (hs : ∀ i, (r i).length ≤ 4611686018427387904) (hA : ∀ i, Kd.string.C W (A i) (r i).length (r i)) (hc : ∀ i, (r i).length ≤ c i) (hB : ∀ i, Kd.string.C W (B i) (r i).length (r i)) (hd : ∀ i, (r i).length ≤ d i) :
    Calls Try.prog 14 #[.agg (spV r f A c), .agg (spV r f B d)] W fun e w' => e = .returned (.bool true) ∧ Below W.heap.size W w' := by
  obtain ⟨k, hk⟩ := same_ev r f hs
  exact smithylaw08_same.calls k (A 0) (c 0) (r 0) (A 1) (c 1) (r 1) (A 2) (c 2) (r 2) (A 3) (c 3) (r 3) (A 4) (c 4) (r 4) (f 5) (f 6) (f 7) (A 8) (c 8) (r 8) (f 9) (B 0) (d 0) (r 0) (B 1) (d 1) (r 1) (B 2) (d 2) (r 2) (B 3) (d 3) (r 3) (B 4) (d 4) (r 4) (f 5) (f 6) (f 7) (B 8) (d 8) (r 8) (f 9) true W (hA 0) (hc 0) (hA 1) (hc 1) (hA 2) (hc 2) (hA 3) (hc 3) (hA 4) (hc 4) (hA 8) (hc 8) (hB 0) (hd 0) (hB 1) (hd 1) (hB 2) (hd 2) (hB 3) (hd 3) (hB 4) (hd 4) (hB 8) (hd 8) (hk k (Nat.le_refl _))
set_option maxHeartbeats 8000000 in
set_option maxRecDepth 100000 in
theorem apart_calls (A : Option Addr) (c : Nat) (l : List Rl) (w : World) (hr : k30.C w A l.length l) (hfit : ∀ x ∈ l, Fits x) (hl : l.length ≤ 1048576) :
    Calls Try.prog 5 #[.slice A l.length c] w fun e w' => e = .returned (.bool true) ∧ Below w.heap.size w w' := by
  obtain ⟨F, hF⟩ : ∃ F : Nat → Nat, F = fun k => cnt (l.take k) := ⟨_, rfl⟩
  obtain ⟨G, hG⟩ : ∃ G : Nat → List Rl, G = fun k => ownL (l.take k) := ⟨_, rfl⟩
  have hF0 : F 0 = 0 := by rw [hF]; rfl
  have hG0 : G 0 = [] := by rw [hG]; rfl
  have hFn : Hid (F l.length = cnt l) := by rw [hF]; exact (by simp : cnt (l.take l.length) = cnt l)
  have hGn : Hid (G l.length = ownL l) := by rw [hG]; exact (by simp : ownL (l.take l.length) = ownL l)
  have hFs : Hid (∀ k x, l[k]? = some x → F (k + 1) = F k + (if isSp x.f0 = true then 0 else 1)) := fun k x h => by rw [hF]; exact cnt_step h
  have hGs : Hid (∀ k x, l[k]? = some x → G (k + 1) = G k ++ (if isSp x.f0 = true then [x] else [])) := fun k x h => by rw [hG]; exact own_step h
  have hFl : Hid (∀ k, F k ≤ k) := fun k => by
    rw [hF]
    exact Nat.le_trans (List.length_filter_le _ _) (by simp; omega)
  have hGl : Hid (∀ k, (G k).length ≤ k) := fun k => by
    rw [hG]
    exact Nat.le_trans (List.length_filter_le _ _) (by simp; omega)
  clear hF hG
  go_enter Try.func5, Try.ntmps5
  go_wp2_with fail
  go_loopw [3, 4, 5] (fun v n i wr => ∃ k : Nat, i = .int .i64 (k : Int) ∧ n = .int .i64 (F k : Int) ∧ k ≤ l.length ∧ Kd.N k30 30 wr w.heap.size (fun _ => True) v (G k) ∧ Below w.heap.size w wr) (fun _ _ i _ => l.length - (intOf i).toNat)
  case atStart => exact ⟨0, rfl, by rw [hF0]; rfl, Nat.zero_le _, by rw [hG0]; exact Kd.N_nil _ _ _ _ _, Below.refl _ _⟩
  case round =>
    obtain ⟨k, rfl, rfl, hk, hN, hB⟩ := hrel
    by_cases hlt : k < l.length
    · have d1 : (k : Int) < (l.length : Int) := by omega
      have d2 : (0 : Int) ≤ (k : Int) := by omega
      obtain ⟨x, hx⟩ : ∃ x, l[k]? = some x := ⟨_, List.getElem?_eq_getElem hlt⟩
      obtain ⟨ad, A1, c1, A2, c2, rfl, hxw⟩ := rul_at hr hx
      have hxr := hxw.below hB
      have e0 := hxr.e0
      have hfs := hFs.out k x hx
      have hgs := hGs.out k x hx
      have hkl := hFl.out k
      have hgl := hGl.out k
      have his := smithyref08_Is.calls x.f0 (isSp x.f0) wr (ris_eq x.f0)
      go_wp2_with fail
      refine his.mono ?_
      rintro e w2 ⟨rfl, hd2⟩
      have hB2 := below_t hB hd2.below
      have hN2 := Kd.N_below hN hd2.below
      cases hq : isSp x.f0 with
      | true =>
        rw [hq, if_pos rfl] at hfs hgs
        have hfs' : Hid (F (k + 1) = F k + 0) := hfs
        have hgs' : Hid (G (k + 1) = G k ++ [x]) := hgs
        have hx2 := hxw.below hB2
        have f0 := hx2.e0
        have f1 := hx2.e1
        have f2 := hx2.e2
        have f3 := hx2.e3
        obtain ⟨A3, c3, rfl⟩ := Kd.N_slice hN2
        clear hfs hgs e0 his
        go_wp2_with (at_builtin; go_must (refine Kd.N_append k30 (w0 := w) (W := w2) w.heap.size rfl (.tmp 28) (.tmp 33) 22 30 _ 72 rfl Try.underlying22 info_rule rfl (by decide) (by decide) (.slice A3 (G k).length c3) (G k) x [.string x.f0, .slice A1 x.f1.length c1, .slice A2 x.f2.length c2, .bool x.f3] (fun _ => True) (fun k => k < w.heap.size) rfl rfl (ruleF2 hxw hB2) (fun k' hk' => ⟨trivial, fun e => by have hk'' : k' < w.heap.size := hk'; have := Kd.N_base hN2 k' e.symm; omega⟩) (fun _ _ => trivial) hN2 hB2 hB2.size (by omega) ?_; intro v3 w3 hN3 hB3 _ _))
        go_roundw
        case rel => exact ⟨k + 1, by go_num, by rw [hfs'.out]; rfl, by omega, by rw [hgs'.out]; exact hN3, hB3⟩
        case measure => simp [intOf]; omega
      | false =>
        rw [hq, if_neg (by simp)] at hfs hgs
        rw [List.append_nil] at hgs
        have hfs' : Hid (F (k + 1) = F k + 1) := hfs
        have hgs' : Hid (G (k + 1) = G k) := hgs
        clear hfs hgs
        go_wp2_with fail
        go_roundw
        case rel => exact ⟨k + 1, by go_num, by rw [hfs'.out]; go_num, by omega, by rw [hgs'.out]; exact hN2, hB2⟩
        case measure => simp [intOf]; omega
    · obtain rfl : k = l.length := by omega
      have d1 : ¬ ((l.length : Int) < (l.length : Int)) := by omega
      rw [hGn.out] at hN
      have hof := of_calls listS A c l wr (Kd.C_below hr hB) hfit (Or.inr listC)
      go_wp2_with fail
      refine hof.mono ?_
      rintro e w2 ⟨V, rfl, hV, hb2⟩
      have hB2 := below_t hB hb2
      have hsp := fun W => speaks_calls W
      have hsm : ∀ i, ((ofL listS l).1.r i).length ≤ 4611686018427387904 := fun i => Nat.le_trans ((ofL_good l).2 i) (by decide)
      obtain ⟨A', c', hAc⟩ := sl_fn hV
      have hbad := ofL_bad listS l
      have hown := ofL_own listS l
      have hnam := ofL_names l
      generalize ofL listS l = R at hV hsm hAc hbad hown hnam ⊢
      obtain ⟨s, e1, i1⟩ := R
      simp only [] at hV hsm hAc hbad hown hnam
      have v0 := (hAc 0).1
      have v1 := (hAc 1).1
      have v2 := (hAc 2).1
      have v3 := (hAc 3).1
      have v4 := (hAc 4).1
      have v8 := (hAc 8).1
      simp only [spO, v0, v1, v2, v3, v4, v8]
      clear v0 v1 v2 v3 v4 v8 hof
      have hW3 : Below w2.heap.size w2 (w2.alloc (.cells (spV s.r s.f A' c') 38)) := below_alloc (Below.refl _ _) _
      have h3 : (w2.alloc (.cells (spV s.r s.f A' c') 38)).heap[w2.heap.size]? = some (.cells (spV s.r s.f A' c') 38 (0, 0)) := heap_alloc_new w2 _
      by_cases he : e1 = 0
      · obtain rfl := he
        have hown' := hown rfl
        obtain ⟨Ao, co, rfl, hco, hCo⟩ := Kd.N_reads hN
        have of2 := of_calls listS Ao co (ownL l) (w2.alloc (.cells (spV s.r s.f A' c') 38)) (Kd.C_below (Kd.C_below hCo hb2) hW3) (fun x hx => hfit x (List.mem_filter.1 hx).1) (Or.inr listC)
        rw [show ofL listS (ownL l) = (s, 0, 0) from hown'] at of2
        clear hbad hown hown' hco hCo hN
        go_wp2_with fail
        refine of2.mono ?_
        rintro e w4 ⟨V2, rfl, hV2, hb4⟩
        obtain ⟨A2', c2', hAc2⟩ := sl_fn hV2
        have v0 := (hAc2 0).1
        have v1 := (hAc2 1).1
        have v2 := (hAc2 2).1
        have v3 := (hAc2 3).1
        have v4 := (hAc2 4).1
        have v8 := (hAc2 8).1
        simp only [spO, v0, v1, v2, v3, v4, v8]
        clear v0 v1 v2 v3 v4 v8 of2
        have hW5 : Below w4.heap.size w4 (w4.alloc (.cells (spV s.r s.f A2' c2') 38)) := below_alloc (Below.refl _ _) _
        have h35 : (w4.alloc (.cells (spV s.r s.f A2' c2') 38)).heap[w2.heap.size]? = some (.cells (spV s.r s.f A' c') 38 (0, 0)) := (hW5.block _ (Nat.lt_of_lt_of_le (blk_lt h3) hb4.size)).trans ((hb4.block _ (blk_lt h3)).trans h3)
        have h5 : (w4.alloc (.cells (spV s.r s.f A2' c2') 38)).heap[w4.heap.size]? = some (.cells (spV s.r s.f A2' c2') 38 (0, 0)) := heap_alloc_new w4 _
        have hB24 : Below w2.heap.size w2 w4 := below_t hW3 hb4
        have hB5 : Below w.heap.size w (w4.alloc (.cells (spV s.r s.f A2' c2') 38)) := below_t (below_t hB2 hB24) hW5
        have k0 := cell_of_row _ w2.heap.size 0 _ _ _ h35
        have hrd : ∀ i, Kd.string.C (w4.alloc (.cells (spV s.r s.f A2' c2') 38)) (A' i) (s.r i).length (s.r i) := fun i => Kd.C_below (Kd.C_below (hAc i).2.2 hB24) hW5
        have hsort := sort_calls A c l (A' 0) (c' 0) (s.r 0) (w4.alloc (.cells (spV s.r s.f A2' c2') 38)) (Kd.C_below hr hB5) hfit (hrd 0) (hAc 0).2.1 hnam
        rw [← hFn.out] at hsort
        go_wp2_with fail
        refine hsort.mono ?_
        rintro e w6 ⟨⟨v, u, cc, ii, rfl, hcase⟩, hb6⟩
        have hB6 := below_t hB5 hb6
        have h36 := (hb6.block _ (blk_lt h35)).trans h35
        have h56 := (hb6.block _ (blk_lt h5)).trans h5
        obtain ⟨x0, x1, x2, x3, x4, x5, x6, x7, x8, x9, y0, y1, y2, y3, y4, y5, y6, y7, y8, y9⟩ := ten h36
        obtain ⟨z0, z1, z2, z3, z4, z5, z6, z7, z8, z9, q0, q1, q2, q3, q4, q5, q6, q7, q8, q9⟩ := ten h56
        have hsame := same_refl s.r s.f A' A2' c' c2' w6 hsm (fun i => Kd.C_below (hrd i) hb6) (fun i => (hAc i).2.1) (fun i => Kd.C_below (Kd.C_below (hAc2 i).2.2 hW5) hb6) (fun i => (hAc2 i).2.1)
        have hFb := hFl.out l.length
        clear k0 hsort hrd hnam hsm hAc hAc2 h35 h5 h3 hV hV2
        rcases hcase with ⟨rfl, Ax, na, ca, Bx, nb, cb, rfl, rfl, hsum⟩ | ⟨hne, rfl, rfl⟩
        · have hwr : IntKind.i64.wrap ((na : Int) + (nb : Int)) = (F l.length : Int) := by rw [IntKind.wrap_i64]; omega
          have hsum' : Hid (na + nb = F l.length) := hsum
          clear hsum
          go_wp2_with fail
          refine hsame.mono ?_
          rintro e w7 ⟨rfl, hb7⟩
          go_wp2_with fail
          refine (hsp _).mono ?_
          rintro e w8 ⟨rfl, hb8⟩
          go_wp2_with fail
          go_ret
          exact ⟨rfl, below_t (below_t hB6 hb7) hb8⟩
        · have hne1 : (cc == 0) = false := by simp [hne]
          go_wp2_with fail
          refine hsame.mono ?_
          rintro e w7 ⟨rfl, hb7⟩
          go_wp2_with fail
          refine (hsp _).mono ?_
          rintro e w8 ⟨rfl, hb8⟩
          go_wp2_with fail
          go_ret
          exact ⟨rfl, below_t (below_t hB6 hb7) hb8⟩
      · obtain rfl : s = s00 := hbad he
        have hsame := same_refl s00.r s00.f A' (fun _ => none) c' (fun _ => 0) (w2.alloc (.cells (spV s00.r s00.f A' c') 38)) hsm (fun i => Kd.C_below (hAc i).2.2 hW3) (fun i => (hAc i).2.1) (fun i => Kd.C_nil _ _) (fun i => Nat.le_refl _)
        go_wp2_with fail
        refine hsame.mono ?_
        rintro e w4 ⟨rfl, hb4⟩
        go_wp2_with fail
        refine (hsp _).mono ?_
        rintro e w5 ⟨rfl, hb5⟩
        go_wp2_with fail
        go_ret
        exact ⟨rfl, below_t (below_t (below_t hB2 hW3) hb4) hb5⟩
end Go.Proofs.Ytkbcfbelpjifnaa.Spec
namespace Go.Proofs.Ytkbcfbelpjifnaa.Hand
open Go Go.RowKit Go.Proofs Go.Proofs.YtkbcfbelpjifnaaW.PrintWords Go.Proofs.Ytkbcfbelpjifnaa.PX Go.Proofs.Ytkbcfbelpjifnaa.Spec Go.Proofs.Ytkbcfbelpjifnaa.Opens

/-- How much a rule holds. -/
abbrev bkR (x : S30) : Nat := bkS x.f0 + (bkL bkS x.f1 + (bkL bkS x.f2 + 1)) + 1
theorem sum_le {α : Type} (f : α → Nat) : ∀ (l : List α) (x : α), x ∈ l → f x ≤ (l.map f).sum
  | [], x, h => by cases h
  | y :: l, x, h => by
    rw [List.map_cons, List.sum_cons]
    rcases List.mem_cons.1 h with rfl | h
    · omega
    · have := sum_le f l x h
      omega
theorem fits_of {l : List S30} (hB : bkL bkR l ≤ 1048576) : ∀ x ∈ l, Fits x := fun x hx => by
  have h1 := sum_le bkR l x hx
  unfold bkL at hB
  have h2 : bkR x ≤ 1048576 := by omega
  simp only [bkR, bkS, bkL] at h2
  refine ⟨by omega, fun n hn => ?_⟩
  have h3 := sum_le bkS x.f1 n hn
  have h4 : bkS n = n.size + 1 := rfl
  have h5 : (x.f1.map bkS).sum = (x.f1.map fun s => s.size + 1).sum := rfl
  omega
theorem len_sum {α : Type} (f : α → Nat) (h : ∀ x, 1 ≤ f x) : ∀ l : List α, l.length ≤ (l.map f).sum
  | [] => by simp
  | x :: l => by
    have := len_sum f h l
    have := h x
    rw [List.map_cons, List.sum_cons, List.length_cons]
    omega
theorem SpecialApart.row (A : Option Addr) (c : Nat) (l : List S30) (w : World) (hB : bkL bkR l ≤ 1048576) (hr : k30.C w A l.length l) (_hc : l.length ≤ c) :
    Calls Try.prog 5 #[.slice A l.length c] w fun e w' => e = .returned (.bool true) ∧ Below w.heap.size w w' := by
  have hl := len_sum bkR (fun x => by unfold bkR; omega) l
  have hB2 : (l.map bkR).sum + 1 ≤ 1048576 := hB
  exact apart_calls A c l w hr (fits_of hB) (by omega)
end Go.Proofs.Ytkbcfbelpjifnaa.Hand
