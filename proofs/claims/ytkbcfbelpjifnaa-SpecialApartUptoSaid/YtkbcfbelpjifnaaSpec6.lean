/- special.Merge: the walk. -/
import Derived.Test.YtkbcfbelpjifnaaSpec5
import Derived.Carry
import Derived.Deep.DeepCutAuto
import Derived.Deep.RegionWith
import Derived.Deep.RegionHeld2
namespace Go.Proofs.Ytkbcfbelpjifnaa.Spec
open Go Go.RowKit Go.Proofs Go.Proofs.YtkbcfbelpjifnaaW.PrintWords Go.Proofs.Ytkbcfbelpjifnaa.PX Go.Proofs.Ytkbcfbelpjifnaa.Plain
set_option linter.unusedVariables false
set_option linter.unusedSimpArgs false

theorem info_rule : (Try.prog.info? 30).map (fun i => (i.zero, i.size, i.bytes)) = some (some (.agg #[.string (⟨#[]⟩ : ByteArray), .slice none 0 0, .slice none 0 0, .bool false]), 4, 72) := by kernel_rfl
/-- What a round of the loop has behind its first part. -/
structure Mid (w W : World) (b g j : Nat) (v : Value) (m : List Rl) (x : Rl) (A1 : Option Addr) (c1 : Nat) (A2 : Option Addr) (c2 : Nat) : Prop where
  out : Out W w.heap.size v m
  ix : IxMap W b (nms m)
  below : Below w.heap.size w W
  box : W.heap[g]? = some (boxO x A1 c1 A2 c2)
  base : w.heap.size ≤ b
  ne : ∀ k, v.ownBlock = some k → k ≠ g
theorem frz_at {w : World} {base g cap : Nat} {M : List Rl} (h : Out w base (.slice (some ⟨g, 0, none⟩) M.length cap) M) {j : Nat} (hj : j < M.length) (i : Nat) : w.frozen? ⟨g, j * 4 + i, none⟩ = false := by
  obtain ⟨_, _, _, _, hfr⟩ := Kd.R_elem h dfl (j : Int) (by omega) (by omega)
  have := hfr i
  rw [show ((j : Int)).toNat = j by omega, show k30.sz = 4 from rfl] at this
  exact this
set_option maxHeartbeats 4000000 in
set_option maxRecDepth 100000 in
theorem merge_calls (A : Option Addr) (c : Nat) (l : List Rl) (w : World) (hr : k30.C w A l.length l) (hfit : ∀ x ∈ l, Fits x) :
    Calls Try.prog 6 #[.slice A l.length c] w fun e w' => ∃ v, e = .returned (.tuple #[v, .int .i64 (mergeL l).2.1, .int .i64 (mergeL l).2.2]) ∧ Out w' w.heap.size v (mergeL l).1 ∧ Below w.heap.size w w' := by
  have hmx : l.length ≤ 9223372036854775807 := hr.2.1
  have hask := asked_calls A c l w hr hfit
  by_cases h0 : (askedL l).1 = 0
  · have hm : mergeL l = mg 0 [] l := if_pos h0
    obtain ⟨hl, hck⟩ := asked_ok h0
    rw [h0] at hask
    generalize (askedL l).2 = q2 at hask
    rw [hm]
    generalize hRes : mg 0 [] l = R
    clear hm h0 hfit
    have hmm := @run_makeMap Try.prog
    go_enter Try.func6, Try.ntmps6
    go_wp2_with fail
    refine hask.mono ?_
    rintro e w1 ⟨rfl, hb1⟩
    go_wp2
    go_loopw [8, 26] (fun v i wr => ∃ (k : Nat) (m : List Rl), i = .int .i64 (k : Int) ∧ k ≤ l.length ∧ mg k m (l.drop k) = R ∧ m.length ≤ k ∧ (∀ y ∈ m, y.f1.length ≤ 64) ∧ Out wr w.heap.size v m ∧ IxMap wr w1.heap.size (nms m) ∧ Below w.heap.size w wr) (fun _ i _ => l.length - (intOf i).toNat)
    case atStart => exact ⟨0, [], rfl, Nat.zero_le _, by simpa using hRes, Nat.le_refl _, fun y hy => by simp at hy, Kd.R_nil _ _ _ _ _, IxMap.made _, hb1.alloc hb1.size _⟩
    case round =>
      obtain ⟨k, m, rfl, hk, hmg, hmk, hm64, hO, hI, hB⟩ := hrel
      by_cases hlt : k < l.length
      · have d1 : (k : Int) < (l.length : Int) := by omega
        have d2 : (0 : Int) ≤ (k : Int) := by omega
        obtain ⟨x, hx⟩ : ∃ x, l[k]? = some x := ⟨_, List.getElem?_eq_getElem hlt⟩
        obtain ⟨hn, hs64, h64, h642⟩ := ck_ok (hck x (List.mem_of_getElem? hx))
        obtain ⟨ad, A1, c1, A2, c2, rfl, hxw⟩ := rul_at hr hx
        have hxr := hxw.below hB
        have e0 := hxr.e0
        have e1 := hxr.e1
        have e2 := hxr.e2
        have e3 := hxr.e3
        have hbox : ∀ W : World, W = wr.alloc (boxO x A1 c1 A2 c2) → True := fun _ _ => trivial
        have hI1 : IxMap (wr.alloc (boxO x A1 c1 A2 c2)) w1.heap.size (nms m) := hI.kept (World.grownBy_alloc wr _ none) (by simp)
        obtain ⟨q, hlk, hq⟩ : ∃ q : Int, (Instr.lookup 47 (.map (some w1.heap.size)) (.string x.f0) true).run Try.prog (wr.alloc (boxO x A1 c1 A2 c2)) = .ok (.tuple #[.int .i64 q, .bool (memB x.f0 (nms m))]) (wr.alloc (boxO x A1 c1 A2 c2)) ∧ (memB x.f0 (nms m) = true → q = (ixOf x.f0 (nms m) : Int)) := by
          cases hmem : memB x.f0 (nms m) with
          | true => exact ⟨_, hI1.hit (ixOf_at (memB_iff.1 hmem)) (by unfold maxLen; omega), fun _ => rfl⟩
          | false => exact ⟨_, hI1.miss (memB_no.1 hmem) (by unfold maxLen; omega), fun h => by cases h⟩
        generalize hmem : memB x.f0 (nms m) = mem at hlk hq
        have hsv : some w1.heap.size ≠ u8.ownBlock := hI.ne_out hO
        go_upto_if 39 with go_in
        go_cut [8, 11] (fun v i wx => i = .int .i64 (ixOf x.f0 (nms m) : Int) ∧ Mid w wx w1.heap.size wr.heap.size 0 v (put1 m x.f0) x A1 c1 A2 c2)
        case first =>
          cases mem with
          | true =>
            have hp1 : put1 m x.f0 = m := if_pos hmem
            go_wp2_with fail
            go_meet
            rw [hp1]
            exact ⟨by rw [← hq trivial], Kd.R_alloc hO _, hI1, hB.alloc hB.size _, heap_alloc_new wr _, hb1.size, fun k hk => Nat.ne_of_lt (Kd.R_lt hO k hk)⟩
          | false =>
            have hno := memB_no.1 hmem
            have hp1 : put1 m x.f0 = m ++ [⟨x.f0, [], [], false⟩] := by unfold put1; rw [hmem]; rfl
            have hix : ixOf x.f0 (nms m) = m.length := by rw [ixOf_no hno]; simp
            obtain ⟨w3, hup, hI3, hg3⟩ := hI1.put hno (by unfold maxLen; omega) (by simp; omega)
            rw [show ((nms m).length : Int) = (m.length : Int) by simp] at hup
            have hO3 : Out w3 w.heap.size u8 m := hI1.out_kept (Kd.R_alloc hO _) hg3
            have hB3 : Below w.heap.size w w3 := (hB.alloc hB.size _).grown hg3 (by simp; have := hB.size; omega) (fun k hk => by cases hk; exact hb1.size)
            have hbx : (wr.alloc (boxO x A1 c1 A2 c2)).heap[wr.heap.size]? = some (boxO x A1 c1 A2 c2) := heap_alloc_new wr _
            have hbx3 : w3.heap[wr.heap.size]? = some (boxO x A1 c1 A2 c2) := by
              rw [hg3.block wr.heap.size (by simp) (fun e => hI1.ne_cells hbx (by injection e with e; exact e.symm))]
              exact hbx
            obtain ⟨f0, f1, f2, f3⟩ := box_cells hbx3
            have hsz3 : wr.heap.size < w3.heap.size := by have := hg3.size; simp at this; omega
            obtain ⟨A8, c8, rfl⟩ := Kd.R_slice hO
            go_wp2_with (at_builtin; refine Kd.R_append k30 (w0 := w) (W := w3) w.heap.size rfl (.tmp 46) (.tmp 50) 22 30 _ 72 rfl Try.underlying22 info_rule rfl (by decide) (by decide) _ m ⟨x.f0, [], [], false⟩ [.string x.f0, .slice none 0 0, .slice none 0 0, .bool false] (fun _ => True) (fun k => False) rfl rfl (k30_mkM _ _ _ _ (Kd.R_nil _ _ _ _ _) (Kd.R_nil _ _ _ _ _)) (fun k h => h.elim) (fun _ _ => trivial) hO3 hB3 hB3.size (by omega) ?_; intro v4 w4 hO4 hB4 hg4 hat4)
            go_meet
            rw [hp1, hix]
            refine ⟨rfl, hO4, ?_, hB4, ?_, hb1.size, ?_⟩
            · rw [show nms (m ++ [⟨x.f0, [], [], false⟩]) = nms m ++ [x.f0] by simp]
              exact hI3.kept hg4 (hI3.ne_out hO3)
            · rw [hg4.block wr.heap.size hsz3 (fun e => ?_)]
              · exact hbx3
              · exact Nat.ne_of_lt (Kd.R_lt hO _ e.symm) rfl
            · intro k hk e
              subst e
              rcases hat4 with e4 | ⟨b4, e4, h4⟩
              · rw [e4] at hk
                exact Nat.ne_of_lt (Kd.R_lt hO _ hk) rfl
              · rw [e4] at hk
                injection hk with hk
                omega
        case rest =>
          obtain ⟨rfl, hM⟩ := hcut
          have hj : ixOf x.f0 (nms m) < (put1 m x.f0).length := put1_len
          have hdr : l.drop k = x :: l.drop (k + 1) := by
            rw [List.drop_eq_getElem_cons hlt]
            rw [(List.getElem?_eq_some_iff.1 hx).2]
          rw [hdr, mg] at hmg
          have hnm := put1_names (m := m) (s := x.f0)
          have hlen1 : (put1 m x.f0).length ≤ k + 1 := by by_cases hp : memB x.f0 (nms m) = true <;> simp [put1, hp] <;> omega
          have h641 : ∀ y ∈ put1 m x.f0, y.f1.length ≤ 64 := by
            unfold put1
            split
            · exact hm64
            · intro y hy
              rcases List.mem_append.1 hy with hy | hy
              · exact hm64 y hy
              · rw [List.mem_singleton.1 hy]; simp
          generalize put1 m x.f0 = M at hM hj hmg hlen1 h641
          generalize ixOf x.f0 (nms m) = j at hM hj hmg ⊢
          obtain ⟨y, hy⟩ : ∃ y, M[j]? = some y := ⟨_, List.getElem?_eq_getElem hj⟩
          have hgd : M.getD j dfl = y := by rw [List.getD_eq_getElem?_getD, hy]; rfl
          rw [hgd] at hmg
          have hy64 := h641 y (List.mem_of_getElem? hy)
          obtain ⟨hO, hI, hB, hbox, hbase, hne⟩ := hM
          obtain ⟨b1, b2, b3, b4⟩ := box_cells hbox
          obtain ⟨g0, cap0, rfl, hg0, hg1, cells, hgc⟩ := Kd.R_form hO (by omega)
          obtain ⟨cy, hcl, hMy, hcc, hfr⟩ := Kd.R_elem hO dfl (j : Int) (by omega) (by omega)
          have hjt : ((j : Int)).toNat = j := by omega
          have hz : k30.sz = 4 := rfl
          rw [hjt, hgd] at hMy
          rw [hjt, hz] at hcc hfr
          obtain ⟨y1, y2, rfl, hR1, hR2⟩ := k30_openM hMy
          have a0 := hcc 0 _ rfl
          have a1 := hcc 1 _ rfl
          have a2 := hcc 2 _ rfl
          have a3 := hcc 3 _ rfl
          have f1 := hfr 1
          have f2 := hfr 2
          have f3 := hfr 3
          have d3 : (0 : Int) ≤ (j : Int) := by omega
          have d4 : (j : Int) < (M.length : Int) := by omega
          cases hx3 : x.f3 with
          | true =>
            rw [hx3] at b4
            cases hy3 : y.f3 with
            | true =>
              rw [hy3] at a3
              rw [if_pos ⟨hx3, hy3⟩] at hmg
              go_wp2_with fail
              go_ret3
              subst hmg
              exact ⟨_, rfl, Kd.R_nil _ _ _ _ _, hB⟩
            | false =>
              rw [hy3] at a3
              rw [if_neg (by rw [hy3]; simp)] at hmg
              have hne0 : g0 ≠ wr.heap.size := hne _ rfl
              obtain ⟨Ay, cy, rfl, hyc, hyC⟩ := Kd.R_reads hR1
              go_wp2_with fail
              have hB5 : Below wc.heap.size wc (wc.alloc (.cells #[.slice Ay y.f1.length cy, .slice A1 x.f1.length c1] 28)).drew := below_drew (below_alloc (Below.refl _ wc) _)
              obtain ⟨Z, hZ⟩ : ∃ Z, y.f1 ++ x.f1 = Z := ⟨_, rfl⟩
              have hZl : Z.length ≤ 128 := by rw [← hZ, List.length_append]; omega
              have hcc5 : Calls Try.prog 18 #[.slice (some ⟨wc.heap.size, 0, none⟩) 2 2] (wc.alloc (.cells #[.slice Ay y.f1.length cy, .slice A1 x.f1.length c1] 28)).drew fun e w' => ∃ v, e = .returned v ∧ Kd.string.R 9 w' (wc.alloc (.cells #[.slice Ay y.f1.length cy, .slice A1 x.f1.length c1] 28)).drew.heap.size (fun _ => True) v Z ∧ Below (wc.alloc (.cells #[.slice Ay y.f1.length cy, .slice A1 x.f1.length c1] 28)).drew.heap.size (wc.alloc (.cells #[.slice Ay y.f1.length cy, .slice A1 x.f1.length c1] 28)).drew w' := by
                have hcc := concat_calls ⟨wc.heap.size, 0, none⟩ [⟨Ay, cy, y.f1⟩, ⟨A1, c1, x.f1⟩] (wc.alloc (.cells #[.slice Ay y.f1.length cy, .slice A1 x.f1.length c1] 28)).drew (by
                  intro jj z hz
                  have hcl := fun (jj : Nat) hj => World.cell?_alloc_at (w := wc) #[.slice Ay y.f1.length cy, .slice A1 x.f1.length c1] 28 wc.heap.size jj hj
                  rcases jj with _ | _ | jj
                  · simp at hz; subst hz
                    exact ⟨hcl 0 rfl, Kd.C_below hyC hB5⟩
                  · simp at hz; subst hz
                    exact ⟨hcl 1 rfl, Kd.C_below (Kd.C_below hxw.r1 hB) hB5⟩
                  · simp at hz) (by simp) (by simp [flat]; omega)
                have hfl : flat [⟨Ay, cy, y.f1⟩, ⟨A1, c1, x.f1⟩] = Z := by simp [flat, hZ]
                rw [hfl] at hcc
                exact hcc
              have b5 : (wc.alloc (.cells #[.slice Ay y.f1.length cy, .slice A1 x.f1.length c1] 28)).drew.cell? ⟨wr.heap.size, 1, none⟩ = some (.slice A1 x.f1.length c1) := pw_cell_below hB5 b2
              go_region_with (first
                | (go_at_call 18; refine hcc5.mono ?_; rintro e w6 ⟨v6, rfl, hR6, hb6⟩; obtain ⟨A6, c6, rfl, h6c, h6C⟩ := Kd.R_reads hR6; have b6 := pw_cell_below hb6 b5)
                | (go_at_call 17; refine (unique_calls A6 c6 Z (by omega) w6 h6C h6c).mono ?_; rintro e w7 ⟨v7, rfl, hR7, hb7⟩; have b7 := pw_cell_below hb7 b6; obtain ⟨A7, c7, rfl, h7c, h7C⟩ := Kd.R_reads hR7; have hBt : Below wc.heap.size wc w7 := below_t (below_t hB5 hb6) hb7; have a17 := pw_cell_below hBt a1; have f17 := frz_at (Kd.R_below hO hBt) hj 1))
              all_goals
                have hs1 := hB5.size
                have hs2 := hb6.size
                have hs3 := hb7.size
                have hv7 : Kd.string.R 9 w7 w.heap.size (fun k => True ∧ k ≠ g0) (.slice A7 (uniq [] Z).length c7) (uniq [] Z) := Kd.R_reok rfl (Kd.R_lower hR7 (Nat.le_trans hB.size (Nat.le_trans hs1 hs2))) (fun k hk => ⟨trivial, by have := Kd.R_base hR7 k hk; omega⟩)
                obtain ⟨hO8, hg8⟩ := out_put (Kd.R_below hO hBt) hy 1 (by decide) (.slice A7 (uniq [] Z).length c7) ⟨y.f0, uniq [] Z, y.f2, y.f3⟩ (fun v1 v2 h1 h2 => k30_mkM _ _ _ _ hv7 h2)
                have hI8 := (hI.below hBt).kept hg8 (fun e => hI.ne_cells hgc (by injection e))
                have hB8 := (below_then hB hB.size hBt).grown hg8 (below_then hB hB.size hBt).size (fun k hk => by cases hk; exact hg0)
                have hbox8 := (hg8.block wr.heap.size (Nat.lt_of_lt_of_le (World.block_lt_of_cell? _ _ b1) hBt.size) (fun e => hne0 (by injection e with e; exact e.symm))).trans ((hBt.block wr.heap.size (World.block_lt_of_cell? _ _ b1)).trans hbox)
                rw [hZ] at hmg
                have hup : (upd x y).f1 = uniq [] Z := by rw [upd_f1, hZ]
                generalize w7.setCell ⟨g0, j * 4 + 1, none⟩ (.slice A7 (uniq [] Z).length c7) = W8 at hO8 hI8 hB8 hbox8 ⊢
                generalize uniq [] Z = U at hO8 hmg hup
                obtain ⟨b81, b82, b83, b84⟩ := box_cells hbox8
                have hy8 : (M.set j ⟨y.f0, U, y.f2, y.f3⟩)[j]? = some ⟨y.f0, U, y.f2, y.f3⟩ := by rw [List.getElem?_set_self hj]
                rw [List.length_set] at hO8
                have hO8' : Out W8 w.heap.size (.slice (some ⟨g0, 0, none⟩) (M.set j ⟨y.f0, U, y.f2, y.f3⟩).length cap0) (M.set j ⟨y.f0, U, y.f2, y.f3⟩) := by rw [List.length_set]; exact hO8
                obtain ⟨Au, cu, Av, cv, g80, g81, g82, g83, _, _, _, _, fr8⟩ := out_at hO8' hy8
                have fr82 := fr8 2
                have fr83 := fr8 3
                by_cases hbig : 64 < U.length
                · rw [if_pos hbig] at hmg
                  have d5 : (64 : Int) < (U.length : Int) := by omega
                  go_wp2_with fail
                  go_ret3
                  subst hmg
                  exact ⟨_, rfl, Kd.R_nil _ _ _ _ _, hB8⟩
                · rw [if_neg hbig] at hmg
                  have d5 : ¬ ((64 : Int) < (U.length : Int)) := by omega
                  have hu : upd x y = ⟨y.f0, U, x.f2, true⟩ := by
                    rw [← hup]; simp [upd, hx3]
                  have hcl := clone_str A2 c2 x.f2 W8 (Kd.C_below hxw.r2 hB8) (by omega)
                  rw [hx3] at b84
                  go_wp2_with fail
                  refine hcl.mono ?_
                  rintro e w9 ⟨v9, rfl, hR9, hb9⟩
                  have g92 := pw_cell_below hb9 g82
                  have g93 := pw_cell_below hb9 g83
                  obtain ⟨A9, c9, rfl, _, _⟩ := Kd.R_reads hR9
                  have hO9 := Kd.R_below hO8' hb9
                  have fr92 := frz_at hO9 (by rw [List.length_set]; exact hj) 2
                  have fr93 := frz_at hO9 (by rw [List.length_set]; exact hj) 3
                  have hs8 : g0 < W8.heap.size := World.block_lt_of_cell? _ _ g82
                  have hv9 : Kd.string.R 9 w9 w.heap.size (fun k => True ∧ k ≠ g0) (.slice A9 x.f2.length c9) x.f2 := Kd.R_reok rfl (Kd.R_lower hR9 hB8.size) (fun k hk => ⟨trivial, by have := Kd.R_base hR9 k hk; omega⟩)
                  obtain ⟨hOa, hga⟩ := out_put hO9 hy8 3 (by decide) (.bool true) ⟨y.f0, U, y.f2, true⟩ (fun v1 v2 h1 h2 => k30_mkM _ _ _ ⟨y.f0, U, y.f2, true⟩ h1 h2)
                  have hya : ((M.set j ⟨y.f0, U, y.f2, y.f3⟩).set j ⟨y.f0, U, y.f2, true⟩)[j]? = some ⟨y.f0, U, y.f2, true⟩ := by rw [List.getElem?_set_self (by rw [List.length_set]; exact hj)]
                  have hva := Kd.R_grown hv9 hga (fun k hk e => hk.2 (by injection e))
                  obtain ⟨hOb, hgb⟩ := out_put hOa hya 2 (by decide) (.slice A9 x.f2.length c9) ⟨y.f0, U, x.f2, true⟩ (fun v1 v2 h1 h2 => k30_mkM _ _ _ ⟨y.f0, U, x.f2, true⟩ h1 hva)
                  rw [List.set_set, List.set_set] at hOb
                  rw [List.length_set] at hOb
                  have hB9 := below_then hB8 hB8.size hb9
                  have hBa := hB9.grown hga hB9.size (fun k hk => by cases hk; exact hg0)
                  have hBb := hBa.grown hgb hBa.size (fun k hk => by cases hk; exact hg0)
                  have hI9 := hI8.below hb9
                  have hne1 : some w1.heap.size ≠ some g0 := fun e => hI.ne_cells hgc (by injection e)
                  have hIb := (hI9.kept hga hne1).kept hgb hne1
                  go_wp2_with fail
                  go_roundw
                  case rel =>
                    rw [hu] at hmg
                    refine ⟨k + 1, M.set j ⟨y.f0, U, x.f2, true⟩, by go_num, by omega, hmg, by rw [List.length_set]; omega, fun z hz => ?_, hOb, ?_, hBb⟩
                    · rcases List.mem_or_eq_of_mem_set hz with h | h
                      · exact h641 z h
                      · rw [h]; show U.length ≤ 64; omega
                    · rw [set_names (x := ⟨y.f0, U, x.f2, true⟩) hy rfl]; exact hIb
                  case measure => simp [intOf]; omega
          | false =>
            rw [hx3] at b4
            rw [if_neg (by rw [hx3]; simp)] at hmg
            have hne0 : g0 ≠ wr.heap.size := hne _ rfl
            obtain ⟨Ay, cy, rfl, hyc, hyC⟩ := Kd.R_reads hR1
            go_wp2_with fail
            have hB5 : Below wc.heap.size wc (wc.alloc (.cells #[.slice Ay y.f1.length cy, .slice A1 x.f1.length c1] 28)).drew := below_drew (below_alloc (Below.refl _ wc) _)
            obtain ⟨Z, hZ⟩ : ∃ Z, y.f1 ++ x.f1 = Z := ⟨_, rfl⟩
            have hZl : Z.length ≤ 128 := by rw [← hZ, List.length_append]; omega
            have hcc5 : Calls Try.prog 18 #[.slice (some ⟨wc.heap.size, 0, none⟩) 2 2] (wc.alloc (.cells #[.slice Ay y.f1.length cy, .slice A1 x.f1.length c1] 28)).drew fun e w' => ∃ v, e = .returned v ∧ Kd.string.R 9 w' (wc.alloc (.cells #[.slice Ay y.f1.length cy, .slice A1 x.f1.length c1] 28)).drew.heap.size (fun _ => True) v Z ∧ Below (wc.alloc (.cells #[.slice Ay y.f1.length cy, .slice A1 x.f1.length c1] 28)).drew.heap.size (wc.alloc (.cells #[.slice Ay y.f1.length cy, .slice A1 x.f1.length c1] 28)).drew w' := by
              have hcc := concat_calls ⟨wc.heap.size, 0, none⟩ [⟨Ay, cy, y.f1⟩, ⟨A1, c1, x.f1⟩] (wc.alloc (.cells #[.slice Ay y.f1.length cy, .slice A1 x.f1.length c1] 28)).drew (by
                intro jj z hz
                have hcl := fun (jj : Nat) hj => World.cell?_alloc_at (w := wc) #[.slice Ay y.f1.length cy, .slice A1 x.f1.length c1] 28 wc.heap.size jj hj
                rcases jj with _ | _ | jj
                · simp at hz; subst hz
                  exact ⟨hcl 0 rfl, Kd.C_below hyC hB5⟩
                · simp at hz; subst hz
                  exact ⟨hcl 1 rfl, Kd.C_below (Kd.C_below hxw.r1 hB) hB5⟩
                · simp at hz) (by simp) (by simp [flat]; omega)
              have hfl : flat [⟨Ay, cy, y.f1⟩, ⟨A1, c1, x.f1⟩] = Z := by simp [flat, hZ]
              rw [hfl] at hcc
              exact hcc
            have b5 : (wc.alloc (.cells #[.slice Ay y.f1.length cy, .slice A1 x.f1.length c1] 28)).drew.cell? ⟨wr.heap.size, 1, none⟩ = some (.slice A1 x.f1.length c1) := pw_cell_below hB5 b2
            go_region_with (first
              | (go_at_call 18; refine hcc5.mono ?_; rintro e w6 ⟨v6, rfl, hR6, hb6⟩; obtain ⟨A6, c6, rfl, h6c, h6C⟩ := Kd.R_reads hR6; have b6 := pw_cell_below hb6 b5)
              | (go_at_call 17; refine (unique_calls A6 c6 Z (by omega) w6 h6C h6c).mono ?_; rintro e w7 ⟨v7, rfl, hR7, hb7⟩; have b7 := pw_cell_below hb7 b6; obtain ⟨A7, c7, rfl, h7c, h7C⟩ := Kd.R_reads hR7; have hBt : Below wc.heap.size wc w7 := below_t (below_t hB5 hb6) hb7; have a17 := pw_cell_below hBt a1; have f17 := frz_at (Kd.R_below hO hBt) hj 1))
            all_goals
              have hs1 := hB5.size
              have hs2 := hb6.size
              have hs3 := hb7.size
              have hv7 : Kd.string.R 9 w7 w.heap.size (fun k => True ∧ k ≠ g0) (.slice A7 (uniq [] Z).length c7) (uniq [] Z) := Kd.R_reok rfl (Kd.R_lower hR7 (Nat.le_trans hB.size (Nat.le_trans hs1 hs2))) (fun k hk => ⟨trivial, by have := Kd.R_base hR7 k hk; omega⟩)
              obtain ⟨hO8, hg8⟩ := out_put (Kd.R_below hO hBt) hy 1 (by decide) (.slice A7 (uniq [] Z).length c7) ⟨y.f0, uniq [] Z, y.f2, y.f3⟩ (fun v1 v2 h1 h2 => k30_mkM _ _ _ _ hv7 h2)
              have hI8 := (hI.below hBt).kept hg8 (fun e => hI.ne_cells hgc (by injection e))
              have hB8 := (below_then hB hB.size hBt).grown hg8 (below_then hB hB.size hBt).size (fun k hk => by cases hk; exact hg0)
              have hbox8 := (hg8.block wr.heap.size (Nat.lt_of_lt_of_le (World.block_lt_of_cell? _ _ b1) hBt.size) (fun e => hne0 (by injection e with e; exact e.symm))).trans ((hBt.block wr.heap.size (World.block_lt_of_cell? _ _ b1)).trans hbox)
              rw [hZ] at hmg
              have hup : (upd x y).f1 = uniq [] Z := by rw [upd_f1, hZ]
              generalize w7.setCell ⟨g0, j * 4 + 1, none⟩ (.slice A7 (uniq [] Z).length c7) = W8 at hO8 hI8 hB8 hbox8 ⊢
              generalize uniq [] Z = U at hO8 hmg hup
              obtain ⟨b81, b82, b83, b84⟩ := box_cells hbox8
              have hy8 : (M.set j ⟨y.f0, U, y.f2, y.f3⟩)[j]? = some ⟨y.f0, U, y.f2, y.f3⟩ := by rw [List.getElem?_set_self hj]
              rw [List.length_set] at hO8
              have hO8' : Out W8 w.heap.size (.slice (some ⟨g0, 0, none⟩) (M.set j ⟨y.f0, U, y.f2, y.f3⟩).length cap0) (M.set j ⟨y.f0, U, y.f2, y.f3⟩) := by rw [List.length_set]; exact hO8
              obtain ⟨Au, cu, Av, cv, g80, g81, g82, g83, _, _, _, _, fr8⟩ := out_at hO8' hy8
              have fr82 := fr8 2
              have fr83 := fr8 3
              by_cases hbig : 64 < U.length
              · rw [if_pos hbig] at hmg
                have d5 : (64 : Int) < (U.length : Int) := by omega
                go_wp2_with fail
                go_ret3
                subst hmg
                exact ⟨_, rfl, Kd.R_nil _ _ _ _ _, hB8⟩
              · rw [if_neg hbig] at hmg
                have d5 : ¬ ((64 : Int) < (U.length : Int)) := by omega
                have hu : upd x y = ⟨y.f0, U, y.f2, y.f3⟩ := by
                  rw [← hup]; simp [upd, hx3]
                go_wp2_with fail
                go_roundw
                case rel =>
                  rw [hu] at hmg
                  refine ⟨k + 1, M.set j ⟨y.f0, U, y.f2, y.f3⟩, by go_num, by omega, hmg, by rw [List.length_set]; omega, fun z hz => ?_, hO8, ?_, hB8⟩
                  · rcases List.mem_or_eq_of_mem_set hz with h | h
                    · exact h641 z h
                    · rw [h]; show U.length ≤ 64; omega
                  · rw [set_names (x := ⟨y.f0, U, y.f2, y.f3⟩) hy rfl]; exact hI8
                case measure => simp [intOf]; omega
      · obtain rfl : k = l.length := by omega
        have d1 : ¬ ((l.length : Int) < (l.length : Int)) := by omega
        rw [List.drop_length, mg] at hmg
        go_wp2_with fail
        go_ret3
        subst hmg
        exact ⟨_, rfl, hO, hB⟩
  · have hm : mergeL l = ([], (askedL l).1, (askedL l).2) := if_neg h0
    rw [hm]
    generalize (askedL l).1 = q1 at hask h0
    generalize (askedL l).2 = q2 at hask
    go_enter Try.func6, Try.ntmps6
    go_wp2_with fail
    refine hask.mono ?_
    rintro e w1 ⟨rfl, hb1⟩
    go_wp2
    go_ret3
    exact ⟨_, rfl, Kd.R_nil _ _ _ _ _, hb1⟩
end Go.Proofs.Ytkbcfbelpjifnaa.Spec
