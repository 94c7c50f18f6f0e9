/- special.suffixes. -/
import Derived.Test.YtkbcfbelpjifnaaSpec13
import Derived.Test.YtkbcfbelpjifnaaSpec6
namespace Go.Proofs.Ytkbcfbelpjifnaa.Spec
open Go Go.RowKit Go.Proofs Go.Proofs.YtkbcfbelpjifnaaW.PrintWords Go.Proofs.Ytkbcfbelpjifnaa.PX Go.Proofs.Ytkbcfbelpjifnaa.Plain
set_option linter.unusedVariables false
set_option linter.unusedSimpArgs false

theorem concat2 (W : World) (A1 : Option Addr) (c1 : Nat) (l1 : List ByteArray) (A2 : Option Addr) (c2 : Nat) (l2 : List ByteArray) (h1 : Kd.string.C W A1 l1.length l1) (h2 : Kd.string.C W A2 l2.length l2) (Z : List ByteArray) (hZ : l1 ++ l2 = Z) (hl : Z.length ≤ 1024) :
    Calls Try.prog 18 #[.slice (some ⟨W.heap.size, 0, none⟩) 2 2] (W.alloc (.cells #[.slice A1 l1.length c1, .slice A2 l2.length c2] 28)).drew fun e w' => ∃ v, e = .returned v ∧ Kd.string.R 9 w' (W.alloc (.cells #[.slice A1 l1.length c1, .slice A2 l2.length c2] 28)).drew.heap.size (fun _ => True) v Z ∧ Below (W.alloc (.cells #[.slice A1 l1.length c1, .slice A2 l2.length c2] 28)).drew.heap.size (W.alloc (.cells #[.slice A1 l1.length c1, .slice A2 l2.length c2] 28)).drew w' := by
  have hB5 : Below W.heap.size W (W.alloc (.cells #[.slice A1 l1.length c1, .slice A2 l2.length c2] 28)).drew := below_drew (below_alloc (Below.refl _ W) _)
  have hlen : l1.length + l2.length = Z.length := by rw [← hZ, List.length_append]
  have hcc := concat_calls ⟨W.heap.size, 0, none⟩ [⟨A1, c1, l1⟩, ⟨A2, c2, l2⟩] (W.alloc (.cells #[.slice A1 l1.length c1, .slice A2 l2.length c2] 28)).drew (by
    intro jj z hz
    have hcl := fun (jj : Nat) hj => World.cell?_alloc_at (w := W) #[.slice A1 l1.length c1, .slice A2 l2.length c2] 28 W.heap.size jj hj
    rcases jj with _ | _ | jj
    · simp at hz; subst hz
      exact ⟨hcl 0 rfl, Kd.C_below h1 hB5⟩
    · simp at hz; subst hz
      exact ⟨hcl 1 rfl, Kd.C_below h2 hB5⟩
    · simp at hz) (by simp) (by simp [flat]; omega)
  have hfl : flat [⟨A1, c1, l1⟩, ⟨A2, c2, l2⟩] = Z := by simp [flat, hZ]
  rw [hfl] at hcc
  exact hcc
set_option maxHeartbeats 4000000 in
set_option maxRecDepth 100000 in
theorem suffixes_calls (b : Nat) (s : Sp) (V : Nat → Value) (x : Rl) (A1 : Option Addr) (c1 : Nat) (A2 : Option Addr) (c2 : Nat) (w : World) (hS : SpAt w b s V) (l1 : x.f1.length ≤ c1) (r1 : ∀ W, Below b w W → Kd.string.C W A1 x.f1.length x.f1) (h64 : x.f1.length ≤ 64) (h32 : (s.r 0).length ≤ 32) (hfit : ∀ n ∈ x.f1, n.size ≤ 4611686018427387904) :
    Calls Try.prog 34 #[.pointer (some ⟨b, 0, none⟩), .agg #[.string x.f0, .slice A1 x.f1.length c1, .slice A2 x.f2.length c2, .bool x.f3]] w fun e w' => e = .returned (.int .i64 (sufS x s).1) ∧ (∃ V', SpAt w' b (sufS x s).2 V') ∧ Below b w w' := by
  have hlt := hS.lt
  cases hx3 : x.f3 with
  | true =>
    have hm : sufS x s = (80, s) := if_pos (by rw [hx3]; rfl)
    rw [hm]
    go_enter Try.func34, Try.ntmps34
    go_wp2_with fail
    go_ret
    exact ⟨rfl, ⟨V, hS.below (below_alloc (Below.refl _ _) _)⟩, (below_alloc (Below.refl _ w) _).mono (by omega)⟩
  | false =>
    have hcf := any_not_suf A1 c1 x.f1 (w.alloc (.cells #[.string x.f0, .slice A1 x.f1.length c1, .slice A2 x.f2.length c2, .bool false] 30)) (r1 _ ((below_alloc (Below.refl _ w) _).mono (Nat.le_of_lt hlt))) hfit
    cases hany : x.f1.any fun n => !isSuf n with
    | true =>
      have hm : sufS x s = (80, s) := if_pos (by rw [hx3, hany]; rfl)
      rw [hm]
      rw [hany] at hcf
      go_enter Try.func34, Try.ntmps34
      go_wp2_with fail
      refine hcf.mono ?_
      rintro e w2 ⟨rfl, hb2⟩
      have hb3 : Below w.heap.size w w2 := below_t (below_alloc (Below.refl _ w) _) hb2
      go_wp2_with fail
      go_ret
      exact ⟨rfl, ⟨V, hS.below hb3⟩, hb3.mono (by omega)⟩
    | false =>
      rw [hany] at hcf
      by_cases h0 : x.f1.length = 0
      · obtain ⟨Z, hZ⟩ : ∃ Z, ([] : List ByteArray) ++ x.f1 = Z := ⟨_, rfl⟩
        have hZl : Z.length ≤ 1024 := by rw [← hZ]; simp; omega
        have hm : sufS x s = (if 32 < (uniq [] Z).length then 2 else 0, ⟨up s.r 0 (uniq [] Z), s.f⟩) := by
          unfold sufS
          rw [hx3, hany, if_pos h0, hZ]; rfl
        rw [hm]
        obtain ⟨U, hU⟩ : ∃ U, uniq [] Z = U := ⟨_, rfl⟩
        rw [hU]
        generalize hq : (if 32 < U.length then (2 : Int) else 0) = q
        have d0 : (x.f1.length : Int) = 0 := by omega
        clear h0
        go_enter Try.func34, Try.ntmps34
        go_wp2_with fail
        refine hcf.mono ?_
        rintro e w2 ⟨rfl, hb2⟩
        have hbx : (w.alloc (.cells #[.string x.f0, .slice A1 x.f1.length c1, .slice A2 x.f2.length c2, .bool false] 30)).heap[w.heap.size]? = some _ := heap_alloc_new w _
        have hbx2 := (hb2.block w.heap.size (blk_lt hbx)).trans hbx
        have b1 : w2.cell? ⟨w.heap.size, 1, none⟩ = some (.slice A1 x.f1.length c1) := cell_of_row w2 w.heap.size 1 _ _ _ hbx2
        have hb3 : Below w.heap.size w w2 := below_t (below_alloc (Below.refl _ w) _) hb2
        have hS2 := hS.below hb3
        obtain ⟨cS, fS⟩ := hS2.cell (i := 0) (by decide)
        obtain ⟨A0, c0, hV0, l0, C0⟩ := Kd.R_reads (hS2.rows 0)
        rw [hV0] at cS
        go_wp2_with fail
        have hS3 := hS2.nil (i := 0) (by decide)
        have hb4 := (hb3.mono (Nat.le_of_lt hlt)).setCell (p := ⟨b, 0, none⟩) (Nat.le_refl _) (.slice none 0 0)
        have b2 : (w2.setCell ⟨b, 0, none⟩ (.slice none 0 0)).cell? ⟨w.heap.size, 1, none⟩ = some (.slice A1 x.f1.length c1) := by
          rw [World.cell?_setCell_other]
          · exact b1
          · intro e; injection e with e1 e2; omega
        have cS3 := (hS3.cell (i := 0) (by decide)).1
        have fS3 := (hS3.cell (i := 0) (by decide)).2
        rw [up_at] at cS3
        generalize w2.setCell ⟨b, 0, none⟩ (.slice none 0 0) = w3 at hS3 hb4 b2 cS3 fS3 ⊢
        have hcc := concat2 w3 none 0 [] A1 c1 x.f1 (Kd.C_nil _ _) (r1 _ hb4) Z hZ hZl
        rw [List.length_nil] at hcc
        have hb5 : Below w3.heap.size w3 (w3.alloc (.cells #[.slice none 0 0, .slice A1 x.f1.length c1] 28)).drew := below_drew (below_alloc (Below.refl _ w3) _)
        go_wp2_with fail
        go_region_with (first
          | (go_at_call 18; refine hcc.mono ?_; rintro e w6 ⟨v6, rfl, hR6, hb6⟩; obtain ⟨A6, c6, rfl, h6c, h6C⟩ := Kd.R_reads hR6)
          | (go_at_call 17; have huc := unique_calls A6 c6 Z (by omega) w6 h6C h6c; rw [hU] at huc; refine huc.mono ?_; rintro e w7 ⟨v7, rfl, hR7, hb7⟩; have hBt : Below w3.heap.size w3 w7 := below_t (below_t hb5 hb6) hb7; have hS7 := hS3.below hBt; obtain ⟨cS7, fS7⟩ := hS7.cell (i := 0) (by decide); obtain ⟨A7, c7, rfl, h7c, h7C⟩ := Kd.R_reads hR7))
        all_goals
          have hN7 : w3.heap.size ≤ w6.heap.size := (below_t hb5 hb6).size
          obtain ⟨hv7, hne7⟩ := hS3.apart hR7 hN7
          have hS8 := hS7.put (i := 0) (by decide) hv7 (fun j k _ h1 h2 => hne7 j k h1 h2)
          rw [up_up, up_up] at hS8
          have hbt0 : Below b w w7 := hb4.trans (hBt.mono (Nat.le_of_lt hS3.lt))
          have hbt := hbt0.setCell (p := ⟨b, 0, none⟩) (Nat.le_refl _) (.slice A7 U.length c7)
          have cS8 := (hS8.cell (i := 0) (by decide)).1
          rw [up_at] at cS8
          generalize w7.setCell ⟨b, 0, none⟩ (.slice A7 U.length c7) = W8 at hS8 hbt cS8 ⊢
          by_cases hbig : 32 < U.length
          · have d5 : (32 : Int) < (U.length : Int) := by omega
            rw [if_pos hbig] at hq
            subst hq
            go_wp2_with fail
            go_ret
            exact ⟨rfl, ⟨_, hS8⟩, hbt⟩
          · have d5 : ¬ ((32 : Int) < (U.length : Int)) := by omega
            rw [if_neg hbig] at hq
            subst hq
            go_wp2_with fail
            go_ret
            exact ⟨rfl, ⟨_, hS8⟩, hbt⟩
      · obtain ⟨Z, hZ⟩ : ∃ Z, s.r 0 ++ x.f1 = Z := ⟨_, rfl⟩
        have hZl : Z.length ≤ 1024 := by rw [← hZ, List.length_append]; omega
        have hm : sufS x s = (if 32 < (uniq [] Z).length then 2 else 0, ⟨up s.r 0 (uniq [] Z), s.f⟩) := by
          unfold sufS
          rw [hx3, hany, if_neg h0, hZ]; rfl
        rw [hm]
        obtain ⟨U, hU⟩ : ∃ U, uniq [] Z = U := ⟨_, rfl⟩
        rw [hU]
        generalize hq : (if 32 < U.length then (2 : Int) else 0) = q
        have d0 : ¬ ((x.f1.length : Int) = 0) := by omega
        go_enter Try.func34, Try.ntmps34
        go_wp2_with fail
        refine hcf.mono ?_
        rintro e w2 ⟨rfl, hb2⟩
        have hbx : (w.alloc (.cells #[.string x.f0, .slice A1 x.f1.length c1, .slice A2 x.f2.length c2, .bool false] 30)).heap[w.heap.size]? = some _ := heap_alloc_new w _
        have hbx2 := (hb2.block w.heap.size (blk_lt hbx)).trans hbx
        have b1 : w2.cell? ⟨w.heap.size, 1, none⟩ = some (.slice A1 x.f1.length c1) := cell_of_row w2 w.heap.size 1 _ _ _ hbx2
        have hb3 : Below w.heap.size w w2 := below_t (below_alloc (Below.refl _ w) _) hb2
        have hS2 := hS.below hb3
        obtain ⟨cS, fS⟩ := hS2.cell (i := 0) (by decide)
        obtain ⟨A0, c0, hV0, l0, C0⟩ := Kd.R_reads (hS2.rows 0)
        rw [hV0] at cS
        have hcc := concat2 w2 A0 c0 (s.r 0) A1 c1 x.f1 C0 (r1 _ (hb3.mono (Nat.le_of_lt hlt))) Z hZ hZl
        have hb5 : Below w2.heap.size w2 (w2.alloc (.cells #[.slice A0 (s.r 0).length c0, .slice A1 x.f1.length c1] 28)).drew := below_drew (below_alloc (Below.refl _ w2) _)
        go_wp2_with fail
        go_region_with (first
          | (go_at_call 18; refine hcc.mono ?_; rintro e w6 ⟨v6, rfl, hR6, hb6⟩; obtain ⟨A6, c6, rfl, h6c, h6C⟩ := Kd.R_reads hR6)
          | (go_at_call 17; have huc := unique_calls A6 c6 Z (by omega) w6 h6C h6c; rw [hU] at huc; refine huc.mono ?_; rintro e w7 ⟨v7, rfl, hR7, hb7⟩; have hBt : Below w2.heap.size w2 w7 := below_t (below_t hb5 hb6) hb7; have hS7 := hS2.below hBt; obtain ⟨cS7, fS7⟩ := hS7.cell (i := 0) (by decide); obtain ⟨A7, c7, rfl, h7c, h7C⟩ := Kd.R_reads hR7))
        all_goals
          have hN7 : w2.heap.size ≤ w6.heap.size := (below_t hb5 hb6).size
          obtain ⟨hv7, hne7⟩ := hS2.apart hR7 hN7
          have hS8 := hS7.put (i := 0) (by decide) hv7 (fun j k _ h1 h2 => hne7 j k h1 h2)
          have hbt0 : Below b w w7 := (below_t hb3 hBt).mono (by omega)
          have hbt := hbt0.setCell (p := ⟨b, 0, none⟩) (Nat.le_refl _) (.slice A7 U.length c7)
          have cS8 := (hS8.cell (i := 0) (by decide)).1
          rw [up_at] at cS8
          generalize w7.setCell ⟨b, 0, none⟩ (.slice A7 U.length c7) = W8 at hS8 hbt cS8 ⊢
          by_cases hbig : 32 < U.length
          · have d5 : (32 : Int) < (U.length : Int) := by omega
            rw [if_pos hbig] at hq
            subst hq
            go_wp2_with fail
            go_ret
            exact ⟨rfl, ⟨_, hS8⟩, hbt⟩
          · have d5 : ¬ ((32 : Int) < (U.length : Int)) := by omega
            rw [if_neg hbig] at hq
            subst hq
            go_wp2_with fail
            go_ret
            exact ⟨rfl, ⟨_, hS8⟩, hbt⟩
end Go.Proofs.Ytkbcfbelpjifnaa.Spec
