/- (*work).look, with no inner macros: a macro's value, or nothing. -/
import Derived.Test.YtadfbbjplgbakaaGreatExp2
import Derived.Test.YtadfbbjplgbakaaGreatExpL
import Derived.Test.YtadfbbjplgbakaaGreatRangeC
import Derived.OwnWalkIn
import Derived.TacticsInMore
import Derived.LoopNIn
import Derived.LoopIn
namespace Go.Proofs.YtadfbbjplgbakaaGreat.Exp
open Go Go.RowKit Go.Proofs Go.Proofs.YtadfbbjplgbakaaGreatW.PrintWords Go.Proofs.YtadfbbjplgbakaaGreat.PX Go.Proofs.YtadfbbjplgbakaaGreat.Plain Go.Proofs.YtadfbbjplgbakaaGreat.Hand
set_option linter.unusedVariables false
set_option linter.unusedSimpArgs false

set_option maxHeartbeats 1000000 in
theorem backward_in (n : Nat) (v : Value) (hv : ∃ A m c, v = .slice A m c) (w : World) :
    CallsIn Fence.wide n Tryz.prog 88 #[v] w fun e w' => e = .returned (.func (.func 97) #[] #[.pointer (some ⟨w.heap.size, 0, none⟩)]) ∧ w' = w.alloc (.cells #[v] 22) := by
  obtain ⟨A, m, c, rfl⟩ := hv
  refine callsIn_of_wp Tryz.func88 rfl trivial ?_ rfl
  simp only [Tryz.ntmps88, List.size_toArray, List.length_cons, List.length_nil, Nat.reduceAdd, Nat.reduceSub, Array.replicate_succ, Array.replicate_zero, List.push_toArray, List.append_toArray, List.nil_append, List.cons_append]
  gi_wp2
  go_ret
  exact ⟨rfl, rfl⟩
set_option maxHeartbeats 1000000 in
/-- Over none: the iterator is over at once. -/
theorem backward1_in (n l B : Nat) (hn : 1 ≤ n) (A : Option Addr) (c : Nat) (W : World) (hB : W.cell? ⟨B, 0, none⟩ = some (.slice A 0 c)) :
    CallsIn Fence.wide n Tryz.prog 97 #[.func (.yield l) #[] #[], .pointer (some ⟨B, 0, none⟩)] W fun e W' => (∃ v, e = .returned v) ∧ W' = W := by
  refine callsIn_of_wp Tryz.func97 rfl trivial ?_ rfl
  simp only [Tryz.ntmps97, List.size_toArray, List.length_cons, List.length_nil, Nat.reduceAdd, Nat.reduceSub, Array.replicate_succ, Array.replicate_zero, List.push_toArray, List.append_toArray, List.nil_append, List.cons_append]
  gi_wp2
  gi_loopw [3] (fun i wr => i = .int .i64 (-1) ∧ wr = W) (fun _ wr => 0)
  case atStart => exact ⟨rfl, rfl⟩
  case round =>
    obtain ⟨rfl, rfl⟩ := hrel
    gi_wp2
    go_end0
    exact ⟨⟨_, rfl⟩, rfl⟩
theorem end_look (Q : Ending → World → Prop) (tmps : Array Value) (w W : World) (D s1 s2 : Nat) (o : ByteArray) (lz : Bool) (hp : tmps.getD 4 undef = .pointer (some ⟨s1, 0, none⟩)) (hp2 : tmps.getD 5 undef = .pointer (some ⟨s2, 0, none⟩))
    (h1 : W.heap[s1]? = some (.cells #[.string o] 9 (0, 0))) (h2 : W.heap[s2]? = some (.cells #[.bool lz] 4 (0, 0))) (hK : W.heap[D]? = some (.deferred (some []))) (hD : w.heap.size ≤ D) (hw : Below w.heap.size w W)
    (hQ : ∀ W', Below w.heap.size w W' → Q (.returned (.tuple #[.string o, .bool lz])) W') :
    bodyPostM Fence.wide 9 Tryz.prog Tryz.f76 Q .ret { tmps := tmps, defers := [{ target := .collected D, args := #[] }] } W := by
  refine ⟨by simp, .inl ⟨_, _, rfl, run_takeDeferred hK, ?_⟩⟩
  have n1 : s1 ≠ D := fun e => by rw [← e, h1] at hK; cases hK
  have n2 : s2 ≠ D := fun e => by rw [← e, h2] at hK; cases hK
  have r1 : (W.putObj D (.deferred none)).cell? ⟨s1, 0, none⟩ = some (.string o) := cell_of_row _ s1 0 _ _ _ ((World.putObj_heap_other n1).trans h1)
  have r2 : (W.putObj D (.deferred none)).cell? ⟨s2, 0, none⟩ = some (.bool lz) := cell_of_row _ s2 0 _ _ _ ((World.putObj_heap_other n2).trans h2)
  refine ⟨.tuple #[.string o, .bool lz], ?_, hQ _ (hw.trans (belowK_b (w := w) (Nat.le_refl _) W D _ _ hD hK rfl rfl))⟩
  have hp' : tmps[4]?.getD undef = .pointer (some ⟨s1, 0, none⟩) := by simpa using hp
  have hp2' : tmps[5]?.getD undef = .pointer (some ⟨s2, 0, none⟩) := by simpa using hp2
  simp [results, Tryz.results76, go_sem, hp', hp2', r1, r2, asAddr, Result.andThen]
set_option maxHeartbeats 4000000 in
set_option maxRecDepth 100000 in
theorem look_in (k b : Nat) (Am Ai : Option Addr) (cm ci : Nat) (M : List Mac) (v : Value) (nn : Int) (x : ByteArray) (w : World) (hb0 : w.heap[b]? = some (.cells #[.slice Am M.length cm, .slice Ai 0 ci, v, .int .i64 nn] 73 (0, 0))) (hM : kM.C w Am M.length M) (hc : M.length ≤ cm) (hl : M.length ≤ 4611686018427387904) (hck : macro_Check.f k M = some 0) (hx : x.size ≤ 4611686018427387904) :
    Calls Tryz.prog 76 #[.pointer (some ⟨b, 0, none⟩), .string x] w fun e w' => e = .returned (.tuple #[.string (if innL (L x) = true then ⟨#[]⟩ else valM M x), .bool (!(innL (L x)))]) ∧ Below w.heap.size w w' := by
  have hnm : macro_Name.f x = some (macro_Name.v x) := if_pos (by omega)
  have h1 := fun W hW => look_calls k Am cm M x _ W (Kd.C_below hM hW) hc hl hck hnm
  have h2 := fun W => expand_isInner.calls x _ W (inner_eq x)
  clear hM hck hnm
  generalize valM M x = vx at h1 ⊢
  generalize innL (L x) = y at h2 ⊢
  have m0 : w.cell? ⟨b, 0, none⟩ = some (.slice Am M.length cm) := cell_of_row w b 0 _ _ _ hb0
  have m1 : w.cell? ⟨b, 1, none⟩ = some (.slice Ai 0 ci) := cell_of_row w b 1 _ _ _ hb0
  have hlt : b < w.heap.size := blk_lt hb0
  clear hb0
  refine (callsIn_wide (n := 9)).1 ?_
  refine callsIn_of_wp_marks Tryz.func76 rfl trivial ?_ rfl
  simp only [Tryz.ntmps76, List.size_toArray, List.length_cons, List.length_nil, Nat.reduceAdd, Nat.reduceSub, Array.replicate_succ, Array.replicate_zero, List.push_toArray, List.append_toArray, List.nil_append, List.cons_append]
  have hf1 : Fence.wide.fn 88 := trivial
  obtain ⟨W3, hW3⟩ : ∃ W3, W3 = ((w.alloc (.cells #[.string x] 9)).alloc (.cells #[.string (⟨#[]⟩ : ByteArray)] 9)).alloc (.cells #[.bool false] 4) := ⟨_, rfl⟩
  have hb3 : Below w.heap.size w W3 := by rw [hW3]; exact below_alloc (below_alloc (below_alloc (Below.refl _ _) _) _) _
  have m1' := pw_cell_below hb3 m1
  rw [hW3] at m1'
  gi_wp2_with fail
  refine (backward_in _ _ ⟨_, _, _, rfl⟩ _).mono ?_
  rintro e w' ⟨rfl, rfl⟩
  have hz3 : W3.heap.size = w.heap.size + 3 := by rw [hW3]; simp
  have g0 : W3.heap[w.heap.size]? = some (.cells #[.string x] 9 (0, 0)) := by
    rw [hW3, Lib.alloc_old _ _ _ (by simp; omega), Lib.alloc_old _ _ _ (by simp)]; exact heap_alloc_new w _
  have g1 : W3.heap[w.heap.size + 1]? = some (.cells #[.string (⟨#[]⟩ : ByteArray)] 9 (0, 0)) := by
    rw [hW3, Lib.alloc_old _ _ _ (by simp)]
    have := heap_alloc_new (w.alloc (.cells #[.string x] 9)) (.cells #[.string (⟨#[]⟩ : ByteArray)] 9)
    rw [World.size_alloc] at this; exact this
  have g2 : W3.heap[w.heap.size + 2]? = some (.cells #[.bool false] 4 (0, 0)) := by
    rw [hW3]
    have := heap_alloc_new ((w.alloc (.cells #[.string x] 9)).alloc (.cells #[.string (⟨#[]⟩ : ByteArray)] 9)) (.cells #[.bool false] 4)
    rw [World.size_alloc, World.size_alloc] at this; exact this
  rw [← hW3, hz3]
  clear m1' hW3
  have g3 : (W3.alloc (.cells #[.slice Ai 0 ci] 22)).heap[w.heap.size + 3]? = some (.cells #[.slice Ai 0 ci] 22 (0, 0)) := by
    have := heap_alloc_new W3 (.cells #[.slice Ai 0 ci] 22); rw [hz3] at this; exact this
  have k0 := (Lib.alloc_old W3 (.cells #[.slice Ai 0 ci] 22) w.heap.size (by omega)).trans g0
  have k1 := (Lib.alloc_old W3 (.cells #[.slice Ai 0 ci] 22) (w.heap.size + 1) (by omega)).trans g1
  have k2 := (Lib.alloc_old W3 (.cells #[.slice Ai 0 ci] 22) (w.heap.size + 2) (by omega)).trans g2
  have hb4 : Below w.heap.size w (W3.alloc (.cells #[.slice Ai 0 ci] 22)) := below_alloc hb3 _
  have hz4 : (W3.alloc (.cells #[.slice Ai 0 ci] 22)).heap.size = w.heap.size + 4 := by rw [World.size_alloc, hz3]
  clear g0 g1 g2 hz3 hb3
  generalize W3.alloc (.cells #[.slice Ai 0 ci] 22) = W4 at g3 k0 k1 k2 hb4 hz4 ⊢
  clear W3
  gi_wp2_with fail
  refine rangeC (n := 9) (F := Fence.wide) (α := Empty) rfl (by decide) (gf := 97) (lb := #[.pointer (some ⟨w.heap.size + 3, 0, none⟩)]) rfl trivial (enters_of Tryz.func97 (by kernel_rfl) rfl)
    (encs := fun _ => #[]) (S := fun _ => True) (N := 0) (fun x => x.elim)
    (fun _ W => Below W4.heap.size W4 W) (ownFrom_below (Nat.le_refl _) (Nat.le_refl _)) (Below.refl _ _) (fun x => x.elim) ?iter ?assign ?body ?done
  case iter =>
    intro l J W hJI hJk hY h0 hW hbW
    refine (backward1_in 8 l (w.heap.size + 3) (by decide) Ai ci W ?_).mono ?_
    · exact cell_of_row W (w.heap.size + 3) 0 _ _ _ ((hbW.block _ (by omega)).trans g3)
    · rintro e W' ⟨he, rfl⟩
      exact ⟨he, [], trivial, h0⟩
  case assign =>
    intro l x
    exact x.elim
  case body =>
    intro l pre x
    exact x.elim
  case done =>
    intro D xs W hD _ hbW hK
    have hb5 : Below w.heap.size w W := below_t hb4 hbW
    have j0 := (hbW.block _ (blk_lt k0)).trans k0
    have j1 := (hbW.block _ (blk_lt k1)).trans k1
    have j2 : W.heap[w.heap.size + 1 + 1]? = some (.cells #[.bool false] 4 (0, 0)) := (hbW.block _ (blk_lt k2)).trans k2
    have hDne : w.heap.size + 4 ≤ D := by omega
    clear hb4 hz4 g3 k0 k1 k2 hbW hD W4
    have r0 : W.cell? ⟨w.heap.size, 0, none⟩ = some (.string x) := cell_of_row W _ 0 _ _ _ j0
    have r1 : W.cell? ⟨w.heap.size + 1, 0, none⟩ = some (.string (⟨#[]⟩ : ByteArray)) := cell_of_row W _ 0 _ _ _ j1
    have r2 : W.cell? ⟨w.heap.size + 1 + 1, 0, none⟩ = some (.bool false) := cell_of_row W _ 0 _ _ _ j2
    have q1 := frozen_of_row W (w.heap.size + 1) 0 _ _ j1
    have q2 := frozen_of_row W (w.heap.size + 1 + 1) 0 _ _ j2
    have hf2 : Fence.wide.fn 48 := trivial
    gi_wp2_with fail
    refine (callsIn_wide.2 (h2 _)).mono ?_
    rintro e w6 ⟨rfl, ⟨⟨n6, rfl⟩⟩⟩
    cases y with
    | true =>
      clear h1 h2
      gi_wp2_with fail
      have i1 : (W.drewN n6).heap[w.heap.size + 1]? = some _ := j1
      have i2 : (W.drewN n6).heap[w.heap.size + 1 + 1]? = some _ := j2
      have iK : (W.drewN n6).heap[D]? = some _ := hK
      have hb6 := pw_below_drewN hb5 n6
      generalize W.drewN n6 = w6 at i1 i2 iK hb6 ⊢
      refine end_look _ _ w _ D _ _ _ _ rfl rfl ?_ ?_ ?_ (by omega) ((hb6.setCell (p := ⟨w.heap.size + 1, 0, none⟩) (by show _ ≤ w.heap.size + 1; omega) _).setCell (p := ⟨w.heap.size + 1 + 1, 0, none⟩) (by show _ ≤ w.heap.size + 1 + 1; omega) _) (fun W' hW' => ⟨rfl, hW'⟩)
      · rw [heap_setCell_other _ _ _ _ (by show w.heap.size + 1 ≠ w.heap.size + 1 + 1; omega)]; exact heap_setCell_same w6 _ 0 _ _ _ i1
      · refine heap_setCell_same _ _ 0 #[.bool false] _ _ ?_
        rw [heap_setCell_other _ _ _ _ (by show w.heap.size + 1 + 1 ≠ w.heap.size + 1; omega)]; exact i2
      · rw [heap_setCell_other _ _ _ _ (by show D ≠ w.heap.size + 1 + 1; omega), heap_setCell_other _ _ _ _ (by show D ≠ w.heap.size + 1; omega)]; exact iK
    | false =>
      have hb6 := pw_below_drewN hb5 n6
      have i0 : (W.drewN n6).heap[w.heap.size]? = some _ := j0
      have i1 : (W.drewN n6).heap[w.heap.size + 1]? = some _ := j1
      have i2 : (W.drewN n6).heap[w.heap.size + 1 + 1]? = some _ := j2
      have iK : (W.drewN n6).heap[D]? = some _ := hK
      clear h2 hb5 j0 j1 j2 r0 r1 r2 q1 q2 hK
      gi_wp2_with fail
      generalize W.drewN n6 = w6 at i0 i1 i2 iK hb6 ⊢
      refine wpIn_wide.2 ?_
      have keep : ∀ W', Below w6.heap.size w6 W' → W'.cell? ⟨b, 0, none⟩ = some (.slice Am M.length cm) ∧ W'.cell? ⟨w.heap.size, 0, none⟩ = some (.string x) := fun W' h => ⟨pw_cell_below (below_t hb6 h) m0, pw_cell_below h (cell_of_row w6 _ 0 _ _ _ i0)⟩
      have hxd : Below w6.heap.size w6 w6.drew := below_drew (Below.refl _ _)
      have r0 := (keep _ (Below.refl _ _)).1
      have r1 := (keep _ (Below.refl _ _)).2
      go_region_held3 (fun W' => W'.cell? ⟨b, 0, none⟩ = some (.slice Am M.length cm) ∧ W'.cell? ⟨w.heap.size, 0, none⟩ = some (.string x)) (first | exact keep _ hxd | exact keep _ hx3 | exact keep _ (below_alloc hx3 _) | exact keep _ (below_drew (below_alloc (Below.refl _ _) _)) | exact keep _ (below_alloc hxd _) | exact keep _ (((hx3.setCell (p := ⟨w6.heap.size, 0, none⟩) (Nat.le_refl _) _).setCell (p := ⟨w6.heap.size, 1, none⟩) (Nat.le_refl _) _).setCell (p := ⟨w6.heap.size, 2, none⟩) (Nat.le_refl _) _)) ((first | (go_at_call 24; refine (h1 _ (below_t hb6 hxd)).mono ?_; rintro e w3 ⟨⟨nk, lv, qq, ec, rfl⟩, hb3⟩; have hx3 := below_t hxd hb3) | (go_at_call 24; refine (h1 _ (below_t hb6 (below_drew (below_alloc (Below.refl _ _) _)))).mono ?_; rintro e w3 ⟨⟨nk, lv, qq, ec, rfl⟩, hb3⟩; have hx3 := below_t (below_drew (below_alloc (Below.refl _ _) _)) hb3; have hz8 := (hb3.block w6.heap.size (by simp)).trans (blk_drew (heap_alloc_new w6 _)); obtain ⟨s0, s1, s2, p0, p1, p2⟩ := three hz8)))
      · have hf := heap_alloc_new w3 (.cells #[.string nk, .string vx, .int .i64 lv] 42)
        have hbf := below_alloc hx3 (.cells #[.string nk, .string vx, .int .i64 lv] 42)
        generalize w3.alloc (.cells #[.string nk, .string vx, .int .i64 lv] 42) = wf at hf hbf ⊢
        obtain ⟨G8, hG8⟩ : ∃ G8, G8 = w3.heap.size := ⟨_, rfl⟩
        rw [← hG8] at hf ⊢
        clear hG8 hx3 keep
        have c1 : wf.cell? ⟨G8, 1, none⟩ = some (.string vx) := cell_of_row wf _ 1 _ _ _ hf
        have j1 := (hbf.block _ (blk_lt i1)).trans i1
        have j2 := (hbf.block _ (blk_lt i2)).trans i2
        have jK := (hbf.block _ (blk_lt iK)).trans iK
        have hb7 := below_t hb6 hbf
        have t1 : wf.cell? ⟨w.heap.size + 1, 0, none⟩ = some (.string (⟨#[]⟩ : ByteArray)) := cell_of_row wf _ 0 _ _ _ j1
        have t2 : wf.cell? ⟨w.heap.size + 1 + 1, 0, none⟩ = some (.bool false) := cell_of_row wf _ 0 _ _ _ j2
        have q1 := frozen_of_row wf (w.heap.size + 1) 0 _ _ j1
        have q2 := frozen_of_row wf (w.heap.size + 1 + 1) 0 _ _ j2
        clear hf hbf h1 i0 i1 i2 iK r0 r1 hb6 hxd
        gi_wp2_with fail
        refine end_look _ _ w _ D _ _ _ _ rfl rfl ?_ ?_ ?_ (by omega) ((hb7.setCell (p := ⟨w.heap.size + 1, 0, none⟩) (by show _ ≤ w.heap.size + 1; omega) _).setCell (p := ⟨w.heap.size + 1 + 1, 0, none⟩) (by show _ ≤ w.heap.size + 1 + 1; omega) _) (fun W' hW' => ⟨rfl, hW'⟩)
        · rw [heap_setCell_other _ _ _ _ (by show w.heap.size + 1 ≠ w.heap.size + 1 + 1; omega)]; exact heap_setCell_same wf _ 0 _ _ _ j1
        · refine heap_setCell_same _ _ 0 #[.bool false] _ _ ?_
          rw [heap_setCell_other _ _ _ _ (by show w.heap.size + 1 + 1 ≠ w.heap.size + 1; omega)]; exact j2
        · rw [heap_setCell_other _ _ _ _ (by show D ≠ w.heap.size + 1 + 1; omega), heap_setCell_other _ _ _ _ (by show D ≠ w.heap.size + 1; omega)]; exact jK
      · obtain ⟨hf, hbf⟩ := fill3 hz8 hx3 (Nat.le_refl _) (.string nk) (.string vx) (.int .i64 lv)
        generalize ((w3.setCell ⟨w6.heap.size, 0, none⟩ (.string nk)).setCell ⟨w6.heap.size, 1, none⟩ (.string vx)).setCell ⟨w6.heap.size, 2, none⟩ (.int .i64 lv) = wf at hf hbf ⊢
        obtain ⟨G8, hG8⟩ : ∃ G8, G8 = w6.heap.size := ⟨_, rfl⟩
        rw [← hG8] at hf ⊢
        clear hG8 s0 s1 s2 p0 p1 p2 hz8 hx3 keep
        have c1 : wf.cell? ⟨G8, 1, none⟩ = some (.string vx) := cell_of_row wf _ 1 _ _ _ hf
        have j1 := (hbf.block _ (blk_lt i1)).trans i1
        have j2 := (hbf.block _ (blk_lt i2)).trans i2
        have jK := (hbf.block _ (blk_lt iK)).trans iK
        have hb7 := below_t hb6 hbf
        have t1 : wf.cell? ⟨w.heap.size + 1, 0, none⟩ = some (.string (⟨#[]⟩ : ByteArray)) := cell_of_row wf _ 0 _ _ _ j1
        have t2 : wf.cell? ⟨w.heap.size + 1 + 1, 0, none⟩ = some (.bool false) := cell_of_row wf _ 0 _ _ _ j2
        have q1 := frozen_of_row wf (w.heap.size + 1) 0 _ _ j1
        have q2 := frozen_of_row wf (w.heap.size + 1 + 1) 0 _ _ j2
        clear hf hbf h1 i0 i1 i2 iK r0 r1 hb6 hxd
        gi_wp2_with fail
        refine end_look _ _ w _ D _ _ _ _ rfl rfl ?_ ?_ ?_ (by omega) ((hb7.setCell (p := ⟨w.heap.size + 1, 0, none⟩) (by show _ ≤ w.heap.size + 1; omega) _).setCell (p := ⟨w.heap.size + 1 + 1, 0, none⟩) (by show _ ≤ w.heap.size + 1 + 1; omega) _) (fun W' hW' => ⟨rfl, hW'⟩)
        · rw [heap_setCell_other _ _ _ _ (by show w.heap.size + 1 ≠ w.heap.size + 1 + 1; omega)]; exact heap_setCell_same wf _ 0 _ _ _ j1
        · refine heap_setCell_same _ _ 0 #[.bool false] _ _ ?_
          rw [heap_setCell_other _ _ _ _ (by show w.heap.size + 1 + 1 ≠ w.heap.size + 1; omega)]; exact j2
        · rw [heap_setCell_other _ _ _ _ (by show D ≠ w.heap.size + 1 + 1; omega), heap_setCell_other _ _ _ _ (by show D ≠ w.heap.size + 1; omega)]; exact jK
end Go.Proofs.YtadfbbjplgbakaaGreat.Exp
namespace Go.Proofs.YtadfbbjplgbakaaGreat.Exp
open Go Go.RowKit Go.Proofs Go.Proofs.YtadfbbjplgbakaaGreatW.PrintWords Go.Proofs.YtadfbbjplgbakaaGreat.PX Go.Proofs.YtadfbbjplgbakaaGreat.Plain
set_option linter.unusedVariables false
set_option linter.unusedSimpArgs false

set_option maxHeartbeats 1000000 in
theorem contains_none (A : Option Addr) (c : Nat) (f : Value) (w : World) :
    Calls Tryz.prog 49 #[.slice A 0 c, f] w fun e w' => e = .returned (.bool false) ∧ w' = w := by
  have h : ∀ W, Calls Tryz.prog 74 #[.slice A 0 c, f] W fun e w' => e = .returned (.int .i64 (-1)) ∧ w' = W := by
    intro W
    go_enter Tryz.func74, Tryz.ntmps74
    go_wp2_with fail
    go_loopw [8] (fun i wr => i = .int .i64 0 ∧ wr = W) (fun _ wr => 0)
    case atStart => exact ⟨rfl, rfl⟩
    case round =>
      obtain ⟨rfl, rfl⟩ := hrel
      go_wp2
      go_ret
      exact ⟨rfl, rfl⟩
  go_enter Tryz.func49, Tryz.ntmps49
  go_wp2_with fail
  refine (h _).mono ?_
  rintro e w' ⟨rfl, rfl⟩
  go_wp2
  go_ret
  exact ⟨rfl, rfl⟩
/-- What is wrong with macros and a text. -/
def askE (e : Int) (s : ByteArray) : Int := if e = 0 then (if s.size ≤ 65536 then 0 else 2) else e
set_option maxHeartbeats 1000000 in
theorem asked_calls (k : Nat) (A Ai : Option Addr) (c ci : Nat) (M : List Mac) (e0 : Int) (s : ByteArray) (w : World) (hr : kM.C w A M.length M) (hc : M.length ≤ c) (hck : macro_Check.f k M = some e0) :
    Calls Tryz.prog 33 #[.slice A M.length c, .slice Ai 0 ci, .string s] w fun e w' => e = .returned (.int .i64 (askE e0 s)) ∧ Below w.heap.size w w' := by
  have h1 := fun W hW => macro_Check.calls k A c M e0 W (Kd.C_below hr hW) hc hck
  have h2 := fun W => contains_none Ai ci (.func (.func 50) #[] #[]) W
  clear hr hck
  obtain ⟨r, hr'⟩ : ∃ r, askE e0 s = r := ⟨_, rfl⟩
  rw [hr']
  have hr : Hid (askE e0 s = r) := hr'
  clear hr'
  go_enter Tryz.func33, Tryz.ntmps33
  go_wp2_with fail
  refine (h1 _ (Below.refl _ _)).mono ?_
  rintro e w2 ⟨rfl, hb2⟩
  by_cases h0 : e0 = 0
  · subst h0
    by_cases hs : s.size ≤ 65536
    · have d1 : decide ((65536 : Int) < (s.size : Int)) = false := decide_eq_false (by omega)
      have hr2 : r = 0 := by rw [← hr.out]; unfold askE; rw [if_pos rfl, if_pos hs]
      subst hr2
      clear hr hs h1
      go_wp2_with fail
      refine (h2 _).mono ?_
      rintro e w3 ⟨rfl, rfl⟩
      go_wp2
      go_ret
      exact ⟨rfl, hb2⟩
    · have d1 : decide ((65536 : Int) < (s.size : Int)) = true := decide_eq_true (by omega)
      have hr2 : r = 2 := by rw [← hr.out]; unfold askE; rw [if_pos rfl, if_neg hs]
      subst hr2
      clear hr hs h1
      go_wp2_with fail
      refine (h2 _).mono ?_
      rintro e w3 ⟨rfl, rfl⟩
      go_wp2
      go_ret
      exact ⟨rfl, hb2⟩
  · have d1 : (e0 == 0) = false := beq_eq_false_iff_ne.2 h0
    have d2 : (e0 != 0) = true := by simp [h0]
    have hr2 : r = e0 := by rw [← hr.out]; unfold askE; rw [if_neg h0]
    subst hr2
    clear hr h1 h2
    go_wp2
    go_ret
    exact ⟨rfl, hb2⟩
end Go.Proofs.YtadfbbjplgbakaaGreat.Exp
