/- TableNil: its walk, as its row asks for it. -/
import Derived.Test.YtbpaejbecgaepaaMergeF
import Derived.Test.YtbpaejbecgaepaaRowK
namespace Go.Proofs.Ytbpaejbecgaepaa.TabIS
open Go Go.RowKit Go.Proofs Go.Proofs.Ytbpaejbecgaepaa.Hand Go.Shelf
set_option linter.unusedVariables false
set_option linter.unusedSimpArgs false
attribute [local go_sem] Oper.semAt_some

set_option maxHeartbeats 4000000 in
set_option maxRecDepth 100000 in
theorem table_nil (k : Int) (w : World) :
    Calls Try.prog 9 #[.int .i64 k] w fun e w' => e = .returned (.bool true) ∧ Below w.heap.size w w' := by
  refine (callsIn_wide (n := 9)).1 ?_
  refine callsIn_of_wp_marks Try.func9 rfl trivial ?_ rfl
  simp only [Try.ntmps9, List.size_toArray, List.length_cons, List.length_nil, Nat.reduceAdd, Nat.reduceSub, Array.replicate_succ, Array.replicate_zero, List.push_toArray, List.append_toArray, List.nil_append, List.cons_append]
  have hq := run_func_nil
  have f1 : Fence.wide.fn 24 := trivial
  have f2 : Fence.wide.fn 27 := trivial
  have f3 : Fence.wide.fn 30 := trivial
  have f4 : Fence.wide.fn 22 := trivial
  have f5 : Fence.wide.fn 32 := trivial
  have f6 : Fence.wide.fn 35 := trivial
  have f7 : Fence.wide.fn 33 := trivial
  have f8 : Fence.wide.fn 37 := trivial
  have f9 : Fence.wide.fn 31 := trivial
  have f10 : Fence.wide.fn 23 := trivial
  gi_wp2_with fail
  refine CallsIn.mono (callsIn_wide.2 (put_nil k _ w)) ?_
  rintro e w0 ⟨rfl, rfl⟩
  gi_wp2_with fail
  refine CallsIn.mono (callsIn_wide.2 (get_nil k w0)) ?_
  rintro e w1 ⟨rfl, rfl⟩
  gi_wp2_with fail
  refine CallsIn.mono (callsIn_wide.2 (at_nil w1)) ?_
  rintro e w ⟨rfl, rfl⟩
  gi_wp2_with fail
  refine CallsIn.mono (callsIn_wide.2 (all_nil _)) ?_
  rintro e w2 ⟨B, v2, rfl, hBge, hB, hR2, hb2⟩
  rw [World.size_alloc] at hBge hR2 hb2
  have bn : Boxed w2 w.heap.size 3 (.int .i64 0) := (hb2.block _ (by omega)).trans (Boxed.new w _ _)
  have hs2 : w.heap.size + 1 ≤ w2.heap.size := by have := hb2.size; rw [World.size_alloc] at this; exact this
  have hbw2 : Below w.heap.size w w2 := ((Below.refl _ w).alloc (Nat.le_refl _) (.cells #[.int .i64 0] 3)).trans ⟨hb2.os, hb2.tape, hb2.output, hb2.size, fun q hq => hb2.block q (by omega)⟩
  have hBlt : B < w2.heap.size := (Array.getElem?_eq_some_iff.1 hB).1
  have hv2 : ∀ j, v2.ownBlock = some j → w.heap.size + 1 ≤ j := fun j hj => (hR2.lt j hj).1
  gi_wp2_with fail
  refine rangeL (n := 9) (F := Fence.wide) rfl (by decide) (gf := 63) (lb := #[.pointer (some ⟨B, 0, none⟩)]) rfl trivial (enters_of Try.func63 (by kernel_rfl) rfl)
    (encs := encs) (S := fun zs => zs = []) (Sp := fun _ => True) (G := Next []) (by intro x; rfl)
    (fun pre W => Keep w2 W (fun _ => False)) (fun _ _ _ => False)
    (keep_own (fun _ _ => False) (Nat.le_refl _)) (fun _ => ownFrom_pure _ (fun _ => False))
    (Keep.refl _ _) ?a1 ?iter ?assign ?body ?done ?stop
  case assign =>
    intro l x W K hK
    gi_wp2
    exact hK
  case iter =>
    intro l J Jx W hJI hJk hY h0 hW hbW
    exact over_leaves 8 l _ B (w.heap.size + 1) v2 [] _ J Jx (by decide) (by simp) (fun s A h => ⟨(h.block B hBlt id).trans hB, rows_keep hR2 h (fun j hj => id)⟩) (fun s A o h => h.alloc o) hJI hJk hY W h0
  case body =>
    rintro l pre x W hK ⟨hx, hpre⟩
    simp at hx
  case stop =>
    rintro D cd pre W hD _ h hDD
    exact h.elim
  case done =>
    rintro D zs W hD hS hK hDD
    have hbW := hK.below hbw2 (fun k hk => hk.elim)
    have bW : Boxed W w.heap.size 3 (.int .i64 0) := (hK.block _ (by omega) id).trans bn
    gi_wp2_with fail
    refine CallsIn.mono (callsIn_wide.2 (clone_nil W)) ?_
    rintro e w3 ⟨rfl, hT3, hb3⟩
    gi_wp2_with fail
    refine CallsIn.mono (callsIn_wide.2 (merge_of none none [] [] w3 List.Pairwise.nil (by simp) (by simp) ((clone_nil w3).mono (fun e w' ⟨h1, h2, h3⟩ => ⟨_, _, h1, Nat.le_refl _, h2, h3⟩)) (fun W' _ => all_nil W'))) ?_
    rintro e w4 ⟨m, vm, rfl, hm, hT4, hb4⟩
    have hT3' := hT3.below hb4
    have hb34 := below_trans hb3 hb4
    gi_wp2_with fail
    refine CallsIn.mono (callsIn_wide.2 (put_calls W.heap.size W.heap.size _ [] k ⟨#[121]⟩ 0 w4 hT3' ⟨by simp, fun i x h => by simp at h⟩ (by simp) hb34.size)) ?_
    rintro e w5 ⟨rfl, v5, hT5, hk5, _⟩
    have hb5 := below_keep hb34 hb34.size hk5 (own_ge hT3'.rows (Nat.le_refl _))
    have hp : putL [] k ⟨#[121]⟩ 0 = [(k, (⟨#[121]⟩ : ByteArray))] := rfl
    rw [hp] at hT5
    gi_wp2_with fail
    refine CallsIn.mono (callsIn_wide.2 (get_calls W.heap.size W.heap.size _ _ k 0 w5 hT5 (place_own (xs := [(k, (⟨#[121]⟩ : ByteArray))]) (by simp [Srt]) (i := 0) (x := (k, ⟨#[121]⟩)) rfl) (by simp) hb5.size)) ?_
    rintro e w6 ⟨rfl, hb6⟩
    have hg : getL [(k, (⟨#[121]⟩ : ByteArray))] k 0 = (⟨#[121]⟩, true) := get_own (xs := [(k, (⟨#[121]⟩ : ByteArray))]) (i := 0) (x := (k, ⟨#[121]⟩)) rfl
    rw [hg]
    have hW3 : W.heap.size < w3.heap.size := hT3.lt
    have hT5m : IsTab w5 w3.heap.size m vm [] := hT4.kept hk5 (by
      rintro (e | e)
      · omega
      · simp [Value.ownBlock] at e) (fun j hj => by
      rintro (e | e)
      · have := (hT4.rows.lt j hj).1; omega
      · simp [Value.ownBlock] at e)
    have hb06 := hb5.trans (hb6.mono hb5.size)
    have b6 : Boxed w6 w.heap.size 3 (.int .i64 0) := (hb06.block _ (by have := hK.size; omega)).trans bW
    have hc6 := b6.cell
    gi_wp2_with fail
    refine CallsIn.mono (callsIn_wide.2 (len_nil w6)) ?_
    rintro e w7 ⟨rfl, rfl⟩
    gi_wp2_with fail
    refine CallsIn.mono (callsIn_wide.2 (keys_nil w7)) ?_
    rintro e w8 ⟨vk, rfl, hRk, hb8⟩
    obtain ⟨Ak, ck, rfl⟩ := own_slice hRk
    gi_wp2_with fail
    refine CallsIn.mono (callsIn_wide.2 (rank_nil k w8)) ?_
    rintro e w9 ⟨rfl, rfl⟩
    gi_wp2_with fail
    refine CallsIn.mono (callsIn_wide.2 (delete_nil k w9)) ?_
    rintro e w10 ⟨rfl, rfl⟩
    have hTm := (hT5m.below hb6).below hb8
    gi_wp2_with fail
    refine CallsIn.mono (callsIn_wide.2 (len_calls w3.heap.size m vm [] w10 hTm)) ?_
    rintro e w11 ⟨rfl, rfl⟩
    gi_wp2
    have hend := hb06.trans (hb8.mono hb06.size)
    have hDD' : w11.heap[D]? = some (.deferred (some [])) := (hend.block D (Array.getElem?_eq_some_iff.1 hDD).1).trans hDD
    refine ⟨by simp, .inl ⟨_, _, rfl, run_takeDeferred hDD', ?_⟩⟩
    exact ⟨_, results_tmp rfl _ _ _, rfl, (hbW.trans (hend.mono hbW.size)).trans (belowK_b (w := w) (Nat.le_refl _) _ D _ _ (by omega) hDD' rfl rfl)⟩
end Go.Proofs.Ytbpaejbecgaepaa.TabIS
namespace Go.Proofs.Ytbpaejbecgaepaa.Hand
open Go Go.RowKit Go.Proofs Go.Proofs.YtbpaejbecgaepaaW.PrintWords Go.Proofs.Ytbpaejbecgaepaa.Opens
set_option linter.unusedVariables false
theorem TableNil.row (k : Int) (w : World) (hw : (Lit.int .i64 k).wf = true) :
    Calls Try.prog 9 #[.int .i64 k] w fun e w' => e = .returned (.bool true) ∧ Below w.heap.size w w' := TabIS.table_nil k w
end Go.Proofs.Ytbpaejbecgaepaa.Hand
