/- from(): going over a table from a key on tells just the pairs. -/
import Derived.Test.YtbpaejbecgaepaaOverF
namespace Go.Proofs.Ytbpaejbecgaepaa.TabIS
open Go Go.RowKit Go.Proofs Go.Shelf Go.Proofs.Ytbpaejbecgaepaa.Hand
set_option linter.unusedVariables false
set_option linter.unusedSimpArgs false
attribute [local go_sem] Oper.semAt_some

set_option maxHeartbeats 4000000 in
set_option maxRecDepth 100000 in
theorem from_fn (n0 a : Nat) (va : Value) (A : Option Addr) (c : Nat) (zs xs : Prs) (k : Int) (r : Nat) (w : World) (hT : IsTab w n0 a va zs) (hpl : Place zs k r) (hzs : zs.drop r = xs) (h0 : n0 ≤ w.heap.size) (hP : RdP w A xs) (hlz : zs.length ≤ 1099511627776) (hl : xs.length ≤ 1099511627776) :
    Calls Try.prog 13 #[.pointer (some ⟨a, 0, none⟩), .slice A xs.length c, .int .i64 k] w fun e w' => e = .returned (.bool true) ∧ Below w.heap.size w w' := by
  refine (callsIn_wide (n := 9)).1 ?_
  refine callsIn_of_wp_marks Try.func13 rfl trivial ?_ rfl
  simp only [Try.ntmps13, List.size_toArray, List.length_cons, List.length_nil, Nat.reduceAdd, Nat.reduceSub, Array.replicate_succ, Array.replicate_zero, List.push_toArray, List.append_toArray, List.nil_append, List.cons_append]
  obtain ⟨W0, hW0⟩ : ∃ W0, (w.alloc (.cells #[.slice A xs.length c] 29)).alloc (.cells #[.bool false] 4) = W0 := ⟨_, rfl⟩
  have hb0 : Below w.heap.size w W0 := hW0 ▸ ((Below.refl _ w).alloc (Nat.le_refl _) _).alloc (by simp) _
  have hs0 : W0.heap.size = w.heap.size + 2 := by rw [← hW0]; simp
  have hB4 : W0.heap[w.heap.size]? = some (.cells #[.slice A xs.length c] 29 (0, 0)) := by
    rw [← hW0]; exact (Below.heap_alloc _ _ _ (by simp)).trans (World.alloc_heap_new w _)
  have hB6 : W0.heap[w.heap.size + 1]? = some (.cells #[.bool false] 4 (0, 0)) := by
    rw [← hW0]; have := World.alloc_heap_new (w.alloc (.cells #[.slice A xs.length c] 29)) (.cells #[.bool false] 4); rwa [World.size_alloc] at this
  have hq := run_func_nil
  have hf1 : Fence.wide.fn 42 := trivial
  have hall := from_calls n0 a va zs k r W0 (hT.below hb0) hpl hlz (Nat.le_trans h0 hb0.size)
  rw [hzs] at hall
  gi_wp2_with fail
  refine CallsIn.mono (callsIn_wide.2 hall) ?_
  rintro e w1 ⟨B, v2, rfl, hBge, hB, hR2, hb2⟩
  have hb01 : Below w.heap.size w w1 := below_trans hb0 hb2
  have hs1 := hb2.size
  gi_wp2_with fail
  obtain ⟨W2, hW2⟩ : ∃ W2, w1.alloc (.cells #[.int .i64 0] 3) = W2 := ⟨_, rfl⟩
  have hb02 : Below w.heap.size w W2 := hW2 ▸ hb01.alloc hb01.size _
  have hs2 : W2.heap.size = w1.heap.size + 1 := by rw [← hW2]; simp
  have hold : ∀ k, k < w1.heap.size → W2.heap[k]? = w1.heap[k]? := fun k hk => hW2 ▸ Below.heap_alloc w1 _ k hk
  have hBlt : B < w1.heap.size := (Array.getElem?_eq_some_iff.1 hB).1
  have hB' : W2.heap[B]? = some (.cells #[v2] 81 (0, 0)) := (hold B hBlt).trans hB
  have hR' : Rows W2 W0.heap.size v2 xs := hW2 ▸ hR2.alloc _
  have hv2 : ∀ j, v2.ownBlock = some j → W0.heap.size ≤ j ∧ j < w1.heap.size := fun j hj => hR2.lt j hj
  have e4 : W2.heap[w.heap.size]? = some (.cells #[.slice A xs.length c] 29 (0, 0)) := (hold _ (by omega)).trans ((hb2.block _ (by omega)).trans hB4)
  have e6 : W2.heap[w.heap.size + 1]? = some (.cells #[.bool false] 4 (0, 0)) := (hold _ (by omega)).trans ((hb2.block _ (by omega)).trans hB6)
  have en : Boxed W2 w1.heap.size 3 (.int .i64 0) := hW2 ▸ Boxed.new w1 _ _
  have hP2 := hP.below hb02
  rw [hW2]
  refine rangeL (n := 9) (F := Fence.wide) rfl (by decide) (gf := 63) (lb := #[.pointer (some ⟨B, 0, none⟩)]) rfl trivial (enters_of Try.func63 (by kernel_rfl) rfl)
    (encs := encs) (S := fun ys => ys = xs) (Sp := fun _ => True) (G := Next xs) (by intro x; rfl)
    (fun pre W => Keep W2 W (fun k => k = w1.heap.size) ∧ Boxed W w1.heap.size 3 (.int .i64 (pre.length : Int)))
    (fun _ _ _ => False)
    ((keep_own (fun _ k => k = w1.heap.size) (Nat.le_refl _)).and ((boxed_own (β := List (Int × ByteArray)) w1.heap.size 3 (fun pre => .int .i64 (pre.length : Int))).from _))
    (fun _ => ownFrom_pure _ (fun _ => False))
    ⟨Keep.refl _ _, en⟩ ?a1 ?iter ?assign ?body ?done ?stop
  case assign =>
    intro l x W K hK
    gi_wp2
    exact hK
  case iter =>
    intro l J Jx W hJI hJk hY h0 hW hbW
    exact over_leaves 8 l _ B W0.heap.size v2 xs _ J Jx (by decide) hl (fun s A h => ⟨(h.1.block B (by omega) (by omega)).trans hB', rows_keep hR' h.1 (fun j hj => by have := hv2 j hj; omega)⟩) (fun s A o h => ⟨h.1.alloc o, h.2.alloc o⟩) hJI hJk hY W h0
  case body =>
    rintro l pre x W ⟨hK, hN⟩ ⟨hx, hpre⟩
    clear hpre
    have hcn := hN.cell
    have hfn := hN.frozen
    have hlt := (List.getElem?_eq_some_iff.1 hx).1
    have h4 : Boxed W w.heap.size 29 (.slice A xs.length c) := (hK.block _ (by omega) (by omega)).trans e4
    have h6 : Boxed W (w.heap.size + 1) 4 (.bool false) := (hK.block _ (by omega) (by omega)).trans e6
    have hc4 := h4.cell
    have hc6 := h6.cell
    have hf6 := h6.frozen
    have hbW := hK.below hb02 (fun k hk => by omega)
    obtain ⟨g, o, rfl, hp0, hp1⟩ := hP.below hbW _ _ hx
    have d0 : (0 : Int) ≤ (pre.length : Int) := by omega
    have d1 : (pre.length : Int) < (xs.length : Int) := by omega
    have dw : IntKind.i64.wrap ((pre.length : Int) + 1) = (pre.length : Int) + 1 := by rw [IntKind.wrap_i64]; omega
    have hne : w.heap.size + 1 ≠ w1.heap.size := by omega
    gi_wp2
    refine ⟨(KeepsOthers.setCell _ _ _).from _, hK.set _ _ (fun _ => rfl), ?_⟩
    rw [List.length_append, List.length_singleton, Int.natCast_add]
    exact hN.set _
  case done =>
    rintro D ys W hD hS ⟨hK, hN⟩ hDD
    subst hS
    have hcn := hN.cell
    have h4 : Boxed W w.heap.size 29 (.slice A ys.length c) := (hK.block _ (by omega) (by omega)).trans e4
    have h6 : Boxed W (w.heap.size + 1) 4 (.bool false) := (hK.block _ (by omega) (by omega)).trans e6
    have hc4 := h4.cell
    have hc6 := h6.cell
    have hf6 := h6.frozen
    have hbW := hK.below hb02 (fun k hk => by omega)
    gi_wp2
    have hDD' := (KeepsOthers.setCell W ⟨w.heap.size + 1, 0, none⟩ (.bool true)).same D _ hDD rfl
    refine ⟨by simp, .inl ⟨_, _, rfl, run_takeDeferred hDD', ?_⟩⟩
    have hc5 := cell_kept (h6.set (.bool true)).cell (grownBy_putObj' _ D (.deferred none)) (fun r e => by cases e; exact ⟨_, hDD', rfl⟩)
    refine ⟨.bool true, ?_, rfl, ?_⟩
    · simp [results, Try.f13, go_sem, hc5]
    · exact (hbW.setCell (p := ⟨w.heap.size + 1, 0, none⟩) (by simp) _).trans (belowK_b (w := w) (Nat.le_refl _) _ D _ _ (by omega) hDD' rfl rfl)
  case stop =>
    rintro D cd pre W hD _ h hDD
    exact h.elim
end Go.Proofs.Ytbpaejbecgaepaa.TabIS
