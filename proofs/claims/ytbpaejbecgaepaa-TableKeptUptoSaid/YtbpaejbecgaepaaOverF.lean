/- over(): going over a table tells just the pairs. -/
import Derived.Test.YtbpaejbecgaepaaSame
namespace Go.Proofs.Ytbpaejbecgaepaa.TabIS
open Go Go.RowKit Go.Proofs Go.Shelf Go.Proofs.Ytbpaejbecgaepaa.Hand
set_option linter.unusedVariables false
set_option linter.unusedSimpArgs false
attribute [local go_sem] Oper.semAt_some

/-- What keeps all but some blocks of W0 says nothing of the newer ones. -/
theorem keep_own {β : Type} {W0 : World} {B0 : Nat} (S : β → Nat → Prop) (hB : W0.heap.size ≤ B0) : OwnFrom B0 (fun (s : β) W => Keep W0 W (S s)) :=
  fun s A C row h hg hr => ⟨hg.os.trans h.os, hg.tape.trans h.tape, hg.output.trans h.output, Nat.le_trans h.size hg.size, fun k hk hn => (hg.block k (Nat.lt_of_lt_of_le hk h.size) (fun e => by have := (hr k e.symm).1; omega)).trans (h.block k hk hn)⟩
theorem Keep.refl (W : World) (S : Nat → Prop) : Keep W W S := ⟨rfl, rfl, rfl, Nat.le_refl _, fun _ _ _ => rfl⟩
theorem Keep.alloc {W0 W : World} {S : Nat → Prop} (h : Keep W0 W S) (o : Obj) : Keep W0 (W.alloc o) S :=
  ⟨h.os, h.tape, h.output, Nat.le_trans h.size (by simp), fun k hk hn => (Below.heap_alloc W o k (Nat.lt_of_lt_of_le hk h.size)).trans (h.block k hk hn)⟩
theorem Keep.cell {W0 W : World} {S : Nat → Prop} (h : Keep W0 W S) {ad : Addr} {v : Value} (hc : W0.cell? ad = some v) (hn : ¬ S ad.block) : W.cell? ad = some v := by
  have hlt := World.block_lt_of_cell? W0 _ hc
  rw [← hc]
  unfold World.cell?
  rw [h.block _ hlt hn]
theorem Keep.wider {W0 W : World} {S T : Nat → Prop} (h : Keep W0 W S) (hST : ∀ k, S k → T k) : Keep W0 W T := ⟨h.os, h.tape, h.output, h.size, fun k hk hn => h.block k hk (fun e => hn (hST k e))⟩
theorem Keep.below {W0 W w : World} {S : Nat → Prop} (h : Keep W0 W S) (hb : Below w.heap.size w W0) (hS : ∀ k, S k → w.heap.size ≤ k) : Below w.heap.size w W := below_keep hb hb.size h hS
/-- Pairs that are read from an address on. -/
def RdP (w : World) (A : Option Addr) (xs : Prs) : Prop := ∀ i x, xs[i]? = some x → ∃ g o, A = some ⟨g, o, none⟩ ∧ w.cell? ⟨g, o + i * 2, none⟩ = some (.int .i64 x.1) ∧ w.cell? ⟨g, o + i * 2 + 1, none⟩ = some (.string x.2)
theorem RdP.below {w w' : World} {A : Option Addr} {xs : Prs} (h : RdP w A xs) (hb : Below w.heap.size w w') : RdP w' A xs := fun i x hx => by
  obtain ⟨g, o, e, h1, h2⟩ := h i x hx
  exact ⟨g, o, e, (hb.cell (World.block_lt_of_cell? _ _ h1)).trans h1, (hb.cell (World.block_lt_of_cell? _ _ h2)).trans h2⟩
theorem rows_keep {W W' : World} {base : Nat} {v : Value} {xs : Prs} {S : Nat → Prop} (h : Rows W base v xs) (k : Keep W W' S) (hv : ∀ j, v.ownBlock = some j → ¬ S j) : Rows W' base v xs := by
  refine ⟨h.1, h.2.imp id ?_⟩
  rintro ⟨g, cap, cur, rfl, hg, hb2, rest⟩
  exact ⟨g, cap, cur, rfl, hg, (k.block g (Array.getElem?_eq_some_iff.1 hb2).1 (hv g rfl)).trans hb2, rest⟩
theorem run_func_nil (w : World) (f : Fn) (cs lb : Array Value) : (binOp .eql 45 (.func f cs lb) .nilFunc).run Try.prog w = .ok (.bool false) w := by
  have h : ∀ d, (Op.equalIn (d + 1) 45 (.func f cs lb) .nilFunc).run Try.prog w = .ok false w := fun d => by
    simp [Op.equalIn, run_underlying Try.underlying45]
  simp only [binOp]
  simp [Op.equal, Op.maxDepth, h 9999]
set_option maxHeartbeats 4000000 in
set_option maxRecDepth 100000 in
theorem over_fn (n0 a : Nat) (va : Value) (A : Option Addr) (c : Nat) (xs : Prs) (most : Int) (w : World) (hT : IsTab w n0 a va xs) (hP : RdP w A xs) (hl : xs.length ≤ 1099511627776) :
    Calls Try.prog 12 #[.pointer (some ⟨a, 0, none⟩), .slice A xs.length c, .int .i64 most] w fun e w' => e = .returned (.bool true) ∧ Below w.heap.size w w' := by
  refine (callsIn_wide (n := 9)).1 ?_
  refine callsIn_of_wp_marks Try.func12 rfl trivial ?_ rfl
  simp only [Try.ntmps12, List.size_toArray, List.length_cons, List.length_nil, Nat.reduceAdd, Nat.reduceSub, Array.replicate_succ, Array.replicate_zero, List.push_toArray, List.append_toArray, List.nil_append, List.cons_append]
  obtain ⟨W0, hW0⟩ : ∃ W0, ((w.alloc (.cells #[.slice A xs.length c] 29)).alloc (.cells #[.int .i64 most] 3)).alloc (.cells #[.bool false] 4) = W0 := ⟨_, rfl⟩
  have hb0 : Below w.heap.size w W0 := hW0 ▸ (((Below.refl _ w).alloc (Nat.le_refl _) _).alloc (by simp) _).alloc (by simp; omega) _
  have hs0 : W0.heap.size = w.heap.size + 3 := by rw [← hW0]; simp
  have hB4 : W0.heap[w.heap.size]? = some (.cells #[.slice A xs.length c] 29 (0, 0)) := by
    rw [← hW0]; exact ((Below.heap_alloc _ _ _ (by simp; omega)).trans (Below.heap_alloc _ _ _ (by simp))).trans (World.alloc_heap_new w _)
  have hB5 : W0.heap[w.heap.size + 1]? = some (.cells #[.int .i64 most] 3 (0, 0)) := by
    rw [← hW0]; refine (Below.heap_alloc _ _ _ (by simp)).trans ?_
    have := World.alloc_heap_new (w.alloc (.cells #[.slice A xs.length c] 29)) (.cells #[.int .i64 most] 3); rwa [World.size_alloc] at this
  have hB6 : W0.heap[w.heap.size + 1 + 1]? = some (.cells #[.bool false] 4 (0, 0)) := by
    rw [← hW0]; have := World.alloc_heap_new ((w.alloc (.cells #[.slice A xs.length c] 29)).alloc (.cells #[.int .i64 most] 3)) (.cells #[.bool false] 4); rwa [World.size_alloc, World.size_alloc] at this
  have hq := run_func_nil
  have hf1 : Fence.wide.fn 22 := trivial
  have hall := all_calls n0 a va xs W0 (hT.below hb0) hl
  gi_wp2_with fail
  refine CallsIn.mono (callsIn_wide.2 hall) ?_
  rintro e w1 ⟨B, v2, rfl, hBge, hB, hR2, hb2⟩
  have hb01 : Below w.heap.size w w1 := below_trans hb0 hb2
  have hs1 := hb2.size
  gi_wp2_with fail
  obtain ⟨W2, hW2⟩ : ∃ W2, w1.alloc (.cells #[.int .i64 0] 3) = W2 := ⟨_, rfl⟩
  have hb02 : Below w.heap.size w W2 := hW2 ▸ hb01.alloc hb01.size _
  have hs2 : W2.heap.size = w1.heap.size + 1 := by rw [← hW2]; simp
  have hold : ∀ k, k < w1.heap.size → W2.heap[k]? = w1.heap[k]? := fun k hk => hW2 ▸ Below.heap_alloc w1 _ k hk
  have hBlt : B < w1.heap.size := (Array.getElem?_eq_some_iff.1 hB).1
  have hB' : W2.heap[B]? = some (.cells #[v2] 81 (0, 0)) := (hold B hBlt).trans hB
  have hR' : Rows W2 W0.heap.size v2 xs := hW2 ▸ hR2.alloc _
  have hv2 : ∀ j, v2.ownBlock = some j → W0.heap.size ≤ j ∧ j < w1.heap.size := fun j hj => hR2.lt j hj
  have e4 : W2.heap[w.heap.size]? = some (.cells #[.slice A xs.length c] 29 (0, 0)) := (hold _ (by omega)).trans ((hb2.block _ (by omega)).trans hB4)
  have e5 : W2.heap[w.heap.size + 1]? = some (.cells #[.int .i64 most] 3 (0, 0)) := (hold _ (by omega)).trans ((hb2.block _ (by omega)).trans hB5)
  have e6 : W2.heap[w.heap.size + 1 + 1]? = some (.cells #[.bool false] 4 (0, 0)) := (hold _ (by omega)).trans ((hb2.block _ (by omega)).trans hB6)
  have en : Boxed W2 w1.heap.size 3 (.int .i64 0) := hW2 ▸ Boxed.new w1 _ _
  have hP2 := hP.below hb02
  rw [hW2]
  refine rangeL (n := 9) (F := Fence.wide) rfl (by decide) (gf := 63) (lb := #[.pointer (some ⟨B, 0, none⟩)]) rfl trivial (enters_of Try.func63 (by kernel_rfl) rfl)
    (encs := encs) (S := fun ys => ys = xs) (Sp := fun _ => True) (G := Next xs) (by intro x; rfl)
    (fun pre W => Keep W2 W (fun k => k = w1.heap.size) ∧ Boxed W w1.heap.size 3 (.int .i64 (pre.length : Int)))
    (fun cd pre W => cd = .ret ∧ Keep W2 W (fun k => k = w1.heap.size ∨ k = w.heap.size + 1 + 1) ∧ Boxed W (w.heap.size + 1 + 1) 4 (.bool true))
    ((keep_own (fun _ k => k = w1.heap.size) (Nat.le_refl _)).and ((boxed_own (β := List (Int × ByteArray)) w1.heap.size 3 (fun pre => .int .i64 (pre.length : Int))).from _))
    (fun cd => (ownFrom_pure _ (fun _ => cd = .ret)).and ((keep_own (fun _ k => k = w1.heap.size ∨ k = w.heap.size + 1 + 1) (Nat.le_refl _)).and ((boxed_own _ _ (fun _ => .bool true)).from _)))
    ⟨Keep.refl _ _, en⟩ ?a1 ?iter ?assign ?body ?done ?stop
  case assign =>
    intro l x W K hK
    gi_wp2
    exact hK
  case iter =>
    intro l J Jx W hJI hJk hY h0 hW hbW
    exact over_leaves 8 l _ B W0.heap.size v2 xs _ J Jx (by decide) hl (fun s A h => ⟨(h.1.block B (by omega) (by omega)).trans hB', rows_keep hR' h.1 (fun j hj => by have := hv2 j hj; omega)⟩) (fun s A o h => ⟨h.1.alloc o, h.2.alloc o⟩) hJI hJk hY W h0
  case body =>
    rintro l pre x W ⟨hK, hN⟩ ⟨hx, hpre⟩
    clear hpre
    have hcn := hN.cell
    have hfn := hN.frozen
    have hlt := (List.getElem?_eq_some_iff.1 hx).1
    have h4 : Boxed W w.heap.size 29 (.slice A xs.length c) := (hK.block _ (by omega) (by omega)).trans e4
    have h5 : Boxed W (w.heap.size + 1) 3 (.int .i64 most) := (hK.block _ (by omega) (by omega)).trans e5
    have h6 : Boxed W (w.heap.size + 1 + 1) 4 (.bool false) := (hK.block _ (by omega) (by omega)).trans e6
    have hc4 := h4.cell
    have hc5 := h5.cell
    have hc6 := h6.cell
    have hf6 := h6.frozen
    have hbW := hK.below hb02 (fun k hk => by omega)
    obtain ⟨g, o, rfl, hp0, hp1⟩ := hP.below hbW _ _ hx
    have d0 : (0 : Int) ≤ (pre.length : Int) := by omega
    have d1 : (pre.length : Int) < (xs.length : Int) := by omega
    have dw : IntKind.i64.wrap ((pre.length : Int) + 1) = (pre.length : Int) + 1 := by rw [IntKind.wrap_i64]; omega
    have hne : w.heap.size + 1 + 1 ≠ w1.heap.size := by omega
    by_cases hm : (pre.length : Int) + 1 = most
    · gi_wp2
      exact ⟨((KeepsOthers.setCell _ _ _).trans (KeepsOthers.setCell _ _ _)).from _, rfl, ((hK.wider (fun k hk => .inl hk)).set _ _ (fun _ => .inl rfl)).set _ _ (fun _ => .inr rfl), (h6.other hne _).set _⟩
    · gi_wp2
      refine ⟨(KeepsOthers.setCell _ _ _).from _, hK.set _ _ (fun _ => rfl), ?_⟩
      rw [List.length_append, List.length_singleton, Int.natCast_add]
      exact hN.set _
  case done =>
    rintro D ys W hD hS ⟨hK, hN⟩ hDD
    subst hS
    have hcn := hN.cell
    have h4 : Boxed W w.heap.size 29 (.slice A ys.length c) := (hK.block _ (by omega) (by omega)).trans e4
    have h6 : Boxed W (w.heap.size + 1 + 1) 4 (.bool false) := (hK.block _ (by omega) (by omega)).trans e6
    have hc4 := h4.cell
    have hc6 := h6.cell
    have hf6 := h6.frozen
    have hbW := hK.below hb02 (fun k hk => by omega)
    gi_wp2
    have hDD' := (KeepsOthers.setCell W ⟨w.heap.size + 1 + 1, 0, none⟩ (.bool true)).same D _ hDD rfl
    refine ⟨by simp, .inl ⟨_, _, rfl, run_takeDeferred hDD', ?_⟩⟩
    have hc5 := cell_kept (h6.set (.bool true)).cell (grownBy_putObj' _ D (.deferred none)) (fun r e => by cases e; exact ⟨_, hDD', rfl⟩)
    refine ⟨.bool true, ?_, rfl, ?_⟩
    · simp [results, Try.f12, go_sem, hc5]
    · exact (hbW.setCell (p := ⟨w.heap.size + 1 + 1, 0, none⟩) (by simp; omega) _).trans (belowK_b (w := w) (Nat.le_refl _) _ D _ _ (by omega) hDD' rfl rfl)
  case stop =>
    rintro D cd pre W hD _ ⟨rfl, hK, hN⟩ hDD
    have hbW := hK.below hb02 (fun k hk => by omega)
    gi_wp2
    refine ⟨by simp, .inl ⟨_, _, rfl, run_takeDeferred hDD, ?_⟩⟩
    have hc5 := cell_kept hN.cell (grownBy_putObj' _ D (.deferred none)) (fun r e => by cases e; exact ⟨_, hDD, rfl⟩)
    refine ⟨.bool true, ?_, rfl, ?_⟩
    · simp [results, Try.f12, go_sem, hc5]
    · exact hbW.trans (belowK_b (w := w) (Nat.le_refl _) _ D _ _ (by omega) hDD rfl rfl)
end Go.Proofs.Ytbpaejbecgaepaa.TabIS
