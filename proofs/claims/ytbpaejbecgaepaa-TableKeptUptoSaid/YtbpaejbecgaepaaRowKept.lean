/- TableKept: its walk, as its row asks for it. -/
import Derived.Test.YtbpaejbecgaepaaMergeF
import Derived.Test.YtbpaejbecgaepaaSmallT
import Derived.Test.YtbpaejbecgaepaaRowK
import Derived.Test.YtbpaejbecgaepaaQuietR
namespace Go.Proofs.Ytbpaejbecgaepaa.TabIS
open Go Go.RowKit Go.Proofs Go.Proofs.Ytbpaejbecgaepaa.Hand Go.Shelf Go.BigFrame
set_option linter.unusedVariables false
set_option linter.unusedSimpArgs false
attribute [local go_sem] Oper.semAt_some

def NormalOnly (Q : Exit → Act → World → Prop) : Exit → Act → World → Prop
  | .normal, a, w => Q .normal a w
  | _, _, _ => False
theorem wpIn_normalOnly {F : Fence} {n : Nat} {P : Program} {c : Code} {Q : Exit → Act → World → Prop} {a : Act} {w : World} (h : c.wpIn F n P (NormalOnly Q) a w) : c.wpIn F n P Q a w :=
  wpIn_mono h (fun e _ _ hq => by cases e <;> first | exact hq | exact hq.elim)
set_option maxHeartbeats 8000000 in
set_option maxRecDepth 100000 in
theorem table_kept (A : Option Addr) (c : Nat) (l : List Int) (w : World) (hl : l.length ≤ 1048576) (hr : ∀ i x, l[i]? = some x → ∃ ad, A = some ad ∧ w.cell? (ad.add i) = some (.int .i64 x)) :
    Calls Try.prog 6 #[.slice A l.length c] w fun e w' => e = .returned (.bool true) ∧ Below w.heap.size w w' := by
  refine (callsIn_wide (n := 9)).1 ?_
  refine callsIn_of_wp_marks Try.func6 rfl trivial ?_ rfl
  simp only [Try.ntmps6, List.size_toArray, List.length_cons, List.length_nil, Nat.reduceAdd, Nat.reduceSub, Array.replicate_succ, Array.replicate_zero, List.push_toArray, List.append_toArray, List.nil_append, List.cons_append]
  have hq := run_func_nil
  have mixed : Try.prog.follows Departure.mixedOrders = true := by kernel_rfl
  have f1 : Fence.wide.fn 24 := trivial
  have f2 : Fence.wide.fn 22 := trivial
  have f3 : Fence.wide.fn 23 := trivial
  have f4 : Fence.wide.fn 10 := trivial
  have f5 : Fence.wide.fn 11 := trivial
  have hb0 : Below w.heap.size w (w.alloc (.cells #[.bool false] 4)) := (Below.refl _ w).alloc (Nat.le_refl _) _
  have hfill := filled_calls A c l ⟨#[118]⟩ (w.alloc (.cells #[.bool false] 4)) hl (fun i x hx => by
    obtain ⟨ad, e, h⟩ := hr i x hx
    exact ⟨ad, e, (hb0.cell (World.block_lt_of_cell? w _ h)).trans h⟩)
  gi_wp2_with fail
  refine CallsIn.mono (callsIn_wide.2 hfill) ?_
  rintro e w1 ⟨a, va, b, vb, xs, rfl, hD1, hB1, hsrt, hlx⟩
  rw [World.size_alloc] at hD1 hB1
  have hs1 : w.heap.size + 1 ≤ w1.heap.size := by have := hB1.size; rw [World.size_alloc] at this; exact this
  have hbw1 : Below w.heap.size w w1 := hb0.trans ⟨hB1.os, hB1.tape, hB1.output, hB1.size, fun q hq => hB1.block q (by omega)⟩
  have bR : Boxed w1 w.heap.size 4 (.bool false) := (hB1.block _ (by omega)).trans (Boxed.new w _ _)
  gi_wp2_with fail
  refine CallsIn.mono (callsIn_wide.2 (TabSI.small_calls _)) ?_
  rintro e w2 ⟨rfl, hb2'⟩
  obtain ⟨Wb, hWb⟩ : ∃ Wb, (w1.alloc (.cells #[.pointer (some ⟨a, 0, none⟩)] 23)).alloc (.cells #[.pointer (some ⟨b, 0, none⟩)] 24) = Wb := ⟨_, rfl⟩
  rw [hWb] at hb2'
  have hsb : Wb.heap.size = w1.heap.size + 2 := by rw [← hWb]; simp
  have hb1b : Below w1.heap.size w1 Wb := hWb ▸ ((Below.refl _ w1).alloc (Nat.le_refl _) _).alloc (by simp) _
  have bT : Boxed Wb w1.heap.size 23 (.pointer (some ⟨a, 0, none⟩)) := by
    rw [← hWb]; exact (Below.heap_alloc _ _ _ (by simp)).trans (World.alloc_heap_new w1 _)
  have bW : Boxed Wb (w1.heap.size + 1) 24 (.pointer (some ⟨b, 0, none⟩)) := by
    rw [← hWb]; have := World.alloc_heap_new (w1.alloc (.cells #[.pointer (some ⟨a, 0, none⟩)] 23)) (.cells #[.pointer (some ⟨b, 0, none⟩)] 24); rwa [World.size_alloc] at this
  have bT2 : Boxed w2 w1.heap.size 23 (.pointer (some ⟨a, 0, none⟩)) := (hb2'.block _ (by omega)).trans bT
  have bW2 : Boxed w2 (w1.heap.size + 1) 24 (.pointer (some ⟨b, 0, none⟩)) := (hb2'.block _ (by omega)).trans bW
  have hb12 : Below w1.heap.size w1 w2 := hb1b.trans (hb2'.mono hb1b.size)
  have hD2 := hD1.kept hb12
  have bR2 : Boxed w2 w.heap.size 4 (.bool false) := (hb12.block _ (by omega)).trans bR
  have hct2 := bT2.cell
  have hs12 : w1.heap.size + 2 ≤ w2.heap.size := by have := hb2'.size; omega
  gi_wp2_with fail
  refine CallsIn.mono (callsIn_wide.2 (all_calls (w.heap.size + 1) a va xs w2 hD2.ta (by omega))) ?_
  rintro e w3 ⟨B, v2, rfl, hBge, hB, hR3, hb3⟩
  have hs23 := hb3.size
  gi_wp2_with fail
  obtain ⟨W2, hW2⟩ : ∃ W2, w3.alloc (.cells #[.int .i64 0] 3) = W2 := ⟨_, rfl⟩
  have hb23 : Below w2.heap.size w2 W2 := hW2 ▸ hb3.alloc hb3.size _
  have hsW2 : W2.heap.size = w3.heap.size + 1 := by rw [← hW2]; simp
  have hbW2 : Below w.heap.size w W2 := (hbw1.trans (hb12.mono hbw1.size)).trans (hb23.mono (by omega))
  have hD := hD2.kept hb23
  have hBlt : B < w3.heap.size := (Array.getElem?_eq_some_iff.1 hB).1
  have hB' : W2.heap[B]? = some (.cells #[v2] 81 (0, 0)) := (hW2 ▸ Below.heap_alloc w3 _ B hBlt).trans hB
  have hR' : Rows W2 w2.heap.size v2 xs := hW2 ▸ hR3.alloc _
  have hv2 : ∀ j, v2.ownBlock = some j → w2.heap.size ≤ j ∧ j < w3.heap.size := fun j hj => hR3.lt j hj
  have cT : Boxed W2 w1.heap.size 23 (.pointer (some ⟨a, 0, none⟩)) := (hb23.block _ (by omega)).trans bT2
  have cW : Boxed W2 (w1.heap.size + 1) 24 (.pointer (some ⟨b, 0, none⟩)) := (hb23.block _ (by omega)).trans bW2
  have cR : Boxed W2 w.heap.size 4 (.bool false) := (hb23.block _ (by omega)).trans bR2
  have cn : Boxed W2 w3.heap.size 3 (.int .i64 0) := hW2 ▸ Boxed.new w3 _ _
  have hoa : ∀ j, Own a va j → w.heap.size + 1 ≤ j ∧ j < w1.heap.size := fun j hj => ⟨hD1.own_a j hj, own_lt_tab hD1.ta j hj⟩
  have hob : ∀ j, Own b vb j → w.heap.size + 1 ≤ j ∧ j < w1.heap.size := fun j hj => ⟨hD1.own_b j hj, own_lt_ref hD1.tb j hj⟩
  obtain ⟨Aw, cw, rfl⟩ := own_slice hD.tb.rows
  rw [hW2]
  refine rangeL (n := 9) (F := Fence.wide) rfl (by decide) (gf := 63) (lb := #[.pointer (some ⟨B, 0, none⟩)]) rfl trivial (enters_of Try.func63 (by kernel_rfl) rfl)
    (encs := encs) (S := fun ys => ys = xs) (Sp := fun _ => True) (G := Next xs) (by intro x; rfl)
    (fun pre W => Keep W2 W (fun k => k = w3.heap.size ∨ Own a va k) ∧ Boxed W w3.heap.size 3 (.int .i64 (pre.length : Int)) ∧ ∃ (v : Value) (zs : Prs), IsTab W (w.heap.size + 1) a v zs ∧ Srt zs ∧ zs.length ≤ xs.length + pre.length ∧ ∀ g, v.ownBlock = some g → va.ownBlock = some g ∨ W2.heap.size ≤ g)
    (fun _ _ _ => False) ?hI (fun _ => ownFrom_pure _ (fun _ => False)) ⟨Keep.refl _ _, cn, va, xs, hD.ta, hsrt, by simp, fun g h => .inl h⟩ ?a1 ?iter ?assign ?body ?done ?stop
  case hI =>
    refine (keep_own (fun _ k => k = w3.heap.size ∨ Own a va k) (Nat.le_refl _)).and (((boxed_own (β := List (Int × ByteArray)) w3.heap.size 3 (fun pre => .int .i64 (pre.length : Int))).from _).and ?_)
    rintro s A C row ⟨v, zs, hT, h1, h2, h3⟩ hg hr
    obtain ⟨v', hT', e⟩ := tab_own (β := Unit) _ (w.heap.size + 1) a (fun _ => zs) (fun u => u = v) () A C row ⟨v, hT, rfl⟩ hg hr
    subst e
    exact ⟨v', zs, hT', h1, h2, h3⟩
  case assign =>
    intro l x W K hK
    gi_wp2
    exact hK
  case iter =>
    intro l J Jx W hJI hJk hY h0 hW hbW
    refine over_leaves 8 l _ B w2.heap.size v2 xs _ J Jx (by decide) (by omega) (fun s A h => ⟨(h.1.block B (by omega) ?g1).trans hB', rows_keep hR' h.1 (fun j hj => ?g2)⟩) (fun s A o h => ⟨h.1.alloc o, h.2.1.alloc o, ?g3⟩) hJI hJk hY W h0
    case g1 =>
      rintro (e | e)
      · omega
      · have := (hoa _ e).2; omega
    case g2 =>
      have := hv2 j hj
      rintro (e | e)
      · omega
      · have := (hoa _ e).2; omega
    case g3 =>
      obtain ⟨v, zs, hT, h1, h2, h3⟩ := h.2.2
      exact ⟨v, zs, hT.below ((Below.refl _ A).alloc (Nat.le_refl _) _), h1, h2, h3⟩
  case body =>
    rintro l pre x W ⟨hK, hN, v, zs, hT, hzs, hzl, hv⟩ ⟨hx, hpre⟩
    clear hpre
    have hlt := (List.getElem?_eq_some_iff.1 hx).1
    have hcn := hN.cell
    have hfn := hN.frozen
    have dT : Boxed W w1.heap.size 23 (.pointer (some ⟨a, 0, none⟩)) := (hK.block _ (by omega) (by rintro (e | e); omega; have := (hoa _ e).2; omega)).trans cT
    have dW : Boxed W (w1.heap.size + 1) 24 (.pointer (some ⟨b, 0, none⟩)) := (hK.block _ (by omega) (by rintro (e | e); omega; have := (hoa _ e).2; omega)).trans cW
    have hU : IsRef W (w.heap.size + 1) b (.slice Aw xs.length cw) xs := hD.tb.kept hK (by rintro (e | e); have := (hob b (.inl rfl)).2; omega; exact hD.apart _ e (.inl rfl)) (fun j hj => by rintro (e | e); have := (hob j (.inr hj)).2; omega; exact hD.apart _ e (.inr hj))
    have hcT := dT.cell
    have hcW := dW.cell
    have hcb := cell_of_row W b 0 _ _ _ hU.blk
    obtain ⟨g, cap, e, _, _⟩ := own_form hU.rows (by omega)
    cases e
    obtain ⟨hp0, hp1⟩ := rrows_cell hU.rows hx
    have d0 : (0 : Int) ≤ (pre.length : Int) := by omega
    have d1 : (pre.length : Int) < (xs.length : Int) := by omega
    have dw : IntKind.i64.wrap ((pre.length : Int) + 1) = (pre.length : Int) + 1 := by rw [IntKind.wrap_i64]; omega
    have q1 : ¬ (xs.length ≤ pre.length) := by omega
    have q2 : decide (xs.length ≤ pre.length) = false := decide_eq_false q1
    have q3 : decide ((pre.length : Int) ≥ (xs.length : Int)) = false := decide_eq_false (by omega)
    gi_wp2_with fail
    refine region_quiet_round l rfl (by kernel_rfl) (by kernel_rfl) (by kernel_rfl) ?_
    repeat (gi_big_quiet_step (fail))
    refine wpQuietIn_nil ?_
    rintro _ ⟨nq, rfl⟩
    gi_wp2_with fail
    obtain ⟨W4, hW4⟩ : ∃ W4, (W.drewN nq).setCell ⟨w3.heap.size, 0, none⟩ (.int .i64 ((pre.length : Int) + 1)) = W4 := ⟨_, rfl⟩
    have hK4 : Keep W W4 (fun k => k = w3.heap.size) := hW4 ▸ (⟨rfl, rfl, rfl, Nat.le_refl _, fun _ _ _ => rfl⟩ : Keep W (W.drewN nq) (fun k => k = w3.heap.size)).set _ _ (fun _ => rfl)
    have hO4 : KeepsOthers W W4 := hW4 ▸ (⟨Nat.le_refl _, fun _ _ h _ => h⟩ : KeepsOthers W (W.drewN nq)).trans (KeepsOthers.setCell _ _ _)
    have hN4 : Boxed W4 w3.heap.size 3 (.int .i64 ((pre.length : Int) + 1)) := hW4 ▸ (show Boxed (W.drewN nq) w3.heap.size 3 (.int .i64 (pre.length : Int)) from hN).set _
    have hsz := hK.size
    have hvne : ∀ j, v.ownBlock = some j → j < w1.heap.size ∨ W2.heap.size ≤ j := fun j hj => (hv j hj).imp (fun e => (hoa j (.inr e)).2) id
    have ha1 := (hoa a (.inl rfl)).2
    have hT4 : IsTab W4 (w.heap.size + 1) a v zs := hT.kept hK4 (by omega) (fun j hj => by have := hvne j hj; omega)
    have dT4 : Boxed W4 w1.heap.size 23 (.pointer (some ⟨a, 0, none⟩)) := (hK4.block _ (by omega) (by omega)).trans dT
    rw [hW4]
    have hs4 : w.heap.size + 1 ≤ W4.heap.size := by have := hK4.size; omega
    refine CallsIn.mono ((callsIn_wide.2 (delete_calls (w.heap.size + 1) a v zs x.1 (rk zs x.1) W4 hT4 (place_rk _ _ hzs) (by omega) hs4)).inRound l) ?_
    rintro e W5 ⟨rfl, v5, hT5, hk5, hw5⟩
    have hTn : ∀ j, j = w1.heap.size ∨ j = w3.heap.size → ¬ Own a v j := by
      rintro j hj (e | e)
      · omega
      · have := hvne j e; omega
    have dT5 : Boxed W5 w1.heap.size 23 (.pointer (some ⟨a, 0, none⟩)) := (hk5.block _ dT4.lt (hTn _ (.inl rfl))).trans dT4
    have hN5 : Boxed W5 w3.heap.size 3 (.int .i64 ((pre.length : Int) + 1)) := (hk5.block _ hN4.lt (hTn _ (.inr rfl))).trans hN4
    have hcT5 := dT5.cell
    have hv5 : ∀ g, v5.ownBlock = some g → va.ownBlock = some g ∨ W2.heap.size ≤ g := fun g h => by
      rcases hw5 with hw5 | ⟨g', hw5, hg'⟩
      · exact hv g (hw5 ▸ h)
      · rw [hw5] at h
        obtain rfl := Option.some.inj h
        exact .inr (by have := hK4.size; omega)
    have hs5 := delL_srt hzs x.1 (rk zs x.1)
    have hl5 := delL_len zs x.1 (rk zs x.1)
    obtain ⟨z5, hz5⟩ : ∃ z5, delL zs x.1 (rk zs x.1) = z5 := ⟨_, rfl⟩
    rw [hz5] at hs5 hl5 hT5
    obtain ⟨kk, hkk⟩ : ∃ kk, IntKind.i64.wrap (x.1 + 1) = kk := ⟨_, rfl⟩
    have hsz5 := hk5.size
    have hl6 : z5.length ≤ 1099511627776 := by omega
    have hs6 : w.heap.size + 1 ≤ W5.heap.size := by omega
    have hput := put_calls (w.heap.size + 1) a v5 z5 kk ⟨#[110, 101, 119]⟩ (rk z5 kk) W5 hT5 (place_rk z5 kk hs5) hl6 hs6
    gi_wp2_with fail
    refine CallsIn.mono ((callsIn_wide.2 hput).inRound l) ?_
    rintro e W6 ⟨rfl, v6, hT6, hk6, hw6⟩
    have hvne5 : ∀ j, v5.ownBlock = some j → j < w1.heap.size ∨ W2.heap.size ≤ j := fun j hj => (hv5 j hj).imp (fun e => (hoa j (.inr e)).2) id
    have hN6 : Boxed W6 w3.heap.size 3 (.int .i64 ((pre.length : Int) + 1)) := (hk6.block _ hN5.lt (by
      rintro (e | e)
      · omega
      · have := hvne5 _ e; omega)).trans hN5
    gi_wp2
    refine ⟨((hO4.trans (keep_others hk5 (tab_cells hT4))).trans (keep_others hk6 (tab_cells hT5))).from _, ?_, ?_, v6, _, hT6, putL_srt hs5 kk _, ?_, ?_⟩
    · refine ((hK.trans hK4 (fun j _ h => .inl h)).trans hk5 (fun j hj h => ?_)).trans hk6 (fun j hj h => ?_)
      · rcases h with rfl | h
        · exact .inr (.inl rfl)
        · rcases hv j h with h | h
          · exact .inr (.inr h)
          · omega
      · rcases h with rfl | h
        · exact .inr (.inl rfl)
        · rcases hv5 j h with h | h
          · exact .inr (.inr h)
          · omega
    · rw [List.length_append, List.length_singleton, Int.natCast_add]
      exact hN6
    · have := putL_len z5 kk ⟨#[110, 101, 119]⟩
      rw [List.length_append, List.length_singleton]
      omega
    · intro g h
      rcases hw6 with hw6 | ⟨g', hw6, hg'⟩
      · exact hv5 g (hw6 ▸ h)
      · rw [hw6] at h
        obtain rfl := Option.some.inj h
        exact .inr (by have := hK4.size; omega)
  case done =>
    rintro D ys W hD hS ⟨hK, hN, -⟩ hDD
    subst hS
    have hbW := hK.below hbW2 (fun k hk => by
      rcases hk with hk | hk
      · omega
      · have := (hoa k hk).1; omega)
    have hsz := hK.size
    have hSk : ∀ k, (k = w.heap.size ∨ k = w1.heap.size + 1 ∨ (w2.heap.size ≤ k ∧ k < w3.heap.size)) → ¬ (k = w3.heap.size ∨ Own a va k) := by
      rintro k hk (e | e)
      · omega
      · have := hoa k e; omega
    have dR : Boxed W w.heap.size 4 (.bool false) := (hK.block _ (by omega) (hSk _ (.inl rfl))).trans cR
    have dW : Boxed W (w1.heap.size + 1) 24 (.pointer (some ⟨b, 0, none⟩)) := (hK.block _ (by omega) (hSk _ (.inr (.inl rfl)))).trans cW
    have hU : IsRef W (w.heap.size + 1) b (.slice Aw ys.length cw) ys := hD.tb.kept hK (by rintro (e | e); have := (hob b (.inl rfl)).2; omega; exact hD.apart _ e (.inl rfl)) (fun j hj => by rintro (e | e); have := (hob j (.inr hj)).2; omega; exact hD.apart _ e (.inr hj))
    have hBd : W.heap[B]? = some (.cells #[v2] 81 (0, 0)) := (hK.block B (by omega) (hSk _ (.inr (.inr ⟨hBge, hBlt⟩)))).trans hB'
    have hRd : Rows W w2.heap.size v2 ys := rows_keep hR' hK (fun j hj => hSk j (.inr (.inr (hv2 j hj))))
    gi_wp2_with fail
    obtain ⟨W5, hW5⟩ : ∃ W5, W.alloc (.cells #[.int .i64 0] 3) = W5 := ⟨_, rfl⟩
    have hbW5 : Below W.heap.size W W5 := hW5 ▸ (Below.refl _ W).alloc (Nat.le_refl _) _
    have hs5 : W5.heap.size = W.heap.size + 1 := by rw [← hW5]; simp
    have en : Boxed W5 W.heap.size 3 (.int .i64 0) := hW5 ▸ Boxed.new W _ _
    have hDlt : D < W.heap.size := (Array.getElem?_eq_some_iff.1 hDD).1
    rw [hW5]
    refine rangeL (n := 9) (F := Fence.wide) rfl (by decide) (gf := 63) (lb := #[.pointer (some ⟨B, 0, none⟩)]) rfl trivial (enters_of Try.func63 (by kernel_rfl) rfl)
      (encs := encs) (S := fun zs => zs = ys) (Sp := fun _ => True) (G := Next ys) (by intro x; rfl)
      (fun pre X => Keep W5 X (fun k => k = W.heap.size) ∧ Boxed X W.heap.size 3 (.int .i64 (pre.length : Int)))
      (fun _ _ _ => False) ((keep_own (fun _ k => k = W.heap.size) (Nat.le_refl _)).and ((boxed_own (β := List (Int × ByteArray)) W.heap.size 3 (fun pre => .int .i64 (pre.length : Int))).from _)) (fun _ => ownFrom_pure _ (fun _ => False)) ⟨Keep.refl _ _, en⟩ ?a2 ?iter2 ?assign2 ?body2 ?done2 ?stop2
    case assign2 =>
      intro l x W K hK
      gi_wp2
      exact hK
    case iter2 =>
      intro l J Jx X hJI hJk hY h0 hW hbX
      exact over_leaves 8 l _ B w2.heap.size v2 ys _ J Jx (by decide) (by omega) (fun s A h => ⟨(h.1.block B (by omega) (by omega)).trans ((hbW5.block B (by omega)).trans hBd), rows_keep (own_below hRd hbW5) h.1 (fun j hj => by have := (hv2 j hj).2; omega)⟩) (fun s A o h => ⟨h.1.alloc o, h.2.alloc o⟩) hJI hJk hY X h0
    case stop2 =>
      rintro D cd pre W hD _ h hDD
      exact h.elim
    case body2 =>
      rintro l pre x X ⟨hKx, hNx⟩ ⟨hx, hpre⟩
      clear hpre
      have hlt := (List.getElem?_eq_some_iff.1 hx).1
      have hcn := hNx.cell
      have hfn := hNx.frozen
      have fW : Boxed X (w1.heap.size + 1) 24 (.pointer (some ⟨b, 0, none⟩)) := (hKx.block _ (by omega) (by omega)).trans ((hbW5.block _ (by omega)).trans dW)
      have hUx : IsRef X (w.heap.size + 1) b (.slice Aw ys.length cw) ys := (hU.below hbW5).kept hKx (by have := (hob b (.inl rfl)).2; omega) (fun j hj => by have := (hob j (.inr hj)).2; omega)
      have hcW := fW.cell
      have hcb := cell_of_row X b 0 _ _ _ hUx.blk
      obtain ⟨g, cap, e, _, _⟩ := own_form hUx.rows (by omega)
      cases e
      obtain ⟨hp0, hp1⟩ := rrows_cell hUx.rows hx
      have d0 : (0 : Int) ≤ (pre.length : Int) := by omega
      have d1 : (pre.length : Int) < (ys.length : Int) := by omega
      have dw : IntKind.i64.wrap ((pre.length : Int) + 1) = (pre.length : Int) + 1 := by rw [IntKind.wrap_i64]; omega
      have q1 : ¬ (ys.length ≤ pre.length) := by omega
      have q2 : decide (ys.length ≤ pre.length) = false := decide_eq_false q1
      have q3 : decide ((pre.length : Int) ≥ (ys.length : Int)) = false := decide_eq_false (by omega)
      gi_wp2_with fail
      refine region_quiet_round l rfl (by kernel_rfl) (by kernel_rfl) (by kernel_rfl) ?_
      repeat (gi_big_quiet_step (fail))
      refine wpQuietIn_nil ?_
      rintro _ ⟨nq, rfl⟩
      gi_wp2
      refine ⟨((⟨Nat.le_refl _, fun _ _ h _ => h⟩ : KeepsOthers X (X.drewN nq)).trans (KeepsOthers.setCell _ _ _)).from _, (hKx.trans (⟨rfl, rfl, rfl, Nat.le_refl _, fun _ _ _ => rfl⟩ : Keep X (X.drewN nq) (fun k => k = W.heap.size)) (fun _ _ h => h)).set _ _ (fun _ => rfl), ?_⟩
      rw [List.length_append, List.length_singleton, Int.natCast_add]
      exact (show Boxed (X.drewN nq) W.heap.size 3 (.int .i64 (pre.length : Int)) from hNx).set _
    case done2 =>
      rintro D2 zs X hD2 hS ⟨hKx, hNx⟩ hDD2
      subst hS
      have fW : Boxed X (w1.heap.size + 1) 24 (.pointer (some ⟨b, 0, none⟩)) := (hKx.block _ (by omega) (by omega)).trans ((hbW5.block _ (by omega)).trans dW)
      have fR : Boxed X w.heap.size 4 (.bool false) := (hKx.block _ (by omega) (by omega)).trans ((hbW5.block _ (by omega)).trans dR)
      have fn : Boxed X w3.heap.size 3 (.int .i64 (zs.length : Int)) := (hKx.block _ (by omega) (by omega)).trans ((hbW5.block _ (by omega)).trans hN)
      have hUx : IsRef X (w.heap.size + 1) b (.slice Aw zs.length cw) zs := (hU.below hbW5).kept hKx (by have := (hob b (.inl rfl)).2; omega) (fun j hj => by have := (hob j (.inr hj)).2; omega)
      have hcW := fW.cell
      have hcR := fR.cell
      have hfR := fR.frozen
      have hcn := fn.cell
      have hcm := hNx.cell
      have hcb := cell_of_row X b 0 _ _ _ hUx.blk
      gi_wp2_with fail
      refine wpIn_normalOnly ?_
      gi_region_with (fail)
      all_goals simp only [NormalOnly]
      all_goals gi_wp2
      all_goals (
        have hend : (X.setCell ⟨w.heap.size, 0, none⟩ (.bool true)).drew.heap = (X.setCell ⟨w.heap.size, 0, none⟩ (.bool true)).heap := rfl
        have hKO := KeepsOthers.setCell X ⟨w.heap.size, 0, none⟩ (.bool true)
        have hDX : X.heap[D]? = some (.deferred (some [])) := (hKx.block D (by omega) (by omega)).trans ((hbW5.block D hDlt).trans hDD)
        have h2 : (X.setCell ⟨w.heap.size, 0, none⟩ (.bool true)).drew.heap[D2]? = some (.deferred (some [])) := hKO.same D2 _ hDD2 rfl
        have h1 : ((X.setCell ⟨w.heap.size, 0, none⟩ (.bool true)).drew.putObj D2 (.deferred none)).heap[D]? = some (.deferred (some [])) := (World.putObj_heap_other (by omega)).trans (hKO.same D _ hDX rfl)
        have hc5 := cell_kept (show (X.setCell ⟨w.heap.size, 0, none⟩ (.bool true)).drew.cell? ⟨w.heap.size, 0, none⟩ = some (.bool true) from (fR.set (.bool true)).cell) (grownBy_putObj' _ D2 (.deferred none)) (fun r e => by cases e; exact ⟨_, h2, rfl⟩)
        have hc6 := cell_kept hc5 (grownBy_putObj' _ D (.deferred none)) (fun r e => by cases e; exact ⟨_, h1, rfl⟩)
        refine ⟨by simp, .inl ⟨_, _, rfl, run_takeDeferred h2, ?_⟩⟩
        refine ⟨by simp, .inl ⟨_, _, rfl, run_takeDeferred h1, ?_⟩⟩
        refine ⟨.bool true, ?_, rfl, ?_⟩
        · simp [results, Try.f6, go_sem, hc6]
        · have hbX : Below w.heap.size w X := (hbW.trans (hbW5.mono (by omega))).trans ⟨hKx.os, hKx.tape, hKx.output, hKx.size, fun k hk => hKx.block k (by omega) (by omega)⟩
          have hbY : Below w.heap.size w (X.setCell ⟨w.heap.size, 0, none⟩ (.bool true)).drew := (hbX.setCell (p := ⟨w.heap.size, 0, none⟩) (Nat.le_refl _) _).trans ⟨rfl, rfl, rfl, Nat.le_refl _, fun _ _ => rfl⟩
          exact (hbY.trans (belowK_b (w := w) (Nat.le_refl _) _ D2 _ _ (by omega) h2 rfl rfl)).trans (belowK_b (w := w) (Nat.le_refl _) _ D _ _ (by omega) h1 rfl rfl))
  case stop =>
    rintro D cd pre W hD _ h hDD
    exact h.elim
end Go.Proofs.Ytbpaejbecgaepaa.TabIS
namespace Go.Proofs.Ytbpaejbecgaepaa.Hand
open Go Go.RowKit Go.Proofs Go.Proofs.YtbpaejbecgaepaaW.PrintWords Go.Proofs.Ytbpaejbecgaepaa.Opens
set_option linter.unusedVariables false
theorem TableKept.row (A : Option Addr) (c : Nat) (l : List Int) (w : World) (hB : bkL (fun _ => 1) l ≤ 1048576) (hr : (Kd.int .i64).C w A l.length l) (hc : l.length ≤ c) :
    Calls Try.prog 6 #[.slice A l.length c] w fun e w' => e = .returned (.bool true) ∧ Below w.heap.size w w' :=
  TabIS.table_kept A c l w (by unfold bkL at hB; rw [sum_ones] at hB; omega) (ints_of hr)
end Go.Proofs.Ytbpaejbecgaepaa.Hand
