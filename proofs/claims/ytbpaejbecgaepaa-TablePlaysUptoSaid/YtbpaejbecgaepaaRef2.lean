/- The reference's table: Put, Get, Delete, Clone. -/
import Derived.Test.YtbpaejbecgaepaaRef
import Derived.Deep.RegionLaw
namespace Go.Proofs.Ytbpaejbecgaepaa.TabIS
open Go Go.RowKit Go.Proofs
set_option linter.unusedVariables false
set_option linter.unusedSimpArgs false

theorem cmp_zero (a b : Int) : (cmpK a b == 0) = decide (a = b) := by
  unfold cmpK ltK gtK
  by_cases h1 : a < b
  · simp [h1]; omega
  · by_cases h2 : b < a
    · simp [h1, h2]; omega
    · simp [h1, h2]; omega
theorem ref_put_calls (base b : Nat) (v : Value) (xs : List (Int × ByteArray)) (k : Int) (x : ByteArray) (r : Nat) (w : World) (hT : IsRef w base b v xs) (hp : Place xs k r) (hl : xs.length ≤ 1099511627776) (hbase : base ≤ w.heap.size) :
    Calls Try.prog 26 #[.pointer (some ⟨b, 0, none⟩), .int .i64 k, .string x] w fun e w' => e = .returned (.bool (hasAt xs k r)) ∧ RTurned w base b v (putL xs k x r) w' := by
  unfold putL
  cases hy : xs[r]? with
  | none =>
    have h : hasAt xs k r = false := by unfold hasAt; rw [hy]
    rw [h]
    exact ref_put_new base b v xs k x r w hT hp hl hbase h
  | some y =>
    have hh : hasAt xs k r = (cmpK y.1 k == 0) := by unfold hasAt; rw [hy]
    by_cases h0 : (cmpK y.1 k == 0) = true
    · rw [hh]
      simp only [h0, if_true]
      exact ref_put_old base b v xs k x r y w hT hp hl hbase hy (by rw [cmp_zero] at h0; simpa using h0)
    · have h0' := Bool.eq_false_iff.2 h0
      rw [hh]
      simp only [h0', Bool.false_eq_true, if_false]
      exact ref_put_new base b v xs k x r w hT hp hl hbase (hh.trans h0')
theorem ref_get_calls (base b : Nat) (v : Value) (xs : List (Int × ByteArray)) (k : Int) (r : Nat) (w : World) (hT : IsRef w base b v xs) (hp : Place xs k r) (hl : xs.length ≤ 1099511627776) :
    Calls Try.prog 28 #[.pointer (some ⟨b, 0, none⟩), .int .i64 k] w fun e w' => e = .returned (.tuple #[.string (getL xs k r).1, .bool (getL xs k r).2]) ∧ w' = w := by
  have hc := ref_rank base b v xs k r w hT hp hl
  have hcb := cell_of_row w b 0 _ _ _ hT.blk
  obtain ⟨q, hq⟩ : ∃ q, getL xs k r = q := ⟨_, rfl⟩
  rw [hq]
  unfold getL at hq
  obtain ⟨A, c, rfl⟩ := own_slice hT.rows
  cases hx : xs[r]? with
  | none =>
    rw [hx] at hq
    subst hq
    have hlr := List.getElem?_eq_none_iff.1 hx
    obtain rfl : r = xs.length := by have := hp.1; omega
    have hi2 : ¬ ((xs.length : Int) < (xs.length : Int)) := by omega
    go_enter Try.func28, Try.ntmps28
    go_wp2_with fail
    refine hc.mono ?_
    rintro e w' ⟨rfl, rfl⟩
    go_wp2
    go_ret2
    exact ⟨rfl, rfl⟩
  | some x =>
    rw [hx] at hq
    have hrx := (List.getElem?_eq_some_iff.1 hx).1
    obtain ⟨g, cap, hv, hg, hcap⟩ := own_form hT.rows (by omega)
    cases hv
    have hi1 : (0 : Int) ≤ (r : Int) := by omega
    have hi2 : (r : Int) < (xs.length : Int) := by omega
    obtain ⟨hc0, hc1⟩ := rrows_cell hT.rows hx
    have hq2 : q = if x.1 = k then (x.2, true) else (ByteArray.empty, false) := by
      rw [← hq]
      simp only [cmp_zero, decide_eq_true_eq]
      rfl
    clear hq
    subst hq2
    by_cases h0 : x.1 = k
    · rw [if_pos h0]
      go_enter Try.func28, Try.ntmps28
      go_wp2_with fail
      refine hc.mono ?_
      rintro e w' ⟨rfl, rfl⟩
      go_wp2
      go_ret2
      exact ⟨rfl, rfl⟩
    · rw [if_neg h0]
      go_enter Try.func28, Try.ntmps28
      go_wp2_with fail
      refine hc.mono ?_
      rintro e w' ⟨rfl, rfl⟩
      go_wp2
      go_ret2
      exact ⟨rfl, rfl⟩
/-- What Delete leaves. -/
def delL (xs : List (Int × ByteArray)) (k : Int) (r : Nat) : List (Int × ByteArray) := if hasAt xs k r then xs.take r ++ xs.drop (r + 1) else xs
set_option maxHeartbeats 4000000 in
set_option maxRecDepth 100000 in
theorem ref_delete_calls (base b : Nat) (v : Value) (xs : List (Int × ByteArray)) (k : Int) (r : Nat) (w : World) (hT : IsRef w base b v xs) (hp : Place xs k r) (hl : xs.length ≤ 1099511627776) (hbase : base ≤ w.heap.size) :
    Calls Try.prog 29 #[.pointer (some ⟨b, 0, none⟩), .int .i64 k] w fun e w' => e = .returned (.bool (hasAt xs k r)) ∧ RTurned w base b v (delL xs k r) w' := by
  have hr := ref_rank base b v xs k r w hT hp hl
  have hc := ref_get_calls base b v xs k r w hT hp hl
  have hg2 : (getL xs k r).2 = hasAt xs k r := by
    unfold getL hasAt
    cases xs[r]? with
    | none => rfl
    | some x => by_cases h : (cmpK x.1 k == 0) = true <;> simp [h]
  rw [hg2] at hc
  unfold delL
  cases hh : hasAt xs k r with
  | false =>
    rw [hh] at hc
    go_enter Try.func29, Try.ntmps29
    go_wp2_with fail
    refine hc.mono ?_
    rintro e w' ⟨rfl, rfl⟩
    go_wp2
    go_ret
    exact ⟨rfl, v, hT, Keep.of_below (Below.refl _ _) _, fun g h => .inl h⟩
  | true =>
    rw [hh] at hc
    rw [if_pos rfl]
    obtain ⟨y, hy⟩ : ∃ y, xs[r]? = some y := by
      unfold hasAt at hh
      cases hy : xs[r]? with
      | none => rw [hy] at hh; cases hh
      | some y => exact ⟨y, rfl⟩
    have hcb := cell_of_row w b 0 _ _ _ hT.blk
    have hrx := (List.getElem?_eq_some_iff.1 hy).1
    obtain ⟨g, cap, rfl, hg, hcap⟩ := own_form hT.rows (by omega)
    have hlt0 := hT.lt
    have hi1 : (0 : Int) ≤ (r : Int) := by omega
    have hi2 : (r : Int) < (xs.length : Int) := by omega
    have hwr : IntKind.i64.wrap ((r : Int) + 1) = (r : Int) + 1 := by rw [IntKind.wrap_i64]; omega
    have hb1 : (0 : Int) ≤ (r : Int) + 1 := by omega
    have hb3 : (r : Int) + 1 ≤ (xs.length : Int) := by omega
    have htn : ((r : Int) + 1).toNat = r + 1 := by omega
    by_cases hlast : r + 1 < xs.length
    · have hce : ¬ (cap = r + 1) := by omega
      go_enter Try.func29, Try.ntmps29
      go_wp2_with fail
      refine hc.mono ?_
      rintro e w' ⟨rfl, rfl⟩
      go_wp2_with fail
      refine hr.mono ?_
      rintro e w' ⟨rfl, rfl⟩
      go_wp2_with (at_builtin; first
        | (refine wpList_append_src rfl (.tmp 20) (.tmp 26) rfl w'.heap.size (.slice none 0 0) 0 [] rfl (World.ownsRow_nil _ _ _ _) _ r (cells (xs.take r)) rfl (src_take hT.rows (Nat.le_of_lt hrx)) (by omega) (Nat.le_refl _) ?_; intro v1 w1 hown1 hgrow1
           have hb1' := below_of_none hgrow1
           have hT1 := hT.below hb1'
           have hcb1 := cell_of_row w1 b 0 _ _ _ hT1.blk)
        | (refine wpList_append_src rfl (.tmp 28) (.tmp 35) rfl w'.heap.size v1 _ _ rfl hown1 _ (xs.length - (r + 1)) (cells (xs.drop (r + 1))) rfl (src_drop hT1.rows hrx (.inl rfl)) (by omega) hb1'.size ?_; intro v3 w3 hown3 hgrow3
           have hb3' : Below w'.heap.size w' w3 := hb1'.grown hgrow3 hb1'.size (fun j ej => (hown1.lt j ej).1)
           have hT3 := hT.below hb3'
           have hcb3 := cell_of_row w3 b 0 _ _ _ hT3.blk
           have hfb3 : w3.frozen? ⟨b, 0, none⟩ = false := by simp [World.frozen?, hT3.blk]
           obtain ⟨A3, c3, rfl⟩ := own_slice hown3))
      go_ret
      exact ⟨rfl, ref_put_end hT3 (Nat.le_refl _) hbase hb3' hlt0 (by rw [List.length_append, List.length_take, List.length_drop, Nat.min_eq_left (Nat.le_of_lt hrx), cells_append]; simpa [cells] using hown3)⟩
    · by_cases hce : cap = r + 1
      · subst hce
        go_enter Try.func29, Try.ntmps29
        go_wp2_with fail
        refine hc.mono ?_
        rintro e w' ⟨rfl, rfl⟩
        go_wp2_with fail
        refine hr.mono ?_
        rintro e w' ⟨rfl, rfl⟩
        go_wp2_with (at_builtin; first
          | (refine wpList_append_src rfl (.tmp 20) (.tmp 26) rfl w'.heap.size (.slice none 0 0) 0 [] rfl (World.ownsRow_nil _ _ _ _) _ r (cells (xs.take r)) rfl (src_take hT.rows (Nat.le_of_lt hrx)) (by omega) (Nat.le_refl _) ?_; intro v1 w1 hown1 hgrow1
             have hb1' := below_of_none hgrow1
             have hT1 := hT.below hb1'
             have hcb1 := cell_of_row w1 b 0 _ _ _ hT1.blk)
          | (refine wpList_append_src rfl (.tmp 28) (.tmp 35) rfl w'.heap.size v1 _ _ rfl hown1 _ 0 [] rfl (.inr ⟨_, _, rfl, rfl, fun j u h => by simp at h, fun u h => by simp at h⟩) (by omega) hb1'.size ?_; intro v3 w3 hown3 hgrow3
             have hb3' : Below w'.heap.size w' w3 := hb1'.grown hgrow3 hb1'.size (fun j ej => (hown1.lt j ej).1)
             have hT3 := hT.below hb3'
             have hcb3 := cell_of_row w3 b 0 _ _ _ hT3.blk
             have hfb3 : w3.frozen? ⟨b, 0, none⟩ = false := by simp [World.frozen?, hT3.blk]
             obtain ⟨A3, c3, rfl⟩ := own_slice hown3))
        go_ret
        exact ⟨rfl, ref_put_end hT3 (Nat.le_refl _) hbase hb3' hlt0 (by rw [List.drop_of_length_le (by omega), List.append_nil, List.length_take, Nat.min_eq_left (Nat.le_of_lt hrx)]; simpa [cells] using hown3)⟩
      · go_enter Try.func29, Try.ntmps29
        go_wp2_with fail
        refine hc.mono ?_
        rintro e w' ⟨rfl, rfl⟩
        go_wp2_with fail
        refine hr.mono ?_
        rintro e w' ⟨rfl, rfl⟩
        go_wp2_with (at_builtin; first
          | (refine wpList_append_src rfl (.tmp 20) (.tmp 26) rfl w'.heap.size (.slice none 0 0) 0 [] rfl (World.ownsRow_nil _ _ _ _) _ r (cells (xs.take r)) rfl (src_take hT.rows (Nat.le_of_lt hrx)) (by omega) (Nat.le_refl _) ?_; intro v1 w1 hown1 hgrow1
             have hb1' := below_of_none hgrow1
             have hT1 := hT.below hb1'
             have hcb1 := cell_of_row w1 b 0 _ _ _ hT1.blk)
          | (refine wpList_append_src rfl (.tmp 28) (.tmp 35) rfl w'.heap.size v1 _ _ rfl hown1 _ (xs.length - (r + 1)) (cells (xs.drop (r + 1))) rfl (src_drop hT1.rows hrx (.inr (by omega))) (by omega) hb1'.size ?_; intro v3 w3 hown3 hgrow3
             have hb3' : Below w'.heap.size w' w3 := hb1'.grown hgrow3 hb1'.size (fun j ej => (hown1.lt j ej).1)
             have hT3 := hT.below hb3'
             have hcb3 := cell_of_row w3 b 0 _ _ _ hT3.blk
             have hfb3 : w3.frozen? ⟨b, 0, none⟩ = false := by simp [World.frozen?, hT3.blk]
             obtain ⟨A3, c3, rfl⟩ := own_slice hown3))
        go_ret
        exact ⟨rfl, ref_put_end hT3 (Nat.le_refl _) hbase hb3' hlt0 (by rw [List.length_append, List.length_take, List.length_drop, Nat.min_eq_left (Nat.le_of_lt hrx), cells_append]; simpa [cells] using hown3)⟩
theorem step_append_src {w : World} {ops : Array Oper} {o : Oper} {a : Act} {K : Act → World → Prop} {Q : Exit → Act → World → Prop} {E : Prop} (hgd : o.guard = none) (s x : Operand)
    (ho : o.op = .call { callee := .builtin .append, args := #[s, x], argTypes := #[29, 29] })
    (base : Nat) (v : Value) (n : Nat) (xs : List Value) (hs : a.eval s = v) (hown : w.ownsRow base 48 2 v n xs)
    (vx : Value) (m : Nat) (news : List Value) (hx : a.eval x = vx) (hsrc : Src w vx m news) (hl : n + m ≤ 4398046511104) (hbase : base ≤ w.heap.size)
    (hK : ∀ v' w', w'.ownsRow base 48 2 v' (n + m) (xs ++ news) → w.grownBy w' v.ownBlock → K (a.put o.dst v') w') : if Region.wanted o (yielded ops a.tmps) = true then Oper.wp Try.prog o a w K Q else E := by
  have hw : Region.wanted o (yielded ops a.tmps) = true := by simp [Region.wanted, hgd]
  rw [if_pos hw]
  obtain ⟨i0, hi, hz0, hz1, hz2⟩ := info_parts info_pair
  rcases hsrc with ⟨rfl, rfl, rfl⟩ | ⟨ad, c, rfl, hnl, hnews, h1⟩
  · have hrun := run_append_owned_none (P := Try.prog) (w := w) base 29 o.type 48 i0 2 Try.underlying29 hi v n xs hown
    unfold Oper.wp
    simp [execOp, ho, resolve, invoke, builtin, hs, hx, hrun, Result.andThen]
    refine hK v w ?_ ⟨rfl, rfl, rfl, Nat.le_refl _, fun _ _ _ => rfl⟩
    rw [List.append_nil]; exact hown
  · exact wp_append_own w s x 29 ho base 48 i0 _ 2 24 Try.underlying29 hi hz0 hz1 hz2 rfl (by decide) v n xs hs hown ad m c news hx hnl hnews h1 (by unfold maxLen; omega) (by omega) hbase (fun v' w' h2 h3 _ => hK v' w' h2 h3)
theorem clone_end {w w1 : World} (h : ((w.alloc (.cells #[.slice none 0 0] 31)).drew).grownBy w1 (Value.slice none 0 0).ownBlock) : w1.heap[w.heap.size]? = some (.cells #[.slice none 0 0] 31 (0, 0)) ∧ Below w.heap.size w w1 := by
  have hn1 := heap_alloc_new w (.cells #[.slice none 0 0] 31)
  refine ⟨(h.block _ ?_ (by simp [Value.ownBlock])).trans hn1, ?_⟩
  · show _ < (w.alloc _).heap.size
    simp
  · exact ((Below.refl _ w).alloc (Nat.le_refl _) _).trans ⟨h.os, h.tape, h.output, by have := h.size; simp at this ⊢; omega, fun k hk => h.block k (by show k < (w.alloc _).heap.size; simp; omega) (by simp [Value.ownBlock])⟩
theorem clone_tab {w w1 : World} {v1 : Value} {xs : List (Int × ByteArray)} (hk : w1.heap[w.heap.size]? = some (.cells #[.slice none 0 0] 31 (0, 0))) (hown : w1.ownsRow (w.heap.size + 1) 48 2 v1 xs.length (cells xs)) : IsRef (w1.setCell ⟨w.heap.size, 0, none⟩ v1) w.heap.size w.heap.size v1 xs := by
  have hap : v1.ownBlock ≠ some w.heap.size := fun e => by have := (hown.lt _ e).1; omega
  refine ⟨?_, ?_, hap⟩
  · simp [World.setCell, Array.getElem?_modify, hk]
  · exact (Go.Joins.ownsRow_le hown (Nat.le_succ _)).kept (row := some w.heap.size) ⟨rfl, rfl, rfl, by simp [World.setCell], fun j hj hn => Below.heap_setCell w1 _ _ j (fun e => hn (by rw [e]))⟩ (.inr hap)
theorem frozen_new31 (w : World) (v : Value) : (w.alloc (.cells #[v] 31)).frozen? ⟨w.heap.size, 0, none⟩ = false := World.frozen?_alloc_at #[v] _ w.heap.size 0 rfl
set_option maxHeartbeats 4000000 in
set_option maxRecDepth 100000 in
theorem ref_clone_calls (base b : Nat) (v : Value) (xs : List (Int × ByteArray)) (w : World) (hT : IsRef w base b v xs) (hl : xs.length ≤ 1099511627776) (hbase : base ≤ w.heap.size) :
    Calls Try.prog 52 #[.pointer (some ⟨b, 0, none⟩)] w fun e w' => ∃ b' v', e = .returned (.pointer (some ⟨b', 0, none⟩)) ∧ w.heap.size ≤ b' ∧ IsRef w' w.heap.size b' v' xs ∧ Below w.heap.size w w' := by
  have hcb := cell_of_row w b 0 _ _ _ hT.blk
  have mixed : Try.prog.follows Departure.mixedOrders = true := by kernel_rfl
  rcases hT.rows.2 with ⟨rfl, hn⟩ | ⟨g, cap, cur, rfl, hg, hb, hcc, hm, hs, ht⟩
  · obtain rfl := List.eq_nil_of_length_eq_zero hn
    have hT1 := hT.below ((Below.refl _ w).alloc (Nat.le_refl _) (.cells #[.slice none 0 0] 31))
    have hcb1 := cell_of_row _ b 0 _ _ _ hT1.blk
    have hn1 := heap_alloc_new w (.cells #[.slice none 0 0] 31)
    have hcn := cell_of_row _ w.heap.size 0 _ _ _ hn1
    have hfn : (w.alloc (.cells #[.slice none 0 0] 31)).frozen? ⟨w.heap.size, 0, none⟩ = false := frozen_new31 w _
    go_enter Try.func52, Try.ntmps52
    go_wp2
    go_region_law_o (refine step_append_src rfl (.tmp 10) (.tmp 14) rfl (w.heap.size + 1) (.slice none 0 0) 0 [] (by simp [Act.eval, Act.put]) (World.ownsRow_nil _ _ _ _) (.slice none 0 0) 0 [] (by simp [Act.eval, Act.put]) (.inl ⟨rfl, rfl, rfl⟩) (by omega) (by simp) ?_; intro v1 w1 hown1 hgrow1; obtain ⟨hk, hb1⟩ := clone_end (w := w) hgrow1; have hf1 : w1.frozen? ⟨w.heap.size, 0, none⟩ = false := (by simp [World.frozen?, hk]); have hck := cell_of_row _ w.heap.size 0 _ _ _ hk; obtain ⟨A1, c1, rfl⟩ := own_slice hown1)
    all_goals go_wp2
    all_goals go_ret
    all_goals exact ⟨w.heap.size, _, rfl, Nat.le_refl _, clone_tab hk (by simpa [cells] using hown1), hb1.setCell (p := ⟨w.heap.size, 0, none⟩) (Nat.le_refl _) _⟩
  · have hT1 := hT.below ((Below.refl _ w).alloc (Nat.le_refl _) (.cells #[.slice none 0 0] 31))
    have hcb1 := cell_of_row _ b 0 _ _ _ hT1.blk
    have hn1 := heap_alloc_new w (.cells #[.slice none 0 0] 31)
    have hcn := cell_of_row _ w.heap.size 0 _ _ _ hn1
    have hfn : (w.alloc (.cells #[.slice none 0 0] 31)).frozen? ⟨w.heap.size, 0, none⟩ = false := frozen_new31 w _
    have hsr : Src (w.alloc (.cells #[.slice none 0 0] 31)).drew (.slice (some ⟨g, 0, none⟩) xs.length cap) xs.length (cells xs) := by
      have h := src_take hT1.rows (Nat.le_refl _)
      rw [List.take_length] at h
      exact h
    go_enter Try.func52, Try.ntmps52
    go_wp2
    go_region_law_o (refine step_append_src rfl (.tmp 10) (.tmp 14) rfl (w.heap.size + 1) (.slice none 0 0) 0 [] (by simp [Act.eval, Act.put]) (World.ownsRow_nil _ _ _ _) (.slice (some ⟨g, 0, none⟩) xs.length cap) xs.length (cells xs) (by simp [Act.eval, Act.put]) hsr (by omega) (by simp) ?_; intro v1 w1 hown1 hgrow1; obtain ⟨hk, hb1⟩ := clone_end (w := w) hgrow1; have hf1 : w1.frozen? ⟨w.heap.size, 0, none⟩ = false := (by simp [World.frozen?, hk]); have hck := cell_of_row _ w.heap.size 0 _ _ _ hk; obtain ⟨A1, c1, rfl⟩ := own_slice hown1)
    all_goals go_wp2
    all_goals go_ret
    all_goals exact ⟨w.heap.size, _, rfl, Nat.le_refl _, clone_tab hk (by simpa [cells] using hown1), hb1.setCell (p := ⟨w.heap.size, 0, none⟩) (Nat.le_refl _) _⟩
end Go.Proofs.Ytbpaejbecgaepaa.TabIS
