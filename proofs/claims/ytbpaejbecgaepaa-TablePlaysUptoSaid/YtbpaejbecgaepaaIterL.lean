/- Going over a table by a body that may leave; From; Merge. -/
import Derived.Test.YtbpaejbecgaepaaNil
import Derived.Test.YtbpaejbecgaepaaRangeL
namespace Go.Proofs.Ytbpaejbecgaepaa.TabIS
open Go Go.RowKit Go.Proofs Go.Shelf Go.Proofs.Ytbpaejbecgaepaa.Hand
set_option linter.unusedVariables false
set_option linter.unusedSimpArgs false
attribute [local go_sem] Oper.semAt_some

/-- What came so far is the head of the rows, and this one is next. -/
def Next (xs : List (Int × ByteArray)) (pre : List (Int × ByteArray)) (x : Int × ByteArray) : Prop := xs[pre.length]? = some x ∧ pre = xs.take pre.length
set_option maxRecDepth 100000 in
set_option maxHeartbeats 2000000 in
theorem over_leaves (n l B0 B base : Nat) (v2 : Value) (xs : List (Int × ByteArray)) (I J Jx : List (Int × ByteArray) → World → Prop) (hn : 1 ≤ n) (hl : xs.length ≤ 1099511627776)
    (hIr : ∀ s A, I s A → A.heap[B]? = some (.cells #[v2] 81 (0, 0)) ∧ Rows A base v2 xs) (hIa : ∀ s A o, I s A → I s (A.alloc o))
    (hJI : ∀ s A, J s A → I s A) (hJk : ∀ s A C, J s A → KeepsFrom B0 A C → I s C → J s C)
    (hY : ∀ pre x W1, J pre W1 → Next xs pre x → YieldAt Fence.wide (n - 1) Try.prog l (encs x) W1 fun e W' => (e = .returned (.bool true) ∧ J (pre ++ [x]) W') ∨ (e = .returned (.bool false) ∧ Jx (pre ++ [x]) W'))
    (W : World) (h0 : J [] W) :
    CallsIn Fence.wide n Try.prog 63 #[.func (.yield l) #[] #[], .pointer (some ⟨B, 0, none⟩)] W fun e W' => (∃ v, e = .returned v) ∧ ((∃ ys, ys = xs ∧ J ys W') ∨ (∃ pre, True ∧ Jx pre W')) := by
  obtain ⟨hB, hR⟩ := hIr _ _ (hJI _ _ h0)
  obtain ⟨A, c, rfl⟩ := own_slice hR
  have hcB := cell_of_row W B 0 _ _ _ hB
  refine callsIn_of_wp Try.func63 rfl trivial ?_ rfl
  simp only [Try.ntmps63, List.size_toArray, List.length_cons, List.length_nil, Nat.reduceAdd, Nat.reduceSub, Array.replicate_succ, Array.replicate_zero, List.push_toArray, List.append_toArray, List.nil_append, List.cons_append]
  gi_wp2
  gi_loopw [7] (fun i wr => ∃ k : Nat, i = .int .i64 (k : Int) ∧ k ≤ xs.length ∧ J (xs.take k) wr) (fun i wr => xs.length - (intOf i).toNat)
  case atStart => exact ⟨0, rfl, Nat.zero_le _, h0⟩
  case round =>
    obtain ⟨k, rfl, hk, hJ⟩ := hrel
    by_cases hlt : k < xs.length
    · have d1 : (k : Int) < (xs.length : Int) := by omega
      have d2 : (0 : Int) ≤ (k : Int) := by omega
      obtain ⟨x, hx⟩ : ∃ x, xs[k]? = some x := ⟨_, List.getElem?_eq_getElem hlt⟩
      obtain ⟨_, hR2⟩ := hIr _ _ (hJI _ _ hJ)
      obtain ⟨g, cap, hv, hg, hcap⟩ := own_form hR2 (by omega)
      cases hv
      obtain ⟨hc0, hc1⟩ := rows_cell hR2 hx
      have hJ2 : J (xs.take k) (wr.alloc (.cells #[.int .i64 x.1, .string x.2] 84)) := hJk _ _ _ hJ (keeps_alloc _ _ _) (hIa _ _ _ (hJI _ _ hJ))
      have hlk : (xs.take k).length = k := by rw [List.length_take]; omega
      obtain ⟨fn, tmps, assign, body, hy, hYR⟩ := hY (xs.take k) x _ hJ2 ⟨by rw [hlk]; exact hx, by rw [hlk]⟩
      rw [← take_snoc hx] at hYR
      gi_wp2
      refine hYR.mono ?_
      rintro e W3 (⟨rfl, hJ3⟩ | ⟨rfl, hJ3⟩)
      · gi_wp2
        go_roundw
        case rel => exact ⟨k + 1, by go_num, by omega, hJ3⟩
        case measure => simp [intOf]; omega
      · gi_wp2
        refine bodyPost_ret (results_none rfl _ _ _) rfl ?_
        exact ⟨⟨_, rfl⟩, .inr ⟨_, trivial, hJ3⟩⟩
    · obtain rfl : k = xs.length := by omega
      have d1 : ¬ ((xs.length : Int) < (xs.length : Int)) := by omega
      rw [List.take_length] at hJ
      gi_wp2
      go_end0
      exact ⟨⟨_, rfl⟩, .inl hJ⟩

theorem cut_cells {w : World} {base g cap : Nat} {xs : List (Int × ByteArray)} (h : Rows w base (.slice (some ⟨g, 0, none⟩) xs.length cap) xs) {r : Nat} (hr : r ≤ xs.length) {ad : Addr} (hd : ad = ⟨g, r * 2, none⟩ ∨ r = xs.length) : ∀ j u, (cells (xs.drop r))[j]? = some u → w.cell? (ad.add j) = some u := by
  intro j u hj
  have hj2 := (List.getElem?_eq_some_iff.1 hj).1
  rw [cells_len, List.length_drop] at hj2
  rcases hd with rfl | rfl
  · rw [Addr.add_lit]
    refine (h.cellAt (r * 2 + j) (by omega)).trans ?_
    rw [← hj, ← cells_drop, List.getElem?_drop]
  · omega
set_option maxHeartbeats 4000000 in
set_option maxRecDepth 100000 in
theorem from_calls (base b : Nat) (v : Value) (xs : List (Int × ByteArray)) (k : Int) (r : Nat) (w : World) (hT : IsTab w base b v xs) (hp : Place xs k r) (hl : xs.length ≤ 1099511627776) (hbase : base ≤ w.heap.size) :
    Calls Try.prog 42 #[.pointer (some ⟨b, 0, none⟩), .int .i64 k] w fun e w' => ∃ B v2, e = .returned (.func (.func 63) #[] #[.pointer (some ⟨B, 0, none⟩)]) ∧ Over w v2 (xs.drop r) B w' := by
  have mixed : Try.prog.follows Departure.mixedOrders = true := by kernel_rfl
  have hrank := fun W (hB : Below w.heap.size w W) => rank_calls base b v xs k r W (hT.below hB) hp hl (Nat.le_trans hbase hB.size)
  have hrx := hp.1
  have hcell := fun W (hB : Below w.heap.size w W) => cell_of_row W b 0 _ _ _ (hT.below hB).blk
  have hc0 := hcell w (Below.refl _ w)
  have d0 : (0 : Int) ≤ (r : Int) := by omega
  have d1 : (r : Int) ≤ (xs.length : Int) := by omega
  rcases hT.rows.2 with ⟨rfl, hn⟩ | ⟨g, cap, cur, rfl, hg, hb, hcc, hm, hs, ht⟩
  · obtain rfl := List.eq_nil_of_length_eq_zero hn
    obtain rfl : r = 0 := by simpa using hrx
    have hd : Below w.heap.size w w.drew := ⟨rfl, rfl, rfl, Nat.le_refl _, fun _ _ => rfl⟩
    have hcl : ∀ W, Below w.heap.size w W → Calls Try.prog 47 #[.slice none 0 0] W fun e w' => ∃ v', e = .returned v' ∧ Rows w' W.heap.size v' [] ∧ Below W.heap.size W w' := fun W hB => clone_calls base _ [] W (hT.below hB).rows (by simp)
    go_enter Try.func42, Try.ntmps42
    go_wp2
    go_region_with (first
      | (go_at_call 31; refine (hrank _ hd).mono ?_; rintro e w1 ⟨rfl, hb1'⟩; have hb1 := below_trans hd hb1'; have hc1 := hcell w1 hb1)
      | (go_at_call 47; refine (hcl w1 hb1).mono ?_; rintro e w2 ⟨v2, rfl, hR2, hb2⟩; obtain ⟨A2, c2, rfl⟩ := own_slice hR2)
      | (go_at_call 46; refine (over_calls _ w1.heap.size [] w2 hR2).mono ?_; rintro e w3 ⟨rfl, rfl⟩))
    all_goals go_wp2
    all_goals go_ret
    all_goals exact ⟨w2.heap.size, .slice A2 0 c2, rfl, Nat.le_trans hb1.size hb2.size, heap_alloc_new w2 _, (Go.Joins.ownsRow_le hR2 hb1.size).alloc _, (below_trans hb1 hb2).alloc (below_trans hb1 hb2).size _⟩
  · have hrc : r ≤ cap := by omega
    have hd : Below w.heap.size w w.drew := ⟨rfl, rfl, rfl, Nat.le_refl _, fun _ _ => rfl⟩
    have hclone : ∀ (ad : Addr) (c : Nat), ad = ⟨g, r * 2, none⟩ ∨ r = xs.length → ∀ W, Below w.heap.size w W → Calls Try.prog 47 #[.slice (some ad) (xs.length - r) c] W fun e w' => ∃ v', e = .returned v' ∧ Rows w' W.heap.size v' (xs.drop r) ∧ Below W.heap.size W w' := fun ad c had W hB => by
      have h := clone_src ad c (xs.drop r) W (cut_cells (hT.below hB).rows hrx had) (by rw [List.length_drop]; omega)
      rw [List.length_drop] at h
      exact h
    by_cases hce : cap = r
    · have hite : ∀ a b : Option Addr, (if cap = r then a else b) = a := fun a b => if_pos hce
      have hr2 : r = xs.length := by omega
      have hcl := hclone ⟨g, 0, none⟩ (cap - r) (.inr hr2)
      clear hclone hce hr2
      go_enter Try.func42, Try.ntmps42
      go_wp2
      go_region_with (first
        | (go_at_call 31; refine (hrank _ hd).mono ?_; rintro e w1 ⟨rfl, hb1'⟩; have hb1 := below_trans hd hb1'; have hc1 := hcell w1 hb1)
        | (go_at_call 47; refine (hcl w1 hb1).mono ?_; rintro e w2 ⟨v2, rfl, hR2, hb2⟩; obtain ⟨A2, c2, rfl⟩ := own_slice hR2)
        | (go_at_call 46; have hov := over_calls _ w1.heap.size (xs.drop r) w2 hR2; rw [List.length_drop] at hov; refine hov.mono ?_; rintro e w3 ⟨rfl, rfl⟩))
      all_goals go_wp2
      all_goals go_ret
      all_goals exact ⟨w2.heap.size, .slice A2 (xs.drop r).length c2, rfl, Nat.le_trans hb1.size hb2.size, (by rw [List.length_drop]; exact heap_alloc_new w2 _), (Go.Joins.ownsRow_le hR2 hb1.size).alloc _, (below_trans hb1 hb2).alloc (below_trans hb1 hb2).size _⟩
    · have hcl := hclone ⟨g, r * 2, none⟩ (cap - r) (.inl rfl)
      clear hclone
      go_enter Try.func42, Try.ntmps42
      go_wp2
      go_region_with (first
        | (go_at_call 31; refine (hrank _ hd).mono ?_; rintro e w1 ⟨rfl, hb1'⟩; have hb1 := below_trans hd hb1'; have hc1 := hcell w1 hb1)
        | (go_at_call 47; refine (hcl w1 hb1).mono ?_; rintro e w2 ⟨v2, rfl, hR2, hb2⟩; obtain ⟨A2, c2, rfl⟩ := own_slice hR2)
        | (go_at_call 46; have hov := over_calls _ w1.heap.size (xs.drop r) w2 hR2; rw [List.length_drop] at hov; refine hov.mono ?_; rintro e w3 ⟨rfl, rfl⟩))
      all_goals go_wp2
      all_goals go_ret
      all_goals exact ⟨w2.heap.size, .slice A2 (xs.drop r).length c2, rfl, Nat.le_trans hb1.size hb2.size, (by rw [List.length_drop]; exact heap_alloc_new w2 _), (Go.Joins.ownsRow_le hR2 hb1.size).alloc _, (below_trans hb1 hb2).alloc (below_trans hb1 hb2).size _⟩
end Go.Proofs.Ytbpaejbecgaepaa.TabIS
