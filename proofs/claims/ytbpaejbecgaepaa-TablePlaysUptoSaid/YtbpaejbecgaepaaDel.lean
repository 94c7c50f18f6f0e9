/- slices.Delete of one row, and the table's Delete. -/
import Derived.Test.YtbpaejbecgaepaaRef2
import Derived.Test.YtbpaejbecgaepaaOpsRIS
import Derived.Lib.SliceRun
namespace Go.Proofs.Ytbpaejbecgaepaa.TabIS
open Go Go.RowKit Go.Proofs
set_option linter.unusedVariables false
set_option linter.unusedSimpArgs false

theorem setCells_row {w : World} {g off : Nat} {cur : Array Value} {t : TypeId} {cs : List Value} (hg : w.heap[g]? = some (.cells cur t (0, 0))) (hfit : off + cs.length ≤ cur.size) (h1 : ∀ v ∈ cs, v.oneCell' = true) :
    w.setCells g off cs = w.setRow g (cur.toList.take off ++ (cs ++ cur.toList.drop (off + cs.length))).toArray := by
  have ha := run_storeCells_at (P := Try.prog) g off t cs 0 cur w hg (by simpa using hfit) h1
  have hb := run_storeCells_cells (P := Try.prog) g off cs 0 w (fun j hj => by rw [Nat.add_zero, cell_of_row w g (off + j) _ _ _ hg, Array.getElem?_eq_getElem (by omega)]; rfl) (fun j hj => by simp [World.frozen?, hg]) h1
  rw [ha] at hb
  simp only [Nat.add_zero, List.append_assoc] at hb
  exact (Result.ok.inj hb).2.symm
theorem zero_row : ∀ w, (zeroValue 84).run Try.prog w = .ok (.agg #[.int .i64 0, .string (⟨#[]⟩ : ByteArray)]) w := by
  intro w
  obtain ⟨i0, hi, hz0, hz1, hz2⟩ := info_parts info_row
  simp [zeroValue, typeInfo, hi, hz0]
theorem run_clear_one (w : World) (ty : TypeId) (g o c : Nat) (cur : Array Value) (hg : w.heap[g]? = some (.cells cur 84 (0, 0))) (hfit : o + 2 ≤ cur.size) :
    (Builtin.clear_ #[81] ty #[.slice (some ⟨g, o, none⟩) 1 c]).run Try.prog w = .ok (.tuple #[]) (w.setRow g (cur.toList.take o ++ ([Value.int .i64 0, Value.string (⟨#[]⟩ : ByteArray)] ++ cur.toList.drop (o + 2))).toArray) := by
  have hzc : (Builtin.zeroCells (Value.agg #[.int .i64 0, .string (⟨#[]⟩ : ByteArray)]).cells 1).toList = [Value.int .i64 0, Value.string (⟨#[]⟩ : ByteArray)] := by
    simp [Builtin.zeroCells, Value.cells, Array.range, List.range, List.range.loop]
  have ha := run_storeCells_at (P := Try.prog) g o _ [.int .i64 0, .string (⟨#[]⟩ : ByteArray)] 0 cur w hg (by simpa using hfit) (by intro u hu; simp at hu; rcases hu with rfl | rfl <;> rfl)
  simp only [Nat.add_zero] at ha
  simp [Builtin.clear_, run_underlying Try.underlying81, zero_row, hzc, ha]
theorem del_end {base g cap r n1 : Nat} {xs : List (Int × ByteArray)} {w : World} {cur : Array Value} {row1 row2 : List Value} (hR : Rows w base (.slice (some ⟨g, 0, none⟩) xs.length cap) xs) (hr : r < xs.length) (hcur : w.heap[g]? = some (.cells cur 84 (0, 0))) (hcs : cur.size = cap * 2) (hnc : xs.length ≤ cap) (hcm : cap ≤ maxLen) (hbg : base ≤ g)
    (htl : (cells (xs.take r)).length = r * 2) (hdl : (cells (xs.drop (r + 1))).length = (xs.length - (r + 1)) * 2) (htk : cur.toList.take (xs.length * 2) = cells xs) (hn1 : xs.length - 1 = n1)
    (hrow1 : cur.toList.take (r * 2) ++ (cells (xs.drop (r + 1)) ++ cur.toList.drop (r * 2 + (cells (xs.drop (r + 1))).length)) = row1) (hrow2 : row1.take (n1 * 2) ++ ([Value.int .i64 0, Value.string (⟨#[]⟩ : ByteArray)] ++ row1.drop (n1 * 2 + 2)) = row2) (hr1 : row1.length = cap * 2) (hr2 : row2.length = cap * 2)
    (hw1 : (w.drew.setRow g row1.toArray).heap[g]? = some (.cells row1.toArray 84 (0, 0))) :
    Rows ((w.drew.setRow g row1.toArray).setRow g row2.toArray) base (.slice (some ⟨g, 0, none⟩) n1 cap) (xs.take r ++ xs.drop (r + 1)) := by
  have hw2 := setRow_heap (w.drew.setRow g row1.toArray) g row1.toArray row2.toArray _ _ hw1
  have hlen : (xs.take r ++ xs.drop (r + 1)).length = n1 := by simp; omega
  unfold Rows
  rw [hlen]
  refine ⟨by rw [cells_len, hlen], .inr ⟨g, cap, row2.toArray, rfl, hbg, hw2, by omega, hcm, by simp [hr2], ?_⟩⟩
  have ht : cur.toList.take (r * 2) = cells (xs.take r) := by
    rw [← cells_take, ← htk, List.take_take]
    congr 1
    omega
  simp only [hn1]
  rw [← hrow2, List.take_append_of_le_length (by rw [List.length_take]; omega), List.take_take, Nat.min_self, ← hrow1, ht, ← List.append_assoc, List.take_append_of_le_length (by rw [List.length_append, htl, hdl]; omega), List.take_of_length_le (by rw [List.length_append, htl, hdl]; omega), cells_append]
set_option maxHeartbeats 4000000 in
set_option maxRecDepth 100000 in
theorem slices_delete (base g cap : Nat) (xs : List (Int × ByteArray)) (r : Nat) (w : World) (hR : Rows w base (.slice (some ⟨g, 0, none⟩) xs.length cap) xs) (hr : r < xs.length) (hl : xs.length ≤ 1099511627776) :
    Calls Try.prog 49 #[.slice (some ⟨g, 0, none⟩) xs.length cap, .int .i64 (r : Int), .int .i64 ((r : Int) + 1)] w fun e w' => e = .returned (.slice (some ⟨g, 0, none⟩) (xs.length - 1) cap) ∧ Rows w' base (.slice (some ⟨g, 0, none⟩) (xs.length - 1) cap) (xs.take r ++ xs.drop (r + 1)) ∧ w.grownBy w' (some g) := by
  obtain ⟨cur, hbg, hcur, hnc, hcm, hcs, htk⟩ := own_cur hR
  have hc63 : cap ≤ 9223372036854775807 := by unfold maxLen at hcm; omega
  have hdl : (cells (xs.drop (r + 1))).length = (xs.length - (r + 1)) * 2 := by rw [cells_len, List.length_drop]
  have htl : (cells (xs.take r)).length = r * 2 := by rw [cells_len, List.length_take]; omega
  have hcl : cur.toList.length = cap * 2 := by rw [Array.length_toList, hcs]
  obtain ⟨row1, hrow1⟩ : ∃ row1, cur.toList.take (r * 2) ++ (cells (xs.drop (r + 1)) ++ cur.toList.drop (r * 2 + (cells (xs.drop (r + 1))).length)) = row1 := ⟨_, rfl⟩
  have hr1 : row1.length = cap * 2 := by rw [← hrow1]; simp only [List.length_append, List.length_take, List.length_drop, hdl, hcl]; omega
  have hset := setCells_row (w := w.drew) (off := r * 2) hcur (cs := cells (xs.drop (r + 1))) (by rw [hdl, hcs]; omega) (cells_one _)
  rw [hrow1] at hset
  have hw1 : (w.drew.setRow g row1.toArray).heap[g]? = some (.cells row1.toArray 84 (0, 0)) := setRow_heap _ g _ _ _ _ hcur
  obtain ⟨n1, hn1⟩ : ∃ n1, xs.length - 1 = n1 := ⟨_, rfl⟩
  rw [hn1]
  obtain ⟨row2, hrow2⟩ : ∃ row2, row1.take (n1 * 2) ++ ([Value.int .i64 0, Value.string (⟨#[]⟩ : ByteArray)] ++ row1.drop (n1 * 2 + 2)) = row2 := ⟨_, rfl⟩
  have hr2 : row2.length = cap * 2 := by rw [← hrow2]; simp only [List.length_append, List.length_take, List.length_drop, hr1, List.length_cons, List.length_nil]; omega
  have hclr : ∀ ty c, (Builtin.clear_ #[81] ty #[.slice (some ⟨g, n1 * 2, none⟩) 1 c]).run Try.prog (w.drew.setRow g row1.toArray) = .ok (.tuple #[]) ((w.drew.setRow g row1.toArray).setRow g row2.toArray) := fun ty c => by
    have h := run_clear_one (w.drew.setRow g row1.toArray) ty g (n1 * 2) c _ hw1 (by simp [hr1]; omega)
    rw [h, ← hrow2]
  have mixed : Try.prog.follows Departure.mixedOrders = true := by kernel_rfl
  obtain ⟨i0, hi, hz0, hz1, hz2⟩ := info_parts info_row
  have d0 : (0 : Int) ≤ (r : Int) + 1 := by omega
  have d1 : (r : Int) ≤ (r : Int) + 1 := by omega
  have d2 : (r : Int) + 1 ≤ (xs.length : Int) := by omega
  have d3 : ¬ ((r : Int) = (r : Int) + 1) := by omega
  have d4 : ((r : Int) + 1).toNat = r + 1 := by omega
  have hrc : r ≤ cap := by omega
  have hone : xs.length - n1 = 1 := by omega
  have hcn : ¬ (cap = n1) := by omega
  have f1 : (n1 : Int) ≤ (xs.length : Int) := by omega
  have f2 : (0 : Int) ≤ (n1 : Int) := by omega
  have f3 : xs.length ≤ cap := hnc
  have f4 : n1 ≤ xs.length := by omega
  have hsrc : ∀ ad : Addr, ad = ⟨g, (r + 1) * 2, none⟩ ∨ r + 1 = xs.length → ∀ j u, (cells (xs.drop (r + 1)))[j]? = some u → w.drew.cell? (ad.add j) = some u := fun ad had j u hj => by
    have hj2 := (List.getElem?_eq_some_iff.1 hj).1
    rw [hdl] at hj2
    rcases had with rfl | h
    · rw [Addr.add_lit]
      have hcell := (hR.cellAt ((r + 1) * 2 + j) (by omega)).trans (by rw [← hj, ← cells_drop, List.getElem?_drop] : (cells xs)[(r + 1) * 2 + j]? = some u)
      exact hcell
    · omega
  have hspare : ∀ j, j < (cells (xs.drop (r + 1))).length → (w.drew.cell? ⟨g, 0 + r * 2 + j, none⟩).isSome = true ∧ w.drew.frozen? ⟨g, 0 + r * 2 + j, none⟩ = false := fun j hj => by
    rw [hdl] at hj
    refine ⟨?_, hR.frozenAt _⟩
    have h : w.drew.cell? ⟨g, 0 + r * 2 + j, none⟩ = cur[0 + r * 2 + j]? := cell_of_row w g _ _ _ _ hcur
    rw [h, Array.getElem?_eq_getElem (by omega)]
    rfl
  have e1 : r + (xs.length - (r + 1)) = n1 := by omega
  by_cases hce : cap = r + 1
  · have hite : ∀ a b : Option Addr, (if cap = r + 1 then a else b) = a := fun a b => if_pos hce
    have hnl : ¬ (r + 1 < xs.length) := by omega
    clear hce
    go_enter Try.func49, Try.ntmps49
    go_wp2
    go_region_law_o (refine step_append_room rfl (.tmp 22) (.tmp 25) 81 rfl 84 i0 2 Try.underlying81 hi hz1 g 0 r cap (by simp [Act.eval, Act.put]) ⟨g, 0, none⟩ (xs.length - (r + 1)) (cap - (r + 1)) (cells (xs.drop (r + 1))) (by simp [Act.eval, Act.put]) hdl (hsrc _ (.inr (by omega))) (cells_one _) (by omega) hspare ?_; rw [Nat.zero_add, hset, e1])
    go_wp2
    go_ret
    exact ⟨rfl, del_end hR hr hcur hcs hnc hcm hbg htl hdl htk hn1 hrow1 hrow2 hr1 hr2 hw1, grown_setRow (grown_setRow (row := some g) (w := w) (W := w.drew) ⟨rfl, rfl, rfl, Nat.le_refl _, fun k _ _ => rfl⟩ _ (.inl rfl)) _ (.inl rfl)⟩
  · go_enter Try.func49, Try.ntmps49
    go_wp2
    go_region_law_o (refine step_append_room rfl (.tmp 22) (.tmp 25) 81 rfl 84 i0 2 Try.underlying81 hi hz1 g 0 r cap (by simp [Act.eval, Act.put]) ⟨g, (r + 1) * 2, none⟩ (xs.length - (r + 1)) (cap - (r + 1)) (cells (xs.drop (r + 1))) (by simp [Act.eval, Act.put]) hdl (hsrc _ (.inl rfl)) (cells_one _) (by omega) hspare ?_; rw [Nat.zero_add, hset, e1])
    go_wp2
    go_ret
    exact ⟨rfl, del_end hR hr hcur hcs hnc hcm hbg htl hdl htk hn1 hrow1 hrow2 hr1 hr2 hw1, grown_setRow (grown_setRow (row := some g) (w := w) (W := w.drew) ⟨rfl, rfl, rfl, Nat.le_refl _, fun k _ _ => rfl⟩ _ (.inl rfl)) _ (.inl rfl)⟩
end Go.Proofs.Ytbpaejbecgaepaa.TabIS
