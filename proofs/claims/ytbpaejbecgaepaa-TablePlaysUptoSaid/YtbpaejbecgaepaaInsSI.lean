/- slices.Insert of one row, at one pair of types. -/
import Derived.Test.YtbpaejbecgaepaaTabSI
import Derived.Shelf.Spec.SlicesInsertGrow
import Derived.Lib.SmallJoins
namespace Go.Proofs.Ytbpaejbecgaepaa.TabSI
open Go Go.RowKit Go.Proofs
set_option linter.unusedVariables false
set_option linter.unusedSimpArgs false

/-- What an insert leaves: a row that is s's own or new, all else as it was. -/
def After (w : World) (base : Nat) (v : Value) (ys : List (ByteArray × Int)) (e : Ending) (w' : World) : Prop :=
  ∃ v', e = .returned v' ∧ Rows w' base v' ys ∧ w.grownBy w' v.ownBlock ∧ (v'.ownBlock = v.ownBlock ∨ v'.ownBlock = some w.heap.size)
theorem info_row : (Try.prog.info? 95).map (fun i => (i.zero, i.size, i.bytes)) = some (some (.agg #[(Value.string (⟨#[]⟩ : ByteArray)), (Value.int .i64 0)]), 2, 24) := by kernel_rfl
/-- The row to be laid in: its two cells. -/
structure New (w : World) (vb : Nat) (x : ByteArray × Int) : Prop where
  c0 : w.cell? ⟨vb, 0, none⟩ = some (Value.string x.1)
  c1 : w.cell? ⟨vb, 1, none⟩ = some (Value.int .i64 x.2)
theorem New.cells {w : World} {vb : Nat} {x : ByteArray × Int} (h : New w vb x) : ∀ j u, [(Value.string x.1), (Value.int .i64 x.2)][j]? = some u → w.cell? ((⟨vb, 0, none⟩ : Addr).add j) = some u := by
  intro j u hj
  match j, hj with
  | 0, hj => simp at hj; subst hj; simpa [Addr.add] using h.c0
  | 1, hj => simp at hj; subst hj; simpa [Addr.add] using h.c1
  | (j + 2), hj => simp at hj
set_option maxHeartbeats 4000000 in
set_option maxRecDepth 100000 in
theorem ins_end (base : Nat) (v : Value) (xs : List (ByteArray × Int)) (vb : Nat) (x : ByteArray × Int) (w : World) (hR : Rows w base v xs) (hN : New w vb x) (hl : xs.length ≤ 1099511627776) (hbase : base ≤ w.heap.size) :
    Calls Try.prog 54 #[v, .int .i64 (xs.length : Int), .slice (some ⟨vb, 0, none⟩) 1 1] w fun e w' => After w base v (xs ++ [x]) e w' := by
  obtain ⟨A, c, rfl⟩ := own_slice hR
  obtain ⟨i0, hi, hz0, hz1, hz2⟩ := info_parts info_row
  have hg : Value.slice A xs.length c = .slice A xs.length c := rfl
  go_enter Try.func54, Try.ntmps54
  go_wp2_with (at_builtin; go_must (refine wpList_append_own_at _ rfl (.tmp 23) (.tmp 24) 91 rfl base 95 i0 (.agg #[(Value.string (⟨#[]⟩ : ByteArray)), (Value.int .i64 0)]) 2 24 Try.underlying91 hi hz0 hz1 hz2 rfl (by decide) (.slice A xs.length _) _ _ rfl hR ⟨vb, 0, none⟩ 1 1 [(Value.string x.1), (Value.int .i64 x.2)] rfl rfl hN.cells (by intro u hu; simp at hu; rcases hu with rfl | rfl <;> rfl) (by unfold maxLen; omega) (by omega) hbase ?_; intro v3 w3 hown3 hgrow3 hnil3 hwhere3))
  all_goals go_ret
  all_goals refine ⟨v3, rfl, by unfold Rows; rw [List.length_append, cells_append]; exact hown3, ?_, ?_⟩
  all_goals first | exact hgrow3 | exact hwhere3 | (cases A <;> first | exact hgrow3 | exact hwhere3)

/-! ### within the row -/
theorem grown_setRow {w W : World} {row : Option Nat} {g : Nat} (h : w.grownBy W row) (cs : Array Value) (hg : row = some g ∨ w.heap.size ≤ g) : w.grownBy (W.setRow g cs) row := by
  refine ⟨h.os, h.tape, h.output, by simpa [World.setRow] using h.size, fun k hk hne => ?_⟩
  have hkg : k ≠ g := by
    rintro rfl
    rcases hg with rfl | hg
    · exact hne rfl
    · omega
  exact (setRow_other W g k cs hkg).trans (h.block k hk hne)
theorem own_cur {w : World} {base n g cap : Nat} {e : TypeId} {cs : List Value} (h : w.ownsRow base e 2 (.slice (some ⟨g, 0, none⟩) n cap) n cs) : ∃ cur : Array Value, base ≤ g ∧ w.heap[g]? = some (.cells cur e (0, 0)) ∧ n ≤ cap ∧ cap ≤ maxLen ∧ cur.size = cap * 2 ∧ cur.toList.take (n * 2) = cs := by
  rcases h.2 with ⟨hv, _⟩ | ⟨g', cap', cur, hv, r1, r2, r3, r4, r5, r6⟩
  · cases hv
  · cases hv
    exact ⟨cur, r1, r2, r3, r4, r5, r6⟩
/-- The two copies of an insert within a row. -/
theorem two_copies (L P Q N R : List Value) (i : Nat) (hP : P.length = i) (hN : N.length = 2) (h : L = P ++ Q ++ R) (hR : 2 ≤ R.length) :
    (let r1 := L.take (i + 2) ++ (Q ++ L.drop (i + 2 + Q.length)); (r1.take i ++ (N ++ r1.drop (i + N.length))).take (i + 2 + Q.length)) = P ++ N ++ Q ∧
    (L.take (i + 2) ++ (Q ++ L.drop (i + 2 + Q.length))).length = L.length := by
  subst h
  subst hP
  constructor
  · simp only [hN]
    rw [List.append_assoc P Q R]
    have e1 : (P ++ (Q ++ R)).take (P.length + 2) = P ++ (Q ++ R).take 2 := by rw [List.take_append, List.take_of_length_le (by omega)]; congr 1; congr 1; omega
    have l2 : ((Q ++ R).take 2).length = 2 := by rw [List.length_take, List.length_append]; omega
    rw [e1]
    generalize (Q ++ R).take 2 = T at l2
    generalize (P ++ (Q ++ R)).drop (P.length + 2 + Q.length) = D
    rw [List.append_assoc P T, List.take_left, List.drop_append, List.drop_of_length_le (by omega), List.nil_append, show P.length + 2 - P.length = 2 by omega, List.drop_append, List.drop_of_length_le (by omega), List.nil_append, l2, Nat.sub_self, List.drop_zero]
    rw [show P.length + 2 + Q.length = (P ++ N ++ Q).length by simp [hN]; omega, show P ++ (N ++ (Q ++ D)) = (P ++ N ++ Q) ++ D by simp, List.take_left]
  · simp; omega
theorem shape_of {w : World} {g : Nat} {cur : Array Value} {t : TypeId} (h : w.heap[g]? = some (.cells cur t (0, 0))) : w.shape? g = some (t, cur.size) := by simp [World.shape?, h]
theorem cells_one : ∀ (xs : List (ByteArray × Int)), ∀ u ∈ cells xs, u.oneCell' = true := by
  intro xs u hu
  obtain ⟨x, _, hx⟩ := List.mem_flatMap.1 hu
  simp at hx
  rcases hx with rfl | rfl <;> rfl
theorem cells_take (xs : List (ByteArray × Int)) (i : Nat) : (cells xs).take (i * 2) = cells (xs.take i) := by
  induction xs generalizing i with
  | nil => simp [cells]
  | cons x xs ih =>
    cases i with
    | zero => simp [cells]
    | succ i => rw [show (i + 1) * 2 = i * 2 + 1 + 1 by omega, cells_cons, List.take_succ_cons, List.take_succ_cons, ih, List.take_succ_cons, cells_cons]
theorem cells_drop (xs : List (ByteArray × Int)) (i : Nat) : (cells xs).drop (i * 2) = cells (xs.drop i) := by
  induction xs generalizing i with
  | nil => simp [cells]
  | cons x xs ih =>
    cases i with
    | zero => simp
    | succ i => rw [show (i + 1) * 2 = i * 2 + 1 + 1 by omega, cells_cons, List.drop_succ_cons, List.drop_succ_cons, ih, List.drop_succ_cons]
theorem size_row : (Try.prog.info? 95).map (·.size) = some 2 := by kernel_rfl
theorem sizeof_row : ∀ w, (Go.sizeOf 95).run Try.prog w = .ok 2 w := by
  intro w
  cases hq : Try.prog.info? 95 with
  | none => have := size_row; rw [hq] at this; cases this
  | some i => have := size_row; rw [hq] at this; simp at this; simp [Go.sizeOf, typeInfo, hq, this]
set_option maxHeartbeats 4000000 in
set_option maxRecDepth 100000 in
theorem ins_room (base g cap : Nat) (xs : List (ByteArray × Int)) (i vb : Nat) (x : ByteArray × Int) (w : World) (hR : Rows w base (.slice (some ⟨g, 0, none⟩) xs.length cap) xs) (hN : New w vb x) (hi : i < xs.length) (hroom : xs.length + 1 ≤ cap) (hvb : vb ≠ g)
    (tA : TypeId) (kA : Nat) (hsa : w.shape? vb = some (tA, kA)) (hfa : w.frozen? ⟨vb, 0, none⟩ = false) (hfe : w.frozen? ⟨vb, kA, none⟩ = false) :
    Calls Try.prog 54 #[.slice (some ⟨g, 0, none⟩) xs.length cap, .int .i64 (i : Int), .slice (some ⟨vb, 0, none⟩) 1 1] w fun e w' => After w base (.slice (some ⟨g, 0, none⟩) xs.length cap) (xs.take i ++ [x] ++ xs.drop i) e w' := by
  obtain ⟨cur, hbg, hcur, hnc, hcm, hcs, htk⟩ := own_cur hR
  have hlen : (cells xs).length = xs.length * 2 := cells_len xs
  have hc63 : cap ≤ 9223372036854775807 := by unfold maxLen at hcm; omega
  obtain ⟨n, hn⟩ : ∃ n, n = xs.length := ⟨_, rfl⟩
  have hwd : w.drew.heap[g]? = some (.cells cur 95 (0, 0)) := hcur
  obtain ⟨row1, hrow1⟩ : ∃ row1, cur.toList.take ((i + 1) * 2) ++ (cells (xs.drop i) ++ cur.toList.drop ((i + 1) * 2 + (cells (xs.drop i)).length)) = row1 := ⟨_, rfl⟩
  obtain ⟨row2, hrow2⟩ : ∃ row2, row1.take (i * 2) ++ ([(Value.string x.1), (Value.int .i64 x.2)] ++ row1.drop (i * 2 + 2)) = row2 := ⟨_, rfl⟩
  have hdl : (cells (xs.drop i)).length = (n - i) * 2 := by rw [cells_len, List.length_drop, hn]
  have hcl : cur.toList.length = cap * 2 := by rw [Array.length_toList, hcs]
  have hsplit : cur.toList = cells (xs.take i) ++ cells (xs.drop i) ++ cur.toList.drop (n * 2) := by
    rw [← cells_append, List.take_append_drop, ← htk, hn]; exact (List.take_append_drop _ _).symm
  have htl : (cells (xs.take i)).length = i * 2 := by rw [cells_len, List.length_take]; omega
  have h2c := two_copies cur.toList (cells (xs.take i)) (cells (xs.drop i)) [(Value.string x.1), (Value.int .i64 x.2)] (cur.toList.drop (n * 2)) (i * 2) htl rfl hsplit (by rw [List.length_drop, hcl]; omega)
  rw [show i * 2 + 2 = (i + 1) * 2 by omega] at h2c
  simp only [List.length_cons, List.length_nil] at h2c
  rw [hrow1, show i * 2 + (0 + 1 + 1) = i * 2 + 2 by omega, hrow2] at h2c
  obtain ⟨hfin, hr1l⟩ := h2c
  have hcp1 : ∀ ty dL dc sL sc, dL = n - i → sL = n + 1 - i → (Builtin.copy_ #[91, 91] ty #[.slice (some ⟨g, (i + 1) * 2, none⟩) dL dc, .slice (some ⟨g, i * 2, none⟩) sL sc]).run Try.prog w.drew = .ok (goInt (Nat.min sL dL)) (w.drew.setRow g row1.toArray) := fun ty dL dc sL sc h1 h2 => by
    rw [← hrow1]
    exact run_copy2 w.drew _ _ ty 95 g ((i + 1) * 2) dL dc ⟨g, i * 2, none⟩ sL sc 2 cur _ (cells (xs.drop i)) Try.underlying91 size_row hwd (by rw [hdl, h1, h2]; simp only [Nat.min_def]; split <;> omega)
      (fun j v hj => by
        rw [Addr.add_lit]
        refine (cell_of_row w.drew g _ _ _ _ hwd).trans ?_
        rw [← Array.getElem?_toList, hsplit, List.append_assoc, List.getElem?_append_right (by omega), htl, show i * 2 + j - i * 2 = j by omega, List.getElem?_append_left (List.getElem?_eq_some_iff.1 hj).1]
        exact hj)
      (by rw [hdl, hcs]; omega) (cells_one _)
  have hw1 : (w.drew.setRow g row1.toArray).heap[g]? = some (.cells row1.toArray 95 (0, 0)) := setRow_heap _ g _ _ _ _ hwd
  have hcp2 : ∀ W : World, W.heap = (w.drew.setRow g row1.toArray).heap → ∀ ty dL dc, 1 ≤ dL → (Builtin.copy_ #[91, 91] ty #[.slice (some ⟨g, i * 2, none⟩) dL dc, .slice (some ⟨vb, 0, none⟩) 1 1]).run Try.prog W = .ok (goInt 1) (W.setRow g row2.toArray) := fun W hW ty dL dc h1 => by
    have h := run_copy2 W 91 91 ty 95 g (i * 2) dL dc ⟨vb, 0, none⟩ 1 1 2 row1.toArray _ [(Value.string x.1), (Value.int .i64 x.2)] Try.underlying91 size_row (by rw [hW]; exact hw1) (by rw [show Nat.min 1 dL = 1 by simp only [Nat.min_def]; split <;> omega]; rfl)
      (fun j v hj => by
        have := hN.cells j v hj
        rw [← this]
        simp only [Addr.add_lit] at *
        unfold World.cell?
        rw [hW, setRow_other _ g vb _ hvb]
        rfl)
      (by simp; omega) (by intro u hu; simp at hu; rcases hu with rfl | rfl <;> rfl)
    rw [show Nat.min 1 dL = 1 by simp only [Nat.min_def]; split <;> omega] at h
    rw [h, ← hrow2]
    simp
  have hov : ∀ lb cb, (callFunc 71 #[.slice (some ⟨vb, 0, none⟩) 1 1, .slice (some ⟨g, (i + 1) * 2, none⟩) lb cb]).run Try.prog w = .ok (.value (.bool false)) w := fun lb cb => by
    rw [run_callFunc_extern Try.func71 (by kernel_rfl) (by kernel_rfl) (by kernel_rfl) (e := Extern.SlicesOverlaps.overlaps #[91, 91] #[4]) (by kernel_rfl),
      Lib.run_overlaps_apart w 91 4 95 Try.underlying91 2 sizeof_row ⟨vb, 0, none⟩ ⟨g, (i + 1) * 2, none⟩ 1 1 lb cb hvb tA 95 kA cur.size hsa (shape_of hcur) (by omega) hfa hfe]
    rfl
  have hz1 : ¬ ((i : Int) = (xs.length : Int)) := by omega
  have hz3 : ¬ ((cap : Int) < (xs.length : Int) + 1) := by omega
  have hcp3 := fun ty => hcp2 (w.drew.setRow g row1.toArray) rfl ty (xs.length + 1 - i) (cap - i) (by omega)
  have mixed : Try.prog.follows Departure.mixedOrders = true := by kernel_rfl
  have hwr : IntKind.i64.wrap ((i : Int) + 1) = (i : Int) + 1 := by rw [IntKind.wrap_i64]; omega
  have hb1 : (0 : Int) ≤ (i : Int) + 1 := by omega
  have hb2 : ¬ (cap = i + 1) := by omega
  have hb3 : (i : Int) + 1 ≤ (xs.length : Int) + 1 := by omega
  have hb4 : ¬ (cap = i) := by omega
  have hb5 : (i : Int) ≤ (xs.length : Int) + 1 := by omega
  have htn : ((i : Int) + 1).toNat = i + 1 := by omega
  go_enter Try.func54, Try.ntmps54
  go_wp2_with (simp only [hov])
  go_region_law_o (refine step_copy_runI rfl _ _ 91 91 rfl _ _ (by simp [Act.eval, Act.put]) (by simp [Act.eval, Act.put]) (hcp1 _ _ _ _ _ (by omega) (by omega)) ?_)
  go_wp2
  go_ret
  have hw2 := setRow_heap (w.drew.setRow g row1.toArray) g row1.toArray row2.toArray _ _ hw1
  have hr2l : row2.length = cap * 2 := by rw [← hrow2]; simp; omega
  have hlen2 : (xs.take i ++ [x] ++ xs.drop i).length = xs.length + 1 := by simp; omega
  refine ⟨.slice (some ⟨g, 0, none⟩) (xs.length + 1) cap, rfl, ?_, ?_, .inl rfl⟩
  · unfold Rows
    rw [hlen2]
    refine ⟨by rw [cells_len, hlen2], .inr ⟨g, cap, row2.toArray, rfl, hbg, hw2, by omega, hcm, by simp [hr2l], ?_⟩⟩
    have e : (xs.length + 1) * 2 = (i + 1) * 2 + (cells (xs.drop i)).length := by rw [hdl]; omega
    rw [e]
    simp only [cells_append]
    exact hfin
  · exact grown_setRow (grown_setRow (row := some g) (w := w) (W := w.drew) ⟨rfl, rfl, rfl, Nat.le_refl _, fun k _ _ => rfl⟩ _ (.inl rfl)) _ (.inl rfl)

/-! ### into a new row -/
theorem zero_size (n : Nat) : (Builtin.zeroCells (Value.agg #[(Value.string (⟨#[]⟩ : ByteArray)), (Value.int .i64 0)]).cells n).size = n * 2 := by simp [Builtin.zeroCells, Value.cells]
set_option maxHeartbeats 4000000 in
set_option maxRecDepth 100000 in
theorem ins_grow (base g cap : Nat) (xs : List (ByteArray × Int)) (i vb : Nat) (x : ByteArray × Int) (w : World) (hR : Rows w base (.slice (some ⟨g, 0, none⟩) xs.length cap) xs) (hN : New w vb x) (hi : i < xs.length) (hroom : cap < xs.length + 1) (hl : xs.length ≤ 1099511627776) (hbase : base ≤ w.heap.size) :
    Calls Try.prog 54 #[.slice (some ⟨g, 0, none⟩) xs.length cap, .int .i64 (i : Int), .slice (some ⟨vb, 0, none⟩) 1 1] w fun e w' => After w base (.slice (some ⟨g, 0, none⟩) xs.length cap) (xs.take i ++ [x] ++ xs.drop i) e w' := by
  obtain ⟨cur, hbg, hcur, hnc, hcm, hcs, htk⟩ := own_cur hR
  obtain ⟨i0, hi0, hz0, hzs, hzb⟩ := info_parts info_row
  have hgw : g < w.heap.size := (Array.getElem?_eq_some_iff.1 hcur).1
  have hvw : vb < w.heap.size := by
    rcases Nat.lt_or_ge vb w.heap.size with h | h
    · exact h
    · have := hN.c0
      unfold World.cell? at this
      rw [Array.getElem?_eq_none h] at this
      cases this
  have hdl : (cells (xs.drop i)).length = (xs.length - i) * 2 := by rw [cells_len, List.length_drop]
  have htl : (cells (xs.take i)).length = i * 2 := by rw [cells_len, List.length_take]; omega
  have hcl : cur.toList.length = cap * 2 := by rw [Array.length_toList, hcs]
  have hsplit : cur.toList = cells (xs.take i) ++ cells (xs.drop i) ++ cur.toList.drop (xs.length * 2) := by
    rw [← cells_append, List.take_append_drop, ← htk]; exact (List.take_append_drop _ _).symm
  have hold : (Builtin.firstCells i0.size i (.slice (some ⟨g, 0, none⟩) i cap)).run Try.prog w.drew = .ok (cells (xs.take i)).toArray w.drew := by
    rw [hzs]
    exact run_firstCells_some (P := Try.prog) w.drew 2 i ⟨g, 0, none⟩ i cap (cells (xs.take i)) htl (fun j v hj => by
      rw [Addr.add_lit, Nat.zero_add]
      refine (cell_of_row w.drew g _ _ _ _ hcur).trans ?_
      rw [← Array.getElem?_toList, hsplit, List.append_assoc, List.getElem?_append_left (List.getElem?_eq_some_iff.1 hj).1]
      exact hj)
  have hkk : (xs.length : Int) + 1 - (i : Int) = ((xs.length + 1 - i : Nat) : Int) := by omega
  have hik : i + (xs.length + 1 - i) = xs.length + 1 := by omega
  obtain ⟨G, hG⟩ : ∃ G, G = grownCap w (xs.length + 1) cap 95 := ⟨_, rfl⟩
  obtain ⟨ROW, hROW⟩ : ∃ ROW : Array Value, ROW = (cells (xs.take i)).toArray ++ Builtin.zeroCells (Value.agg #[(Value.string (⟨#[]⟩ : ByteArray)), (Value.int .i64 0)]).cells (xs.length + 1 - i) ++ Builtin.zeroCells (Value.agg #[(Value.string (⟨#[]⟩ : ByteArray)), (Value.int .i64 0)]).cells (G - (xs.length + 1)) := ⟨_, rfl⟩
  have hrz : ∀ ty, (Builtin.append_ #[91, 3] ty #[.slice (some ⟨g, 0, none⟩) i cap, .int .i64 ((xs.length : Int) + 1 - (i : Int))]).run Try.prog w = .ok (.slice (some ⟨w.heap.size, 0, none⟩) (xs.length + 1) G) (w.drew.alloc (.cells ROW 95)) := fun ty => by
    have h := Lib.run_append_grow_zeros w 91 3 ty 95 i0 _ .i64 .i64 Try.underlying91 Try.underlying3 hi0 hz0 (some ⟨g, 0, none⟩) i cap (cells (xs.take i)) hold (xs.length + 1 - i) (by omega) (by omega) (by omega) (by omega) (by rw [hzb]; omega) (by rw [hzb, hik]; exact growslice_fits hroom (by omega))
    rw [hik] at h
    rw [hkk, hROW, hG]
    exact h
  have hGn : xs.length + 1 ≤ G := by rw [hG]; exact grownCap_ge w _ _ _
  have hGm : G ≤ maxLen := by rw [hG]; exact grownCap_le_maxLen w _ _ _ (by unfold maxLen; omega)
  have hG63 : G ≤ 9223372036854775807 := by unfold maxLen at hGm; omega
  have hRs : ROW.size = G * 2 := by rw [hROW, Array.size_append, Array.size_append, zero_size, zero_size, List.size_toArray, htl]; omega
  have hRt : ROW.toList.take (i * 2) = cells (xs.take i) := by
    rw [hROW]; simp only [Array.toList_append, List.append_assoc]
    rw [List.take_append_of_le_length (by rw [htl]; exact Nat.le_refl _), List.take_of_length_le (by rw [htl]; exact Nat.le_refl _)]
  obtain ⟨rowA, hrowA⟩ : ∃ rowA, ROW.toList.take (i * 2) ++ ([(Value.string x.1), (Value.int .i64 x.2)] ++ ROW.toList.drop (i * 2 + 2)) = rowA := ⟨_, rfl⟩
  obtain ⟨rowB, hrowB⟩ : ∃ rowB, rowA.take ((i + 1) * 2) ++ (cells (xs.drop i) ++ rowA.drop ((i + 1) * 2 + (cells (xs.drop i)).length)) = rowB := ⟨_, rfl⟩
  have hAl : rowA.length = G * 2 := by rw [← hrowA]; simp [hRs]; omega
  have hBl : rowB.length = G * 2 := by rw [← hrowB]; simp [hAl]; omega
  have hAt : rowA.take ((i + 1) * 2) = cells (xs.take i) ++ [(Value.string x.1), (Value.int .i64 x.2)] := by
    rw [← hrowA, hRt, ← List.append_assoc, List.take_append_of_le_length (by simp [htl]; omega), List.take_of_length_le (by simp [htl]; omega)]
  have hBt : rowB.take ((xs.length + 1) * 2) = cells (xs.take i) ++ [(Value.string x.1), (Value.int .i64 x.2)] ++ cells (xs.drop i) := by
    rw [← hrowB, hAt, ← List.append_assoc, List.take_append_of_le_length (by simp [htl, hdl]; omega), List.take_of_length_le (by simp [htl, hdl]; omega)]
  obtain ⟨W1, hW1⟩ : ∃ W1, W1 = w.drew.alloc (.cells ROW 95) := ⟨_, rfl⟩
  have hn1 : W1.heap[w.heap.size]? = some (.cells ROW 95 (0, 0)) := by rw [hW1]; exact heap_alloc_new w.drew _
  have ho1 : ∀ k, k < w.heap.size → W1.heap[k]? = w.heap[k]? := fun k hk => by rw [hW1]; exact Below.heap_alloc w.drew _ k hk
  have hcpA : ∀ W : World, W.heap = W1.heap → ∀ ty dL dc, 1 ≤ dL → (Builtin.copy_ #[91, 91] ty #[.slice (some ⟨w.heap.size, i * 2, none⟩) dL dc, .slice (some ⟨vb, 0, none⟩) 1 1]).run Try.prog W = .ok (goInt 1) (W.setRow w.heap.size rowA.toArray) := fun W hW ty dL dc h1 => by
    have h := run_copy2 W 91 91 ty 95 w.heap.size (i * 2) dL dc ⟨vb, 0, none⟩ 1 1 2 ROW _ [(Value.string x.1), (Value.int .i64 x.2)] Try.underlying91 size_row (by rw [hW]; exact hn1) (by rw [show Nat.min 1 dL = 1 by simp only [Nat.min_def]; split <;> omega]; rfl)
      (fun j v hj => by
        have := hN.cells j v hj
        rw [← this]
        simp only [Addr.add_lit] at *
        unfold World.cell?
        rw [hW, ho1 vb hvw])
      (by simp [hRs]; omega) (by intro u hu; simp at hu; rcases hu with rfl | rfl <;> rfl)
    rw [show Nat.min 1 dL = 1 by simp only [Nat.min_def]; split <;> omega] at h
    rw [h, ← hrowA]
    simp
  have hn2 : (W1.setRow w.heap.size rowA.toArray).heap[w.heap.size]? = some (.cells rowA.toArray 95 (0, 0)) := setRow_heap W1 w.heap.size _ _ _ _ hn1
  have hcpB : ∀ W : World, W.heap = (W1.setRow w.heap.size rowA.toArray).heap → ∀ ty dL dc sL sc, dL = xs.length - i → sL = xs.length - i → (Builtin.copy_ #[91, 91] ty #[.slice (some ⟨w.heap.size, (i + 1) * 2, none⟩) dL dc, .slice (some ⟨g, i * 2, none⟩) sL sc]).run Try.prog W = .ok (goInt (Nat.min sL dL)) (W.setRow w.heap.size rowB.toArray) := fun W hW ty dL dc sL sc h1 h2 => by
    have h := run_copy2 W 91 91 ty 95 w.heap.size ((i + 1) * 2) dL dc ⟨g, i * 2, none⟩ sL sc 2 rowA.toArray _ (cells (xs.drop i)) Try.underlying91 size_row (by rw [hW]; exact hn2) (by rw [hdl, h1, h2]; simp)
      (fun j v hj => by
        rw [Addr.add_lit]
        have hb : W.heap[g]? = w.heap[g]? := by rw [hW, setRow_other _ _ _ _ (by omega)]; exact ho1 g hgw
        have hc : W.cell? ⟨g, i * 2 + j, none⟩ = w.cell? ⟨g, i * 2 + j, none⟩ := by unfold World.cell?; rw [hb]
        rw [hc]
        refine (cell_of_row w g _ _ _ _ hcur).trans ?_
        rw [← Array.getElem?_toList, hsplit, List.append_assoc, List.getElem?_append_right (by omega), htl, show i * 2 + j - i * 2 = j by omega, List.getElem?_append_left (List.getElem?_eq_some_iff.1 hj).1]
        exact hj)
      (by simp [hdl, hAl]; omega) (cells_one _)
    rw [h, ← hrowB]
  have hz1 : ¬ ((i : Int) = (xs.length : Int)) := by omega
  have hz3 : (cap : Int) < (xs.length : Int) + 1 := by omega
  have mixed : Try.prog.follows Departure.mixedOrders = true := by kernel_rfl
  have hwr : IntKind.i64.wrap ((i : Int) + 1) = (i : Int) + 1 := by rw [IntKind.wrap_i64]; omega
  have hb1 : (0 : Int) ≤ (i : Int) + 1 := by omega
  have hb2 : ¬ (G = i + 1) := by omega
  have hb3 : (i : Int) + 1 ≤ (xs.length : Int) + 1 := by omega
  have hb4 : ¬ (G = i) := by omega
  have hb5 : (i : Int) ≤ (xs.length : Int) + 1 := by omega
  have hb6 : ¬ (cap = i) := by omega
  have hb7 : (i : Int) ≤ (xs.length : Int) := by omega
  have htn : ((i : Int) + 1).toNat = i + 1 := by omega
  rw [← hW1] at hrz
  have hcA := fun ty => hcpA W1 rfl ty (xs.length + 1 - i) (G - i) (by omega)
  have hgrown : w.grownBy W1 (some g) := by
    rw [hW1]; exact ⟨rfl, rfl, rfl, by simp, fun k hk _ => Below.heap_alloc w.drew _ k hk⟩
  clear hkk hik hold hROW hG hW1
  go_enter Try.func54, Try.ntmps54
  go_wp2_with (first
    | (at_builtin; refine Lib.wpList_append_run _ rfl _ _ _ _ rfl _ _ rfl rfl _ _ (hrz _) ?_)
    | (at_builtin; refine wpList_copy_runI _ rfl _ _ 91 91 rfl _ _ rfl rfl (hcA _) ?_))
  go_region_law_o (refine step_copy_runI rfl _ _ 91 91 rfl (.slice (some ⟨w.heap.size, (i + 1) * 2, none⟩) (xs.length - i) (G - (i + 1))) (.slice (some ⟨g, i * 2, none⟩) (xs.length - i) (cap - i)) (by simp [Act.eval, Act.put]) (by simp [Act.eval, Act.put]) (hcpB (W1.setRow w.heap.size rowA.toArray).drew rfl 3 (xs.length - i) (G - (i + 1)) (xs.length - i) (cap - i) rfl rfl) ?_)
  go_wp2
  go_ret
  have hw2 := setRow_heap (W1.setRow w.heap.size rowA.toArray).drew w.heap.size rowA.toArray rowB.toArray _ _ hn2
  have hlen2 : (xs.take i ++ [x] ++ xs.drop i).length = xs.length + 1 := by simp; omega
  refine ⟨.slice (some ⟨w.heap.size, 0, none⟩) (xs.length + 1) G, rfl, ?_, ?_, .inr rfl⟩
  · unfold Rows
    rw [hlen2]
    refine ⟨by rw [cells_len, hlen2], .inr ⟨w.heap.size, G, rowB.toArray, rfl, hbase, hw2, hGn, hGm, by simp [hBl], ?_⟩⟩
    simp only [cells_append]
    exact hBt
  · have h1 := grown_setRow hgrown rowA.toArray (g := w.heap.size) (.inr (Nat.le_refl _))
    have h2 : w.grownBy (W1.setRow w.heap.size rowA.toArray).drew (some g) := ⟨h1.os, h1.tape, h1.output, h1.size, h1.block⟩
    exact grown_setRow h2 rowB.toArray (.inr (Nat.le_refl _))
/-- slices.Insert of one row. -/
theorem insert_calls (base : Nat) (v : Value) (xs : List (ByteArray × Int)) (i vb : Nat) (x : ByteArray × Int) (w : World) (hR : Rows w base v xs) (hN : New w vb x) (hi : i ≤ xs.length) (hl : xs.length ≤ 1099511627776) (hbase : base ≤ w.heap.size) (hvb : v.ownBlock ≠ some vb)
    (tA : TypeId) (kA : Nat) (hsa : w.shape? vb = some (tA, kA)) (hfa : ∀ j, w.frozen? ⟨vb, j, none⟩ = false) :
    Calls Try.prog 54 #[v, .int .i64 (i : Int), .slice (some ⟨vb, 0, none⟩) 1 1] w fun e w' => After w base v (xs.take i ++ [x] ++ xs.drop i) e w' := by
  by_cases he : i = xs.length
  · subst he
    rw [List.take_length, List.drop_length, List.append_nil]
    exact ins_end base v xs vb x w hR hN hl hbase
  · obtain ⟨g, cap, rfl, hg, hnc⟩ := own_form hR (by omega)
    by_cases hroom : xs.length + 1 ≤ cap
    · exact ins_room base g cap xs i vb x w hR hN (by omega) hroom (fun e => hvb (by rw [e]; rfl)) tA kA hsa (hfa 0) (hfa kA)
    · exact ins_grow base g cap xs i vb x w hR hN (by omega) (by omega) hl hbase
end Go.Proofs.Ytbpaejbecgaepaa.TabSI
