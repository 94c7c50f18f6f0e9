/- slices.Insert at []string. -/
import Derived.Test.YtkbcfbelpjifnaaSpec18
import Derived.Lib.OthersKept
import Derived.Lib.Overlaps
import Derived.Lib.Walk
import Derived.Lib.SliceRun
import Derived.Laws.MakeOwn
import Derived.Laws.OwnMore
import Derived.Laws.CopyOwn
import Derived.Maps.AppendAt
import Derived.Shelf.Spec.SlicesInsertGrow
import Derived.Lib.SmallJoins
namespace Go.Proofs.Ytkbcfbelpjifnaa.Spec
open Go Go.RowKit Go.Proofs Go.Proofs.YtkbcfbelpjifnaaW.PrintWords Go.Proofs.Ytkbcfbelpjifnaa.PX Go.Proofs.Ytkbcfbelpjifnaa.Plain
set_option linter.unusedVariables false
set_option linter.unusedSimpArgs false

theorem own_form {w : World} {base size n : Nat} {e : TypeId} {v : Value} {cs : List Value} (h : w.ownsRow base e size v n cs) (hn : 0 < n) : ∃ g cap, v = .slice (some ⟨g, 0, none⟩) n cap ∧ g < w.heap.size ∧ n ≤ cap := by
  rcases h.2 with ⟨_, h0⟩ | ⟨g, cap, cur, hv, _, hb, hc, _⟩
  · omega
  · exact ⟨g, cap, hv, (Array.getElem?_eq_some_iff.1 hb).1, hc⟩
theorem own_slice {w : World} {base size n : Nat} {e : TypeId} {v : Value} {cs : List Value} (h : w.ownsRow base e size v n cs) : ∃ A c, v = .slice A n c := by
  rcases h.2 with ⟨hv, h0⟩ | ⟨g, cap, cur, hv, _⟩
  · exact ⟨none, 0, by rw [hv, h0]⟩
  · exact ⟨_, cap, hv⟩
theorem run_copy2 (w : World) (dT sT ty elem : TypeId) (g off dLen dCap : Nat) (ad : Addr) (sLen sCap size : Nat) (cur : Array Value) (t : TypeId) (cs : List Value)
    (hu : Try.prog.underlying dT = some (.slice elem)) (hs : (Try.prog.info? elem).map (·.size) = some size) (hg : w.heap[g]? = some (.cells cur t (0, 0))) (hn : cs.length = Nat.min sLen dLen * size)
    (hsrc : ∀ j v, cs[j]? = some v → w.cell? (ad.add j) = some v) (hfit : off + cs.length ≤ cur.size) (h1 : ∀ v ∈ cs, v.oneCell' = true) :
    (Builtin.copy_ #[dT, sT] ty #[.slice (some ⟨g, off, none⟩) dLen dCap, .slice (some ad) sLen sCap]).run Try.prog w = .ok (goInt (Nat.min sLen dLen)) (w.setRow g (cur.toList.take off ++ (cs ++ cur.toList.drop (off + cs.length))).toArray) := by
  have hl := run_loadCells_list (P := Try.prog) w ad cs hsrc
  have hst := run_storeCells_at (P := Try.prog) g off t cs 0 cur w hg (by simpa using hfit) h1
  simp only [Nat.add_zero] at hst
  cases hq : Try.prog.info? elem with
  | none => simp [hq] at hs
  | some i =>
    have hi : i.size = size := by simpa [hq] using hs
    simp [Builtin.copy_, run_underlying hu, Builtin.lenOf, Builtin.firstCells, sizeOf, typeInfo, hq, hi, ← hn, hl, hst]
abbrev Strs (w : World) (base : Nat) (v : Value) (xs : List ByteArray) : Prop := w.ownsRow base 9 1 v xs.length (strs xs)
theorem strs_len (xs : List ByteArray) : (strs xs).length = xs.length := by simp [strs]
theorem strs_append (a b : List ByteArray) : strs (a ++ b) = strs a ++ strs b := by simp [strs]
/-- What an insert leaves: a row that is s's own or new, all else as it was. -/
def After (w : World) (base : Nat) (v : Value) (ys : List ByteArray) (e : Ending) (w' : World) : Prop :=
  ∃ v', e = .returned v' ∧ Strs w' base v' ys ∧ w.grownBy w' v.ownBlock ∧ (v'.ownBlock = v.ownBlock ∨ v'.ownBlock = some w.heap.size)
/-- The text to be laid in. -/
structure NewS (w : World) (vb : Nat) (x : ByteArray) : Prop where
  c0 : w.cell? ⟨vb, 0, none⟩ = some (.string x)
theorem NewS.cells {w : World} {vb : Nat} {x : ByteArray} (h : NewS w vb x) : ∀ j u, [Value.string x][j]? = some u → w.cell? ((⟨vb, 0, none⟩ : Addr).add j) = some u := by
  intro j u hj
  match j, hj with
  | 0, hj => simp at hj; subst hj; simpa [Addr.add] using h.c0
  | (j + 1), hj => simp at hj
set_option maxHeartbeats 4000000 in
set_option maxRecDepth 100000 in
theorem ins_end (base : Nat) (v : Value) (xs : List ByteArray) (vb : Nat) (x : ByteArray) (w : World) (hR : Strs w base v xs) (hN : NewS w vb x) (hl : xs.length ≤ 1099511627776) (hbase : base ≤ w.heap.size) :
    Calls Try.prog 54 #[v, .int .i64 (xs.length : Int), .slice (some ⟨vb, 0, none⟩) 1 1] w fun e w' => After w base v (xs ++ [x]) e w' := by
  obtain ⟨A, c, rfl⟩ := own_slice hR
  obtain ⟨i0, hi, hz0, hz1, hz2⟩ := info3 info_str
  have hg : Value.slice A xs.length c = .slice A xs.length c := rfl
  go_enter Try.func54, Try.ntmps54
  go_wp2_with (at_builtin; go_must (refine wpList_append_own_at _ rfl (.tmp 23) (.tmp 24) 28 rfl base 9 i0 (.string (⟨#[]⟩ : ByteArray)) 1 16 Try.underlying28 hi hz0 hz1 hz2 rfl (by decide) (.slice A xs.length _) _ _ rfl hR ⟨vb, 0, none⟩ 1 1 [.string x] rfl rfl hN.cells (by intro u hu; simp at hu; subst hu; rfl) (by unfold maxLen; omega) (by omega) hbase ?_; intro v3 w3 hown3 hgrow3 hnil3 hwhere3))
  all_goals go_ret
  all_goals refine ⟨v3, rfl, by unfold Strs; rw [List.length_append, strs_append]; exact hown3, ?_, ?_⟩
  all_goals first | exact hgrow3 | exact hwhere3 | (cases A <;> first | exact hgrow3 | exact hwhere3)

/-! ### within the row -/
theorem grown_setRow {w W : World} {row : Option Nat} {g : Nat} (h : w.grownBy W row) (cs : Array Value) (hg : row = some g ∨ w.heap.size ≤ g) : w.grownBy (W.setRow g cs) row := by
  refine ⟨h.os, h.tape, h.output, by simpa [World.setRow] using h.size, fun k hk hne => ?_⟩
  have hkg : k ≠ g := by
    rintro rfl
    rcases hg with rfl | hg
    · exact hne rfl
    · omega
  exact (setRow_other W g k cs hkg).trans (h.block k hk hne)
theorem own_cur {w : World} {base n g cap : Nat} {e : TypeId} {cs : List Value} (h : w.ownsRow base e 1 (.slice (some ⟨g, 0, none⟩) n cap) n cs) : ∃ cur : Array Value, base ≤ g ∧ w.heap[g]? = some (.cells cur e (0, 0)) ∧ n ≤ cap ∧ cap ≤ maxLen ∧ cur.size = cap ∧ cur.toList.take n = cs := by
  rcases h.2 with ⟨hv, _⟩ | ⟨g', cap', cur, hv, r1, r2, r3, r4, r5, r6⟩
  · cases hv
  · cases hv
    rw [Nat.mul_one] at r5 r6
    exact ⟨cur, r1, r2, r3, r4, r5, r6⟩
/-- The two copies of an insert within a row. -/
theorem two_copies (L P Q N R : List Value) (i : Nat) (hP : P.length = i) (hN : N.length = 1) (h : L = P ++ Q ++ R) (hR : 1 ≤ R.length) :
    (let r1 := L.take (i + 1) ++ (Q ++ L.drop (i + 1 + Q.length)); (r1.take i ++ (N ++ r1.drop (i + N.length))).take (i + 1 + Q.length)) = P ++ N ++ Q ∧
    (L.take (i + 1) ++ (Q ++ L.drop (i + 1 + Q.length))).length = L.length := by
  subst h
  subst hP
  constructor
  · simp only [hN]
    rw [List.append_assoc P Q R]
    have e1 : (P ++ (Q ++ R)).take (P.length + 1) = P ++ (Q ++ R).take 1 := by rw [List.take_append, List.take_of_length_le (by omega)]; congr 1; congr 1; omega
    have l2 : ((Q ++ R).take 1).length = 1 := by rw [List.length_take, List.length_append]; omega
    rw [e1]
    generalize (Q ++ R).take 1 = T at l2
    generalize (P ++ (Q ++ R)).drop (P.length + 1 + Q.length) = D
    rw [List.append_assoc P T, List.take_left, List.drop_append, List.drop_of_length_le (by omega), List.nil_append, show P.length + 1 - P.length = 1 by omega, List.drop_append, List.drop_of_length_le (by omega), List.nil_append, l2, Nat.sub_self, List.drop_zero]
    rw [show P.length + 1 + Q.length = (P ++ N ++ Q).length by simp [hN]; omega, show P ++ (N ++ (Q ++ D)) = (P ++ N ++ Q) ++ D by simp, List.take_left]
  · simp; omega
theorem shape_of {w : World} {g : Nat} {cur : Array Value} {t : TypeId} (h : w.heap[g]? = some (.cells cur t (0, 0))) : w.shape? g = some (t, cur.size) := by simp [World.shape?, h]
theorem size_str : (Try.prog.info? 9).map (·.size) = some 1 := by kernel_rfl
theorem sizeof_str : ∀ w, (Go.sizeOf 9).run Try.prog w = .ok 1 w := by
  intro w
  cases hq : Try.prog.info? 9 with
  | none => have := size_str; rw [hq] at this; cases this
  | some i => have := size_str; rw [hq] at this; simp at this; simp [Go.sizeOf, typeInfo, hq, this]
set_option maxHeartbeats 4000000 in
set_option maxRecDepth 100000 in
theorem ins_room (base g cap : Nat) (xs : List ByteArray) (i vb : Nat) (x : ByteArray) (w : World) (hR : Strs w base (.slice (some ⟨g, 0, none⟩) xs.length cap) xs) (hN : NewS w vb x) (hi : i < xs.length) (hroom : xs.length + 1 ≤ cap) (hvb : vb ≠ g)
    (tA : TypeId) (kA : Nat) (hsa : w.shape? vb = some (tA, kA)) (hfa : w.frozen? ⟨vb, 0, none⟩ = false) (hfe : w.frozen? ⟨vb, kA, none⟩ = false) :
    Calls Try.prog 54 #[.slice (some ⟨g, 0, none⟩) xs.length cap, .int .i64 (i : Int), .slice (some ⟨vb, 0, none⟩) 1 1] w fun e w' => After w base (.slice (some ⟨g, 0, none⟩) xs.length cap) (xs.take i ++ [x] ++ xs.drop i) e w' := by
  obtain ⟨cur, hbg, hcur, hnc, hcm, hcs, htk⟩ := own_cur hR
  have hlen : (strs xs).length = xs.length := strs_len xs
  have hc63 : cap ≤ 9223372036854775807 := by unfold maxLen at hcm; omega
  obtain ⟨n, hn⟩ : ∃ n, n = xs.length := ⟨_, rfl⟩
  have hwd : w.drew.heap[g]? = some (.cells cur 9 (0, 0)) := hcur
  obtain ⟨row1, hrow1⟩ : ∃ row1, cur.toList.take ((i + 1)) ++ (strs (xs.drop i) ++ cur.toList.drop ((i + 1) + (strs (xs.drop i)).length)) = row1 := ⟨_, rfl⟩
  obtain ⟨row2, hrow2⟩ : ∃ row2, row1.take (i) ++ ([.string x] ++ row1.drop (i + 1)) = row2 := ⟨_, rfl⟩
  have hdl : (strs (xs.drop i)).length = (n - i) := by rw [strs_len, List.length_drop, hn]
  have hcl : cur.toList.length = cap := by rw [Array.length_toList, hcs]
  have hsplit : cur.toList = strs (xs.take i) ++ strs (xs.drop i) ++ cur.toList.drop (n) := by
    rw [← strs_append, List.take_append_drop, ← htk, hn]; exact (List.take_append_drop _ _).symm
  have htl : (strs (xs.take i)).length = i := by rw [strs_len, List.length_take]; omega
  have h2c := two_copies cur.toList (strs (xs.take i)) (strs (xs.drop i)) [.string x] (cur.toList.drop (n)) (i) htl rfl hsplit (by rw [List.length_drop, hcl]; omega)
  rw [show i + 1 = (i + 1) by omega] at h2c
  simp only [List.length_cons, List.length_nil] at h2c
  rw [hrow1, show i + (0 + 1) = i + 1 by omega, hrow2] at h2c
  obtain ⟨hfin, hr1l⟩ := h2c
  have hcp1 : ∀ ty dL dc sL sc, dL = n - i → sL = n + 1 - i → (Builtin.copy_ #[28, 28] ty #[.slice (some ⟨g, (i + 1), none⟩) dL dc, .slice (some ⟨g, i, none⟩) sL sc]).run Try.prog w.drew = .ok (goInt (Nat.min sL dL)) (w.drew.setRow g row1.toArray) := fun ty dL dc sL sc h1 h2 => by
    rw [← hrow1]
    exact run_copy2 w.drew _ _ ty 9 g ((i + 1)) dL dc ⟨g, i, none⟩ sL sc 1 cur _ (strs (xs.drop i)) Try.underlying28 size_str hwd (by rw [hdl, h1, h2]; simp only [Nat.min_def]; split <;> omega)
      (fun j v hj => by
        rw [Addr.add_lit]
        refine (cell_of_row w.drew g _ _ _ _ hwd).trans ?_
        rw [← Array.getElem?_toList, hsplit, List.append_assoc, List.getElem?_append_right (by omega), htl, show i + j - i = j by omega, List.getElem?_append_left (List.getElem?_eq_some_iff.1 hj).1]
        exact hj)
      (by rw [hdl, hcs]; omega) (strs_one _)
  have hw1 : (w.drew.setRow g row1.toArray).heap[g]? = some (.cells row1.toArray 9 (0, 0)) := setRow_heap _ g _ _ _ _ hwd
  have hcp2 : ∀ W : World, W.heap = (w.drew.setRow g row1.toArray).heap → ∀ ty dL dc, 1 ≤ dL → (Builtin.copy_ #[28, 28] ty #[.slice (some ⟨g, i, none⟩) dL dc, .slice (some ⟨vb, 0, none⟩) 1 1]).run Try.prog W = .ok (goInt 1) (W.setRow g row2.toArray) := fun W hW ty dL dc h1 => by
    have h := run_copy2 W 28 28 ty 9 g (i) dL dc ⟨vb, 0, none⟩ 1 1 1 row1.toArray _ [.string x] Try.underlying28 size_str (by rw [hW]; exact hw1) (by rw [show Nat.min 1 dL = 1 by simp only [Nat.min_def]; split <;> omega]; rfl)
      (fun j v hj => by
        have := hN.cells j v hj
        rw [← this]
        simp only [Addr.add_lit] at *
        unfold World.cell?
        rw [hW, setRow_other _ g vb _ hvb]
        rfl)
      (by simp; omega) (by intro u hu; simp at hu; subst hu; rfl)
    rw [show Nat.min 1 dL = 1 by simp only [Nat.min_def]; split <;> omega] at h
    rw [h, ← hrow2]
    simp
  have hov : ∀ lb cb, (callFunc 60 #[.slice (some ⟨vb, 0, none⟩) 1 1, .slice (some ⟨g, (i + 1), none⟩) lb cb]).run Try.prog w = .ok (.value (.bool false)) w := fun lb cb => by
    rw [run_callFunc_extern Try.func60 (by kernel_rfl) (by kernel_rfl) (by kernel_rfl) (e := Extern.SlicesOverlaps.overlaps #[28, 28] #[4]) (by kernel_rfl),
      Lib.run_overlaps_apart w 28 4 9 Try.underlying28 1 sizeof_str ⟨vb, 0, none⟩ ⟨g, (i + 1), none⟩ 1 1 lb cb hvb tA 9 kA cur.size hsa (shape_of hcur) (by omega) hfa hfe]
    rfl
  have hz1 : ¬ ((i : Int) = (xs.length : Int)) := by omega
  have hz3 : ¬ ((cap : Int) < (xs.length : Int) + 1) := by omega
  have hcp3 := fun ty => hcp2 (w.drew.setRow g row1.toArray) rfl ty (xs.length + 1 - i) (cap - i) (by omega)
  have mixed : Try.prog.follows Departure.mixedOrders = true := by kernel_rfl
  have hwr : IntKind.i64.wrap ((i : Int) + 1) = (i : Int) + 1 := by rw [IntKind.wrap_i64]; omega
  have hb1 : (0 : Int) ≤ (i : Int) + 1 := by omega
  have hb2 : ¬ (cap = i + 1) := by omega
  have hb3 : (i : Int) + 1 ≤ (xs.length : Int) + 1 := by omega
  have hb4 : ¬ (cap = i) := by omega
  have hb5 : (i : Int) ≤ (xs.length : Int) + 1 := by omega
  have htn : ((i : Int) + 1).toNat = i + 1 := by omega
  go_enter Try.func54, Try.ntmps54
  go_wp2_with (simp only [hov])
  go_region_law_o (refine step_copy_runI rfl _ _ 28 28 rfl _ _ (by simp [Act.eval, Act.put]) (by simp [Act.eval, Act.put]) (hcp1 _ _ _ _ _ (by omega) (by omega)) ?_)
  go_wp2
  go_ret
  have hw2 := setRow_heap (w.drew.setRow g row1.toArray) g row1.toArray row2.toArray _ _ hw1
  have hr2l : row2.length = cap := by rw [← hrow2]; simp; omega
  have hlen2 : (xs.take i ++ [x] ++ xs.drop i).length = xs.length + 1 := by simp; omega
  refine ⟨.slice (some ⟨g, 0, none⟩) (xs.length + 1) cap, rfl, ?_, ?_, .inl rfl⟩
  · unfold Strs
    rw [hlen2]
    refine ⟨by rw [strs_len, hlen2, Nat.mul_one], .inr ⟨g, cap, row2.toArray, rfl, hbg, hw2, by omega, hcm, by simp [hr2l], ?_⟩⟩
    have e : (xs.length + 1) = (i + 1) + (strs (xs.drop i)).length := by rw [hdl]; omega
    rw [Nat.mul_one, e]
    simp only [strs_append]
    exact hfin
  · exact grown_setRow (grown_setRow (row := some g) (w := w) (W := w.drew) ⟨rfl, rfl, rfl, Nat.le_refl _, fun k _ _ => rfl⟩ _ (.inl rfl)) _ (.inl rfl)

/-! ### into a new row -/
set_option maxHeartbeats 4000000 in
set_option maxRecDepth 100000 in
theorem ins_grow (base g cap : Nat) (xs : List ByteArray) (i vb : Nat) (x : ByteArray) (w : World) (hR : Strs w base (.slice (some ⟨g, 0, none⟩) xs.length cap) xs) (hN : NewS w vb x) (hi : i < xs.length) (hroom : cap < xs.length + 1) (hl : xs.length ≤ 1099511627776) (hbase : base ≤ w.heap.size) :
    Calls Try.prog 54 #[.slice (some ⟨g, 0, none⟩) xs.length cap, .int .i64 (i : Int), .slice (some ⟨vb, 0, none⟩) 1 1] w fun e w' => After w base (.slice (some ⟨g, 0, none⟩) xs.length cap) (xs.take i ++ [x] ++ xs.drop i) e w' := by
  obtain ⟨cur, hbg, hcur, hnc, hcm, hcs, htk⟩ := own_cur hR
  obtain ⟨i0, hi0, hz0, hzs, hzb⟩ := info3 info_str
  have hgw : g < w.heap.size := (Array.getElem?_eq_some_iff.1 hcur).1
  have hvw : vb < w.heap.size := by
    rcases Nat.lt_or_ge vb w.heap.size with h | h
    · exact h
    · have := hN.c0
      unfold World.cell? at this
      rw [Array.getElem?_eq_none h] at this
      cases this
  have hdl : (strs (xs.drop i)).length = (xs.length - i) := by rw [strs_len, List.length_drop]
  have htl : (strs (xs.take i)).length = i := by rw [strs_len, List.length_take]; omega
  have hcl : cur.toList.length = cap := by rw [Array.length_toList, hcs]
  have hsplit : cur.toList = strs (xs.take i) ++ strs (xs.drop i) ++ cur.toList.drop (xs.length) := by
    rw [← strs_append, List.take_append_drop, ← htk]; exact (List.take_append_drop _ _).symm
  have hold : (Builtin.firstCells i0.size i (.slice (some ⟨g, 0, none⟩) i cap)).run Try.prog w.drew = .ok (strs (xs.take i)).toArray w.drew := by
    rw [hzs]
    exact run_firstCells_some (P := Try.prog) w.drew 1 i ⟨g, 0, none⟩ i cap (strs (xs.take i)) (by rw [htl, Nat.mul_one]) (fun j v hj => by
      rw [Addr.add_lit, Nat.zero_add]
      refine (cell_of_row w.drew g _ _ _ _ hcur).trans ?_
      rw [← Array.getElem?_toList, hsplit, List.append_assoc, List.getElem?_append_left (List.getElem?_eq_some_iff.1 hj).1]
      exact hj)
  have hkk : (xs.length : Int) + 1 - (i : Int) = ((xs.length + 1 - i : Nat) : Int) := by omega
  have hik : i + (xs.length + 1 - i) = xs.length + 1 := by omega
  obtain ⟨G, hG⟩ : ∃ G, G = grownCap w (xs.length + 1) cap 9 := ⟨_, rfl⟩
  obtain ⟨ROW, hROW⟩ : ∃ ROW : Array Value, ROW = (strs (xs.take i)).toArray ++ Builtin.zeroCells (Value.string (⟨#[]⟩ : ByteArray)).cells (xs.length + 1 - i) ++ Builtin.zeroCells (Value.string (⟨#[]⟩ : ByteArray)).cells (G - (xs.length + 1)) := ⟨_, rfl⟩
  have hrz : ∀ ty, (Builtin.append_ #[28, 3] ty #[.slice (some ⟨g, 0, none⟩) i cap, .int .i64 ((xs.length : Int) + 1 - (i : Int))]).run Try.prog w = .ok (.slice (some ⟨w.heap.size, 0, none⟩) (xs.length + 1) G) (w.drew.alloc (.cells ROW 9)) := fun ty => by
    have h := Lib.run_append_grow_zeros w 28 3 ty 9 i0 _ .i64 .i64 Try.underlying28 Try.underlying3 hi0 hz0 (some ⟨g, 0, none⟩) i cap (strs (xs.take i)) hold (xs.length + 1 - i) (by omega) (by omega) (by omega) (by omega) (by rw [hzb]; omega) (by rw [hzb, hik]; exact growslice_fits hroom (by omega))
    rw [hik] at h
    rw [hkk, hROW, hG]
    exact h
  have hGn : xs.length + 1 ≤ G := by rw [hG]; exact grownCap_ge w _ _ _
  have hGm : G ≤ maxLen := by rw [hG]; exact grownCap_le_maxLen w _ _ _ (by unfold maxLen; omega)
  have hG63 : G ≤ 9223372036854775807 := by unfold maxLen at hGm; omega
  have hRs : ROW.size = G := by rw [hROW, Array.size_append, Array.size_append, zero_size, zero_size, List.size_toArray, htl]; omega
  have hRt : ROW.toList.take (i) = strs (xs.take i) := by
    rw [hROW]; simp only [Array.toList_append, List.append_assoc]
    rw [List.take_append_of_le_length (by rw [htl]; exact Nat.le_refl _), List.take_of_length_le (by rw [htl]; exact Nat.le_refl _)]
  obtain ⟨rowA, hrowA⟩ : ∃ rowA, ROW.toList.take (i) ++ ([.string x] ++ ROW.toList.drop (i + 1)) = rowA := ⟨_, rfl⟩
  obtain ⟨rowB, hrowB⟩ : ∃ rowB, rowA.take ((i + 1)) ++ (strs (xs.drop i) ++ rowA.drop ((i + 1) + (strs (xs.drop i)).length)) = rowB := ⟨_, rfl⟩
  have hAl : rowA.length = G := by rw [← hrowA]; simp [hRs]; omega
  have hBl : rowB.length = G := by rw [← hrowB]; simp [hAl]; omega
  have hAt : rowA.take ((i + 1)) = strs (xs.take i) ++ [.string x] := by
    rw [← hrowA, hRt, ← List.append_assoc, List.take_append_of_le_length (by simp [htl]; omega), List.take_of_length_le (by simp [htl]; omega)]
  have hBt : rowB.take ((xs.length + 1)) = strs (xs.take i) ++ [.string x] ++ strs (xs.drop i) := by
    rw [← hrowB, hAt, ← List.append_assoc, List.take_append_of_le_length (by simp [htl, hdl]; omega), List.take_of_length_le (by simp [htl, hdl]; omega)]
  obtain ⟨W1, hW1⟩ : ∃ W1, W1 = w.drew.alloc (.cells ROW 9) := ⟨_, rfl⟩
  have hn1 : W1.heap[w.heap.size]? = some (.cells ROW 9 (0, 0)) := by rw [hW1]; exact heap_alloc_new w.drew _
  have ho1 : ∀ k, k < w.heap.size → W1.heap[k]? = w.heap[k]? := fun k hk => by rw [hW1]; exact Below.heap_alloc w.drew _ k hk
  have hcpA : ∀ W : World, W.heap = W1.heap → ∀ ty dL dc, 1 ≤ dL → (Builtin.copy_ #[28, 28] ty #[.slice (some ⟨w.heap.size, i, none⟩) dL dc, .slice (some ⟨vb, 0, none⟩) 1 1]).run Try.prog W = .ok (goInt 1) (W.setRow w.heap.size rowA.toArray) := fun W hW ty dL dc h1 => by
    have h := run_copy2 W 28 28 ty 9 w.heap.size (i) dL dc ⟨vb, 0, none⟩ 1 1 1 ROW _ [.string x] Try.underlying28 size_str (by rw [hW]; exact hn1) (by rw [show Nat.min 1 dL = 1 by simp only [Nat.min_def]; split <;> omega]; rfl)
      (fun j v hj => by
        have := hN.cells j v hj
        rw [← this]
        simp only [Addr.add_lit] at *
        unfold World.cell?
        rw [hW, ho1 vb hvw])
      (by simp [hRs]; omega) (by intro u hu; simp at hu; subst hu; rfl)
    rw [show Nat.min 1 dL = 1 by simp only [Nat.min_def]; split <;> omega] at h
    rw [h, ← hrowA]
    simp
  have hn2 : (W1.setRow w.heap.size rowA.toArray).heap[w.heap.size]? = some (.cells rowA.toArray 9 (0, 0)) := setRow_heap W1 w.heap.size _ _ _ _ hn1
  have hcpB : ∀ W : World, W.heap = (W1.setRow w.heap.size rowA.toArray).heap → ∀ ty dL dc sL sc, dL = xs.length - i → sL = xs.length - i → (Builtin.copy_ #[28, 28] ty #[.slice (some ⟨w.heap.size, (i + 1), none⟩) dL dc, .slice (some ⟨g, i, none⟩) sL sc]).run Try.prog W = .ok (goInt (Nat.min sL dL)) (W.setRow w.heap.size rowB.toArray) := fun W hW ty dL dc sL sc h1 h2 => by
    have h := run_copy2 W 28 28 ty 9 w.heap.size ((i + 1)) dL dc ⟨g, i, none⟩ sL sc 1 rowA.toArray _ (strs (xs.drop i)) Try.underlying28 size_str (by rw [hW]; exact hn2) (by rw [hdl, h1, h2]; simp)
      (fun j v hj => by
        rw [Addr.add_lit]
        have hb : W.heap[g]? = w.heap[g]? := by rw [hW, setRow_other _ _ _ _ (by omega)]; exact ho1 g hgw
        have hc : W.cell? ⟨g, i + j, none⟩ = w.cell? ⟨g, i + j, none⟩ := by unfold World.cell?; rw [hb]
        rw [hc]
        refine (cell_of_row w g _ _ _ _ hcur).trans ?_
        rw [← Array.getElem?_toList, hsplit, List.append_assoc, List.getElem?_append_right (by omega), htl, show i + j - i = j by omega, List.getElem?_append_left (List.getElem?_eq_some_iff.1 hj).1]
        exact hj)
      (by simp [hdl, hAl]; omega) (strs_one _)
    rw [h, ← hrowB]
  have hz1 : ¬ ((i : Int) = (xs.length : Int)) := by omega
  have hz3 : (cap : Int) < (xs.length : Int) + 1 := by omega
  have mixed : Try.prog.follows Departure.mixedOrders = true := by kernel_rfl
  have hwr : IntKind.i64.wrap ((i : Int) + 1) = (i : Int) + 1 := by rw [IntKind.wrap_i64]; omega
  have hb1 : (0 : Int) ≤ (i : Int) + 1 := by omega
  have hb2 : ¬ (G = i + 1) := by omega
  have hb3 : (i : Int) + 1 ≤ (xs.length : Int) + 1 := by omega
  have hb4 : ¬ (G = i) := by omega
  have hb5 : (i : Int) ≤ (xs.length : Int) + 1 := by omega
  have hb6 : ¬ (cap = i) := by omega
  have hb7 : (i : Int) ≤ (xs.length : Int) := by omega
  have htn : ((i : Int) + 1).toNat = i + 1 := by omega
  rw [← hW1] at hrz
  have hcA := fun ty => hcpA W1 rfl ty (xs.length + 1 - i) (G - i) (by omega)
  have hgrown : w.grownBy W1 (some g) := by
    rw [hW1]; exact ⟨rfl, rfl, rfl, by simp, fun k hk _ => Below.heap_alloc w.drew _ k hk⟩
  clear hkk hik hold hROW hG hW1
  go_enter Try.func54, Try.ntmps54
  go_wp2_with (first
    | (at_builtin; refine Lib.wpList_append_run _ rfl _ _ _ _ rfl _ _ rfl rfl _ _ (hrz _) ?_)
    | (at_builtin; refine wpList_copy_runI _ rfl _ _ 28 28 rfl _ _ rfl rfl (hcA _) ?_))
  go_region_law_o (refine step_copy_runI rfl _ _ 28 28 rfl (.slice (some ⟨w.heap.size, (i + 1), none⟩) (xs.length - i) (G - (i + 1))) (.slice (some ⟨g, i, none⟩) (xs.length - i) (cap - i)) (by simp [Act.eval, Act.put]) (by simp [Act.eval, Act.put]) (hcpB (W1.setRow w.heap.size rowA.toArray).drew rfl 3 (xs.length - i) (G - (i + 1)) (xs.length - i) (cap - i) rfl rfl) ?_)
  go_wp2
  go_ret
  have hw2 := setRow_heap (W1.setRow w.heap.size rowA.toArray).drew w.heap.size rowA.toArray rowB.toArray _ _ hn2
  have hlen2 : (xs.take i ++ [x] ++ xs.drop i).length = xs.length + 1 := by simp; omega
  refine ⟨.slice (some ⟨w.heap.size, 0, none⟩) (xs.length + 1) G, rfl, ?_, ?_, .inr rfl⟩
  · unfold Strs
    rw [hlen2]
    refine ⟨by rw [strs_len, hlen2, Nat.mul_one], .inr ⟨w.heap.size, G, rowB.toArray, rfl, hbase, hw2, hGn, hGm, by simp [hBl], ?_⟩⟩
    rw [Nat.mul_one]
    simp only [strs_append]
    exact hBt
  · have h1 := grown_setRow hgrown rowA.toArray (g := w.heap.size) (.inr (Nat.le_refl _))
    have h2 : w.grownBy (W1.setRow w.heap.size rowA.toArray).drew (some g) := ⟨h1.os, h1.tape, h1.output, h1.size, h1.block⟩
    exact grown_setRow h2 rowB.toArray (.inr (Nat.le_refl _))
/-- slices.Insert of one row. -/
theorem insert_calls (base : Nat) (v : Value) (xs : List ByteArray) (i vb : Nat) (x : ByteArray) (w : World) (hR : Strs w base v xs) (hN : NewS w vb x) (hi : i ≤ xs.length) (hl : xs.length ≤ 1099511627776) (hbase : base ≤ w.heap.size) (hvb : v.ownBlock ≠ some vb)
    (tA : TypeId) (kA : Nat) (hsa : w.shape? vb = some (tA, kA)) (hfa : ∀ j, w.frozen? ⟨vb, j, none⟩ = false) :
    Calls Try.prog 54 #[v, .int .i64 (i : Int), .slice (some ⟨vb, 0, none⟩) 1 1] w fun e w' => After w base v (xs.take i ++ [x] ++ xs.drop i) e w' := by
  by_cases he : i = xs.length
  · subst he
    rw [List.take_length, List.drop_length, List.append_nil]
    exact ins_end base v xs vb x w hR hN hl hbase
  · obtain ⟨g, cap, rfl, hg, hnc⟩ := own_form hR (by omega)
    by_cases hroom : xs.length + 1 ≤ cap
    · exact ins_room base g cap xs i vb x w hR hN (by omega) hroom (fun e => hvb (by rw [e]; rfl)) tA kA hsa (hfa 0) (hfa kA)
    · exact ins_grow base g cap xs i vb x w hR hN (by omega) (by omega) hl hbase
end Go.Proofs.Ytkbcfbelpjifnaa.Spec
namespace Go.Proofs.Ytkbcfbelpjifnaa.Spec
open Go Go.RowKit Go.Proofs Go.Proofs.YtkbcfbelpjifnaaW.PrintWords Go.Proofs.Ytkbcfbelpjifnaa.PX Go.Proofs.Ytkbcfbelpjifnaa.Plain
set_option linter.unusedVariables false
set_option linter.unusedSimpArgs false

def ltS (a b : ByteArray) : Bool := Op.bytesLess a.toList b.toList
/-- The search: n rounds at most between i and j. -/
def bs (l : List ByteArray) (x : ByteArray) : Nat → Nat → Nat → Nat
  | 0, i, _ => i
  | n + 1, i, j => if i < j then (if ltS (l.getD ((i + j) / 2) ByteArray.empty) x = true then bs l x n ((i + j) / 2 + 1) j else bs l x n i ((i + j) / 2)) else i
theorem bs_end (l : List ByteArray) (x : ByteArray) (n i : Nat) : bs l x n i i = i := by
  cases n with
  | zero => rfl
  | succ n => rw [bs, if_neg (Nat.lt_irrefl i)]
def bsAt (l : List ByteArray) (x : ByteArray) : Nat := bs l x l.length 0 l.length
def bsHas (l : List ByteArray) (x : ByteArray) : Bool := decide (l[bsAt l x]? = some x)
set_option maxHeartbeats 1000000 in
theorem nan_calls (a : ByteArray) (w : World) : Calls Try.prog 68 #[.string a] w fun e w' => e = .returned (.bool false) ∧ w' = w := by
  go_enter Try.func68, Try.ntmps68
  go_wp2
  go_ret
  simp
set_option maxHeartbeats 1000000 in
theorem nan2_calls (a : ByteArray) (w : World) : Calls Try.prog 59 #[.string a] w fun e w' => e = .returned (.bool false) ∧ w' = w := by
  go_enter Try.func59, Try.ntmps59
  go_wp2
  go_ret
  simp
set_option maxHeartbeats 1000000 in
theorem less_calls (a b : ByteArray) (w : World) : Calls Try.prog 58 #[.string a, .string b] w fun e w' => e = .returned (.bool (ltS a b)) ∧ w' = w := by
  obtain ⟨q, hq⟩ : ∃ q, ltS a b = q := ⟨_, rfl⟩
  rw [hq]
  have d1 : Op.bytesLess a.toList b.toList = q := hq
  cases q with
  | true =>
    go_enter Try.func58, Try.ntmps58
    go_wp2_with fail
    refine (nan_calls a _).mono ?_
    rintro e w' ⟨rfl, rfl⟩
    go_wp2
    go_ret
    exact ⟨rfl, rfl⟩
  | false =>
    go_enter Try.func58, Try.ntmps58
    go_wp2_with fail
    refine (nan_calls a _).mono ?_
    rintro e w' ⟨rfl, rfl⟩
    go_wp2
    go_ret
    exact ⟨rfl, rfl⟩
set_option maxHeartbeats 4000000 in
set_option maxRecDepth 100000 in
theorem search_calls (A : Option Addr) (c : Nat) (l : List ByteArray) (x : ByteArray) (w : World) (hr : Kd.string.C w A l.length l) (hl : l.length ≤ 4611686018427387904) :
    Calls Try.prog 53 #[.slice A l.length c, .string x] w fun e w' => e = .returned (.tuple #[.int .i64 (bsAt l x : Int), .bool (bsHas l x)]) ∧ bsAt l x ≤ l.length ∧ w' = w := by
  obtain ⟨R, hR⟩ : ∃ R, bsAt l x = R := ⟨_, rfl⟩
  have hH : Hid (bsHas l x = decide (l[R]? = some x)) := by unfold bsHas; rw [hR]; rfl
  rw [hR]
  generalize bsHas l x = q at hH
  have hR0 : bs l x l.length 0 l.length = R := hR
  clear hR
  go_enter Try.func53, Try.ntmps53
  go_wp2
  go_loopw [7, 8] (fun a b wr => ∃ i j n : Nat, a = .int .i64 (i : Int) ∧ b = .int .i64 (j : Int) ∧ i ≤ j ∧ j ≤ l.length ∧ j - i ≤ n ∧ bs l x n i j = R ∧ wr = w) (fun a b wr => (intOf b - intOf a).toNat)
  case atStart => exact ⟨0, l.length, l.length, rfl, rfl, Nat.zero_le _, Nat.le_refl _, Nat.le_refl _, hR0, rfl⟩
  case round =>
    obtain ⟨i, j, n, rfl, rfl, hij, hjl, hn, hb, hwr⟩ := hrel
    obtain rfl : w = wr := hwr.symm
    clear hR0
    by_cases hlt : i < j
    · have d1 : ((i : Int) < (j : Int)) := by omega
      obtain ⟨m, rfl⟩ : ∃ m, n = m + 1 := ⟨n - 1, by omega⟩
      rw [bs, if_pos hlt] at hb
      obtain ⟨h, hh⟩ : ∃ h, (i + j) / 2 = h := ⟨_, rfl⟩
      rw [hh] at hb
      obtain ⟨y, hy⟩ : ∃ y, l[h]? = some y := ⟨_, List.getElem?_eq_getElem (by omega)⟩
      rw [List.getD_eq_getElem?_getD, hy, Option.getD_some] at hb
      obtain ⟨ad, rfl, hc0⟩ := str_at hr hy
      have hlc := less_calls y x w
      go_wp2_with fail
      refine hlc.mono ?_
      rintro e w' ⟨rfl, hw'⟩
      obtain rfl : w = w' := hw'.symm
      cases hs : ltS y x with
      | true =>
        rw [hs, if_pos rfl] at hb
        go_wp2
        go_roundw
        case rel => exact ⟨h + 1, j, m, by go_num, rfl, by omega, hjl, by omega, hb, trivial⟩
        case measure => simp [intOf]; omega
      | false =>
        rw [hs, if_neg (by simp)] at hb
        go_wp2
        go_roundw
        case rel => exact ⟨i, h, m, rfl, by go_num, by omega, by omega, by omega, hb, trivial⟩
        case measure => simp [intOf]; omega
    · obtain rfl : j = i := by omega
      rw [bs_end] at hb
      subst hb
      have d1 : ¬ ((j : Int) < (j : Int)) := by omega
      by_cases hin : j < l.length
      · have d2 : ((j : Int) < (l.length : Int)) := by omega
        have d3 : (0 : Int) ≤ (j : Int) := by omega
        obtain ⟨y, hy⟩ : ∃ y, l[j]? = some y := ⟨_, List.getElem?_eq_getElem hin⟩
        obtain ⟨ad, rfl, hc0⟩ := str_at hr hy
        have hq : q = decide (y = x) := by
          have := hH.out
          rw [hy] at this
          rw [this]
          simp
        by_cases hxy : y = x
        · have d4 : (y.toList == x.toList) = true := by rw [hxy]; simp
          have hq1 : q = true := by rw [hq]; exact decide_eq_true hxy
          subst hq1
          clear hq
          go_wp2
          go_ret2
          first | exact ⟨rfl, hjl, rfl⟩ | exact ⟨rfl, rfl⟩ | rfl
        · have d4 : (y.toList == x.toList) = false := by rw [beq_eq_false_iff_ne]; exact fun h => hxy (toList_inj.1 h)
          have hq1 : q = false := by rw [hq]; exact decide_eq_false hxy
          subst hq1
          clear hq
          go_wp2_with fail
          refine (nan2_calls y w).mono ?_
          rintro e w' ⟨rfl, rfl⟩
          go_wp2
          go_ret2
          first | exact ⟨rfl, hjl, rfl⟩ | exact ⟨rfl, rfl⟩ | rfl
      · have d2 : ¬ ((j : Int) < (l.length : Int)) := by omega
        have hq1 : q = false := by
          have := hH.out
          rw [List.getElem?_eq_none (by omega)] at this
          rw [this]
          simp
        subst hq1
        go_wp2
        go_ret2
        first | exact ⟨rfl, hjl, rfl⟩ | exact ⟨rfl, rfl⟩ | rfl
end Go.Proofs.Ytkbcfbelpjifnaa.Spec
namespace Go.Proofs.Ytkbcfbelpjifnaa.Spec
open Go Go.RowKit Go.Proofs Go.Proofs.YtkbcfbelpjifnaaW.PrintWords Go.Proofs.Ytkbcfbelpjifnaa.PX Go.Proofs.Ytkbcfbelpjifnaa.Plain
set_option linter.unusedVariables false
set_option linter.unusedSimpArgs false

def ins1 (l : List ByteArray) (x : ByteArray) : List ByteArray := if bsHas l x = true then l else l.take (bsAt l x) ++ [x] ++ l.drop (bsAt l x)
def allS (k : Nat) (s : Sp) : Sp := if k = 1 then s else ⟨s.r, up s.f (k + 3) true⟩
/-- What a line of a list's target does. -/
def listS (k : Nat) (x : Rl) (s : Sp) : Int × Sp :=
  if x.f3 = true then (80, s)
  else (if 512 < (x.f1.foldl ins1 (s.r k)).length then 2 else 0, ⟨up s.r k (x.f1.foldl ins1 (s.r k)), (if x.f1.length = 0 then allS k s else s).f⟩)
theorem up_same {α : Type} (g : Nat → α) (i : Nat) : up g i (g i) = g := funext fun j => by
  unfold up
  split
  · rename_i e; rw [e]
  · rfl
theorem ins1_len (l : List ByteArray) (x : ByteArray) : (ins1 l x).length ≤ l.length + 1 := by
  unfold ins1
  split
  · omega
  · simp; omega
theorem insAll_len : ∀ (ns l : List ByteArray), (ns.foldl ins1 l).length ≤ l.length + ns.length
  | [], l => by simp
  | n :: ns, l => by
    have h1 := insAll_len ns (ins1 l n)
    have h2 := ins1_len l n
    rw [List.foldl_cons, List.length_cons]
    omega
theorem insAll_step {ns l : List ByteArray} {j : Nat} {x : ByteArray} (h : ns[j]? = some x) : (ns.take (j + 1)).foldl ins1 l = ins1 ((ns.take j).foldl ins1 l) x := by
  rw [List.take_add_one, h, List.foldl_append]
  rfl
/-- A row that has grown stands in its field. -/
theorem SpAt.grow {w w' : World} {b : Nat} {s : Sp} {V : Nat → Value} (h : SpAt w b s V) {i : Nat} (hi : i = 0 ∨ i = 1 ∨ i = 2 ∨ i = 3 ∨ i = 4 ∨ i = 8) {v : Value} {l : List ByteArray} (hv : Strs w' b v l) (hg : w.grownBy w' (V i).ownBlock)
    (ho : v.ownBlock = (V i).ownBlock ∨ ∃ k, v.ownBlock = some k ∧ w.heap.size ≤ k) : SpAt (w'.setCell ⟨b, i, none⟩ v) b ⟨up s.r i l, s.f⟩ (up V i v) ∧ w'.cell? ⟨b, i, none⟩ = some (V i) ∧ w'.frozen? ⟨b, i, none⟩ = false := by
  have hlt := h.lt
  have hnb : ∀ j k, (V j).ownBlock = some k → k ≠ b := fun j k hk => (h.rows j).1 k hk
  have hblk : w'.heap[b]? = w.heap[b]? := hg.block b hlt (fun e => hnb i b e.symm rfl)
  have hcells := hblk.trans h.cells
  have hvb : ∀ k, v.ownBlock = some k → k ≠ b := fun k hk => by
    rcases ho with e | ⟨k', e, h2⟩
    · rw [e] at hk; exact hnb i k hk
    · rw [e] at hk; injection hk with hk; omega
  have hvj : ∀ j k, j ≠ i → v.ownBlock = some k → (V j).ownBlock = some k → False := fun j k hj h1 h2 => by
    rcases ho with e | ⟨k', e, h3⟩
    · rw [e] at h1; exact h.ne j i k hj h2 h1
    · rw [e] at h1; injection h1 with h1
      have := Kd.R_lt (h.rows j) k h2
      omega
  refine ⟨⟨?_, fun j => ?_, fun j j' k hj h1 h2 => ?_⟩, ?_, frozen_of_row w' b i _ _ hcells⟩
  · rw [heap_setCell_same w' b i _ _ v hcells, ← spO_up s.f V v hi]
  · by_cases e : j = i
    · subst e; rw [up_at]; simp only [up_at]
      exact Kd.R_far (Kd.R_reok rfl (R_strs hv) hvb) (fun k hk => hk) v
    · simp only [up_ne _ _ e]
      exact Kd.R_far (Kd.R_grown2 (h.rows j) rfl hg (fun k hk e2 => h.ne i j k (Ne.symm e) hk e2.symm)) (fun k hk => hk) v
  · by_cases e : j = i
    · subst e
      rw [up_at] at h1
      rw [up_ne _ _ (Ne.symm hj)] at h2
      exact hvj j' k (Ne.symm hj) h1 h2
    · rw [up_ne _ _ e] at h1
      by_cases e' : j' = i
      · subst e'
        rw [up_at] at h2
        exact hvj j k e h2 h1
      · rw [up_ne _ _ e'] at h2
        exact h.ne j j' k hj h1 h2
  · rw [cell_of_row w' b i _ _ _ hcells]
    rcases hi with rfl | rfl | rfl | rfl | rfl | rfl <;> rfl
end Go.Proofs.Ytkbcfbelpjifnaa.Spec
namespace Go.Proofs.Ytkbcfbelpjifnaa.Spec
open Go Go.RowKit Go.Proofs Go.Proofs.YtkbcfbelpjifnaaW.PrintWords Go.Proofs.Ytkbcfbelpjifnaa.PX Go.Proofs.Ytkbcfbelpjifnaa.Plain
set_option linter.unusedVariables false
set_option linter.unusedSimpArgs false

set_option maxHeartbeats 4000000 in
set_option maxRecDepth 100000 in
theorem list_fn (fo fa k b : Nat) (hk : 1 ≤ k ∧ k ≤ 4) (s : Sp) (V : Nat → Value) (x : Rl) (A1 : Option Addr) (c1 : Nat) (A2 : Option Addr) (c2 g : Nat) (w : World) (hS : SpAt w b s V) (hT : Two w g fo fa) (hg : g + 1 < b)
    (r1 : ∀ W, Below b w W → Kd.string.C W A1 x.f1.length x.f1) (l1 : x.f1.length ≤ c1) (h64 : x.f1.length ≤ 64) (hgo : Good s)
    (eo : ∀ args w, (callFunc fo args).run Try.prog w = .ok (.enter fo args) w) (ea : ∀ args w, (callFunc fa args).run Try.prog w = .ok (.enter fa args) w)
    (ho : ∀ W, Calls Try.prog fo #[.pointer (some ⟨b, 0, none⟩)] W fun e w' => e = .returned (.pointer (some ⟨b, k, none⟩)) ∧ w' = W)
    (ha : ∀ W V', SpAt W b s V' → Calls Try.prog fa #[.pointer (some ⟨b, 0, none⟩)] W fun e w' => ∃ v, e = .returned v ∧ SpAt w' b (allS k s) V' ∧ W.grownBy w' (some b)) :
    Calls Try.prog 52 #[.pointer (some ⟨b, 0, none⟩), .agg #[.string x.f0, .slice A1 x.f1.length c1, .slice A2 x.f2.length c2, .bool x.f3], .pointer (some ⟨g + 1, 0, none⟩), .pointer (some ⟨g, 0, none⟩)] w fun e w' => e = .returned (.int .i64 (listS k x s).1) ∧ (∃ V', SpAt w' b (listS k x s).2 V') ∧ Below b w w' := by
  have hlt := hS.lt
  have hk6 : k = 0 ∨ k = 1 ∨ k = 2 ∨ k = 3 ∨ k = 4 ∨ k = 8 := by omega
  obtain ⟨t1, t2⟩ := hT
  cases hx3 : x.f3 with
  | true =>
    have hm : listS k x s = (80, s) := if_pos hx3
    rw [hm]
    go_enter Try.func52, Try.ntmps52
    go_wp2_with fail
    go_ret
    exact ⟨rfl, ⟨V, hS.below (below_alloc (Below.refl _ _) _)⟩, (below_alloc (Below.refl _ w) _).mono (by omega)⟩
  | false =>
    obtain ⟨U, hU⟩ : ∃ U, x.f1.foldl ins1 (s.r k) = U := ⟨_, rfl⟩
    obtain ⟨s1, hs1⟩ : ∃ s1, (if x.f1.length = 0 then allS k s else s) = s1 := ⟨_, rfl⟩
    have hsr : s1.r = s.r := by
      rw [← hs1]
      split
      · unfold allS; split <;> rfl
      · rfl
    have hm : listS k x s = (if 512 < U.length then 2 else 0, ⟨up s.r k U, s1.f⟩) := by
      unfold listS
      rw [if_neg (by rw [hx3]; simp), hU, hs1]
    rw [hm]
    generalize hq : (if 512 < U.length then (2 : Int) else 0) = q
    have hUl : U.length ≤ 576 := by
      have h1 := insAll_len x.f1 (s.r k)
      have h2 := hgo.2 k
      rw [hU] at h1
      omega
    by_cases h0 : x.f1.length = 0
    · have hs2 : allS k s = s1 := by rw [← hs1, if_pos h0]
      have hnil : x.f1 = [] := List.length_eq_zero_iff.1 h0
      have hUe : U = s.r k := by rw [← hU, hnil]; rfl
      have hsame : up s.r k U = s1.r := by rw [hUe, up_same, hsr]
      have d0 : ((x.f1.length : Int) == 0) = true := by rw [h0]; rfl
      have hb1 : Below w.heap.size w (w.alloc (.cells #[.string x.f0, .slice A1 x.f1.length c1, .slice A2 x.f2.length c2, .bool false] 30)) := below_alloc (Below.refl _ w) _
      have hS1 := hS.below hb1
      have haf := ha _ _ hS1
      have t1' := pw_cell_below hb1 t1
      have t2' := pw_cell_below hb1 t2
      have e1 : (w.alloc (.cells #[.string x.f0, .slice A1 x.f1.length c1, .slice A2 x.f2.length c2, .bool false] 30)).cell? ⟨w.heap.size, 1, none⟩ = some (.slice A1 x.f1.length c1) := World.cell?_alloc_at (w := w) _ _ w.heap.size 1 rfl
      have hB1 : Below b w (w.alloc (.cells #[.string x.f0, .slice A1 x.f1.length c1, .slice A2 x.f2.length c2, .bool false] 30)) := hb1.mono (Nat.le_of_lt hlt)
      have hlen0 : Hid (x.f1.length = 0) := h0
      rw [hs2] at haf
      rw [hsame]
      clear hs1 hm h0 hnil hs2 hsame hU
      go_enter Try.func52, Try.ntmps52
      go_wp2_with fail
      refine haf.mono ?_
      rintro e w2 ⟨v2, rfl, hS2, hg2⟩
      have hw1 : (w.alloc (.cells #[.string x.f0, .slice A1 x.f1.length c1, .slice A2 x.f2.length c2, .bool false] 30)).heap.size = w.heap.size + 1 := by simp
      have old : ∀ (k' j : Nat), k' < w.heap.size + 1 → k' ≠ b → ∀ u, (w.alloc (.cells #[.string x.f0, .slice A1 x.f1.length c1, .slice A2 x.f2.length c2, .bool false] 30)).cell? ⟨k', j, none⟩ = some u → w2.cell? ⟨k', j, none⟩ = some u := fun k' j h1 h2 u hu =>
        (World.cell?_of_block (w := w.alloc (.cells #[.string x.f0, .slice A1 x.f1.length c1, .slice A2 x.f2.length c2, .bool false] 30)) (a := ⟨k', j, none⟩) (hg2.block k' (by rw [hw1]; exact h1) (fun e => h2 (by injection e)))).trans hu
      have u1 := old g 0 (by omega) (by omega) _ t1'
      have u2 := old w.heap.size 1 (by omega) (by omega) _ e1
      have hB2 : Below b w w2 := hB1.grown hg2 (by rw [hw1]; omega) (fun k' hk' => by injection hk' with hk'; omega)
      clear old t1' t2' e1 t1 t2
      go_wp2_with fail
      refine (ho w2).mono ?_
      rintro e w3 ⟨rfl, hw3⟩
      obtain rfl : w2 = w3 := hw3.symm
      go_wp2_with fail
      go_loopw [27] (fun i wr => i = .int .i64 0 ∧ wr = w2) (fun i _ => 0)
      case atStart => exact ⟨rfl, rfl⟩
      case round =>
        obtain ⟨rfl, hwr⟩ := hrel
        obtain rfl : w2 = wr := hwr.symm
        have d1 : decide ((0 : Int) < (x.f1.length : Int)) = false := by rw [hlen0.out]; rfl
        have d2 : decide (0 < x.f1.length) = false := by rw [hlen0.out]; rfl
        have hrk := hS2.rows k
        obtain ⟨Ak, ck, hVk, hck, hCk⟩ := Kd.R_reads hrk
        obtain ⟨ek, fk⟩ := hS2.cell hk6
        rw [hVk] at ek
        have hru : Hid (s1.r k = U) := (by rw [hsr, hUe] : s1.r k = U)
        clear hrk hVk hck hCk hUe hsr
        rw [hru.out] at ek
        by_cases hbig : 512 < U.length
        · have d5 : (512 : Int) < (U.length : Int) := by omega
          rw [if_pos hbig] at hq
          subst hq
          go_wp2_with fail
          go_ret
          exact ⟨rfl, ⟨V, hS2⟩, hB2⟩
        · have d5 : ¬ ((512 : Int) < (U.length : Int)) := by omega
          rw [if_neg hbig] at hq
          subst hq
          go_wp2_with fail
          go_ret
          exact ⟨rfl, ⟨V, hS2⟩, hB2⟩
    · obtain rfl : s = s1 := by rw [← hs1, if_neg h0]
      have d0 : ((x.f1.length : Int) == 0) = false := by rw [beq_eq_false_iff_ne]; omega
      clear hs1 hsr hm
      have hb1 : Below w.heap.size w (w.alloc (.cells #[.string x.f0, .slice A1 x.f1.length c1, .slice A2 x.f2.length c2, .bool false] 30)) := below_alloc (Below.refl _ w) _
      have hof := ho (w.alloc (.cells #[.string x.f0, .slice A1 x.f1.length c1, .slice A2 x.f2.length c2, .bool false] 30))
      have t1' := pw_cell_below hb1 t1
      have hS1 := hS.below hb1
      go_enter Try.func52, Try.ntmps52
      go_wp2_with fail
      refine hof.mono ?_
      rintro e w2 ⟨rfl, rfl⟩
      obtain ⟨F, hF⟩ : ∃ F : Nat → List ByteArray, F = fun j => (x.f1.take j).foldl ins1 (s.r k) := ⟨_, rfl⟩
      have hF0 : F 0 = s.r k := by rw [hF]; rfl
      have hFn : F x.f1.length = U := by rw [hF, ← hU]; simp
      have hFs : ∀ {j n}, x.f1[j]? = some n → F (j + 1) = ins1 (F j) n := fun h => by rw [hF]; exact insAll_step h
      have hFl : ∀ j, (F j).length ≤ 576 := fun j => by
        rw [hF]
        have h1 := insAll_len (x.f1.take j) (s.r k)
        have h2 := hgo.2 k
        have h3 : (x.f1.take j).length ≤ x.f1.length := by simp; omega
        show ((x.f1.take j).foldl ins1 (s.r k)).length ≤ 576
        omega
      clear hF hU
      have e1 : (w.alloc (.cells #[.string x.f0, .slice A1 x.f1.length c1, .slice A2 x.f2.length c2, .bool false] 30)).cell? ⟨w.heap.size, 1, none⟩ = some (.slice A1 x.f1.length c1) := World.cell?_alloc_at (w := w) _ _ w.heap.size 1 rfl
      have hB1 : Below b w (w.alloc (.cells #[.string x.f0, .slice A1 x.f1.length c1, .slice A2 x.f2.length c2, .bool false] 30)) := hb1.mono (Nat.le_of_lt hlt)
      generalize w.alloc (.cells #[.string x.f0, .slice A1 x.f1.length c1, .slice A2 x.f2.length c2, .bool false] 30) = w2 at hS1 hB1 e1 hof hb1 t1' ⊢
      go_wp2_with fail
      go_loopw [27] (fun i wr => ∃ (j : Nat) (V' : Nat → Value), i = .int .i64 (j : Int) ∧ j ≤ x.f1.length ∧ SpAt wr b ⟨up s.r k (F j), s.f⟩ V' ∧ Below b w wr) (fun i _ => x.f1.length - (intOf i).toNat)
      case atStart => exact ⟨0, V, rfl, Nat.zero_le _, by rw [hF0, up_same]; exact hS1, hB1⟩
      case round =>
        obtain ⟨j, V', rfl, hj, hS', hB⟩ := hrel
        have hrk := hS'.rows k
        simp only [up_at] at hrk
        obtain ⟨Ak, ck, hVk, hck, hCk⟩ := Kd.R_reads hrk
        obtain ⟨ek, fk⟩ := hS'.cell hk6
        rw [hVk] at ek
        have hj1 := hFl j
        have hlt' := hS'.lt
        by_cases hltj : j < x.f1.length
        · have d1 : (j : Int) < (x.f1.length : Int) := by omega
          have d2 : (0 : Int) ≤ (j : Int) := by omega
          obtain ⟨n, hn⟩ : ∃ n, x.f1[j]? = some n := ⟨_, List.getElem?_eq_getElem hltj⟩
          obtain ⟨ad, rfl, hcn⟩ := str_at (r1 _ hB) hn
          have hst := hFs hn
          clear hFs
          have hsc := search_calls Ak ck (F j) n wr hCk (by omega)
          have hi1 : Hid (ins1 (F j) n = if bsHas (F j) n = true then F j else (F j).take (bsAt (F j) n) ++ [n] ++ (F j).drop (bsAt (F j) n)) := rfl
          generalize bsHas (F j) n = hb at hsc hi1
          generalize bsAt (F j) n = at' at hsc hi1
          rw [← hst] at hi1
          clear hst
          cases hb with
          | true =>
            have hst : F (j + 1) = F j := hi1.out
            rw [← hst] at hS'
            clear hst hi1
            go_wp2_with fail
            refine hsc.mono ?_
            rintro e w6 ⟨rfl, hle, rfl⟩
            go_wp2_with fail
            go_roundw
            case rel => exact ⟨j + 1, V', by go_num, by omega, hS', hB⟩
            case measure => simp [intOf]; omega
          | false =>
            have hst : Hid (F (j + 1) = (F j).take at' ++ [n] ++ (F j).drop at') := hi1.out
            clear hi1
            go_wp2_with fail
            refine hsc.mono ?_
            rintro e w6 ⟨rfl, hle, rfl⟩
            have hb6 : Below w6.heap.size w6 (w6.alloc (.cells #[.string n] 9)) := below_alloc (Below.refl _ _) _
            have hS6 := hS'.below hb6
            have hrk6 := Kd.R_below hrk hb6
            have hnew : (w6.alloc (.cells #[.string n] 9)).heap[w6.heap.size]? = some (.cells #[.string n] 9 (0, 0)) := heap_alloc_new w6 _
            have hin := insert_calls b (V' k) (F j) at' w6.heap.size n (w6.alloc (.cells #[.string n] 9)) (Kd.own_of_R hrk6) ⟨cell_of_row _ _ 0 _ _ _ hnew⟩ hle (by omega) (by have := hb6.size; omega) (fun e => by have := Kd.R_lt hrk _ e; omega) 9 1 (shape_of hnew) (fun j => frozen_of_row _ _ j _ _ hnew)
            rw [hVk] at hin
            go_wp2_with fail
            refine hin.mono ?_
            rintro e w7 ⟨v7, rfl, hs7, hg7, ho7⟩
            rw [← hVk] at hg7 ho7
            rw [← hst.out] at hs7
            obtain ⟨hS8, c8, f8⟩ := hS6.grow hk6 hs7 hg7 (by
              rcases ho7 with e | e
              · exact Or.inl e
              · exact Or.inr ⟨_, e, by simp⟩)
            obtain ⟨A7, c7, rfl⟩ := own_slice hs7
            rw [hVk] at c8
            simp only [up_up] at hS8
            have hB7 := ((hB.trans (hb6.mono (Nat.le_of_lt hlt'))).grown hg7 (by have := hb6.size; omega) (fun k' hk' => Kd.R_base hrk k' hk')).setCell (p := ⟨b, k, none⟩) (Nat.le_refl _) (.slice A7 (F (j + 1)).length c7)
            have hj2 := hFl (j + 1)
            go_wp2_with fail
            go_roundw
            case rel => exact ⟨j + 1, _, by go_num, by omega, hS8, hB7⟩
            case measure => simp [intOf]; omega
        · obtain rfl : j = x.f1.length := by omega
          have d1 : ¬ ((x.f1.length : Int) < (x.f1.length : Int)) := by omega
          rw [hFn] at hS' ek
          clear hFn hFs hFl hF0 hj1 hck hCk hVk hrk
          by_cases hbig : 512 < U.length
          · have d5 : (512 : Int) < (U.length : Int) := by omega
            rw [if_pos hbig] at hq
            subst hq
            go_wp2_with fail
            go_ret
            exact ⟨rfl, ⟨V', hS'⟩, hB⟩
          · have d5 : ¬ ((512 : Int) < (U.length : Int)) := by omega
            rw [if_neg hbig] at hq
            subst hq
            go_wp2_with fail
            go_ret
            exact ⟨rfl, ⟨V', hS'⟩, hB⟩
theorem list_good {k : Nat} {x : Rl} {s : Sp} (hk : 1 ≤ k) (h : Good s) (h0 : (listS k x s).1 = 0) : Good (listS k x s).2 := by
  unfold listS at h0 ⊢
  split at h0
  · cases h0
  · rename_i hn
    rw [if_neg hn]
    generalize x.f1.foldl ins1 (s.r k) = U at h0 ⊢
    have hl : ¬ 512 < U.length := fun hl => by rw [if_pos hl] at h0; cases h0
    refine ⟨by simp only [up_ne s.r U (show 0 ≠ k by omega)]; exact h.1, fun i => ?_⟩
    by_cases e : i = k
    · subst e; simp only [up_at]; omega
    · simp only [up_ne _ _ e]; exact h.2 i
theorem setCell_grown (w : World) (b i : Nat) (u : Value) : w.grownBy (w.setCell ⟨b, i, none⟩ u) (some b) :=
  have h := (Below.refl 0 w).setCell (p := ⟨b, i, none⟩) (Nat.zero_le _) u
  ⟨h.os, h.tape, h.output, h.size, fun k _ hne => heap_setCell_other w ⟨b, i, none⟩ k u (fun e => hne (by rw [e]))⟩
/-- list$1's contract, whatever the list. -/
theorem listC : ListC listS := by
  intro k hk b s V x A1 c1 A2 c2 g w hS hT hg r1 l1 h64 hgo
  refine ⟨?_, list_good hk.1 hgo⟩
  obtain rfl | rfl | rfl | rfl : k = 1 ∨ k = 2 ∨ k = 3 ∨ k = 4 := by omega
  · exact list_fn _ _ 1 b hk s V x A1 c1 A2 c2 g w hS hT hg r1 l1 h64 hgo (enters_of Try.func37 (by kernel_rfl) rfl) (enters_of Try.func38 (by kernel_rfl) rfl) (fun W => rows1 b W) (fun W V' h => (rows2 b W).mono fun e w' ⟨v, h1, h2⟩ => ⟨v, h1, by rw [h2]; exact h, by rw [h2]; exact ⟨rfl, rfl, rfl, Nat.le_refl _, fun _ _ _ => rfl⟩⟩)
  · exact list_fn _ _ 2 b hk s V x A1 c1 A2 c2 g w hS hT hg r1 l1 h64 hgo (enters_of Try.func39 (by kernel_rfl) rfl) (enters_of Try.func40 (by kernel_rfl) rfl) (fun W => rows3 b W) (fun W V' h => (rows4 b _ W (h.mark (i := 5) (by decide)).1 (h.mark (i := 5) (by decide)).2).mono fun e w' ⟨v, h1, h2⟩ => ⟨v, h1, by rw [h2]; exact h.flag (by decide) true, by rw [h2]; exact setCell_grown _ _ _ _⟩)
  · exact list_fn _ _ 3 b hk s V x A1 c1 A2 c2 g w hS hT hg r1 l1 h64 hgo (enters_of Try.func41 (by kernel_rfl) rfl) (enters_of Try.func42 (by kernel_rfl) rfl) (fun W => rows5 b W) (fun W V' h => (rows6 b _ W (h.mark (i := 6) (by decide)).1 (h.mark (i := 6) (by decide)).2).mono fun e w' ⟨v, h1, h2⟩ => ⟨v, h1, by rw [h2]; exact h.flag (by decide) true, by rw [h2]; exact setCell_grown _ _ _ _⟩)
  · exact list_fn _ _ 4 b hk s V x A1 c1 A2 c2 g w hS hT hg r1 l1 h64 hgo (enters_of Try.func43 (by kernel_rfl) rfl) (enters_of Try.func44 (by kernel_rfl) rfl) (fun W => rows7 b W) (fun W V' h => (rows8 b _ W (h.mark (i := 7) (by decide)).1 (h.mark (i := 7) (by decide)).2).mono fun e w' ⟨v, h1, h2⟩ => ⟨v, h1, by rw [h2]; exact h.flag (by decide) true, by rw [h2]; exact setCell_grown _ _ _ _⟩)
end Go.Proofs.Ytkbcfbelpjifnaa.Spec
