/- The reference's table: a list of pairs in a block of its own. -/
import Derived.Test.YtbpaejbecgaepaaIterIS
import Derived.Laws.AppendOwnNone
namespace Go.Proofs.Ytbpaejbecgaepaa.TabIS
open Go Go.RowKit Go.Proofs
set_option linter.unusedVariables false
set_option linter.unusedSimpArgs false

abbrev RRows (w : World) (base : Nat) (v : Value) (xs : List (Int × ByteArray)) : Prop := w.ownsRow base 48 2 v xs.length (cells xs)
/-- A table of the reference that lies in block b. -/
structure IsRef (w : World) (base b : Nat) (v : Value) (xs : List (Int × ByteArray)) : Prop where
  blk : w.heap[b]? = some (.cells #[v] 31 (0, 0))
  rows : RRows w base v xs
  apart : v.ownBlock ≠ some b
theorem IsRef.lt {w : World} {base b : Nat} {v : Value} {xs : List (Int × ByteArray)} (h : IsRef w base b v xs) : b < w.heap.size := (Array.getElem?_eq_some_iff.1 h.blk).1
theorem IsRef.kept {w w' : World} {base b : Nat} {v : Value} {xs : List (Int × ByteArray)} {S : Nat → Prop} (h : IsRef w base b v xs) (k : Keep w w' S) (hb : ¬ S b) (hv : ∀ j, v.ownBlock = some j → ¬ S j) : IsRef w' base b v xs := by
  refine ⟨(k.block b h.lt hb).trans h.blk, ⟨h.rows.1, h.rows.2.imp id ?_⟩, h.apart⟩
  rintro ⟨g, cap, cur, rfl, hg, hb2, rest⟩
  exact ⟨g, cap, cur, rfl, hg, (k.block g (Array.getElem?_eq_some_iff.1 hb2).1 (hv g rfl)).trans hb2, rest⟩
theorem IsRef.below {w w' : World} {base b : Nat} {v : Value} {xs : List (Int × ByteArray)} (h : IsRef w base b v xs) (k : Below w.heap.size w w') : IsRef w' base b v xs := h.kept (Keep.of_below k (fun _ => False)) id (fun _ _ => id)
/-- What a call on a table of the reference leaves. -/
def RTurned (w : World) (base b : Nat) (v : Value) (ys : List (Int × ByteArray)) (w' : World) : Prop :=
  ∃ v', IsRef w' base b v' ys ∧ Keep w w' (Own b v) ∧ ∀ g, v'.ownBlock = some g → v.ownBlock = some g ∨ w.heap.size ≤ g
theorem rrows_cell {w : World} {base g cap : Nat} {xs : List (Int × ByteArray)} (h : RRows w base (.slice (some ⟨g, 0, none⟩) xs.length cap) xs) {i : Nat} {x : Int × ByteArray} (hx : xs[i]? = some x) : w.cell? ⟨g, i * 2, none⟩ = some (.int .i64 x.1) ∧ w.cell? ⟨g, i * 2 + 1, none⟩ = some (.string x.2) := by
  have hi : i < xs.length := (List.getElem?_eq_some_iff.1 hx).1
  obtain ⟨h1, h2⟩ := cells_at xs i x hx
  exact ⟨(h.cellAt (i * 2) (by omega)).trans h1, (h.cellAt (i * 2 + 1) (by omega)).trans h2⟩
set_option maxHeartbeats 2000000 in
set_option maxRecDepth 100000 in
theorem ref_rank (base b : Nat) (v : Value) (xs : List (Int × ByteArray)) (k : Int) (r : Nat) (w : World) (hT : IsRef w base b v xs) (hp : Place xs k r) (hl : xs.length ≤ 1099511627776) :
    Calls Try.prog 14 #[.pointer (some ⟨b, 0, none⟩), .int .i64 k] w fun e w' => e = .returned (.int .i64 (r : Int)) ∧ w' = w := by
  obtain ⟨A, c, rfl⟩ := own_slice hT.rows
  have hcb := cell_of_row w b 0 _ _ _ hT.blk
  go_enter Try.func14, Try.ntmps14
  go_wp2
  go_loopw [5] (fun a wr => ∃ i : Nat, a = .int .i64 (i : Int) ∧ i ≤ r ∧ wr = w) (fun a wr => r - (intOf a).toNat)
  case atStart => exact ⟨0, rfl, Nat.zero_le _, rfl⟩
  case round =>
    obtain ⟨i, rfl, hir, rfl⟩ := hrel
    by_cases hlt : i < xs.length
    · have d1 : ((i : Int) < (xs.length : Int)) := by omega
      have d0 : ((0 : Int) ≤ (i : Int)) := by omega
      obtain ⟨g, cap, hv, hg, hcap⟩ := own_form hT.rows (by omega)
      cases hv
      obtain ⟨x, hx⟩ : ∃ x, xs[i]? = some x := ⟨_, List.getElem?_eq_getElem hlt⟩
      obtain ⟨hc0, hc1⟩ := rrows_cell hT.rows hx
      have hpl := hp.2 i x hx
      by_cases hr : i < r
      · have d2 : x.1 < k := by have := hpl.2 hr; simpa [ltK] using this
        go_wp2
        go_roundw
        case rel => exact ⟨i + 1, by go_num, by first | rfl | trivial | omega, by first | rfl | trivial⟩
        case measure => simp [intOf]; omega
      · have d2 : ¬ (x.1 < k) := fun e => hr (hpl.1 (by simpa [ltK] using e))
        obtain rfl : i = r := by omega
        go_wp2
        go_ret
        exact ⟨rfl, rfl⟩
    · obtain rfl : i = r := by have := hp.1; omega
      have d1 : ¬ ((i : Int) < (xs.length : Int)) := by omega
      go_wp2
      go_ret
      exact ⟨rfl, rfl⟩

/-! ### appending a part of a row -/
/-- What is appended: nil, or cells that lie at an address. -/
def Src (w : World) (vx : Value) (m : Nat) (news : List Value) : Prop :=
  (vx = .slice none 0 0 ∧ m = 0 ∧ news = []) ∨ ∃ ad c, vx = .slice (some ad) m c ∧ news.length = m * 2 ∧ (∀ j u, news[j]? = some u → w.cell? (ad.add j) = some u) ∧ ∀ u ∈ news, u.oneCell' = true
theorem info_pair : (Try.prog.info? 48).map (fun i => (i.zero, i.size, i.bytes)) = some (some (.agg #[.int .i64 0, .string ByteArray.empty]), 2, 24) := by kernel_rfl
theorem wpList_append_src {w : World} {ops : Array Oper} {rest : List Oper} {o : Oper} {a : Act} {Q : Exit → Act → World → Prop} (hgd : o.guard = none) (s x : Operand)
    (ho : o.op = .call { callee := .builtin .append, args := #[s, x], argTypes := #[29, 29] })
    (base : Nat) (v : Value) (n : Nat) (xs : List Value) (hs : a.eval s = v) (hown : w.ownsRow base 48 2 v n xs)
    (vx : Value) (m : Nat) (news : List Value) (hx : a.eval x = vx) (hsrc : Src w vx m news) (hl : n + m ≤ 4398046511104) (hbase : base ≤ w.heap.size)
    (h : ∀ v' w', w'.ownsRow base 48 2 v' (n + m) (xs ++ news) → w.grownBy w' v.ownBlock → wpList Try.prog ops Q rest (a.put o.dst v') w') : wpList Try.prog ops Q (o :: rest) a w := by
  obtain ⟨i0, hi, hz0, hz1, hz2⟩ := info_parts info_pair
  rcases hsrc with ⟨rfl, rfl, rfl⟩ | ⟨ad, c, rfl, hnl, hnews, h1⟩
  · refine wpList_append_own_none hgd s x 29 ho base 48 i0 2 Try.underlying29 hi v n xs hs hown hx (h v w ?_ ?_)
    · rw [List.append_nil]; exact hown
    · exact ⟨rfl, rfl, rfl, Nat.le_refl _, fun _ _ _ => rfl⟩
  · exact wpList_append_own w hgd s x 29 ho base 48 i0 _ 2 24 Try.underlying29 hi hz0 hz1 hz2 rfl (by decide) v n xs hs hown ad m c news hx hnl hnews h1 (by unfold maxLen; omega) (by omega) hbase (fun v' w' h2 h3 _ => h v' w' h2 h3)
theorem below_of_none {w w' : World} (h : w.grownBy w' none) : Below w.heap.size w w' := ⟨h.os, h.tape, h.output, h.size, fun k hk => h.block k hk (by simp)⟩
theorem src_one (w : World) (k : Int) (x : ByteArray) : Src (w.alloc (.cells #[.int .i64 k, .string x] 48)) (.slice (some ⟨w.heap.size, 0, none⟩) 1 1) 1 [.int .i64 k, .string x] := by
  refine .inr ⟨_, _, rfl, rfl, fun j u hj => ?_, fun u hu => ?_⟩
  · match j, hj with
    | 0, hj => simp at hj; subst hj; exact World.cell?_alloc_at (w := w) #[.int .i64 k, .string x] _ w.heap.size 0 rfl
    | 1, hj => simp at hj; subst hj; exact World.cell?_alloc_at (w := w) #[.int .i64 k, .string x] _ w.heap.size 1 rfl
    | (j + 2), hj => simp at hj
  · simp at hu; rcases hu with rfl | rfl <;> rfl
theorem src_take {w : World} {base g cap : Nat} {xs : List (Int × ByteArray)} (h : RRows w base (.slice (some ⟨g, 0, none⟩) xs.length cap) xs) {r : Nat} (hr : r ≤ xs.length) : Src w (.slice (some ⟨g, 0, none⟩) r cap) r (cells (xs.take r)) := by
  refine .inr ⟨⟨g, 0, none⟩, cap, rfl, by rw [cells_len, List.length_take]; congr 1; omega, fun j u hj => ?_, cells_one _⟩
  rw [Addr.add_lit, Nat.zero_add]
  have hjl : j < xs.length * 2 := by
    have := (List.getElem?_eq_some_iff.1 hj).1
    rw [cells_len, List.length_take] at this
    omega
  refine (h.cellAt j hjl).trans ?_
  rw [← hj, ← cells_take, List.getElem?_take]
  rw [if_pos]
  have := (List.getElem?_eq_some_iff.1 hj).1
  rw [cells_len, List.length_take] at this
  omega
theorem src_drop {w : World} {base g cap : Nat} {xs : List (Int × ByteArray)} (h : RRows w base (.slice (some ⟨g, 0, none⟩) xs.length cap) xs) {r : Nat} (hr : r ≤ xs.length) {ad : Addr} (hd : ad = ⟨g, r * 2, none⟩ ∨ r = xs.length) {c : Nat} : Src w (.slice (some ad) (xs.length - r) c) (xs.length - r) (cells (xs.drop r)) := by
  refine .inr ⟨ad, c, rfl, by rw [cells_len, List.length_drop], fun j u hj => ?_, cells_one _⟩
  have hj2 := (List.getElem?_eq_some_iff.1 hj).1
  rw [cells_len, List.length_drop] at hj2
  rcases hd with rfl | rfl
  · rw [Addr.add_lit]
    refine (h.cellAt (r * 2 + j) (by omega)).trans ?_
    rw [← hj, ← cells_drop, List.getElem?_drop]
  · omega
theorem ref_put_old (base b : Nat) (v : Value) (xs : List (Int × ByteArray)) (k : Int) (x : ByteArray) (r : Nat) (y : Int × ByteArray) (w : World) (hT : IsRef w base b v xs) (hp : Place xs k r) (hl : xs.length ≤ 1099511627776) (hbase : base ≤ w.heap.size) (hy : xs[r]? = some y) (h0 : y.1 = k) :
    Calls Try.prog 26 #[.pointer (some ⟨b, 0, none⟩), .int .i64 k, .string x] w fun e w' => e = .returned (.bool true) ∧ RTurned w base b v (xs.set r (y.1, x)) w' := by
  have hc := ref_rank base b v xs k r w hT hp hl
  have hrx := (List.getElem?_eq_some_iff.1 hy).1
  obtain ⟨g, cap, rfl, hg, hcap⟩ := own_form hT.rows (by omega)
  have hi1 : (0 : Int) ≤ (r : Int) := by omega
  have hi2 : (r : Int) < (xs.length : Int) := by omega
  have hcb := cell_of_row w b 0 _ _ _ hT.blk
  obtain ⟨hc0, hc1⟩ := rrows_cell hT.rows hy
  have hf1 := hT.rows.frozenAt (r * 2 + 1)
  have hst := hT.rows.stored (r * 2 + 1) (.string x)
  rw [cells_set xs r y x hy] at hst
  go_enter Try.func26, Try.ntmps26
  go_wp2_with fail
  refine hc.mono ?_
  rintro e w' ⟨rfl, rfl⟩
  go_wp2
  go_ret
  have hbg : b ≠ g := fun e => hT.apart (by rw [e]; rfl)
  refine ⟨rfl, .slice (some ⟨g, 0, none⟩) xs.length cap, ⟨?_, ?_, hT.apart⟩, ?_, fun g h => .inl h⟩
  · exact (Below.heap_setCell _ ⟨g, r * 2 + 1, none⟩ _ b hbg).trans hT.blk
  · unfold RRows
    rw [List.length_set]
    exact hst.1
  · exact (Keep.of_below (Below.refl _ _) _).set _ _ (fun _ => .inr rfl)
/-- The row of a table of the reference is put in another's place. -/
theorem ref_put_end {w w3 : World} {base b n : Nat} {v v3 : Value} {xs ys : List (Int × ByteArray)} (hT3 : IsRef w3 base b v xs) (hn : w.heap.size ≤ n) (hbase : base ≤ w.heap.size) (hb3 : Below w.heap.size w w3) (hlt : b < w.heap.size) (hown : w3.ownsRow n 48 2 v3 ys.length (cells ys)) : RTurned w base b v ys (w3.setCell ⟨b, 0, none⟩ v3) := by
  have hap : v3.ownBlock ≠ some b := fun e => by have := (hown.lt b e).1; omega
  refine ⟨v3, ⟨?_, ?_, hap⟩, ?_, ?_⟩
  · simp [World.setCell, Array.getElem?_modify, hT3.blk]
  · exact (Go.Joins.ownsRow_le hown (Nat.le_trans hbase hn)).kept (row := some b) ⟨rfl, rfl, rfl, by simp [World.setCell], fun j hj hn => Below.heap_setCell w3 _ _ j (fun e => hn (by rw [e]))⟩ (.inr hap)
  · exact (Keep.of_below hb3 _).set _ _ (fun _ => .inl rfl)
  · exact fun g h => .inr (Nat.le_trans hn (hown.lt g h).1)
set_option maxHeartbeats 4000000 in
set_option maxRecDepth 100000 in
theorem ref_put_new (base b : Nat) (v : Value) (xs : List (Int × ByteArray)) (k : Int) (x : ByteArray) (r : Nat) (w : World) (hT : IsRef w base b v xs) (hp : Place xs k r) (hl : xs.length ≤ 1099511627776) (hbase : base ≤ w.heap.size) (h0 : hasAt xs k r = false) :
    Calls Try.prog 26 #[.pointer (some ⟨b, 0, none⟩), .int .i64 k, .string x] w fun e w' => e = .returned (.bool false) ∧ RTurned w base b v (xs.take r ++ [(k, x)] ++ xs.drop r) w' := by
  have hc := ref_rank base b v xs k r w hT hp hl
  have hcb := cell_of_row w b 0 _ _ _ hT.blk
  rcases hT.rows.2 with ⟨rfl, hn⟩ | ⟨g, cap, cur, rfl, hg, hb, hcc, hm, hs, ht⟩
  · obtain rfl := List.eq_nil_of_length_eq_zero hn
    obtain rfl : r = 0 := by have := hp.1; simpa using this
    have hlt0 := hT.lt
    go_enter Try.func26, Try.ntmps26
    go_wp2_with fail
    refine hc.mono ?_
    rintro e w' ⟨rfl, rfl⟩
    go_wp2_with (at_builtin; first
      | (refine wpList_append_src rfl (.tmp 39) (.tmp 45) rfl w'.heap.size (.slice none 0 0) 0 [] rfl (World.ownsRow_nil _ _ _ _) _ 0 [] rfl (.inl ⟨rfl, rfl, rfl⟩) (by omega) (Nat.le_refl _) ?_; intro v1 w1 hown1 hgrow1
         have hT1 := hT.below (below_of_none hgrow1)
         have hcb1 := cell_of_row w1 b 0 _ _ _ hT1.blk
         have hsz1 := hgrow1.size)
      | (refine wpList_append_src rfl (.tmp 47) (.tmp 51) rfl w'.heap.size v1 _ _ rfl (hown1.alloc _) _ 1 [.int .i64 k, .string x] rfl (src_one _ _ _) (by omega) (by simp; omega) ?_; intro v2 w2 hown2 hgrow2
         have hb2 : Below w'.heap.size w' w2 := ((below_of_none hgrow1).alloc hsz1 _).grown hgrow2 (by simp; omega) (fun j ej => (hown1.lt j ej).1)
         have hT2 := hT.below hb2
         have hcb2 := cell_of_row w2 b 0 _ _ _ hT2.blk)
      | (refine wpList_append_src rfl (.tmp 53) (.tmp 59) rfl w'.heap.size v2 _ _ rfl hown2 _ 0 [] rfl (.inl ⟨rfl, rfl, rfl⟩) (by omega) hb2.size ?_; intro v3 w3 hown3 hgrow3
         have hb3 : Below w'.heap.size w' w3 := hb2.grown hgrow3 hb2.size (fun j ej => (hown2.lt j ej).1)
         have hT3 := hT.below hb3
         have hcb3 := cell_of_row w3 b 0 _ _ _ hT3.blk
         have hfb3 : w3.frozen? ⟨b, 0, none⟩ = false := by simp [World.frozen?, hT3.blk]
         obtain ⟨A3, c3, rfl⟩ := own_slice hown3))
    go_ret
    exact ⟨rfl, ref_put_end hT3 (Nat.le_refl _) hbase hb3 hlt0 (by simpa [cells] using hown3)⟩
  · have hrx := hp.1
    have hi1 : (0 : Int) ≤ (r : Int) := by omega
    by_cases hlt : r < xs.length
    · have hi2 : (r : Int) < (xs.length : Int) := by omega
      obtain ⟨y, hy⟩ : ∃ y, xs[r]? = some y := ⟨_, List.getElem?_eq_getElem hlt⟩
      obtain ⟨hc0, hc1⟩ := rrows_cell hT.rows hy
      have hne : ¬ (y.1 = k) := fun e => by
        unfold hasAt at h0
        rw [hy] at h0
        subst e
        simp [cmpK, ltK, gtK] at h0
      go_enter Try.func26, Try.ntmps26
      go_wp2_with fail
      refine hc.mono ?_
      rintro e w' ⟨rfl, rfl⟩
      have hlt0 := hT.lt
      have hgl : g < w'.heap.size := (Array.getElem?_eq_some_iff.1 hb).1
      go_wp2_with (at_builtin; first
        | (refine wpList_append_src rfl (.tmp 39) (.tmp 45) rfl w'.heap.size (.slice none 0 0) 0 [] rfl (World.ownsRow_nil _ _ _ _) _ r (cells (xs.take r)) rfl (src_take hT.rows hrx) (by omega) (Nat.le_refl _) ?_; intro v1 w1 hown1 hgrow1
           have hT1 := hT.below (below_of_none hgrow1)
           have hcb1 := cell_of_row w1 b 0 _ _ _ hT1.blk
           have hsz1 := hgrow1.size)
        | (refine wpList_append_src rfl (.tmp 47) (.tmp 51) rfl w'.heap.size v1 _ _ rfl (hown1.alloc _) _ 1 [.int .i64 k, .string x] rfl (src_one _ _ _) (by omega) (by simp; omega) ?_; intro v2 w2 hown2 hgrow2
           have hb2 : Below w'.heap.size w' w2 := ((below_of_none hgrow1).alloc hsz1 _).grown hgrow2 (by simp; omega) (fun j ej => (hown1.lt j ej).1)
           have hT2 := hT.below hb2
           have hcb2 := cell_of_row w2 b 0 _ _ _ hT2.blk)
        | (refine wpList_append_src rfl (.tmp 53) (.tmp 59) rfl w'.heap.size v2 _ _ rfl hown2 _ (xs.length - r) (cells (xs.drop r)) rfl (src_drop hT2.rows hrx ?_) (by omega) hb2.size ?_; rotate_left; intro v3 w3 hown3 hgrow3
           have hb3 : Below w'.heap.size w' w3 := hb2.grown hgrow3 hb2.size (fun j ej => (hown2.lt j ej).1)
           have hT3 := hT.below hb3
           have hcb3 := cell_of_row w3 b 0 _ _ _ hT3.blk
           have hfb3 : w3.frozen? ⟨b, 0, none⟩ = false := by simp [World.frozen?, hT3.blk]
           obtain ⟨A3, c3, rfl⟩ := own_slice hown3))
      go_ret
      exact ⟨rfl, ref_put_end hT3 (Nat.le_refl _) hbase hb3 hlt0 (by rw [List.length_append, List.length_append, List.length_take, List.length_drop, List.length_singleton, Nat.min_eq_left hrx, cells_append, cells_append]; simpa [cells] using hown3)⟩
    · obtain rfl : r = xs.length := by omega
      have hi2 : ¬ ((xs.length : Int) < (xs.length : Int)) := by omega
      have hlt0 := hT.lt
      have hgl : g < w.heap.size := (Array.getElem?_eq_some_iff.1 hb).1
      rcases Nat.eq_or_lt_of_le hcc with e | hlt2
      · subst e
        go_enter Try.func26, Try.ntmps26
        go_wp2_with fail
        refine hc.mono ?_
        rintro e w' ⟨rfl, rfl⟩
        go_wp2_with (at_builtin; first
          | (refine wpList_append_src rfl (.tmp 39) (.tmp 45) rfl w'.heap.size (.slice none 0 0) 0 [] rfl (World.ownsRow_nil _ _ _ _) _ xs.length (cells (xs.take xs.length)) rfl (src_take hT.rows hrx) (by omega) (Nat.le_refl _) ?_; intro v1 w1 hown1 hgrow1
             have hT1 := hT.below (below_of_none hgrow1)
             have hcb1 := cell_of_row w1 b 0 _ _ _ hT1.blk
             have hsz1 := hgrow1.size)
          | (refine wpList_append_src rfl (.tmp 47) (.tmp 51) rfl w'.heap.size v1 _ _ rfl (hown1.alloc _) _ 1 [.int .i64 k, .string x] rfl (src_one _ _ _) (by omega) (by simp; omega) ?_; intro v2 w2 hown2 hgrow2
             have hb2 : Below w'.heap.size w' w2 := ((below_of_none hgrow1).alloc hsz1 _).grown hgrow2 (by simp; omega) (fun j ej => (hown1.lt j ej).1)
             have hT2 := hT.below hb2
             have hcb2 := cell_of_row w2 b 0 _ _ _ hT2.blk)
          | (refine wpList_append_src rfl (.tmp 53) (.tmp 59) rfl w'.heap.size v2 _ _ rfl hown2 _ 0 [] rfl (.inr ⟨_, _, rfl, rfl, fun j u h => by simp at h, fun u h => by simp at h⟩) (by omega) hb2.size ?_; intro v3 w3 hown3 hgrow3
             have hb3 : Below w'.heap.size w' w3 := hb2.grown hgrow3 hb2.size (fun j ej => (hown2.lt j ej).1)
             have hT3 := hT.below hb3
             have hcb3 := cell_of_row w3 b 0 _ _ _ hT3.blk
             have hfb3 : w3.frozen? ⟨b, 0, none⟩ = false := by simp [World.frozen?, hT3.blk]
             obtain ⟨A3, c3, rfl⟩ := own_slice hown3))
        go_ret
        exact ⟨rfl, ref_put_end hT3 (Nat.le_refl _) hbase hb3 hlt0 (by rw [List.drop_length, List.append_nil, List.length_append, List.length_singleton, cells_append, List.take_length]; simpa [cells] using hown3)⟩
      · have hce : ¬ (cap = xs.length) := by omega
        go_enter Try.func26, Try.ntmps26
        go_wp2_with fail
        refine hc.mono ?_
        rintro e w' ⟨rfl, rfl⟩
        go_wp2_with (at_builtin; first
          | (refine wpList_append_src rfl (.tmp 39) (.tmp 45) rfl w'.heap.size (.slice none 0 0) 0 [] rfl (World.ownsRow_nil _ _ _ _) _ xs.length (cells (xs.take xs.length)) rfl (src_take hT.rows hrx) (by omega) (Nat.le_refl _) ?_; intro v1 w1 hown1 hgrow1
             have hT1 := hT.below (below_of_none hgrow1)
             have hcb1 := cell_of_row w1 b 0 _ _ _ hT1.blk
             have hsz1 := hgrow1.size)
          | (refine wpList_append_src rfl (.tmp 47) (.tmp 51) rfl w'.heap.size v1 _ _ rfl (hown1.alloc _) _ 1 [.int .i64 k, .string x] rfl (src_one _ _ _) (by omega) (by simp; omega) ?_; intro v2 w2 hown2 hgrow2
             have hb2 : Below w'.heap.size w' w2 := ((below_of_none hgrow1).alloc hsz1 _).grown hgrow2 (by simp; omega) (fun j ej => (hown1.lt j ej).1)
             have hT2 := hT.below hb2
             have hcb2 := cell_of_row w2 b 0 _ _ _ hT2.blk)
          | (refine wpList_append_src rfl (.tmp 53) (.tmp 59) rfl w'.heap.size v2 _ _ rfl hown2 _ 0 [] rfl (.inr ⟨_, _, rfl, rfl, fun j u h => by simp at h, fun u h => by simp at h⟩) (by omega) hb2.size ?_; intro v3 w3 hown3 hgrow3
             have hb3 : Below w'.heap.size w' w3 := hb2.grown hgrow3 hb2.size (fun j ej => (hown2.lt j ej).1)
             have hT3 := hT.below hb3
             have hcb3 := cell_of_row w3 b 0 _ _ _ hT3.blk
             have hfb3 : w3.frozen? ⟨b, 0, none⟩ = false := by simp [World.frozen?, hT3.blk]
             obtain ⟨A3, c3, rfl⟩ := own_slice hown3))
        go_ret
        exact ⟨rfl, ref_put_end hT3 (Nat.le_refl _) hbase hb3 hlt0 (by rw [List.drop_length, List.append_nil, List.length_append, List.length_singleton, cells_append, List.take_length]; simpa [cells] using hown3)⟩
end Go.Proofs.Ytbpaejbecgaepaa.TabIS
