/- The table's methods, at one pair of types. -/
import Derived.Test.YtbpaejbecgaepaaInsIS
namespace Go.Proofs.Ytbpaejbecgaepaa.TabIS
open Go Go.RowKit Go.Proofs
set_option linter.unusedVariables false
set_option linter.unusedSimpArgs false

/-- All blocks but those of S are as they were. -/
structure Keep (w w' : World) (S : Nat → Prop) : Prop where
  os : w'.os = w.os
  tape : w'.tape = w.tape
  output : w'.output = w.output
  size : w.heap.size ≤ w'.heap.size
  block : ∀ k, k < w.heap.size → ¬ S k → w'.heap[k]? = w.heap[k]?
theorem Keep.of_below {w w' : World} (h : Below w.heap.size w w') (S : Nat → Prop) : Keep w w' S := ⟨h.os, h.tape, h.output, h.size, fun k hk _ => h.block k hk⟩
theorem Keep.of_grown {w w' : World} {row : Option Nat} (h : w.grownBy w' row) {S : Nat → Prop} (hS : ∀ k, some k = row → S k) : Keep w w' S := ⟨h.os, h.tape, h.output, h.size, fun k hk hn => h.block k hk (fun e => hn (hS k e))⟩
theorem Keep.trans {w w1 w2 : World} {S S1 : Nat → Prop} (h : Keep w w1 S) (k : Keep w1 w2 S1) (hS : ∀ j, j < w.heap.size → S1 j → S j) : Keep w w2 S :=
  ⟨k.os.trans h.os, k.tape.trans h.tape, k.output.trans h.output, Nat.le_trans h.size k.size, fun j hj hn => (k.block j (Nat.lt_of_lt_of_le hj h.size) (fun e => hn (hS j hj e))).trans (h.block j hj hn)⟩
theorem Keep.set {w w' : World} {S : Nat → Prop} (h : Keep w w' S) (p : Addr) (u : Value) (hp : p.block < w.heap.size → S p.block) : Keep w (w'.setCell p u) S :=
  ⟨h.os, h.tape, h.output, by simpa [World.setCell] using h.size, fun k hk hn => (Below.heap_setCell w' p u k (fun e => hn (by rw [e]; exact hp (e ▸ hk)))).trans (h.block k hk hn)⟩
theorem IsTab.lt {w : World} {base b : Nat} {v : Value} {xs : List (Int × ByteArray)} (h : IsTab w base b v xs) : b < w.heap.size := (Array.getElem?_eq_some_iff.1 h.blk).1
/-- A table of which nothing is touched. -/
theorem IsTab.kept {w w' : World} {base b : Nat} {v : Value} {xs : List (Int × ByteArray)} {S : Nat → Prop} (h : IsTab w base b v xs) (k : Keep w w' S) (hb : ¬ S b) (hv : ∀ j, v.ownBlock = some j → ¬ S j) : IsTab w' base b v xs := by
  refine ⟨(k.block b h.lt hb).trans h.blk, ⟨h.rows.1, h.rows.2.imp id ?_⟩, h.apart⟩
  rintro ⟨g, cap, cur, rfl, hg, hb2, rest⟩
  exact ⟨g, cap, cur, rfl, hg, (k.block g (Array.getElem?_eq_some_iff.1 hb2).1 (hv g rfl)).trans hb2, rest⟩
theorem IsTab.below {w w' : World} {base b : Nat} {v : Value} {xs : List (Int × ByteArray)} (h : IsTab w base b v xs) (k : Below w.heap.size w w') : IsTab w' base b v xs := h.kept (Keep.of_below k (fun _ => False)) id (fun _ _ => id)
/-- What a table's own call may touch. -/
def Own (b : Nat) (v : Value) : Nat → Prop := fun j => j = b ∨ v.ownBlock = some j
/-- What a call on a table leaves. -/
def Turned (w : World) (base b : Nat) (v : Value) (ys : List (Int × ByteArray)) (w' : World) : Prop :=
  ∃ v', IsTab w' base b v' ys ∧ Keep w w' (Own b v) ∧ (v'.ownBlock = v.ownBlock ∨ ∃ g, v'.ownBlock = some g ∧ w.heap.size ≤ g)

set_option maxHeartbeats 1000000 in
theorem new_calls (w : World) : Calls Try.prog 25 #[] w fun e w' => e = .returned (.pointer (some ⟨w.heap.size, 0, none⟩)) ∧ IsTab w' w.heap.size w.heap.size (.slice none 0 0) [] ∧ Below w.heap.size w w' := by
  go_enter Try.func25, Try.ntmps25
  go_wp2
  go_ret
  exact ⟨rfl, ⟨heap_alloc_new w _, World.ownsRow_nil _ _ _ _, by simp [Value.ownBlock]⟩, (Below.refl _ w).alloc (Nat.le_refl _) _⟩

/-- What stands under a key. -/
def getL (xs : List (Int × ByteArray)) (k : Int) (r : Nat) : ByteArray × Bool := match xs[r]? with
  | some x => if cmpK x.1 k == 0 then (x.2, true) else ((⟨#[]⟩ : ByteArray), false)
  | none => ((⟨#[]⟩ : ByteArray), false)
set_option maxHeartbeats 1000000 in
theorem get_calls (base b : Nat) (v : Value) (xs : List (Int × ByteArray)) (k : Int) (r : Nat) (w : World) (hT : IsTab w base b v xs) (hp : Place xs k r) (hl : xs.length ≤ 1099511627776) (hbase : base ≤ w.heap.size) :
    Calls Try.prog 27 #[.pointer (some ⟨b, 0, none⟩), (Value.int .i64 k)] w fun e w' => e = .returned (.tuple #[(Value.string (getL xs k r).1), .bool (getL xs k r).2]) ∧ Below w.heap.size w w' := by
  have hc := find_calls base b v xs k r w hT hp (by omega) hbase
  obtain ⟨q, hq⟩ : ∃ q, getL xs k r = q := ⟨_, rfl⟩
  rw [hq]
  unfold getL at hq
  cases hx : xs[r]? with
  | none =>
    rw [hx] at hq
    subst hq
    rw [show hasAt xs k r = false by unfold hasAt; rw [hx]] at hc
    go_enter Try.func27, Try.ntmps27
    go_wp2_with fail
    refine hc.mono ?_
    rintro e w' ⟨rfl, hb⟩
    go_wp2
    go_ret2
    exact ⟨rfl, hb⟩
  | some x =>
    rw [hx] at hq
    have hh : hasAt xs k r = (cmpK x.1 k == 0) := by unfold hasAt; rw [hx]
    by_cases h0 : (cmpK x.1 k == 0) = true
    · simp only [h0, if_true] at hq
      subst hq
      rw [hh, h0] at hc
      obtain ⟨g, cap, rfl, hg, hcap⟩ := own_form hT.rows (Nat.lt_of_le_of_lt (Nat.zero_le r) (List.getElem?_eq_some_iff.1 hx).1)
      have hrx := (List.getElem?_eq_some_iff.1 hx).1
      have hi1 : (0 : Int) ≤ (r : Int) := by omega
      have hi2 : (r : Int) < (xs.length : Int) := by omega
      go_enter Try.func27, Try.ntmps27
      go_wp2_with fail
      refine hc.mono ?_
      rintro e w' ⟨rfl, hb⟩
      have hT' := hT.below hb
      have hcb := cell_of_row w' b 0 _ _ _ hT'.blk
      obtain ⟨hc0, hc1⟩ := rows_cell hT'.rows hx
      go_wp2
      go_ret2
      exact ⟨rfl, hb⟩
    · have h0' := Bool.eq_false_iff.2 h0
      simp only [h0', Bool.false_eq_true, if_false] at hq
      subst hq
      rw [hh, Bool.eq_false_iff.2 h0] at hc
      go_enter Try.func27, Try.ntmps27
      go_wp2_with fail
      refine hc.mono ?_
      rintro e w' ⟨rfl, hb⟩
      go_wp2
      go_ret2
      exact ⟨rfl, hb⟩
/-- What Put leaves. -/
def putL (xs : List (Int × ByteArray)) (k : Int) (x : ByteArray) (r : Nat) : List (Int × ByteArray) := match xs[r]? with
  | some y => if cmpK y.1 k == 0 then xs.set r (y.1, x) else xs.take r ++ [(k, x)] ++ xs.drop r
  | none => xs.take r ++ [(k, x)] ++ xs.drop r
theorem cells_set (xs : List (Int × ByteArray)) (r : Nat) (y : Int × ByteArray) (x : ByteArray) (h : xs[r]? = some y) : (cells xs).set (r * 2 + 1) (Value.string x) = cells (xs.set r (y.1, x)) := by
  induction xs generalizing r with
  | nil => simp at h
  | cons z xs ih =>
    cases r with
    | zero => simp at h; subst h; simp [cells]
    | succ r => rw [cells_cons, List.set_cons_succ, show (r + 1) * 2 = (r * 2 + 1) + 1 by omega, List.set_cons_succ, ih r (by simpa using h), show (z :: xs).set (r + 1) (y.1, x) = z :: xs.set r (y.1, x) from rfl, cells_cons]
set_option maxHeartbeats 1000000 in
theorem put_old (base b : Nat) (v : Value) (xs : List (Int × ByteArray)) (k : Int) (x : ByteArray) (r : Nat) (y : Int × ByteArray) (w : World) (hT : IsTab w base b v xs) (hp : Place xs k r) (hl : xs.length ≤ 1099511627776) (hbase : base ≤ w.heap.size) (hy : xs[r]? = some y) (h0 : (cmpK y.1 k == 0) = true) :
    Calls Try.prog 24 #[.pointer (some ⟨b, 0, none⟩), (Value.int .i64 k), (Value.string x)] w fun e w' => e = .returned (.bool true) ∧ Turned w base b v (xs.set r (y.1, x)) w' := by
  have hc := find_calls base b v xs k r w hT hp (by omega) hbase
  rw [show hasAt xs k r = true by unfold hasAt; rw [hy]; exact h0] at hc
  have hrx := (List.getElem?_eq_some_iff.1 hy).1
  obtain ⟨g, cap, rfl, hg, hcap⟩ := own_form hT.rows (by omega)
  have hi1 : (0 : Int) ≤ (r : Int) := by omega
  have hi2 : (r : Int) < (xs.length : Int) := by omega
  go_enter Try.func24, Try.ntmps24
  go_wp2_with fail
  refine hc.mono ?_
  rintro e w' ⟨rfl, hb⟩
  have hT' := hT.below hb
  have hcb := cell_of_row w' b 0 _ _ _ hT'.blk
  obtain ⟨hc0, hc1⟩ := rows_cell hT'.rows hy
  have hf1 := hT'.rows.frozenAt (r * 2 + 1)
  have hst := hT'.rows.stored (r * 2 + 1) (Value.string x)
  rw [cells_set xs r y x hy] at hst
  go_wp2
  go_ret
  have hbg : b ≠ g := fun e => hT.apart (by rw [e]; rfl)
  refine ⟨rfl, .slice (some ⟨g, 0, none⟩) xs.length cap, ⟨?_, ?_, hT.apart⟩, ?_, .inl rfl⟩
  · exact (Below.heap_setCell w' ⟨g, r * 2 + 1, none⟩ _ b hbg).trans hT'.blk
  · unfold Rows
    rw [List.length_set]
    exact hst.1
  · exact (Keep.of_below hb _).set _ _ (fun _ => .inr rfl)
theorem frozen_new (w : World) (cs : Array Value) (t : TypeId) (j : Nat) : (w.alloc (.cells cs t)).frozen? ⟨w.heap.size, j, none⟩ = false := World.frozen?_alloc_at cs _ w.heap.size j rfl
theorem new_in (w : World) (x : Int × ByteArray) : New (w.alloc (.cells #[(Value.int .i64 x.1), (Value.string x.2)] 84)) w.heap.size x :=
  ⟨World.cell?_alloc_at (w := w) #[(Value.int .i64 x.1), (Value.string x.2)] _ w.heap.size 0 rfl, World.cell?_alloc_at (w := w) #[(Value.int .i64 x.1), (Value.string x.2)] _ w.heap.size 1 rfl⟩
theorem put_ins (base b : Nat) (v : Value) (xs : List (Int × ByteArray)) (k : Int) (x : ByteArray) (r : Nat) (w : World) (hT : IsTab w base b v xs) (hr : r ≤ xs.length) (hl : xs.length ≤ 1099511627776) (hbase : base ≤ w.heap.size) :
    Calls Try.prog 50 #[v, .int .i64 (r : Int), .slice (some ⟨w.heap.size, 0, none⟩) 1 1] (w.alloc (.cells #[(Value.int .i64 k), (Value.string x)] 84)) fun e w' => After (w.alloc (.cells #[(Value.int .i64 k), (Value.string x)] 84)) base v (xs.take r ++ [(k, x)] ++ xs.drop r) e w' := by
  have hT2 : IsTab (w.alloc (.cells #[(Value.int .i64 k), (Value.string x)] 84)) base b v xs := hT.below ((Below.refl _ w).alloc (Nat.le_refl _) _)
  have hb : base ≤ (w.alloc (.cells #[(Value.int .i64 k), (Value.string x)] 84)).heap.size := Nat.le_trans hbase (by simp)
  have hown : v.ownBlock ≠ some w.heap.size := fun e => absurd (hT.rows.lt _ e).2 (Nat.lt_irrefl _)
  have hsh := shape_of (heap_alloc_new w (.cells #[(Value.int .i64 k), (Value.string x)] 84))
  have hN := new_in w (k, x)
  have hfz := frozen_new w #[(Value.int .i64 k), (Value.string x)] 84
  exact insert_calls base v xs r w.heap.size (k, x) _ hT2.rows hN hr hl hb hown _ _ hsh hfz
set_option maxHeartbeats 2000000 in
set_option maxRecDepth 100000 in
theorem put_new (base b : Nat) (v : Value) (xs : List (Int × ByteArray)) (k : Int) (x : ByteArray) (r : Nat) (w : World) (hT : IsTab w base b v xs) (hp : Place xs k r) (hl : xs.length ≤ 1099511627776) (hbase : base ≤ w.heap.size) (h0 : hasAt xs k r = false) :
    Calls Try.prog 24 #[.pointer (some ⟨b, 0, none⟩), (Value.int .i64 k), (Value.string x)] w fun e w' => e = .returned (.bool false) ∧ Turned w base b v (xs.take r ++ [(k, x)] ++ xs.drop r) w' := by
  have hc := find_calls base b v xs k r w hT hp (by omega) hbase
  rw [h0] at hc
  obtain ⟨A, c, rfl⟩ := own_slice hT.rows
  go_enter Try.func24, Try.ntmps24
  go_wp2_with fail
  refine hc.mono ?_
  rintro e w' ⟨rfl, hb⟩
  have hT' := hT.below hb
  have hcb := cell_of_row w' b 0 _ _ _ hT'.blk
  go_wp2_with fail
  have hbl : b < w'.heap.size := hT'.lt
  have hown : ∀ j, (Value.slice A xs.length c).ownBlock = some j → j < w'.heap.size := fun j hj => (hT'.rows.lt j hj).2
  have hT2 : IsTab (w'.alloc (.cells #[(Value.int .i64 k), (Value.string x)] 84)) base b (.slice A xs.length c) xs := hT'.below ((Below.refl _ w').alloc (Nat.le_refl _) _)
  refine (put_ins base b _ xs k x r w' hT' hp.1 hl (Nat.le_trans hbase hb.size)).mono ?_
  rintro e w3 ⟨v3, rfl, hR3, hg3, hw3⟩
  have hb3 : w3.heap[b]? = some (.cells #[.slice A xs.length c] 86 (0, 0)) := (hg3.block b hT2.lt (fun e => hT.apart e.symm)).trans hT2.blk
  have hcb3 := cell_of_row w3 b 0 _ _ _ hb3
  have hfb3 : w3.frozen? ⟨b, 0, none⟩ = false := by simp [World.frozen?, hb3]
  obtain ⟨A3, c3, rfl⟩ := own_slice hR3
  have hap3 : (Value.slice A3 (xs.take r ++ [(k, x)] ++ xs.drop r).length c3).ownBlock ≠ some b := by
    intro e
    rcases hw3 with h | h
    · exact hT.apart (h.symm.trans e)
    · rw [h] at e
      have := Option.some.inj e
      simp at this
      omega
  go_wp2
  go_ret
  refine ⟨rfl, _, ⟨?_, ?_, hap3⟩, ?_, ?_⟩
  · have hlt : b < w3.heap.size := (Array.getElem?_eq_some_iff.1 hb3).1
    simp [World.setCell, Array.getElem?_modify, hb3]
  · refine hR3.kept (row := some b) ⟨rfl, rfl, rfl, by simp [World.setCell], fun j hj hn => Below.heap_setCell w3 _ _ j (fun e => hn (by rw [e]))⟩ (.inr hap3)
  · have k1 : Keep w (w'.alloc (.cells #[(Value.int .i64 k), (Value.string x)] 84)) (Own b (.slice A xs.length c)) := Keep.of_below (hb.alloc hb.size _) _
    refine (k1.trans (Keep.of_grown hg3 (S := Own b (.slice A xs.length c)) (fun j hj => .inr hj.symm)) (fun j _ h => h)).set _ _ (fun _ => .inl rfl)
  · rcases hw3 with h | h
    · exact .inl h
    · exact .inr ⟨_, h, Nat.le_trans hb.size (by simp)⟩
theorem put_calls (base b : Nat) (v : Value) (xs : List (Int × ByteArray)) (k : Int) (x : ByteArray) (r : Nat) (w : World) (hT : IsTab w base b v xs) (hp : Place xs k r) (hl : xs.length ≤ 1099511627776) (hbase : base ≤ w.heap.size) :
    Calls Try.prog 24 #[.pointer (some ⟨b, 0, none⟩), (Value.int .i64 k), (Value.string x)] w fun e w' => e = .returned (.bool (hasAt xs k r)) ∧ Turned w base b v (putL xs k x r) w' := by
  unfold putL
  cases hy : xs[r]? with
  | none =>
    have h : hasAt xs k r = false := by unfold hasAt; rw [hy]
    rw [h]
    exact put_new base b v xs k x r w hT hp hl hbase h
  | some y =>
    have hh : hasAt xs k r = (cmpK y.1 k == 0) := by unfold hasAt; rw [hy]
    by_cases h0 : (cmpK y.1 k == 0) = true
    · rw [hh]
      simp only [h0, if_true]
      exact put_old base b v xs k x r y w hT hp hl hbase hy h0
    · have h0' := Bool.eq_false_iff.2 h0
      rw [hh]
      simp only [h0', Bool.false_eq_true, if_false]
      exact put_new base b v xs k x r w hT hp hl hbase (hh.trans h0')
end Go.Proofs.Ytbpaejbecgaepaa.TabIS
