/- names.Words: its walk through strings.FieldsFunc for every text of at most 2^42 bytes (the library's own contract ends at 2^32). -/
import Derived.Shelf.Strings.FieldsFuncAny
import Derived.Test.YtadfbbjplgbakaaGreatShelf
import Derived.Test.YtadfbbjplgbakaaGreatWWords
namespace Go.Proofs.YtadfbbjplgbakaaGreat.Hand
open Go Go.RowKit Go.Shelf Go.Proofs
set_option linter.unusedVariables false
set_option linter.unusedSimpArgs false

/-- A rune that parts words. -/
def blR : Nat → Bool := fun x => x == 32 || x == 9
theorem blR_calls (W : World) (R : Nat) : Calls Tryz.prog 99 #[.int .i32 (R : Int)] W fun e W' => e = .returned (.bool (blR R)) ∧ ∃ q, W' = W.drewN q := by
  by_cases h1 : R = 32
  · subst h1
    go_enter Tryz.func99, Tryz.ntmps99
    go_wp2
    go_ret
    exact ⟨rfl, 0, rfl⟩
  · by_cases h2 : R = 9
    · subst h2
      go_enter Tryz.func99, Tryz.ntmps99
      go_wp2
      go_ret
      exact ⟨rfl, 0, rfl⟩
    · have e1 : ((R : Int) == 32) = false := by simp; omega
      have e2 : ((R : Int) == 9) = false := by simp; omega
      go_enter Tryz.func99, Tryz.ntmps99
      go_wp2
      go_ret
      exact ⟨by simp [blR, h1, h2], 0, rfl⟩

/-- How far the first pass has come. -/
structure First (s : ByteArray) (w : World) (K gf pos : Nat) (st : Option Nat) (acc : List (Nat × Nat)) (z : Int) (v : Value) (W : World) : Prop where
  open0 : st = none → z < 0
  open1 : ∀ a, st = some a → z = (a : Int) ∧ a < pos
  low : -9223372036854775808 ≤ z
  own : W.ownsRow w.heap.size 145 2 v acc.length (Lib.spanCells acc)
  iter : W.heap[K]? = some (.stringIter s pos)
  below : Below w.heap.size w W
  spans : Lib.spansFromP blR s gf pos st acc = Lib.spansFromP blR s s.size 0 none []
  fuel : s.size ≤ pos + gf
  inside : pos ≤ s.size
  few : acc.length ≤ pos
  good : ∀ x ∈ acc, x.1 ≤ x.2 ∧ x.2 ≤ s.size
  made : v ≠ .slice none 0 0
/-- A rune's bytes lie within. -/
theorem rune_in (s : ByteArray) (pos : Nat) (h : pos < s.size) : 1 ≤ (Utf8.decode s pos).2 ∧ pos + (Utf8.decode s pos).2 ≤ s.size := by
  have h1 := Lib.width_pos s pos
  have h2 := Lib.decodeN_le_n' (s.size - pos) (s.get! pos).toNat (s.get! (pos + 1)).toNat (s.get! (pos + 2)).toNat (s.get! (pos + 3)).toNat (by omega)
  rw [← Lib.decode_at] at h2
  exact ⟨by omega, by omega⟩
theorem spans_step (s : ByteArray) (pos g : Nat) (st : Option Nat) (acc : List (Nat × Nat)) (hlt : pos < s.size) :
    Lib.spansFromP blR s (g + 1) pos st acc = if blR (Utf8.decode s pos).1 then (match st with | some a => Lib.spansFromP blR s g (pos + (Utf8.decode s pos).2) none (acc ++ [(a, pos)]) | none => Lib.spansFromP blR s g (pos + (Utf8.decode s pos).2) none acc) else (match st with | some a => Lib.spansFromP blR s g (pos + (Utf8.decode s pos).2) (some a) acc | none => Lib.spansFromP blR s g (pos + (Utf8.decode s pos).2) (some pos) acc) := by
  cases st <;> simp [Lib.spansFromP, hlt]
theorem First.after {s : ByteArray} {w W : World} {K g pos : Nat} {st : Option Nat} {acc : List (Nat × Nat)} {z : Int} {v : Value} (hF : First s w K g pos st acc z v W) (hK : w.heap.size ≤ K) (p q : Nat) :
    (((W.iterAt K s p).drewN q).ownsRow w.heap.size 145 2 v acc.length (Lib.spanCells acc)) ∧ ((W.iterAt K s p).drewN q).heap[K]? = some (.stringIter s p) ∧ Below w.heap.size w ((W.iterAt K s p).drewN q) :=
  ⟨own_drewN (own_iterAt hF.own hF.iter _) q, Lib.iterAt_heap W K s pos _ hF.iter, below_drewN' (Lib.below_iterAt hF.below (k := K) hK s _) q⟩
/-- A span more. -/
theorem span_more {w W w3 : World} {K : Nat} {acc : List (Nat × Nat)} {v v3 : Value} {s : ByteArray} {p x y : Nat} (ho : W.ownsRow w.heap.size 145 2 v acc.length (Lib.spanCells acc)) (hi : W.heap[K]? = some (.stringIter s p)) (hb : Below w.heap.size w W)
    (ho3 : w3.ownsRow w.heap.size 145 2 v3 (acc.length + 1) (Lib.spanCells acc ++ [.int .i64 (x : Int), .int .i64 (y : Int)])) (hg : (W.alloc (.cells #[.int .i64 (x : Int), .int .i64 (y : Int)] 145)).grownBy w3 v.ownBlock) :
    w3.ownsRow w.heap.size 145 2 v3 (acc ++ [(x, y)]).length (Lib.spanCells (acc ++ [(x, y)])) ∧ w3.heap[K]? = some (.stringIter s p) ∧ Below w.heap.size w w3 := by
  have hlt : K < W.heap.size := (Array.getElem?_eq_some_iff.1 hi).1
  have hX := ho.alloc (.cells #[.int .i64 (x : Int), .int .i64 (y : Int)] 145)
  refine ⟨?_, ?_, ?_⟩
  · rw [List.length_append, Lib.spanCells_snoc]; exact ho3
  · exact (hg.block K (by simp; omega) (own_ne_iter ho hi)).trans ((Below.heap_alloc _ _ _ hlt).trans hi)
  · exact (hb.alloc hb.size _).grown hg (by have := hb.size; simp; omega) (fun j hj => (hX.lt j hj).1)
theorem First.moved {s : ByteArray} {w W : World} {K g pos : Nat} {st : Option Nat} {acc : List (Nat × Nat)} {z : Int} {v : Value} (hF : First s w K (g + 1) pos st acc z v W) (hlt : pos < s.size) (hK : w.heap.size ≤ K) (q : Nat) (st' : Option Nat) (z' : Int)
    (h0 : st' = none → z' < 0) (h1 : ∀ a, st' = some a → z' = (a : Int) ∧ a < pos + (Utf8.decode s pos).2) (hl : -9223372036854775808 ≤ z')
    (hsp : Lib.spansFromP blR s (g + 1) pos st acc = Lib.spansFromP blR s g (pos + (Utf8.decode s pos).2) st' acc) :
    First s w K g (pos + (Utf8.decode s pos).2) st' acc z' v ((W.iterAt K s (pos + (Utf8.decode s pos).2)).drewN q) := by
  obtain ⟨r1, r2⟩ := rune_in s pos hlt
  have hf := hF.fuel
  have hn := hF.few
  exact ⟨h0, h1, hl, own_drewN (own_iterAt hF.own hF.iter _) q, Lib.iterAt_heap W K s pos _ hF.iter, below_drewN' (Lib.below_iterAt hF.below (k := K) hK s _) q, hsp.symm.trans hF.spans, by omega, r2, by omega, hF.good, hF.made⟩
/-- The second pass: i pieces are laid. -/
structure Second (s : ByteArray) (w : World) (SP : List (Nat × Nat)) (A g cap i : Nat) (W : World) : Prop where
  row : W.ownsRow w.heap.size 9 1 (.slice (some ⟨A, 0, none⟩) SP.length SP.length) SP.length (Lib.rowAt s SP i)
  spans : W.ownsRow w.heap.size 145 2 (.slice (some ⟨g, 0, none⟩) SP.length cap) SP.length (Lib.spanCells SP)
  below : Below w.heap.size w W
theorem Second.more {s : ByteArray} {w W : World} {SP : List (Nat × Nat)} {A g cap i : Nat} {x : Nat × Nat} (h : Second s w SP A g cap i W) (hx : SP[i]? = some x) (hg : g ≠ A) (hA : w.heap.size ≤ A) :
    Second s w SP A g cap (i + 1) ((W.alloc (.cells #[.int .i64 (x.1 : Int), .int .i64 (x.2 : Int)] 145)).setCell ⟨A, i, none⟩ (.string (s.extract x.1 x.2))) := by
  have hst := (h.row.alloc (.cells #[.int .i64 (x.1 : Int), .int .i64 (x.2 : Int)] 145)).stored i (.string (s.extract x.1 x.2))
  rw [Lib.rowAt_set s SP i x hx] at hst
  refine ⟨hst.1, (h.spans.alloc _).kept hst.2 (.inr (by simp only [Value.ownBlock]; first | exact fun e => hg (Option.some.inj e) | exact fun e => hg (Option.some.inj e).symm)), ?_⟩
  exact (h.below.alloc h.below.size _).grown hst.2 (by have := h.below.size; simp; omega) (fun k hk => by cases hk; exact hA)
theorem info_span : (Tryz.prog.info? 145).map (fun i => (i.zero, i.size, i.bytes)) = some (some (.agg #[.int .i64 0, .int .i64 0]), 2, 16) := by kernel_rfl
theorem info_text : (Tryz.prog.info? 9).map (fun i => (i.zero, i.size, i.bytes)) = some (some (.string ⟨#[]⟩), 1, 16) := by kernel_rfl

set_option maxHeartbeats 4000000 in
set_option maxRecDepth 1000000 in
theorem fields_calls (s : ByteArray) (w : World) (hs : s.size ≤ 4398046511104) :
    Calls Tryz.prog 98 #[.string s, .func (.func 99) #[] #[]] w fun e w' => ∃ v, e = .returned v ∧ w'.ownsRow w.heap.size 9 1 v (Lib.goFieldsP blR s).length ((Lib.goFieldsP blR s).map Value.string) ∧ Below w.heap.size w w' := by
  have hGF : Lib.goFieldsP blR s = (Lib.spansOfP blR s).map fun x => s.extract x.1 x.2 := rfl
  rw [hGF, List.length_map, List.map_map]
  obtain ⟨i0, hi, hz0, hz1, hz2⟩ := info_parts info_span
  obtain ⟨i9, hi9, hz90, hz91, hz92⟩ := info_parts info_text
  obtain ⟨W0, hmk, hown0, hg0⟩ := run_make_own (P := Tryz.prog) w w.heap.size 143 145 i0 _ 2 Tryz.underlying143 hi hz0 hz1 .i64 .i64 32 (by rw [hz2]; decide) (by unfold maxLen; decide) (Nat.le_refl _)
  rw [show ((32 : Nat) : Int) = 32 from rfl] at hmk
  have hb0 : Below w.heap.size w W0 := (Below.refl _ w).grown hg0 (Nat.le_refl _) (fun k hk => by cases hk)
  have eg := enters_of Tryz.func99 (by kernel_rfl) rfl
  go_enter Tryz.func98, Tryz.ntmps98
  go_wp2
  go_loopg [5, 6] s.size (fun gf s5 s6 wx => ∃ (pos : Nat) (st : Option Nat) (acc : List (Nat × Nat)) (z : Int), s6 = .int .i64 z ∧ First s w W0.heap.size gf pos st acc z s5 wx)
  case atStart =>
    exact ⟨0, none, [], -1, rfl, ⟨fun _ => by omega, (fun a h => by cases h), by omega, hown0.alloc _, World.iter_heap W0 s 0, hb0.alloc hb0.size _, rfl, by omega, Nat.zero_le _, Nat.le_refl _, (fun x hx => by cases hx), (fun h => by cases h)⟩⟩
  case round =>
    obtain ⟨pos, st, acc, z, rfl, hF⟩ := hrel
    by_cases hlt : pos < s.size
    · obtain ⟨g, rfl⟩ : ∃ g, gk = g + 1 := ⟨gk - 1, by have := hF.fuel; omega⟩
      have hnx : ∀ ty, (Instr.next (.pointer (some ⟨W0.heap.size, 0, none⟩)) true ty).run Tryz.prog wr = _ := fun ty => Lib.run_next_any_at wr W0.heap.size s pos ty hF.iter hlt
      have hM := hF.moved hlt hb0.size
      obtain ⟨r1, r2⟩ := rune_in s pos hlt
      have hdef : ∀ st, Lib.spansFromP blR s (g + 1) pos st acc = if blR (Utf8.decode s pos).1 then (match st with | some a => Lib.spansFromP blR s g (pos + (Utf8.decode s pos).2) none (acc ++ [(a, pos)]) | none => Lib.spansFromP blR s g (pos + (Utf8.decode s pos).2) none acc) else (match st with | some a => Lib.spansFromP blR s g (pos + (Utf8.decode s pos).2) (some a) acc | none => Lib.spansFromP blR s g (pos + (Utf8.decode s pos).2) (some pos) acc) := fun st => spans_step s pos g st acc hlt
      obtain ⟨D, hD⟩ : ∃ D, Utf8.decode s pos = D := ⟨_, rfl⟩
      rw [hD] at hnx hM r1 r2
      simp only [hD] at hdef
      obtain ⟨W, hW⟩ : ∃ W, wr.iterAt W0.heap.size s (pos + D.2) = W := ⟨_, rfl⟩
      rw [hW] at hnx hM
      have cS := blR_calls W D.1
      cases hb : blR D.1 <;> rw [hb] at cS <;> simp only [hb, if_true, Bool.false_eq_true, if_false] at hdef
      · cases st with
        | none =>
          have hz := hF.open0 rfl
          go_wp2_with fail
          refine cS.mono ?_
          rintro e W' ⟨rfl, q, rfl⟩
          go_wp2_with fail
          go_roundg g
          case measure => omega
          case rel => exact ⟨pos + D.2, some pos, acc, pos, rfl, hM q (some pos) pos (fun h => by cases h) (fun a h => by cases h; exact ⟨rfl, by omega⟩) (by omega) (hdef none)⟩
        | some a =>
          obtain ⟨rfl, hap⟩ := hF.open1 a rfl
          go_wp2_with fail
          refine cS.mono ?_
          rintro e W' ⟨rfl, q, rfl⟩
          go_wp2_with fail
          go_roundg g
          case measure => omega
          case rel => exact ⟨pos + D.2, some a, acc, a, rfl, hM q (some a) a (fun h => by cases h) (fun b h => by cases h; exact ⟨rfl, by omega⟩) (by omega) (hdef (some a))⟩
      · cases st with
        | none =>
          have hz := hF.open0 rfl
          have hlow := hF.low
          go_wp2_with fail
          refine cS.mono ?_
          rintro e W' ⟨rfl, q, rfl⟩
          go_wp2_with fail
          go_roundg g
          case measure => omega
          case rel => exact ⟨pos + D.2, none, acc, z, rfl, hM q none z (fun _ => hz) (fun b h => by cases h) hlow (hdef none)⟩
        | some a =>
          obtain ⟨rfl, hap⟩ := hF.open1 a rfl
          have hfew := hF.few
          have hfu := hF.fuel
          have hAf := hF.after hb0.size (pos + D.2)
          rw [hW] at hAf
          go_wp2_with fail
          refine cS.mono ?_
          rintro e W' ⟨rfl, q, rfl⟩
          obtain ⟨hown, hit, hbw⟩ := hAf q
          go_wp2_with (at_builtin; go_must (refine wpList_append_own _ rfl (.tmp 24) (.tmp 28) 143 rfl w.heap.size 145 i0 (.agg #[.int .i64 0, .int .i64 0]) 2 16 Tryz.underlying143 hi hz0 hz1 hz2 rfl (by decide) _ _ _ rfl (hown.alloc _) ⟨(W.drewN q).heap.size, 0, none⟩ 1 1 [.int .i64 (a : Int), .int .i64 (pos : Int)] rfl rfl (cell_two_new' _ _ _ _) (by intro u hu; simp at hu; rcases hu with rfl | rfl <;> rfl) (by unfold maxLen; omega) (by omega) (Nat.le_trans hbw.size (by simp)) ?_; intro v3 w3 hown3 hgrow3 hnil3))
          rw [i64_not a (by omega)]
          obtain ⟨n1, n2, n3⟩ := span_more hown hit hbw hown3 hgrow3
          go_roundg g
          case measure => omega
          case rel =>
            refine ⟨pos + D.2, none, acc ++ [(a, pos)], -1 - (a : Int), rfl, ⟨fun _ => by omega, (fun b h => by cases h), by omega, n1, n2, n3, (hdef (some a)).symm.trans hF.spans, by omega, r2, by simp; omega, fun x hx => ?_, fun h => by have := (hnil3.1 h).2; omega⟩⟩
            rcases List.mem_append.1 hx with h | h
            · exact hF.good x h
            · obtain rfl := List.mem_singleton.1 h
              exact ⟨by simp; omega, by simp; omega⟩
    · -- the runes are through
      obtain rfl : pos = s.size := by have := hF.inside; omega
      have hnx : ∀ ty, (Instr.next (.pointer (some ⟨W0.heap.size, 0, none⟩)) true ty).run Tryz.prog wr = _ := fun ty => Lib.run_next_end_at wr W0.heap.size s s.size ty hF.iter hlt
      have hsp := hF.spans
      rw [Lib.spansFromP_end blR s gk _ _ _ hlt] at hsp
      have hSP : Lib.spansOfP blR s = Lib.closeSpans s (acc, st) := by unfold Lib.spansOfP; rw [← hsp]
      have hokS : ∀ x ∈ Lib.spansOfP blR s, x.1 ≤ x.2 ∧ x.2 ≤ s.size := by
        rw [hSP]
        cases st with
        | none => exact hF.good
        | some a =>
          intro x hx
          rcases List.mem_append.1 hx with h | h
          · exact hF.good x h
          · obtain rfl := List.mem_singleton.1 h
            exact ⟨Nat.le_of_lt (hF.open1 a rfl).2, Nat.le_refl _⟩
      have hlenS : (Lib.spansOfP blR s).length ≤ s.size + 1 := by
        have hfew := hF.few
        rw [hSP]
        cases st with
        | none => exact Nat.le_succ_of_le hfew
        | some a => show (acc ++ [(a, s.size)]).length ≤ _; simp; omega
      go_upto_if 36 with fail
      go_cut [5] (fun s5 wx => wx.ownsRow w.heap.size 145 2 s5 (Lib.spansOfP blR s).length (Lib.spanCells (Lib.spansOfP blR s)) ∧ Below w.heap.size w wx ∧ s5 ≠ .slice none 0 0)
      case first =>
        cases st with
        | none =>
          have hz := hF.open0 rfl
          go_wp2_with fail
          go_meet
          exact ⟨by rw [hSP]; exact hF.own, hF.below, hF.made⟩
        | some a =>
          obtain ⟨rfl, hap⟩ := hF.open1 a rfl
          have hown := hF.own
          have hfew := hF.few
          have hbw := hF.below
          go_wp2_with (at_builtin; go_must (refine wpList_append_own _ rfl (.tmp 37) (.tmp 42) 143 rfl w.heap.size 145 i0 (.agg #[.int .i64 0, .int .i64 0]) 2 16 Tryz.underlying143 hi hz0 hz1 hz2 rfl (by decide) _ _ _ rfl (hown.alloc _) ⟨wr.heap.size, 0, none⟩ 1 1 [.int .i64 (a : Int), .int .i64 (s.size : Int)] rfl rfl (cell_two_new' _ _ _ _) (by intro u hu; simp at hu; rcases hu with rfl | rfl <;> rfl) (by unfold maxLen; omega) (by omega) (Nat.le_trans hbw.size (by simp)) ?_; intro v3 w3 hown3 hgrow3 hnil3))
          obtain ⟨n1, n2, n3⟩ := span_more hown hF.iter hbw hown3 hgrow3
          go_meet
          exact ⟨by rw [hSP]; exact n1, n3, fun h => by have := (hnil3.1 h).2; omega⟩
      case rest =>
        obtain ⟨hownS, hbS, hnnS⟩ := hcut
        obtain ⟨SP, hSPe⟩ : ∃ SP, Lib.spansOfP blR s = SP := ⟨_, rfl⟩
        rw [hSPe] at hownS hokS hlenS
        clear hSP hsp hF hnx
        obtain ⟨g5, cap5, rfl⟩ : ∃ g5 cap5, u5 = .slice (some ⟨g5, 0, none⟩) SP.length cap5 := by
          rcases hownS.2 with ⟨h, _⟩ | ⟨g5, cap5, _, h, _⟩
          · exact absurd h hnnS
          · exact ⟨g5, cap5, h⟩
        have hg5 : g5 < wc.heap.size := (hownS.lt g5 rfl).2
        obtain ⟨W5, hmk5, hown5, hgr5⟩ := run_make_full (P := Tryz.prog) wc w.heap.size 23 9 i9 _ 1 Tryz.underlying23 hi9 hz90 hz91 .i64 .i64 SP.length (by rw [hz92]; omega) (by unfold maxLen; omega) hbS.size
        rw [show (Value.string ⟨#[]⟩).cells = #[Value.string ⟨#[]⟩] from rfl, Nat.mul_one, toList_madeCells_one, ← Lib.rowAt_zero s SP] at hown5
        have h5 : Second s w SP wc.heap.size g5 cap5 0 W5 := ⟨hown5, hownS.kept hgr5 (Classical.em _), hbS.grown hgr5 hbS.size (fun k hk => by cases hk)⟩
        have hne : g5 ≠ wc.heap.size := by omega
        have hsz := hbS.size
        go_wp2
        go_loopg [49] SP.length (fun gf s49 wx => ∃ i : Nat, i + gf = SP.length ∧ s49 = .int .i64 i ∧ Second s w SP wc.heap.size g5 cap5 i wx)
        case atStart => exact ⟨0, by omega, rfl, h5⟩
        case round =>
          obtain ⟨i, hig, rfl, hR⟩ := hrel
          cases gk with
          | zero =>
            obtain rfl : i = SP.length := by omega
            have hin : ¬ ((SP.length : Int) < (SP.length : Int)) := by omega
            go_wp2
            go_ret
            have hA := hR.row
            rw [Lib.rowAt_all] at hA
            subst hSPe
            exact ⟨_, rfl, hA, hR.below⟩
          | succ gf =>
            have hin : (i : Int) < (SP.length : Int) := by omega
            obtain ⟨x, hx⟩ : ∃ x, SP[i]? = some x := ⟨_, List.getElem?_eq_getElem (by omega)⟩
            have hxo := hokS x (List.mem_of_getElem? hx)
            have hM := hR.more hx hne hsz
            have hc0 : wr.cell? ⟨g5, i * 2, none⟩ = some (.int .i64 x.1) := (hR.spans.cellAt (i * 2) (by omega)).trans (Lib.spanCells_at SP i x hx).1
            have hc1 : wr.cell? ⟨g5, i * 2 + 1, none⟩ = some (.int .i64 x.2) := (hR.spans.cellAt (i * 2 + 1) (by omega)).trans (Lib.spanCells_at SP i x hx).2
            have hA' := hR.row.alloc (.cells #[.int .i64 (x.1 : Int), .int .i64 (x.2 : Int)] 145)
            obtain ⟨old, hold⟩ : ∃ old, (Lib.rowAt s SP i)[i]? = some old := ⟨_, List.getElem?_eq_getElem (by have := hR.row.1; omega)⟩
            have hcA := (hA'.cellAt i (by omega)).trans hold
            have hfA := hA'.frozenAt i
            go_wp2
            go_roundg gf
            case measure => omega
            case rel => exact ⟨i + 1, by omega, by go_num, hM⟩
end Go.Proofs.YtadfbbjplgbakaaGreat.Hand

/-! ### as the printed texts ask it -/
namespace Go.Proofs.YtadfbbjplgbakaaGreat.PX
open Go Go.RowKit Go.Proofs.YtadfbbjplgbakaaGreatW.PrintWords Go.Proofs.YtadfbbjplgbakaaGreat.Hand
def names_Words.bl : Nat → Bool := fun x => x == 32 || x == 9
def names_Words.f (a0 : ByteArray) : Option (List ByteArray) := if a0.size ≤ 4398046511104 then some (Lib.goFieldsP names_Words.bl a0) else none
set_option maxHeartbeats 1000000 in
theorem names_Words.calls (a0 : ByteArray) (r : List ByteArray) (w : World) (h : names_Words.f a0 = some r) :
    Calls Tryz.prog 89 #[.string a0] w fun e w' => ∃ v0_ : Value, e = .returned (v0_) ∧ Kd.R Kd.string 9 w' w.heap.size (fun _ => True) v0_ r ∧ Below w.heap.size w w' := by
  unfold names_Words.f at h
  by_cases c : a0.size ≤ 4398046511104
  · rw [if_pos c] at h
    obtain rfl := Option.some.inj h
    have cF : Calls Tryz.prog 98 #[.string a0, .func (.func 99) #[] #[]] w fun e w' => ∃ v, e = .returned v ∧ w'.ownsRow w.heap.size 9 1 v (Lib.goFieldsP names_Words.bl a0).length ((Lib.goFieldsP names_Words.bl a0).map Value.string) ∧ Below w.heap.size w w' := fields_calls a0 w c
    go_enter Tryz.func89, Tryz.ntmps89
    go_wp2_with (go_at_call 98; refine cF.mono ?_; rintro e w' ⟨v, rfl, hown, hb⟩)
    go_ret
    exact ⟨_, rfl, Kd.R_of_own hown (fun _ _ => trivial), hb⟩
  · rw [if_neg c] at h
    cases h
end Go.Proofs.YtadfbbjplgbakaaGreat.PX
