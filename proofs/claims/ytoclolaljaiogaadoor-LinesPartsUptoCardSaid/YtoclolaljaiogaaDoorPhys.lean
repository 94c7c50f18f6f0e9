/- lines.Physical: its closure keeps what is left of the text in a cell of its own. -/
import Derived.Test.YtoclolaljaiogaaDoorRangeC
import Derived.Test.YtoclolaljaiogaaDoorLineL
import Derived.Shelf.Abstract
import Derived.WalkKit
import Derived.OwnWalkIn
import Derived.TacticsInMore
import Derived.LoopNIn
import Derived.LoopIn
import Derived.Maps.AppendAt
import Derived.Lib.IndexLaws
import Derived.Laws.Strings3
import Derived.Test.YtoclolaljaiogaaDoorShelf
import Derived.Test.YtoclolaljaiogaaDoorWWords
namespace Go.Proofs.YtoclolaljaiogaaDoor.Hand
open Go Go.RowKit Go.Shelf Go.Proofs Go.Proofs.YtoclolaljaiogaaDoor.Plain
set_option linter.unusedVariables false
set_option linter.unusedSimpArgs false
attribute [local go_sem] Oper.semAt_some

def bs (s : ByteArray) : List UInt8 := s.data.toList
theorem bs_size (s : ByteArray) : s.size = (bs s).length := Lib.size_eq s
theorem bs_extract (s : ByteArray) (a b : Nat) : bs (s.extract a b) = ((bs s).drop a).take (b - a) := Lib.extract_data s a b

/-! ### strings.Cut at a line's end -/
set_option maxHeartbeats 1000000 in
theorem slcut_none (t : ByteArray) (w : World) (hs : t.size ≤ 9223372036854775807) (h : Lib.indexByte t.data.toList 10 = -1) :
    Calls Tryd.prog 66 #[.string t, .string ⟨#[10]⟩] w fun e w' => e = .returned (.tuple #[.string t, .string ⟨#[]⟩, .bool false]) ∧ ∃ n, w' = w.drewN n := by
  go_enter Tryd.func66, Tryd.ntmps66
  go_wp2_with (go_at_call 59; refine (Tryd.stringslite_Index_one t 10 _).mono ?_; rintro e w' ⟨rfl, rfl⟩; rw [h])
  go_ret3
  exact ⟨rfl, 0, rfl⟩
set_option maxHeartbeats 1000000 in
theorem slcut_some (t : ByteArray) (i : Nat) (w : World) (hs : t.size ≤ 9223372036854775807) (h : Lib.indexByte t.data.toList 10 = i) (hi : i < t.size) :
    Calls Tryd.prog 66 #[.string t, .string ⟨#[10]⟩] w fun e w' => e = .returned (.tuple #[.string (t.extract 0 i), .string (t.extract (i + 1) t.size), .bool true]) ∧ ∃ n, w' = w.drewN n := by
  have c1 : (0 : Int) ≤ ↑i := by omega
  have c2 : (↑i : Int) ≤ ↑t.size := by omega
  have c3 : (0 : Int) ≤ ↑i + 1 := by omega
  have c4 : (↑i + 1 : Int) ≤ ↑t.size := by omega
  go_enter Tryd.func66, Tryd.ntmps66
  go_wp2_with (go_at_call 59; refine (Tryd.stringslite_Index_one t 10 _).mono ?_; rintro e w' ⟨rfl, rfl⟩; rw [h])
  go_region
  all_goals go_wp2
  all_goals go_ret3
  all_goals exact ⟨rfl, 1, rfl⟩
set_option maxHeartbeats 1000000 in
theorem cut_none (t : ByteArray) (w : World) (hs : t.size ≤ 9223372036854775807) (h : Lib.indexByte t.data.toList 10 = -1) :
    Calls Tryd.prog 53 #[.string t, .string ⟨#[10]⟩] w fun e w' => e = .returned (.tuple #[.string t, .string ⟨#[]⟩, .bool false]) ∧ ∃ n, w' = w.drewN n := by
  go_enter Tryd.func53, Tryd.ntmps53
  go_wp2_with (go_at_call 66; refine (slcut_none t _ hs h).mono ?_; rintro e w' ⟨rfl, n, rfl⟩)
  go_ret3
  exact ⟨rfl, n, rfl⟩
set_option maxHeartbeats 1000000 in
theorem cut_some (t : ByteArray) (i : Nat) (w : World) (hs : t.size ≤ 9223372036854775807) (h : Lib.indexByte t.data.toList 10 = i) (hi : i < t.size) :
    Calls Tryd.prog 53 #[.string t, .string ⟨#[10]⟩] w fun e w' => e = .returned (.tuple #[.string (t.extract 0 i), .string (t.extract (i + 1) t.size), .bool true]) ∧ ∃ n, w' = w.drewN n := by
  go_enter Tryd.func53, Tryd.ntmps53
  go_wp2_with (go_at_call 66; refine (slcut_some t i _ hs h hi).mono ?_; rintro e w' ⟨rfl, n, rfl⟩)
  go_ret3
  exact ⟨rfl, n, rfl⟩

/-- What Cut hands back: the first line, and what is left. -/
theorem cut_any (t : ByteArray) (hs : t.size ≤ 9223372036854775807) (h0 : 0 < t.size) : ∃ (a b : ByteArray) (ok : Bool), b.size < t.size ∧ phys (bs t) = bs a :: phys (bs b) ∧ a.size ≤ t.size ∧
    ∀ w : World, Calls Tryd.prog 53 #[.string t, .string ⟨#[10]⟩] w fun e w' => e = .returned (.tuple #[.string a, .string b, .bool ok]) ∧ ∃ n, w' = w.drewN n := by
  have hsz := bs_size t
  by_cases h : Lib.indexByte t.data.toList 10 < 0
  · have h' : Lib.indexByte t.data.toList 10 = -1 := by have := Lib.indexByte_ge t.data.toList 10; omega
    have hn : (10 : UInt8) ∉ bs t := fun hm => by
      obtain ⟨k, hk⟩ := List.mem_iff_getElem?.1 hm
      exact Lib.indexByte_none h' k hk
    refine ⟨t, ⟨#[]⟩, false, by rw [show (⟨#[]⟩ : ByteArray).size = 0 from rfl]; exact h0, ?_, Nat.le_refl _, fun w => cut_none t w hs h'⟩
    rw [phys_last _ hn, if_neg (fun e => by rw [hsz, e] at h0; simp at h0)]
    rfl
  · obtain ⟨i, hi⟩ : ∃ i : Nat, Lib.indexByte t.data.toList 10 = i := ⟨(Lib.indexByte t.data.toList 10).toNat, by omega⟩
    obtain ⟨h1, h2⟩ := Lib.indexByte_some hi
    have hlt : i < (bs t).length := (List.getElem?_eq_some_iff.1 h1).1
    refine ⟨t.extract 0 i, t.extract (i + 1) t.size, true, by rw [ByteArray.size_extract]; omega, ?_, by rw [ByteArray.size_extract]; omega, fun w => cut_some t i w hs hi (by omega)⟩
    have e : bs t = (bs t).take i ++ 10 :: (bs t).drop (i + 1) := by
      conv => lhs; rw [← List.take_append_drop i (bs t)]
      rw [List.drop_eq_getElem_cons hlt]
      congr 2
      exact (List.getElem?_eq_some_iff.1 h1).2
    have hn : (10 : UInt8) ∉ (bs t).take i := fun hm => by
      obtain ⟨k, hk⟩ := List.mem_iff_getElem?.1 hm
      have hki : k < i := by have := (List.getElem?_eq_some_iff.1 hk).1; rw [List.length_take] at this; omega
      rw [List.getElem?_take_of_lt hki] at hk
      exact h2 k hki hk
    rw [bs_extract, bs_extract, List.drop_zero, Nat.sub_zero, List.take_of_length_le (i := t.size - (i + 1)) (by rw [List.length_drop]; omega)]
    conv => lhs; rw [e]
    exact phys_cut _ _ hn

/-! ### the closure -/
/-- What is left, read off the world. -/
def leftS (B : Nat) (W : World) : Nat := match W.cell? ⟨B, 0, none⟩ with
  | some (.string t) => t.size
  | _ => 0
theorem leftS_eq {B : Nat} {W : World} {t : ByteArray} (h : W.cell? ⟨B, 0, none⟩ = some (.string t)) : leftS B W = t.size := by unfold leftS; rw [h]
abbrev encs (x : Nat × ByteArray) : Array Value := #[.int .i64 (x.1 : Int), .string x.2]
/-- A row from n on is none of the blocks below n. -/
theorem row_far {W : World} {n e size k g : Nat} {v : Value} {xs : List Value} (h : W.ownsRow n e size v k xs) (hg : g < n) : some g ≠ v.ownBlock := by
  rcases h.2 with ⟨rfl, _⟩ | ⟨b, cap, cur, rfl, hb, _⟩
  · simp [Value.ownBlock]
  · simp [Value.ownBlock]; omega
/-- The caller's invariant: what has come is owned; the iterator's cell lies where it lay. -/
def Inv (w : World) (n Bo Bt : Nat) (pre : List (Nat × ByteArray)) (W : World) : Prop :=
  ((∃ v, Boxed W Bo 33 v ∧ W.ownsRow n 9 1 v pre.length (pre.map fun x => Value.string x.2)) ∧ (∃ t, Boxed W Bt 9 (.string t))) ∧ Below w.heap.size w W
theorem Inv.draw {w : World} {n Bo Bt : Nat} {pre : List (Nat × ByteArray)} {W : World} (h : Inv w n Bo Bt pre W) (q : Nat) : Inv w n Bo Bt pre (W.drewN q) := by
  obtain ⟨⟨⟨v, h1, h2⟩, t, h3⟩, h4⟩ := h
  exact ⟨⟨⟨v, h1, h2⟩, t, h3⟩, ⟨h4.os, h4.tape, h4.output, h4.size, h4.block⟩⟩
theorem Inv.store {w : World} {n Bo Bt : Nat} {pre : List (Nat × ByteArray)} {W : World} (hne : Bo ≠ Bt) (hB : w.heap.size ≤ Bt) (hn : Bt < n) (h : Inv w n Bo Bt pre W) (t : ByteArray) : Inv w n Bo Bt pre (W.setCell ⟨Bt, 0, none⟩ (.string t)) := by
  obtain ⟨⟨⟨v, h1, h2⟩, t0, h3⟩, h4⟩ := h
  exact ⟨⟨⟨v, h1.other hne _, h2.kept (grownBy_setCell' W Bt _) (.inr (row_far h2 hn).symm)⟩, t, h3.set _⟩, h4.setCell (p := ⟨Bt, 0, none⟩) hB _⟩
theorem Inv.own (w : World) (n Bo Bt : Nat) (B : Nat) (hB : w.heap.size ≤ B) : OwnFrom B (Inv w n Bo Bt) := by
  refine OwnFrom.and (OwnFrom.and ?_ ?_) (ownFrom_below (Nat.le_refl _) hB)
  · have := holdsRow_own (β := List (Nat × ByteArray)) n Bo 33 9 1 (fun pre => pre.length) (fun pre => pre.map fun x => Value.string x.2) (fun _ _ => True)
    intro s A C row hs hg hr
    obtain ⟨v, h1, h2⟩ := hs
    obtain ⟨v', h1', h2', _⟩ := this s A C row ⟨v, h1, h2, trivial⟩ hg (fun r e => (hr r e).2)
    exact ⟨v', h1', h2'⟩
  · rintro s A C row ⟨t, ht⟩ hg hr
    exact ⟨t, ht.kept hg (fun e' => by obtain ⟨_, o, ho, hc⟩ := hr Bt e'.symm; rw [show A.heap[Bt]? = _ from ht] at ho; cases ho; cases hc)⟩
theorem keeps_draw (B q : Nat) (W : World) : KeepsFrom B W (W.drewN q) := ⟨Nat.le_refl _, fun _ _ _ h _ => h⟩
/-- What one more line leaves. -/
theorem Inv.more {w W w1 : World} {n Bo Bt : Nat} {pre : List (Nat × ByteArray)} {x : Nat × ByteArray} {v v' : Value} {tmp : Obj} {t : ByteArray} (hB : w.heap.size ≤ Bo) (hn : w.heap.size ≤ n) (hne : Bt ≠ Bo) (hBt : Bt < n) (hW : n ≤ W.heap.size)
    (hv : Boxed W Bo 33 v) (hrow : W.ownsRow n 9 1 v pre.length (pre.map fun x => Value.string x.2)) (ht : Boxed W Bt 9 (.string t)) (hb : Below w.heap.size w W)
    (hown' : w1.ownsRow n 9 1 v' (pre.length + 1) ((pre.map fun x => Value.string x.2) ++ [.string x.2])) (hgrow : (W.alloc tmp).grownBy w1 v.ownBlock) :
    Boxed w1 Bo 33 v ∧ KeepsOthers W (w1.setCell ⟨Bo, 0, none⟩ v') ∧ Inv w n Bo Bt (pre ++ [x]) (w1.setCell ⟨Bo, 0, none⟩ v') := by
  have hv1 : Boxed w1 Bo 33 v := (hv.alloc tmp).kept hgrow (hv.not_row (by decide) hrow)
  have ht1 : Boxed w1 Bt 9 (.string t) := (ht.alloc tmp).kept hgrow (row_far hrow hBt)
  have hz := hb.size
  refine ⟨hv1, ?_, ⟨⟨v', hv1.set v', ?_⟩, t, ht1.other hne _⟩, ?_⟩
  · refine ((KeepsOthers.alloc W tmp).trans (KeepsOthers.of_grownBy hgrow fun j o ej hj => ?_)).trans (KeepsOthers.setCell _ _ _)
    rcases (hrow.alloc tmp).2 with ⟨rfl, _⟩ | ⟨g, cap, cur, rfl, _, hgb, _⟩
    · simp [Value.ownBlock] at ej
    · obtain rfl : g = j := by simpa [Value.ownBlock] using ej
      rw [hgb] at hj; cases hj; rfl
  · rw [List.length_append, List.length_singleton, List.map_append, List.map_singleton]
    exact hown'.kept (grownBy_setCell' w1 Bo v') (.inr (hv1.not_row (by decide) hown').symm)
  · refine ((hb.alloc hz tmp).grown hgrow (by simp; omega) fun j ej => ?_).setCell (p := ⟨Bo, 0, none⟩) hB v'
    rcases hrow.2 with ⟨rfl, _⟩ | ⟨g, cap, cur, rfl, hg, _, _⟩
    · simp [Value.ownBlock] at ej
    · obtain rfl : g = j := by simpa [Value.ownBlock] using ej
      omega

set_option maxRecDepth 100000 in
set_option maxHeartbeats 2000000 in
/-- The closure: all lines, one by one. -/
theorem phys1_in (n Nn l B0 nn Bo Bt : Nat) (hn : 1 ≤ n) (w0 : World) (a0 : ByteArray) (ha : a0.size ≤ 4611686018427387904) (J : List (Nat × ByteArray) → World → Prop) (hne : Bo ≠ Bt) (hB : w0.heap.size ≤ Bt) (hnn : Bt < nn)
    (hJI : ∀ s A, J s A → Inv w0 nn Bo Bt s A) (hJk : ∀ s A C, J s A → KeepsFrom B0 A C → Inv w0 nn Bo Bt s C → J s C) (hN : (phys (bs a0)).length ≤ Nn)
    (hY : ∀ pre x W1, J pre W1 → pre.length < Nn → YieldAt Fence.wide (n - 1) Tryd.prog l (encs x) W1 fun e W' => e = .returned (.bool true) ∧ J (pre ++ [x]) W')
    (W : World) (hBt : Boxed W Bt 9 (.string a0)) (h0 : J [] W) :
    CallsIn Fence.wide n Tryd.prog 60 #[.func (.yield l) #[] #[], .pointer (some ⟨Bt, 0, none⟩)] W fun e W' => (∃ v, e = .returned v) ∧ ∃ xs, xs.map (fun x => bs x.2) = phys (bs a0) ∧ J xs W' := by
  refine callsIn_of_wp Tryd.func60 rfl trivial ?_ rfl
  simp only [Tryd.ntmps60, List.size_toArray, List.length_cons, List.length_nil, Nat.reduceAdd, Nat.reduceSub, Array.replicate_succ, Array.replicate_zero, List.push_toArray, List.append_toArray, List.nil_append, List.cons_append]
  gi_wp2
  gi_loopw [3] (fun i wr => ∃ (k : Nat) (pre : List (Nat × ByteArray)) (t : ByteArray), i = .int .i64 k ∧ k + t.size ≤ a0.size + 1 ∧ Boxed wr Bt 9 (.string t) ∧ J pre wr ∧ pre.map (fun x => bs x.2) ++ phys (bs t) = phys (bs a0))
    (fun _ wr => leftS Bt wr)
  case atStart => exact ⟨1, [], a0, rfl, by omega, hBt, h0, rfl⟩
  case round =>
    obtain ⟨k, pre, t, rfl, hk, hb, hJ, hph⟩ := hrel
    have hc := hb.cell
    have hz := bs_size t
    by_cases h : t.size = 0
    · have e1 : t.toList = [] := by
        rw [Lib.toList_data]; exact List.eq_nil_of_length_eq_zero (by rw [← Lib.size_eq]; exact h)
      have e2 : (!t.toList.isEmpty) = false := by rw [e1]; rfl
      have e3 : bs t = [] := List.eq_nil_of_length_eq_zero (by omega)
      gi_wp2
      go_end0
      exact ⟨⟨_, rfl⟩, pre, by rw [← hph, e3]; simp [phys, physA], hJ⟩
    · have e1 : ¬ t.toList = [] := by
        rw [Lib.toList_data]; intro e; exact h (by rw [hz]; unfold bs; rw [e]; rfl)
      have e2 : (!t.toList.isEmpty) = true := by simpa using e1
      obtain ⟨a, b, ok, hlt, hpc, hal, hcut⟩ := cut_any t (by omega) (by omega)
      rw [hpc] at hph
      have hlen : pre.length < Nn := by
        have := congrArg List.length hph
        rw [List.length_append, List.length_map, List.length_cons] at this
        omega
      have hJ2 : ∀ q, J pre (wr.drewN q) := fun q => hJk _ _ _ hJ (keeps_draw _ q wr) ((hJI _ _ hJ).draw q)
      have hYq : ∀ q, YieldAt Fence.wide (n - 1) Tryd.prog l (encs (k, a)) (wr.drewN q) _ := fun q => hY pre (k, a) (wr.drewN q) (hJ2 q) hlen
      have hl1 := leftS_eq hc
      have hk2 : k + b.size + 1 ≤ a0.size + 1 := by omega
      have hk3 : k ≤ 4611686018427387905 := by omega
      have hph2 : (pre ++ [(k, a)]).map (fun x => bs x.2) ++ phys (bs b) = phys (bs a0) := by rw [← hph]; simp
      clear hph hpc hz e1 hlen hal hJ hb
      have hf1 : Fence.wide.fn 53 := trivial
      gi_wp2_with fail
      refine CallsIn.mono (callsIn_wide.2 (hcut _)) ?_
      rintro e w' ⟨rfl, q, rfl⟩
      obtain ⟨fn, tmps, assign, body, hy, hR⟩ := hYq q
      gi_wp2
      refine hR.mono ?_
      rintro e W3 ⟨rfl, hJ3⟩
      obtain ⟨⟨hv3, t3, ht3⟩, hb3⟩ := hJI _ _ hJ3
      have hc3 := ht3.cell
      have hf3 := ht3.frozen
      have hJ4 : J (pre ++ [(k, a)]) (W3.setCell ⟨Bt, 0, none⟩ (.string b)) := hJk _ _ _ hJ3 ((KeepsOthers.setCell _ _ _).from _) ((hJI _ _ hJ3).store hne hB hnn b)
      have hb4 := ht3.set (.string b)
      have hl4 := leftS_eq hb4.cell
      clear hR hy hYq hJ2
      gi_wp2
      go_roundw
      case rel => exact ⟨k + 1, pre ++ [(k, a)], b, by go_num, by omega, hb4, hJ4, hph2⟩
      case measure => rw [hl4, hl1]; exact hlt

set_option maxHeartbeats 1000000 in
theorem physical_in (n : Nat) (t : ByteArray) (w : World) :
    CallsIn Fence.wide n Tryd.prog 42 #[.string t] w fun e w' => e = .returned (.func (.func 60) #[] #[.pointer (some ⟨w.heap.size, 0, none⟩)]) ∧ w' = w.alloc (.cells #[.string t] 9) := by
  refine callsIn_of_wp Tryd.func42 rfl trivial ?_ rfl
  simp only [Tryd.ntmps42, List.size_toArray, List.length_cons, List.length_nil, Nat.reduceAdd, Nat.reduceSub, Array.replicate_succ, Array.replicate_zero, List.push_toArray, List.append_toArray, List.nil_append, List.cons_append]
  gi_wp2
  go_ret
  exact ⟨rfl, rfl⟩

theorem info_str : (Tryd.prog.info? 9).map (fun i => (i.zero, i.size, i.bytes)) = some (some (.string ⟨#[]⟩), 1, 16) := by kernel_rfl

set_option maxRecDepth 100000 in
set_option maxHeartbeats 2000000 in
theorem Physical_in (a0 : ByteArray) (ha : a0.size ≤ 4398046511104) (w : World) :
    Calls Tryd.prog 20 #[.string a0] w fun e w' => ∃ (v : Value) (r : List ByteArray), e = .returned v ∧ r.map bs = phys (bs a0) ∧ w'.ownsRow w.heap.size 9 1 v r.length (r.map Value.string) ∧ Below w.heap.size w w' := by
  obtain ⟨i0, hi, hz0, hz1, hz2⟩ := info_parts info_str
  refine (callsIn_wide (n := 9)).1 ?_
  refine callsIn_of_wp_marks Tryd.func20 rfl trivial ?_ rfl
  simp only [Tryd.ntmps20, List.size_toArray, List.length_cons, List.length_nil, Nat.reduceAdd, Nat.reduceSub, Array.replicate_succ, Array.replicate_zero, List.push_toArray, List.append_toArray, List.nil_append, List.cons_append]
  have hf1 : Fence.wide.fn 42 := trivial
  gi_wp2_with fail
  refine (physical_in _ _ _).mono ?_
  rintro e w' ⟨rfl, rfl⟩
  gi_wp2_with fail
  have bO := Boxed.new w 33 (.slice none 0 0)
  have bT := Boxed.new (w.alloc (.cells #[.slice none 0 0] 33)) 9 (.string a0)
  rw [World.size_alloc] at bT
  have hB0 : Below w.heap.size w ((w.alloc (.cells #[.slice none 0 0] 33)).alloc (.cells #[.string a0] 9)) := ((Below.refl _ w).alloc (Nat.le_refl _) _).alloc (by simp) _
  have hpl := phys_len (bs a0)
  have hz := bs_size a0
  refine rangeC (n := 9) (F := Fence.wide) rfl (by decide) (gf := 60) (lb := #[.pointer (some ⟨w.heap.size + 1, 0, none⟩)]) rfl trivial (enters_of Tryd.func60 (by kernel_rfl) rfl)
    (encs := encs) (S := fun xs => xs.map (fun x => bs x.2) = phys (bs a0)) (N := (phys (bs a0)).length) (fun _ => rfl)
    (Inv w (w.heap.size + 2) w.heap.size (w.heap.size + 1)) (Inv.own w _ _ _ _ (by simp; omega)) ⟨⟨⟨_, bO.alloc _, World.ownsRow_nil _ _ _ _⟩, a0, bT⟩, hB0⟩
    (fun x => { tmps := #[.string a0, undef, .slice none 0 0, .pointer (some ⟨w.heap.size, 0, none⟩), undef, .string x.2, .string a0, .func (.func 60) #[] #[.pointer (some ⟨w.heap.size + 1, 0, none⟩)], .int .i64 (x.1 : Int), .string x.2, undef, undef, undef, undef, undef], defers := [] }) ?iter ?assign ?body ?done
  case iter =>
    intro l J W hJI hJk hY h0 hW hbW
    exact phys1_in 8 _ l _ (w.heap.size + 2) w.heap.size (w.heap.size + 1) (by decide) w a0 (by omega) J (by omega) (by omega) (by omega) hJI hJk (Nat.le_refl _) hY W ((hbW.block _ (by simp)).trans bT) h0
  case assign =>
    intro l x W K hK
    gi_wp2
    exact hK
  case body =>
    rintro l pre x W ⟨⟨⟨v, hv, hrow⟩, t, ht⟩, hB⟩ hlt
    have hc := hv.cell
    have hsz : w.heap.size + 2 ≤ W.heap.size := by have := ht.lt; omega
    have hnx : ∃ x : World, ((w.alloc (.cells #[.slice none 0 0] 33)).alloc (.cells #[.string a0] 9)) = x := ⟨_, rfl⟩
    gi_wp2_with (gi_at_builtin; go_loud (refine wpListIn_append_own _ rfl _ _ 33 rfl (w.heap.size + 2) 9 i0 (.string ⟨#[]⟩) 1 16 Tryd.underlying33 hi hz0 hz1 hz2 rfl (by decide) _ _ _ rfl (hrow.alloc _) ⟨W.heap.size, 0, none⟩ 1 1 [.string x.2] rfl rfl (cell_one_new _ _ _) (by simp [Value.oneCell']) (by unfold maxLen; omega) (by omega) (by simp; omega) ?_; intro v' w1 hown' hgrow _; obtain ⟨g', cap', rfl⟩ := ownsRow_succ hown'; obtain ⟨hv1, hk1, hI1⟩ := Inv.more (x := x) (Nat.le_refl _) (by omega) (by omega) (by omega) hsz hv hrow ht hB hown' hgrow; have hc1 := hv1.cell; have hf1 := hv1.frozen))
    exact ⟨hk1.from _, hI1⟩
  case done =>
    rintro D xs W hD hS ⟨⟨⟨v, hv, hrow⟩, t, ht⟩, hB⟩ hK
    have hc := hv.cell
    gi_wp2
    refine ⟨by simp, .inl ⟨_, _, rfl, run_takeDeferred hK, ?_⟩⟩
    refine ⟨_, results_tmp rfl _ _ _, v, xs.map (·.2), rfl, by rw [List.map_map]; exact hS, ?_, hB.trans (belowK_b (w := w) (Nat.le_refl _) W D _ _ (by simp at hD; omega) hK rfl rfl)⟩
    rw [List.length_map, List.map_map]
    have h2 := ownsRow_putObj hrow (.deferred none) hK rfl
    refine ⟨h2.1, h2.2.imp id ?_⟩
    rintro ⟨g, cap, cur, e, hg, rest⟩
    exact ⟨g, cap, cur, e, by omega, rest⟩
end Go.Proofs.YtoclolaljaiogaaDoor.Hand

/-! ### as the printed texts ask it -/
namespace Go.Proofs.YtoclolaljaiogaaDoor.PX
open Go Go.RowKit Go.Proofs.YtoclolaljaiogaaDoorW.PrintWords Go.Proofs.YtoclolaljaiogaaDoor.Plain Go.Proofs.YtoclolaljaiogaaDoor.Hand
def lines_Physical.f (a0 : ByteArray) : Option (List ByteArray) := if a0.size ≤ 4398046511104 then some ((phys (bs a0)).map fun l => ⟨l.toArray⟩) else none
theorem lines_Physical.calls (a0 : ByteArray) (r : List ByteArray) (w : World) (h : lines_Physical.f a0 = some r) :
    Calls Tryd.prog 20 #[.string a0] w fun e w' => ∃ v0_ : Value, e = .returned (v0_) ∧ Kd.R Kd.string 9 w' w.heap.size (fun _ => True) v0_ r ∧ Below w.heap.size w w' := by
  unfold lines_Physical.f at h
  by_cases c : a0.size ≤ 4398046511104
  · rw [if_pos c] at h
    obtain rfl := Option.some.inj h
    refine (Physical_in a0 c w).mono ?_
    rintro e w' ⟨v, r, he, hr, ho, hb⟩
    have hr2 : (phys (bs a0)).map (fun l => (⟨l.toArray⟩ : ByteArray)) = r := by
      rw [← hr, List.map_map]
      exact (List.map_congr_left (fun x _ => rfl)).trans (List.map_id r)
    rw [hr2]
    exact ⟨v, he, Kd.R_of_own ho (fun _ _ => trivial), hb⟩
  · rw [if_neg c] at h
    cases h
end Go.Proofs.YtoclolaljaiogaaDoor.PX
