/- Going over a table within another function, and Keys, at one pair of types. -/
import Derived.Test.YtbpaejbecgaepaaIterSI
import Derived.TacticsInMore
import Derived.LoopNIn
import Derived.LoopIn
import Derived.OwnWalkIn
namespace Go.Proofs.Ytbpaejbecgaepaa.TabSI
open Go Go.RowKit Go.Proofs Go.Shelf Go.Proofs.Ytbpaejbecgaepaa.Hand
set_option linter.unusedVariables false
set_option linter.unusedSimpArgs false
attribute [local go_sem] Oper.semAt_some

abbrev encs (x : ByteArray × Int) : Array Value := #[(Value.string x.1), (Value.int .i64 x.2)]
theorem keeps_alloc (B : Nat) (W : World) (o : Obj) : KeepsFrom B W (W.alloc o) := (KeepsOthers.alloc W o).from _
theorem take_snoc {α : Type} {xs : List α} {k : Nat} {x : α} (h : xs[k]? = some x) : xs.take (k + 1) = xs.take k ++ [x] := by rw [List.take_add_one, h]; rfl
set_option maxRecDepth 100000 in
set_option maxHeartbeats 2000000 in
/-- The iterator, within a fence: all rows, one by one. -/
theorem over_in (n l B0 B base : Nat) (v2 : Value) (xs : List (ByteArray × Int)) (I J : List (ByteArray × Int) → World → Prop) (hn : 1 ≤ n) (hl : xs.length ≤ 1099511627776)
    (hIr : ∀ s A, I s A → A.heap[B]? = some (.cells #[v2] 91 (0, 0)) ∧ Rows A base v2 xs) (hIa : ∀ s A o, I s A → I s (A.alloc o))
    (hJI : ∀ s A, J s A → I s A) (hJk : ∀ s A C, J s A → KeepsFrom B0 A C → I s C → J s C)
    (hY : ∀ pre x W1, J pre W1 → pre.length < xs.length → YieldAt Fence.wide (n - 1) Try.prog l (encs x) W1 fun e W' => e = .returned (.bool true) ∧ J (pre ++ [x]) W')
    (W : World) (h0 : J [] W) :
    CallsIn Fence.wide n Try.prog 81 #[.func (.yield l) #[] #[], .pointer (some ⟨B, 0, none⟩)] W fun e W' => (∃ v, e = .returned v) ∧ ∃ ys, ys = xs ∧ J ys W' := by
  obtain ⟨hB, hR⟩ := hIr _ _ (hJI _ _ h0)
  obtain ⟨A, c, rfl⟩ := own_slice hR
  have hcB := cell_of_row W B 0 _ _ _ hB
  refine callsIn_of_wp Try.func81 rfl trivial ?_ rfl
  simp only [Try.ntmps81, List.size_toArray, List.length_cons, List.length_nil, Nat.reduceAdd, Nat.reduceSub, Array.replicate_succ, Array.replicate_zero, List.push_toArray, List.append_toArray, List.nil_append, List.cons_append]
  gi_wp2
  gi_loopw [7] (fun i wr => ∃ k : Nat, i = .int .i64 (k : Int) ∧ k ≤ xs.length ∧ J (xs.take k) wr) (fun i wr => xs.length - (intOf i).toNat)
  case atStart => exact ⟨0, rfl, Nat.zero_le _, h0⟩
  case round =>
    obtain ⟨k, rfl, hk, hJ⟩ := hrel
    by_cases hlt : k < xs.length
    · have d1 : (k : Int) < (xs.length : Int) := by omega
      have d2 : (0 : Int) ≤ (k : Int) := by omega
      obtain ⟨x, hx⟩ : ∃ x, xs[k]? = some x := ⟨_, List.getElem?_eq_getElem hlt⟩
      obtain ⟨_, hR2⟩ := hIr _ _ (hJI _ _ hJ)
      obtain ⟨g, cap, hv, hg, hcap⟩ := own_form hR2 (by omega)
      cases hv
      obtain ⟨hc0, hc1⟩ := rows_cell hR2 hx
      have hJ2 : J (xs.take k) (wr.alloc (.cells #[(Value.string x.1), (Value.int .i64 x.2)] 95)) := hJk _ _ _ hJ (keeps_alloc _ _ _) (hIa _ _ _ (hJI _ _ hJ))
      obtain ⟨fn, tmps, assign, body, hy, hYR⟩ := hY (xs.take k) x _ hJ2 (by rw [List.length_take]; omega)
      rw [← take_snoc hx] at hYR
      gi_wp2
      refine hYR.mono ?_
      rintro e W3 ⟨rfl, hJ3⟩
      gi_wp2
      go_roundw
      case rel => exact ⟨k + 1, by go_num, by omega, hJ3⟩
      case measure => simp [intOf]; omega
    · obtain rfl : k = xs.length := by omega
      have d1 : ¬ ((xs.length : Int) < (xs.length : Int)) := by omega
      rw [List.take_length] at hJ
      gi_wp2
      go_end0
      exact ⟨⟨_, rfl⟩, hJ⟩

/-! ### Keys -/
/-- What holds while Keys goes over: the keys so far lie in the box; the rows lie where they lay. -/
def KInv (w : World) (n Bo B base : Nat) (v2 : Value) (xs : List (ByteArray × Int)) (pre : List (ByteArray × Int)) (W : World) : Prop :=
  ((∃ v, Boxed W Bo 67 v ∧ W.ownsRow n 9 1 v pre.length (pre.map fun x => (Value.string x.1))) ∧ (W.heap[B]? = some (.cells #[v2] 91 (0, 0)) ∧ Rows W base v2 xs ∧ n ≤ W.heap.size)) ∧ Below w.heap.size w W
theorem rows_alloc {w : World} {base : Nat} {v : Value} {xs : List (ByteArray × Int)} (h : Rows w base v xs) (o : Obj) : Rows (w.alloc o) base v xs := h.alloc o
theorem KInv.alloc {w : World} {n Bo B base : Nat} {v2 : Value} {xs pre : List (ByteArray × Int)} {W : World} (h : KInv w n Bo B base v2 xs pre W) (o : Obj) : KInv w n Bo B base v2 xs pre (W.alloc o) := by
  obtain ⟨⟨⟨v, h1, h2⟩, h3, h4, h6⟩, h5⟩ := h
  exact ⟨⟨⟨v, h1.alloc o, h2.alloc o⟩, (Below.heap_alloc W o B (Array.getElem?_eq_some_iff.1 h3).1).trans h3, h4.alloc o, Nat.le_trans h6 (by simp)⟩, h5.alloc h5.size o⟩
theorem own_ne {W : World} {base size n : Nat} {e : TypeId} {v : Value} {cs : List Value} (h : W.ownsRow base e size v n cs) {r : Nat} {o : Obj} (ho : W.heap[r]? = some o) (hc : o.isCells = false) : v.ownBlock ≠ some r := by
  rcases h.2 with ⟨rfl, _⟩ | ⟨g, cap, cur, rfl, hg, hb, _⟩
  · simp [Value.ownBlock]
  · intro e'
    have : g = r := by simpa [Value.ownBlock] using e'
    subst this
    rw [hb] at ho; cases ho; cases hc
theorem KInv.own (w : World) (n Bo B base : Nat) (v2 : Value) (xs : List (ByteArray × Int)) (B0 : Nat) (hB : w.heap.size ≤ B0) : OwnFrom B0 (KInv w n Bo B base v2 xs) := by
  refine OwnFrom.and (OwnFrom.and ?_ ?_) (ownFrom_below (Nat.le_refl _) hB)
  · have := holdsRow_own (β := List (ByteArray × Int)) n Bo 67 9 1 (fun pre => pre.length) (fun pre => pre.map fun x => (Value.string x.1)) (fun _ _ => True)
    intro s A C row hs hg hr
    obtain ⟨v, h1, h2⟩ := hs
    obtain ⟨v', h1', h2', _⟩ := this s A C row ⟨v, h1, h2, trivial⟩ hg (fun r e => (hr r e).2)
    exact ⟨v', h1', h2'⟩
  · rintro s A C row ⟨h3, h4, h6⟩ hg hr
    refine ⟨(hg.block B (Array.getElem?_eq_some_iff.1 h3).1 (fun e => ?_)).trans h3, h4.kept hg ?_, Nat.le_trans h6 hg.size⟩
    · obtain ⟨_, o, ho, hc⟩ := hr B e.symm
      rw [h3] at ho; cases ho; cases hc
    · cases hrow : row with
      | none =>
        rcases Option.eq_none_or_eq_some v2.ownBlock with h | ⟨q, h⟩
        · exact .inl h
        · exact .inr (by rw [h]; simp)
      | some r =>
        obtain ⟨_, o, ho, hc⟩ := hr r hrow
        exact .inr (own_ne h4 ho hc)
/-- What one more key leaves. -/
theorem KInv.more {w W w1 : World} {n Bo B base : Nat} {v2 : Value} {xs pre : List (ByteArray × Int)} {x : ByteArray × Int} {v v' : Value} {tmp : Obj} (hBo : w.heap.size ≤ Bo) (hn : w.heap.size ≤ n) (hne : B ≠ Bo) (hBn : B < n) (hvn : ∀ j, v2.ownBlock = some j → j < n ∧ j ≠ Bo) (hW : n ≤ W.heap.size)
    (hv : Boxed W Bo 67 v) (hrow : W.ownsRow n 9 1 v pre.length (pre.map fun x => (Value.string x.1))) (h3 : W.heap[B]? = some (.cells #[v2] 91 (0, 0))) (h4 : Rows W base v2 xs) (hb : Below w.heap.size w W)
    (hown' : w1.ownsRow n 9 1 v' (pre.length + 1) ((pre.map fun x => (Value.string x.1)) ++ [(Value.string x.1)])) (hgrow : (W.alloc tmp).grownBy w1 v.ownBlock) :
    Boxed w1 Bo 67 v ∧ KeepsOthers W (w1.setCell ⟨Bo, 0, none⟩ v') ∧ KInv w n Bo B base v2 xs (pre ++ [x]) (w1.setCell ⟨Bo, 0, none⟩ v') := by
  have hfar : ∀ q, q < n → some q ≠ v.ownBlock := fun q hq e => by
    have := (hrow.lt q e.symm).1
    omega
  have hv1 : Boxed w1 Bo 67 v := (hv.alloc tmp).kept hgrow (hv.not_row (by decide) hrow)
  have h31 : w1.heap[B]? = some (.cells #[v2] 91 (0, 0)) := (hgrow.block B (by have := (Array.getElem?_eq_some_iff.1 h3).1; simp; omega) (hfar B hBn)).trans ((Below.heap_alloc W tmp B (Array.getElem?_eq_some_iff.1 h3).1).trans h3)
  have h41 : Rows w1 base v2 xs := (h4.alloc tmp).kept hgrow (by
    cases hq : v2.ownBlock with
    | none => exact .inl rfl
    | some q => exact .inr (hfar q (hvn q hq).1))
  have hz := hb.size
  refine ⟨hv1, ?_, ⟨⟨⟨v', hv1.set v', ?_⟩, ?_, ?_, ?_⟩, ?_⟩⟩
  · refine ((KeepsOthers.alloc W tmp).trans (KeepsOthers.of_grownBy hgrow fun j o ej hj => ?_)).trans (KeepsOthers.setCell _ _ _)
    rcases (hrow.alloc tmp).2 with ⟨rfl, _⟩ | ⟨g, cap, cur, rfl, _, hgb, _⟩
    · simp [Value.ownBlock] at ej
    · obtain rfl : g = j := by simpa [Value.ownBlock] using ej
      rw [hgb] at hj; cases hj; rfl
  · rw [List.length_append, List.length_singleton, List.map_append, List.map_singleton]
    exact hown'.kept (grownBy_setCell' w1 Bo v') (.inr (hv1.not_row (by decide) hown').symm)
  · exact (Below.heap_setCell w1 ⟨Bo, 0, none⟩ v' B hne).trans h31
  · refine h41.kept (grownBy_setCell' w1 Bo v') ?_
    cases hq : v2.ownBlock with
    | none => exact .inl rfl
    | some q => exact .inr (fun e => (hvn q hq).2 (Option.some.inj e))
  · have := hgrow.size
    simp [World.setCell] at this ⊢
    omega
  · refine ((hb.alloc hz tmp).grown hgrow (by simp; omega) fun j ej => ?_).setCell (p := ⟨Bo, 0, none⟩) hBo v'
    have := (hrow.lt j ej).1
    omega
theorem info_key : (Try.prog.info? 9).map (fun i => (i.zero, i.size, i.bytes)) = some (some (Value.string (⟨#[]⟩ : ByteArray)), 1, 16) := by kernel_rfl
set_option maxRecDepth 100000 in
set_option maxHeartbeats 2000000 in
theorem keys_of (p : Option Addr) (xs : List (ByteArray × Int)) (w : World) (hAll : ∀ W, Below w.heap.size w W → Calls Try.prog 55 #[.pointer p] W fun e w' => ∃ B v2, e = .returned (.func (.func 81) #[] #[.pointer (some ⟨B, 0, none⟩)]) ∧ Over W v2 xs B w') (hl : xs.length ≤ 1099511627776) :
    Calls Try.prog 40 #[.pointer p] w fun e w' => ∃ v', e = .returned v' ∧ w'.ownsRow w.heap.size 9 1 v' xs.length (xs.map fun x => (Value.string x.1)) ∧ Below w.heap.size w w' := by
  obtain ⟨i0, hi, hz0, hz1, hz2⟩ := info_parts info_key
  refine (callsIn_wide (n := 9)).1 ?_
  refine callsIn_of_wp_marks Try.func40 rfl trivial ?_ rfl
  simp only [Try.ntmps40, List.size_toArray, List.length_cons, List.length_nil, Nat.reduceAdd, Nat.reduceSub, Array.replicate_succ, Array.replicate_zero, List.push_toArray, List.append_toArray, List.nil_append, List.cons_append]
  have hf1 : Fence.wide.fn 55 := trivial
  have bO := Boxed.new w 67 (.slice none 0 0)
  have hW0 : Below w.heap.size w (w.alloc (.cells #[.slice none 0 0] 67)) := (Below.refl _ w).alloc (Nat.le_refl _) _
  have hall := hAll _ hW0
  gi_wp2_with fail
  refine CallsIn.mono (callsIn_wide.2 hall) ?_
  rintro e w' ⟨B, v2, rfl, hBge, hB, hR2, hb2⟩
  rw [World.size_alloc] at hBge hR2 hb2
  have hbw : Below w.heap.size w w' := hW0.trans ⟨hb2.os, hb2.tape, hb2.output, by have := hb2.size; simp at this ⊢; omega, fun q hq => hb2.block q (by omega)⟩
  have bO' : Boxed w' w.heap.size 67 (.slice none 0 0) := (hb2.block _ (by omega)).trans bO
  have hBlt : B < w'.heap.size := (Array.getElem?_eq_some_iff.1 hB).1
  have hsz := hbw.size
  have hvn : ∀ j, v2.ownBlock = some j → j < w'.heap.size ∧ j ≠ w.heap.size := fun j hj => ⟨(hR2.lt j hj).2, by have := (hR2.lt j hj).1; omega⟩
  gi_wp2_with fail
  refine rangeC (n := 9) (F := Fence.wide) rfl (by decide) (gf := 81) (lb := #[.pointer (some ⟨B, 0, none⟩)]) rfl trivial (enters_of Try.func81 (by kernel_rfl) rfl)
    (encs := encs) (S := fun ys => ys = xs) (N := xs.length) (fun _ => rfl)
    (KInv w w'.heap.size w.heap.size B (w.heap.size + 1) v2 xs) (KInv.own w _ _ _ _ _ _ _ hsz) ⟨⟨⟨_, bO', World.ownsRow_nil _ _ _ _⟩, hB, hR2, Nat.le_refl _⟩, hbw⟩
    (fun x => { tmps := #[.pointer p, undef, .slice none 0 0, .pointer (some ⟨w.heap.size, 0, none⟩), (Value.string x.1), .pointer p, .func (.func 81) #[] #[.pointer (some ⟨B, 0, none⟩)], (Value.string x.1), (Value.int .i64 x.2), undef, undef, undef, undef, undef], defers := [] }) ?iter ?assign ?body ?done
  case iter =>
    intro l J W hJI hJk hY h0 hW hbW
    exact over_in 8 l _ B _ v2 xs _ J (by decide) hl (fun s A h => ⟨h.1.2.1, h.1.2.2.1⟩) (fun s A o h => h.alloc o) hJI hJk hY W h0
  case assign =>
    intro l x W K hK
    gi_wp2
    exact hK
  case body =>
    rintro l pre x W ⟨⟨⟨v3, hv, hrow⟩, hB3, hR3, hsz2⟩, hBw⟩ hlt
    have hc := hv.cell
    gi_wp2_with (gi_at_builtin; go_loud (refine wpListIn_append_own _ rfl _ _ 67 rfl w'.heap.size 9 i0 (Value.string (⟨#[]⟩ : ByteArray)) 1 16 Try.underlying67 hi hz0 hz1 hz2 rfl (by decide) _ _ _ rfl (hrow.alloc _) ⟨W.heap.size, 0, none⟩ 1 1 [(Value.string x.1)] rfl rfl (cell_one_new _ _ _) (by simp [Value.oneCell']) (by unfold maxLen; omega) (by omega) (by simp; omega) ?_; intro v' w1 hown' hgrow _; obtain ⟨g', cap', rfl⟩ := ownsRow_succ hown'; obtain ⟨hv1, hk1, hI1⟩ := KInv.more (x := x) (Nat.le_refl _) hsz (by omega) hBlt hvn hsz2 hv hrow hB3 hR3 hBw hown' hgrow; have hc1 := hv1.cell; have hf1 := hv1.frozen))
    exact ⟨hk1.from _, hI1⟩
  case done =>
    rintro D ys W hD hS ⟨⟨⟨v3, hv, hrow⟩, hB3, hR3, hsz2⟩, hBw⟩ hK
    subst hS
    have hc := hv.cell
    gi_wp2
    refine ⟨by simp, .inl ⟨_, _, rfl, run_takeDeferred hK, ?_⟩⟩
    refine ⟨_, results_tmp rfl _ _ _, v3, rfl, ?_, hBw.trans (belowK_b (w := w) (Nat.le_refl _) W D _ _ (by omega) hK rfl rfl)⟩
    exact Go.Joins.ownsRow_le (ownsRow_putObj hrow (.deferred none) hK rfl) hsz
theorem keys_calls (base b : Nat) (v : Value) (xs : List (ByteArray × Int)) (w : World) (hT : IsTab w base b v xs) (hl : xs.length ≤ 1099511627776) :
    Calls Try.prog 40 #[.pointer (some ⟨b, 0, none⟩)] w fun e w' => ∃ v', e = .returned v' ∧ w'.ownsRow w.heap.size 9 1 v' xs.length (xs.map fun x => (Value.string x.1)) ∧ Below w.heap.size w w' :=
  keys_of _ xs w (fun W hW => all_calls base b v xs W (hT.below hW) hl) hl
end Go.Proofs.Ytbpaejbecgaepaa.TabSI
