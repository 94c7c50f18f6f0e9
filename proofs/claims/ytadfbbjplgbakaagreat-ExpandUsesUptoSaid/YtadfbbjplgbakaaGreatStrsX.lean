/- Rows of texts of the call's own: clone, append, a member less, sort. -/
import Derived.Test.YtadfbbjplgbakaaGreatShelf
import Derived.Test.YtadfbbjplgbakaaGreatWWords
import Derived.WalkKit
import Derived.WalkMore
import Derived.OwnWalk
import Derived.Handy
import Derived.Lib.SliceRun
import Derived.Lib.OthersKept
import Derived.Laws.AppendOwnNone
import Derived.Deep.LoopGhost
import Derived.Deep.DeepMust
import Derived.Lib.AppendZerosOnto
import Derived.Sort.OwnSorted
import Derived.Maps.AppendAt
import Derived.Test.YtadfbbjplgbakaaGreatBase
import Derived.Maps.Own
import Derived.Maps.Views
namespace Go.Proofs.YtadfbbjplgbakaaGreat.Strs
open Go Go.Sort Go.RowKit Go.Proofs Go.Proofs.YtadfbbjplgbakaaGreatW.PrintWords Go.Proofs.YtadfbbjplgbakaaGreat.Plain
set_option linter.unusedVariables false
set_option linter.unusedSimpArgs false

theorem str_at {w : World} {A : Option Addr} {l : List ByteArray} (h : Kd.string.C w A l.length l) {i : Nat} {x : ByteArray} (hx : l[i]? = some x) : ∃ ad, A = some ad ∧ w.cell? (ad.add i) = some (.string x) := by
  have hi := (List.getElem?_eq_some_iff.1 hx).1
  obtain ⟨ad, e, hc⟩ := h.2.2 (by omega)
  obtain ⟨c, hs, hr, hcell⟩ := hc i x hx
  have hr' : c = [Value.string x] := hr
  subst hr'
  have := hcell 0 _ rfl
  refine ⟨ad, e, ?_⟩
  simpa [Kd.string, Kd.scalar] using this
theorem info_str : (Tryz.prog.info? 9).map (fun i => (i.zero, i.size, i.bytes)) = some (some (.string (⟨#[]⟩ : ByteArray)), 1, 16) := by kernel_rfl
theorem info3 {e : TypeId} {z : Option Value} {s b : Nat} (h : (Tryz.prog.info? e).map (fun i => (i.zero, i.size, i.bytes)) = some (z, s, b)) : ∃ i, Tryz.prog.info? e = some i ∧ i.zero = z ∧ i.size = s ∧ i.bytes = b := by
  obtain ⟨i, hi, hz⟩ := Option.map_eq_some_iff.1 h
  simp only [Prod.mk.injEq] at hz
  exact ⟨i, hi, hz.1, hz.2.1, hz.2.2⟩
/-- The texts as cells. -/
abbrev strs (l : List ByteArray) : List Value := l.map Value.string
theorem strs_one (l : List ByteArray) : ∀ u ∈ strs l, u.oneCell' = true := by
  intro u hu
  obtain ⟨x, _, rfl⟩ := List.mem_map.1 hu
  rfl
theorem strs_cells {w : World} {ad : Addr} {l : List ByteArray} (h : Kd.string.C w (some ad) l.length l) : ∀ j u, (strs l)[j]? = some u → w.cell? (ad.add j) = some u := by
  intro j u hj
  rw [List.getElem?_map] at hj
  obtain ⟨x, hx, rfl⟩ := Option.map_eq_some_iff.1 hj
  obtain ⟨ad', e, hc⟩ := str_at h hx
  cases e
  exact hc
theorem nil_of_none {w : World} {l : List ByteArray} (h : Kd.string.C w none l.length l) : l = [] := by
  cases l with
  | nil => rfl
  | cons x l =>
    obtain ⟨ad, e, _⟩ := h.2.2 (by simp)
    cases e
theorem R_strs {w : World} {base : Nat} {v : Value} {l : List ByteArray} (h : w.ownsRow base 9 1 v l.length (strs l)) : Kd.string.R 9 w base (fun _ => True) v l := Kd.R_of_own h (fun _ _ => trivial)
set_option maxHeartbeats 2000000 in
set_option maxRecDepth 100000 in
theorem clone_str (A : Option Addr) (c : Nat) (l : List ByteArray) (w : World) (hr : Kd.string.C w A l.length l) (hl : l.length ≤ 1099511627776) :
    Calls Tryz.prog 23 #[.slice A l.length c] w fun e w' => ∃ v, e = .returned v ∧ w'.ownsRow w.heap.size 9 1 v l.length (strs l) ∧ Below w.heap.size w w' := by
  obtain ⟨i0, hi0, hz0, hz1, hz2⟩ := info3 info_str
  have hq : ∀ (w : World) (a : Option Addr) (n c n' c' : Nat), (binOp .eql 23 (.slice a n c) (.slice none n' c')).run Tryz.prog w = .ok (.bool a.isNone) w := fun w a n c n' c' => Lib.run_eql_slice_nil w _ _ a n c n' c' Tryz.underlying23
  cases A with
  | none =>
    have hx := nil_of_none hr
    subst hx
    go_enter Tryz.func23, Tryz.ntmps23
    go_wp2
    go_ret
    exact ⟨_, rfl, World.ownsRow_nil _ _ _ _, Below.refl _ w⟩
  | some ad =>
    have hown0 : (w.alloc (.cells #[] 9)).ownsRow w.heap.size 9 1 (.slice (some ⟨w.heap.size, 0, none⟩) 0 0) 0 [] := World.ownsRow_made w #[] 0 (Nat.le_refl _) (Nat.zero_le _) rfl
    have hnews : ∀ j u, (strs l)[j]? = some u → (w.alloc (.cells #[] 9)).cell? (ad.add j) = some u := fun j u hj => Lib.cell?_alloc_some _ (strs_cells hr j u hj)
    have hx1 := strs_one l
    have hxl : (strs l).length = l.length * 1 := by simp
    go_enter Tryz.func23, Tryz.ntmps23
    go_wp2_with (at_builtin; go_must (refine wpList_append_own _ rfl (.tmp 5) (.tmp 6) 23 rfl w.heap.size 9 i0 (.string (⟨#[]⟩ : ByteArray)) 1 16 Tryz.underlying23 hi0 hz0 hz1 hz2 rfl (by decide) (.slice (some ⟨w.heap.size, 0, none⟩) 0 0) _ _ rfl hown0 ad l.length c (strs l) rfl hxl hnews hx1 (by unfold maxLen; omega) (by omega) (by simp) ?_; intro v3 w3 hown3 hgrow3 hnil3))
    go_ret
    rw [Nat.zero_add, List.nil_append] at hown3
    exact ⟨v3, rfl, hown3, ((Below.refl _ w).alloc (Nat.le_refl _) _).grown hgrow3 (by simp) (fun k hk => by cases hk; exact Nat.le_refl _)⟩
/-- Appending a row of texts to one's own. -/
theorem append_strs {w : World} {ops : Array Oper} {rest : List Oper} {o : Oper} {a : Act} {Q : Exit → Act → World → Prop} (hgd : o.guard = none) (s x : Operand)
    (ho : o.op = .call { callee := .builtin .append, args := #[s, x], argTypes := #[23, 23] })
    (base : Nat) (v : Value) (n : Nat) (xs : List Value) (hs : a.eval s = v) (hown : w.ownsRow base 9 1 v n xs)
    (A : Option Addr) (c : Nat) (l : List ByteArray) (hx : a.eval x = .slice A l.length c) (hr : Kd.string.C w A l.length l) (hl : n + l.length ≤ 4398046511104) (hbase : base ≤ w.heap.size)
    (h : ∀ v' w', w'.ownsRow base 9 1 v' (n + l.length) (xs ++ strs l) → w.grownBy w' v.ownBlock → wpList Tryz.prog ops Q rest (a.put o.dst v') w') : wpList Tryz.prog ops Q (o :: rest) a w := by
  obtain ⟨i0, hi, hz0, hz1, hz2⟩ := info3 info_str
  cases A with
  | none =>
    have e := nil_of_none hr
    subst e
    refine wpList_plain hgd fun K hK => ?_
    have hrun : ∀ cc, (Builtin.append_ #[23, 23] o.type #[v, .slice none 0 cc]).run Tryz.prog w = .ok v w := fun cc => by
      rcases hown.2 with ⟨rfl, _⟩ | ⟨g, cap, cur, rfl, _, _, hle, _⟩ <;> simp [Builtin.append_, run_underlying Tryz.underlying23, sizeOf, typeInfo, hi, Builtin.lenOf, Builtin.firstCells, hz1, storeCells, *]
    unfold Oper.wp
    simp [execOp, ho, resolve, invoke, builtin, hs, hx, hrun, Result.andThen]
    exact hK _ _ (h v w (by simpa using hown) ⟨rfl, rfl, rfl, Nat.le_refl _, fun _ _ _ => rfl⟩)
  | some ad => exact wpList_append_own w hgd s x 23 ho base 9 i0 _ 1 16 Tryz.underlying23 hi hz0 hz1 hz2 rfl (by decide) v n xs hs hown ad l.length c (strs l) hx (by simp) (strs_cells hr) (strs_one l) (by unfold maxLen; omega) (by omega) hbase (fun v' w' h2 h3 _ => h v' w' h2 h3)
/-- The like, and where the new row lies. -/
theorem append_at {w : World} {ops : Array Oper} {rest : List Oper} {o : Oper} {a : Act} {Q : Exit → Act → World → Prop} (hgd : o.guard = none) (s x : Operand)
    (ho : o.op = .call { callee := .builtin .append, args := #[s, x], argTypes := #[23, 23] })
    (base : Nat) (v : Value) (n : Nat) (xs : List Value) (hs : a.eval s = v) (hown : w.ownsRow base 9 1 v n xs)
    (A : Option Addr) (c : Nat) (l : List ByteArray) (hx : a.eval x = .slice A l.length c) (hr : Kd.string.C w A l.length l) (hl : n + l.length ≤ 4398046511104) (hbase : base ≤ w.heap.size)
    (h : ∀ v' w', w'.ownsRow base 9 1 v' (n + l.length) (xs ++ strs l) → w.grownBy w' v.ownBlock → (v'.ownBlock = v.ownBlock ∨ v'.ownBlock = some w.heap.size) → wpList Tryz.prog ops Q rest (a.put o.dst v') w') : wpList Tryz.prog ops Q (o :: rest) a w := by
  obtain ⟨i0, hi, hz0, hz1, hz2⟩ := info3 info_str
  cases A with
  | none =>
    have e := nil_of_none hr
    subst e
    refine wpList_plain hgd fun K hK => ?_
    have hrun : ∀ cc, (Builtin.append_ #[23, 23] o.type #[v, .slice none 0 cc]).run Tryz.prog w = .ok v w := fun cc => by
      rcases hown.2 with ⟨rfl, _⟩ | ⟨g, cap, cur, rfl, _, _, hle, _⟩ <;> simp [Builtin.append_, run_underlying Tryz.underlying23, sizeOf, typeInfo, hi, Builtin.lenOf, Builtin.firstCells, hz1, storeCells, *]
    unfold Oper.wp
    simp [execOp, ho, resolve, invoke, builtin, hs, hx, hrun, Result.andThen]
    exact hK _ _ (h v w (by simpa using hown) ⟨rfl, rfl, rfl, Nat.le_refl _, fun _ _ _ => rfl⟩ (Or.inl rfl))
  | some ad => exact wpList_append_own_at w hgd s x 23 ho base 9 i0 _ 1 16 Tryz.underlying23 hi hz0 hz1 hz2 rfl (by decide) v n xs hs hown ad l.length c (strs l) hx (by simp) (strs_cells hr) (strs_one l) (by unfold maxLen; omega) (by omega) hbase (fun v' w' h2 h3 _ h5 => h v' w' h2 h3 h5)
/-- One text more. -/
theorem append_one {w : World} {ops : Array Oper} {rest : List Oper} {o : Oper} {a : Act} {Q : Exit → Act → World → Prop} (hgd : o.guard = none) (s x : Operand)
    (ho : o.op = .call { callee := .builtin .append, args := #[s, x], argTypes := #[23, 23] })
    (base : Nat) (v : Value) (n : Nat) (xs : List Value) (hs : a.eval s = v) (hown : w.ownsRow base 9 1 v n xs)
    (b : Nat) (y : ByteArray) (hx : a.eval x = .slice (some ⟨b, 0, none⟩) 1 1) (hr : w.heap[b]? = some (.cells #[.string y] 9 (0, 0))) (hl : n + 1 ≤ 4398046511104) (hbase : base ≤ w.heap.size)
    (h : ∀ v' w', w'.ownsRow base 9 1 v' (n + 1) (xs ++ [.string y]) → w.grownBy w' v.ownBlock → (v'.ownBlock = v.ownBlock ∨ v'.ownBlock = some w.heap.size) → wpList Tryz.prog ops Q rest (a.put o.dst v') w') : wpList Tryz.prog ops Q (o :: rest) a w := by
  obtain ⟨i0, hi, hz0, hz1, hz2⟩ := info3 info_str
  refine wpList_append_own_at w hgd s x 23 ho base 9 i0 _ 1 16 Tryz.underlying23 hi hz0 hz1 hz2 rfl (by decide) v n xs hs hown ⟨b, 0, none⟩ 1 1 [.string y] hx rfl (fun j u hj => ?_) (by simp [Value.oneCell']) (by unfold maxLen; omega) (by omega) hbase (fun v' w' h2 h3 _ h5 => h v' w' h2 h3 h5)
  match j, hj with
  | 0, hj =>
    simp at hj
    subst hj
    exact cell_of_row w b 0 _ _ _ hr
/-- The last member of one's own row of texts, and the row without it. -/
theorem own_last {w : World} {base : Nat} {v : Value} {n : Nat} {l : List ByteArray} (h : w.ownsRow base 9 1 v n (strs l)) (h0 : 0 < n) :
    ∃ g cap, v = .slice (some ⟨g, 0, none⟩) n cap ∧ n ≤ cap ∧ l.length = n ∧ (∀ x, l[n - 1]? = some x → w.cell? ⟨g, n - 1, none⟩ = some (.string x)) ∧ w.ownsRow base 9 1 (.slice (some ⟨g, 0, none⟩) (n - 1) cap) (n - 1) (strs (l.take (n - 1))) := by
  have hl : l.length = n := by have := h.1; simpa using this
  rcases h.2 with ⟨rfl, h1⟩ | ⟨g, cap, cur, rfl, hb, hg, h1, h2, h3, h4⟩
  · omega
  · refine ⟨g, cap, rfl, h1, hl, fun x hx => ?_, by simp [strs]; omega, .inr ⟨g, cap, cur, rfl, hb, hg, by omega, h2, h3, ?_⟩⟩
    · rw [h.cellAt (n - 1) (by omega), strs, List.getElem?_map, hx]; rfl
    · rw [Nat.mul_one] at h4 ⊢
      rw [strs, List.map_take]
      show _ = List.take (n - 1) (strs l)
      rw [← h4, List.take_take, Nat.min_eq_left (by omega)]
/-- Texts in the order of their bytes. -/
def sortS (l : List ByteArray) : List ByteArray := ((l.map L).mergeSort fun x y => decide (x ≤ y)).map B
theorem sortS_len (l : List ByteArray) : (sortS l).length = l.length := by unfold sortS; simp
theorem strs_enc (l : List ByteArray) : strs l = (l.map L).map encStr := by
  rw [strs, List.map_map]
  rfl
theorem sort_own {w : World} {base : Nat} {v : Value} {n : Nat} {l : List ByteArray} (h : w.ownsRow base 9 1 v n (strs l)) (hl : n ≤ 4611686018427387903) :
    Calls Tryz.prog 25 #[v] w fun e w' => e = .returned (.tuple #[]) ∧ w'.ownsRow base 9 1 v n (strs (sortS l)) ∧ w.grownBy w' v.ownBlock := by
  have hn : l.length = n := by have := h.1; simpa using this
  rcases h.2 with ⟨rfl, rfl⟩ | ⟨g, cap, cur, rfl, hb, hg, h1, h2, h3, h4⟩
  · obtain rfl : l = [] := List.eq_nil_of_length_eq_zero hn
    refine (Tryz.slices_Sort_string_none none 0 w).mono ?_
    rintro e w' ⟨rfl, rfl⟩
    have hs0 : sortS [] = [] := by simp [sortS]
    rw [hs0]
    exact ⟨rfl, World.ownsRow_nil _ _ _ _, ⟨rfl, rfl, rfl, Nat.le_refl _, fun _ _ _ => rfl⟩⟩
  · have hn' : (l.map L).length = n := by rw [List.length_map]; exact hn
    have hH : Holds encStr w g 0 (l.map L).toArray := Go.holds_of_block hg (by rw [hn', ← strs_enc]; simpa using h4)
    have hc := Tryz.slices_Sort_string g 0 cap (l.map L) w hH (Array.getElem?_eq_some_iff.1 hg).1 (by omega)
    rw [hn'] at hc
    refine hc.mono ?_
    rintro e w' ⟨rfl, nn, os, rfl⟩
    refine ⟨rfl, ?_, Go.grownBy_sorted _⟩
    have := Go.ownsRow_sorted (n := nn) (os := os) (ss := l.map L) (ts := (l.map L).mergeSort fun x y => decide (x ≤ y)) (by simp) hb hg (by omega) h2 h3
    rw [hn'] at this
    have e1 : strs (sortS l) = ((l.map L).mergeSort fun x y => decide (x ≤ y)).map encStr := by
      rw [strs_enc, sortS, map_L_B]
    rw [e1]
    exact this
end Go.Proofs.YtadfbbjplgbakaaGreat.Strs
namespace Go.Proofs.YtadfbbjplgbakaaGreat.Strs
open Go Go.RowKit Go.Proofs Go.Proofs.YtadfbbjplgbakaaGreatW.PrintWords Go.Proofs.YtadfbbjplgbakaaGreat.Plain
open Go.WideElems (Fit)
set_option linter.unusedVariables false
set_option linter.unusedSimpArgs false

/-- The map at a block, of at most n texts, tells g of each text. -/
def IntMap (w : World) (b n : Nat) (g : ByteArray → Int) : Prop :=
  ∃ D : DataW Nat, w.ownsMap Tryz.prog 9 (plainElem Tryz.prog 3) b n D ∧ ∀ s : ByteArray, D.atKey (.string s.data.toList) (.lit (.int .i64 0)) = .lit (.int .i64 (g s))
theorem IntMap.below {w w' : World} {b n : Nat} {g : ByteArray → Int} (h : IntMap w b n g) (hb : Below w.heap.size w w') : IntMap w' b n g := by
  obtain ⟨D, h1, h2⟩ := h
  exact ⟨D, h1.kept (row := none) (grown_of_below hb none) (by simp), h2⟩
theorem IntMap.lt {w : World} {b n : Nat} {g : ByteArray → Int} (h : IntMap w b n g) : b < w.heap.size := by
  obtain ⟨D, h1, h2⟩ := h
  exact h1.lt
theorem IntMap.kept {w w' : World} {b n : Nat} {g : ByteArray → Int} {row : Option Nat} (h : IntMap w b n g) (hg : w.grownBy w' row) (hne : some b ≠ row) : IntMap w' b n g := by
  obtain ⟨D, h1, h2⟩ := h
  exact ⟨D, h1.kept hg hne, h2⟩
theorem IntMap.made (w : World) : IntMap (w.alloc (.map #[] 0)) w.heap.size 0 (fun _ => 0) :=
  ⟨.map [], World.ownsMap_made w _ _ _, fun s => rfl⟩
theorem IntMap.isMap {w : World} {b n : Nat} {g : ByteArray → Int} (h : IntMap w b n g) : ∃ es clock, w.heap[b]? = some (.map es clock) := by
  obtain ⟨D, ⟨es, clock, hb, _⟩, _⟩ := h
  exact ⟨es, clock, hb⟩
/-- A row of cells is another block. -/
theorem IntMap.ne_own {w : World} {b n : Nat} {g : ByteArray → Int} (h : IntMap w b n g) {base e size m : Nat} {v : Value} {xs : List Value} (hr : w.ownsRow base e size v m xs) : some b ≠ v.ownBlock := by
  obtain ⟨es, clock, hb⟩ := h.isMap
  rcases hr.2 with ⟨rfl, _⟩ | ⟨k, cap, cur, rfl, _, hg, _⟩
  · simp [Value.ownBlock]
  · intro e1
    have : b = k := by simpa [Value.ownBlock] using e1
    subst this
    rw [hb] at hg
    cases hg
set_option maxRecDepth 100000 in
theorem zero_run (w : World) : (zeroValue 3).run Tryz.prog w = .ok (.int .i64 0) w := rfl
theorem key_of (s : ByteArray) (hs : s.size ≤ maxLen) : keyOf Tryz.prog 9 (.string s) = some (.string s.data.toList) := by
  simp [keyOf, Tryz.underlying9, mapKey, hs]
theorem IntMap.get {w : World} {b n : Nat} {g : ByteArray → Int} (h : IntMap w b n g) (s : ByteArray) (hs : s.size ≤ maxLen) :
    (Instr.lookup 49 (.map (some b)) (.string s) false).run Tryz.prog w = .ok (.int .i64 (g s)) w := by
  obtain ⟨D, h1, h2⟩ := h
  obtain ⟨c, hrun, hc, _⟩ := h1.lookup_int (Maps.string_keyed Tryz.underlying9) Tryz.underlying49 Tryz.underlying3 (zero_run w) (key_of s hs)
  have a1 := (h2 s).symm.trans hc
  simp only [DataW.lit.injEq, Lit.int.injEq, true_and] at a1
  rw [hrun, a1]
theorem IntMap.put {w : World} {b n : Nat} {g : ByteArray → Int} (h : IntMap w b n g) (s : ByteArray) (v : Int) (hs : s.size ≤ maxLen) (hn : n < 1099511627776) (hv : 0 ≤ v) (hv2 : v ≤ 9223372036854775807) :
    ∃ w', (Instr.mapUpdate 49 (.map (some b)) (.string s) (.int .i64 v)).run Tryz.prog w = .ok () w' ∧ IntMap w' b (n + 1) (fun t => if t = s then v else g t) ∧ w.grownBy w' (some b) := by
  obtain ⟨D, h1, h2⟩ := h
  have hD : Maps.IsMap D := by
    obtain ⟨es, clock, hb, F, _, rfl⟩ := h1
    exact ⟨_, rfl⟩
  have hwf : (Lit.int .i64 v).wf = true := by
    have e1 : IntKind.i64.min = -9223372036854775808 := rfl
    have e2 : IntKind.i64.max = 9223372036854775807 := rfl
    simp [Lit.wf, e1, e2]
    omega
  obtain ⟨w', hrun, hown, hg⟩ := h1.update (Maps.string_keyed Tryz.underlying9) Tryz.underlying49 (by unfold maxLen; omega) (key_of s hs) (plainElem_int Tryz.underlying3 hwf)
  refine ⟨w', hrun, ⟨_, hown, fun t => ?_⟩, hg⟩
  show _ = DataW.lit (Lit.int .i64 (if t = s then v else g t))
  by_cases ht : t = s
  · subst ht
    rw [if_pos rfl]
    exact Maps.atKey_put_same (k := .string t.data.toList) hD trivial _ _
  · rw [if_neg ht, Maps.atKey_put_other]
    · exact h2 t
    · intro e
      injection e with e
      exact ht (by cases t; cases s; simp at e; simp [e])
end Go.Proofs.YtadfbbjplgbakaaGreat.Strs
