/- slices.Concat of rows of texts. -/
import Derived.Test.YtkbcfbelpjifnaaSpec2
namespace Go.Proofs.Ytkbcfbelpjifnaa.Spec
open Go Go.RowKit Go.Proofs Go.Proofs.YtkbcfbelpjifnaaW.PrintWords Go.Proofs.Ytkbcfbelpjifnaa.PX Go.Proofs.Ytkbcfbelpjifnaa.Plain
set_option linter.unusedVariables false
set_option linter.unusedSimpArgs false

/-- A row of texts that lies somewhere: its address, its room, its texts. -/
structure Lies where
  A : Option Addr
  c : Nat
  l : List ByteArray
abbrev Lies.v (x : Lies) : Value := .slice x.A x.l.length x.c
/-- Rows of texts, one behind the other, at an address. -/
def RowsAt (w : World) (ad : Addr) (ll : List Lies) : Prop := ∀ j x, ll[j]? = some x → w.cell? (ad.add j) = some x.v ∧ Kd.string.C w x.A x.l.length x.l
theorem RowsAt.below {w w' : World} {ad : Addr} {ll : List Lies} (h : RowsAt w ad ll) (hb : Below w.heap.size w w') : RowsAt w' ad ll := fun j x hj =>
  ⟨(hb.cell (World.block_lt_of_cell? w _ (h j x hj).1)).trans (h j x hj).1, Kd.C_below (h j x hj).2 hb⟩
abbrev flat (ll : List Lies) : List ByteArray := (ll.map Lies.l).flatten
theorem flat_step {ll : List Lies} {k : Nat} {x : Lies} (h : ll[k]? = some x) : flat (ll.take (k + 1)) = flat (ll.take k) ++ x.l := by
  unfold flat
  rw [List.take_add_one, h]
  simp
theorem flat_le (ll : List Lies) (k : Nat) : (flat (ll.take k)).length ≤ (flat ll).length := by
  have h : flat ll = flat (ll.take k) ++ flat (ll.drop k) := by
    unfold flat
    rw [← List.flatten_append, ← List.map_append, List.take_append_drop]
  rw [h, List.length_append]
  omega
theorem below_len {w w' : World} {b : Nat} (h : Below b w w') : w.heap.size ≤ w'.heap.size := h.size
set_option maxHeartbeats 4000000 in
set_option maxRecDepth 100000 in
theorem concat_calls (ad : Addr) (ll : List Lies) (w : World) (hr : RowsAt w ad ll) (hn : ll.length ≤ 1099511627776) (hl : (flat ll).length ≤ 1099511627776) :
    Calls Try.prog 18 #[.slice (some ad) ll.length ll.length] w fun e w' => ∃ v, e = .returned v ∧ Kd.string.R 9 w' w.heap.size (fun _ => True) v (flat ll) ∧ Below w.heap.size w w' := by
  obtain ⟨F, hF⟩ : ∃ F : Nat → List ByteArray, F = fun k => flat (ll.take k) := ⟨_, rfl⟩
  have hF0 : F 0 = [] := by rw [hF]; simp [flat]
  have hFn : F ll.length = flat ll := by rw [hF]; simp
  have hFs : ∀ {k x}, ll[k]? = some x → F (k + 1) = F k ++ x.l := fun h => by rw [hF]; exact flat_step h
  have hFl : ∀ k, (F k).length ≤ 1099511627776 := fun k => by rw [hF]; exact Nat.le_trans (flat_le ll k) hl
  clear hF
  rw [← hFn]
  clear hFn hl
  go_enter Try.func18, Try.ntmps18
  go_wp2_with fail
  go_loopw [3, 11] (fun s i wr => ∃ k : Nat, i = .int .i64 (k : Int) ∧ k ≤ ll.length ∧ s = .int .i64 ((F k).length : Int) ∧ wr = w) (fun _ i _ => ll.length - (intOf i).toNat)
  case atStart => exact ⟨0, by simp [hF0]⟩
  case round =>
    obtain ⟨k, rfl, hk, rfl, hwr⟩ := hrel
    obtain rfl : w = wr := hwr.symm
    have hk1 := hFl k
    by_cases hlt : k < ll.length
    · have d1 : (k : Int) < (ll.length : Int) := by omega
      have d2 : (0 : Int) ≤ (k : Int) := by omega
      obtain ⟨x, hx⟩ : ∃ x, ll[k]? = some x := ⟨_, List.getElem?_eq_getElem hlt⟩
      have hc := (hr k x hx).1
      have hk2 := hFl (k + 1)
      rw [hFs hx, List.length_append] at hk2
      have hw : IntKind.i64.wrap (((F k).length : Int) + (x.l.length : Int)) = ((F k).length : Int) + (x.l.length : Int) := by rw [IntKind.wrap_i64]; omega
      have d3 : ¬ (((F k).length : Int) + (x.l.length : Int) < 0) := by omega
      go_wp2
      go_roundw
      case rel =>
        refine ⟨k + 1, by go_num, by omega, ?_, trivial⟩
        rw [hFs hx, List.length_append]
        simp [hw]
      case measure => simp [intOf]; omega
    · obtain rfl : k = ll.length := by omega
      have d1 : ¬ ((ll.length : Int) < (ll.length : Int)) := by omega
      have hg := grow_calls (F ll.length).length w (by omega)
      go_wp2_with fail
      refine hg.mono ?_
      rintro e w2 ⟨v2, rfl, hown2, hb2⟩
      go_wp2_with fail
      go_loopw [6, 27] (fun v i wx => ∃ k : Nat, i = .int .i64 (k : Int) ∧ k ≤ ll.length ∧ wx.ownsRow w.heap.size 9 1 v (F k).length (strs (F k)) ∧ Below w.heap.size w wx) (fun _ i _ => ll.length - (intOf i).toNat)
      case atStart => exact ⟨0, rfl, Nat.zero_le _, by rw [hF0]; exact hown2, hb2⟩
      case round =>
        obtain ⟨j, rfl, hj, hown, hB⟩ := hrel
        by_cases hlt : j < ll.length
        · have d1 : (j : Int) < (ll.length : Int) := by omega
          have d2 : (0 : Int) ≤ (j : Int) := by omega
          obtain ⟨x, hx⟩ : ∃ x, ll[j]? = some x := ⟨_, List.getElem?_eq_getElem hlt⟩
          have hRx := (hr.below hB) j x hx
          have hc := hRx.1
          have hk1 := hFl j
          have hk2 := hFl (j + 1)
          rw [hFs hx, List.length_append] at hk2
          go_wp2_with (at_builtin; go_must (refine append_strs rfl (.tmp 31) (.tmp 32) rfl w.heap.size _ _ _ rfl hown x.A x.c x.l rfl hRx.2 (by omega) hB.size ?_; intro v3 w3 hown3 hgrow3))
          go_roundw
          case rel =>
            refine ⟨j + 1, by go_num, by omega, ?_, hB.grown hgrow3 (by simpa using hB.size) ?_⟩
            · rw [hFs hx, List.length_append, strs, List.map_append]
              exact hown3
            · exact fun k hk => (World.ownsRow.lt hown k hk).1
          case measure => simp [intOf]; omega
        · obtain rfl : j = ll.length := by omega
          have d1 : ¬ ((ll.length : Int) < (ll.length : Int)) := by omega
          go_wp2
          go_ret
          exact ⟨_, rfl, R_strs hown, hB⟩
end Go.Proofs.Ytkbcfbelpjifnaa.Spec
