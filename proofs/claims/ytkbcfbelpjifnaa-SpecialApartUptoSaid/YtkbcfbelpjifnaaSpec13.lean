/- The special targets' state: api.Special in a block of one's own. -/
import Derived.Test.YtkbcfbelpjifnaaSpec12
namespace Go.Proofs.Ytkbcfbelpjifnaa.Spec
open Go Go.RowKit Go.Proofs Go.Proofs.YtkbcfbelpjifnaaW.PrintWords Go.Proofs.Ytkbcfbelpjifnaa.PX Go.Proofs.Ytkbcfbelpjifnaa.Plain
set_option linter.unusedVariables false
set_option linter.unusedSimpArgs false

/-- What the special targets say: the rows by the fields' places, the marks by theirs. -/
structure Sp where
  r : Nat → List ByteArray
  f : Nat → Bool
def up {α : Type} (g : Nat → α) (i : Nat) (x : α) : Nat → α := fun j => if j = i then x else g j
theorem up_at {α : Type} (g : Nat → α) (i : Nat) (x : α) : up g i x i = x := if_pos rfl
theorem up_ne {α : Type} (g : Nat → α) {i j : Nat} (x : α) (h : j ≠ i) : up g i x j = g j := if_neg h
theorem up_up {α : Type} (g : Nat → α) (i : Nat) (x y : α) : up (up g i x) i y = up g i y := funext fun j => by unfold up; split <;> rfl
abbrev spO (f : Nat → Bool) (V : Nat → Value) : Array Value := #[V 0, V 1, V 2, V 3, V 4, .bool (f 5), .bool (f 6), .bool (f 7), V 8, .bool (f 9)]
structure SpAt (w : World) (b : Nat) (s : Sp) (V : Nat → Value) : Prop where
  cells : w.heap[b]? = some (.cells (spO s.f V) 38 (0, 0))
  rows : ∀ i, Kd.string.R 9 w b (fun k => k ≠ b) (V i) (s.r i)
  ne : ∀ i j k, i ≠ j → (V i).ownBlock = some k → (V j).ownBlock = some k → False
theorem SpAt.below {w w' : World} {b : Nat} {s : Sp} {V : Nat → Value} (h : SpAt w b s V) (hb : Below w.heap.size w w') : SpAt w' b s V :=
  ⟨(hb.block b (blk_lt h.cells)).trans h.cells, fun i => Kd.R_below (h.rows i) hb, h.ne⟩
/-- One row's block grows, the others stay. -/
theorem SpAt.lt {w : World} {b : Nat} {s : Sp} {V : Nat → Value} (h : SpAt w b s V) : b < w.heap.size := blk_lt h.cells
theorem spO_up (f : Nat → Bool) (V : Nat → Value) (v : Value) {i : Nat} (hi : i = 0 ∨ i = 1 ∨ i = 2 ∨ i = 3 ∨ i = 4 ∨ i = 8) : (spO f V).setIfInBounds i v = spO f (up V i v) := by
  rcases hi with rfl | rfl | rfl | rfl | rfl | rfl <;> rfl
theorem spO_flag (f : Nat → Bool) (V : Nat → Value) (q : Bool) {i : Nat} (hi : i = 5 ∨ i = 6 ∨ i = 7 ∨ i = 9) : (spO f V).setIfInBounds i (.bool q) = spO (up f i q) V := by
  rcases hi with rfl | rfl | rfl | rfl <;> rfl
/-- A row's cell is written. -/
theorem SpAt.put {w : World} {b : Nat} {s : Sp} {V : Nat → Value} (h : SpAt w b s V) {i : Nat} (hi : i = 0 ∨ i = 1 ∨ i = 2 ∨ i = 3 ∨ i = 4 ∨ i = 8) {v : Value} {l : List ByteArray}
    (hv : Kd.string.R 9 w b (fun k => k ≠ b) v l) (hne : ∀ j k, j ≠ i → v.ownBlock = some k → (V j).ownBlock = some k → False) : SpAt (w.setCell ⟨b, i, none⟩ v) b ⟨up s.r i l, s.f⟩ (up V i v) := by
  refine ⟨?_, fun j => ?_, fun j j' k hj h1 h2 => ?_⟩
  · rw [heap_setCell_same w b i _ _ v h.cells, ← spO_up s.f V v hi]
  · by_cases e : j = i
    · subst e; rw [up_at]; simp only [up_at]; exact Kd.R_far hv (fun k hk => hk) v
    · simp only [up_ne _ _ e]; exact Kd.R_far (h.rows j) (fun k hk => hk) v
  · by_cases e : j = i
    · subst e
      rw [up_at] at h1
      rw [up_ne _ _ (Ne.symm hj)] at h2
      exact hne j' k (Ne.symm hj) h1 h2
    · rw [up_ne _ _ e] at h1
      by_cases e' : j' = i
      · subst e'
        rw [up_at] at h2
        exact hne j k e h2 h1
      · rw [up_ne _ _ e'] at h2
        exact h.ne j j' k hj h1 h2
/-- A mark is set. -/
theorem SpAt.flag {w : World} {b : Nat} {s : Sp} {V : Nat → Value} (h : SpAt w b s V) {i : Nat} (hi : i = 5 ∨ i = 6 ∨ i = 7 ∨ i = 9) (q : Bool) : SpAt (w.setCell ⟨b, i, none⟩ (.bool q)) b ⟨s.r, up s.f i q⟩ V := by
  refine ⟨?_, fun j => Kd.R_far (h.rows j) (fun k hk => hk) _, h.ne⟩
  rw [heap_setCell_same w b i _ _ _ h.cells, ← spO_flag s.f V q hi]
theorem SpAt.cell {w : World} {b : Nat} {s : Sp} {V : Nat → Value} (h : SpAt w b s V) {i : Nat} (hi : i = 0 ∨ i = 1 ∨ i = 2 ∨ i = 3 ∨ i = 4 ∨ i = 8) : w.cell? ⟨b, i, none⟩ = some (V i) ∧ w.frozen? ⟨b, i, none⟩ = false := by
  refine ⟨?_, frozen_of_row w b i _ _ h.cells⟩
  rw [cell_of_row w b i _ _ _ h.cells]
  rcases hi with rfl | rfl | rfl | rfl | rfl | rfl <;> rfl
theorem SpAt.mark {w : World} {b : Nat} {s : Sp} {V : Nat → Value} (h : SpAt w b s V) {i : Nat} (hi : i = 5 ∨ i = 6 ∨ i = 7 ∨ i = 9) : w.cell? ⟨b, i, none⟩ = some (.bool (s.f i)) ∧ w.frozen? ⟨b, i, none⟩ = false := by
  refine ⟨?_, frozen_of_row w b i _ _ h.cells⟩
  rw [cell_of_row w b i _ _ _ h.cells]
  rcases hi with rfl | rfl | rfl | rfl <;> rfl
/-- A new row is apart from all that stand. -/
theorem SpAt.apart {w w' : World} {b N : Nat} {s : Sp} {V : Nat → Value} (h : SpAt w b s V) {v : Value} {l : List ByteArray} {ok : Nat → Prop} (hv : Kd.string.R 9 w' N ok v l) (hN : w.heap.size ≤ N) :
    (Kd.string.R 9 w' b (fun k => k ≠ b) v l) ∧ ∀ j k, v.ownBlock = some k → (V j).ownBlock = some k → False := by
  have hlt := h.lt
  refine ⟨Kd.R_reok rfl (Kd.R_lower hv (by omega)) (fun k hk => ?_), fun j k h1 h2 => ?_⟩
  · have := Kd.R_base hv k hk
    omega
  · have := Kd.R_base hv k h1
    have := Kd.R_lt (h.rows j) k h2
    omega
theorem SpAt.nil {w : World} {b : Nat} {s : Sp} {V : Nat → Value} (h : SpAt w b s V) {i : Nat} (hi : i = 0 ∨ i = 1 ∨ i = 2 ∨ i = 3 ∨ i = 4 ∨ i = 8) : SpAt (w.setCell ⟨b, i, none⟩ (.slice none 0 0)) b ⟨up s.r i [], s.f⟩ (up V i (.slice none 0 0)) :=
  h.put hi (Kd.R_nil _ _ _ _ _) (fun j k _ hk _ => by simp [Value.ownBlock] at hk)
/-- What a line of .SUFFIXES does. -/
def sufS (x : Rl) (s : Sp) : Int × Sp :=
  if (x.f3 || x.f1.any fun n => !isSuf n) = true then (80, s)
  else (if 32 < (uniq [] ((if x.f1.length = 0 then [] else s.r 0) ++ x.f1)).length then 2 else 0, ⟨up s.r 0 (uniq [] ((if x.f1.length = 0 then [] else s.r 0) ++ x.f1)), s.f⟩)
end Go.Proofs.Ytkbcfbelpjifnaa.Spec
