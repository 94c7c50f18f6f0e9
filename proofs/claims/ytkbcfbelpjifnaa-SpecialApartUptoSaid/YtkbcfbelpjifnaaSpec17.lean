/- special.rows: the walk. -/
import Derived.Test.YtkbcfbelpjifnaaSpec16
namespace Go.Proofs.Ytkbcfbelpjifnaa.Spec
open Go Go.RowKit Go.Proofs Go.Proofs.YtkbcfbelpjifnaaW.PrintWords Go.Proofs.Ytkbcfbelpjifnaa.PX Go.Proofs.Ytkbcfbelpjifnaa.Plain
set_option linter.unusedVariables false
set_option linter.unusedSimpArgs false

abbrev sSuf : ByteArray := ⟨#[46, 83, 85, 70, 70, 73, 88, 69, 83]⟩
abbrev sDef : ByteArray := ⟨#[46, 68, 69, 70, 65, 85, 76, 84]⟩
abbrev sPho : ByteArray := ⟨#[46, 80, 72, 79, 78, 89]⟩
abbrev sPre : ByteArray := ⟨#[46, 80, 82, 69, 67, 73, 79, 85, 83]⟩
abbrev sIgn : ByteArray := ⟨#[46, 73, 71, 78, 79, 82, 69]⟩
abbrev sSil : ByteArray := ⟨#[46, 83, 73, 76, 69, 78, 84]⟩
theorem nin {k : ByteArray} {l : List ByteArray} (h : (l.all fun t => !decide (t = k)) = true) : k ∉ l := by
  intro hk
  have := List.all_eq_true.1 h k hk
  simp at this
/-- A list's row: a closure over two boxes. -/
abbrev lrow (g : Nat) : Value := .agg #[.func (.func 52) #[] #[.pointer (some ⟨g + 1, 0, none⟩), .pointer (some ⟨g, 0, none⟩)]]
abbrev frow (f : Nat) : Value := .agg #[.func (.func f) #[] #[]]
/-- The table. -/
abbrev tbl (g1 g2 g3 g4 : Nat) : List (ByteArray × Value) := [(sSuf, frow 34), (sDef, frow 35), (sPho, lrow g1), (sPre, lrow g2), (sIgn, lrow g3), (sSil, lrow g4)]
/-- The two boxes of a list's row. -/
def Two (w : World) (g f f' : Nat) : Prop := w.cell? ⟨g, 0, none⟩ = some (.func (.func f) #[] #[]) ∧ w.cell? ⟨g + 1, 0, none⟩ = some (.func (.func f') #[] #[])
theorem Two.below {w w' : World} {g f f' : Nat} (h : Two w g f f') {B : Nat} (hb : Below B w w') (hB : g + 1 < B) : Two w' g f f' :=
  ⟨(hb.cell (p := ⟨g, 0, none⟩) (Nat.lt_of_succ_lt hB)).trans h.1, (hb.cell (p := ⟨g + 1, 0, none⟩) hB).trans h.2⟩
theorem Two.lt {w : World} {g f f' : Nat} (h : Two w g f f') : g + 1 < w.heap.size := World.block_lt_of_cell? w _ h.2
/-- The table in the memory. -/
structure Rows (w : World) (B b g1 g2 g3 g4 : Nat) : Prop where
  map : RowMap w b (tbl g1 g2 g3 g4)
  t1 : Two w g1 37 38
  t2 : Two w g2 39 40
  t3 : Two w g3 41 42
  t4 : Two w g4 43 44
  lt : b < B ∧ g1 + 1 < B ∧ g2 + 1 < B ∧ g3 + 1 < B ∧ g4 + 1 < B
theorem Rows.below {w w' : World} {B b g1 g2 g3 g4 : Nat} (h : Rows w B b g1 g2 g3 g4) (hb : Below B w w') : Rows w' B b g1 g2 g3 g4 :=
  ⟨h.map.below hb h.lt.1, h.t1.below hb h.lt.2.1, h.t2.below hb h.lt.2.2.1, h.t3.below hb h.lt.2.2.2.1, h.t4.below hb h.lt.2.2.2.2, h.lt⟩
theorem Two.grown {w w' : World} {b g f f' : Nat} (h : Two w g f f') (hg : w.grownBy w' (some b)) (h1 : g ≠ b) (h2 : g + 1 ≠ b) : Two w' g f f' := by
  have hl := h.lt
  refine ⟨?_, ?_⟩
  · exact (World.cell?_of_block (w := w) (a := ⟨g, 0, none⟩) (hg.block g (by omega) (fun e => h1 (by injection e)))).trans h.1
  · exact (World.cell?_of_block (w := w) (a := ⟨g + 1, 0, none⟩) (hg.block (g + 1) (by omega) (fun e => h2 (by injection e)))).trans h.2
set_option maxHeartbeats 4000000 in
set_option maxRecDepth 100000 in
theorem rows_calls (w : World) : Calls Try.prog 21 #[] w fun e w' => e = .returned (.map (some w.heap.size)) ∧ (∃ g1 g2 g3 g4, Rows w' w'.heap.size w.heap.size g1 g2 g3 g4) ∧ Below w.heap.size w w' := by
  have hB0 : Below w.heap.size w (w.alloc (.map #[] 0)) := below_alloc (Below.refl _ w) _
  obtain ⟨w1, u1, m1, k1⟩ := (RowMap.made w).put (k := sSuf) (nin (by decide)) (frow 34)
  have hB1 := hB0.grown k1 hB0.size (fun k hk => by injection hk with hk; omega)
  obtain ⟨w2, u2, m2, k2⟩ := m1.put (k := sDef) (nin (by decide)) (frow 35)
  have hB2 := hB1.grown k2 hB1.size (fun k hk => by injection hk with hk; omega)
  have hmm := @run_makeMap Try.prog
  have c1 := list_calls 37 38 w2
  have s2 := m2.lt
  go_enter Try.func21, Try.ntmps21
  go_wp2_with fail
  refine c1.mono ?_
  rintro e w3 ⟨rfl, a3, b3, hb3⟩
  have t1a : Two w3 w2.heap.size 37 38 := ⟨a3, b3⟩
  have m3 := m2.below hb3 s2
  obtain ⟨w4, u4, m4, k4⟩ := m3.put (k := sPho) (nin rfl) (lrow w2.heap.size)
  have t1b := t1a.grown k4 (by omega) (by omega)
  have hB4 := (below_then hB2 hB2.size hb3).grown k4 (below_then hB2 hB2.size hb3).size (fun k hk => by injection hk with hk; omega)
  have c2 := list_calls 39 40 w4
  have s4 := m4.lt
  go_wp2_with fail
  refine c2.mono ?_
  rintro e w5 ⟨rfl, aw5, bw5, hw5⟩
  have t2a : Two w5 w4.heap.size 39 40 := ⟨aw5, bw5⟩
  have m5 := m4.below hw5 s4
  obtain ⟨w6, u6, m6, k6⟩ := m5.put (k := sPre) (nin rfl) (lrow w4.heap.size)
  have t2b := t2a.grown k6 (by omega) (by omega)
  have z1b := t1b.lt
  have t1c := (t1b.below hw5 z1b).grown k6 (by have := hB4.size; omega) (by have := hB4.size; omega)
  have hB6 := (below_then hB4 hB4.size hw5).grown k6 (below_then hB4 hB4.size hw5).size (fun k hk => by injection hk with hk; omega)
  have s6 := m6.lt
  have c3 := list_calls 41 42 w6
  go_wp2_with fail
  refine c3.mono ?_
  rintro e w7 ⟨rfl, aw7, bw7, hw7⟩
  have t3a : Two w7 w6.heap.size 41 42 := ⟨aw7, bw7⟩
  have m7 := m6.below hw7 s6
  obtain ⟨w8, u8, m8, k8⟩ := m7.put (k := sIgn) (nin rfl) (lrow w6.heap.size)
  have t3b := t3a.grown k8 (by omega) (by omega)
  have z1c := t1c.lt
  have t1d := (t1c.below hw7 z1c).grown k8 (by have := hB4.size; omega) (by have := hB4.size; omega)
  have z2b := t2b.lt
  have t2c := (t2b.below hw7 z2b).grown k8 (by have := hB4.size; omega) (by have := hB4.size; omega)
  have hB8 := (below_then hB6 hB6.size hw7).grown k8 (below_then hB6 hB6.size hw7).size (fun k hk => by injection hk with hk; omega)
  have s8 := m8.lt
  have c4 := list_calls 43 44 w8
  go_wp2_with fail
  refine c4.mono ?_
  rintro e w9 ⟨rfl, aw9, bw9, hw9⟩
  have t4a : Two w9 w8.heap.size 43 44 := ⟨aw9, bw9⟩
  have m9 := m8.below hw9 s8
  obtain ⟨w10, u10, m10, k10⟩ := m9.put (k := sSil) (nin rfl) (lrow w8.heap.size)
  have t4b := t4a.grown k10 (by omega) (by omega)
  have z1d := t1d.lt
  have t1e := (t1d.below hw9 z1d).grown k10 (by have := hB4.size; omega) (by have := hB4.size; omega)
  have z2c := t2c.lt
  have t2d := (t2c.below hw9 z2c).grown k10 (by have := hB4.size; omega) (by have := hB4.size; omega)
  have z3b := t3b.lt
  have t3c := (t3b.below hw9 z3b).grown k10 (by have := hB4.size; omega) (by have := hB4.size; omega)
  have hB10 := (below_then hB8 hB8.size hw9).grown k10 (below_then hB8 hB8.size hw9).size (fun k hk => by injection hk with hk; omega)
  have s10 := m10.lt
  go_wp2_with fail
  go_ret
  exact ⟨rfl, ⟨_, _, _, _, m10, t1e, t2d, t3c, t4b, s10, t1e.lt, t2d.lt, t3c.lt, t4b.lt⟩, hB10⟩
end Go.Proofs.Ytkbcfbelpjifnaa.Spec
