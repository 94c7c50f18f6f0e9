/- special.Of. -/
import Derived.Test.YtkbcfbelpjifnaaSpec17
namespace Go.Proofs.Ytkbcfbelpjifnaa.Spec
open Go Go.RowKit Go.Proofs Go.Proofs.YtkbcfbelpjifnaaW.PrintWords Go.Proofs.Ytkbcfbelpjifnaa.PX Go.Proofs.Ytkbcfbelpjifnaa.Plain
set_option linter.unusedVariables false
set_option linter.unusedSimpArgs false

def s00 : Sp := ⟨fun _ => [], fun _ => false⟩
/-- Which list a target stands for; 0: none. -/
def kOf (t : ByteArray) : Nat := if t = sPho then 1 else if t = sPre then 2 else if t = sIgn then 3 else if t = sSil then 4 else 0
/-- What a line does to what the special targets say. -/
def step (LS : Nat → Rl → Sp → Int × Sp) (x : Rl) (s : Sp) : Int × Sp :=
  if x.f0 = sSuf then sufS x s else if x.f0 = sDef then dfltS x s else if kOf x.f0 = 0 then (0, s) else LS (kOf x.f0) x s
def ofG (LS : Nat → Rl → Sp → Int × Sp) (i : Nat) (s : Sp) : List Rl → Sp × Int × Int
  | [] => (s, 0, 0)
  | x :: l => if (step LS x s).1 = 0 then ofG LS (i + 1) (step LS x s).2 l else (s00, (step LS x s).1, (i : Int))
def ofL (LS : Nat → Rl → Sp → Int × Sp) (l : List Rl) : Sp × Int × Int := if (askedL l).1 = 0 then ofG LS 0 s00 l else (s00, (askedL l).1, (askedL l).2)
/-- Rows that are not too long. -/
def Good (s : Sp) : Prop := (s.r 0).length ≤ 32 ∧ ∀ i, (s.r i).length ≤ 512
def ofFn : Nat → Nat
  | 1 => 37
  | 2 => 39
  | 3 => 41
  | _ => 43
def allFn : Nat → Nat
  | 1 => 38
  | 2 => 40
  | 3 => 42
  | _ => 44
/-- What a list's row does. -/
def ListC (LS : Nat → Rl → Sp → Int × Sp) : Prop :=
  ∀ (k : Nat) (hk : 1 ≤ k ∧ k ≤ 4) (b : Nat) (s : Sp) (V : Nat → Value) (x : Rl) (A1 : Option Addr) (c1 : Nat) (A2 : Option Addr) (c2 g : Nat) (w : World), SpAt w b s V → Two w g (ofFn k) (allFn k) → g + 1 < b → (∀ W, Below b w W → Kd.string.C W A1 x.f1.length x.f1) → x.f1.length ≤ c1 → x.f1.length ≤ 64 → Good s →
    (Calls Try.prog 52 #[.pointer (some ⟨b, 0, none⟩), .agg #[.string x.f0, .slice A1 x.f1.length c1, .slice A2 x.f2.length c2, .bool x.f3], .pointer (some ⟨g + 1, 0, none⟩), .pointer (some ⟨g, 0, none⟩)] w fun e w' => e = .returned (.int .i64 (LS k x s).1) ∧ (∃ V', SpAt w' b (LS k x s).2 V') ∧ Below b w w') ∧ ((LS k x s).1 = 0 → Good (LS k x s).2)
theorem suf_good {x : Rl} {s : Sp} (h : Good s) (h0 : (sufS x s).1 = 0) : Good (sufS x s).2 := by
  unfold sufS at h0 ⊢
  split at h0
  · cases h0
  · rename_i hn
    rw [if_neg hn]
    generalize uniq [] _ = U at h0 ⊢
    have hl : ¬ 32 < U.length := fun hl => by rw [if_pos hl] at h0; cases h0
    refine ⟨by simp only [up_at]; omega, fun i => ?_⟩
    by_cases e : i = 0
    · subst e; simp only [up_at]; omega
    · simp only [up_ne _ _ e]; exact h.2 i
theorem dflt_good {x : Rl} {s : Sp} (h : Good s) (h2 : x.f2.length ≤ 64) : Good (dfltS x s).2 := by
  unfold dfltS
  split
  · exact h
  · refine ⟨by simp only [up_ne s.r x.f2 (show 0 ≠ 8 by decide)]; exact h.1, fun i => ?_⟩
    by_cases e : i = 8
    · subst e; simp only [up_at]; omega
    · simp only [up_ne _ _ e]; exact h.2 i
/-- The zero of api.Special. -/
abbrev zeroO : Obj := .cells #[.slice none 0 0, .slice none 0 0, .slice none 0 0, .slice none 0 0, .slice none 0 0, .bool false, .bool false, .bool false, .slice none 0 0, .bool false] 38
/-- What Of answers. -/
def OfPost (w : World) (r : Sp × Int × Int) (e : Ending) (w' : World) : Prop :=
  ∃ V : Nat → Value, e = .returned (.tuple #[.agg (spO r.1.f V), .int .i64 r.2.1, .int .i64 r.2.2]) ∧ (∀ i, Kd.string.R 9 w' w.heap.size (fun _ => True) (V i) (r.1.r i)) ∧ Below w.heap.size w w'
theorem OfPost.zero {w w' : World} (hb : Below w.heap.size w w') (c i : Int) : OfPost w (s00, c, i) (.returned (.tuple #[.agg #[.slice none 0 0, .slice none 0 0, .slice none 0 0, .slice none 0 0, .slice none 0 0, .bool false, .bool false, .bool false, .slice none 0 0, .bool false], .int .i64 c, .int .i64 i])) w' :=
  ⟨fun _ => .slice none 0 0, rfl, fun i => Kd.R_nil _ _ _ _ _, hb⟩
theorem ten {w : World} {g : Nat} {c0 c1 c2 c3 c4 c5 c6 c7 c8 c9 : Value} {t : TypeId} (h : w.heap[g]? = some (.cells #[c0, c1, c2, c3, c4, c5, c6, c7, c8, c9] t (0, 0))) :
    w.cell? ⟨g, 0, none⟩ = some c0 ∧ w.cell? ⟨g, 1, none⟩ = some c1 ∧ w.cell? ⟨g, 2, none⟩ = some c2 ∧ w.cell? ⟨g, 3, none⟩ = some c3 ∧ w.cell? ⟨g, 4, none⟩ = some c4 ∧ w.cell? ⟨g, 5, none⟩ = some c5 ∧ w.cell? ⟨g, 6, none⟩ = some c6 ∧ w.cell? ⟨g, 7, none⟩ = some c7 ∧ w.cell? ⟨g, 8, none⟩ = some c8 ∧ w.cell? ⟨g, 9, none⟩ = some c9 ∧ w.frozen? ⟨g, 0, none⟩ = false ∧ w.frozen? ⟨g, 1, none⟩ = false ∧ w.frozen? ⟨g, 2, none⟩ = false ∧ w.frozen? ⟨g, 3, none⟩ = false ∧ w.frozen? ⟨g, 4, none⟩ = false ∧ w.frozen? ⟨g, 5, none⟩ = false ∧ w.frozen? ⟨g, 6, none⟩ = false ∧ w.frozen? ⟨g, 7, none⟩ = false ∧ w.frozen? ⟨g, 8, none⟩ = false ∧ w.frozen? ⟨g, 9, none⟩ = false :=
  ⟨cell_of_row w g 0 _ _ _ h, cell_of_row w g 1 _ _ _ h, cell_of_row w g 2 _ _ _ h, cell_of_row w g 3 _ _ _ h, cell_of_row w g 4 _ _ _ h, cell_of_row w g 5 _ _ _ h, cell_of_row w g 6 _ _ _ h, cell_of_row w g 7 _ _ _ h, cell_of_row w g 8 _ _ _ h, cell_of_row w g 9 _ _ _ h, frozen_of_row w g 0 _ _ h, frozen_of_row w g 1 _ _ h, frozen_of_row w g 2 _ _ h, frozen_of_row w g 3 _ _ h, frozen_of_row w g 4 _ _ h, frozen_of_row w g 5 _ _ h, frozen_of_row w g 6 _ _ h, frozen_of_row w g 7 _ _ h, frozen_of_row w g 8 _ _ h, frozen_of_row w g 9 _ _ h⟩
theorem fill10 {w w0 : World} {g B : Nat} {c0 c1 c2 c3 c4 c5 c6 c7 c8 c9 : Value} {t : TypeId} (h : w.heap[g]? = some (.cells #[c0, c1, c2, c3, c4, c5, c6, c7, c8, c9] t (0, 0))) (hb : Below B w0 w) (hg : B ≤ g) (v0 v1 v2 v3 v4 v5 v6 v7 v8 v9 : Value) :
    ((((((((((w.setCell ⟨g, 0, none⟩ v0).setCell ⟨g, 1, none⟩ v1).setCell ⟨g, 2, none⟩ v2).setCell ⟨g, 3, none⟩ v3).setCell ⟨g, 4, none⟩ v4).setCell ⟨g, 5, none⟩ v5).setCell ⟨g, 6, none⟩ v6).setCell ⟨g, 7, none⟩ v7).setCell ⟨g, 8, none⟩ v8).setCell ⟨g, 9, none⟩ v9).heap[g]? = some (.cells #[v0, v1, v2, v3, v4, v5, v6, v7, v8, v9] t (0, 0)) ∧ Below B w0 ((((((((((w.setCell ⟨g, 0, none⟩ v0).setCell ⟨g, 1, none⟩ v1).setCell ⟨g, 2, none⟩ v2).setCell ⟨g, 3, none⟩ v3).setCell ⟨g, 4, none⟩ v4).setCell ⟨g, 5, none⟩ v5).setCell ⟨g, 6, none⟩ v6).setCell ⟨g, 7, none⟩ v7).setCell ⟨g, 8, none⟩ v8).setCell ⟨g, 9, none⟩ v9) ∧ ∀ k, k ≠ g → ((((((((((w.setCell ⟨g, 0, none⟩ v0).setCell ⟨g, 1, none⟩ v1).setCell ⟨g, 2, none⟩ v2).setCell ⟨g, 3, none⟩ v3).setCell ⟨g, 4, none⟩ v4).setCell ⟨g, 5, none⟩ v5).setCell ⟨g, 6, none⟩ v6).setCell ⟨g, 7, none⟩ v7).setCell ⟨g, 8, none⟩ v8).setCell ⟨g, 9, none⟩ v9).heap[k]? = w.heap[k]? := by
  have k := fun (W : World) (cs : Array Value) (i : Nat) (u : Value) (hh : W.heap[g]? = some (.cells cs t (0, 0))) => heap_setCell_same W g i cs t u hh
  have h0 : (w.setCell ⟨g, 0, none⟩ v0).heap[g]? = some (.cells #[v0, c1, c2, c3, c4, c5, c6, c7, c8, c9] t (0, 0)) := k _ _ 0 v0 h
  have h1 : ((w.setCell ⟨g, 0, none⟩ v0).setCell ⟨g, 1, none⟩ v1).heap[g]? = some (.cells #[v0, v1, c2, c3, c4, c5, c6, c7, c8, c9] t (0, 0)) := k _ _ 1 v1 h0
  have h2 : (((w.setCell ⟨g, 0, none⟩ v0).setCell ⟨g, 1, none⟩ v1).setCell ⟨g, 2, none⟩ v2).heap[g]? = some (.cells #[v0, v1, v2, c3, c4, c5, c6, c7, c8, c9] t (0, 0)) := k _ _ 2 v2 h1
  have h3 : ((((w.setCell ⟨g, 0, none⟩ v0).setCell ⟨g, 1, none⟩ v1).setCell ⟨g, 2, none⟩ v2).setCell ⟨g, 3, none⟩ v3).heap[g]? = some (.cells #[v0, v1, v2, v3, c4, c5, c6, c7, c8, c9] t (0, 0)) := k _ _ 3 v3 h2
  have h4 : (((((w.setCell ⟨g, 0, none⟩ v0).setCell ⟨g, 1, none⟩ v1).setCell ⟨g, 2, none⟩ v2).setCell ⟨g, 3, none⟩ v3).setCell ⟨g, 4, none⟩ v4).heap[g]? = some (.cells #[v0, v1, v2, v3, v4, c5, c6, c7, c8, c9] t (0, 0)) := k _ _ 4 v4 h3
  have h5 : ((((((w.setCell ⟨g, 0, none⟩ v0).setCell ⟨g, 1, none⟩ v1).setCell ⟨g, 2, none⟩ v2).setCell ⟨g, 3, none⟩ v3).setCell ⟨g, 4, none⟩ v4).setCell ⟨g, 5, none⟩ v5).heap[g]? = some (.cells #[v0, v1, v2, v3, v4, v5, c6, c7, c8, c9] t (0, 0)) := k _ _ 5 v5 h4
  have h6 : (((((((w.setCell ⟨g, 0, none⟩ v0).setCell ⟨g, 1, none⟩ v1).setCell ⟨g, 2, none⟩ v2).setCell ⟨g, 3, none⟩ v3).setCell ⟨g, 4, none⟩ v4).setCell ⟨g, 5, none⟩ v5).setCell ⟨g, 6, none⟩ v6).heap[g]? = some (.cells #[v0, v1, v2, v3, v4, v5, v6, c7, c8, c9] t (0, 0)) := k _ _ 6 v6 h5
  have h7 : ((((((((w.setCell ⟨g, 0, none⟩ v0).setCell ⟨g, 1, none⟩ v1).setCell ⟨g, 2, none⟩ v2).setCell ⟨g, 3, none⟩ v3).setCell ⟨g, 4, none⟩ v4).setCell ⟨g, 5, none⟩ v5).setCell ⟨g, 6, none⟩ v6).setCell ⟨g, 7, none⟩ v7).heap[g]? = some (.cells #[v0, v1, v2, v3, v4, v5, v6, v7, c8, c9] t (0, 0)) := k _ _ 7 v7 h6
  have h8 : (((((((((w.setCell ⟨g, 0, none⟩ v0).setCell ⟨g, 1, none⟩ v1).setCell ⟨g, 2, none⟩ v2).setCell ⟨g, 3, none⟩ v3).setCell ⟨g, 4, none⟩ v4).setCell ⟨g, 5, none⟩ v5).setCell ⟨g, 6, none⟩ v6).setCell ⟨g, 7, none⟩ v7).setCell ⟨g, 8, none⟩ v8).heap[g]? = some (.cells #[v0, v1, v2, v3, v4, v5, v6, v7, v8, c9] t (0, 0)) := k _ _ 8 v8 h7
  have h9 : ((((((((((w.setCell ⟨g, 0, none⟩ v0).setCell ⟨g, 1, none⟩ v1).setCell ⟨g, 2, none⟩ v2).setCell ⟨g, 3, none⟩ v3).setCell ⟨g, 4, none⟩ v4).setCell ⟨g, 5, none⟩ v5).setCell ⟨g, 6, none⟩ v6).setCell ⟨g, 7, none⟩ v7).setCell ⟨g, 8, none⟩ v8).setCell ⟨g, 9, none⟩ v9).heap[g]? = some (.cells #[v0, v1, v2, v3, v4, v5, v6, v7, v8, v9] t (0, 0)) := k _ _ 9 v9 h8
  refine ⟨h9, ((((((((((hb.setCell (p := ⟨g, 0, none⟩) hg v0).setCell (p := ⟨g, 1, none⟩) hg v1).setCell (p := ⟨g, 2, none⟩) hg v2).setCell (p := ⟨g, 3, none⟩) hg v3).setCell (p := ⟨g, 4, none⟩) hg v4).setCell (p := ⟨g, 5, none⟩) hg v5).setCell (p := ⟨g, 6, none⟩) hg v6).setCell (p := ⟨g, 7, none⟩) hg v7).setCell (p := ⟨g, 8, none⟩) hg v8).setCell (p := ⟨g, 9, none⟩) hg v9), fun k hk => ?_⟩
  simp only [fun (W : World) (j : Nat) (u : Value) => heap_setCell_other W ⟨g, j, none⟩ k u hk]
set_option maxHeartbeats 4000000 in
set_option maxRecDepth 100000 in
theorem of_calls (LS : Nat → Rl → Sp → Int × Sp) (A : Option Addr) (c : Nat) (l : List Rl) (w : World) (hr : k30.C w A l.length l) (hfit : ∀ x ∈ l, Fits x) (hL : (∀ x ∈ l, kOf x.f0 = 0) ∨ ListC LS) :
    Calls Try.prog 13 #[.slice A l.length c] w fun e w' => OfPost w (ofL LS l) e w' := by
  have hmx : l.length ≤ 9223372036854775807 := hr.2.1
  have hz0 : Below w.heap.size w (w.alloc zeroO) := below_alloc (Below.refl _ w) _
  have hask := asked_calls A c l (w.alloc zeroO) (Kd.C_below hr hz0) hfit
  by_cases h0 : (askedL l).1 = 0
  · have hm : ofL LS l = ofG LS 0 s00 l := if_pos h0
    obtain ⟨hl, hck⟩ := asked_ok h0
    rw [h0] at hask
    generalize (askedL l).2 = q2 at hask
    rw [hm]
    generalize hRes : ofG LS 0 s00 l = R
    clear hm h0
    go_enter Try.func13, Try.ntmps13
    go_wp2_with fail
    refine hask.mono ?_
    rintro e w1 ⟨rfl, hb1⟩
    have hrow := rows_calls w1
    go_wp2_with fail
    refine hrow.mono ?_
    rintro e w2 ⟨rfl, ⟨g1, g2, g3, g4, hRo⟩, hb2⟩
    go_wp2_with fail
    have hB2 : Below w.heap.size w w2 := below_t (below_t hz0 hb1) hb2
    have hz1 : (w.alloc zeroO).heap[w.heap.size]? = some zeroO := heap_alloc_new w _
    have hz2 := (hb2.block _ (Nat.lt_of_lt_of_le (blk_lt hz1) hb1.size)).trans ((hb1.block _ (blk_lt hz1)).trans hz1)
    go_loopw [27] (fun i wr => ∃ (k : Nat) (s : Sp) (V : Nat → Value), i = .int .i64 (k : Int) ∧ k ≤ l.length ∧ ofG LS k s (l.drop k) = R ∧ Good s ∧ SpAt wr w2.heap.size s V ∧ Below w2.heap.size w2 wr) (fun i _ => l.length - (intOf i).toNat)
    case atStart =>
      refine ⟨0, s00, fun _ => .slice none 0 0, rfl, Nat.zero_le _, by simpa using hRes, ⟨by simp [s00], fun i => by simp [s00]⟩, ⟨heap_alloc_new w2 _, fun i => Kd.R_nil _ _ _ _ _, fun i j k _ h => by simp [Value.ownBlock] at h⟩, below_alloc (Below.refl _ _) _⟩
    case round =>
      obtain ⟨k, s, V, rfl, hk, hG, hgood, hS, hB⟩ := hrel
      by_cases hlt : k < l.length
      · have d1 : (k : Int) < (l.length : Int) := by omega
        have d2 : (0 : Int) ≤ (k : Int) := by omega
        obtain ⟨x, hx⟩ : ∃ x, l[k]? = some x := ⟨_, List.getElem?_eq_getElem hlt⟩
        obtain ⟨hn, hs64, h64, h642⟩ := ck_ok (hck x (List.mem_of_getElem? hx))
        obtain ⟨ad, A1, c1, A2, c2, rfl, hxw⟩ := rul_at hr hx
        have hBw : Below w.heap.size w wr := hB2.trans (hB.mono hB2.size)
        have hxr := hxw.below hBw
        have e0 := hxr.e0
        have e1 := hxr.e1
        have e2 := hxr.e2
        have e3 := hxr.e3
        have hRr := hRo.below hB
        have hdr : l.drop k = x :: l.drop (k + 1) := by
          rw [List.drop_eq_getElem_cons hlt]
          rw [(List.getElem?_eq_some_iff.1 hx).2]
        rw [hdr, ofG] at hG
        have hfx := hfit x (List.mem_of_getElem? hx)
        have hsz : w2.heap.size < wr.heap.size := hS.lt
        have hBa : Below w2.heap.size w2 (wr.alloc (boxO x A1 c1 A2 c2)) := hB.alloc hB.size _
        have hRa := (hRo.below hBa)
        have hr1 : ∀ W, Below w2.heap.size wr W → Kd.string.C W A1 x.f1.length x.f1 := fun W hW => Kd.C_below hxw.r1 (hBw.trans (hW.mono hB2.size))
        have hr2 : ∀ W, Below w2.heap.size wr W → Kd.string.C W A2 x.f2.length x.f2 := fun W hW => Kd.C_below hxw.r2 (hBw.trans (hW.mono hB2.size))
        have hbx : ∀ o : Obj, Below wr.heap.size wr ((wr.alloc (boxO x A1 c1 A2 c2)).alloc o) := fun o => below_alloc (below_alloc (Below.refl _ wr) _) o
        have hBbo : ∀ o : Obj, Below w2.heap.size w2 ((wr.alloc (boxO x A1 c1 A2 c2)).alloc o) := fun o => hB.trans ((hbx o).mono (Nat.le_of_lt hsz))
        by_cases t0 : x.f0 = sSuf
        · have hlk := hRa.map.hit (k := x.f0) (v := frow 34) (by rw [t0]; simp [tbl]) (by rw [t0]; intro v hv; simp [tbl] at hv; exact hv)
          have hst : step LS x s = sufS x s := if_pos t0
          have hgd := fun h0 => suf_good (x := x) hgood h0
          have hcall := suffixes_calls w2.heap.size s V x A1 c1 A2 c2 ((wr.alloc (boxO x A1 c1 A2 c2)).alloc (.cells #[.func (.func 34) #[] #[]] 57)) (hS.below (hbx _)) hxw.l1 (fun W hW => hr1 W (((hbx _).mono (Nat.le_of_lt hsz)).trans hW)) h64 hgood.1 hfx.2
          have hBb := hBbo (.cells #[.func (.func 34) #[] #[]] 57)
          rw [← hst] at hcall hgd
          clear t0
          go_wp2_with fail
          refine hcall.mono ?_
          rintro e w5 ⟨rfl, ⟨V5, hS5⟩, hb5⟩
          have hB5 : Below w2.heap.size w2 w5 := (hBb.trans hb5)
          by_cases hq : (step LS x s).1 = 0
          · rw [if_pos hq] at hG
            rw [hq]
            go_wp2_with fail
            go_roundw
            case rel => exact ⟨k + 1, _, V5, by go_num, by omega, hG, hgd hq, hS5, hB5⟩
            case measure => simp [intOf]; omega
          · rw [if_neg hq] at hG
            subst hG
            obtain ⟨q, hqe⟩ : ∃ q, (step LS x s).1 = q := ⟨_, rfl⟩
            rw [hqe] at hq ⊢
            have hz3 := (hB5.block _ (Nat.lt_of_lt_of_le (blk_lt hz1) (Nat.le_trans hb1.size hb2.size))).trans hz2
            obtain ⟨e0, e1, e2, e3, e4, e5, e6, e7, e8, e9, f0, f1, f2, f3, f4, f5, f6, f7, f8, f9⟩ := ten hz3
            go_wp2_with fail
            obtain ⟨hf, hbf, hof⟩ := fill10 hz3 (hB2.trans (hB5.mono hB2.size)) (Nat.le_refl _) (.slice none 0 0) (.slice none 0 0) (.slice none 0 0) (.slice none 0 0) (.slice none 0 0) (.bool false) (.bool false) (.bool false) (.slice none 0 0) (.bool false)
            generalize (((((((((w5.setCell ⟨w.heap.size, 0, none⟩ (.slice none 0 0)).setCell ⟨w.heap.size, 1, none⟩ (.slice none 0 0)).setCell ⟨w.heap.size, 2, none⟩ (.slice none 0 0)).setCell ⟨w.heap.size, 3, none⟩ (.slice none 0 0)).setCell ⟨w.heap.size, 4, none⟩ (.slice none 0 0)).setCell ⟨w.heap.size, 5, none⟩ (.bool false)).setCell ⟨w.heap.size, 6, none⟩ (.bool false)).setCell ⟨w.heap.size, 7, none⟩ (.bool false)).setCell ⟨w.heap.size, 8, none⟩ (.slice none 0 0)).setCell ⟨w.heap.size, 9, none⟩ (.bool false) = W at hf hbf hof ⊢
            clear e0 e1 e2 e3 e4 e5 e6 e7 e8 e9 f0 f1 f2 f3 f4 f5 f6 f7 f8 f9
            obtain ⟨e0, e1, e2, e3, e4, e5, e6, e7, e8, e9, f0, f1, f2, f3, f4, f5, f6, f7, f8, f9⟩ := ten hf
            (try simp only [Exit.inBlock, Exit.then])
            refine bodyPost_ret (by simp [results, Try.results13, go_sem, e0, e1, e2, e3, e4, e5, e6, e7, e8, e9, Result.andThen]; try rfl) rfl ?_
            subst hqe
            exact OfPost.zero hbf _ _

        · by_cases t1 : x.f0 = sDef
          · have hlk := hRa.map.hit (k := x.f0) (v := frow 35) (by rw [t1]; simp [tbl]) (by rw [t1]; intro v hv; simp [tbl] at hv; exact hv)
            have hst : step LS x s = dfltS x s := by unfold step; rw [if_neg t0, if_pos t1]
            have hgd := fun (_ : (dfltS x s).1 = 0) => dflt_good (x := x) hgood h642
            have hcall := default_calls w2.heap.size s V x A1 c1 A2 c2 ((wr.alloc (boxO x A1 c1 A2 c2)).alloc (.cells #[.func (.func 35) #[] #[]] 57)) (hS.below (hbx _)) (fun W hW => hr2 W (((hbx _).mono (Nat.le_of_lt hsz)).trans hW)) h64 h642
            have hBb := hBbo (.cells #[.func (.func 35) #[] #[]] 57)
            rw [← hst] at hcall hgd
            clear t0 t1
            go_wp2_with fail
            refine hcall.mono ?_
            rintro e w5 ⟨rfl, ⟨V5, hS5⟩, hb5⟩
            have hB5 : Below w2.heap.size w2 w5 := (hBb.trans hb5)
            by_cases hq : (step LS x s).1 = 0
            · rw [if_pos hq] at hG
              rw [hq]
              go_wp2_with fail
              go_roundw
              case rel => exact ⟨k + 1, _, V5, by go_num, by omega, hG, hgd hq, hS5, hB5⟩
              case measure => simp [intOf]; omega
            · rw [if_neg hq] at hG
              subst hG
              obtain ⟨q, hqe⟩ : ∃ q, (step LS x s).1 = q := ⟨_, rfl⟩
              rw [hqe] at hq ⊢
              have hz3 := (hB5.block _ (Nat.lt_of_lt_of_le (blk_lt hz1) (Nat.le_trans hb1.size hb2.size))).trans hz2
              obtain ⟨e0, e1, e2, e3, e4, e5, e6, e7, e8, e9, f0, f1, f2, f3, f4, f5, f6, f7, f8, f9⟩ := ten hz3
              go_wp2_with fail
              obtain ⟨hf, hbf, hof⟩ := fill10 hz3 (hB2.trans (hB5.mono hB2.size)) (Nat.le_refl _) (.slice none 0 0) (.slice none 0 0) (.slice none 0 0) (.slice none 0 0) (.slice none 0 0) (.bool false) (.bool false) (.bool false) (.slice none 0 0) (.bool false)
              generalize (((((((((w5.setCell ⟨w.heap.size, 0, none⟩ (.slice none 0 0)).setCell ⟨w.heap.size, 1, none⟩ (.slice none 0 0)).setCell ⟨w.heap.size, 2, none⟩ (.slice none 0 0)).setCell ⟨w.heap.size, 3, none⟩ (.slice none 0 0)).setCell ⟨w.heap.size, 4, none⟩ (.slice none 0 0)).setCell ⟨w.heap.size, 5, none⟩ (.bool false)).setCell ⟨w.heap.size, 6, none⟩ (.bool false)).setCell ⟨w.heap.size, 7, none⟩ (.bool false)).setCell ⟨w.heap.size, 8, none⟩ (.slice none 0 0)).setCell ⟨w.heap.size, 9, none⟩ (.bool false) = W at hf hbf hof ⊢
              clear e0 e1 e2 e3 e4 e5 e6 e7 e8 e9 f0 f1 f2 f3 f4 f5 f6 f7 f8 f9
              obtain ⟨e0, e1, e2, e3, e4, e5, e6, e7, e8, e9, f0, f1, f2, f3, f4, f5, f6, f7, f8, f9⟩ := ten hf
              (try simp only [Exit.inBlock, Exit.then])
              refine bodyPost_ret (by simp [results, Try.results13, go_sem, e0, e1, e2, e3, e4, e5, e6, e7, e8, e9, Result.andThen]; try rfl) rfl ?_
              subst hqe
              exact OfPost.zero hbf _ _
          · by_cases t2 : kOf x.f0 = 0
            · have hlk := hRa.map.miss (k := x.f0) (by
                unfold kOf at t2
                intro hmem
                simp only [tbl, List.map_cons, List.map_nil, List.mem_cons, List.not_mem_nil, or_false] at hmem
                rcases hmem with e | e | e | e | e | e
                · exact t0 e
                · exact t1 e
                · rw [if_pos e] at t2; cases t2
                · rw [e] at t2; revert t2; decide
                · rw [e] at t2; revert t2; decide
                · rw [e] at t2; revert t2; decide)
              have hst : step LS x s = (0, s) := by unfold step; rw [if_neg t0, if_neg t1, if_pos t2]
              rw [hst, if_pos rfl] at hG
              have hSm := hS.below (hbx (.cells #[.nilFunc] 57))
              have hBm := hBbo (.cells #[.nilFunc] 57)
              clear t0 t1 t2
              go_wp2_with fail
              go_roundw
              case rel => exact ⟨k + 1, s, V, by go_num, by omega, hG, hgood, hSm, hBm⟩
              case measure => simp [intOf]; omega
            · have hLS : ListC LS := by
                rcases hL with hL | hL
                · exact absurd (hL x (List.mem_of_getElem? hx)) t2
                · exact hL
              obtain ⟨g, hlk, hTw, hg⟩ : ∃ g, (Instr.lookup 52 (.map (some w1.heap.size)) (.string x.f0) true).run Try.prog (wr.alloc (boxO x A1 c1 A2 c2)) = .ok (.tuple #[lrow g, .bool true]) (wr.alloc (boxO x A1 c1 A2 c2)) ∧ Two (wr.alloc (boxO x A1 c1 A2 c2)) g (ofFn (kOf x.f0)) (allFn (kOf x.f0)) ∧ g + 1 < w2.heap.size := by
                unfold kOf at t2 ⊢
                by_cases u1 : x.f0 = sPho
                · rw [if_pos u1]
                  exact ⟨g1, hRa.map.hit (by rw [u1]; simp [tbl]) (by rw [u1]; intro v hv; simp [tbl] at hv; exact hv), hRa.t1, hRa.lt.2.1⟩
                · rw [if_neg u1] at t2 ⊢
                  by_cases u2 : x.f0 = sPre
                  · rw [if_pos u2]
                    exact ⟨g2, hRa.map.hit (by rw [u2]; simp [tbl]) (by rw [u2]; intro v hv; simp [tbl] at hv; exact hv), hRa.t2, hRa.lt.2.2.1⟩
                  · rw [if_neg u2] at t2 ⊢
                    by_cases u3 : x.f0 = sIgn
                    · rw [if_pos u3]
                      exact ⟨g3, hRa.map.hit (by rw [u3]; simp [tbl]) (by rw [u3]; intro v hv; simp [tbl] at hv; exact hv), hRa.t3, hRa.lt.2.2.2.1⟩
                    · rw [if_neg u3] at t2 ⊢
                      by_cases u4 : x.f0 = sSil
                      · rw [if_pos u4]
                        exact ⟨g4, hRa.map.hit (by rw [u4]; simp [tbl]) (by rw [u4]; intro v hv; simp [tbl] at hv; exact hv), hRa.t4, hRa.lt.2.2.2.2⟩
                      · rw [if_neg u4] at t2
                        exact absurd rfl t2
              have hk4 : 1 ≤ kOf x.f0 ∧ kOf x.f0 ≤ 4 := by
                refine ⟨by omega, ?_⟩
                unfold kOf
                repeat' split
                all_goals omega
              have hst : step LS x s = LS (kOf x.f0) x s := by unfold step; rw [if_neg t0, if_neg t1, if_neg t2]
              obtain ⟨hcall, hgd⟩ := hLS (kOf x.f0) hk4 w2.heap.size s V x A1 c1 A2 c2 g ((wr.alloc (boxO x A1 c1 A2 c2)).alloc (.cells #[.func (.func 52) #[] #[.pointer (some ⟨g + 1, 0, none⟩), .pointer (some ⟨g, 0, none⟩)]] 57)) (hS.below (hbx _)) (hTw.below (below_alloc (Below.refl _ _) _) hTw.lt) hg (fun W hW => hr1 W (((hbx _).mono (Nat.le_of_lt hsz)).trans hW)) hxw.l1 h64 hgood
              have hBb := hBbo (.cells #[.func (.func 52) #[] #[.pointer (some ⟨g + 1, 0, none⟩), .pointer (some ⟨g, 0, none⟩)]] 57)
              rw [← hst] at hcall hgd
              clear t0 t1 t2 hk4
              go_wp2_with fail
              refine hcall.mono ?_
              rintro e w5 ⟨rfl, ⟨V5, hS5⟩, hb5⟩
              have hB5 : Below w2.heap.size w2 w5 := (hBb.trans hb5)
              by_cases hq : (step LS x s).1 = 0
              · rw [if_pos hq] at hG
                rw [hq]
                go_wp2_with fail
                go_roundw
                case rel => exact ⟨k + 1, _, V5, by go_num, by omega, hG, hgd hq, hS5, hB5⟩
                case measure => simp [intOf]; omega
              · rw [if_neg hq] at hG
                subst hG
                obtain ⟨q, hqe⟩ : ∃ q, (step LS x s).1 = q := ⟨_, rfl⟩
                rw [hqe] at hq ⊢
                have hz3 := (hB5.block _ (Nat.lt_of_lt_of_le (blk_lt hz1) (Nat.le_trans hb1.size hb2.size))).trans hz2
                obtain ⟨e0, e1, e2, e3, e4, e5, e6, e7, e8, e9, f0, f1, f2, f3, f4, f5, f6, f7, f8, f9⟩ := ten hz3
                go_wp2_with fail
                obtain ⟨hf, hbf, hof⟩ := fill10 hz3 (hB2.trans (hB5.mono hB2.size)) (Nat.le_refl _) (.slice none 0 0) (.slice none 0 0) (.slice none 0 0) (.slice none 0 0) (.slice none 0 0) (.bool false) (.bool false) (.bool false) (.slice none 0 0) (.bool false)
                generalize (((((((((w5.setCell ⟨w.heap.size, 0, none⟩ (.slice none 0 0)).setCell ⟨w.heap.size, 1, none⟩ (.slice none 0 0)).setCell ⟨w.heap.size, 2, none⟩ (.slice none 0 0)).setCell ⟨w.heap.size, 3, none⟩ (.slice none 0 0)).setCell ⟨w.heap.size, 4, none⟩ (.slice none 0 0)).setCell ⟨w.heap.size, 5, none⟩ (.bool false)).setCell ⟨w.heap.size, 6, none⟩ (.bool false)).setCell ⟨w.heap.size, 7, none⟩ (.bool false)).setCell ⟨w.heap.size, 8, none⟩ (.slice none 0 0)).setCell ⟨w.heap.size, 9, none⟩ (.bool false) = W at hf hbf hof ⊢
                clear e0 e1 e2 e3 e4 e5 e6 e7 e8 e9 f0 f1 f2 f3 f4 f5 f6 f7 f8 f9
                obtain ⟨e0, e1, e2, e3, e4, e5, e6, e7, e8, e9, f0, f1, f2, f3, f4, f5, f6, f7, f8, f9⟩ := ten hf
                (try simp only [Exit.inBlock, Exit.then])
                refine bodyPost_ret (by simp [results, Try.results13, go_sem, e0, e1, e2, e3, e4, e5, e6, e7, e8, e9, Result.andThen]; try rfl) rfl ?_
                subst hqe
                exact OfPost.zero hbf _ _
      · obtain rfl : k = l.length := by omega
        have d1 : ¬ ((l.length : Int) < (l.length : Int)) := by omega
        rw [List.drop_length, ofG] at hG
        subst hG
        obtain ⟨A0, c0, hv0, _, _⟩ := Kd.R_reads (hS.rows 0)
        obtain ⟨A1, c1, hv1, _, _⟩ := Kd.R_reads (hS.rows 1)
        obtain ⟨A2, c2, hv2, _, _⟩ := Kd.R_reads (hS.rows 2)
        obtain ⟨A3, c3, hv3, _, _⟩ := Kd.R_reads (hS.rows 3)
        obtain ⟨A4, c4, hv4, _, _⟩ := Kd.R_reads (hS.rows 4)
        obtain ⟨A8, c8, hv8, _, _⟩ := Kd.R_reads (hS.rows 8)
        have hc := hS.cells
        simp only [spO] at hc
        rw [hv0, hv1, hv2, hv3, hv4, hv8] at hc
        have hz3 := (hB.block _ (Nat.lt_of_lt_of_le (blk_lt hz1) (Nat.le_trans hb1.size hb2.size))).trans hz2
        obtain ⟨x0, x1, x2, x3, x4, x5, x6, x7, x8, x9, y0, y1, y2, y3, y4, y5, y6, y7, y8, y9⟩ := ten hc
        obtain ⟨e0, e1, e2, e3, e4, e5, e6, e7, e8, e9, f0, f1, f2, f3, f4, f5, f6, f7, f8, f9⟩ := ten hz3
        go_wp2_with fail
        obtain ⟨hf, hbf, hof⟩ := fill10 hz3 (hB2.trans (hB.mono hB2.size)) (Nat.le_refl _) (.slice A0 (s.r 0).length c0) (.slice A1 (s.r 1).length c1) (.slice A2 (s.r 2).length c2) (.slice A3 (s.r 3).length c3) (.slice A4 (s.r 4).length c4) (.bool (s.f 5)) (.bool (s.f 6)) (.bool (s.f 7)) (.slice A8 (s.r 8).length c8) (.bool (s.f 9))
        generalize (((((((((wr.setCell ⟨w.heap.size, 0, none⟩ (.slice A0 (s.r 0).length c0)).setCell ⟨w.heap.size, 1, none⟩ (.slice A1 (s.r 1).length c1)).setCell ⟨w.heap.size, 2, none⟩ (.slice A2 (s.r 2).length c2)).setCell ⟨w.heap.size, 3, none⟩ (.slice A3 (s.r 3).length c3)).setCell ⟨w.heap.size, 4, none⟩ (.slice A4 (s.r 4).length c4)).setCell ⟨w.heap.size, 5, none⟩ (.bool (s.f 5))).setCell ⟨w.heap.size, 6, none⟩ (.bool (s.f 6))).setCell ⟨w.heap.size, 7, none⟩ (.bool (s.f 7))).setCell ⟨w.heap.size, 8, none⟩ (.slice A8 (s.r 8).length c8)).setCell ⟨w.heap.size, 9, none⟩ (.bool (s.f 9)) = W at hf hbf hof ⊢
        clear e0 e1 e2 e3 e4 e5 e6 e7 e8 e9 f0 f1 f2 f3 f4 f5 f6 f7 f8 f9
        obtain ⟨e0, e1, e2, e3, e4, e5, e6, e7, e8, e9, f0, f1, f2, f3, f4, f5, f6, f7, f8, f9⟩ := ten hf
        (try simp only [Exit.inBlock, Exit.then])
        refine bodyPost_ret (by simp [results, Try.results13, go_sem, e0, e1, e2, e3, e4, e5, e6, e7, e8, e9, Result.andThen]; try rfl) rfl ?_
        refine ⟨V, by simp only [spO]; rw [hv0, hv1, hv2, hv3, hv4, hv8], fun i => ?_, hbf⟩
        refine Kd.R_mono (Kd.R_lower (Kd.R_step (Kd.R_bound (hS.rows i)) (fun k hk _ => hof k ?_)) hB2.size) (fun _ _ => trivial)
        have h1 := hk.2.1
        have h2 := blk_lt hz1
        have h3 := hb1.size
        have h4 := hb2.size
        omega
  · have hm : ofL LS l = (s00, (askedL l).1, (askedL l).2) := if_neg h0
    rw [hm]
    generalize (askedL l).1 = q1 at hask h0
    generalize (askedL l).2 = q2 at hask
    go_enter Try.func13, Try.ntmps13
    go_wp2_with fail
    refine hask.mono ?_
    rintro e w1 ⟨rfl, hb1⟩
    have hz1 : (w.alloc zeroO).heap[w.heap.size]? = some zeroO := heap_alloc_new w _
    have hz2 := (hb1.block _ (blk_lt hz1)).trans hz1
    obtain ⟨e0, e1, e2, e3, e4, e5, e6, e7, e8, e9, f0, f1, f2, f3, f4, f5, f6, f7, f8, f9⟩ := ten hz2
    go_wp2_with fail
    obtain ⟨hf, hbf, hof⟩ := fill10 hz2 (below_t hz0 hb1) (Nat.le_refl _) (.slice none 0 0) (.slice none 0 0) (.slice none 0 0) (.slice none 0 0) (.slice none 0 0) (.bool false) (.bool false) (.bool false) (.slice none 0 0) (.bool false)
    generalize (((((((((w1.setCell ⟨w.heap.size, 0, none⟩ (.slice none 0 0)).setCell ⟨w.heap.size, 1, none⟩ (.slice none 0 0)).setCell ⟨w.heap.size, 2, none⟩ (.slice none 0 0)).setCell ⟨w.heap.size, 3, none⟩ (.slice none 0 0)).setCell ⟨w.heap.size, 4, none⟩ (.slice none 0 0)).setCell ⟨w.heap.size, 5, none⟩ (.bool false)).setCell ⟨w.heap.size, 6, none⟩ (.bool false)).setCell ⟨w.heap.size, 7, none⟩ (.bool false)).setCell ⟨w.heap.size, 8, none⟩ (.slice none 0 0)).setCell ⟨w.heap.size, 9, none⟩ (.bool false) = W at hf hbf hof ⊢
    clear e0 e1 e2 e3 e4 e5 e6 e7 e8 e9 f0 f1 f2 f3 f4 f5 f6 f7 f8 f9
    obtain ⟨e0, e1, e2, e3, e4, e5, e6, e7, e8, e9, f0, f1, f2, f3, f4, f5, f6, f7, f8, f9⟩ := ten hf
    (try simp only [Exit.inBlock, Exit.then])
    refine bodyPost_ret (by simp [results, Try.results13, go_sem, e0, e1, e2, e3, e4, e5, e6, e7, e8, e9, Result.andThen]; try rfl) rfl ?_
    exact OfPost.zero hbf _ _
end Go.Proofs.Ytkbcfbelpjifnaa.Spec
