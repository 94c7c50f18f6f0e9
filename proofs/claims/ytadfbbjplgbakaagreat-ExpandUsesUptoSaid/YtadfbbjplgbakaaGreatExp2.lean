/- expand.fit: a text that is too long is refused. -/
import Derived.Test.YtadfbbjplgbakaaGreatProg
import Derived.Test.YtadfbbjplgbakaaGreatWWords
import Derived.WalkKit
import Derived.WalkMore
import Derived.WalkSmall
import Derived.Handy
import Derived.Defers
import Derived.Recover
import Derived.Test.YtadfbbjplgbakaaGreatMacN
import Derived.Test.YtadfbbjplgbakaaGreatPXx0
import Derived.Test.YtadfbbjplgbakaaGreatPXx1
import Derived.Test.YtadfbbjplgbakaaGreatPXx2
import Derived.Lib.SliceRun
import Derived.Deep.LoopGhost
import Derived.Deep.DeepMust
import Derived.Deep.RegionHeld3
namespace Go.Proofs.YtadfbbjplgbakaaGreat.Exp
open Go Go.RowKit Go.Proofs Go.Proofs.YtadfbbjplgbakaaGreatW.PrintWords
set_option linter.unusedVariables false
set_option linter.unusedSimpArgs false

/-- How an expansion gives up. -/
abbrev bad (c : Int) : Ending := .panicked [{ v := .iface 69 (.agg #[.int .i64 c]), recovered := false }]
theorem fit_ok (n : Int) (hn : n ≤ 8192) (w : World) : Calls Tryz.prog 52 #[.int .i64 n] w fun e w' => (∃ v, e = .returned v) ∧ w' = w := by
  have d : ¬ (8192 : Int) < n := by omega
  go_enter Tryz.func52, Tryz.ntmps52
  go_wp2
  first | go_ret | go_end0
  exact ⟨⟨_, rfl⟩, rfl⟩
theorem fit_bad (n : Int) (hn : 8192 < n) (w : World) : Calls Tryz.prog 52 #[.int .i64 n] w fun e w' => e = bad 41 ∧ w' = w := by
  go_enter Tryz.func52, Tryz.ntmps52
  go_wp2
  exact ⟨rfl, rfl, rfl⟩
theorem below_t {w W w2 : World} (h : Below w.heap.size w W) (k : Below W.heap.size W w2) : Below w.heap.size w w2 :=
  h.trans ⟨k.os, k.tape, k.output, k.size, fun i hi => k.block i (Nat.lt_of_lt_of_le hi h.size)⟩
end Go.Proofs.YtadfbbjplgbakaaGreat.Exp
namespace Go.Proofs.YtadfbbjplgbakaaGreat.Exp
open Go Go.RowKit Go.Proofs Go.Proofs.YtadfbbjplgbakaaGreatW.PrintWords Go.Proofs.YtadfbbjplgbakaaGreat.PX
set_option linter.unusedVariables false
set_option linter.unusedSimpArgs false

abbrev Mac := S42
abbrev kM := k42
def zM : Mac := ⟨⟨#[]⟩, ⟨#[]⟩, 0⟩
theorem mac_at {w : World} {A : Option Addr} {l : List Mac} (h : kM.C w A l.length l) {i : Nat} {x : Mac} (hx : l[i]? = some x) : ∃ ad, A = some ad ∧ w.cell? (ad.add (i * 3)) = some (.string x.f0) ∧ w.cell? ⟨(ad.add (i * 3)).block, (ad.add (i * 3)).off + 1, none⟩ = some (.string x.f1) ∧ w.cell? ⟨(ad.add (i * 3)).block, (ad.add (i * 3)).off + 2, none⟩ = some (.int .i64 x.f2) := by
  have hi := (List.getElem?_eq_some_iff.1 hx).1
  obtain ⟨ad, e, h0, h1, h2⟩ := at_T42 h (i : Int) (by omega) (by omega)
  have hr : rd_T42 l (i : Int) = x := by
    unfold rd_T42
    rw [Int.toNat_natCast, List.getD_eq_getElem?_getD, hx]
    rfl
  rw [hr, Int.toNat_natCast] at h0 h1 h2
  exact ⟨ad, e, h0, h1, h2⟩
def cmpS (a b : ByteArray) : Int := Lib.compareBytes a.data.toList b.data.toList
theorem byName (x y : Mac) (w : World) : Calls Tryz.prog 22 #[.agg #[.string x.f0, .string x.f1, .int .i64 x.f2], .agg #[.string y.f0, .string y.f1, .int .i64 y.f2]] w fun e w' => e = .returned (.int .i64 (cmpS x.f0 y.f0)) ∧ Below w.heap.size w w' :=
  macro_byName.calls _ _ _ _ _ _ _ w rfl
/-- The search: n rounds at most between i and j. -/
def mbs (l : List Mac) (x : ByteArray) : Nat → Nat → Nat → Nat
  | 0, i, _ => i
  | n + 1, i, j => if i < j then (if cmpS (l.getD ((i + j) / 2) zM).f0 x < 0 then mbs l x n ((i + j) / 2 + 1) j else mbs l x n i ((i + j) / 2)) else i
theorem mbs_end (l : List Mac) (x : ByteArray) (n i : Nat) : mbs l x n i i = i := by
  cases n with
  | zero => rfl
  | succ n => rw [mbs, if_neg (Nat.lt_irrefl i)]
def mAt (l : List Mac) (x : ByteArray) : Nat := mbs l x l.length 0 l.length
def mHas (l : List Mac) (x : ByteArray) : Bool := decide (mAt l x < l.length ∧ cmpS (l.getD (mAt l x) zM).f0 x = 0)
set_option maxHeartbeats 4000000 in
set_option maxRecDepth 100000 in
theorem msearch (A : Option Addr) (c : Nat) (l : List Mac) (x : ByteArray) (w : World) (hr : kM.C w A l.length l) (hl : l.length ≤ 4611686018427387904) :
    Calls Tryz.prog 59 #[.slice A l.length c, .agg #[.string x, .string ⟨#[]⟩, .int .i64 0], .func (.func 22) #[] #[]] w
      fun e w' => e = .returned (.tuple #[.int .i64 (mAt l x : Int), .bool (mHas l x)]) ∧ mAt l x ≤ l.length ∧ Below w.heap.size w w' := by
  obtain ⟨R, hR⟩ : ∃ R, mAt l x = R := ⟨_, rfl⟩
  have hH : Hid (mHas l x = decide (R < l.length ∧ cmpS (l.getD R zM).f0 x = 0)) := by unfold mHas; rw [hR]; rfl
  rw [hR]
  generalize mHas l x = q at hH
  have hR0 : mbs l x l.length 0 l.length = R := hR
  clear hR
  have eg := enters_of Tryz.func22 (by kernel_rfl) rfl
  go_enter Tryz.func59, Tryz.ntmps59
  go_wp2
  obtain ⟨B, hB⟩ : ∃ B, B = w.heap.size := ⟨_, rfl⟩
  have hbx : (w.alloc (.cells #[.string x, .string (⟨#[]⟩ : ByteArray), .int .i64 0] 42)).heap[B]? = some (.cells #[.string x, .string (⟨#[]⟩ : ByteArray), .int .i64 0] 42 (0, 0)) := by rw [hB]; exact heap_alloc_new w _
  have hb1 : Below w.heap.size w (w.alloc (.cells #[.string x, .string (⟨#[]⟩ : ByteArray), .int .i64 0] 42)) := below_alloc (Below.refl _ _) _
  rw [← hB]
  generalize (w.alloc (.cells #[.string x, .string (⟨#[]⟩ : ByteArray), .int .i64 0] 42)) = w1 at hbx hb1 ⊢
  clear hB
  go_loopw [9, 10] (fun a b wr => ∃ i j n : Nat, a = .int .i64 (i : Int) ∧ b = .int .i64 (j : Int) ∧ i ≤ j ∧ j ≤ l.length ∧ j - i ≤ n ∧ mbs l x n i j = R ∧ Below w1.heap.size w1 wr) (fun a b wr => (intOf b - intOf a).toNat)
  case atStart => exact ⟨0, l.length, l.length, rfl, rfl, Nat.zero_le _, Nat.le_refl _, Nat.le_refl _, hR0, Below.refl _ _⟩
  case round =>
    obtain ⟨i, j, n, rfl, rfl, hij, hjl, hn, hb, hwr⟩ := hrel
    have hrB := Kd.C_below hr (below_t hb1 hwr)
    have hbw := (hwr.block B (blk_lt hbx)).trans hbx
    have t0 : wr.cell? ⟨B, 0, none⟩ = some (.string x) := cell_of_row wr B 0 _ _ _ hbw
    have t1 : wr.cell? ⟨B, 1, none⟩ = some (.string (⟨#[]⟩ : ByteArray)) := cell_of_row wr B 1 _ _ _ hbw
    have t2 : wr.cell? ⟨B, 2, none⟩ = some (.int .i64 0) := cell_of_row wr B 2 _ _ _ hbw
    clear hR0
    by_cases hlt : i < j
    · have d1 : ((i : Int) < (j : Int)) := by omega
      obtain ⟨m, rfl⟩ : ∃ m, n = m + 1 := ⟨n - 1, by omega⟩
      rw [mbs, if_pos hlt] at hb
      obtain ⟨h, hh⟩ : ∃ h, (i + j) / 2 = h := ⟨_, rfl⟩
      rw [hh] at hb
      obtain ⟨y, hy⟩ : ∃ y, l[h]? = some y := ⟨_, List.getElem?_eq_getElem (by omega)⟩
      rw [List.getD_eq_getElem?_getD, hy, Option.getD_some] at hb
      obtain ⟨ad, rfl, hc0, hc1, hc2⟩ := mac_at hrB hy
      have hlc := fun W => byName y ⟨x, ⟨#[]⟩, 0⟩ W
      have d2 : ((h : Int) < (l.length : Int)) := by omega
      have d3 : (0 : Int) ≤ (h : Int) := by omega
      have hI : ((i : Int) + (j : Int)) / 2 = (h : Int) := by omega
      go_wp2_with fail
      clear hI
      have keep : ∀ W, Below wr.heap.size wr W → W.cell? ⟨B, 0, none⟩ = some (.string x) ∧ W.cell? ⟨B, 1, none⟩ = some (.string (⟨#[]⟩ : ByteArray)) ∧ W.cell? ⟨B, 2, none⟩ = some (.int .i64 0) ∧ W.cell? (ad.add (h * 3)) = some (.string y.f0) ∧ W.cell? ⟨(ad.add (h * 3)).block, (ad.add (h * 3)).off + 1, none⟩ = some (.string y.f1) ∧ W.cell? ⟨(ad.add (h * 3)).block, (ad.add (h * 3)).off + 2, none⟩ = some (.int .i64 y.f2) := fun W h => ⟨pw_cell_below h t0, pw_cell_below h t1, pw_cell_below h t2, pw_cell_below h hc0, pw_cell_below h hc1, pw_cell_below h hc2⟩
      have hxd : Below wr.heap.size wr wr.drew := below_drew (Below.refl _ _)
      go_region_held3 (fun W' => W'.cell? ⟨B, 0, none⟩ = some (.string x) ∧ W'.cell? ⟨B, 1, none⟩ = some (.string (⟨#[]⟩ : ByteArray)) ∧ W'.cell? ⟨B, 2, none⟩ = some (.int .i64 0) ∧ W'.cell? (ad.add (h * 3)) = some (.string y.f0) ∧ W'.cell? ⟨(ad.add (h * 3)).block, (ad.add (h * 3)).off + 1, none⟩ = some (.string y.f1) ∧ W'.cell? ⟨(ad.add (h * 3)).block, (ad.add (h * 3)).off + 2, none⟩ = some (.int .i64 y.f2)) (first | exact keep _ hxd | exact keep _ hx3) ((first | (go_at_call 22; refine (hlc _).mono ?_; rintro e w3 ⟨rfl, hb3⟩; have hx3 := below_t hxd hb3)))
      have hw3 := below_t hwr hx3
      by_cases hs : cmpS y.f0 x < 0
      · rw [if_pos hs] at hb
        clear hlc
        go_wp2
        go_roundw
        case rel => exact ⟨h + 1, j, m, by go_num, rfl, by omega, hjl, by omega, hb, hw3⟩
        case measure => simp [intOf]; omega
      · rw [if_neg hs] at hb
        clear hlc
        go_wp2
        go_roundw
        case rel => exact ⟨i, h, m, rfl, by go_num, by omega, by omega, by omega, hb, hw3⟩
        case measure => simp [intOf]; omega
    · obtain rfl : j = i := by omega
      rw [mbs_end] at hb
      subst hb
      have d1 : ¬ ((j : Int) < (j : Int)) := by omega
      by_cases hin : j < l.length
      · have d2 : ((j : Int) < (l.length : Int)) := by omega
        have d3 : (0 : Int) ≤ (j : Int) := by omega
        obtain ⟨y, hy⟩ : ∃ y, l[j]? = some y := ⟨_, List.getElem?_eq_getElem hin⟩
        obtain ⟨ad, rfl, hc0, hc1, hc2⟩ := mac_at hrB hy
        have hlc := fun W => byName y ⟨x, ⟨#[]⟩, 0⟩ W
        have hq : q = decide (cmpS y.f0 x = 0) := by
          have := hH.out
          rw [List.getD_eq_getElem?_getD, hy, Option.getD_some] at this
          rw [this]
          simp [hin]
        clear hH
        have e2 : decide ((j : Int) < (l.length : Int)) = true := decide_eq_true d2
        go_wp2_with fail
        have keep : ∀ W, Below wr.heap.size wr W → W.cell? ⟨B, 0, none⟩ = some (.string x) ∧ W.cell? ⟨B, 1, none⟩ = some (.string (⟨#[]⟩ : ByteArray)) ∧ W.cell? ⟨B, 2, none⟩ = some (.int .i64 0) ∧ W.cell? (ad.add (j * 3)) = some (.string y.f0) ∧ W.cell? ⟨(ad.add (j * 3)).block, (ad.add (j * 3)).off + 1, none⟩ = some (.string y.f1) ∧ W.cell? ⟨(ad.add (j * 3)).block, (ad.add (j * 3)).off + 2, none⟩ = some (.int .i64 y.f2) := fun W h => ⟨pw_cell_below h t0, pw_cell_below h t1, pw_cell_below h t2, pw_cell_below h hc0, pw_cell_below h hc1, pw_cell_below h hc2⟩
        have hxd : Below wr.heap.size wr wr.drew := below_drew (Below.refl _ _)
        go_region_held3 (fun W' => W'.cell? ⟨B, 0, none⟩ = some (.string x) ∧ W'.cell? ⟨B, 1, none⟩ = some (.string (⟨#[]⟩ : ByteArray)) ∧ W'.cell? ⟨B, 2, none⟩ = some (.int .i64 0) ∧ W'.cell? (ad.add (j * 3)) = some (.string y.f0) ∧ W'.cell? ⟨(ad.add (j * 3)).block, (ad.add (j * 3)).off + 1, none⟩ = some (.string y.f1) ∧ W'.cell? ⟨(ad.add (j * 3)).block, (ad.add (j * 3)).off + 2, none⟩ = some (.int .i64 y.f2)) (first | exact keep _ hxd | exact keep _ hx3) ((first | (go_at_call 22; refine (hlc _).mono ?_; rintro e w3 ⟨rfl, hb3⟩; have hx3 := below_t hxd hb3)))
        have hw3 := below_t hb1 (below_t hwr hx3)
        clear hlc
        subst hq
        go_wp2
        go_ret2
        exact ⟨rfl, hjl, hw3⟩
      · have d2 : ¬ ((j : Int) < (l.length : Int)) := by omega
        have e2 : decide ((j : Int) < (l.length : Int)) = false := decide_eq_false d2
        have hq : q = false := by
          rw [hH.out]
          simp [hin]
        subst hq
        go_wp2_with fail
        go_quiet (fail)
        go_wp2
        go_ret2
        exact ⟨rfl, hjl, below_t hb1 (by first | exact hwr | exact below_drew hwr | exact pw_below_drewN hwr _)⟩
set_option maxHeartbeats 1000000 in
theorem find_calls (A : Option Addr) (c : Nat) (l : List Mac) (x : ByteArray) (w : World) (hr : kM.C w A l.length l) (hl : l.length ≤ 4611686018427387904) :
    Calls Tryz.prog 38 #[.slice A l.length c, .string x] w
      fun e w' => e = .returned (.tuple #[.int .i64 (mAt l x : Int), .bool (mHas l x)]) ∧ mAt l x ≤ l.length ∧ Below w.heap.size w w' := by
  have h := msearch A c l x w hr hl
  generalize mAt l x = a at h ⊢
  generalize mHas l x = q at h ⊢
  go_enter Tryz.func38, Tryz.ntmps38
  go_wp2_with fail
  refine h.mono ?_
  rintro e w1 ⟨rfl, ha, hb⟩
  go_wp2
  go_ret2
  exact ⟨rfl, ha, hb⟩
theorem three {w : World} {g : Nat} {c0 c1 c2 : Value} {t : TypeId} (h : w.heap[g]? = some (.cells #[c0, c1, c2] t (0, 0))) :
    w.cell? ⟨g, 0, none⟩ = some c0 ∧ w.cell? ⟨g, 1, none⟩ = some c1 ∧ w.cell? ⟨g, 2, none⟩ = some c2 ∧ w.frozen? ⟨g, 0, none⟩ = false ∧ w.frozen? ⟨g, 1, none⟩ = false ∧ w.frozen? ⟨g, 2, none⟩ = false :=
  ⟨cell_of_row w g 0 _ _ _ h, cell_of_row w g 1 _ _ _ h, cell_of_row w g 2 _ _ _ h, frozen_of_row w g 0 _ _ h, frozen_of_row w g 1 _ _ h, frozen_of_row w g 2 _ _ h⟩
theorem fill3 {w w0 : World} {g B : Nat} {c0 c1 c2 : Value} {t : TypeId} (h : w.heap[g]? = some (.cells #[c0, c1, c2] t (0, 0))) (hb : Below B w0 w) (hg : B ≤ g) (v0 v1 v2 : Value) :
    (((w.setCell ⟨g, 0, none⟩ v0).setCell ⟨g, 1, none⟩ v1).setCell ⟨g, 2, none⟩ v2).heap[g]? = some (.cells #[v0, v1, v2] t (0, 0)) ∧ Below B w0 (((w.setCell ⟨g, 0, none⟩ v0).setCell ⟨g, 1, none⟩ v1).setCell ⟨g, 2, none⟩ v2) := by
  have k := fun (W : World) (cs : Array Value) (i : Nat) (u : Value) (hh : W.heap[g]? = some (.cells cs t (0, 0))) => heap_setCell_same W g i cs t u hh
  have h0 : (w.setCell ⟨g, 0, none⟩ v0).heap[g]? = some (.cells #[v0, c1, c2] t (0, 0)) := k _ _ 0 v0 h
  have h1 : ((w.setCell ⟨g, 0, none⟩ v0).setCell ⟨g, 1, none⟩ v1).heap[g]? = some (.cells #[v0, v1, c2] t (0, 0)) := k _ _ 1 v1 h0
  have h2 : (((w.setCell ⟨g, 0, none⟩ v0).setCell ⟨g, 1, none⟩ v1).setCell ⟨g, 2, none⟩ v2).heap[g]? = some (.cells #[v0, v1, v2] t (0, 0)) := k _ _ 2 v2 h1
  exact ⟨h2, ((hb.setCell (p := ⟨g, 0, none⟩) hg v0).setCell (p := ⟨g, 1, none⟩) hg v1).setCell (p := ⟨g, 2, none⟩) hg v2⟩
/-- The value of a macro; empty: there is none of that name. -/
def valM (l : List Mac) (x : ByteArray) : ByteArray := if macro_Name.f x = some true then (if mHas l x = true then (l.getD (mAt l x) zM).f1 else ⟨#[]⟩) else ⟨#[]⟩
/-- What Look tells of a value. -/
def LookP (v : ByteArray) (w : World) (e : Ending) (w' : World) : Prop :=
  (∃ n lv q ec, e = .returned (.tuple #[.agg #[.string n, .string v, .int .i64 lv], .bool q, .int .i64 ec]) ∧ (q = false → v = ⟨#[]⟩)) ∧ Below w.heap.size w w'
set_option maxHeartbeats 4000000 in
set_option maxRecDepth 100000 in
theorem look_calls2 (k : Nat) (A : Option Addr) (c : Nat) (l : List Mac) (x : ByteArray) (b : Bool) (w : World) (hr : kM.C w A l.length l) (hc : l.length ≤ c) (hl : l.length ≤ 4611686018427387904) (hck : macro_Check.f k l = some 0) (hx : macro_Name.f x = some b) :
    Calls Tryz.prog 24 #[.slice A l.length c, .string x] w
      (LookP (valM l x) w) := by
  have h1 := fun W hW => macro_Check.calls k A c l 0 W (Kd.C_below hr hW) hc hck
  have h2 := fun W => macro_Name.calls x b W hx
  have h3 := fun W hW => find_calls A c l x W (Kd.C_below hr hW) hl
  have hv : Hid (valM l x = if macro_Name.f x = some true then (if mHas l x = true then (l.getD (mAt l x) zM).f1 else ⟨#[]⟩) else ⟨#[]⟩) := rfl
  have hm : Hid (mHas l x = true → mAt l x < l.length) := fun h => by unfold mHas at h; exact (of_decide_eq_true h).1
  generalize valM l x = v at hv ⊢
  generalize mHas l x = q at hv hm h3
  generalize mAt l x = i at hv hm h3
  clear hck
  obtain ⟨B, hB⟩ : ∃ B, B = w.heap.size := ⟨_, rfl⟩
  obtain ⟨W1, hW1⟩ : ∃ W1, W1 = w.alloc (.cells #[.string (⟨#[]⟩ : ByteArray), .string (⟨#[]⟩ : ByteArray), .int .i64 0] 42) := ⟨_, rfl⟩
  have hbx : W1.heap[B]? = some (.cells #[.string (⟨#[]⟩ : ByteArray), .string (⟨#[]⟩ : ByteArray), .int .i64 0] 42 (0, 0)) := by rw [hB, hW1]; exact heap_alloc_new w _
  have hb1 : Below w.heap.size w W1 := by rw [hW1]; exact below_alloc (Below.refl _ _) _
  have hwB : w.heap.size ≤ B := by omega
  go_enter Tryz.func24, Tryz.ntmps24
  go_wp2_with fail
  rw [← hW1, ← hB]
  clear hW1 hB
  refine (h1 _ hb1).mono ?_
  rintro e w2 ⟨rfl, hb2⟩
  have hb3 := below_t hb1 hb2
  have hbx2 := (hb2.block B (blk_lt hbx)).trans hbx
  go_wp2_with fail
  refine (h2 _).mono ?_
  rintro e w3 ⟨rfl, hb3'⟩
  have hb4 := below_t hb3 hb3'
  have hbx3 := (hb3'.block B (blk_lt hbx2)).trans hbx2
  cases b with
  | false =>
    have hv0 : v = ⟨#[]⟩ := by rw [hv.out, hx]; rfl
    subst hv0
    clear hv hx
    obtain ⟨r0, r1, r2, q0, q1, q2⟩ := three hbx3
    go_wp2_with fail
    obtain ⟨hf, hbf⟩ := fill3 hbx3 hb4 hwB (.string (⟨#[]⟩ : ByteArray)) (.string (⟨#[]⟩ : ByteArray)) (.int .i64 0)
    generalize ((w3.setCell ⟨B, 0, none⟩ (.string (⟨#[]⟩ : ByteArray))).setCell ⟨B, 1, none⟩ (.string (⟨#[]⟩ : ByteArray))).setCell ⟨B, 2, none⟩ (.int .i64 0) = WF at hf hbf ⊢
    clear r0 r1 r2 q0 q1 q2
    obtain ⟨r0, r1, r2, q0, q1, q2⟩ := three hf
    (try simp only [Exit.inBlock, Exit.then])
    refine bodyPost_ret (by simp [results, Tryz.results24, go_sem, r0, r1, r2, Result.andThen]; try rfl) rfl ?_
    exact ⟨⟨_, _, _, _, rfl, fun _ => rfl⟩, hbf⟩
  | true =>
    go_wp2_with fail
    refine (h3 _ hb4).mono ?_
    rintro e w5 ⟨rfl, hi, hb5⟩
    have hb6 := below_t hb4 hb5
    have hbx4 := (hb5.block B (blk_lt hbx3)).trans hbx3
    obtain ⟨r0, r1, r2, q0, q1, q2⟩ := three hbx4
    cases q with
    | false =>
      have hv0 : v = ⟨#[]⟩ := by rw [hv.out, hx]; rfl
      subst hv0
      clear hv hx
      go_wp2_with fail
      obtain ⟨hf, hbf⟩ := fill3 hbx4 hb6 hwB (.string (⟨#[]⟩ : ByteArray)) (.string (⟨#[]⟩ : ByteArray)) (.int .i64 0)
      generalize ((w5.setCell ⟨B, 0, none⟩ (.string (⟨#[]⟩ : ByteArray))).setCell ⟨B, 1, none⟩ (.string (⟨#[]⟩ : ByteArray))).setCell ⟨B, 2, none⟩ (.int .i64 0) = WF at hf hbf ⊢
      clear r0 r1 r2 q0 q1 q2
      obtain ⟨r0, r1, r2, q0, q1, q2⟩ := three hf
      (try simp only [Exit.inBlock, Exit.then])
      refine bodyPost_ret (by simp [results, Tryz.results24, go_sem, r0, r1, r2, Result.andThen]; try rfl) rfl ?_
      exact ⟨⟨_, _, _, _, rfl, fun _ => rfl⟩, hbf⟩
    | true =>
      have hlt := hm.out rfl
      obtain ⟨y, hy⟩ : ∃ y, l[i]? = some y := ⟨_, List.getElem?_eq_getElem hlt⟩
      have hv0 : v = y.f1 := by
        rw [hv.out, hx, if_pos rfl, if_pos rfl, List.getD_eq_getElem?_getD, hy, Option.getD_some]
      subst hv0
      clear hv hx hm
      obtain ⟨ad, rfl, hc0, hc1, hc2⟩ := mac_at (Kd.C_below hr hb6) hy
      have d1 : ((i : Int) < (l.length : Int)) := by omega
      have d3 : (0 : Int) ≤ (i : Int) := by omega
      go_wp2_with fail
      obtain ⟨hf, hbf⟩ := fill3 hbx4 hb6 hwB (.string y.f0) (.string y.f1) (.int .i64 y.f2)
      generalize ((w5.setCell ⟨B, 0, none⟩ (.string y.f0)).setCell ⟨B, 1, none⟩ (.string y.f1)).setCell ⟨B, 2, none⟩ (.int .i64 y.f2) = WF at hf hbf ⊢
      clear r0 r1 r2 q0 q1 q2
      obtain ⟨r0, r1, r2, q0, q1, q2⟩ := three hf
      (try simp only [Exit.inBlock, Exit.then])
      refine bodyPost_ret (by simp [results, Tryz.results24, go_sem, r0, r1, r2, Result.andThen]; try rfl) rfl ?_
      exact ⟨⟨_, _, _, _, rfl, fun h => by cases h⟩, hbf⟩
theorem look_calls (k : Nat) (A : Option Addr) (c : Nat) (l : List Mac) (x : ByteArray) (b : Bool) (w : World) (hr : kM.C w A l.length l) (hc : l.length ≤ c) (hl : l.length ≤ 4611686018427387904) (hck : macro_Check.f k l = some 0) (hx : macro_Name.f x = some b) :
    Calls Tryz.prog 24 #[.slice A l.length c, .string x] w
      fun e w' => (∃ n lv q ec, e = .returned (.tuple #[.agg #[.string n, .string (valM l x), .int .i64 lv], .bool q, .int .i64 ec])) ∧ Below w.heap.size w w' :=
  (look_calls2 k A c l x b w hr hc hl hck hx).mono fun e w' ⟨⟨n, lv, q, ec, he, _⟩, hb⟩ => ⟨⟨n, lv, q, ec, he⟩, hb⟩
end Go.Proofs.YtadfbbjplgbakaaGreat.Exp
