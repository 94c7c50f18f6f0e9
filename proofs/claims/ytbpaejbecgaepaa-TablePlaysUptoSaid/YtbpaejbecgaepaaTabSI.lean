/- The table's own functions, at one pair of types. -/
import Derived.WalkKit
import Derived.WalkMore
import Derived.OwnWalk
import Derived.Lib.OthersKept
import Derived.Lib.Overlaps
import Derived.Lib.Walk
import Derived.Lib.SliceRun
import Derived.Laws.MakeOwn
import Derived.Laws.OwnMore
import Derived.Laws.CopyOwn
import Derived.Maps.AppendAt
import Derived.Deep.LoopGhost
import Derived.Deep.CutBlock
import Derived.Deep.DeepCutAuto
import Derived.Deep.DeepMust
import Derived.Deep.RegionLaw
import Derived.Laws.Cover1
import Derived.Shelf.Abstract
import Derived.Test.YtbpaejbecgaepaaProg
namespace Go.Proofs.Ytbpaejbecgaepaa.TabSI
open Go Go.RowKit Go.Proofs
set_option linter.unusedVariables false
set_option linter.unusedSimpArgs false

/-- The rows as cells. -/
def cells (xs : List (ByteArray × Int)) : List Value := xs.flatMap fun x => [(Value.string x.1), (Value.int .i64 x.2)]
theorem cells_nil : cells [] = [] := rfl
theorem cells_cons (x : ByteArray × Int) (xs : List (ByteArray × Int)) : cells (x :: xs) = (Value.string x.1) :: (Value.int .i64 x.2) :: cells xs := by simp [cells]
theorem cells_append (a b : List (ByteArray × Int)) : cells (a ++ b) = cells a ++ cells b := by simp [cells]
theorem cells_len (xs : List (ByteArray × Int)) : (cells xs).length = xs.length * 2 := by
  induction xs with
  | nil => rfl
  | cons x xs ih => rw [cells_cons, List.length_cons, List.length_cons, List.length_cons, ih]; omega
theorem cells_at : ∀ (xs : List (ByteArray × Int)) (i : Nat) (x : ByteArray × Int), xs[i]? = some x → (cells xs)[i * 2]? = some (Value.string x.1) ∧ (cells xs)[i * 2 + 1]? = some (Value.int .i64 x.2)
  | [], i, x, h => by simp at h
  | y :: t, 0, x, h => by
    simp at h
    subst h
    simp [cells]
  | y :: t, i + 1, x, h => by
    have ih := cells_at t i x (by simpa using h)
    rw [cells_cons, show (i + 1) * 2 = i * 2 + 1 + 1 by omega, show i * 2 + 1 + 1 + 1 = (i * 2 + 1) + 1 + 1 by omega]
    simpa using ih

/-! ### comparing -/
def ltK (a b : ByteArray) : Bool := Op.bytesLess (a).toList (b).toList
def gtK (a b : ByteArray) : Bool := (!((a).toList == (b).toList))
def cmpK (a b : ByteArray) : Int := if ltK a b = true then -1 else if gtK a b = true then 1 else 0
set_option maxHeartbeats 1000000 in
theorem nan_calls (a : ByteArray) (w : World) : Calls Try.prog 79 #[(Value.string a)] w fun e w' => e = .returned (.bool false) ∧ w' = w := by
  go_enter Try.func79, Try.ntmps79
  go_wp2
  go_ret
  simp
set_option maxHeartbeats 1000000 in
theorem cmp_calls (a b : ByteArray) (w : World) : Calls Try.prog 70 #[(Value.string a), (Value.string b)] w fun e w' => e = .returned (.int .i64 (cmpK a b)) ∧ w' = w := by
  obtain ⟨c, hc⟩ : ∃ c, cmpK a b = c := ⟨_, rfl⟩
  rw [hc]
  by_cases h1 : ltK a b = true
  · have hc1 : c = -1 := by rw [← hc]; unfold cmpK; rw [if_pos h1]
    have d1 : Op.bytesLess (a).toList (b).toList = true := h1
    go_enter Try.func70, Try.ntmps70
    go_wp2_with fail
    refine (nan_calls a _).mono ?_
    rintro e w' ⟨rfl, rfl⟩
    go_wp2_with fail
    refine (nan_calls b _).mono ?_
    rintro e w' ⟨rfl, rfl⟩
    go_wp2
    go_ret
    exact ⟨by rw [hc1]; rfl, rfl⟩
  · have d1 : Op.bytesLess (a).toList (b).toList = false := Bool.eq_false_iff.2 h1
    by_cases h2 : gtK a b = true
    · have hc1 : c = 1 := by rw [← hc]; unfold cmpK; rw [if_neg h1, if_pos h2]
      have d2 : (!((a).toList == (b).toList)) = true := h2
      go_enter Try.func70, Try.ntmps70
      go_wp2_with fail
      refine (nan_calls a _).mono ?_
      rintro e w' ⟨rfl, rfl⟩
      go_wp2_with fail
      refine (nan_calls b _).mono ?_
      rintro e w' ⟨rfl, rfl⟩
      go_wp2
      go_ret
      exact ⟨by rw [hc1]; rfl, rfl⟩
    · have hc1 : c = 0 := by rw [← hc]; unfold cmpK; rw [if_neg h1, if_neg h2]
      have d2 : (!((a).toList == (b).toList)) = false := Bool.eq_false_iff.2 h2
      go_enter Try.func70, Try.ntmps70
      go_wp2_with fail
      refine (nan_calls a _).mono ?_
      rintro e w' ⟨rfl, rfl⟩
      go_wp2_with fail
      refine (nan_calls b _).mono ?_
      rintro e w' ⟨rfl, rfl⟩
      go_wp2
      go_ret
      exact ⟨by rw [hc1]; rfl, rfl⟩

/-! ### finding -/
set_option maxHeartbeats 1000000 in
theorem clo_calls (x : ByteArray × Int) (k : ByteArray) (w : World) : Calls Try.prog 69 #[.agg #[(Value.string x.1), (Value.int .i64 x.2)], (Value.string k)] w fun e w' => e = .returned (.int .i64 (cmpK x.1 k)) ∧ Below w.heap.size w w' := by
  go_enter Try.func69, Try.ntmps69
  go_wp2_with fail
  refine (cmp_calls x.1 k _).mono ?_
  rintro e w' ⟨rfl, rfl⟩
  go_wp2
  go_ret
  exact ⟨rfl, (Below.refl _ w).alloc (Nat.le_refl _) _⟩
/-- A place in a sorted row: all keys ahead of it are below k, none behind it is. -/
def Place (xs : List (ByteArray × Int)) (k : ByteArray) (r : Nat) : Prop := r ≤ xs.length ∧ ∀ i x, xs[i]? = some x → (ltK x.1 k = true ↔ i < r)
def hasAt (xs : List (ByteArray × Int)) (k : ByteArray) (r : Nat) : Bool := match xs[r]? with
  | some x => cmpK x.1 k == 0
  | none => false
theorem cmp_lt (a b : ByteArray) : decide (cmpK a b < 0) = ltK a b := by
  unfold cmpK
  cases h : ltK a b
  · rw [if_neg (by decide)]
    split <;> rfl
  · rw [if_pos rfl]; rfl
theorem own_form {w : World} {base size n : Nat} {e : TypeId} {v : Value} {cs : List Value} (h : w.ownsRow base e size v n cs) (hn : 0 < n) : ∃ g cap, v = .slice (some ⟨g, 0, none⟩) n cap ∧ g < w.heap.size ∧ n ≤ cap := by
  rcases h.2 with ⟨_, h0⟩ | ⟨g, cap, cur, hv, _, hb, hc, _⟩
  · omega
  · exact ⟨g, cap, hv, (Array.getElem?_eq_some_iff.1 hb).1, hc⟩
theorem own_slice {w : World} {base size n : Nat} {e : TypeId} {v : Value} {cs : List Value} (h : w.ownsRow base e size v n cs) : ∃ A c, v = .slice A n c := by
  rcases h.2 with ⟨hv, h0⟩ | ⟨g, cap, cur, hv, _⟩
  · exact ⟨none, 0, by rw [hv, h0]⟩
  · exact ⟨_, cap, hv⟩
abbrev Rows (w : World) (base : Nat) (v : Value) (xs : List (ByteArray × Int)) : Prop := w.ownsRow base 95 2 v xs.length (cells xs)
theorem own_below {w w' : World} {base size n : Nat} {e : TypeId} {v : Value} {cs : List Value} (h : w.ownsRow base e size v n cs) (hb : Below w.heap.size w w') : w'.ownsRow base e size v n cs := by
  refine ⟨h.1, h.2.imp id ?_⟩
  rintro ⟨g, cap, cur, hv, hg, hb2, rest⟩
  exact ⟨g, cap, cur, hv, hg, (hb.block g (Array.getElem?_eq_some_iff.1 hb2).1).trans hb2, rest⟩
theorem below_trans {w W w2 : World} (h : Below w.heap.size w W) (k : Below W.heap.size W w2) : Below w.heap.size w w2 :=
  h.trans ⟨k.os, k.tape, k.output, k.size, fun i hi => k.block i (Nat.lt_of_lt_of_le hi h.size)⟩
theorem rows_cell {w : World} {base g cap : Nat} {xs : List (ByteArray × Int)} (h : Rows w base (.slice (some ⟨g, 0, none⟩) xs.length cap) xs) {i : Nat} {x : ByteArray × Int} (hx : xs[i]? = some x) : w.cell? ⟨g, i * 2, none⟩ = some (Value.string x.1) ∧ w.cell? ⟨g, i * 2 + 1, none⟩ = some (Value.int .i64 x.2) := by
  have hi : i < xs.length := (List.getElem?_eq_some_iff.1 hx).1
  obtain ⟨h1, h2⟩ := cells_at xs i x hx
  exact ⟨(h.cellAt (i * 2) (by omega)).trans h1, (h.cellAt (i * 2 + 1) (by omega)).trans h2⟩
theorem cmp_neg {a b : ByteArray} : cmpK a b < 0 ↔ ltK a b = true := by
  rw [← cmp_lt]; simp
set_option maxHeartbeats 2000000 in
set_option maxRecDepth 100000 in
theorem search_calls (base : Nat) (v : Value) (xs : List (ByteArray × Int)) (k : ByteArray) (r : Nat) (w : World) (hR : Rows w base v xs) (hp : Place xs k r) (hl : xs.length ≤ 4611686018427387904) (hbase : base ≤ w.heap.size) :
    Calls Try.prog 68 #[v, (Value.string k), .func (.func 69) #[] #[]] w fun e w' => e = .returned (.tuple #[.int .i64 (r : Int), .bool (hasAt xs k r)]) ∧ Below w.heap.size w w' := by
  obtain ⟨A, c, rfl⟩ := own_slice hR
  have eg := enters_of Try.func69 (by kernel_rfl) rfl
  go_enter Try.func68, Try.ntmps68
  go_wp2
  go_loopw [9, 10] (fun a b wr => ∃ i j : Nat, a = .int .i64 (i : Int) ∧ b = .int .i64 (j : Int) ∧ i ≤ r ∧ r ≤ j ∧ j ≤ xs.length ∧ Below w.heap.size w wr) (fun a b wr => (intOf b - intOf a).toNat)
  case atStart => exact ⟨0, xs.length, rfl, rfl, Nat.zero_le _, hp.1, Nat.le_refl _, Below.refl _ w⟩
  case round =>
    obtain ⟨i, j, rfl, rfl, hir, hrj, hjn, hB⟩ := hrel
    by_cases hlt : i < j
    · have d1 : ((i : Int) < (j : Int)) := by omega
      obtain ⟨g, cap, hv, hg, hcap⟩ := own_form hR (by omega)
      cases hv
      obtain ⟨h, hh⟩ : ∃ h, (i + j) / 2 = h := ⟨_, rfl⟩
      obtain ⟨x, hx⟩ : ∃ x, xs[h]? = some x := ⟨_, List.getElem?_eq_getElem (by omega)⟩
      obtain ⟨hc0, hc1⟩ := rows_cell (own_below hR hB) hx
      have hpl := hp.2 h x hx
      go_wp2_with fail
      refine (clo_calls x k _).mono ?_
      rintro e w' ⟨rfl, hb⟩
      have hB' := below_trans hB hb
      by_cases hr : h < r
      · have d2 : cmpK x.1 k < 0 := cmp_neg.2 (hpl.2 hr)
        go_wp2
        go_roundw
        case rel => exact ⟨h + 1, j, by go_num, rfl, by omega, hrj, hjn, hB'⟩
        case measure => simp [intOf]; omega
      · have d2 : ¬ cmpK x.1 k < 0 := fun e => hr (hpl.1 (cmp_neg.1 e))
        go_wp2
        go_roundw
        case rel => exact ⟨i, h, rfl, by go_num, hir, by omega, by omega, hB'⟩
        case measure => simp [intOf]; omega
    · obtain rfl : i = r := by omega
      obtain rfl : j = i := by omega
      have d1 : ¬ ((j : Int) < (j : Int)) := by omega
      by_cases hin : j < xs.length
      · have d2 : ((j : Int) < (xs.length : Int)) := by omega
        obtain ⟨g, cap, hv, hg, hcap⟩ := own_form hR (by omega)
        cases hv
        obtain ⟨x, hx⟩ : ∃ x, xs[j]? = some x := ⟨_, List.getElem?_eq_getElem hin⟩
        obtain ⟨hc0, hc1⟩ := rows_cell (own_below hR hB) hx
        have hhas : hasAt xs k j = (cmpK x.1 k == 0) := by unfold hasAt; rw [hx]
        go_wp2_with fail
        refine (clo_calls x k _).mono ?_
        rintro e w' ⟨rfl, hb⟩
        have hB' := below_trans hB hb
        go_wp2
        go_ret2
        rw [hhas]
        exact ⟨rfl, hB'⟩
      · have d2 : ¬ ((j : Int) < (xs.length : Int)) := by omega
        have hhas : hasAt xs k j = false := by unfold hasAt; rw [List.getElem?_eq_none (by omega)]
        go_wp2
        go_ret2
        first | exact ⟨rfl, hB⟩ | (rw [hhas]; exact ⟨rfl, hB⟩)

/-- A table that lies in block b. -/
structure IsTab (w : World) (base b : Nat) (v : Value) (xs : List (ByteArray × Int)) : Prop where
  blk : w.heap[b]? = some (.cells #[v] 93 (0, 0))
  rows : Rows w base v xs
  apart : v.ownBlock ≠ some b
set_option maxHeartbeats 1000000 in
theorem find_calls (base b : Nat) (v : Value) (xs : List (ByteArray × Int)) (k : ByteArray) (r : Nat) (w : World) (hT : IsTab w base b v xs) (hp : Place xs k r) (hl : xs.length ≤ 4611686018427387904) (hbase : base ≤ w.heap.size) :
    Calls Try.prog 53 #[.pointer (some ⟨b, 0, none⟩), (Value.string k)] w fun e w' => e = .returned (.tuple #[.int .i64 (r : Int), .bool (hasAt xs k r)]) ∧ Below w.heap.size w w' := by
  have hc : w.cell? ⟨b, 0, none⟩ = some v := cell_of_row w b 0 _ _ _ hT.blk
  have hcall := fun W (hb : Below w.heap.size w W) => search_calls base v xs k r W (own_below hT.rows hb) hp hl (Nat.le_trans hbase hb.size)
  go_enter Try.func53, Try.ntmps53
  go_wp2_with fail
  refine (hcall _ (Below.refl _ w)).mono ?_
  rintro e w' ⟨rfl, hb⟩
  go_wp2
  go_ret2
  exact ⟨rfl, hb⟩
set_option maxHeartbeats 1000000 in
theorem find_nil (k : ByteArray) (w : World) : Calls Try.prog 53 #[.pointer none, (Value.string k)] w fun e w' => e = .returned (.tuple #[.int .i64 0, .bool false]) ∧ w' = w := by
  go_enter Try.func53, Try.ntmps53
  go_wp2
  go_ret2
  exact ⟨rfl, rfl⟩

/-! ### a struct's copy -/
theorem run_copy2 (w : World) (dT sT ty elem : TypeId) (g off dLen dCap : Nat) (ad : Addr) (sLen sCap size : Nat) (cur : Array Value) (t : TypeId) (cs : List Value)
    (hu : Try.prog.underlying dT = some (.slice elem)) (hs : (Try.prog.info? elem).map (·.size) = some size) (hg : w.heap[g]? = some (.cells cur t (0, 0))) (hn : cs.length = Nat.min sLen dLen * size)
    (hsrc : ∀ j v, cs[j]? = some v → w.cell? (ad.add j) = some v) (hfit : off + cs.length ≤ cur.size) (h1 : ∀ v ∈ cs, v.oneCell' = true) :
    (Builtin.copy_ #[dT, sT] ty #[.slice (some ⟨g, off, none⟩) dLen dCap, .slice (some ad) sLen sCap]).run Try.prog w = .ok (goInt (Nat.min sLen dLen)) (w.setRow g (cur.toList.take off ++ (cs ++ cur.toList.drop (off + cs.length))).toArray) := by
  have hl := run_loadCells_list (P := Try.prog) w ad cs hsrc
  have hst := run_storeCells_at (P := Try.prog) g off t cs 0 cur w hg (by simpa using hfit) h1
  simp only [Nat.add_zero] at hst
  cases hq : Try.prog.info? elem with
  | none => simp [hq] at hs
  | some i =>
    have hi : i.size = size := by simpa [hq] using hs
    simp [Builtin.copy_, run_underlying hu, Builtin.lenOf, Builtin.firstCells, sizeOf, typeInfo, hq, hi, ← hn, hl, hst]
end Go.Proofs.Ytbpaejbecgaepaa.TabSI
