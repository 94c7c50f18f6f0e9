/- same(): has a table just these pairs? -/
import Derived.Test.YtbpaejbecgaepaaDuo
import Derived.Deep.RegionWith
namespace Go.Proofs.Ytbpaejbecgaepaa.TabIS
open Go Go.RowKit Go.Proofs Go.BigFrame
set_option linter.unusedVariables false
set_option linter.unusedSimpArgs false

set_option maxHeartbeats 4000000 in
set_option maxRecDepth 100000 in
theorem keys_fn (n1 n2 : Nat) (v1 v2 : Value) (xs : Prs) (w : World) (h1 : w.ownsRow n1 3 1 v1 xs.length (xs.map fun x => .int .i64 x.1)) (h2 : RRows w n2 v2 xs) (hl : xs.length ≤ 1099511627776) :
    Calls Try.prog 51 #[v1, v2] w fun e w' => e = .returned (.bool true) ∧ Below w.heap.size w w' := by
  obtain ⟨A1, c1, rfl⟩ := own_slice h1
  obtain ⟨A2, c2, rfl⟩ := own_slice h2
  have mixed : Try.prog.follows Departure.mixedOrders = true := by kernel_rfl
  go_enter Try.func51, Try.ntmps51
  go_wp2_with fail
  go_loopw [13] (fun i wr => ∃ k : Nat, i = .int .i64 (k : Int) ∧ k ≤ xs.length ∧ Below w.heap.size w wr) (fun i _ => xs.length - (intOf i).toNat)
  case atStart => exact ⟨0, rfl, Nat.zero_le _, Below.refl _ _⟩
  case round =>
    obtain ⟨k, rfl, hk, hB⟩ := hrel
    by_cases hlt : k < xs.length
    · have d1 : (k : Int) < (xs.length : Int) := by omega
      have d2 : (0 : Int) ≤ (k : Int) := by omega
      obtain ⟨x, hx⟩ : ∃ x, xs[k]? = some x := ⟨_, List.getElem?_eq_getElem hlt⟩
      obtain ⟨g1, p1, e1, _, _⟩ := own_form h1 (by omega)
      cases e1
      obtain ⟨g2, p2, e2, _, _⟩ := own_form h2 (by omega)
      cases e2
      have hq1 := own_below h1 hB
      have hq2 := own_below h2 hB
      have hk1 : wr.cell? ⟨g1, k, none⟩ = some (.int .i64 x.1) := (hq1.cellAt k (by omega)).trans (by rw [List.getElem?_map, hx]; rfl)
      obtain ⟨hk2, hk3⟩ := rrows_cell hq2 hx
      go_wp2_with fail
      repeat (go_quiet (fail); try go_wp2)
      go_roundw
      case rel => exact ⟨k + 1, by go_num, by omega, below_trans hB ⟨rfl, rfl, rfl, Nat.le_refl _, fun _ _ => rfl⟩⟩
      case measure => simp [intOf]; omega
    · obtain rfl : k = xs.length := by omega
      have d1 : ¬ ((xs.length : Int) < (xs.length : Int)) := by omega
      go_wp2
      go_ret
      exact ⟨rfl, hB⟩
set_option maxHeartbeats 8000000 in
set_option maxRecDepth 100000 in
theorem same_fn (n0 n1 a : Nat) (va : Value) (b : Nat) (vb : Value) (xs : Prs) (w : World) (hT : IsTab w n0 a va xs) (hU : IsRef w n1 b vb xs) (hs : Srt xs) (hl : xs.length ≤ 1099511627776) (h0 : n0 ≤ w.heap.size) :
    Calls Try.prog 34 #[.pointer (some ⟨a, 0, none⟩), .pointer (some ⟨b, 0, none⟩)] w fun e w' => e = .returned (.bool true) ∧ Below w.heap.size w w' := by
  have mixed : Try.prog.follows Departure.mixedOrders = true := by kernel_rfl
  obtain ⟨A2, c2, rfl⟩ := own_slice hU.rows
  have hd : Below w.heap.size w w.drew := ⟨rfl, rfl, rfl, Nat.le_refl _, fun _ _ => rfl⟩
  have hlen := fun W (hB : Below w.heap.size w W) => len_calls n0 a va xs W (hT.below hB)
  have hkeys := fun W (hB : Below w.heap.size w W) => keys_calls n0 a va xs W (hT.below hB) hl
  have hcell := fun W (hB : Below w.heap.size w W) => cell_of_row W b 0 _ _ _ (hU.below hB).blk
  have hc0 := hcell w (Below.refl _ _)
  go_enter Try.func34, Try.ntmps34
  go_wp2_with fail
  go_region_with (first
    | (go_at_call 33; refine (hlen _ hd).mono ?_; rintro e w1 ⟨rfl, rfl⟩)
    | (go_at_call 37; refine (hkeys _ hd).mono ?_; rintro e w2 ⟨vk, rfl, hRk, hbk'⟩; have hbk := below_trans hd hbk'; have hck := hcell w2 hbk; obtain ⟨Ak, ck, rfl⟩ := own_slice hRk)
    | (go_at_call 51; refine (keys_fn _ n1 _ _ xs w2 hRk (hU.below hbk).rows hl).mono ?_; rintro e w3 ⟨rfl, hb3'⟩; have hb3 := below_trans hbk hb3'; have hc3 := hcell w3 hb3))
  all_goals (
    have hT3 := hT.below hb3
    have hU3 := hU.below hb3
    go_wp2_with fail
    go_loopw [35] (fun i wr => ∃ k : Nat, i = .int .i64 (k : Int) ∧ k ≤ xs.length ∧ Below w3.heap.size w3 wr) (fun i _ => xs.length - (intOf i).toNat)
    case atStart => exact ⟨0, rfl, Nat.zero_le _, Below.refl _ _⟩
    case round =>
      obtain ⟨k, rfl, hk, hB⟩ := hrel
      by_cases hlt : k < xs.length
      · have d1 : (k : Int) < (xs.length : Int) := by omega
        have d2 : (0 : Int) ≤ (k : Int) := by omega
        obtain ⟨x, hx⟩ : ∃ x, xs[k]? = some x := ⟨_, List.getElem?_eq_getElem hlt⟩
        obtain ⟨g2, p2, e2, _, _⟩ := own_form hU.rows (by omega)
        cases e2
        have hT4 := hT3.below hB
        have hU4 := hU3.below hB
        obtain ⟨hk2, hk3⟩ := rrows_cell hU4.rows hx
        obtain ⟨W4, hW4⟩ : ∃ W4, wr.alloc (.cells #[.int .i64 x.1, .string x.2] 48) = W4 := ⟨_, rfl⟩
        have hb4 : Below wr.heap.size wr W4 := hW4 ▸ (Below.refl _ wr).alloc (Nat.le_refl _) _
        have hx0 : W4.cell? ⟨wr.heap.size, 0, none⟩ = some (.int .i64 x.1) := hW4 ▸ World.cell?_alloc_at (w := wr) #[.int .i64 x.1, .string x.2] _ wr.heap.size 0 rfl
        have hx1 : W4.cell? ⟨wr.heap.size, 1, none⟩ = some (.string x.2) := hW4 ▸ World.cell?_alloc_at (w := wr) #[.int .i64 x.1, .string x.2] _ wr.heap.size 1 rfl
        have hat := at_calls n0 a va xs k x W4 (hT4.below hb4) hx hl
        go_wp2_with fail
        refine hat.mono ?_
        rintro e w5 ⟨rfl, q, rfl⟩
        have hb5 : Below wr.heap.size wr (W4.drewN q) := below_trans hb4 ⟨rfl, rfl, rfl, Nat.le_refl _, fun _ _ => rfl⟩
        have hplx := place_own hs hx
        have hget := get_calls n0 a va xs x.1 k _ (hT4.below hb5) hplx hl (Nat.le_trans h0 (below_trans (below_trans hb3 hB) hb5).size)
        rw [get_own hx] at hget
        go_wp2_with fail
        refine hget.mono ?_
        rintro e w6 ⟨rfl, hb6⟩
        have hb6' := below_trans hb5 hb6
        have hrank := rank_calls n0 a va xs x.1 k _ (hT4.below hb6') hplx hl (Nat.le_trans h0 (below_trans (below_trans hb3 hB) hb6').size)
        have hy0 : w6.cell? ⟨wr.heap.size, 0, none⟩ = some (.int .i64 x.1) := (hb6.cell (World.block_lt_of_cell? _ _ hx0)).trans hx0
        have hy1 : w6.cell? ⟨wr.heap.size, 1, none⟩ = some (.string x.2) := (hb6.cell (World.block_lt_of_cell? _ _ hx1)).trans hx1
        go_wp2_with fail
        refine hrank.mono ?_
        rintro e w7 ⟨rfl, hb7⟩
        go_wp2
        go_roundw
        case rel => exact ⟨k + 1, by go_num, by omega, below_trans hB (below_trans hb6' hb7)⟩
        case measure => simp [intOf]; omega
      · obtain rfl : k = xs.length := by omega
        have d1 : ¬ ((xs.length : Int) < (xs.length : Int)) := by omega
        go_wp2
        go_ret
        exact ⟨rfl, below_trans hb3 hB⟩)
end Go.Proofs.Ytbpaejbecgaepaa.TabIS
