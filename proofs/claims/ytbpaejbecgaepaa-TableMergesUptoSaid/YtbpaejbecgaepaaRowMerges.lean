/- TableMerges and TableNil: their walks, as their rows ask for them. -/
import Derived.Test.YtbpaejbecgaepaaMergeF
import Derived.Test.YtbpaejbecgaepaaSmallT
import Derived.Test.YtbpaejbecgaepaaRowK
namespace Go.Proofs.Ytbpaejbecgaepaa.TabIS
open Go Go.RowKit Go.Proofs Go.Proofs.Ytbpaejbecgaepaa.Hand Go.Shelf
set_option linter.unusedVariables false
set_option linter.unusedSimpArgs false

set_option maxHeartbeats 4000000 in
set_option maxRecDepth 100000 in
theorem table_merges (A : Option Addr) (c : Nat) (l : List Int) (A' : Option Addr) (c' : Nat) (l' : List Int) (w : World) (hl : l.length ≤ 1048576) (hl' : l'.length ≤ 1048576) (hr : ∀ i x, l[i]? = some x → ∃ ad, A = some ad ∧ w.cell? (ad.add i) = some (.int .i64 x)) (hr' : ∀ i x, l'[i]? = some x → ∃ ad, A' = some ad ∧ w.cell? (ad.add i) = some (.int .i64 x)) :
    Calls Try.prog 8 #[.slice A l.length c, .slice A' l'.length c'] w fun e w' => e = .returned (.bool true) ∧ Below w.heap.size w w' := by
  have hrd : ∀ (A : Option Addr) (l : List Int), (∀ i x, l[i]? = some x → ∃ ad, A = some ad ∧ w.cell? (ad.add i) = some (.int .i64 x)) → ∀ (W : World), Below w.heap.size w W → ∀ i x, l[i]? = some x → ∃ ad, A = some ad ∧ W.cell? (ad.add i) = some (.int .i64 x) := fun A l hr W hW i x hx => by
    obtain ⟨ad, e, h⟩ := hr i x hx
    exact ⟨ad, e, (hW.cell (World.block_lt_of_cell? w _ h)).trans h⟩
  go_enter Try.func8, Try.ntmps8
  go_wp2_with fail
  refine (TabSI.small_calls w).mono ?_
  rintro e w1 ⟨rfl, hb1⟩
  go_wp2_with fail
  refine (filled_calls A c l _ w1 hl (hrd A l hr w1 hb1)).mono ?_
  rintro e w2 ⟨a, va, b, vb, xs, rfl, hF⟩
  have hb2 := below_trans hb1 hF.below
  go_wp2_with fail
  refine (filled_calls A' c' l' _ w2 hl' (hrd A' l' hr' w2 hb2)).mono ?_
  rintro e w3 ⟨a', va', b', vb', ys, rfl, hG⟩
  have hb3 := below_trans hb2 hG.below
  have hF3 := hF.duo.kept hG.below
  have hlx := hF.len
  have hly := hG.len
  go_wp2_with fail
  refine (merge_of (some ⟨a, 0, none⟩) (some ⟨a', 0, none⟩) xs ys w3 hF.srt (by omega) (by omega) (clone_calls2 w1.heap.size a va xs w3 hF3.ta (by omega)) (fun W hW => all_calls w2.heap.size a' va' ys W (hG.duo.kept hW).ta (by omega))).mono ?_
  rintro e w4 ⟨m, vm, rfl, hm, hT4, hb4⟩
  have hF4 := hF3.kept hb4
  have hG4 := hG.duo.kept hb4
  have hs := putAll_srt ys xs hF.srt
  have hlm := putAll_len ys xs
  go_wp2_with fail
  refine (ref_merge w1.heap.size w2.heap.size b b' vb vb' xs ys w4 hF.srt (by omega) (by omega) hF4.tb hG4.tb hF4.size).mono ?_
  rintro e w5 ⟨r, vr, rfl, hr5, hU5, hb5⟩
  have hT5 := hT4.below hb5
  go_wp2_with fail
  refine (same_fn w3.heap.size w4.heap.size m vm r vr (putAll xs ys) w5 hT5 hU5 hs (by omega) (Nat.le_trans hb4.size hb5.size)).mono ?_
  rintro e w6 ⟨rfl, hb6⟩
  have hT6 := hT5.below hb6
  have hb36 := below_trans (below_trans hb4 hb5) hb6
  go_wp2_with fail
  refine (put_calls w3.heap.size m vm (putAll xs ys) 7 _ (rk (putAll xs ys) 7) w6 hT6 (place_rk _ _ hs) (by omega) hb36.size).mono ?_
  rintro e w7 ⟨rfl, v7, hT7, hk7, _⟩
  have hb37 := below_keep hb36 hb36.size hk7 (own_ge hT6.rows hm)
  have hl7 := putL_len (putAll xs ys) 7 ⟨#[109, 105, 110, 101]⟩
  have hs7 := putL_srt hs 7 ⟨#[109, 105, 110, 101]⟩
  go_wp2_with fail
  refine (delete_calls w3.heap.size m v7 _ 8 (rk _ 8) w7 hT7 (place_rk _ _ hs7) (by omega) hb37.size).mono ?_
  rintro e w8 ⟨rfl, v8, hT8, hk8, _⟩
  have hb38 := below_keep hb37 hb37.size hk8 (own_ge hT7.rows hm)
  have hF8 := hF3.kept hb38
  go_wp2_with fail
  refine (same_fn w1.heap.size w1.heap.size a va b vb xs w8 hF8.ta hF8.tb hF.srt (by omega) hF8.size).mono ?_
  rintro e w9 ⟨rfl, hb9⟩
  have hb39 := hb38.trans ⟨hb9.os, hb9.tape, hb9.output, hb9.size, fun k hk => hb9.block k (by have := hb38.size; omega)⟩
  have hG9 := hG.duo.kept hb39
  go_wp2_with fail
  refine (same_fn w2.heap.size w2.heap.size a' va' b' vb' ys w9 hG9.ta hG9.tb hG.srt (by omega) hG9.size).mono ?_
  rintro e w10 ⟨rfl, hb10⟩
  go_wp2
  go_ret
  exact ⟨rfl, below_trans (below_trans hb3 hb39) hb10⟩
end Go.Proofs.Ytbpaejbecgaepaa.TabIS
namespace Go.Proofs.Ytbpaejbecgaepaa.Hand
open Go Go.RowKit Go.Proofs Go.Proofs.YtbpaejbecgaepaaW.PrintWords Go.Proofs.Ytbpaejbecgaepaa.Opens
set_option linter.unusedVariables false
theorem TableMerges.row (A : Option Addr) (c : Nat) (l : List Int) (A' : Option Addr) (c' : Nat) (l' : List Int) (w : World) (hB : bkL (fun _ => 1) l + bkL (fun _ => 1) l' ≤ 1048576) (hr : (Kd.int .i64).C w A l.length l) (hc : l.length ≤ c) (hr' : (Kd.int .i64).C w A' l'.length l') (hc' : l'.length ≤ c') :
    Calls Try.prog 8 #[.slice A l.length c, .slice A' l'.length c'] w fun e w' => e = .returned (.bool true) ∧ Below w.heap.size w w' :=
  TabIS.table_merges A c l A' c' l' w (by unfold bkL at hB; rw [sum_ones, sum_ones] at hB; omega) (by unfold bkL at hB; rw [sum_ones, sum_ones] at hB; omega) (ints_of hr) (ints_of hr')
end Go.Proofs.Ytbpaejbecgaepaa.Hand
