/- TablePlays: its walk, as its row asks for it. -/
import Derived.Test.YtbpaejbecgaepaaDel2
import Derived.Test.YtbpaejbecgaepaaSame
import Derived.Test.YtbpaejbecgaepaaSmallT
import Derived.Test.YtbpaejbecgaepaaRowK
import Derived.Deep.RegionWith
import Derived.Deep.RegionHeld3
import Derived.BigQuiet
namespace Go.Proofs.Ytbpaejbecgaepaa.TabIS
open Go Go.RowKit Go.Proofs Go.Proofs.Ytbpaejbecgaepaa.Hand Go.BigFrame
set_option linter.unusedVariables false
set_option linter.unusedSimpArgs false

/-- A call: what, a key, a value. -/
abbrev Stp := Int × Int × ByteArray
/-- The calls as they lie at an address. -/
def RdS (w : World) (A : Option Addr) (l : List Stp) : Prop := ∀ i x, l[i]? = some x → ∃ ad : Addr, A = some ad ∧ w.cell? (ad.add (i * 3)) = some (.int .i64 x.1) ∧ w.cell? ⟨(ad.add (i * 3)).block, (ad.add (i * 3)).off + 1, none⟩ = some (.int .i64 x.2.1) ∧ w.cell? ⟨(ad.add (i * 3)).block, (ad.add (i * 3)).off + 2, none⟩ = some (.string x.2.2)
theorem RdS.below {w w' : World} {A : Option Addr} {l : List Stp} (h : RdS w A l) (hb : Below w.heap.size w w') : RdS w' A l := fun i x hx => by
  obtain ⟨ad, e, h1, h2, h3⟩ := h i x hx
  exact ⟨ad, e, (hb.cell (World.block_lt_of_cell? _ _ h1)).trans h1, (hb.cell (World.block_lt_of_cell? _ _ h2)).trans h2, (hb.cell (World.block_lt_of_cell? _ _ h3)).trans h3⟩
/-- The step's own copy. -/
structure Stb (W : World) (B : Nat) (x : Stp) : Prop where
  c0 : W.cell? ⟨B, 0, none⟩ = some (.int .i64 x.1)
  c1 : W.cell? ⟨B, 1, none⟩ = some (.int .i64 x.2.1)
  c2 : W.cell? ⟨B, 2, none⟩ = some (.string x.2.2)
theorem Stb.keep {W W' : World} {B : Nat} {x : Stp} {S : Nat → Prop} (h : Stb W B x) (k : Keep W W' S) (hB : ¬ S B) : Stb W' B x := by
  have hlt := World.block_lt_of_cell? W _ h.c0
  have e : W'.heap[B]? = W.heap[B]? := k.block B hlt hB
  constructor
  · rw [← h.c0]; unfold World.cell?; rw [e]
  · rw [← h.c1]; unfold World.cell?; rw [e]
  · rw [← h.c2]; unfold World.cell?; rw [e]
theorem Stb.new (W : World) (x : Stp) : Stb (W.alloc (.cells #[.int .i64 x.1, .int .i64 x.2.1, .string x.2.2] 54)) W.heap.size x :=
  ⟨World.cell?_alloc_at (w := W) #[.int .i64 x.1, .int .i64 x.2.1, .string x.2.2] _ W.heap.size 0 rfl, World.cell?_alloc_at (w := W) #[.int .i64 x.1, .int .i64 x.2.1, .string x.2.2] _ W.heap.size 1 rfl, World.cell?_alloc_at (w := W) #[.int .i64 x.1, .int .i64 x.2.1, .string x.2.2] _ W.heap.size 2 rfl⟩
theorem IsTab.same {W W' : World} {n0 b : Nat} {v : Value} {xs : Prs} (h : IsTab W n0 b v xs) (e : W'.heap = W.heap) : IsTab W' n0 b v xs :=
  ⟨by rw [e]; exact h.blk, ⟨h.rows.1, h.rows.2.imp id (fun ⟨g, cap, cur, hv, hg, hb, r⟩ => ⟨g, cap, cur, hv, hg, by rw [e]; exact hb, r⟩)⟩, h.apart⟩
theorem Fld.drewN {w W : World} {a b k : Nat} {va vb : Value} {xs : Prs} (h : Fld w W a va b vb xs k) (n : Nat) : Fld w (W.drewN n) a va b vb xs k :=
  ⟨h.duo.kept ⟨rfl, rfl, rfl, Nat.le_refl _, fun _ _ => rfl⟩, h.below.trans ⟨rfl, rfl, rfl, Nat.le_refl _, fun _ _ => rfl⟩, h.srt, h.len⟩
set_option maxHeartbeats 8000000 in
set_option maxRecDepth 100000 in
theorem table_plays (A : Option Addr) (c : Nat) (l : List Stp) (w : World) (hl : l.length ≤ 1048576) (hr : RdS w A l) :
    Calls Try.prog 7 #[.slice A l.length c] w fun e w' => e = .returned (.bool true) ∧ Below w.heap.size w w' := by
  have mixed : Try.prog.follows Departure.mixedOrders = true := by kernel_rfl
  go_enter Try.func7, Try.ntmps7
  go_wp2_with fail
  refine (new_calls w).mono ?_
  rintro e w1 ⟨rfl, hT1, hb1⟩
  have hW1 : Below w.heap.size w (w1.alloc (.cells #[.slice none 0 0] 31)) := hb1.alloc hb1.size _
  have hF : Fld w (w1.alloc (.cells #[.slice none 0 0] 31)) w.heap.size (.slice none 0 0) w1.heap.size (.slice none 0 0) [] 0 := by
    refine ⟨⟨hT1.below ((Below.refl _ w1).alloc (Nat.le_refl _) _), ⟨heap_alloc_new w1 _, World.ownsRow_nil _ _ _ _, by simp [Value.ownBlock]⟩, Nat.le_refl _, hb1.size, ?_⟩, hW1, List.Pairwise.nil, Nat.zero_le _⟩
    rintro j (rfl | hj) (h | h)
    · have := hT1.lt; omega
    · simp [Value.ownBlock] at h
    · simp [Value.ownBlock] at hj
    · simp [Value.ownBlock] at h
  obtain ⟨b, hbb⟩ : ∃ b, w1.heap.size = b := ⟨_, rfl⟩
  rw [hbb] at hF
  go_wp2_with fail
  go_loopw [3, 23] (fun p i wr => ∃ (k a : Nat) (va vb : Value) (xs : Prs), p = .pointer (some ⟨a, 0, none⟩) ∧ i = .int .i64 (k : Int) ∧ k ≤ l.length ∧ Fld w wr a va b vb xs k) (fun _ i _ => l.length - (intOf i).toNat)
  case atStart => exact ⟨0, _, _, _, [], rfl, rfl, Nat.zero_le _, hF⟩
  case round =>
    obtain ⟨k, a, va, vb, xs, rfl, rfl, hk, hF⟩ := hrel
    have hlen := hF.len
    by_cases hlt : k < l.length
    · have d1 : (k : Int) < (l.length : Int) := by omega
      have d2 : (0 : Int) ≤ (k : Int) := by omega
      obtain ⟨x, hx⟩ : ∃ x, l[k]? = some x := ⟨_, List.getElem?_eq_getElem hlt⟩
      obtain ⟨ad, rfl, hc0, hc1, hc2⟩ := hr.below hF.below k x hx
      obtain ⟨wh, kk, vv⟩ := x
      have hS := Stb.new wr (wh, kk, vv)
      obtain ⟨W4, hW4⟩ : ∃ W4, wr.alloc (.cells #[.int .i64 wh, .int .i64 kk, .string vv] 54) = W4 := ⟨_, rfl⟩
      rw [hW4] at hS
      have hb4 : Below wr.heap.size wr W4 := hW4 ▸ (Below.refl _ wr).alloc (Nat.le_refl _) _
      have hD4 := hF.duo.kept hb4
      have hpl := place_rk xs kk hF.srt
      have hd4 : Below W4.heap.size W4 W4.drew := ⟨rfl, rfl, rfl, Nat.le_refl _, fun _ _ => rfl⟩
      have hBa : ∀ j, Own a va j → j < wr.heap.size := own_lt_tab hF.duo.ta
      have hBb : ∀ j, Own b vb j → j < wr.heap.size := own_lt_ref hF.duo.tb
      have hs4 := hS.c0
      have hs5 := hS.c1
      have hs6 := hS.c2
      have hbw4 := below_trans hF.below hb4
      have hbw4d : Below w.heap.size w W4.drew := hbw4.trans ⟨rfl, rfl, rfl, Nat.le_refl _, fun _ _ => rfl⟩
      by_cases e0 : wh = 0
      · subst e0
        have hput := put_calls w.heap.size a va xs kk vv (rk xs kk) W4.drew (hD4.kept hd4).ta hpl (by omega) (hD4.kept hd4).size
        go_wp2_with fail
        go_region_held3 (fun W' => W'.cell? ⟨wr.heap.size, 1, none⟩ = some (.int .i64 kk) ∧ W'.cell? ⟨wr.heap.size, 2, none⟩ = some (.string vv)) (first | exact ⟨hs5, hs6⟩ | exact ⟨ht5, ht6⟩ | exact ⟨hu5, hu6⟩) (first
          | (go_at_call 24; refine hput.mono ?_; rintro e w5 ⟨rfl, hTu⟩; obtain ⟨va', hD5, hk5⟩ := (hD4.kept hd4).turnedT hTu; have hS5 := (hS.keep (S := fun _ => False) (Keep.of_below hd4 _) id).keep hk5 (fun e => by have := hBa _ e; omega); have ht5 := hS5.c1; have ht6 := hS5.c2)
          | (go_at_call 26; refine (ref_put_calls w.heap.size b vb xs kk vv (rk xs kk) w5 hD5.tb hpl (by omega) hD5.size).mono ?_; rintro e w6 ⟨rfl, hTv⟩; obtain ⟨vb', hD6, hk6⟩ := hD5.turnedR hTv; have hS6 := hS5.keep hk6 (fun e => by have := hBb _ e; omega); have hu5 := hS6.c1; have hu6 := hS6.c2))
        have hb6 := below_keep (below_keep hbw4d (hD4.kept hd4).size hk5 (hD4.kept hd4).own_a) hD5.size hk6 hD5.own_b
        have hE : Fld w w6 a va' b vb' (putL xs kk vv (rk xs kk)) (k + 1) := ⟨hD6, hb6, putL_srt hF.srt kk vv, Nat.le_trans (putL_len xs kk vv) (by omega)⟩
        have hcb9 := cell_of_row w6 b 0 _ _ _ hE.duo.tb.blk
        obtain ⟨A9, c9, rfl⟩ := own_slice hE.duo.tb.rows
        have hln : ∀ W, W.heap = (w6).heap → Calls Try.prog 33 #[.pointer (some ⟨a, 0, none⟩)] W fun e w' => e = .returned (.int .i64 ((putL xs kk vv (rk xs kk)).length : Int)) ∧ w' = W := fun W hW => len_calls w.heap.size a va' _ W (hE.duo.ta.same hW)
        go_wp2_with fail
        go_quiet ((go_at_call 33; exact Calls.quiet_of_same (hln _ rfl)))
        go_wp2
        go_roundw
        case rel => exact ⟨k + 1, a, va', _, _, rfl, by go_num, by omega, hE.drewN _⟩
        case measure => simp [intOf]; omega
      · by_cases e2 : wh = 2
        · subst e2
          have hput := delete_calls w.heap.size a va xs kk (rk xs kk) W4.drew (hD4.kept hd4).ta hpl (by omega) (hD4.kept hd4).size
          go_wp2_with fail
          go_region_held3 (fun W' => W'.cell? ⟨wr.heap.size, 1, none⟩ = some (.int .i64 kk) ∧ W'.cell? ⟨wr.heap.size, 2, none⟩ = some (.string vv)) (first | exact ⟨hs5, hs6⟩ | exact ⟨ht5, ht6⟩ | exact ⟨hu5, hu6⟩) (first
            | (go_at_call 23; refine hput.mono ?_; rintro e w5 ⟨rfl, hTu⟩; obtain ⟨va', hD5, hk5⟩ := (hD4.kept hd4).turnedT hTu; have hS5 := (hS.keep (S := fun _ => False) (Keep.of_below hd4 _) id).keep hk5 (fun e => by have := hBa _ e; omega); have ht5 := hS5.c1; have ht6 := hS5.c2)
            | (go_at_call 29; refine (ref_delete_calls w.heap.size b vb xs kk (rk xs kk) w5 hD5.tb hpl (by omega) hD5.size).mono ?_; rintro e w6 ⟨rfl, hTv⟩; obtain ⟨vb', hD6, hk6⟩ := hD5.turnedR hTv; have hS6 := hS5.keep hk6 (fun e => by have := hBb _ e; omega); have hu5 := hS6.c1; have hu6 := hS6.c2))
          have hb6 := below_keep (below_keep hbw4d (hD4.kept hd4).size hk5 (hD4.kept hd4).own_a) hD5.size hk6 hD5.own_b
          have hE : Fld w w6 a va' b vb' (delL xs kk (rk xs kk)) (k + 1) := ⟨hD6, hb6, delL_srt hF.srt kk (rk xs kk), Nat.le_trans (delL_len xs kk (rk xs kk)) (by omega)⟩
          have hcb9 := cell_of_row w6 b 0 _ _ _ hE.duo.tb.blk
          obtain ⟨A9, c9, rfl⟩ := own_slice hE.duo.tb.rows
          have hln : ∀ W, W.heap = (w6).heap → Calls Try.prog 33 #[.pointer (some ⟨a, 0, none⟩)] W fun e w' => e = .returned (.int .i64 ((delL xs kk (rk xs kk)).length : Int)) ∧ w' = W := fun W hW => len_calls w.heap.size a va' _ W (hE.duo.ta.same hW)
          go_wp2_with fail
          go_quiet ((go_at_call 33; exact Calls.quiet_of_same (hln _ rfl)))
          go_wp2
          go_roundw
          case rel => exact ⟨k + 1, a, va', _, _, rfl, by go_num, by omega, hE.drewN _⟩
          case measure => simp [intOf]; omega
        · by_cases e4 : wh = 4
          · subst e4
            have hrank := rank_calls w.heap.size a va xs kk (rk xs kk) W4.drew (hD4.kept hd4).ta hpl (by omega) (hD4.kept hd4).size
            go_wp2_with fail
            go_region_held3 (fun W' => W'.cell? ⟨wr.heap.size, 1, none⟩ = some (.int .i64 kk) ∧ W'.cell? ⟨wr.heap.size, 2, none⟩ = some (.string vv)) (first | exact ⟨hs5, hs6⟩ | exact ⟨ht5, ht6⟩ | exact ⟨hu5, hu6⟩) (first
              | (go_at_call 31; refine hrank.mono ?_; rintro e w5 ⟨rfl, hk5'⟩; have hD5 := (hD4.kept hd4).kept hk5'; have hS5 := (hS.keep (S := fun _ => False) (Keep.of_below hd4 _) id).keep (S := fun _ => False) (Keep.of_below hk5' _) id; have ht5 := hS5.c1; have ht6 := hS5.c2)
              | (go_at_call 14; refine (ref_rank w.heap.size b vb xs kk (rk xs kk) w5 hD5.tb hpl (by omega)).mono ?_; rintro e w6 ⟨rfl, rfl⟩))
            have hE : Fld w w6 a va b vb xs (k + 1) := ⟨hD5, below_trans hbw4d hk5', hF.srt, by omega⟩
            have hcb9 := cell_of_row w6 b 0 _ _ _ hE.duo.tb.blk
            obtain ⟨A9, c9, rfl⟩ := own_slice hE.duo.tb.rows
            have hln : ∀ W, W.heap = (w6).heap → Calls Try.prog 33 #[.pointer (some ⟨a, 0, none⟩)] W fun e w' => e = .returned (.int .i64 ((xs).length : Int)) ∧ w' = W := fun W hW => len_calls w.heap.size a va _ W (hE.duo.ta.same hW)
            go_wp2_with fail
            go_quiet ((go_at_call 33; exact Calls.quiet_of_same (hln _ rfl)))
            go_wp2
            go_roundw
            case rel => exact ⟨k + 1, a, va, _, _, rfl, by go_num, by omega, hE.drewN _⟩
            case measure => simp [intOf]; omega
          · by_cases e1 : wh = 1
            · subst e1
              obtain ⟨gv, gb, hgl⟩ : ∃ gv gb, getL xs kk (rk xs kk) = (gv, gb) := ⟨_, _, rfl⟩
              have hget := get_calls w.heap.size a va xs kk (rk xs kk) W4 hD4.ta hpl (by omega) hD4.size
              rw [hgl] at hget
              go_wp2_with fail
              refine hget.mono ?_
              rintro e w5 ⟨rfl, hk5⟩
              have hD5 := hD4.kept hk5
              have hS5 := hS.keep (S := fun _ => False) (Keep.of_below hk5 _) id
              have ht5 := hS5.c1
              have hget2 := ref_get_calls w.heap.size b vb xs kk (rk xs kk) w5 hD5.tb hpl (by omega)
              rw [hgl] at hget2
              go_wp2_with fail
              refine hget2.mono ?_
              rintro e w6 ⟨rfl, rfl⟩
              have hE : Fld w w6 a va b vb xs (k + 1) := ⟨hD5, below_trans hbw4 hk5, hF.srt, by omega⟩
              have hcb9 := cell_of_row w6 b 0 _ _ _ hE.duo.tb.blk
              obtain ⟨A9, c9, rfl⟩ := own_slice hE.duo.tb.rows
              have hln : ∀ W, W.heap = (w6).heap → Calls Try.prog 33 #[.pointer (some ⟨a, 0, none⟩)] W fun e w' => e = .returned (.int .i64 ((xs).length : Int)) ∧ w' = W := fun W hW => len_calls w.heap.size a va _ W (hE.duo.ta.same hW)
              go_wp2_with fail
              go_quiet ((go_at_call 33; exact Calls.quiet_of_same (hln _ rfl)))
              go_wp2
              go_roundw
              case rel => exact ⟨k + 1, a, va, _, _, rfl, by go_num, by omega, hE.drewN _⟩
              case measure => simp [intOf]; omega
            · by_cases e5 : wh = 5
              · subst e5
                go_wp2_with fail
                refine (clone_calls2 w.heap.size a va xs W4 hD4.ta (by omega)).mono ?_
                rintro e w5 ⟨a', va', rfl, ha', hT5, hk5⟩
                have hD5 := hD4.kept hk5
                have hS5 := hS.keep (S := fun _ => False) (Keep.of_below hk5 _) id
                have ht5 := hS5.c1
                go_wp2_with fail
                refine (put_calls w.heap.size a va xs kk _ (rk xs kk) w5 hD5.ta hpl (by omega) hD5.size).mono ?_
                rintro e w6 ⟨rfl, hTu⟩
                obtain ⟨va'', hD6, hk6⟩ := hD5.turnedT hTu
                have hown' : ∀ j, Own a' va' j → W4.heap.size ≤ j := own_ge hT5.rows ha'
                have hs48 := hb4.size
                have hT6 : IsTab w6 W4.heap.size a' va' xs := hT5.kept hk6 (fun e => by have := hBa _ e; omega) (fun j hj e => by have := hown' j (.inr hj); have := hBa _ e; omega)
                have hE : Fld w w6 a' va' b vb xs (k + 1) := ⟨⟨⟨hT6.blk, Go.Joins.ownsRow_le hT6.rows hD4.size, hT6.apart⟩, hD6.tb, Nat.le_trans hD4.size ha', hD6.gb, fun j hj hb => by have := hown' j hj; have := hBb j hb; omega⟩, below_keep (below_trans hbw4 hk5) hD5.size hk6 hD5.own_a, hF.srt, by omega⟩
                have hcb9 := cell_of_row w6 b 0 _ _ _ hE.duo.tb.blk
                obtain ⟨A9, c9, rfl⟩ := own_slice hE.duo.tb.rows
                have hln : ∀ W, W.heap = (w6).heap → Calls Try.prog 33 #[.pointer (some ⟨a', 0, none⟩)] W fun e w' => e = .returned (.int .i64 ((xs).length : Int)) ∧ w' = W := fun W hW => len_calls w.heap.size a' va' _ W (hE.duo.ta.same hW)
                go_wp2_with fail
                go_quiet ((go_at_call 33; exact Calls.quiet_of_same (hln _ rfl)))
                go_wp2
                go_roundw
                case rel => exact ⟨k + 1, a', va', _, _, rfl, by go_num, by omega, hE.drewN _⟩
                case measure => simp [intOf]; omega
              · by_cases e3 : wh = 3
                · subst e3
                  by_cases hlo : kk < 0
                  · have g1 : decide (kk ≥ 0) = false := decide_eq_false (by omega)
                    have g2 : decide (0 ≤ kk) = false := decide_eq_false (by omega)
                    go_wp2_with fail
                    refine (at_out w.heap.size a va xs kk W4 hD4.ta (.inl hlo) (by omega)).mono ?_
                    rintro e w5 ⟨rfl, rfl⟩
                    go_wp2_with fail
                    go_big_quiet (fail)
                    generalize hW8 : w5.drewN nq = W8
                    have hb8 : Below w5.heap.size w5 W8 := hW8 ▸ ⟨rfl, rfl, rfl, Nat.le_refl _, fun _ _ => rfl⟩
                    go_wp2_with fail
                    go_big_quiet (fail)
                    generalize hW9 : W8.drewN nq = W9
                    have hb9 : Below w5.heap.size w5 W9 := hW9 ▸ hb8.trans ⟨rfl, rfl, rfl, Nat.le_refl _, fun _ _ => rfl⟩
                    have hE : Fld w W9 a va b vb xs (k + 1) := ⟨hD4.kept hb9, below_trans hbw4 hb9, hF.srt, by omega⟩
                    have hcb9 := cell_of_row W9 b 0 _ _ _ hE.duo.tb.blk
                    obtain ⟨A9, c9, rfl⟩ := own_slice hE.duo.tb.rows
                    have hln : ∀ W, W.heap = (W9).heap → Calls Try.prog 33 #[.pointer (some ⟨a, 0, none⟩)] W fun e w' => e = .returned (.int .i64 ((xs).length : Int)) ∧ w' = W := fun W hW => len_calls w.heap.size a va _ W (hE.duo.ta.same hW)
                    go_wp2_with fail
                    go_quiet ((go_at_call 33; exact Calls.quiet_of_same (hln _ rfl)))
                    go_wp2
                    go_roundw
                    case rel => exact ⟨k + 1, a, va, _, _, rfl, by go_num, by omega, hE.drewN _⟩
                    case measure => simp [intOf]; omega
                  · have e0 : (0 : Int) ≤ kk := by omega
                    have g1 : decide (kk ≥ 0) = true := decide_eq_true (by omega)
                    have g2 : decide (0 ≤ kk) = true := decide_eq_true (by omega)
                    obtain ⟨A5, c5, rfl⟩ := own_slice hD4.tb.rows
                    have hcb4 := cell_of_row W4 b 0 _ _ _ hD4.tb.blk
                    by_cases hhi : kk < (xs.length : Int)
                    · obtain ⟨j, hj⟩ : ∃ j : Nat, kk = (j : Int) := ⟨kk.toNat, by omega⟩
                      obtain ⟨y, hy⟩ : ∃ y, xs[j]? = some y := ⟨_, List.getElem?_eq_getElem (by omega)⟩
                      obtain ⟨gg, cap, eg, _, _⟩ := own_form hD4.tb.rows (by omega)
                      cases eg
                      subst hj
                      have g3 : decide ((j : Int) < (xs.length : Int)) = true := decide_eq_true hhi
                      have hat := at_calls w.heap.size a va xs j y W4 hD4.ta hy (by omega)
                      go_wp2_with fail
                      refine hat.mono ?_
                      rintro e w5 ⟨rfl, q, hq⟩
                      have hb5 : Below W4.heap.size W4 w5 := hq ▸ ⟨rfl, rfl, rfl, Nat.le_refl _, fun _ _ => rfl⟩
                      clear hq
                      have hD5 := hD4.kept hb5
                      have hS5 := hS.keep (S := fun _ => False) (Keep.of_below hb5 _) id
                      have ht5 := hS5.c1
                      have hcb5 := cell_of_row w5 b 0 _ _ _ hD5.tb.blk
                      go_wp2_with fail
                      go_big_quiet (fail)
                      generalize hW8 : w5.drewN nq = W8
                      have hb8 : Below W4.heap.size W4 W8 := hW8 ▸ hb5.trans ⟨rfl, rfl, rfl, Nat.le_refl _, fun _ _ => rfl⟩
                      have hD8 := hD4.kept hb8
                      have hS8 := hS.keep (S := fun _ => False) (Keep.of_below hb8 _) id
                      have hv5 := hS8.c1
                      have hcb8 := cell_of_row W8 b 0 _ _ _ hD8.tb.blk
                      obtain ⟨hy0, hy1⟩ := rrows_cell hD8.tb.rows hy
                      go_wp2_with fail
                      go_big_quiet (fail)
                      generalize hW9 : W8.drewN nq = W9
                      have hb9 : Below W4.heap.size W4 W9 := hW9 ▸ hb8.trans ⟨rfl, rfl, rfl, Nat.le_refl _, fun _ _ => rfl⟩
                      have hE : Fld w W9 a va b _ xs (k + 1) := ⟨hD4.kept hb9, below_trans hbw4 hb9, hF.srt, by omega⟩
                      have hcb9 := cell_of_row W9 b 0 _ _ _ hE.duo.tb.blk
                      have hln : ∀ W, W.heap = (W9).heap → Calls Try.prog 33 #[.pointer (some ⟨a, 0, none⟩)] W fun e w' => e = .returned (.int .i64 ((xs).length : Int)) ∧ w' = W := fun W hW => len_calls w.heap.size a va _ W (hE.duo.ta.same hW)
                      go_wp2_with fail
                      go_quiet ((go_at_call 33; exact Calls.quiet_of_same (hln _ rfl)))
                      go_wp2
                      go_roundw
                      case rel => exact ⟨k + 1, a, va, _, _, rfl, by go_num, by omega, hE.drewN _⟩
                      case measure => simp [intOf]; omega
                    · have g3 : decide (kk < (xs.length : Int)) = false := decide_eq_false hhi
                      go_wp2_with fail
                      refine (at_out w.heap.size a va xs kk W4 hD4.ta (.inr (by omega)) (by omega)).mono ?_
                      rintro e w5 ⟨rfl, rfl⟩
                      go_wp2_with fail
                      go_big_quiet (fail)
                      generalize hW8 : w5.drewN nq = W8
                      have hb8 : Below w5.heap.size w5 W8 := hW8 ▸ ⟨rfl, rfl, rfl, Nat.le_refl _, fun _ _ => rfl⟩
                      go_wp2_with fail
                      go_big_quiet (fail)
                      generalize hW9 : W8.drewN nq = W9
                      have hb9 : Below w5.heap.size w5 W9 := hW9 ▸ hb8.trans ⟨rfl, rfl, rfl, Nat.le_refl _, fun _ _ => rfl⟩
                      have hE : Fld w W9 a va b _ xs (k + 1) := ⟨hD4.kept hb9, below_trans hbw4 hb9, hF.srt, by omega⟩
                      have hcb9 := cell_of_row W9 b 0 _ _ _ hE.duo.tb.blk
                      have hln : ∀ W, W.heap = (W9).heap → Calls Try.prog 33 #[.pointer (some ⟨a, 0, none⟩)] W fun e w' => e = .returned (.int .i64 ((xs).length : Int)) ∧ w' = W := fun W hW => len_calls w.heap.size a va _ W (hE.duo.ta.same hW)
                      go_wp2_with fail
                      go_quiet ((go_at_call 33; exact Calls.quiet_of_same (hln _ rfl)))
                      go_wp2
                      go_roundw
                      case rel => exact ⟨k + 1, a, va, _, _, rfl, by go_num, by omega, hE.drewN _⟩
                      case measure => simp [intOf]; omega
                · have hE : Fld w W4 a va b vb xs (k + 1) := ⟨hD4, hbw4, hF.srt, by omega⟩
                  have hcb9 := cell_of_row W4 b 0 _ _ _ hE.duo.tb.blk
                  obtain ⟨A9, c9, rfl⟩ := own_slice hE.duo.tb.rows
                  have hln : ∀ W, W.heap = (W4).heap → Calls Try.prog 33 #[.pointer (some ⟨a, 0, none⟩)] W fun e w' => e = .returned (.int .i64 ((xs).length : Int)) ∧ w' = W := fun W hW => len_calls w.heap.size a va _ W (hE.duo.ta.same hW)
                  go_wp2_with fail
                  go_quiet ((go_at_call 33; exact Calls.quiet_of_same (hln _ rfl)))
                  go_wp2
                  go_roundw
                  case rel => exact ⟨k + 1, a, va, _, _, rfl, by go_num, by omega, hE.drewN _⟩
                  case measure => simp [intOf]; omega
    · obtain rfl : k = l.length := by omega
      have d1 : ¬ ((l.length : Int) < (l.length : Int)) := by omega
      go_wp2_with fail
      refine (same_fn w.heap.size w.heap.size a va b vb xs wr hF.duo.ta hF.duo.tb hF.srt (by omega) hF.duo.size).mono ?_
      rintro e w2 ⟨rfl, hb2⟩
      go_wp2_with fail
      refine (TabSI.small_calls w2).mono ?_
      rintro e w3 ⟨rfl, hb3⟩
      go_wp2
      go_ret
      exact ⟨rfl, below_trans hF.below (below_trans hb2 hb3)⟩
end Go.Proofs.Ytbpaejbecgaepaa.TabIS
namespace Go.Proofs.Ytbpaejbecgaepaa.Hand
open Go Go.RowKit Go.Proofs Go.Proofs.YtbpaejbecgaepaaW.PrintWords Go.Proofs.Ytbpaejbecgaepaa.Opens
set_option linter.unusedVariables false
theorem steps_of {w : World} {A : Option Addr} {l : List (Int × Int × ByteArray)} (h : (Kd.pair (Kd.int .i64) (Kd.pair (Kd.int .i64) Kd.string)).C w A l.length l) : TabIS.RdS w A l := by
  intro i x hx
  have hi := (List.getElem?_eq_some_iff.1 hx).1
  obtain ⟨ad, e, hc⟩ := h.2.2 (by omega)
  obtain ⟨c, hs, ⟨c1, c2, rfl, h1, c3, c4, rfl, h3, h4⟩, hcell⟩ := hc i x hx
  have h1' : c1 = [Value.int .i64 x.1] := h1
  have h3' : c3 = [Value.int .i64 x.2.1] := h3
  have h4' : c4 = [Value.string x.2.2] := h4
  subst h1' h3' h4'
  have k0 := hcell 0 _ rfl
  have k1 := hcell 1 _ rfl
  have k2 := hcell 2 _ rfl
  have hz : (Kd.pair (Kd.int .i64) (Kd.pair (Kd.int .i64) Kd.string)).sz = 3 := rfl
  rw [hz] at k0 k1 k2
  refine ⟨ad, e, by simpa using k0, ?_, ?_⟩
  · rw [← Opens.add_add] at k1
    simpa [Addr.add] using k1
  · rw [← Opens.add_add] at k2
    simpa [Addr.add] using k2
theorem sum_ge {α : Type} (f : α → Nat) (hf : ∀ x, 1 ≤ f x) (l : List α) : l.length ≤ (l.map f).sum := by induction l with
  | nil => simp
  | cons x l ih => have := hf x; simp only [List.map_cons, List.sum_cons, List.length_cons]; omega
theorem TablePlays.row (A : Option Addr) (c : Nat) (l : List (Int × Int × ByteArray)) (w : World) (hB : bkL (fun v => (fun x => (fun _ => 1) x.1 + (fun x => (fun _ => 1) x.1 + bkS x.2) x.2) v + 1) l ≤ 1048576) (hr : (Kd.pair (Kd.int .i64) (Kd.pair (Kd.int .i64) Kd.string)).C w A l.length l) (hc : l.length ≤ c) :
    Calls Try.prog 7 #[.slice A l.length c] w fun e w' => e = .returned (.bool true) ∧ Below w.heap.size w w' :=
  TabIS.table_plays A c l w (by unfold bkL at hB; have := sum_ge (fun v : Int × Int × ByteArray => (fun x => (fun _ => 1) x.1 + (fun x => (fun _ => 1) x.1 + bkS x.2) x.2) v + 1) (fun _ => Nat.le_add_left _ _) l; omega) (steps_of hr)
end Go.Proofs.Ytbpaejbecgaepaa.Hand
