/- TableOrder: its walk. -/
import Derived.Test.YtbpaejbecgaepaaOrderP
import Derived.Deep.RegionWith
import Derived.BigQuiet
import Derived.Test.YtbpaejbecgaepaaAtII
import Derived.Test.YtbpaejbecgaepaaSmallT
namespace Go.Proofs.Ytbpaejbecgaepaa.TabII
open Go Go.RowKit Go.Proofs Go.BigFrame
set_option linter.unusedVariables false
set_option linter.unusedSimpArgs false

/-- Two tables that share nothing, behind all of w. -/
structure Two (w W : World) (a : Nat) (va : Value) (xs : List (Int × Int)) (b : Nat) (vb : Value) (ys : List (Int × Int)) : Prop where
  ta : IsTab W w.heap.size a va xs
  tb : IsTab W w.heap.size b vb ys
  ga : w.heap.size ≤ a
  gb : w.heap.size ≤ b
  ne : a ≠ b
  ab : va.ownBlock ≠ some b
  ba : vb.ownBlock ≠ some a
  vv : ∀ j, va.ownBlock = some j → vb.ownBlock ≠ some j
  below : Below w.heap.size w W
theorem Two.swap {w W : World} {a b : Nat} {va vb : Value} {xs ys : List (Int × Int)} (h : Two w W a va xs b vb ys) : Two w W b vb ys a va xs :=
  ⟨h.tb, h.ta, h.gb, h.ga, h.ne.symm, h.ba, h.ab, fun j h1 h2 => h.vv j h2 h1, h.below⟩
theorem Two.turned {w W W' : World} {a b : Nat} {va vb : Value} {xs ys zs : List (Int × Int)} (h : Two w W a va xs b vb ys) (t : Turned W w.heap.size a va zs W') : ∃ v', Two w W' a v' zs b vb ys := by
  obtain ⟨v', t1, t2, t3⟩ := t
  have hbl := h.tb.lt
  have hvb : ∀ j, vb.ownBlock = some j → w.heap.size ≤ j ∧ j < W.heap.size := fun j hj => h.tb.rows.lt j hj
  refine ⟨v', t1, h.tb.kept t2 ?_ ?_, h.ga, h.gb, h.ne, ?_, h.ba, ?_, ?_⟩
  · rintro (e | e)
    · exact h.ne e.symm
    · exact h.ab e
  · rintro j hj (rfl | e)
    · exact h.ba hj
    · exact h.vv j e hj
  · intro e
    rcases t3 with h3 | ⟨g, h3, hg⟩
    · exact h.ab (h3.symm.trans e)
    · rw [h3] at e; have := Option.some.inj e; omega
  · intro j hj e
    rcases t3 with h3 | ⟨g, h3, hg⟩
    · exact h.vv j (h3.symm.trans hj) e
    · rw [h3] at hj; have := Option.some.inj hj; have := (hvb j e).2; omega
  · exact h.below.trans ⟨t2.os, t2.tape, t2.output, t2.size, fun k hk => t2.block k (Nat.lt_of_lt_of_le hk h.below.size) (by
      rintro (rfl | e)
      · have := h.ga; omega
      · have := (h.ta.rows.lt k e).1; omega)⟩
theorem Two.kept {w W W' : World} {a b : Nat} {va vb : Value} {xs ys : List (Int × Int)} (h : Two w W a va xs b vb ys) (k : Below W.heap.size W W') : Two w W' a va xs b vb ys :=
  ⟨h.ta.below k, h.tb.below k, h.ga, h.gb, h.ne, h.ab, h.ba, h.vv, below_trans h.below k⟩
theorem below_drewN (W : World) (q : Nat) : Below W.heap.size W (W.drewN q) := ⟨rfl, rfl, rfl, Nat.le_refl _, fun _ _ => rfl⟩
set_option maxHeartbeats 4000000 in
set_option maxRecDepth 100000 in
theorem order_calls (A : Option Addr) (c : Nat) (l : List Int) (w : World) (hl : l.length ≤ 1048576) (hr : ∀ i x, l[i]? = some x → ∃ ad, A = some ad ∧ w.cell? (ad.add i) = some (.int .i64 x)) :
    Calls Try.prog 5 #[.slice A l.length c] w fun e w' => e = .returned (.bool true) ∧ Below w.heap.size w w' := by
  have hrd : ∀ (W : World), Below w.heap.size w W → ∀ i x, l[i]? = some x → ∃ ad, A = some ad ∧ W.cell? (ad.add i) = some (.int .i64 x) := fun W hW i x hx => by
    obtain ⟨ad, e, h⟩ := hr i x hx
    exact ⟨ad, e, (hW.cell (World.block_lt_of_cell? w _ h)).trans h⟩
  go_enter Try.func5, Try.ntmps5
  go_wp2_with fail
  refine (new_calls w).mono ?_
  rintro e w1 ⟨rfl, hT1, hb1⟩
  go_wp2_with fail
  refine (new_calls w1).mono ?_
  rintro e w2 ⟨rfl, hT2, hb2⟩
  have h2 : Two w w2 w.heap.size (.slice none 0 0) [] w1.heap.size (.slice none 0 0) [] :=
    ⟨hT1.below hb2, ⟨hT2.blk, ⟨hT2.rows.1, .inl ⟨rfl, rfl⟩⟩, hT2.apart⟩, Nat.le_refl _, hb1.size, by have := hT1.lt; omega, by simp [Value.ownBlock], by simp [Value.ownBlock], by simp [Value.ownBlock], below_trans hb1 hb2⟩
  go_wp2_with fail
  refine (TabSI.small_calls w2).mono ?_
  rintro e w3 ⟨rfl, hb3⟩
  have h3 := h2.kept hb3
  obtain ⟨bA, hbA⟩ : ∃ bA, w1.heap.size = bA := ⟨_, rfl⟩
  rw [hbA] at h3
  go_wp2_with fail
  go_loopw [30] (fun i wr => ∃ (k : Nat) (va vb : Value) (xs ys : List (Int × Int)), i = .int .i64 (k : Int) ∧ k ≤ l.length ∧ Two w wr w.heap.size va xs bA vb ys ∧ Good (fun q => q ∈ l.take k) xs ∧ Good (fun q => q ∈ l.drop (l.length - k)) ys ∧ xs.length ≤ k ∧ ys.length ≤ k) (fun i _ => l.length - (intOf i).toNat)
  case atStart =>
    refine ⟨0, _, _, [], [], rfl, Nat.zero_le _, h3, ?_, ?_, Nat.le_refl _, Nat.le_refl _⟩
    · simpa using Good.nil
    · simpa using Good.nil
  case round =>
    obtain ⟨k, va, vb, xs, ys, rfl, hk, hT, hgx, hgy, hlx, hly⟩ := hrel
    by_cases hlt : k < l.length
    · have d1 : (k : Int) < (l.length : Int) := by omega
      have d2 : (0 : Int) ≤ (k : Int) := by omega
      obtain ⟨x, hx⟩ : ∃ x, l[k]? = some x := ⟨_, List.getElem?_eq_getElem hlt⟩
      obtain ⟨y, hy⟩ : ∃ y, l[l.length - 1 - k]? = some y := ⟨_, List.getElem?_eq_getElem (by omega)⟩
      obtain ⟨ad, rfl, hcx⟩ := hrd wr hT.below k x hx
      have hputA := fun W (hB : Below wr.heap.size wr W) => put_calls w.heap.size w.heap.size va xs x x (rk xs x) W (hT.kept hB).ta (place_rk xs x hgx.srt) (by omega) (hT.kept hB).below.size
      rw [putL_insL] at hputA
      go_wp2_with fail
      go_region_with (go_at_call 16; refine (hputA _ ?_).mono ?_; exact ⟨rfl, rfl, rfl, Nat.le_refl _, fun _ _ => rfl⟩; rintro e w4 ⟨rfl, hTu⟩)
      all_goals (
        obtain ⟨va', hT4⟩ := (hT.kept (W' := wr.drew) ⟨rfl, rfl, rfl, Nat.le_refl _, fun _ _ => rfl⟩).turned hTu
        obtain ⟨ad2, had2, hcy⟩ := hrd w4 hT4.below (l.length - 1 - k) y hy
        cases had2
        obtain ⟨J, hJ⟩ : ∃ J, l.length - 1 - k = J := ⟨_, rfl⟩
        rw [hJ] at hcy
        have d3 : (0 : Int) ≤ (J : Int) := by omega
        have d4 : (J : Int) < (l.length : Int) := by omega
        have d6 : IntKind.i64.wrap ((l.length : Int) - 1) = (l.length : Int) - 1 := by rw [IntKind.wrap_i64]; omega
        have d7 : IntKind.i64.wrap ((l.length : Int) - 1 - (k : Int)) = (J : Int) := by rw [IntKind.wrap_i64]; omega
        have hputB := fun W (hB : Below w4.heap.size w4 W) => put_calls w.heap.size bA vb ys y y (rk ys y) W (hT4.kept hB).tb (place_rk ys y hgy.srt) (by omega) (hT4.kept hB).below.size
        rw [putL_insL] at hputB
        clear hputA
        go_wp2_with fail
        go_region_with (go_at_call 16; refine (hputB _ ?_).mono ?_; exact ⟨rfl, rfl, rfl, Nat.le_refl _, fun _ _ => rfl⟩; rintro e w5 ⟨rfl, hTv⟩))
      all_goals (
        obtain ⟨vb', hT5⟩ := (hT4.kept (W' := w4.drew) ⟨rfl, rfl, rfl, Nat.le_refl _, fun _ _ => rfl⟩).swap.turned hTv
        have hT6 := hT5.swap
        clear hputB
        have s1 : (fun q => q ∈ l.take (k + 1)) = (fun q => q ∈ l.take k ∨ q = x) := by funext q; rw [take_snoc hx]; simp
        have s2 : (fun q => q ∈ l.drop (l.length - (k + 1))) = (fun q => q ∈ l.drop (l.length - k) ∨ q = y) := by
          obtain ⟨hi, ey⟩ := List.getElem?_eq_some_iff.1 hy
          funext q
          rw [show l.length - (k + 1) = l.length - 1 - k by omega, List.drop_eq_getElem_cons hi, ey, show l.length - 1 - k + 1 = l.length - k by omega]
          simp [or_comm]
        go_wp2
        go_roundw
        case rel => exact ⟨k + 1, va', vb', insL x xs, insL y ys, by go_num, by omega, hT6, s1 ▸ hgx.put x, s2 ▸ hgy.put y, Nat.le_trans (insL_len x xs) (by omega), Nat.le_trans (insL_len y ys) (by omega)⟩
        case measure => simp [intOf]; omega)
    · obtain rfl : k = l.length := by omega
      have d1 : ¬ ((l.length : Int) < (l.length : Int)) := by omega
      rw [List.take_length] at hgx
      rw [Nat.sub_self, List.drop_zero] at hgy
      have hxy : xs = ys := hgx.one hgy
      subst hxy
      have hkA := fun W (hB : Below wr.heap.size wr W) => keys_calls w.heap.size w.heap.size va xs W (hT.kept hB).ta (by omega)
      go_wp2_with fail
      refine (hkA wr (Below.refl _ wr)).mono ?_
      rintro e w4 ⟨vk, rfl, hRk, hbk⟩
      have hT4 := hT.kept hbk
      have hkB := keys_calls w.heap.size bA vb xs w4 hT4.tb (by omega)
      obtain ⟨Ak, ck, rfl⟩ := own_slice hRk
      go_wp2_with fail
      refine hkB.mono ?_
      rintro e w5 ⟨vk2, rfl, hRk2, hbk2⟩
      have hT5 := hT4.kept hbk2
      obtain ⟨Ak2, ck2, rfl⟩ := own_slice hRk2
      go_wp2_with fail
      refine (len_calls w.heap.size w.heap.size va xs w5 hT5.ta).mono ?_
      rintro e w6 ⟨rfl, rfl⟩
      have hplace : ∀ (i : Nat) (x : Int × Int), xs[i]? = some x → Place xs x.1 i := fun i x hx => by
        obtain ⟨hi, ex⟩ := List.getElem?_eq_some_iff.1 hx
        have hp := List.pairwise_iff_getElem.1 hgx.srt
        refine ⟨by omega, fun j z hz => ?_⟩
        obtain ⟨hj, ez⟩ := List.getElem?_eq_some_iff.1 hz
        constructor
        · intro h
          have h2 : z.1 < x.1 := by simpa [ltK] using h
          by_cases hji : j < i
          · exact hji
          · by_cases e : i = j
            · subst e; rw [ex] at ez; subst ez; omega
            · have := hp i j hi hj (by omega); rw [ex, ez] at this; omega
        · intro h
          have := hp j i hj hi h
          rw [ex, ez] at this
          simpa [ltK] using this
      go_wp2_with fail
      go_loopw [80] (fun i wr => ∃ k : Nat, i = .int .i64 (k : Int) ∧ k ≤ xs.length ∧ Below w6.heap.size w6 wr) (fun i _ => xs.length - (intOf i).toNat)
      case atStart => exact ⟨0, rfl, Nat.zero_le _, Below.refl _ _⟩
      case round =>
        obtain ⟨k, rfl, hk, hB⟩ := hrel
        have hT6 := hT5.kept hB
        by_cases hlt : k < xs.length
        · have c1 : (k : Int) < (xs.length : Int) := by omega
          have c2 : (0 : Int) ≤ (k : Int) := by omega
          obtain ⟨x, hx⟩ : ∃ x, xs[k]? = some x := ⟨_, List.getElem?_eq_getElem hlt⟩
          obtain ⟨g1, p1, e1, _, _⟩ := own_form hRk (by omega)
          cases e1
          obtain ⟨g2, p2, e2, _, _⟩ := own_form hRk2 (by omega)
          cases e2
          have hq1 := own_below (own_below hRk hbk2) hB
          have hq2 := own_below hRk2 hB
          have hk1 : wr.cell? ⟨g1, k, none⟩ = some (.int .i64 x.1) := (hq1.cellAt k (by omega)).trans (by rw [List.getElem?_map, hx]; rfl)
          have hk2 : wr.cell? ⟨g2, k, none⟩ = some (.int .i64 x.1) := (hq2.cellAt k (by omega)).trans (by rw [List.getElem?_map, hx]; rfl)
          have hx2 := hgx.diag x (List.mem_of_getElem? hx)
          have hrank := rank_calls w.heap.size w.heap.size va xs x.1 k wr hT6.ta (hplace k x hx) (by omega) hT6.below.size
          have hat := fun W (hW : Below wr.heap.size wr W) => at_calls w.heap.size w.heap.size va xs k x W (hT6.kept hW).ta hx (by omega)
          go_wp2_with fail
          refine hrank.mono ?_
          rintro e w7 ⟨rfl, hb7⟩
          go_wp2_with fail
          refine (hat w7 hb7).mono ?_
          rintro e w8 ⟨rfl, q, rfl⟩
          rw [hx2]
          have hk1' : w7.cell? ⟨g1, k, none⟩ = some (.int .i64 x.1) := (hb7.cell (World.block_lt_of_cell? wr _ hk1)).trans hk1
          have hk2' : w7.cell? ⟨g2, k, none⟩ = some (.int .i64 x.1) := (hb7.cell (World.block_lt_of_cell? wr _ hk2)).trans hk2
          by_cases h0 : 0 < k
          · have c3 : (0 : Int) < (k : Int) := by omega
            obtain ⟨K, hK⟩ : ∃ K, k - 1 = K := ⟨_, rfl⟩
            obtain ⟨y, hy⟩ : ∃ y, xs[K]? = some y := ⟨_, List.getElem?_eq_getElem (by omega)⟩
            have hy1 : w7.cell? ⟨g1, K, none⟩ = some (.int .i64 y.1) := ((own_below hq1 hb7).cellAt K (by omega)).trans (by rw [List.getElem?_map, hy]; rfl)
            have hlt2 : y.1 < x.1 := by
              obtain ⟨hi, ex⟩ := List.getElem?_eq_some_iff.1 hx
              obtain ⟨hj, ey⟩ := List.getElem?_eq_some_iff.1 hy
              have := List.pairwise_iff_getElem.1 hgx.srt K k hj hi (by omega)
              rw [ex, ey] at this
              exact this
            have c4 : ¬ (x.1 ≤ y.1) := by omega
            have c8 : decide (x.1 ≤ y.1) = false := decide_eq_false c4
            have c9 : decide (y.1 ≥ x.1) = false := decide_eq_false c4
            have c5 : IntKind.i64.wrap ((k : Int) - 1) = (K : Int) := by rw [IntKind.wrap_i64]; omega
            have c6 : (0 : Int) ≤ (K : Int) := by omega
            have c7 : (K : Int) < (xs.length : Int) := by omega
            go_wp2_with fail
            go_big_quiet (fail)
            go_wp2
            go_roundw
            case rel => exact ⟨k + 1, by go_num, by omega, below_trans hB (below_trans hb7 ⟨rfl, rfl, rfl, Nat.le_refl _, fun _ _ => rfl⟩)⟩
            case measure => simp [intOf]; omega
          · have c3 : ¬ ((0 : Int) < (k : Int)) := by omega
            have c4 : (k : Int) ≤ 0 := by omega
            go_wp2_with fail
            go_big_quiet (fail)
            go_wp2
            go_roundw
            case rel => exact ⟨k + 1, by go_num, by omega, below_trans hB (below_trans hb7 ⟨rfl, rfl, rfl, Nat.le_refl _, fun _ _ => rfl⟩)⟩
            case measure => simp [intOf]; omega
        · obtain rfl : k = xs.length := by omega
          have c1 : ¬ ((xs.length : Int) < (xs.length : Int)) := by omega
          go_wp2_with fail
          go_loopw [143] (fun i wr => ∃ k : Nat, i = .int .i64 (k : Int) ∧ k ≤ l.length ∧ Below w6.heap.size w6 wr) (fun i _ => l.length - (intOf i).toNat)
          case atStart => exact ⟨0, rfl, Nat.zero_le _, hB⟩
          case round =>
            obtain ⟨k, rfl, hk, hB2⟩ := hrel
            have hT7 := hT5.kept hB2
            by_cases hlt2 : k < l.length
            · have c2 : (k : Int) < (l.length : Int) := by omega
              have c3 : (0 : Int) ≤ (k : Int) := by omega
              obtain ⟨x, hx⟩ : ∃ x, l[k]? = some x := ⟨_, List.getElem?_eq_getElem hlt2⟩
              obtain ⟨ad, rfl, hcx⟩ := hrd _ hT7.below k x hx
              obtain ⟨i, hi⟩ := List.mem_iff_getElem?.1 ((hgx.mem x).2 (List.mem_of_getElem? hx))
              have hget := get_calls w.heap.size bA vb xs x i _ hT7.tb (hplace i (x, x) hi) (by omega) hT7.below.size
              have hg2 : getL xs x i = (x, true) := by
                unfold getL
                rw [hi]
                have h : (cmpK x x == 0) = true := by rw [cmp_zero]; simp
                simp [h]
              rw [hg2] at hget
              go_wp2_with fail
              refine hget.mono ?_
              rintro e w8 ⟨rfl, hb8⟩
              go_wp2
              go_roundw
              case rel => exact ⟨k + 1, by go_num, by omega, below_trans hB2 hb8⟩
              case measure => simp [intOf]; omega
            · obtain rfl : k = l.length := by omega
              have c2 : ¬ ((l.length : Int) < (l.length : Int)) := by omega
              go_wp2
              go_ret
              exact ⟨rfl, hT7.below⟩
end Go.Proofs.Ytbpaejbecgaepaa.TabII
