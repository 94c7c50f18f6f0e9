/- A table and the reference's table that share nothing; filling both; are they the same? -/
import Derived.Test.YtbpaejbecgaepaaSrtIS
import Derived.Test.YtbpaejbecgaepaaIterL
import Derived.BigQuiet
namespace Go.Proofs.Ytbpaejbecgaepaa.TabIS
open Go Go.RowKit Go.Proofs Go.BigFrame
set_option linter.unusedVariables false
set_option linter.unusedSimpArgs false

theorem own_ge {W : World} {n0 b : Nat} {v : Value} {e : TypeId} {n : Nat} {cs : List Value} (h : W.ownsRow n0 e 2 v n cs) (hb : n0 ≤ b) : ∀ j, Own b v j → n0 ≤ j := fun j hj => by
  rcases hj with rfl | hj
  · exact hb
  · exact (h.lt j hj).1
theorem below_keep {n : Nat} {w0 w w' : World} {S : Nat → Prop} (h : Below n w0 w) (hn : n ≤ w.heap.size) (k : Keep w w' S) (hS : ∀ j, S j → n ≤ j) : Below n w0 w' :=
  h.trans ⟨k.os, k.tape, k.output, k.size, fun j hj => k.block j (by omega) (fun e => by have := hS j e; omega)⟩
/-- A table and one of the reference. -/
structure Duo (n0 : Nat) (W : World) (a : Nat) (va : Value) (xs : Prs) (b : Nat) (vb : Value) (ys : Prs) : Prop where
  ta : IsTab W n0 a va xs
  tb : IsRef W n0 b vb ys
  ga : n0 ≤ a
  gb : n0 ≤ b
  apart : ∀ j, Own a va j → ¬ Own b vb j
theorem Duo.own_a {n0 : Nat} {W : World} {a : Nat} {va : Value} {xs : Prs} {b : Nat} {vb : Value} {ys : Prs} (h : Duo n0 W a va xs b vb ys) : ∀ j, Own a va j → n0 ≤ j := own_ge h.ta.rows h.ga
theorem Duo.own_b {n0 : Nat} {W : World} {a : Nat} {va : Value} {xs : Prs} {b : Nat} {vb : Value} {ys : Prs} (h : Duo n0 W a va xs b vb ys) : ∀ j, Own b vb j → n0 ≤ j := own_ge h.tb.rows h.gb
theorem Duo.size {n0 : Nat} {W : World} {a : Nat} {va : Value} {xs : Prs} {b : Nat} {vb : Value} {ys : Prs} (h : Duo n0 W a va xs b vb ys) : n0 ≤ W.heap.size := by have := h.ta.lt; have := h.ga; omega
/-- What touches neither. -/
theorem Duo.keep {n0 : Nat} {W W' : World} {a : Nat} {va : Value} {xs : Prs} {b : Nat} {vb : Value} {ys : Prs} {S : Nat → Prop} (h : Duo n0 W a va xs b vb ys) (k : Keep W W' S) (hA : ∀ j, Own a va j → ¬ S j) (hB : ∀ j, Own b vb j → ¬ S j) : Duo n0 W' a va xs b vb ys :=
  ⟨h.ta.kept k (hA a (.inl rfl)) (fun j hj => hA j (.inr hj)), h.tb.kept k (hB b (.inl rfl)) (fun j hj => hB j (.inr hj)), h.ga, h.gb, h.apart⟩
theorem Duo.kept {n0 : Nat} {W W' : World} {a : Nat} {va : Value} {xs : Prs} {b : Nat} {vb : Value} {ys : Prs} (h : Duo n0 W a va xs b vb ys) (k : Below W.heap.size W W') : Duo n0 W' a va xs b vb ys :=
  h.keep (Keep.of_below k (fun _ => False)) (fun _ _ => id) (fun _ _ => id)
theorem own_lt_tab {W : World} {n0 b : Nat} {v : Value} {xs : Prs} (h : IsTab W n0 b v xs) : ∀ j, Own b v j → j < W.heap.size := fun j hj => by
  rcases hj with rfl | hj
  · exact h.lt
  · exact (h.rows.lt j hj).2
theorem own_lt_ref {W : World} {n0 b : Nat} {v : Value} {xs : Prs} (h : IsRef W n0 b v xs) : ∀ j, Own b v j → j < W.heap.size := fun j hj => by
  rcases hj with rfl | hj
  · exact h.lt
  · exact (h.rows.lt j hj).2
theorem Duo.turnedT {n0 : Nat} {W W' : World} {a : Nat} {va : Value} {xs zs : Prs} {b : Nat} {vb : Value} {ys : Prs} (h : Duo n0 W a va xs b vb ys) (t : Turned W n0 a va zs W') : ∃ v', Duo n0 W' a v' zs b vb ys ∧ Keep W W' (Own a va) := by
  obtain ⟨v', t1, t2, t3⟩ := t
  refine ⟨v', ⟨t1, h.tb.kept t2 (fun e => h.apart b e (.inl rfl)) (fun j hj e => h.apart j e (.inr hj)), h.ga, h.gb, ?_⟩, t2⟩
  intro j hj hb
  rcases hj with rfl | hj
  · exact h.apart _ (.inl rfl) hb
  · rcases t3 with t3 | ⟨g, t3, hg⟩
    · exact h.apart j (.inr (t3 ▸ hj)) hb
    · rw [t3] at hj
      obtain rfl := Option.some.inj hj
      have := own_lt_ref h.tb _ hb
      omega
theorem Duo.turnedR {n0 : Nat} {W W' : World} {a : Nat} {va : Value} {xs zs : Prs} {b : Nat} {vb : Value} {ys : Prs} (h : Duo n0 W a va xs b vb ys) (t : RTurned W n0 b vb zs W') : ∃ v', Duo n0 W' a va xs b v' zs ∧ Keep W W' (Own b vb) := by
  obtain ⟨v', t1, t2, t3⟩ := t
  refine ⟨v', ⟨h.ta.kept t2 (fun e => h.apart a (.inl rfl) e) (fun j hj e => h.apart j (.inr hj) e), t1, h.ga, h.gb, ?_⟩, t2⟩
  intro j ha hj
  rcases hj with rfl | hj
  · exact h.apart _ ha (.inl rfl)
  · rcases t3 j hj with t3 | hg
    · exact h.apart j ha (.inr t3)
    · have := own_lt_tab h.ta _ ha
      omega
/-- Filled so far. -/
structure Fld (w W : World) (a : Nat) (va : Value) (b : Nat) (vb : Value) (xs : Prs) (k : Nat) : Prop where
  duo : Duo w.heap.size W a va xs b vb xs
  below : Below w.heap.size w W
  srt : Srt xs
  len : xs.length ≤ k
set_option maxHeartbeats 4000000 in
set_option maxRecDepth 100000 in
theorem filled_calls (A : Option Addr) (c : Nat) (l : List Int) (s : ByteArray) (w : World) (hl : l.length ≤ 1048576) (hr : ∀ i x, l[i]? = some x → ∃ ad, A = some ad ∧ w.cell? (ad.add i) = some (.int .i64 x)) :
    Calls Try.prog 10 #[.slice A l.length c, .string s] w fun e w' => ∃ a va b vb xs, e = .returned (.tuple #[.pointer (some ⟨a, 0, none⟩), .pointer (some ⟨b, 0, none⟩)]) ∧ Fld w w' a va b vb xs l.length := by
  have hrd : ∀ (W : World), Below w.heap.size w W → ∀ i x, l[i]? = some x → ∃ ad, A = some ad ∧ W.cell? (ad.add i) = some (.int .i64 x) := fun W hW i x hx => by
    obtain ⟨ad, e, h⟩ := hr i x hx
    exact ⟨ad, e, (hW.cell (World.block_lt_of_cell? w _ h)).trans h⟩
  go_enter Try.func10, Try.ntmps10
  go_wp2_with fail
  refine (new_calls w).mono ?_
  rintro e w1 ⟨rfl, hT1, hb1⟩
  have hW1 : Below w.heap.size w (w1.alloc (.cells #[.slice none 0 0] 31)) := hb1.alloc hb1.size _
  have hF : Fld w (w1.alloc (.cells #[.slice none 0 0] 31)) w.heap.size (.slice none 0 0) w1.heap.size (.slice none 0 0) [] 0 := by
    refine ⟨⟨hT1.below ((Below.refl _ w1).alloc (Nat.le_refl _) _), ⟨heap_alloc_new w1 _, World.ownsRow_nil _ _ _ _, by simp [Value.ownBlock]⟩, Nat.le_refl _, hb1.size, ?_⟩, hW1, List.Pairwise.nil, Nat.zero_le _⟩
    rintro j (rfl | hj) (h | h)
    · have := hT1.lt; omega
    · simp [Value.ownBlock] at h
    · simp [Value.ownBlock] at hj
    · simp [Value.ownBlock] at h
  obtain ⟨bA, hbA⟩ : ∃ bA, w1.heap.size = bA := ⟨_, rfl⟩
  rw [hbA] at hF
  go_wp2_with fail
  go_loopw [15] (fun i wr => ∃ (k : Nat) (va vb : Value) (xs : Prs), i = .int .i64 (k : Int) ∧ k ≤ l.length ∧ Fld w wr w.heap.size va bA vb xs k) (fun i _ => l.length - (intOf i).toNat)
  case atStart => exact ⟨0, _, _, [], rfl, Nat.zero_le _, hF⟩
  case round =>
    obtain ⟨k, va, vb, xs, rfl, hk, hF⟩ := hrel
    by_cases hlt : k < l.length
    · have d1 : (k : Int) < (l.length : Int) := by omega
      have d2 : (0 : Int) ≤ (k : Int) := by omega
      obtain ⟨x, hx⟩ : ∃ x, l[k]? = some x := ⟨_, List.getElem?_eq_getElem hlt⟩
      obtain ⟨ad, rfl, hcx⟩ := hrd wr hF.below k x hx
      have hlen := hF.len
      have hpl := place_rk xs x hF.srt
      go_wp2_with fail
      refine (put_calls w.heap.size _ va xs x s (rk xs x) wr hF.duo.ta hpl (by omega) hF.duo.size).mono ?_
      rintro e w4 ⟨rfl, hTu⟩
      obtain ⟨va', hD4, hk4⟩ := hF.duo.turnedT hTu
      have hb4 := below_keep hF.below hF.duo.size hk4 hF.duo.own_a
      go_wp2_with fail
      refine (ref_put_calls w.heap.size _ vb xs x s (rk xs x) w4 hD4.tb hpl (by omega) hD4.size).mono ?_
      rintro e w5 ⟨rfl, hTv⟩
      obtain ⟨vb', hD5, hk5⟩ := hD4.turnedR hTv
      have hb5 := below_keep hb4 hD4.size hk5 hD4.own_b
      go_wp2
      go_roundw
      case rel => exact ⟨k + 1, va', vb', _, by go_num, by omega, hD5, hb5, putL_srt hF.srt x s, Nat.le_trans (putL_len xs x s) (by omega)⟩
      case measure => simp [intOf]; omega
    · obtain rfl : k = l.length := by omega
      have d1 : ¬ ((l.length : Int) < (l.length : Int)) := by omega
      go_wp2
      go_ret2
      exact ⟨_, va, _, rfl, vb, xs, hF⟩
end Go.Proofs.Ytbpaejbecgaepaa.TabIS
