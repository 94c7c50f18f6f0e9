/- Merge, of the table and of the reference. -/
import Derived.Test.YtbpaejbecgaepaaFromF
namespace Go.Proofs.Ytbpaejbecgaepaa.TabIS
open Go Go.RowKit Go.Proofs Go.Shelf Go.Proofs.Ytbpaejbecgaepaa.Hand
set_option linter.unusedVariables false
set_option linter.unusedSimpArgs false
attribute [local go_sem] Oper.semAt_some

/-- All pairs of a list are put, one by one. -/
def putAll (xs : Prs) : Prs → Prs
  | [] => xs
  | y :: ys => putAll (putL xs y.1 y.2 (rk xs y.1)) ys
theorem putAll_snoc : ∀ (ys xs : Prs) (y : Int × ByteArray), putAll xs (ys ++ [y]) = putL (putAll xs ys) y.1 y.2 (rk (putAll xs ys) y.1)
  | [], xs, y => rfl
  | z :: ys, xs, y => by
    show putAll _ (ys ++ [y]) = _
    rw [putAll_snoc ys]
    rfl
theorem putAll_srt : ∀ (ys xs : Prs), Srt xs → Srt (putAll xs ys)
  | [], xs, h => h
  | y :: ys, xs, h => putAll_srt ys _ (putL_srt h y.1 y.2)
theorem putAll_len : ∀ (ys xs : Prs), (putAll xs ys).length ≤ xs.length + ys.length
  | [], xs => by simp [putAll]
  | y :: ys, xs => by
    have h1 := putAll_len ys (putL xs y.1 y.2 (rk xs y.1))
    have h2 := putL_len xs y.1 y.2
    simp only [putAll, List.length_cons]
    omega
/-- A table speaks of cells alone. -/
theorem tab_own {β : Type} (B0 n0 b : Nat) (f : β → Prs) (Φ : Value → Prop) : OwnFrom B0 (fun (s : β) W => ∃ v, IsTab W n0 b v (f s) ∧ Φ v) := by
  rintro s A C row ⟨v, hT, hΦ⟩ hg hr
  refine ⟨v, ⟨(hg.block b hT.lt (fun e => ?_)).trans hT.blk, hT.rows.kept hg ?_, hT.apart⟩, hΦ⟩
  · obtain ⟨_, o, ho, hc⟩ := hr b e.symm
    rw [hT.blk] at ho; cases ho; cases hc
  · cases hrow : row with
    | none =>
      rcases Option.eq_none_or_eq_some v.ownBlock with h | ⟨q, h⟩
      · exact .inl h
      · exact .inr (by rw [h]; simp)
    | some r =>
      obtain ⟨_, o, ho, hc⟩ := hr r hrow
      exact .inr (own_ne hT.rows ho hc)
theorem tab_cells {W : World} {n0 b : Nat} {v : Value} {xs : Prs} (hT : IsTab W n0 b v xs) : ∀ j, Own b v j → ∀ o, W.heap[j]? = some o → o.isCells = true := by
  rintro j (rfl | hj) o ho
  · rw [hT.blk] at ho; cases ho; rfl
  · rcases hT.rows.2 with ⟨rfl, _⟩ | ⟨g, cap, cur, rfl, _, hb, _⟩
    · simp [Value.ownBlock] at hj
    · have : g = j := by simpa [Value.ownBlock] using hj
      subst this
      rw [hb] at ho; cases ho; rfl
theorem keep_others {W W' : World} {S : Nat → Prop} (k : Keep W W' S) (h : ∀ j, S j → ∀ o, W.heap[j]? = some o → o.isCells = true) : KeepsOthers W W' :=
  ⟨k.size, fun j o ho hc => (k.block j (Array.getElem?_eq_some_iff.1 ho).1 (fun e => by have := h j e o ho; rw [hc] at this; cases this)).trans ho⟩
/-- What a call on a table leaves, for a world further back. -/
theorem Keep.then {W0 W W' : World} {b : Nat} {v0 v : Value} (h : Keep W0 W (Own b v0)) (k : Keep W W' (Own b v)) (hv : ∀ g, v.ownBlock = some g → v0.ownBlock = some g ∨ W0.heap.size ≤ g) : Keep W0 W' (Own b v0) :=
  h.trans k (fun j hj e => by
    rcases e with rfl | e
    · exact .inl rfl
    · rcases hv j e with h | h
      · exact .inr h
      · omega)
set_option maxHeartbeats 4000000 in
set_option maxRecDepth 100000 in
theorem merge_of (pa pb : Option Addr) (xs ys : Prs) (w : World) (hs : Srt xs) (hlx : xs.length ≤ 1073741824) (hly : ys.length ≤ 1073741824)
    (hclone : Calls Try.prog 32 #[.pointer pa] w fun e w' => ∃ b' v', e = .returned (.pointer (some ⟨b', 0, none⟩)) ∧ w.heap.size ≤ b' ∧ IsTab w' w.heap.size b' v' xs ∧ Below w.heap.size w w')
    (hAll : ∀ W, Below w.heap.size w W → Calls Try.prog 22 #[.pointer pb] W fun e w' => ∃ B v2, e = .returned (.func (.func 63) #[] #[.pointer (some ⟨B, 0, none⟩)]) ∧ Over W v2 ys B w') :
    Calls Try.prog 35 #[.pointer pa, .pointer pb] w fun e w' => ∃ b' v', e = .returned (.pointer (some ⟨b', 0, none⟩)) ∧ w.heap.size ≤ b' ∧ IsTab w' w.heap.size b' v' (putAll xs ys) ∧ Below w.heap.size w w' := by
  refine (callsIn_wide (n := 9)).1 ?_
  refine callsIn_of_wp_marks Try.func35 rfl trivial ?_ rfl
  simp only [Try.ntmps35, List.size_toArray, List.length_cons, List.length_nil, Nat.reduceAdd, Nat.reduceSub, Array.replicate_succ, Array.replicate_zero, List.push_toArray, List.append_toArray, List.nil_append, List.cons_append]
  have hf1 : Fence.wide.fn 32 := trivial
  have hf2 : Fence.wide.fn 22 := trivial
  gi_wp2_with fail
  refine CallsIn.mono (callsIn_wide.2 hclone) ?_
  rintro e w1 ⟨b', v', rfl, hbge, hT1, hb1⟩
  have hb1' : Below w.heap.size w (w1.alloc (.cells #[.pointer (some ⟨b', 0, none⟩)] 23)) := hb1.alloc hb1.size _
  have hall := hAll _ hb1'
  gi_wp2_with fail
  refine CallsIn.mono (callsIn_wide.2 hall) ?_
  rintro e w2 ⟨B, v2, rfl, hBge, hB, hR2, hb2⟩
  rw [World.size_alloc] at hBge hR2 hb2
  have bO : Boxed w2 w1.heap.size 23 (.pointer (some ⟨b', 0, none⟩)) := (hb2.block _ (by omega)).trans (Boxed.new w1 _ _)
  have hT2 : IsTab w2 w.heap.size b' v' xs := (hT1.below ((Below.refl _ w1).alloc (Nat.le_refl _) (.cells #[.pointer (some ⟨b', 0, none⟩)] 23))).below (by rw [World.size_alloc]; exact hb2)
  have hbw2 : Below w.heap.size w w2 := hb1'.trans ⟨hb2.os, hb2.tape, hb2.output, hb2.size, fun q hq => hb2.block q (by have := hb1.size; omega)⟩
  have hs1 := hb1.size
  have hs2 : w1.heap.size + 1 ≤ w2.heap.size := by have := hb2.size; rw [World.size_alloc] at this; exact this
  have hBlt : B < w2.heap.size := (Array.getElem?_eq_some_iff.1 hB).1
  have hv2 : ∀ j, v2.ownBlock = some j → w1.heap.size + 1 ≤ j := fun j hj => (hR2.lt j hj).1
  have hvlt : ∀ j, Own b' v' j → w.heap.size ≤ j ∧ j < w1.heap.size := fun j hj => ⟨own_ge hT1.rows hbge j hj, own_lt_tab hT1 j hj⟩
  have hf3 : Fence.wide.fn 24 := trivial
  gi_wp2_with fail
  refine rangeL (n := 9) (F := Fence.wide) rfl (by decide) (gf := 63) (lb := #[.pointer (some ⟨B, 0, none⟩)]) rfl trivial (enters_of Try.func63 (by kernel_rfl) rfl)
    (encs := encs) (S := fun zs => zs = ys) (Sp := fun _ => True) (G := Next ys) (by intro x; rfl)
    (fun pre W => Keep w2 W (Own b' v') ∧ ∃ v, IsTab W w.heap.size b' v (putAll xs pre) ∧ ∀ g, v.ownBlock = some g → v'.ownBlock = some g ∨ w2.heap.size ≤ g)
    (fun _ _ _ => False)
    ((keep_own (fun _ => Own b' v') (Nat.le_refl _)).and (tab_own _ _ _ _ (fun v => ∀ g, v.ownBlock = some g → v'.ownBlock = some g ∨ w2.heap.size ≤ g)))
    (fun _ => ownFrom_pure _ (fun _ => False))
    ⟨Keep.refl _ _, v', hT2, fun g h => .inl h⟩ ?a1 ?iter ?assign ?body ?done ?stop
  case assign =>
    intro l x W K hK
    gi_wp2
    exact hK
  case iter =>
    intro l J Jx W hJI hJk hY h0 hW hbW
    refine over_leaves 8 l _ B (w1.heap.size + 1) v2 ys _ J Jx (by decide) (by omega) (fun s A h => ⟨(h.1.block B hBlt (fun e => by have := (hvlt B e).2; omega)).trans hB, rows_keep hR2 h.1 (fun j hj e => by have := (hvlt j e).2; have := hv2 j hj; omega)⟩) (fun s A o h => ⟨h.1.alloc o, ?_⟩) hJI hJk hY W h0
    obtain ⟨v, hT, hv⟩ := h.2
    exact ⟨v, hT.below ((Below.refl _ A).alloc (Nat.le_refl _) _), hv⟩
  case body =>
    rintro l pre x W ⟨hK, v, hT, hv⟩ ⟨hx, hpre⟩
    have hlp : pre.length < ys.length := (List.getElem?_eq_some_iff.1 hx).1
    clear hpre
    have hsz := putAll_len pre xs
    have hso := putAll_srt pre xs hs
    have hbx : Boxed W w1.heap.size 23 (.pointer (some ⟨b', 0, none⟩)) := (hK.block _ (by omega) (fun e => by have := (hvlt _ e).2; omega)).trans bO
    have hcx := hbx.cell
    have hput := put_calls w.heap.size b' v (putAll xs pre) x.1 x.2 (rk (putAll xs pre) x.1) W hT (place_rk _ _ hso) (by omega) (by have := hT.lt; omega)
    gi_wp2_with fail
    refine CallsIn.mono ((callsIn_wide.2 hput).inRound l) ?_
    rintro e W3 ⟨rfl, v3, hT3, hk3, hv3⟩
    gi_wp2
    refine ⟨(keep_others hk3 (tab_cells hT)).from _, Keep.then hK hk3 hv, v3, ?_, fun g h => ?_⟩
    · rw [putAll_snoc]; exact hT3
    · rcases hv3 with hv3 | ⟨g', hv3, hg'⟩
      · exact hv g (hv3 ▸ h)
      · rw [hv3] at h
        obtain rfl := Option.some.inj h
        exact .inr (Nat.le_trans hK.size hg')
  case done =>
    rintro D zs W hD hS ⟨hK, v, hT, hv⟩ hDD
    subst hS
    have hbx : Boxed W w1.heap.size 23 (.pointer (some ⟨b', 0, none⟩)) := (hK.block _ (by omega) (fun e => by have := (hvlt _ e).2; omega)).trans bO
    have hcx := hbx.cell
    have hbW := hK.below hbw2 (fun k hk => (hvlt k hk).1)
    gi_wp2
    refine ⟨by simp, .inl ⟨_, _, rfl, run_takeDeferred hDD, ?_⟩⟩
    obtain ⟨v4, hT4, _⟩ := (tab_own (β := Unit) w.heap.size w.heap.size b' (fun _ => putAll xs zs) (fun _ => True)).putObj (s := ()) (.deferred none) ⟨v, hT, trivial⟩ (by omega : w.heap.size ≤ D) hDD rfl
    exact ⟨_, results_tmp rfl _ _ _, b', v4, rfl, hbge, hT4, hbW.trans (belowK_b (w := w) (Nat.le_refl _) _ D _ _ (by omega) hDD rfl rfl)⟩
  case stop =>
    rintro D cd pre W hD _ h hDD
    exact h.elim
set_option maxHeartbeats 4000000 in
set_option maxRecDepth 100000 in
theorem ref_merge (n1 n2 a b : Nat) (va vb : Value) (xs ys : Prs) (w : World) (hs : Srt xs) (hlx : xs.length ≤ 1073741824) (hly : ys.length ≤ 1073741824) (hA : IsRef w n1 a va xs) (hB : IsRef w n2 b vb ys) (h1 : n1 ≤ w.heap.size) :
    Calls Try.prog 36 #[.pointer (some ⟨a, 0, none⟩), .pointer (some ⟨b, 0, none⟩)] w fun e w' => ∃ b' v', e = .returned (.pointer (some ⟨b', 0, none⟩)) ∧ w.heap.size ≤ b' ∧ IsRef w' w.heap.size b' v' (putAll xs ys) ∧ Below w.heap.size w w' := by
  obtain ⟨A2, c2, rfl⟩ := own_slice hB.rows
  go_enter Try.func36, Try.ntmps36
  go_wp2_with fail
  refine (ref_clone_calls n1 a va xs w hA (by omega) h1).mono ?_
  rintro e w1 ⟨b', v', rfl, hbge, hT1, hb1⟩
  have hB1 := hB.below hb1
  have hcb := cell_of_row w1 b 0 _ _ _ hB1.blk
  go_wp2_with fail
  go_loopw [15] (fun i wr => ∃ (k : Nat) (v : Value), i = .int .i64 (k : Int) ∧ k ≤ ys.length ∧ IsRef wr w.heap.size b' v (putAll xs (ys.take k)) ∧ Below w.heap.size w wr) (fun i _ => ys.length - (intOf i).toNat)
  case atStart => exact ⟨0, v', rfl, Nat.zero_le _, hT1, hb1⟩
  case round =>
    obtain ⟨k, v, rfl, hk, hT, hb⟩ := hrel
    by_cases hlt : k < ys.length
    · have d1 : (k : Int) < (ys.length : Int) := by omega
      have d2 : (0 : Int) ≤ (k : Int) := by omega
      obtain ⟨x, hx⟩ : ∃ x, ys[k]? = some x := ⟨_, List.getElem?_eq_getElem hlt⟩
      obtain ⟨g2, p2, e2, _, _⟩ := own_form hB.rows (by omega)
      cases e2
      have hB2 := hB.below hb
      obtain ⟨hk2, hk3⟩ := rrows_cell hB2.rows hx
      have hso := putAll_srt (ys.take k) xs hs
      have hsz := putAll_len (ys.take k) xs
      rw [List.length_take] at hsz
      have hba : Below wr.heap.size wr (wr.alloc (.cells #[.int .i64 x.1, .string x.2] 48)) := (Below.refl _ wr).alloc (Nat.le_refl _) _
      have hput := ref_put_calls w.heap.size b' v (putAll xs (ys.take k)) x.1 x.2 (rk (putAll xs (ys.take k)) x.1) _ (hT.below hba) (place_rk _ _ hso) (by omega) (Nat.le_trans hb.size hba.size)
      go_wp2_with fail
      refine hput.mono ?_
      rintro e w4 ⟨rfl, v4, hT4, hk4, _⟩
      have hb4 := below_keep (hb.alloc hb.size _) (Nat.le_trans hb.size hba.size) hk4 (own_ge hT.rows hbge)
      go_wp2
      go_roundw
      case rel => exact ⟨k + 1, v4, by go_num, by omega, by rw [take_snoc hx, putAll_snoc]; exact hT4, hb4⟩
      case measure => simp [intOf]; omega
    · obtain rfl : k = ys.length := by omega
      have d1 : ¬ ((ys.length : Int) < (ys.length : Int)) := by omega
      rw [List.take_length] at hT
      go_wp2
      go_ret
      exact ⟨b', rfl, hbge, ⟨v, hT⟩, hb⟩
end Go.Proofs.Ytbpaejbecgaepaa.TabIS
