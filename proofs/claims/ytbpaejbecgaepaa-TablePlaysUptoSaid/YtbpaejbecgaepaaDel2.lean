/- The table's Delete, Clone, From, At beyond its end; and what a nil table answers. -/
import Derived.Test.YtbpaejbecgaepaaDel
import Derived.Test.YtbpaejbecgaepaaAtIS
import Derived.Test.YtbpaejbecgaepaaKeysIS
import Derived.Deep.RegionWith
namespace Go.Proofs.Ytbpaejbecgaepaa.TabIS
open Go Go.RowKit Go.Proofs
set_option linter.unusedVariables false
set_option linter.unusedSimpArgs false

set_option maxHeartbeats 4000000 in
set_option maxRecDepth 100000 in
theorem delete_calls (base b : Nat) (v : Value) (xs : List (Int × ByteArray)) (k : Int) (r : Nat) (w : World) (hT : IsTab w base b v xs) (hp : Place xs k r) (hl : xs.length ≤ 1099511627776) (hbase : base ≤ w.heap.size) :
    Calls Try.prog 23 #[.pointer (some ⟨b, 0, none⟩), .int .i64 k] w fun e w' => e = .returned (.bool (hasAt xs k r)) ∧ Turned w base b v (delL xs k r) w' := by
  have hc := find_calls base b v xs k r w hT hp (by omega) hbase
  unfold delL
  cases hh : hasAt xs k r with
  | false =>
    rw [hh] at hc
    go_enter Try.func23, Try.ntmps23
    go_wp2_with fail
    refine hc.mono ?_
    rintro e w' ⟨rfl, hb⟩
    go_wp2
    go_ret
    exact ⟨rfl, v, hT.below hb, Keep.of_below hb _, .inl rfl⟩
  | true =>
    rw [hh] at hc
    rw [if_pos rfl]
    obtain ⟨y, hy⟩ : ∃ y, xs[r]? = some y := by
      unfold hasAt at hh
      cases hy : xs[r]? with
      | none => rw [hy] at hh; cases hh
      | some y => exact ⟨y, rfl⟩
    have hrx := (List.getElem?_eq_some_iff.1 hy).1
    obtain ⟨g, cap, rfl, hg, hcap⟩ := own_form hT.rows (by omega)
    have hwr : IntKind.i64.wrap ((r : Int) + 1) = (r : Int) + 1 := by rw [IntKind.wrap_i64]; omega
    go_enter Try.func23, Try.ntmps23
    go_wp2_with fail
    refine hc.mono ?_
    rintro e w' ⟨rfl, hb⟩
    have hT' := hT.below hb
    have hcb := cell_of_row w' b 0 _ _ _ hT'.blk
    go_wp2_with fail
    refine (slices_delete base g cap xs r w' hT'.rows hrx hl).mono ?_
    rintro e w3 ⟨rfl, hR3, hg3⟩
    have hbg : b ≠ g := fun e => hT.apart (by rw [e]; rfl)
    have hb3 : w3.heap[b]? = some (.cells #[.slice (some ⟨g, 0, none⟩) xs.length cap] 86 (0, 0)) := (hg3.block b hT'.lt (fun e => hbg (Option.some.inj e))).trans hT'.blk
    have hcb3 := cell_of_row w3 b 0 _ _ _ hb3
    have hfb3 : w3.frozen? ⟨b, 0, none⟩ = false := by simp [World.frozen?, hb3]
    go_wp2
    go_ret
    refine ⟨rfl, .slice (some ⟨g, 0, none⟩) (xs.length - 1) cap, ⟨?_, ?_, hT.apart⟩, ?_, .inl rfl⟩
    · simp [World.setCell, Array.getElem?_modify, hb3]
    · exact hR3.kept (row := some b) ⟨rfl, rfl, rfl, by simp [World.setCell], fun j hj hn => Below.heap_setCell w3 _ _ j (fun e => hn (by rw [e]))⟩ (.inr (fun e => hbg (Option.some.inj e).symm))
    · exact ((Keep.of_below hb _).trans (Keep.of_grown hg3 (S := Own b (.slice (some ⟨g, 0, none⟩) xs.length cap)) (fun j hj => .inr hj.symm)) (fun j _ h => h)).set _ _ (fun _ => .inl rfl)
set_option maxHeartbeats 2000000 in
set_option maxRecDepth 100000 in
/-- slices.Clone of whatever lies at an address. -/
theorem clone_src (ad : Addr) (c : Nat) (ys : List (Int × ByteArray)) (w : World) (hc : ∀ j u, (cells ys)[j]? = some u → w.cell? (ad.add j) = some u) (hl : ys.length ≤ 1099511627776) :
    Calls Try.prog 47 #[.slice (some ad) ys.length c] w fun e w' => ∃ v', e = .returned v' ∧ Rows w' w.heap.size v' ys ∧ Below w.heap.size w w' := by
  obtain ⟨i0, hi0, hz0, hz1, hz2⟩ := info_parts info_row
  have hq : ∀ (w : World) (a : Option Addr) (n c n' c' : Nat), (binOp .eql 81 (.slice a n c) (.slice none n' c')).run Try.prog w = .ok (.bool a.isNone) w := fun w a n c n' c' => Lib.run_eql_slice_nil w _ _ a n c n' c' Try.underlying81
  have hown0 : (w.alloc (.cells #[] 84)).ownsRow w.heap.size 84 2 (.slice (some ⟨w.heap.size, 0, none⟩) 0 0) 0 [] := World.ownsRow_made w #[] 0 (Nat.le_refl _) (Nat.zero_le _) rfl
  have hnews : ∀ j u, (cells ys)[j]? = some u → (w.alloc (.cells #[] 84)).cell? (ad.add j) = some u := fun j u hj => Lib.cell?_alloc_some _ (hc j u hj)
  have hx1 := cells_one ys
  have hxl := cells_len ys
  go_enter Try.func47, Try.ntmps47
  go_wp2_with (at_builtin; go_must (refine wpList_append_own _ rfl (.tmp 5) (.tmp 6) 81 rfl w.heap.size 84 i0 (.agg #[.int .i64 0, .string (⟨#[]⟩ : ByteArray)]) 2 24 Try.underlying81 hi0 hz0 hz1 hz2 rfl (by decide) (.slice (some ⟨w.heap.size, 0, none⟩) 0 0) _ _ rfl hown0 ad ys.length c (cells ys) rfl hxl hnews hx1 (by unfold maxLen; omega) (by omega) (by simp) ?_; intro v3 w3 hown3 hgrow3 hnil3))
  go_ret
  rw [Nat.zero_add, List.nil_append] at hown3
  exact ⟨v3, rfl, hown3, ((Below.refl _ w).alloc (Nat.le_refl _) _).grown hgrow3 (by simp) (fun k hk => by cases hk; exact Nat.le_refl _)⟩
set_option maxHeartbeats 2000000 in
set_option maxRecDepth 100000 in
theorem clone_calls2 (base b : Nat) (v : Value) (xs : List (Int × ByteArray)) (w : World) (hT : IsTab w base b v xs) (hl : xs.length ≤ 1099511627776) :
    Calls Try.prog 32 #[.pointer (some ⟨b, 0, none⟩)] w fun e w' => ∃ b' v', e = .returned (.pointer (some ⟨b', 0, none⟩)) ∧ w.heap.size ≤ b' ∧ IsTab w' w.heap.size b' v' xs ∧ Below w.heap.size w w' := by
  obtain ⟨A, c, rfl⟩ := own_slice hT.rows
  have hcb := cell_of_row w b 0 _ _ _ hT.blk
  go_enter Try.func32, Try.ntmps32
  go_wp2_with fail
  refine (clone_calls base _ xs w hT.rows hl).mono ?_
  rintro e w' ⟨v2, rfl, hR2, hb2⟩
  obtain ⟨A2, c2, rfl⟩ := own_slice hR2
  go_wp2
  go_ret
  exact ⟨w'.heap.size, _, rfl, hb2.size, ⟨heap_alloc_new w' _, hR2.alloc _, fun e => by have := (hR2.lt _ e).2; omega⟩, hb2.alloc hb2.size _⟩
set_option maxHeartbeats 2000000 in
set_option maxRecDepth 100000 in
theorem at_out (base b : Nat) (v : Value) (xs : List (Int × ByteArray)) (i : Int) (w : World) (hT : IsTab w base b v xs) (hi : i < 0 ∨ (xs.length : Int) ≤ i) (hl : xs.length ≤ 1099511627776) :
    Calls Try.prog 30 #[.pointer (some ⟨b, 0, none⟩), .int .i64 i] w fun e w' => e = .returned (.tuple #[.int .i64 0, .string (⟨#[]⟩ : ByteArray), .bool false]) ∧ w' = w := by
  rcases Int.lt_or_le i 0 with h | h
  · go_enter Try.func30, Try.ntmps30
    go_wp2
    go_ret3
    exact ⟨rfl, rfl⟩
  · have h1 : ¬ (i < 0) := by omega
    have h2 : (xs.length : Int) ≤ i := by omega
    go_enter Try.func30, Try.ntmps30
    go_wp2_with fail
    refine (len_calls base b _ xs w hT).mono ?_
    rintro e w' ⟨rfl, rfl⟩
    go_wp2
    go_ret3
    exact ⟨rfl, rfl⟩
end Go.Proofs.Ytbpaejbecgaepaa.TabIS
