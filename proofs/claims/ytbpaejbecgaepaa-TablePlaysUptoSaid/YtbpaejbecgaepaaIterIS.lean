/- Going over a table, at one pair of types. -/
import Derived.Test.YtbpaejbecgaepaaOpsIS
import Derived.Test.YtbpaejbecgaepaaRangeC
namespace Go.Proofs.Ytbpaejbecgaepaa.TabIS
open Go Go.RowKit Go.Proofs Go.Shelf
set_option linter.unusedVariables false
set_option linter.unusedSimpArgs false

set_option maxHeartbeats 2000000 in
set_option maxRecDepth 100000 in
theorem clone_calls (base : Nat) (v : Value) (xs : List (Int × ByteArray)) (w : World) (hR : Rows w base v xs) (hl : xs.length ≤ 1099511627776) :
    Calls Try.prog 47 #[v] w fun e w' => ∃ v', e = .returned v' ∧ Rows w' w.heap.size v' xs ∧ Below w.heap.size w w' := by
  obtain ⟨i0, hi0, hz0, hz1, hz2⟩ := info_parts info_row
  have hq : ∀ (w : World) (a : Option Addr) (n c n' c' : Nat), (binOp .eql 81 (.slice a n c) (.slice none n' c')).run Try.prog w = .ok (.bool a.isNone) w := fun w a n c n' c' => Lib.run_eql_slice_nil w _ _ a n c n' c' Try.underlying81
  rcases hR.2 with ⟨rfl, hn⟩ | ⟨g, cap, cur, rfl, hg, hb, hc, hm, hs, ht⟩
  · have hx : xs = [] := List.eq_nil_of_length_eq_zero hn
    subst hx
    go_enter Try.func47, Try.ntmps47
    go_wp2
    go_ret
    exact ⟨_, rfl, World.ownsRow_nil _ _ _ _, Below.refl _ w⟩
  · have hown0 : (w.alloc (.cells #[] 84)).ownsRow w.heap.size 84 2 (.slice (some ⟨w.heap.size, 0, none⟩) 0 0) 0 [] := World.ownsRow_made w #[] 0 (Nat.le_refl _) (Nat.zero_le _) rfl
    have hnews : ∀ j u, (cells xs)[j]? = some u → (w.alloc (.cells #[] 84)).cell? ((⟨g, 0, none⟩ : Addr).add j) = some u := (hR.alloc _).cells rfl
    have hx1 := cells_one xs
    have hxl := cells_len xs
    go_enter Try.func47, Try.ntmps47
    go_wp2_with (at_builtin; go_must (refine wpList_append_own _ rfl (.tmp 5) (.tmp 6) 81 rfl w.heap.size 84 i0 (.agg #[(Value.int .i64 0), (Value.string (⟨#[]⟩ : ByteArray))]) 2 24 Try.underlying81 hi0 hz0 hz1 hz2 rfl (by decide) (.slice (some ⟨w.heap.size, 0, none⟩) 0 0) _ _ rfl hown0 ⟨g, 0, none⟩ xs.length cap (cells xs) rfl hxl hnews hx1 (by unfold maxLen; omega) (by omega) (by simp) ?_; intro v3 w3 hown3 hgrow3 hnil3))
    go_ret
    rw [Nat.zero_add, List.nil_append] at hown3
    exact ⟨v3, rfl, hown3, ((Below.refl _ w).alloc (Nat.le_refl _) _).grown hgrow3 (by simp) (fun k hk => by cases hk; exact Nat.le_refl _)⟩
/-- All: a function over a box in which a copy of the rows lies. -/
def Over (w : World) (v : Value) (xs : List (Int × ByteArray)) (B : Nat) (w' : World) : Prop := w.heap.size ≤ B ∧ w'.heap[B]? = some (.cells #[v] 81 (0, 0)) ∧ Rows w' w.heap.size v xs ∧ Below w.heap.size w w'
set_option maxHeartbeats 1000000 in
theorem over_calls (v : Value) (base : Nat) (xs : List (Int × ByteArray)) (w : World) (hR : Rows w base v xs) :
    Calls Try.prog 46 #[v] w fun e w' => e = .returned (.func (.func 63) #[] #[.pointer (some ⟨w.heap.size, 0, none⟩)]) ∧ w' = w.alloc (.cells #[v] 81) := by
  obtain ⟨A, c, rfl⟩ := own_slice hR
  go_enter Try.func46, Try.ntmps46
  go_wp2
  go_ret
  exact ⟨rfl, rfl⟩
set_option maxHeartbeats 1000000 in
theorem all_calls (base b : Nat) (v : Value) (xs : List (Int × ByteArray)) (w : World) (hT : IsTab w base b v xs) (hl : xs.length ≤ 1099511627776) :
    Calls Try.prog 22 #[.pointer (some ⟨b, 0, none⟩)] w fun e w' => ∃ B v2, e = .returned (.func (.func 63) #[] #[.pointer (some ⟨B, 0, none⟩)]) ∧ Over w v2 xs B w' := by
  obtain ⟨A, c, rfl⟩ := own_slice hT.rows
  have hcb := cell_of_row w b 0 _ _ _ hT.blk
  go_enter Try.func22, Try.ntmps22
  go_wp2_with fail
  refine (clone_calls base _ xs w hT.rows hl).mono ?_
  rintro e w' ⟨v2, rfl, hR2, hb2⟩
  obtain ⟨A2, c2, rfl⟩ := own_slice hR2
  go_wp2_with fail
  refine (over_calls _ w.heap.size xs w' hR2).mono ?_
  rintro e w3 ⟨rfl, rfl⟩
  go_wp2
  go_ret
  exact ⟨w'.heap.size, .slice A2 xs.length c2, rfl, hb2.size, heap_alloc_new w' _, hR2.alloc _, hb2.alloc hb2.size _⟩
end Go.Proofs.Ytbpaejbecgaepaa.TabIS
