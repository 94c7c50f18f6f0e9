/- At, at a pair of types where it is called. -/
import Derived.Test.YtbpaejbecgaepaaOpsRIS
namespace Go.Proofs.Ytbpaejbecgaepaa.TabIS
open Go Go.RowKit Go.Proofs
set_option linter.unusedVariables false
set_option linter.unusedSimpArgs false

set_option maxHeartbeats 2000000 in
set_option maxRecDepth 100000 in
theorem at_calls (base b : Nat) (v : Value) (xs : List (Int × ByteArray)) (i : Nat) (x : Int × ByteArray) (w : World) (hT : IsTab w base b v xs) (hx : xs[i]? = some x) (hl : xs.length ≤ 1099511627776) :
    Calls Try.prog 30 #[.pointer (some ⟨b, 0, none⟩), .int .i64 (i : Int)] w fun e w' => e = .returned (.tuple #[(Value.int .i64 x.1), (Value.string x.2), .bool true]) ∧ ∃ q, w' = w.drewN q := by
  have hlt : i < xs.length := (List.getElem?_eq_some_iff.1 hx).1
  obtain ⟨g, cap, rfl, hg, hcap⟩ := own_form hT.rows (by omega)
  have hcb := cell_of_row w b 0 _ _ _ hT.blk
  obtain ⟨hc0, hc1⟩ := rows_cell hT.rows hx
  have hi1 : (0 : Int) ≤ (i : Int) := by omega
  have hi2 : (i : Int) < (xs.length : Int) := by omega
  have hi3 : ¬ ((i : Int) < 0) := by omega
  go_enter Try.func30, Try.ntmps30
  go_wp2_with fail
  refine (len_calls base b _ xs w hT).mono ?_
  rintro e w' ⟨rfl, rfl⟩
  go_wp2_with fail
  repeat (go_quiet (fail); try go_wp2)
  go_ret3
  exact ⟨rfl, _, rfl⟩
end Go.Proofs.Ytbpaejbecgaepaa.TabIS
