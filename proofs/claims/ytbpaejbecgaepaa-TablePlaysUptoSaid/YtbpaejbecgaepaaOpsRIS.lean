/- Len and Rank, at a pair of types where these are called. -/
import Derived.Test.YtbpaejbecgaepaaOpsIS
namespace Go.Proofs.Ytbpaejbecgaepaa.TabIS
open Go Go.RowKit Go.Proofs
set_option linter.unusedVariables false
set_option linter.unusedSimpArgs false

set_option maxHeartbeats 1000000 in
theorem len_calls (base b : Nat) (v : Value) (xs : List (Int × ByteArray)) (w : World) (hT : IsTab w base b v xs) : Calls Try.prog 33 #[.pointer (some ⟨b, 0, none⟩)] w fun e w' => e = .returned (.int .i64 (xs.length : Int)) ∧ w' = w := by
  obtain ⟨A, c, rfl⟩ := own_slice hT.rows
  have hc := cell_of_row w b 0 _ _ _ hT.blk
  go_enter Try.func33, Try.ntmps33
  go_wp2
  go_ret
  exact ⟨rfl, rfl⟩
set_option maxHeartbeats 1000000 in
theorem rank_calls (base b : Nat) (v : Value) (xs : List (Int × ByteArray)) (k : Int) (r : Nat) (w : World) (hT : IsTab w base b v xs) (hp : Place xs k r) (hl : xs.length ≤ 1099511627776) (hbase : base ≤ w.heap.size) :
    Calls Try.prog 31 #[.pointer (some ⟨b, 0, none⟩), (Value.int .i64 k)] w fun e w' => e = .returned (.int .i64 (r : Int)) ∧ Below w.heap.size w w' := by
  go_enter Try.func31, Try.ntmps31
  go_wp2_with fail
  refine (find_calls base b v xs k r w hT hp (by omega) hbase).mono ?_
  rintro e w' ⟨rfl, hb⟩
  go_wp2
  go_ret
  exact ⟨rfl, hb⟩
end Go.Proofs.Ytbpaejbecgaepaa.TabIS
