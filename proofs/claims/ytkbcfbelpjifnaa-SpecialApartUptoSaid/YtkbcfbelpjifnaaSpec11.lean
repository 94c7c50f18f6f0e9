/- special.rows: the closures of its rows. -/
import Derived.Test.YtkbcfbelpjifnaaSpec8
namespace Go.Proofs.Ytkbcfbelpjifnaa.Spec
open Go Go.RowKit Go.Proofs Go.Proofs.YtkbcfbelpjifnaaW.PrintWords Go.Proofs.Ytkbcfbelpjifnaa.PX Go.Proofs.Ytkbcfbelpjifnaa.Plain
set_option linter.unusedVariables false
set_option linter.unusedSimpArgs false

theorem rows1 (b : Nat) (w : World) : Calls Try.prog 37 #[.pointer (some ⟨b, 0, none⟩)] w fun e w' => e = .returned (.pointer (some ⟨b, 1, none⟩)) ∧ w' = w := by
  go_enter Try.func37, Try.ntmps37
  go_wp2
  go_ret
  exact ⟨rfl, rfl⟩
theorem rows3 (b : Nat) (w : World) : Calls Try.prog 39 #[.pointer (some ⟨b, 0, none⟩)] w fun e w' => e = .returned (.pointer (some ⟨b, 2, none⟩)) ∧ w' = w := by
  go_enter Try.func39, Try.ntmps39
  go_wp2
  go_ret
  exact ⟨rfl, rfl⟩
theorem rows5 (b : Nat) (w : World) : Calls Try.prog 41 #[.pointer (some ⟨b, 0, none⟩)] w fun e w' => e = .returned (.pointer (some ⟨b, 3, none⟩)) ∧ w' = w := by
  go_enter Try.func41, Try.ntmps41
  go_wp2
  go_ret
  exact ⟨rfl, rfl⟩
theorem rows7 (b : Nat) (w : World) : Calls Try.prog 43 #[.pointer (some ⟨b, 0, none⟩)] w fun e w' => e = .returned (.pointer (some ⟨b, 4, none⟩)) ∧ w' = w := by
  go_enter Try.func43, Try.ntmps43
  go_wp2
  go_ret
  exact ⟨rfl, rfl⟩
theorem rows4 (b : Nat) (q : Value) (w : World) (hc : w.cell? ⟨b, 5, none⟩ = some q) (hf : w.frozen? ⟨b, 5, none⟩ = false) : Calls Try.prog 40 #[.pointer (some ⟨b, 0, none⟩)] w fun e w' => ∃ v, e = .returned v ∧ w' = w.setCell ⟨b, 5, none⟩ (.bool true) := by
  go_enter Try.func40, Try.ntmps40
  go_wp2
  first | go_ret | go_end0
  exact ⟨_, rfl, rfl⟩
theorem rows6 (b : Nat) (q : Value) (w : World) (hc : w.cell? ⟨b, 6, none⟩ = some q) (hf : w.frozen? ⟨b, 6, none⟩ = false) : Calls Try.prog 42 #[.pointer (some ⟨b, 0, none⟩)] w fun e w' => ∃ v, e = .returned v ∧ w' = w.setCell ⟨b, 6, none⟩ (.bool true) := by
  go_enter Try.func42, Try.ntmps42
  go_wp2
  first | go_ret | go_end0
  exact ⟨_, rfl, rfl⟩
theorem rows8 (b : Nat) (q : Value) (w : World) (hc : w.cell? ⟨b, 7, none⟩ = some q) (hf : w.frozen? ⟨b, 7, none⟩ = false) : Calls Try.prog 44 #[.pointer (some ⟨b, 0, none⟩)] w fun e w' => ∃ v, e = .returned v ∧ w' = w.setCell ⟨b, 7, none⟩ (.bool true) := by
  go_enter Try.func44, Try.ntmps44
  go_wp2
  first | go_ret | go_end0
  exact ⟨_, rfl, rfl⟩
theorem rows2 (b : Nat) (w : World) : Calls Try.prog 38 #[.pointer (some ⟨b, 0, none⟩)] w fun e w' => ∃ v, e = .returned v ∧ w' = w := by
  go_enter Try.func38, Try.ntmps38
  go_wp2
  first | go_ret | go_end0
  exact ⟨_, rfl, rfl⟩
end Go.Proofs.Ytkbcfbelpjifnaa.Spec
