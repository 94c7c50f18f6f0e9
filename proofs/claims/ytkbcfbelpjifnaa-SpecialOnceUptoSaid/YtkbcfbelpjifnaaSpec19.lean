/- speaks: what is reckoned. -/
import Derived.Test.YtkbcfbelpjifnaaSpec18
namespace Go.Proofs.Ytkbcfbelpjifnaa.Spec
open Go Go.RowKit Go.Proofs Go.Proofs.YtkbcfbelpjifnaaW.PrintWords Go.Proofs.Ytkbcfbelpjifnaa.PX Go.Proofs.Ytkbcfbelpjifnaa.Plain
set_option linter.unusedVariables false
set_option linter.unusedSimpArgs false

abbrev bC : ByteArray := ⟨#[46, 99]⟩
abbrev bY : ByteArray := ⟨#[46, 121]⟩
/-- The three lines that speaks asks Of about, and the two that it asks Merge about. -/
abbrev L3 : List Rl := [⟨sSuf, [bC], [], false⟩, ⟨sSuf, [], [], false⟩, ⟨sSuf, [bY, bC], [], false⟩]
abbrev L2 : List Rl := [⟨⟨#[97]⟩, [⟨#[98]⟩], [], false⟩, ⟨⟨#[97]⟩, [⟨#[99]⟩, ⟨#[98]⟩], [⟨#[120]⟩], true⟩]
theorem ofL3 (LS : Nat → Rl → Sp → Int × Sp) : (ofL LS L3).2 = (0, 0) := by kernel_rfl
theorem ofL3s (LS : Nat → Rl → Sp → Int × Sp) : (ofL LS L3).1.r 0 = [bY, bC] := by kernel_rfl
theorem mergeL2 : mergeL L2 = ([⟨⟨#[97]⟩, [⟨#[98]⟩, ⟨#[99]⟩], [⟨#[120]⟩], true⟩], 0, 0) := by kernel_rfl
theorem texts1 : smithyplain_Texts.f 5 [bY, bC] [bY, bC] = some true := by kernel_rfl
theorem texts2 : smithyplain_Texts.f 5 [(⟨#[98]⟩ : ByteArray), ⟨#[99]⟩] [⟨#[98]⟩, ⟨#[99]⟩] = some true := by kernel_rfl
end Go.Proofs.Ytkbcfbelpjifnaa.Spec
