/- The row of the law SpecialApart (its second form): for every input that the statement lets in the Go function returns true and leaves its arguments as they were; out of the pure statement that YtkbcfbelpjifnaaPureSpecialApart.lean proves. -/
import Derived.Test.YtkbcfbelpjifnaaRows
import Derived.Test.YtkbcfbelpjifnaaOpens
import Derived.Test.YtkbcfbelpjifnaaSpecS
import Derived.WalkKit
import Derived.ProofKit
import Derived.OpenShut
import Derived.ShutString
import Derived.ChangeOld
import Derived.Below
import Derived.SizedLaws
import Derived.JoinedCond
import Derived.Deep.CondSized
namespace Go.Proofs.Ytkbcfbelpjifnaa.specialApartU
open Go.ChangeShapes Go.WideShapes Go.ChangeAt Go.RowKit Go.Proofs.YtkbcfbelpjifnaaW.PrintWords Go.Proofs.Ytkbcfbelpjifnaa.PX Go.Proofs.Ytkbcfbelpjifnaa.Opens
open Go.ChangeMaps (open_string shut_string)
set_option linter.unusedVariables false
theorem own : ownKnob Try.prog.godebug = none := by kernel_rfl
theorem laidOut : laidOutB Try.prog = true := by kernel_rfl
theorem op9 : Rdg Try.prog 9 Kd.string bkS fitS := Rdg.string Try.underlying9
theorem op28 : Rdg Try.prog 28 (Kd.slice 9 Kd.string) (bkL bkS) (fitL fitS) := Rdg.slice Try.underlying28 (by kernel_rfl) op9
theorem op4 : Rdg Try.prog 4 Kd.bool (fun _ => 1) (fun _ => True) := Rdg.bool Try.underlying4
theorem op30 : Rdg Try.prog 30 (Kd.pair Kd.string (Kd.pair (Kd.slice 9 Kd.string) (Kd.pair (Kd.slice 9 Kd.string) Kd.bool))) (fun v => (fun x => bkS x.1 + (fun x => (bkL bkS) x.1 + (fun x => (bkL bkS) x.1 + (fun _ => 1) x.2) x.2) x.2) v + 1) (fun x => fitS x.1 ∧ (fun x => (fitL fitS) x.1 ∧ (fun x => (fitL fitS) x.1 ∧ (fun _ => True) x.2) x.2) x.2) := by
  refine Rdg.struct (d := (Kd.pair Kd.string (Kd.pair (Kd.slice 9 Kd.string) (Kd.pair (Kd.slice 9 Kd.string) Kd.bool)))) (bk := (fun x => bkS x.1 + (fun x => (bkL bkS) x.1 + (fun x => (bkL bkS) x.1 + (fun _ => 1) x.2) x.2) x.2)) (fit := (fun x => fitS x.1 ∧ (fun x => (fitL fitS) x.1 ∧ (fun x => (fitL fitS) x.1 ∧ (fun _ => True) x.2) x.2) x.2)) Try.underlying30 (by kernel_rfl) ?_
  refine RdgF.cons (d := Kd.string) (bk := bkS) (fit := fitS) (d' := (Kd.pair (Kd.slice 9 Kd.string) (Kd.pair (Kd.slice 9 Kd.string) Kd.bool))) (bk' := (fun x => (bkL bkS) x.1 + (fun x => (bkL bkS) x.1 + (fun _ => 1) x.2) x.2)) (fit' := (fun x => (fitL fitS) x.1 ∧ (fun x => (fitL fitS) x.1 ∧ (fun _ => True) x.2) x.2)) ?_ ?_ ?_ ?_
  · exact op9
  · rfl
  · kernel_rfl
  refine RdgF.cons (d := (Kd.slice 9 Kd.string)) (bk := (bkL bkS)) (fit := (fitL fitS)) (d' := (Kd.pair (Kd.slice 9 Kd.string) Kd.bool)) (bk' := (fun x => (bkL bkS) x.1 + (fun _ => 1) x.2)) (fit' := (fun x => (fitL fitS) x.1 ∧ (fun _ => True) x.2)) ?_ ?_ ?_ ?_
  · exact op28
  · rfl
  · kernel_rfl
  refine RdgF.cons (d := (Kd.slice 9 Kd.string)) (bk := (bkL bkS)) (fit := (fitL fitS)) (d' := Kd.bool) (bk' := (fun _ => 1)) (fit' := (fun _ => True)) ?_ ?_ ?_ ?_
  · exact op28
  · rfl
  · kernel_rfl
  refine RdgF.last (d := Kd.bool) (bk := (fun _ => 1)) (fit := (fun _ => True)) ?_ ?_ ?_
  · exact op4
  · rfl
  · kernel_rfl
theorem opS30 : Rdg Try.prog 30 k30 (fun x : S30 => (fun v => (fun x => bkS x.1 + (fun x => (bkL bkS) x.1 + (fun x => (bkL bkS) x.1 + (fun _ => 1) x.2) x.2) x.2) v + 1) (x.f0, x.f1, x.f2, x.f3)) (fun x : S30 => (fun x => fitS x.1 ∧ (fun x => (fitL fitS) x.1 ∧ (fun x => (fitL fitS) x.1 ∧ (fun _ => True) x.2) x.2) x.2) (x.f0, x.f1, x.f2, x.f3)) := Rdg.iso op30 (fun x : S30 => (x.f0, x.f1, x.f2, x.f3)) (fun y => ⟨y.1, y.2.1, y.2.2.1, y.2.2.2⟩) (fun _ => rfl)
theorem op22 : Rdg Try.prog 22 (Kd.slice 30 k30) (bkL (fun x : S30 => (fun v => (fun x => bkS x.1 + (fun x => (bkL bkS) x.1 + (fun x => (bkL bkS) x.1 + (fun _ => 1) x.2) x.2) x.2) v + 1) (x.f0, x.f1, x.f2, x.f3))) (fitL (fun x : S30 => (fun x => fitS x.1 ∧ (fun x => (fitL fitS) x.1 ∧ (fun x => (fitL fitS) x.1 ∧ (fun _ => True) x.2) x.2) x.2) (x.f0, x.f1, x.f2, x.f3))) := Rdg.slice Try.underlying22 (by kernel_rfl) opS30
set_option maxRecDepth 100000 in
theorem contract (H : Type) (enc : TypeId × Value → H) (W : World) (base : Nat) (args : Array Value) (ds gs : List (DataW H)) (before : List MemPlace)
    (hval0 : ∀ (j : Nat) t v, Try.f5.params[j]? = some t → args[j]? = some v → Value.okWide Try.prog W .any base t v)
    (hW : DataW.Whole enc Try.prog Try.f5.params.toList Rows.specialApartSpec.vars false W args.toList ds gs before)
    (hk : Rows.uptoSmall H (ds ++ gs) = true) :
    Calls Try.prog 5 args W fun e W' => ∃ v, e = .returned v ∧ Rows.specialApartSpec.post enc Try.prog Try.f5 false true false false W args v W' := by
  have hval : ∀ (j : Nat) t v, Try.f5.params[j]? = some t → args[j]? = some v → Value.okWide Try.prog W .any base t v := hval0
  have hW' := hW
  obtain ⟨p, q, hA0, hV, rfl, hfz, hnd⟩ := hW
  have hA : DataW.TrodAll enc Try.prog W 0 (fun _ => true) true Try.f5.params.toList args.toList ds p := hA0
  rw [Try.params5] at hA hval
  obtain ⟨v0, vs0, d0, ds0, p0, q0, hargs, rfl, rfl, h0, r0⟩ := trodAll_cons hA
  obtain ⟨rfl, rfl, rfl⟩ := trodAll_nil r0
  obtain rfl : args = #[v0] := by cases args; simp_all
  obtain ⟨rfl, rfl⟩ := trodVars_none hV
  have k0 := h0
  have lt0 : ∀ x ∈ p0, x.block < W.heap.size := by obtain ⟨m, hm⟩ := k0; exact DataW.trod_lt m _ _ _ hm
  obtain ⟨A0, c0, l0, rfl, hc0, hr0, hf0, hb0⟩ := open_slice op22 (by obtain ⟨a, n, c, h⟩ := okWide_slice Try.underlying22 (hval 0 22 v0 rfl rfl); exact ⟨a, n, c, h⟩) h0
  have hkk := of_decide_eq_true hk
  simp only [List.append_nil, Rows.uptoBulkAll] at hkk
  have hB : bkL (fun x : S30 => (fun v => (fun x => bkS x.1 + (fun x => (bkL bkS) x.1 + (fun x => (bkL bkS) x.1 + (fun _ => 1) x.2) x.2) x.2) v + 1) (x.f0, x.f1, x.f2, x.f3)) l0 ≤ 1048576 := by
    skip
    omega
  refine (Hand.SpecialApart.row A0 c0 l0 W hB hr0 hc0).mono fun e W' hw => ?_
  obtain ⟨rfl, bel⟩ := hw
  exact ⟨_, rfl, _, _, _, [], _, [], hW', trodAll_mk1 (shut_bool Try.underlying4 _), (trodAll_cons_mk (Below.trod laidOut (by kernel_rfl) (of_decide_eq_true (by kernel_rfl)) k0 bel lt0) trodAll_mk0), rfl, bel.frame _, fun h => by cases h⟩
set_option maxRecDepth 100000 in
theorem lifted (os : Os) (started : os.Started) (H : Type) (enc : TypeId × Value → H) (F : Stop.Interp) :
    ReturnsInHanded {} Try.checked os 5 .any ((Rows.OpenSpec.upto Rows.specialApartSpec).pre6 enc Try.prog Try.f5 Rows.specialApartUptoRow.domain false) (((Rows.OpenSpec.upto Rows.specialApartSpec).at F).post enc Try.prog Try.f5 false true false false) := by
  refine returnsInHanded_of_cond (C := Try.checked) (s := Rows.OpenSpec.upto Rows.specialApartSpec) (k := Rows.uptoSmall) rfl own started (by kernel_rfl) Try.func5
    (OpenSpec.witness (enc := enc) (C := Try.checked) (s := Rows.OpenSpec.upto Rows.specialApartSpec) (k := Rows.uptoSmall) rfl false ⟨#[], #[.slice none 0 0], []⟩ 8 (by kernel_rfl) (by kernel_rfl) (by kernel_rfl)
      (x := ([.nil], [], [])) (by kernel_rfl) rfl (by kernel_rfl)) ?_
  intro W base args ds gs before hval hW _ hk _
  exact contract H enc W base args ds gs before hval hW hk
theorem proved : Rows.SpecialApartUptoSaid :=
  OpenClaim.holds_of_cond 5 Try.f5 rfl rfl rfl rfl rfl rfl rfl ⟨rfl, rfl, rfl, rfl, rfl⟩ rfl rfl rfl rfl rfl (by kernel_rfl) Try.func5 (by kernel_rfl)
    (of_decide_eq_true (by kernel_rfl)) (by unfold Func.isWrapper; first | (rw [if_pos (by decide +kernel)]; kernel_rfl) | (rw [if_neg (by decide +kernel)]; exact ⟨rfl, rfl⟩))
    (fun os started H enc _ F => lifted os started H enc F)
end Go.Proofs.Ytkbcfbelpjifnaa.specialApartU
namespace Go.Proofs.Ytkbcfbelpjifnaa
/-- The row, under a short name, for the claim. -/
theorem specialApartUpto_holds : Rows.SpecialApartUptoSaid := specialApartU.proved
#print axioms specialApartUpto_holds
end Go.Proofs.Ytkbcfbelpjifnaa
