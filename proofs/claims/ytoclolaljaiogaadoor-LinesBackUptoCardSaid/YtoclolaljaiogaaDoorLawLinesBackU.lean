/- The row of the law LinesBack (its second form): for every input that the statement lets in the Go function returns true and leaves its arguments as they were; out of the pure statement that YtoclolaljaiogaaDoorPureLinesBack.lean proves. -/
import Derived.Test.YtoclolaljaiogaaDoorRows
import Derived.Test.YtoclolaljaiogaaDoorOpens
import Derived.Test.YtoclolaljaiogaaDoorPXx12
import Derived.Test.YtoclolaljaiogaaDoorPureLinesBack
import Derived.Test.YtoclolaljaiogaaDoorCardBase
import Derived.WalkKit
import Derived.ProofKit
import Derived.OpenShut
import Derived.ShutString
import Derived.ChangeOld
import Derived.Below
import Derived.SizedLaws
import Derived.JoinedCond
import Derived.Deep.CondSized
namespace Go.Proofs.YtoclolaljaiogaaDoor.linesBackU
open Go.ChangeShapes Go.WideShapes Go.ChangeAt Go.RowKit Go.Proofs.YtoclolaljaiogaaDoorW.PrintWords Go.Proofs.YtoclolaljaiogaaDoor.PX Go.Proofs.YtoclolaljaiogaaDoor.Opens
open Go.ChangeMaps (open_string shut_string)
set_option linter.unusedVariables false
theorem own : ownKnob Tryd.prog.godebug = none := by kernel_rfl
theorem laidOut : laidOutB Tryd.prog = true := by kernel_rfl
theorem op9 : Rdg Tryd.prog 9 Kd.string bkS fitS := Rdg.string Tryd.underlying9
theorem op3 : Rdg Tryd.prog 3 (Kd.int .i64) (fun _ => 1) (fitI .i64) := Rdg.int Tryd.underlying3
theorem op4 : Rdg Tryd.prog 4 Kd.bool (fun _ => 1) (fun _ => True) := Rdg.bool Tryd.underlying4
theorem op37 : Rdg Tryd.prog 37 (Kd.pair Kd.string (Kd.pair (Kd.int .i64) (Kd.pair Kd.bool Kd.string))) (fun v => (fun x => bkS x.1 + (fun x => (fun _ => 1) x.1 + (fun x => (fun _ => 1) x.1 + bkS x.2) x.2) x.2) v + 1) (fun x => fitS x.1 ∧ (fun x => (fitI .i64) x.1 ∧ (fun x => (fun _ => True) x.1 ∧ fitS x.2) x.2) x.2) := by
  refine Rdg.struct (d := (Kd.pair Kd.string (Kd.pair (Kd.int .i64) (Kd.pair Kd.bool Kd.string)))) (bk := (fun x => bkS x.1 + (fun x => (fun _ => 1) x.1 + (fun x => (fun _ => 1) x.1 + bkS x.2) x.2) x.2)) (fit := (fun x => fitS x.1 ∧ (fun x => (fitI .i64) x.1 ∧ (fun x => (fun _ => True) x.1 ∧ fitS x.2) x.2) x.2)) Tryd.underlying37 (by kernel_rfl) ?_
  refine RdgF.cons (d := Kd.string) (bk := bkS) (fit := fitS) (d' := (Kd.pair (Kd.int .i64) (Kd.pair Kd.bool Kd.string))) (bk' := (fun x => (fun _ => 1) x.1 + (fun x => (fun _ => 1) x.1 + bkS x.2) x.2)) (fit' := (fun x => (fitI .i64) x.1 ∧ (fun x => (fun _ => True) x.1 ∧ fitS x.2) x.2)) ?_ ?_ ?_ ?_
  · exact op9
  · rfl
  · kernel_rfl
  refine RdgF.cons (d := (Kd.int .i64)) (bk := (fun _ => 1)) (fit := (fitI .i64)) (d' := (Kd.pair Kd.bool Kd.string)) (bk' := (fun x => (fun _ => 1) x.1 + bkS x.2)) (fit' := (fun x => (fun _ => True) x.1 ∧ fitS x.2)) ?_ ?_ ?_ ?_
  · exact op3
  · rfl
  · kernel_rfl
  refine RdgF.cons (d := Kd.bool) (bk := (fun _ => 1)) (fit := (fun _ => True)) (d' := Kd.string) (bk' := bkS) (fit' := fitS) ?_ ?_ ?_ ?_
  · exact op4
  · rfl
  · kernel_rfl
  refine RdgF.last (d := Kd.string) (bk := bkS) (fit := fitS) ?_ ?_ ?_
  · exact op9
  · rfl
  · kernel_rfl
theorem opS37 : Rdg Tryd.prog 37 k37 (fun x : S37 => (fun v => (fun x => bkS x.1 + (fun x => (fun _ => 1) x.1 + (fun x => (fun _ => 1) x.1 + bkS x.2) x.2) x.2) v + 1) (x.f0, x.f1, x.f2, x.f3)) (fun x : S37 => (fun x => fitS x.1 ∧ (fun x => (fitI .i64) x.1 ∧ (fun x => (fun _ => True) x.1 ∧ fitS x.2) x.2) x.2) (x.f0, x.f1, x.f2, x.f3)) := Rdg.iso op37 (fun x : S37 => (x.f0, x.f1, x.f2, x.f3)) (fun y => ⟨y.1, y.2.1, y.2.2.1, y.2.2.2⟩) (fun _ => rfl)
theorem op24 : Rdg Tryd.prog 24 (Kd.slice 37 k37) (bkL (fun x : S37 => (fun v => (fun x => bkS x.1 + (fun x => (fun _ => 1) x.1 + (fun x => (fun _ => 1) x.1 + bkS x.2) x.2) x.2) v + 1) (x.f0, x.f1, x.f2, x.f3))) (fitL (fun x : S37 => (fun x => fitS x.1 ∧ (fun x => (fitI .i64) x.1 ∧ (fun x => (fun _ => True) x.1 ∧ fitS x.2) x.2) x.2) (x.f0, x.f1, x.f2, x.f3))) := Rdg.slice Tryd.underlying24 (by kernel_rfl) opS37
set_option maxRecDepth 100000 in
theorem contract (H : Type) (enc : TypeId × Value → H) (W : World) (base : Nat) (args : Array Value) (ds gs : List (DataW H)) (before : List MemPlace)
    (hval0 : ∀ (j : Nat) t v, Tryd.f6.params[j]? = some t → args[j]? = some v → Value.okWide Tryd.prog W .any base t v)
    (hW : DataW.Whole enc Tryd.prog Tryd.f6.params.toList Rows.linesBackSpec.vars false W args.toList ds gs before)
    (hk : Rows.uptoSmall H (ds ++ gs) = true) :
    Calls Tryd.prog 6 args W fun e W' => ∃ v, e = .returned v ∧ Rows.linesBackSpec.post enc Tryd.prog Tryd.f6 false true false false W args v W' := by
  have hval : ∀ (j : Nat) t v, Tryd.f6.params[j]? = some t → args[j]? = some v → Value.okWide Tryd.prog W .any base t v := hval0
  have hW' := hW
  obtain ⟨p, q, hA0, hV, rfl, hfz, hnd⟩ := hW
  have hA : DataW.TrodAll enc Tryd.prog W 0 (fun _ => true) true Tryd.f6.params.toList args.toList ds p := hA0
  rw [Tryd.params6] at hA hval
  obtain ⟨v0, vs0, d0, ds0, p0, q0, hargs, rfl, rfl, h0, r0⟩ := trodAll_cons hA
  obtain ⟨rfl, rfl, rfl⟩ := trodAll_nil r0
  obtain rfl : args = #[v0] := by cases args; simp_all
  obtain ⟨rfl, rfl⟩ := trodVars_none hV
  have k0 := h0
  have lt0 : ∀ x ∈ p0, x.block < W.heap.size := by obtain ⟨m, hm⟩ := k0; exact DataW.trod_lt m _ _ _ hm
  obtain ⟨A0, c0, l0, rfl, hc0, hr0, hf0, hb0⟩ := open_slice op24 (by obtain ⟨a, n, c, h⟩ := okWide_slice Tryd.underlying24 (hval 0 24 v0 rfl rfl); exact ⟨a, n, c, h⟩) h0
  have hkk := of_decide_eq_true hk
  simp only [List.append_nil, Rows.uptoBulkAll] at hkk
  have hB : bkL (fun x : S37 => (fun v => (fun x => bkS x.1 + (fun x => (fun _ => 1) x.1 + (fun x => (fun _ => 1) x.1 + bkS x.2) x.2) x.2) v + 1) (x.f0, x.f1, x.f2, x.f3)) l0 ≤ 1048576 := by
    skip
    omega
  obtain ⟨k, hp⟩ := Pure.LinesBack l0 hB
  refine (smithylaw04_LinesBack.calls k A0 c0 l0 true W hr0 hc0 hp).mono fun e W' hw => ?_
  obtain ⟨rfl, bel⟩ := hw
  exact ⟨_, rfl, _, _, _, [], _, [], hW', trodAll_mk1 (shut_bool Tryd.underlying4 _), (trodAll_cons_mk (Below.trod laidOut (by kernel_rfl) (of_decide_eq_true (by kernel_rfl)) k0 bel lt0) trodAll_mk0), rfl, bel.frame _, fun h => by cases h⟩
set_option maxRecDepth 100000 in
theorem laid_met (os : Os) : laidMet Tryd.prog Rows.linesBackUptoRow.laid (((Cards.laidWorld os).forCall (fun _ _ => 0) ⟨#[], #[.slice none 0 0], []⟩).memory) := Cards.laid_met os _
theorem reads (os : Os) {H : Type} (enc : TypeId × Value → H) : ∃ places, DataW.whole enc Tryd.prog ((Cards.laidWorld os).forCall (fun _ _ => 0) ⟨#[], #[.slice none 0 0], []⟩).memory Tryd.f6.params.toList Rows.linesBackSpec.vars false (#[.slice none 0 0] : Array Value).toList 8 = some ([.nil], [], places) :=
  ⟨[], by kernel_rfl⟩
set_option maxRecDepth 100000 in
theorem lifted (os : Os) (started : os.Started) (H : Type) (enc : TypeId × Value → H) (F : Stop.Interp) :
    ReturnsInHanded {} Tryd.checked os 6 .any ((Rows.OpenSpec.upto Rows.linesBackSpec).preRow enc Tryd.prog Tryd.f6 Rows.linesBackUptoRow.domain false Rows.linesBackUptoRow.laid) (((Rows.OpenSpec.upto Rows.linesBackSpec).at F).post enc Tryd.prog Tryd.f6 false true false false) := by
  obtain ⟨places, hx⟩ := reads os enc
  refine returnsInHanded_of_row (C := Tryd.checked) (s := Rows.OpenSpec.upto Rows.linesBackSpec) own started (by kernel_rfl) Tryd.func6
    (witness_row_at (enc := enc) (C := Tryd.checked) false (Cards.laidWorld os) #[.slice none 0 0] rfl (by kernel_rfl) (by kernel_rfl) (by kernel_rfl)
      (OpenSpec.preRow_of_cond 8 hx (by kernel_rfl) (fun k hk => by cases hk; kernel_rfl) (by kernel_rfl) (laid_met os))) ?_
  intro W base args ds gs before hval hW _ hk hsz _ _ _
  exact contract H enc W base args ds gs before hval hW (hk _ rfl)
theorem said : Rows.LinesBackUptoSaid :=
  OpenClaim.holds_of_cond 6 Tryd.f6 rfl rfl rfl rfl rfl rfl rfl ⟨rfl, rfl, rfl, rfl, rfl⟩ rfl rfl rfl rfl rfl (by kernel_rfl) Tryd.func6 (by kernel_rfl)
    (of_decide_eq_true (by kernel_rfl)) (by unfold Func.isWrapper; first | (rw [if_pos (by decide +kernel)]; kernel_rfl) | (rw [if_neg (by decide +kernel)]; exact ⟨rfl, rfl⟩))
    (fun os started H enc _ F => by rw [OpenClaim.pre_eq_preRow]; exact lifted os started H enc F)
theorem plain (f : FuncId) (fn : Func) (hf : Tryd.pinned.checked.prog.funcNamed "smithy/smithylaw04.LinesBack" = some f) (hfn : Tryd.pinned.checked.prog.funcs[f]? = some fn) :
    false = Tryd.pinned.checked.prog.looks [] ∧ ∀ (j : Nat) t, fn.params[j]? = some t → Tryd.pinned.checked.prog.wantsStandIn t = false := by
  obtain rfl : f = 6 := Option.some.inj ((show Tryd.prog.funcNamed "smithy/smithylaw04.LinesBack" = some 6 by kernel_rfl).symm.trans hf) |>.symm
  obtain rfl : fn = Tryd.f6 := (Option.some.inj (Tryd.func6.symm.trans hfn)).symm
  refine ⟨by kernel_rfl, fun j t ht => ?_⟩
  rw [Tryd.params6] at ht
  have hm := Array.mem_of_getElem? ht
  simp only [List.mem_toArray, List.mem_cons, List.not_mem_nil, or_false] at hm
  rcases hm with rfl
  · exact (show Tryd.prog.wantsStandIn 24 = false by kernel_rfl)
theorem proved : Rows.LinesBackUptoCardSaid :=
  Claim7.holds_tied_plain_at .later [] _ _ _ _ said (fun _ h => by cases h) (by kernel_rfl) (fun _ h => by cases h) linesBackUpto_row_tie rfl ⟨rfl, rfl⟩ (by kernel_rfl) rfl plain (by kernel_rfl)
end Go.Proofs.YtoclolaljaiogaaDoor.linesBackU
namespace Go.Proofs.YtoclolaljaiogaaDoor
/-- The row, under a short name, for the claim. -/
theorem linesBackUpto_holds : Rows.LinesBackUptoCardSaid := linesBackU.proved
#print axioms linesBackUpto_holds
end Go.Proofs.YtoclolaljaiogaaDoor
