/- The row of the law ExpandEscapes (its second form): for every input that the statement lets in the Go function returns true and leaves its arguments as they were; out of the pure statement that YtadfbbjplgbakaaDoorPureExpandEscapes.lean proves. -/
import Derived.Test.YtadfbbjplgbakaaDoorRows
import Derived.Test.YtadfbbjplgbakaaDoorOpens
import Derived.Test.YtadfbbjplgbakaaDoorPXx9
import Derived.Test.YtadfbbjplgbakaaDoorPureExpandEscapes
import Derived.Test.YtadfbbjplgbakaaDoorCardBase
import Derived.WalkKit
import Derived.ProofKit
import Derived.OpenShut
import Derived.ShutString
import Derived.ChangeOld
import Derived.Below
import Derived.SizedLaws
import Derived.JoinedCond
import Derived.Deep.CondSized
namespace Go.Proofs.YtadfbbjplgbakaaDoor.expandEscapesU
open Go.ChangeShapes Go.WideShapes Go.ChangeAt Go.RowKit Go.Proofs.YtadfbbjplgbakaaDoorW.PrintWords Go.Proofs.YtadfbbjplgbakaaDoor.PX Go.Proofs.YtadfbbjplgbakaaDoor.Opens
open Go.ChangeMaps (open_string shut_string)
set_option linter.unusedVariables false
theorem own : ownKnob Tryd.prog.godebug = none := by kernel_rfl
theorem laidOut : laidOutB Tryd.prog = true := by kernel_rfl
theorem op9 : Rdg Tryd.prog 9 Kd.string bkS fitS := Rdg.string Tryd.underlying9
theorem op3 : Rdg Tryd.prog 3 (Kd.int .i64) (fun _ => 1) (fitI .i64) := Rdg.int Tryd.underlying3
theorem op43 : Rdg Tryd.prog 43 (Kd.pair Kd.string (Kd.pair Kd.string (Kd.int .i64))) (fun v => (fun x => bkS x.1 + (fun x => bkS x.1 + (fun _ => 1) x.2) x.2) v + 1) (fun x => fitS x.1 ∧ (fun x => fitS x.1 ∧ (fitI .i64) x.2) x.2) := by
  refine Rdg.struct (d := (Kd.pair Kd.string (Kd.pair Kd.string (Kd.int .i64)))) (bk := (fun x => bkS x.1 + (fun x => bkS x.1 + (fun _ => 1) x.2) x.2)) (fit := (fun x => fitS x.1 ∧ (fun x => fitS x.1 ∧ (fitI .i64) x.2) x.2)) Tryd.underlying43 (by kernel_rfl) ?_
  refine RdgF.cons (d := Kd.string) (bk := bkS) (fit := fitS) (d' := (Kd.pair Kd.string (Kd.int .i64))) (bk' := (fun x => bkS x.1 + (fun _ => 1) x.2)) (fit' := (fun x => fitS x.1 ∧ (fitI .i64) x.2)) ?_ ?_ ?_ ?_
  · exact op9
  · rfl
  · kernel_rfl
  refine RdgF.cons (d := Kd.string) (bk := bkS) (fit := fitS) (d' := (Kd.int .i64)) (bk' := (fun _ => 1)) (fit' := (fitI .i64)) ?_ ?_ ?_ ?_
  · exact op9
  · rfl
  · kernel_rfl
  refine RdgF.last (d := (Kd.int .i64)) (bk := (fun _ => 1)) (fit := (fitI .i64)) ?_ ?_ ?_
  · exact op3
  · rfl
  · kernel_rfl
theorem opS43 : Rdg Tryd.prog 43 k43 (fun x : S43 => (fun v => (fun x => bkS x.1 + (fun x => bkS x.1 + (fun _ => 1) x.2) x.2) v + 1) (x.f0, x.f1, x.f2)) (fun x : S43 => (fun x => fitS x.1 ∧ (fun x => fitS x.1 ∧ (fitI .i64) x.2) x.2) (x.f0, x.f1, x.f2)) := Rdg.iso op43 (fun x : S43 => (x.f0, x.f1, x.f2)) (fun y => ⟨y.1, y.2.1, y.2.2⟩) (fun _ => rfl)
theorem op22 : Rdg Tryd.prog 22 (Kd.slice 43 k43) (bkL (fun x : S43 => (fun v => (fun x => bkS x.1 + (fun x => bkS x.1 + (fun _ => 1) x.2) x.2) v + 1) (x.f0, x.f1, x.f2))) (fitL (fun x : S43 => (fun x => fitS x.1 ∧ (fun x => fitS x.1 ∧ (fitI .i64) x.2) x.2) (x.f0, x.f1, x.f2))) := Rdg.slice Tryd.underlying22 (by kernel_rfl) opS43
set_option maxRecDepth 100000 in
theorem contract (H : Type) (enc : TypeId × Value → H) (W : World) (base : Nat) (args : Array Value) (ds gs : List (DataW H)) (before : List MemPlace)
    (hval0 : ∀ (j : Nat) t v, Tryd.f3.params[j]? = some t → args[j]? = some v → Value.okWide Tryd.prog W .any base t v)
    (hW : DataW.Whole enc Tryd.prog Tryd.f3.params.toList Rows.expandEscapesSpec.vars false W args.toList ds gs before)
    (hk : Rows.uptoSmall H (ds ++ gs) = true) :
    Calls Tryd.prog 3 args W fun e W' => ∃ v, e = .returned v ∧ Rows.expandEscapesSpec.post enc Tryd.prog Tryd.f3 false true false false W args v W' := by
  have hval : ∀ (j : Nat) t v, Tryd.f3.params[j]? = some t → args[j]? = some v → Value.okWide Tryd.prog W .any base t v := hval0
  have hW' := hW
  obtain ⟨p, q, hA0, hV, rfl, hfz, hnd⟩ := hW
  have hA : DataW.TrodAll enc Tryd.prog W 0 (fun _ => true) true Tryd.f3.params.toList args.toList ds p := hA0
  rw [Tryd.params3] at hA hval
  obtain ⟨v0, vs0, d0, ds0, p0, q0, hargs, rfl, rfl, h0, r0⟩ := trodAll_cons hA
  obtain ⟨v1, vs1, d1, ds1, p1, q1, rfl, rfl, rfl, h1, r1⟩ := trodAll_cons r0
  obtain ⟨rfl, rfl, rfl⟩ := trodAll_nil r1
  obtain rfl : args = #[v0, v1] := by cases args; simp_all
  obtain ⟨rfl, rfl⟩ := trodVars_none hV
  have k0 := h0
  have lt0 : ∀ x ∈ p0, x.block < W.heap.size := by obtain ⟨m, hm⟩ := k0; exact DataW.trod_lt m _ _ _ hm
  obtain ⟨A0, c0, l0, rfl, hc0, hr0, hf0, hb0⟩ := open_slice op22 (by obtain ⟨a, n, c, h⟩ := okWide_slice Tryd.underlying22 (hval 0 22 v0 rfl rfl); exact ⟨a, n, c, h⟩) h0
  have k1 := h1
  have lt1 : ∀ x ∈ p1, x.block < W.heap.size := by obtain ⟨m, hm⟩ := k1; exact DataW.trod_lt m _ _ _ hm
  obtain ⟨u1, hu1, hf1, hb1⟩ := open_op op9 h1
  obtain ⟨a1, rfl⟩ := okWide_string Tryd.underlying9 (hval 1 9 v1 rfl rfl)
  obtain rfl : a1 = u1 := by have hx : (Value.string a1).cells.toList = [Value.string u1] := hu1; simpa [Value.cells] using hx
  have hkk := of_decide_eq_true hk
  simp only [List.append_nil, Rows.uptoBulkAll] at hkk
  have hB : bkL (fun x : S43 => (fun v => (fun x => bkS x.1 + (fun x => bkS x.1 + (fun _ => 1) x.2) x.2) v + 1) (x.f0, x.f1, x.f2)) l0 + bkS a1 ≤ 1048576 := by
    skip
    omega
  obtain ⟨k, hp⟩ := Pure.ExpandEscapes l0 a1 hB
  refine (smithylaw06_ExpandEscapes.calls k A0 c0 l0 a1 true W hr0 hc0 hp).mono fun e W' hw => ?_
  obtain ⟨rfl, bel⟩ := hw
  exact ⟨_, rfl, _, _, _, [], _, [], hW', trodAll_mk1 (shut_bool Tryd.underlying4 _), (trodAll_cons_mk (Below.trod laidOut (by kernel_rfl) (of_decide_eq_true (by kernel_rfl)) k0 bel lt0) (trodAll_cons_mk (Below.trod laidOut (by kernel_rfl) (of_decide_eq_true (by kernel_rfl)) k1 bel lt1) trodAll_mk0)), rfl, bel.frame _, fun h => by cases h⟩
set_option maxRecDepth 100000 in
theorem laid_met (os : Os) : laidMet Tryd.prog Rows.expandEscapesUptoRow.laid (((Cards.laidWorld os).forCall (fun _ _ => 0) ⟨#[], #[.slice none 0 0, .string ByteArray.empty], []⟩).memory) := Cards.laid_met os _
theorem reads (os : Os) {H : Type} (enc : TypeId × Value → H) : ∃ places, DataW.whole enc Tryd.prog ((Cards.laidWorld os).forCall (fun _ _ => 0) ⟨#[], #[.slice none 0 0, .string ByteArray.empty], []⟩).memory Tryd.f3.params.toList Rows.expandEscapesSpec.vars false (#[.slice none 0 0, .string ByteArray.empty] : Array Value).toList 8 = some ([.nil, .lit (.string [])], [], places) :=
  ⟨[], by kernel_rfl⟩
set_option maxRecDepth 100000 in
theorem lifted (os : Os) (started : os.Started) (H : Type) (enc : TypeId × Value → H) (F : Stop.Interp) :
    ReturnsInHanded {} Tryd.checked os 3 .any ((Rows.OpenSpec.upto Rows.expandEscapesSpec).preRow enc Tryd.prog Tryd.f3 Rows.expandEscapesUptoRow.domain false Rows.expandEscapesUptoRow.laid) (((Rows.OpenSpec.upto Rows.expandEscapesSpec).at F).post enc Tryd.prog Tryd.f3 false true false false) := by
  obtain ⟨places, hx⟩ := reads os enc
  refine returnsInHanded_of_row (C := Tryd.checked) (s := Rows.OpenSpec.upto Rows.expandEscapesSpec) own started (by kernel_rfl) Tryd.func3
    (witness_row_at (enc := enc) (C := Tryd.checked) false (Cards.laidWorld os) #[.slice none 0 0, .string ByteArray.empty] rfl (by kernel_rfl) (by kernel_rfl) (by kernel_rfl)
      (OpenSpec.preRow_of_cond 8 hx (by kernel_rfl) (fun k hk => by cases hk; kernel_rfl) (by kernel_rfl) (laid_met os))) ?_
  intro W base args ds gs before hval hW _ hk hsz _ _ _
  exact contract H enc W base args ds gs before hval hW (hk _ rfl)
theorem said : Rows.ExpandEscapesUptoSaid :=
  OpenClaim.holds_of_cond 3 Tryd.f3 rfl rfl rfl rfl rfl rfl rfl ⟨rfl, rfl, rfl, rfl, rfl⟩ rfl rfl rfl rfl rfl (by kernel_rfl) Tryd.func3 (by kernel_rfl)
    (of_decide_eq_true (by kernel_rfl)) (by unfold Func.isWrapper; first | (rw [if_pos (by decide +kernel)]; kernel_rfl) | (rw [if_neg (by decide +kernel)]; exact ⟨rfl, rfl⟩))
    (fun os started H enc _ F => by rw [OpenClaim.pre_eq_preRow]; exact lifted os started H enc F)
theorem plain (f : FuncId) (fn : Func) (hf : Tryd.pinned.checked.prog.funcNamed "smithy/smithylaw06.ExpandEscapes" = some f) (hfn : Tryd.pinned.checked.prog.funcs[f]? = some fn) :
    true = Tryd.pinned.checked.prog.looks [] ∧ ∀ (j : Nat) t, fn.params[j]? = some t → Tryd.pinned.checked.prog.wantsStandIn t = false := by
  obtain rfl : f = 3 := Option.some.inj ((show Tryd.prog.funcNamed "smithy/smithylaw06.ExpandEscapes" = some 3 by kernel_rfl).symm.trans hf) |>.symm
  obtain rfl : fn = Tryd.f3 := (Option.some.inj (Tryd.func3.symm.trans hfn)).symm
  refine ⟨by kernel_rfl, fun j t ht => ?_⟩
  rw [Tryd.params3] at ht
  have hm := Array.mem_of_getElem? ht
  simp only [List.mem_toArray, List.mem_cons, List.not_mem_nil, or_false] at hm
  rcases hm with rfl | rfl
  · exact (show Tryd.prog.wantsStandIn 22 = false by kernel_rfl)
  · exact (show Tryd.prog.wantsStandIn 9 = false by kernel_rfl)
theorem proved : Rows.ExpandEscapesUptoCardSaid :=
  Claim7.holds_tied_plain_at .later [] _ _ _ _ said (fun _ h => by cases h) (by kernel_rfl) (fun _ h => by cases h) expandEscapesUpto_row_tie rfl ⟨rfl, rfl⟩ (by kernel_rfl) rfl plain (by kernel_rfl)
end Go.Proofs.YtadfbbjplgbakaaDoor.expandEscapesU
namespace Go.Proofs.YtadfbbjplgbakaaDoor
/-- The row, under a short name, for the claim. -/
theorem expandEscapesUpto_holds : Rows.ExpandEscapesUptoCardSaid := expandEscapesU.proved
#print axioms expandEscapesUpto_holds
end Go.Proofs.YtadfbbjplgbakaaDoor
