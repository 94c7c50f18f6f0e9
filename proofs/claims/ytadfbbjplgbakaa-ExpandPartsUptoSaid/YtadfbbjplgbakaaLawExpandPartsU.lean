/- The row of the law ExpandParts (its second form): for every input that the statement lets in the Go function returns true and leaves its arguments as they were; out of the pure statement that YtadfbbjplgbakaaPureExpandParts.lean proves. -/
import Derived.Test.YtadfbbjplgbakaaRows
import Derived.Test.YtadfbbjplgbakaaOpens
import Derived.Test.YtadfbbjplgbakaaPXx7
import Derived.Test.YtadfbbjplgbakaaPureExpandParts
import Derived.WalkKit
import Derived.ProofKit
import Derived.OpenShut
import Derived.ShutString
import Derived.ChangeOld
import Derived.Below
import Derived.SizedLaws
import Derived.JoinedCond
import Derived.Deep.CondSized
namespace Go.Proofs.Ytadfbbjplgbakaa.expandPartsU
open Go.ChangeShapes Go.WideShapes Go.ChangeAt Go.RowKit Go.Proofs.YtadfbbjplgbakaaW.PrintWords Go.Proofs.Ytadfbbjplgbakaa.PX Go.Proofs.Ytadfbbjplgbakaa.Opens
open Go.ChangeMaps (open_string shut_string)
set_option linter.unusedVariables false
theorem own : ownKnob Try.prog.godebug = none := by kernel_rfl
theorem laidOut : laidOutB Try.prog = true := by kernel_rfl
theorem op9 : Rdg Try.prog 9 Kd.string bkS fitS := Rdg.string Try.underlying9
theorem op3 : Rdg Try.prog 3 (Kd.int .i64) (fun _ => 1) (fitI .i64) := Rdg.int Try.underlying3
theorem op34 : Rdg Try.prog 34 (Kd.pair Kd.string (Kd.pair Kd.string (Kd.int .i64))) (fun v => (fun x => bkS x.1 + (fun x => bkS x.1 + (fun _ => 1) x.2) x.2) v + 1) (fun x => fitS x.1 ∧ (fun x => fitS x.1 ∧ (fitI .i64) x.2) x.2) := by
  refine Rdg.struct (d := (Kd.pair Kd.string (Kd.pair Kd.string (Kd.int .i64)))) (bk := (fun x => bkS x.1 + (fun x => bkS x.1 + (fun _ => 1) x.2) x.2)) (fit := (fun x => fitS x.1 ∧ (fun x => fitS x.1 ∧ (fitI .i64) x.2) x.2)) Try.underlying34 (by kernel_rfl) ?_
  refine RdgF.cons (d := Kd.string) (bk := bkS) (fit := fitS) (d' := (Kd.pair Kd.string (Kd.int .i64))) (bk' := (fun x => bkS x.1 + (fun _ => 1) x.2)) (fit' := (fun x => fitS x.1 ∧ (fitI .i64) x.2)) ?_ ?_ ?_ ?_
  · exact op9
  · rfl
  · kernel_rfl
  refine RdgF.cons (d := Kd.string) (bk := bkS) (fit := fitS) (d' := (Kd.int .i64)) (bk' := (fun _ => 1)) (fit' := (fitI .i64)) ?_ ?_ ?_ ?_
  · exact op9
  · rfl
  · kernel_rfl
  refine RdgF.last (d := (Kd.int .i64)) (bk := (fun _ => 1)) (fit := (fitI .i64)) ?_ ?_ ?_
  · exact op3
  · rfl
  · kernel_rfl
theorem opS34 : Rdg Try.prog 34 k34 (fun x : S34 => (fun v => (fun x => bkS x.1 + (fun x => bkS x.1 + (fun _ => 1) x.2) x.2) v + 1) (x.f0, x.f1, x.f2)) (fun x : S34 => (fun x => fitS x.1 ∧ (fun x => fitS x.1 ∧ (fitI .i64) x.2) x.2) (x.f0, x.f1, x.f2)) := Rdg.iso op34 (fun x : S34 => (x.f0, x.f1, x.f2)) (fun y => ⟨y.1, y.2.1, y.2.2⟩) (fun _ => rfl)
theorem op22 : Rdg Try.prog 22 (Kd.slice 34 k34) (bkL (fun x : S34 => (fun v => (fun x => bkS x.1 + (fun x => bkS x.1 + (fun _ => 1) x.2) x.2) v + 1) (x.f0, x.f1, x.f2))) (fitL (fun x : S34 => (fun x => fitS x.1 ∧ (fun x => fitS x.1 ∧ (fitI .i64) x.2) x.2) (x.f0, x.f1, x.f2))) := Rdg.slice Try.underlying22 (by kernel_rfl) opS34
set_option maxRecDepth 100000 in
theorem contract (H : Type) (enc : TypeId × Value → H) (W : World) (base : Nat) (args : Array Value) (ds gs : List (DataW H)) (before : List MemPlace)
    (hval0 : ∀ (j : Nat) t v, Try.f3.params[j]? = some t → args[j]? = some v → Value.okWide Try.prog W .any base t v)
    (hW : DataW.Whole enc Try.prog Try.f3.params.toList Rows.expandPartsSpec.vars false W args.toList ds gs before)
    (hk : Rows.uptoSmall H (ds ++ gs) = true) :
    Calls Try.prog 3 args W fun e W' => ∃ v, e = .returned v ∧ Rows.expandPartsSpec.post enc Try.prog Try.f3 false true false false W args v W' := by
  have hval : ∀ (j : Nat) t v, Try.f3.params[j]? = some t → args[j]? = some v → Value.okWide Try.prog W .any base t v := hval0
  have hW' := hW
  obtain ⟨p, q, hA0, hV, rfl, hfz, hnd⟩ := hW
  have hA : DataW.TrodAll enc Try.prog W 0 (fun _ => true) true Try.f3.params.toList args.toList ds p := hA0
  rw [Try.params3] at hA hval
  obtain ⟨v0, vs0, d0, ds0, p0, q0, hargs, rfl, rfl, h0, r0⟩ := trodAll_cons hA
  obtain ⟨v1, vs1, d1, ds1, p1, q1, rfl, rfl, rfl, h1, r1⟩ := trodAll_cons r0
  obtain ⟨v2, vs2, d2, ds2, p2, q2, rfl, rfl, rfl, h2, r2⟩ := trodAll_cons r1
  obtain ⟨rfl, rfl, rfl⟩ := trodAll_nil r2
  obtain rfl : args = #[v0, v1, v2] := by cases args; simp_all
  obtain ⟨rfl, rfl⟩ := trodVars_none hV
  have k0 := h0
  have lt0 : ∀ x ∈ p0, x.block < W.heap.size := by obtain ⟨m, hm⟩ := k0; exact DataW.trod_lt m _ _ _ hm
  obtain ⟨A0, c0, l0, rfl, hc0, hr0, hf0, hb0⟩ := open_slice op22 (by obtain ⟨a, n, c, h⟩ := okWide_slice Try.underlying22 (hval 0 22 v0 rfl rfl); exact ⟨a, n, c, h⟩) h0
  have k1 := h1
  have lt1 : ∀ x ∈ p1, x.block < W.heap.size := by obtain ⟨m, hm⟩ := k1; exact DataW.trod_lt m _ _ _ hm
  obtain ⟨u1, hu1, hf1, hb1⟩ := open_op op9 h1
  obtain ⟨a1, rfl⟩ := okWide_string Try.underlying9 (hval 1 9 v1 rfl rfl)
  obtain rfl : a1 = u1 := by have hx : (Value.string a1).cells.toList = [Value.string u1] := hu1; simpa [Value.cells] using hx
  have k2 := h2
  have lt2 : ∀ x ∈ p2, x.block < W.heap.size := by obtain ⟨m, hm⟩ := k2; exact DataW.trod_lt m _ _ _ hm
  obtain ⟨u2, hu2, hf2, hb2⟩ := open_op op9 h2
  obtain ⟨a2, rfl⟩ := okWide_string Try.underlying9 (hval 2 9 v2 rfl rfl)
  obtain rfl : a2 = u2 := by have hx : (Value.string a2).cells.toList = [Value.string u2] := hu2; simpa [Value.cells] using hx
  have hkk := of_decide_eq_true hk
  simp only [List.append_nil, Rows.uptoBulkAll] at hkk
  have hB : bkL (fun x : S34 => (fun v => (fun x => bkS x.1 + (fun x => bkS x.1 + (fun _ => 1) x.2) x.2) v + 1) (x.f0, x.f1, x.f2)) l0 + bkS a1 + bkS a2 ≤ 1048576 := by
    skip
    omega
  obtain ⟨k, hp⟩ := Pure.ExpandParts l0 a1 a2 hB
  refine (smithylaw06_ExpandParts.calls k A0 c0 l0 a1 a2 true W hr0 hc0 hp).mono fun e W' hw => ?_
  obtain ⟨rfl, bel⟩ := hw
  exact ⟨_, rfl, _, _, _, [], _, [], hW', trodAll_mk1 (shut_bool Try.underlying4 _), (trodAll_cons_mk (Below.trod laidOut (by kernel_rfl) (of_decide_eq_true (by kernel_rfl)) k0 bel lt0) (trodAll_cons_mk (Below.trod laidOut (by kernel_rfl) (of_decide_eq_true (by kernel_rfl)) k1 bel lt1) (trodAll_cons_mk (Below.trod laidOut (by kernel_rfl) (of_decide_eq_true (by kernel_rfl)) k2 bel lt2) trodAll_mk0))), rfl, bel.frame _, fun h => by cases h⟩
set_option maxRecDepth 100000 in
theorem lifted (os : Os) (started : os.Started) (H : Type) (enc : TypeId × Value → H) (F : Stop.Interp) :
    ReturnsInHanded {} Try.checked os 3 .any ((Rows.OpenSpec.upto Rows.expandPartsSpec).pre6 enc Try.prog Try.f3 Rows.expandPartsUptoRow.domain false) (((Rows.OpenSpec.upto Rows.expandPartsSpec).at F).post enc Try.prog Try.f3 false true false false) := by
  refine returnsInHanded_of_cond (C := Try.checked) (s := Rows.OpenSpec.upto Rows.expandPartsSpec) (k := Rows.uptoSmall) rfl own started (by kernel_rfl) Try.func3
    (OpenSpec.witness (enc := enc) (C := Try.checked) (s := Rows.OpenSpec.upto Rows.expandPartsSpec) (k := Rows.uptoSmall) rfl false ⟨#[], #[.slice none 0 0, .string ByteArray.empty, .string ByteArray.empty], []⟩ 8 (by kernel_rfl) (by kernel_rfl) (by kernel_rfl)
      (x := ([.nil, .lit (.string []), .lit (.string [])], [], [])) (by kernel_rfl) rfl (by kernel_rfl)) ?_
  intro W base args ds gs before hval hW _ hk _
  exact contract H enc W base args ds gs before hval hW hk
theorem proved : Rows.ExpandPartsUptoSaid :=
  OpenClaim.holds_of_cond 3 Try.f3 rfl rfl rfl rfl rfl rfl rfl ⟨rfl, rfl, rfl, rfl, rfl⟩ rfl rfl rfl rfl rfl (by kernel_rfl) Try.func3 (by kernel_rfl)
    (of_decide_eq_true (by kernel_rfl)) (by unfold Func.isWrapper; first | (rw [if_pos (by decide +kernel)]; kernel_rfl) | (rw [if_neg (by decide +kernel)]; exact ⟨rfl, rfl⟩))
    (fun os started H enc _ F => lifted os started H enc F)
end Go.Proofs.Ytadfbbjplgbakaa.expandPartsU
namespace Go.Proofs.Ytadfbbjplgbakaa
/-- The row, under a short name, for the claim. -/
theorem expandPartsUpto_holds : Rows.ExpandPartsUptoSaid := expandPartsU.proved
#print axioms expandPartsUpto_holds
end Go.Proofs.Ytadfbbjplgbakaa
