/- The row of the law ExpandUses (its second form): for every input that the statement lets in the Go function returns true and leaves its arguments as they were; out of the pure statement that YtadfbbjplgbakaaGreatPureExpandUses.lean proves. -/
import Derived.Test.YtadfbbjplgbakaaGreatRows
import Derived.Test.YtadfbbjplgbakaaGreatOpens
import Derived.Test.YtadfbbjplgbakaaGreatPXx10
import Derived.Test.YtadfbbjplgbakaaGreatPureExpandUses
import Derived.WalkKit
import Derived.ProofKit
import Derived.OpenShut
import Derived.ShutString
import Derived.ChangeOld
import Derived.Below
import Derived.SizedLaws
import Derived.JoinedCond
import Derived.Deep.CondSized
namespace Go.Proofs.YtadfbbjplgbakaaGreat.expandUsesU
open Go.ChangeShapes Go.WideShapes Go.ChangeAt Go.RowKit Go.Proofs.YtadfbbjplgbakaaGreatW.PrintWords Go.Proofs.YtadfbbjplgbakaaGreat.PX Go.Proofs.YtadfbbjplgbakaaGreat.Opens
open Go.ChangeMaps (open_string shut_string)
set_option linter.unusedVariables false
theorem own : ownKnob Tryz.prog.godebug = none := by kernel_rfl
theorem laidOut : laidOutB Tryz.prog = true := by kernel_rfl
theorem op9 : Rdg Tryz.prog 9 Kd.string bkS fitS := Rdg.string Tryz.underlying9
theorem op3 : Rdg Tryz.prog 3 (Kd.int .i64) (fun _ => 1) (fitI .i64) := Rdg.int Tryz.underlying3
theorem op42 : Rdg Tryz.prog 42 (Kd.pair Kd.string (Kd.pair Kd.string (Kd.int .i64))) (fun v => (fun x => bkS x.1 + (fun x => bkS x.1 + (fun _ => 1) x.2) x.2) v + 1) (fun x => fitS x.1 ∧ (fun x => fitS x.1 ∧ (fitI .i64) x.2) x.2) := by
  refine Rdg.struct (d := (Kd.pair Kd.string (Kd.pair Kd.string (Kd.int .i64)))) (bk := (fun x => bkS x.1 + (fun x => bkS x.1 + (fun _ => 1) x.2) x.2)) (fit := (fun x => fitS x.1 ∧ (fun x => fitS x.1 ∧ (fitI .i64) x.2) x.2)) Tryz.underlying42 (by kernel_rfl) ?_
  refine RdgF.cons (d := Kd.string) (bk := bkS) (fit := fitS) (d' := (Kd.pair Kd.string (Kd.int .i64))) (bk' := (fun x => bkS x.1 + (fun _ => 1) x.2)) (fit' := (fun x => fitS x.1 ∧ (fitI .i64) x.2)) ?_ ?_ ?_ ?_
  · exact op9
  · rfl
  · kernel_rfl
  refine RdgF.cons (d := Kd.string) (bk := bkS) (fit := fitS) (d' := (Kd.int .i64)) (bk' := (fun _ => 1)) (fit' := (fitI .i64)) ?_ ?_ ?_ ?_
  · exact op9
  · rfl
  · kernel_rfl
  refine RdgF.last (d := (Kd.int .i64)) (bk := (fun _ => 1)) (fit := (fitI .i64)) ?_ ?_ ?_
  · exact op3
  · rfl
  · kernel_rfl
theorem opS42 : Rdg Tryz.prog 42 k42 (fun x : S42 => (fun v => (fun x => bkS x.1 + (fun x => bkS x.1 + (fun _ => 1) x.2) x.2) v + 1) (x.f0, x.f1, x.f2)) (fun x : S42 => (fun x => fitS x.1 ∧ (fun x => fitS x.1 ∧ (fitI .i64) x.2) x.2) (x.f0, x.f1, x.f2)) := Rdg.iso op42 (fun x : S42 => (x.f0, x.f1, x.f2)) (fun y => ⟨y.1, y.2.1, y.2.2⟩) (fun _ => rfl)
theorem op22 : Rdg Tryz.prog 22 (Kd.slice 42 k42) (bkL (fun x : S42 => (fun v => (fun x => bkS x.1 + (fun x => bkS x.1 + (fun _ => 1) x.2) x.2) v + 1) (x.f0, x.f1, x.f2))) (fitL (fun x : S42 => (fun x => fitS x.1 ∧ (fun x => fitS x.1 ∧ (fitI .i64) x.2) x.2) (x.f0, x.f1, x.f2))) := Rdg.slice Tryz.underlying22 (by kernel_rfl) opS42
set_option maxRecDepth 100000 in
theorem contract (H : Type) (enc : TypeId × Value → H) (W : World) (base : Nat) (args : Array Value) (ds gs : List (DataW H)) (before : List MemPlace)
    (hval0 : ∀ (j : Nat) t v, Tryz.f3.params[j]? = some t → args[j]? = some v → Value.okWide Tryz.prog W .any base t v)
    (hW : DataW.Whole enc Tryz.prog Tryz.f3.params.toList Rows.expandUsesSpec.vars false W args.toList ds gs before)
    (hk : Rows.uptoSmall H (ds ++ gs) = true) :
    Calls Tryz.prog 3 args W fun e W' => ∃ v, e = .returned v ∧ Rows.expandUsesSpec.post enc Tryz.prog Tryz.f3 false true false false W args v W' := by
  have hval : ∀ (j : Nat) t v, Tryz.f3.params[j]? = some t → args[j]? = some v → Value.okWide Tryz.prog W .any base t v := hval0
  have hW' := hW
  obtain ⟨p, q, hA0, hV, rfl, hfz, hnd⟩ := hW
  have hA : DataW.TrodAll enc Tryz.prog W 0 (fun _ => true) true Tryz.f3.params.toList args.toList ds p := hA0
  rw [Tryz.params3] at hA hval
  obtain ⟨v0, vs0, d0, ds0, p0, q0, hargs, rfl, rfl, h0, r0⟩ := trodAll_cons hA
  obtain ⟨v1, vs1, d1, ds1, p1, q1, rfl, rfl, rfl, h1, r1⟩ := trodAll_cons r0
  obtain ⟨rfl, rfl, rfl⟩ := trodAll_nil r1
  obtain rfl : args = #[v0, v1] := by cases args; simp_all
  obtain ⟨rfl, rfl⟩ := trodVars_none hV
  have k0 := h0
  have lt0 : ∀ x ∈ p0, x.block < W.heap.size := by obtain ⟨m, hm⟩ := k0; exact DataW.trod_lt m _ _ _ hm
  obtain ⟨A0, c0, l0, rfl, hc0, hr0, hf0, hb0⟩ := open_slice op22 (by obtain ⟨a, n, c, h⟩ := okWide_slice Tryz.underlying22 (hval 0 22 v0 rfl rfl); exact ⟨a, n, c, h⟩) h0
  have k1 := h1
  have lt1 : ∀ x ∈ p1, x.block < W.heap.size := by obtain ⟨m, hm⟩ := k1; exact DataW.trod_lt m _ _ _ hm
  obtain ⟨u1, hu1, hf1, hb1⟩ := open_op op9 h1
  obtain ⟨a1, rfl⟩ := okWide_string Tryz.underlying9 (hval 1 9 v1 rfl rfl)
  obtain rfl : a1 = u1 := by have hx : (Value.string a1).cells.toList = [Value.string u1] := hu1; simpa [Value.cells] using hx
  have hkk := of_decide_eq_true hk
  simp only [List.append_nil, Rows.uptoBulkAll] at hkk
  have hB : bkL (fun x : S42 => (fun v => (fun x => bkS x.1 + (fun x => bkS x.1 + (fun _ => 1) x.2) x.2) v + 1) (x.f0, x.f1, x.f2)) l0 + bkS a1 ≤ 1048576 := by
    skip
    omega
  obtain ⟨k, hp⟩ := Pure.ExpandUses l0 a1 hB
  refine (smithylaw06_ExpandUses.calls k A0 c0 l0 a1 true W hr0 hc0 hp).mono fun e W' hw => ?_
  obtain ⟨rfl, bel⟩ := hw
  exact ⟨_, rfl, _, _, _, [], _, [], hW', trodAll_mk1 (shut_bool Tryz.underlying4 _), (trodAll_cons_mk (Below.trod laidOut (by kernel_rfl) (of_decide_eq_true (by kernel_rfl)) k0 bel lt0) (trodAll_cons_mk (Below.trod laidOut (by kernel_rfl) (of_decide_eq_true (by kernel_rfl)) k1 bel lt1) trodAll_mk0)), rfl, bel.frame _, fun h => by cases h⟩
set_option maxRecDepth 100000 in
theorem lifted (os : Os) (started : os.Started) (H : Type) (enc : TypeId × Value → H) (F : Stop.Interp) :
    ReturnsInHanded {} Tryz.checked os 3 .any ((Rows.OpenSpec.upto Rows.expandUsesSpec).pre6 enc Tryz.prog Tryz.f3 Rows.expandUsesUptoRow.domain false) (((Rows.OpenSpec.upto Rows.expandUsesSpec).at F).post enc Tryz.prog Tryz.f3 false true false false) := by
  refine returnsInHanded_of_cond (C := Tryz.checked) (s := Rows.OpenSpec.upto Rows.expandUsesSpec) (k := Rows.uptoSmall) rfl own started (by kernel_rfl) Tryz.func3
    (OpenSpec.witness (enc := enc) (C := Tryz.checked) (s := Rows.OpenSpec.upto Rows.expandUsesSpec) (k := Rows.uptoSmall) rfl false ⟨#[], #[.slice none 0 0, .string ByteArray.empty], []⟩ 8 (by kernel_rfl) (by kernel_rfl) (by kernel_rfl)
      (x := ([.nil, .lit (.string [])], [], [])) (by kernel_rfl) rfl (by kernel_rfl)) ?_
  intro W base args ds gs before hval hW _ hk _
  exact contract H enc W base args ds gs before hval hW hk
theorem proved : Rows.ExpandUsesUptoSaid :=
  OpenClaim.holds_of_cond 3 Tryz.f3 rfl rfl rfl rfl rfl rfl rfl ⟨rfl, rfl, rfl, rfl, rfl⟩ rfl rfl rfl rfl rfl (by kernel_rfl) Tryz.func3 (by kernel_rfl)
    (of_decide_eq_true (by kernel_rfl)) (by unfold Func.isWrapper; first | (rw [if_pos (by decide +kernel)]; kernel_rfl) | (rw [if_neg (by decide +kernel)]; exact ⟨rfl, rfl⟩))
    (fun os started H enc _ F => lifted os started H enc F)
end Go.Proofs.YtadfbbjplgbakaaGreat.expandUsesU
namespace Go.Proofs.YtadfbbjplgbakaaGreat
/-- The row, under a short name, for the claim. -/
theorem expandUsesUpto_holds : Rows.ExpandUsesUptoSaid := expandUsesU.proved
#print axioms expandUsesUpto_holds
end Go.Proofs.YtadfbbjplgbakaaGreat
