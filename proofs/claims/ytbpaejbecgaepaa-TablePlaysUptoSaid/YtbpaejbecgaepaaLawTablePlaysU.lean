/- The row of the law TablePlays (its second form): for every input that the statement lets in the Go function returns true and leaves its arguments as they were; out of the pure statement that YtbpaejbecgaepaaPureTablePlays.lean proves. -/
import Derived.Test.YtbpaejbecgaepaaRows
import Derived.Test.YtbpaejbecgaepaaOpens
import Derived.Test.YtbpaejbecgaepaaRowPlays
import Derived.WalkKit
import Derived.ProofKit
import Derived.OpenShut
import Derived.ShutString
import Derived.ChangeOld
import Derived.Below
import Derived.SizedLaws
import Derived.JoinedCond
import Derived.Deep.CondSized
namespace Go.Proofs.Ytbpaejbecgaepaa.tablePlaysU
open Go.ChangeShapes Go.WideShapes Go.ChangeAt Go.RowKit Go.Proofs.YtbpaejbecgaepaaW.PrintWords Go.Proofs.Ytbpaejbecgaepaa.Opens
open Go.ChangeMaps (open_string shut_string)
set_option linter.unusedVariables false
theorem own : ownKnob Try.prog.godebug = none := by kernel_rfl
theorem laidOut : laidOutB Try.prog = true := by kernel_rfl
theorem op3 : Rdg Try.prog 3 (Kd.int .i64) (fun _ => 1) (fitI .i64) := Rdg.int Try.underlying3
theorem op9 : Rdg Try.prog 9 Kd.string bkS fitS := Rdg.string Try.underlying9
theorem op54 : Rdg Try.prog 54 (Kd.pair (Kd.int .i64) (Kd.pair (Kd.int .i64) Kd.string)) (fun v => (fun x => (fun _ => 1) x.1 + (fun x => (fun _ => 1) x.1 + bkS x.2) x.2) v + 1) (fun x => (fitI .i64) x.1 ∧ (fun x => (fitI .i64) x.1 ∧ fitS x.2) x.2) := by
  refine Rdg.struct (d := (Kd.pair (Kd.int .i64) (Kd.pair (Kd.int .i64) Kd.string))) (bk := (fun x => (fun _ => 1) x.1 + (fun x => (fun _ => 1) x.1 + bkS x.2) x.2)) (fit := (fun x => (fitI .i64) x.1 ∧ (fun x => (fitI .i64) x.1 ∧ fitS x.2) x.2)) Try.underlying54 (by kernel_rfl) ?_
  refine RdgF.cons (d := (Kd.int .i64)) (bk := (fun _ => 1)) (fit := (fitI .i64)) (d' := (Kd.pair (Kd.int .i64) Kd.string)) (bk' := (fun x => (fun _ => 1) x.1 + bkS x.2)) (fit' := (fun x => (fitI .i64) x.1 ∧ fitS x.2)) ?_ ?_ ?_ ?_
  · exact op3
  · rfl
  · kernel_rfl
  refine RdgF.cons (d := (Kd.int .i64)) (bk := (fun _ => 1)) (fit := (fitI .i64)) (d' := Kd.string) (bk' := bkS) (fit' := fitS) ?_ ?_ ?_ ?_
  · exact op3
  · rfl
  · kernel_rfl
  refine RdgF.last (d := Kd.string) (bk := bkS) (fit := fitS) ?_ ?_ ?_
  · exact op9
  · rfl
  · kernel_rfl
theorem op51 : Rdg Try.prog 51 (Kd.slice 54 (Kd.pair (Kd.int .i64) (Kd.pair (Kd.int .i64) Kd.string))) (bkL (fun v => (fun x => (fun _ => 1) x.1 + (fun x => (fun _ => 1) x.1 + bkS x.2) x.2) v + 1)) (fitL (fun x => (fitI .i64) x.1 ∧ (fun x => (fitI .i64) x.1 ∧ fitS x.2) x.2)) := Rdg.slice Try.underlying51 (by kernel_rfl) op54
set_option maxRecDepth 100000 in
theorem contract (H : Type) (enc : TypeId × Value → H) (W : World) (base : Nat) (args : Array Value) (ds gs : List (DataW H)) (before : List MemPlace)
    (hval0 : ∀ (j : Nat) t v, Try.f7.params[j]? = some t → args[j]? = some v → Value.okWide Try.prog W .any base t v)
    (hW : DataW.Whole enc Try.prog Try.f7.params.toList Rows.tablePlaysSpec.vars false W args.toList ds gs before)
    (hk : Rows.uptoSmall H (ds ++ gs) = true) :
    Calls Try.prog 7 args W fun e W' => ∃ v, e = .returned v ∧ Rows.tablePlaysSpec.post enc Try.prog Try.f7 false true false false W args v W' := by
  have hval : ∀ (j : Nat) t v, Try.f7.params[j]? = some t → args[j]? = some v → Value.okWide Try.prog W .any base t v := hval0
  have hW' := hW
  obtain ⟨p, q, hA0, hV, rfl, hfz, hnd⟩ := hW
  have hA : DataW.TrodAll enc Try.prog W 0 (fun _ => true) true Try.f7.params.toList args.toList ds p := hA0
  rw [Try.params7] at hA hval
  obtain ⟨v0, vs0, d0, ds0, p0, q0, hargs, rfl, rfl, h0, r0⟩ := trodAll_cons hA
  obtain ⟨rfl, rfl, rfl⟩ := trodAll_nil r0
  obtain rfl : args = #[v0] := by cases args; simp_all
  obtain ⟨rfl, rfl⟩ := trodVars_none hV
  have k0 := h0
  have lt0 : ∀ x ∈ p0, x.block < W.heap.size := by obtain ⟨m, hm⟩ := k0; exact DataW.trod_lt m _ _ _ hm
  obtain ⟨A0, c0, l0, rfl, hc0, hr0, hf0, hb0⟩ := open_slice op51 (by obtain ⟨a, n, c, h⟩ := okWide_slice Try.underlying51 (hval 0 51 v0 rfl rfl); exact ⟨a, n, c, h⟩) h0
  have hkk := of_decide_eq_true hk
  simp only [List.append_nil, Rows.uptoBulkAll] at hkk
  have hB : bkL (fun v => (fun x => (fun _ => 1) x.1 + (fun x => (fun _ => 1) x.1 + bkS x.2) x.2) v + 1) l0 ≤ 1048576 := by
    skip
    omega
  refine (Hand.TablePlays.row A0 c0 l0 W hB hr0 hc0).mono fun e W' hw => ?_
  obtain ⟨rfl, bel⟩ := hw
  exact ⟨_, rfl, _, _, _, [], _, [], hW', trodAll_mk1 (shut_bool Try.underlying4 _), (trodAll_cons_mk (Below.trod laidOut (by kernel_rfl) (of_decide_eq_true (by kernel_rfl)) k0 bel lt0) trodAll_mk0), rfl, bel.frame _, fun h => by cases h⟩
set_option maxRecDepth 100000 in
theorem lifted (os : Os) (started : os.Started) (H : Type) (enc : TypeId × Value → H) (F : Stop.Interp) :
    ReturnsInHanded {} Try.checked os 7 .any ((Rows.OpenSpec.upto Rows.tablePlaysSpec).pre6 enc Try.prog Try.f7 Rows.tablePlaysUptoRow.domain false) (((Rows.OpenSpec.upto Rows.tablePlaysSpec).at F).post enc Try.prog Try.f7 false true false false) := by
  refine returnsInHanded_of_cond (C := Try.checked) (s := Rows.OpenSpec.upto Rows.tablePlaysSpec) (k := Rows.uptoSmall) rfl own started (by kernel_rfl) Try.func7
    (OpenSpec.witness (enc := enc) (C := Try.checked) (s := Rows.OpenSpec.upto Rows.tablePlaysSpec) (k := Rows.uptoSmall) rfl false ⟨#[], #[.slice none 0 0], []⟩ 8 (by kernel_rfl) (by kernel_rfl) (by kernel_rfl)
      (x := ([.nil], [], [])) (by kernel_rfl) rfl (by kernel_rfl)) ?_
  intro W base args ds gs before hval hW _ hk _
  exact contract H enc W base args ds gs before hval hW hk
theorem proved : Rows.TablePlaysUptoSaid :=
  OpenClaim.holds_of_cond 7 Try.f7 rfl rfl rfl rfl rfl rfl rfl ⟨rfl, rfl, rfl, rfl, rfl⟩ rfl rfl rfl rfl rfl (by kernel_rfl) Try.func7 (by kernel_rfl)
    (of_decide_eq_true (by kernel_rfl)) (by unfold Func.isWrapper; first | (rw [if_pos (by decide +kernel)]; kernel_rfl) | (rw [if_neg (by decide +kernel)]; exact ⟨rfl, rfl⟩))
    (fun os started H enc _ F => lifted os started H enc F)
end Go.Proofs.Ytbpaejbecgaepaa.tablePlaysU
namespace Go.Proofs.Ytbpaejbecgaepaa
/-- The row, under a short name, for the claim. -/
theorem tablePlaysUpto_holds : Rows.TablePlaysUptoSaid := tablePlaysU.proved
#print axioms tablePlaysUpto_holds
end Go.Proofs.Ytbpaejbecgaepaa
