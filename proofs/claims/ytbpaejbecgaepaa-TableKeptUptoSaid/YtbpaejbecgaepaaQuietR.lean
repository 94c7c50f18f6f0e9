/- A quiet region that draws its order, within a round of a range over a function: the kit's law asks that there be no round; where no operation is a defer statement it holds in a round too. -/
import Derived.Sort.QuietIn
import Derived.RangeFuncCalls
namespace Go.Proofs.Ytbpaejbecgaepaa.Hand
open Go Go.RowKit
variable {F : Fence} {n : Nat} {P : Program}

def noDefer (o : Oper) : Bool := match o.op with | .defer _ => false | _ => true
theorem noDefer_spec {o : Oper} (h : noDefer o = true) : ∀ c, o.op ≠ .defer c := by
  intro c e
  unfold noDefer at h
  rw [e] at h
  cases h
theorem wpIn_round {o : Oper} (hro : F.round = none) (hnd : noDefer o = true) (l : Nat) {a : Act} {w : World} {K : Act → World → Prop} {Q : Exit → Act → World → Prop} (h : o.wpIn F n P a w K Q) : o.wpIn (F.inRound l) n P a w K Q := by
  obtain ⟨h1, h2⟩ := h
  refine ⟨h1, ?_⟩
  rw [Fence.inRound_round, Oper.semAt_eq _ _ _ (noDefer_spec hnd)]
  rw [hro, Oper.semAt_none] at h2
  exact h2
theorem wpOpIn_round {ops : Array Oper} (hro : F.round = none) (hnd : ∀ (i : Nat) (o : Oper), ops[i]? = some o → noDefer o = true) (l : Nat) {i : Nat} {a : Act} {w : World} {K K' : Act → World → Prop} {Q : Exit → Act → World → Prop} (hK : ∀ a w, K a w → K' a w) (h : wpOpIn F n P ops Q i K a w) : wpOpIn (F.inRound l) n P ops Q i K' a w := by
  unfold wpOpIn at *
  cases hi : ops[i]? with
  | none => simp only [hi] at h ⊢; exact hK _ _ h
  | some o =>
    simp only [hi] at h ⊢
    split
    · rename_i hw
      simp only [hw, if_true] at h
      exact wpIn_round hro (hnd i o hi) l (Oper.wpIn_mono hK h)
    · rename_i hw
      simp only [hw] at h
      exact ⟨h.1, hK _ _ h.2⟩
theorem wpAnyIn_round {md : Region.Mode} {ops : Array Oper} {Q : Exit → Act → World → Prop} (hro : F.round = none) (hnd : ∀ (i : Nat) (o : Oper), ops[i]? = some o → noDefer o = true) (l : Nat) : ∀ (fuel : Nat) (listed : Array Bool) (a : Act) (w : World), wpAnyIn F n P md ops Q fuel listed a w → wpAnyIn (F.inRound l) n P md ops Q fuel listed a w
  | 0, _, _, _, h => h
  | fuel + 1, _, _, _, h => ⟨h.1, fun i hi => wpOpIn_round hro hnd l (fun a' w' h' => wpAnyIn_round hro hnd l fuel _ a' w' h') (h.2 i hi)⟩
theorem region_quiet_round {id : Nat} {Q : Exit → Act → World → Prop} {a : Act} {w : World} {ops : List Oper} (l : Nat) (hro : F.round = none) (hnd : ops.all noDefer = true) (hm : P.follows .mixedOrders = true) (hB : Region.lexB .any ops.toArray = true)
    (h : wpQuietIn F n P ops.toArray (fun w' => ∃ n, w' = w.drewN n) (fun a' => ∀ w', (∃ n, w' = w.drewN n) → Q .normal a' w') ops a) : (Code.region id ops.toArray true).wpIn (F.inRound l) n P Q a w := by
  have hB0 := hB
  simp only [Region.lexB, Bool.and_eq_true] at hB
  have hn : ∀ (i : Nat) (o : Oper), ops.toArray[i]? = some o → noDefer o = true := fun i o hi => List.all_eq_true.1 hnd o (List.mem_of_getElem? (by simpa using hi))
  refine wpIn_region_any hm (wpAnyIn_round hro hn l _ _ _ _ (wpAnyIn_of_quiet (C := fun w' => ∃ n, w' = w.drewN n) (Q := fun a' => ∀ w', (∃ n, w' = w.drewN n) → Q .normal a' w') hro (fun _ w' hw' h => h w' hw') _ _ _ _ ⟨1, rfl⟩ ?_))
  have := wpAnyQIn_lex (F := F) (n := n) (C := fun w' => ∃ n, w' = w.drewN n) (md := .any) hB.1 ops 0 (Array.replicate ops.length false) a (by simp) (by simpa using hB.2) h
  simpa using this
end Go.Proofs.Ytbpaejbecgaepaa.Hand
