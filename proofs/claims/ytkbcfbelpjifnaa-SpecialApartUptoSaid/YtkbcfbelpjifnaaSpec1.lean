/- The special targets: slices.ContainsFunc, Clone, Concat at []string; asked. -/
import Derived.Test.YtkbcfbelpjifnaaNamesC
import Derived.WalkKit
import Derived.WalkMore
import Derived.OwnWalk
import Derived.Lib.SliceRun
import Derived.Lib.OthersKept
import Derived.Laws.AppendOwnNone
import Derived.Deep.LoopGhost
import Derived.Deep.DeepMust
namespace Go.Proofs.Ytkbcfbelpjifnaa.Spec
open Go Go.RowKit Go.Proofs Go.Proofs.YtkbcfbelpjifnaaW.PrintWords Go.Proofs.Ytkbcfbelpjifnaa.PX Go.Proofs.Ytkbcfbelpjifnaa.Plain
set_option linter.unusedVariables false
set_option linter.unusedSimpArgs false

theorem str_at {w : World} {A : Option Addr} {l : List ByteArray} (h : Kd.string.C w A l.length l) {i : Nat} {x : ByteArray} (hx : l[i]? = some x) : ∃ ad, A = some ad ∧ w.cell? (ad.add i) = some (.string x) := by
  have hi := (List.getElem?_eq_some_iff.1 hx).1
  obtain ⟨ad, e, hc⟩ := h.2.2 (by omega)
  obtain ⟨c, hs, hr, hcell⟩ := hc i x hx
  have hr' : c = [Value.string x] := hr
  subst hr'
  have := hcell 0 _ rfl
  refine ⟨ad, e, ?_⟩
  simpa [Kd.string, Kd.scalar] using this
theorem below_t {w W w2 : World} (h : Below w.heap.size w W) (k : Below W.heap.size W w2) : Below w.heap.size w w2 :=
  h.trans ⟨k.os, k.tape, k.output, k.size, fun i hi => k.block i (Nat.lt_of_lt_of_le hi h.size)⟩
/-- The first place where it holds; -1: nowhere. -/
def idxP {α : Type} (p : α → Bool) (l : List α) : Int := match l.findIdx? p with
  | some i => (i : Int)
  | none => -1
set_option maxHeartbeats 2000000 in
set_option maxRecDepth 100000 in
theorem index_func (f : Nat) (p : ByteArray → Bool) (A : Option Addr) (c : Nat) (l : List ByteArray) (w : World) (hr : Kd.string.C w A l.length l) (eg : ∀ args w, (callFunc f args).run Try.prog w = .ok (.enter f args) w)
    (hf : ∀ x ∈ l, ∀ W, Below w.heap.size w W → Calls Try.prog f #[.string x] W fun e W' => e = .returned (.bool (p x)) ∧ Below W.heap.size W W') :
    Calls Try.prog 45 #[.slice A l.length c, .func (.func f) #[] #[]] w fun e w' => e = .returned (.int .i64 (idxP p l)) ∧ Below w.heap.size w w' := by
  have hmx : l.length ≤ 9223372036854775807 := hr.2.1
  go_enter Try.func45, Try.ntmps45
  go_wp2_with fail
  go_loopw [8] (fun i wr => ∃ k : Nat, i = .int .i64 (k : Int) ∧ k ≤ l.length ∧ (∀ j x, j < k → l[j]? = some x → p x = false) ∧ Below w.heap.size w wr) (fun i _ => l.length - (intOf i).toNat)
  case atStart => exact ⟨0, rfl, Nat.zero_le _, fun j x h => by omega, Below.refl _ _⟩
  case round =>
    obtain ⟨k, rfl, hk, hno, hB⟩ := hrel
    by_cases hlt : k < l.length
    · have d1 : (k : Int) < (l.length : Int) := by omega
      have d2 : (0 : Int) ≤ (k : Int) := by omega
      obtain ⟨x, hx⟩ : ∃ x, l[k]? = some x := ⟨_, List.getElem?_eq_getElem hlt⟩
      obtain ⟨ad, rfl, hcx⟩ := str_at (Kd.C_below hr hB) hx
      have hcall := hf x (List.mem_of_getElem? hx) wr hB
      go_wp2_with fail
      refine hcall.mono ?_
      rintro e w2 ⟨rfl, hb2⟩
      cases hp : p x with
      | true =>
        have hi : idxP p l = (k : Int) := by
          unfold idxP
          have : l.findIdx? p = some k := by
            rw [List.findIdx?_eq_some_iff_getElem]
            refine ⟨hlt, ?_, fun j hj => ?_⟩
            · rw [(List.getElem?_eq_some_iff.1 hx).2]; exact hp
            · rw [hno j _ hj (List.getElem?_eq_getElem (by omega))]; simp
          rw [this]
        go_wp2
        go_ret
        exact ⟨by first | rfl | (rw [hi]; rfl), below_t hB hb2⟩
      | false =>
        go_wp2
        go_roundw
        case rel =>
          refine ⟨k + 1, by go_num, by omega, fun j y hj hy => ?_, below_t hB hb2⟩
          by_cases e : j = k
          · subst e; rw [hx] at hy; cases hy; exact hp
          · exact hno j y (by omega) hy
        case measure => simp [intOf]; omega
    · obtain rfl : k = l.length := by omega
      have d1 : ¬ ((l.length : Int) < (l.length : Int)) := by omega
      have hi : idxP p l = -1 := by
        unfold idxP
        have : l.findIdx? p = none := by
          rw [List.findIdx?_eq_none_iff]
          intro x hx
          obtain ⟨j, hj⟩ := List.mem_iff_getElem?.1 hx
          exact hno j x (List.getElem?_eq_some_iff.1 hj).1 hj
        rw [this]
      go_wp2
      go_ret
      exact ⟨by first | rfl | (rw [hi]; rfl), hB⟩
theorem idxP_any {α : Type} (p : α → Bool) (l : List α) : decide (idxP p l ≥ 0) = l.any p := by
  unfold idxP
  cases h : l.findIdx? p with
  | none =>
    have : l.any p = false := by
      rw [List.findIdx?_eq_none_iff] at h
      rw [List.any_eq_false]
      intro x hx
      simp [h x hx]
    rw [this]; rfl
  | some i =>
    obtain ⟨hi, hp, _⟩ := List.findIdx?_eq_some_iff_getElem.1 h
    have : l.any p = true := List.any_eq_true.2 ⟨_, List.getElem_mem hi, hp⟩
    rw [this]
    simp
set_option maxHeartbeats 1000000 in
theorem contains_func (f : Nat) (p : ByteArray → Bool) (A : Option Addr) (c : Nat) (l : List ByteArray) (w : World) (hr : Kd.string.C w A l.length l) (eg : ∀ args w, (callFunc f args).run Try.prog w = .ok (.enter f args) w)
    (hf : ∀ x ∈ l, ∀ W, Below w.heap.size w W → Calls Try.prog f #[.string x] W fun e W' => e = .returned (.bool (p x)) ∧ Below W.heap.size W W') :
    Calls Try.prog 22 #[.slice A l.length c, .func (.func f) #[] #[]] w fun e w' => e = .returned (.bool (l.any p)) ∧ Below w.heap.size w w' := by
  go_enter Try.func22, Try.ntmps22
  go_wp2_with fail
  refine (index_func f p A c l w hr eg hf).mono ?_
  rintro e w2 ⟨rfl, hb2⟩
  have hany := idxP_any p l
  generalize idxP p l = q at hany
  go_wp2
  go_ret
  exact ⟨by rw [← hany]; simp, hb2⟩
set_option maxHeartbeats 1000000 in
theorem asked_one (s : ByteArray) (hs : s.size ≤ 4611686018427387904) (w : World) : Calls Try.prog 31 #[.string s] w fun e w' => e = .returned (.bool (!isName s)) ∧ Below w.heap.size w w' := by
  have hc := check_calls s hs w
  cases hn : isName s with
  | true =>
    rw [hn] at hc
    go_enter Try.func31, Try.ntmps31
    go_wp2_with fail
    refine hc.mono ?_
    rintro e w2 ⟨rfl, hb⟩
    go_wp2
    go_ret
    exact ⟨rfl, hb.below⟩
  | false =>
    rw [hn] at hc
    go_enter Try.func31, Try.ntmps31
    go_wp2_with fail
    refine hc.mono ?_
    rintro e w2 ⟨rfl, hb⟩
    go_wp2
    go_ret
    exact ⟨rfl, hb.below⟩
/-! ### a rule among what came in -/
theorem addr_add (a : Addr) (m j : Nat) : (a.add m).add j = a.add (m + j) := by
  unfold Addr.add
  by_cases hm : m = 0
  · subst hm; simp
  · by_cases hj : j = 0
    · subst hj; simp
    · simp [hm, hj, Nat.add_assoc]
/-- A rule's four cells at an address, and its two rows. -/
structure RulAt (w : World) (p : Addr) (x : S30) (A1 : Option Addr) (c1 : Nat) (A2 : Option Addr) (c2 : Nat) : Prop where
  e0 : w.cell? p = some (.string x.f0)
  e1 : w.cell? ⟨p.block, p.off + 1, none⟩ = some (.slice A1 x.f1.length c1)
  e2 : w.cell? ⟨p.block, p.off + 2, none⟩ = some (.slice A2 x.f2.length c2)
  e3 : w.cell? ⟨p.block, p.off + 3, none⟩ = some (.bool x.f3)
  l1 : x.f1.length ≤ c1
  l2 : x.f2.length ≤ c2
  r1 : Kd.string.C w A1 x.f1.length x.f1
  r2 : Kd.string.C w A2 x.f2.length x.f2
theorem rul_at {w : World} {A : Option Addr} {l : List S30} (h : k30.C w A l.length l) {i : Nat} {x : S30} (hx : l[i]? = some x) : ∃ ad A1 c1 A2 c2, A = some ad ∧ RulAt w (ad.add (i * 4)) x A1 c1 A2 c2 := by
  have hi := (List.getElem?_eq_some_iff.1 hx).1
  obtain ⟨ad, e, hc⟩ := h.2.2 (by omega)
  obtain ⟨c, hs, hK, hcell⟩ := hc i x hx
  obtain ⟨A1, c1, A2, c2, rfl, l1, g1, l2, g2⟩ := k30_open hK
  have hz : k30.sz = 4 := rfl
  rw [hz] at hcell
  have k0 := hcell 0 _ rfl
  have k1 := hcell 1 _ rfl
  have k2 := hcell 2 _ rfl
  have k3 := hcell 3 _ rfl
  rw [← addr_add] at k1 k2 k3
  exact ⟨ad, A1, c1, A2, c2, e, by simpa using k0, by simpa [Addr.add] using k1, by simpa [Addr.add] using k2, by simpa [Addr.add] using k3, l1, l2, g1, g2⟩
theorem RulAt.below {w w' : World} {p : Addr} {x : S30} {A1 A2 : Option Addr} {c1 c2 : Nat} (h : RulAt w p x A1 c1 A2 c2) (hb : Below w.heap.size w w') : RulAt w' p x A1 c1 A2 c2 :=
  have f {ad : Addr} {v : Value} (hc : w.cell? ad = some v) : w'.cell? ad = some v := (hb.cell (World.block_lt_of_cell? w _ hc)).trans hc
  ⟨f h.e0, f h.e1, f h.e2, f h.e3, h.l1, h.l2, Kd.C_below h.r1 hb, Kd.C_below h.r2 hb⟩
/-- The copy of a rule in a box of its own. -/
theorem RulAt.new {w : World} {x : S30} {A1 A2 : Option Addr} {c1 c2 : Nat} (l1 : x.f1.length ≤ c1) (l2 : x.f2.length ≤ c2) (r1 : Kd.string.C w A1 x.f1.length x.f1) (r2 : Kd.string.C w A2 x.f2.length x.f2) :
    RulAt (w.alloc (.cells #[.string x.f0, .slice A1 x.f1.length c1, .slice A2 x.f2.length c2, .bool x.f3] 30)) ⟨w.heap.size, 0, none⟩ x A1 c1 A2 c2 := by
  have hb : Below w.heap.size w (w.alloc (.cells #[.string x.f0, .slice A1 x.f1.length c1, .slice A2 x.f2.length c2, .bool x.f3] 30)) := (Below.refl _ w).alloc (Nat.le_refl _) _
  have f := fun j (hj : _) => World.cell?_alloc_at (w := w) #[.string x.f0, .slice A1 x.f1.length c1, .slice A2 x.f2.length c2, .bool x.f3] 30 w.heap.size j hj
  exact ⟨f 0 rfl, f 1 rfl, f 2 rfl, f 3 rfl, l1, l2, Kd.C_below r1 hb, Kd.C_below r2 hb⟩
/-- What is wrong with a line. -/
def ckRule (x : S30) : Int := if (!isName x.f0 || x.f1.any fun n => !isName n) = true then 3 else if 64 < x.f1.length ∨ 64 < x.f2.length then 2 else 0
/-- The first line in which something is wrong. -/
def askL (i : Nat) : List S30 → Int × Int
  | [] => (0, 0)
  | x :: l => if ckRule x = 0 then askL (i + 1) l else (ckRule x, (i : Int))
def askedL (l : List S30) : Int × Int := if 512 < l.length then (2, 0) else askL 0 l
/-- Texts that a machine may hold. -/
def Fits (x : S30) : Prop := x.f0.size ≤ 4611686018427387904 ∧ ∀ n ∈ x.f1, n.size ≤ 4611686018427387904
set_option maxHeartbeats 4000000 in
set_option maxRecDepth 100000 in
theorem asked_calls (A : Option Addr) (c : Nat) (l : List S30) (w : World) (hr : k30.C w A l.length l) (hfit : ∀ x ∈ l, Fits x) :
    Calls Try.prog 16 #[.slice A l.length c] w fun e w' => e = .returned (.tuple #[.int .i64 (askedL l).1, .int .i64 (askedL l).2]) ∧ Below w.heap.size w w' := by
  have hmx : l.length ≤ 9223372036854775807 := hr.2.1
  by_cases hbig : 512 < l.length
  · have e1 : askedL l = (2, 0) := if_pos hbig
    rw [e1]
    have d1 : (512 : Int) < (l.length : Int) := by omega
    go_enter Try.func16, Try.ntmps16
    go_wp2
    go_ret2
    exact ⟨rfl, Below.refl _ _⟩
  · have e1 : askedL l = askL 0 l := if_neg hbig
    have d0 : ¬ ((512 : Int) < (l.length : Int)) := by omega
    obtain ⟨r, hr0⟩ : ∃ r, askL 0 l = r := ⟨_, rfl⟩
    rw [e1, hr0]
    have eg := enters_of Try.func31 (by kernel_rfl) rfl
    go_enter Try.func16, Try.ntmps16
    go_wp2_with fail
    go_loopw [11] (fun i wr => ∃ k : Nat, i = .int .i64 (k : Int) ∧ k ≤ l.length ∧ askL k (l.drop k) = r ∧ Below w.heap.size w wr) (fun i _ => l.length - (intOf i).toNat)
    case atStart => exact ⟨0, rfl, Nat.zero_le _, hr0, Below.refl _ _⟩
    case round =>
      obtain ⟨k, rfl, hk, hrest, hB⟩ := hrel
      clear hr0
      by_cases hlt : k < l.length
      · have d1 : (k : Int) < (l.length : Int) := by omega
        have d2 : (0 : Int) ≤ (k : Int) := by omega
        obtain ⟨x, hx⟩ : ∃ x, l[k]? = some x := ⟨_, List.getElem?_eq_getElem hlt⟩
        rw [List.drop_eq_getElem_cons hlt, (List.getElem?_eq_some_iff.1 hx).2, askL] at hrest
        obtain ⟨ad, A1, c1, A2, c2, rfl, hR⟩ := rul_at (Kd.C_below hr hB) hx
        obtain ⟨q0, q1, q2, q3, ql1, ql2, qr1, qr2⟩ := hR
        have hN := RulAt.new (w := wr) (x := x) ql1 ql2 qr1 qr2
        obtain ⟨W4, hW4⟩ : ∃ W4, wr.alloc (.cells #[.string x.f0, .slice A1 x.f1.length c1, .slice A2 x.f2.length c2, .bool x.f3] 30) = W4 := ⟨_, rfl⟩
        rw [hW4] at hN
        have hb4 : Below wr.heap.size wr W4 := hW4 ▸ (Below.refl _ wr).alloc (Nat.le_refl _) _
        obtain ⟨n0, n1, n2, n3, _, _, nr1, nr2⟩ := hN
        have hfx := hfit x (List.mem_of_getElem? hx)
        have hck := check_calls x.f0 hfx.1 W4
        cases hn : isName x.f0 with
        | false =>
          rw [hn] at hck
          have hc3 : ckRule x = 3 := by unfold ckRule; rw [hn]; rfl
          rw [hc3, if_neg (by decide)] at hrest
          subst hrest
          clear hc3
          go_wp2_with fail
          refine hck.mono ?_
          rintro e w5 ⟨rfl, hb5⟩
          have hb5' := below_t hB (below_t hb4 hb5.below)
          go_wp2
          go_ret2
          exact ⟨rfl, hb5'⟩
        | true =>
          rw [hn] at hck
          go_wp2_with fail
          refine hck.mono ?_
          rintro e w5 ⟨rfl, hb5'⟩
          have hb5 := below_t hb4 hb5'.below
          have n1' : w5.cell? ⟨wr.heap.size, 1, none⟩ = some (.slice A1 x.f1.length c1) := (hb5'.below.cell (World.block_lt_of_cell? _ _ n1)).trans n1
          have n2' : w5.cell? ⟨wr.heap.size, 2, none⟩ = some (.slice A2 x.f2.length c2) := (hb5'.below.cell (World.block_lt_of_cell? _ _ n2)).trans n2
          have hcf := contains_func 31 (fun n => !isName n) A1 c1 x.f1 w5 (Kd.C_below nr1 hb5'.below) eg (fun n hn W _ => asked_one n (hfx.2 n hn) W)
          cases ha : x.f1.any (fun n => !isName n) with
          | true =>
            rw [ha] at hcf
            have hc3 : ckRule x = 3 := by unfold ckRule; rw [hn, ha]; rfl
            rw [hc3, if_neg (by decide)] at hrest
            subst hrest
            clear hc3
            go_wp2_with fail
            refine hcf.mono ?_
            rintro e w6 ⟨rfl, hb6⟩
            go_wp2
            go_ret2
            exact ⟨rfl, below_t hB (below_t hb5 hb6)⟩
          | false =>
            rw [ha] at hcf
            have hc3 : ckRule x = if 64 < x.f1.length ∨ 64 < x.f2.length then 2 else 0 := by unfold ckRule; rw [hn, ha]; rfl
            go_wp2_with fail
            refine hcf.mono ?_
            rintro e w6 ⟨rfl, hb6⟩
            have m1 : w6.cell? ⟨wr.heap.size, 1, none⟩ = some (.slice A1 x.f1.length c1) := (hb6.cell (World.block_lt_of_cell? _ _ n1')).trans n1'
            have m2 : w6.cell? ⟨wr.heap.size, 2, none⟩ = some (.slice A2 x.f2.length c2) := (hb6.cell (World.block_lt_of_cell? _ _ n2')).trans n2'
            have hb6' := below_t hB (below_t hb5 hb6)
            by_cases g1 : 64 < x.f1.length
            · have g1' : (64 : Int) < (x.f1.length : Int) := by omega
              rw [hc3.trans (if_pos (.inl g1)), if_neg (by decide)] at hrest
              subst hrest
              go_wp2
              go_ret2
              exact ⟨rfl, hb6'⟩
            · have g1' : ¬ ((64 : Int) < (x.f1.length : Int)) := by omega
              by_cases g2 : 64 < x.f2.length
              · have g2' : (64 : Int) < (x.f2.length : Int) := by omega
                rw [hc3.trans (if_pos (.inr g2)), if_neg (by decide)] at hrest
                subst hrest
                go_wp2
                go_ret2
                exact ⟨rfl, hb6'⟩
              · have g2' : ¬ ((64 : Int) < (x.f2.length : Int)) := by omega
                rw [hc3.trans (if_neg (by omega)), if_pos rfl] at hrest
                go_wp2
                go_roundw
                case rel => exact ⟨k + 1, by go_num, by omega, hrest, hb6'⟩
                case measure => simp [intOf]; omega
      · obtain rfl : k = l.length := by omega
        have d1 : ¬ ((l.length : Int) < (l.length : Int)) := by omega
        rw [List.drop_length, askL] at hrest
        subst hrest
        go_wp2
        go_ret2
        exact ⟨rfl, hB⟩
end Go.Proofs.Ytkbcfbelpjifnaa.Spec
