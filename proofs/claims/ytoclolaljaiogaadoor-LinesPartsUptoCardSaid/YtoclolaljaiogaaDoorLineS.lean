/- Split: the program's and the reference's tell the same; what they tell. -/
import Derived.Test.YtoclolaljaiogaaDoorLineR
import Derived.Test.YtoclolaljaiogaaDoorPXx0
import Derived.Test.YtoclolaljaiogaaDoorPXx2
import Derived.Test.YtoclolaljaiogaaDoorPXx4
import Derived.Test.YtoclolaljaiogaaDoorPXx5
import Derived.Test.YtoclolaljaiogaaDoorPXx7
import Derived.Test.YtoclolaljaiogaaDoorPXx8
import Derived.Test.YtoclolaljaiogaaDoorPXx9
set_option linter.unusedVariables false
set_option linter.unusedSimpArgs false
namespace Go.Proofs.YtoclolaljaiogaaDoor.Plain
open Go.RowKit Go.Proofs.YtoclolaljaiogaaDoorW.PrintWords Go.Proofs.YtoclolaljaiogaaDoor.PX

/-- The reference's text of a line, as far as it has come. -/
def soFar (more : Prop) [Decidable more] (acc cur : List UInt8) : List UInt8 := acc ++ (if more ∧ cont cur = true then cutc cur else cur)
theorem remit_ev (n t : ByteArray) (ls : List ByteArray) (out : List S37) (no0 : Nat) (i : Int) (rc : Bool) (tx : List UInt8) (hsz : tx.length ≤ 4611686018427387904) (ho : out.length ≤ 1048576) (R : List S37)
    (hk : Ev (fun k => smithyref04_Split.l0 k (out ++ (emit no0 rc tx).map (mkS n)) (wrap64 (i + 1)) ls n t) (R, 0, 0)) :
    Ev (fun k => if rc = true then ((smithyref04_Trim.f k (B tx)).bind fun t182 => (if t182.toList = ([] : List UInt8) then (smithyref04_Split.l0 k out (wrap64 (i + 1)) ls n t) else (if out.length < 2932031007402 then (smithyref04_Split.l0 k (out ++ [(⟨n, (no0 : Int), rc, t182⟩ : S37)]) (wrap64 (i + 1)) ls n t) else (none)))) else ((smithyref04_Strip.f k (B tx)).bind fun t186 => (if t186.toList = ([] : List UInt8) then (smithyref04_Split.l0 k out (wrap64 (i + 1)) ls n t) else (if out.length < 2932031007402 then (smithyref04_Split.l0 k (out ++ [(⟨n, (no0 : Int), rc, t186⟩ : S37)]) (wrap64 (i + 1)) ls n t) else (none))))) (R, 0, 0) := by
  have e3 : L (B tx) = tx := rfl
  have e4 : (B tx).size ≤ 4611686018427387904 := by rw [size_B]; exact hsz
  cases rc with
  | true =>
    refine ev_pos rfl (Ev.bind (rtrim_ev _ e4) ?_)
    rw [e3, toList_L, L_B]
    by_cases h : trimL tx = []
    · rw [show emit no0 true tx = [] from if_pos h, List.map_nil, List.append_nil] at hk
      exact ev_pos h hk
    · rw [show emit no0 true tx = [(no0, true, trimL tx)] from if_neg h] at hk
      exact ev_neg h (ev_pos (by omega) hk)
  | false =>
    refine ev_neg (by decide) (Ev.bind (rstrip_ev _ e4) ?_)
    rw [e3, toList_L, L_B]
    by_cases h : stripL tx = []
    · rw [show emit no0 false tx = [] from if_pos h, List.map_nil, List.append_nil] at hk
      exact ev_pos h hk
    · rw [show emit no0 false tx = [(no0, false, stripL tx)] from if_neg h] at hk
      exact ev_neg h (ev_pos (by omega) hk)
theorem rsplit_go (n t : ByteArray) (ls : List ByteArray) (hl : ls.length ≤ 524288) (hS : (ls.map ByteArray.size).sum ≤ 4294967296) (hx : ∀ x ∈ ls, x.size ≤ 4294967296) : ∀ (d i : Nat) (out : List S37) (no0 : Nat) (rc : Bool) (acc cur : List UInt8) (x : ByteArray), i + 1 + d = ls.length → ls[i]? = some x → (cur = L x ∨ cur = frontL (L x)) → out.length ≤ i → acc.length + cur.length + 2 * ((ls.drop (i + 1)).map ByteArray.size).sum + d ≤ 4294967296 * 4 →
    Ev (fun k => smithyref04_Split.l1 k out (i : Int) (B (soFar (d ≠ 0) acc cur)) ls n t n (no0 : Int) rc (⟨#[]⟩ : ByteArray)) (out ++ (step no0 rc acc cur (i + 1) ((ls.drop (i + 1)).map L)).map (mkS n), 0, 0)
  | 0, i, out, no0, rc, acc, cur, x, hi, hxi, hcur, ho, hb => by
    have hw : wrap64 ((i : Int) + 1) = ((i + 1 : Nat) : Int) := wrap_1 (by omega)
    have e0 : soFar ((0 : Nat) ≠ 0) acc cur = acc ++ cur := by unfold soFar; rw [if_neg (by simp)]
    rw [List.drop_of_length_le (by omega), List.map_nil, step, e0]
    refine Ev.step (fun _ => rfl) (Ev.bind (on_ev ls (by omega) i x hxi (by have := hx x (List.mem_of_getElem? hxi); omega)) ?_)
    rw [decide_eq_false (by omega), Bool.false_and]
    refine ev_neg (by decide) (remit_ev n t ls out no0 i rc (acc ++ cur) (by rw [List.length_append]; omega) (by omega) _ ?_)
    rw [hw]
    exact Ev.step (fun _ => rfl) (ev_neg (by omega) (ev_some rfl))
  | d + 1, i, out, no0, rc, acc, cur, x, hi, hxi, hcur, ho, hb => by
    have hw : wrap64 ((i : Int) + 1) = ((i + 1 : Nat) : Int) := wrap_1 (by omega)
    obtain ⟨y, hy⟩ : ∃ y, ls[i + 1]? = some y := ⟨_, List.getElem?_eq_getElem (by omega)⟩
    have hsum : ((ls.drop (i + 1)).map ByteArray.size).sum = y.size + ((ls.drop (i + 1 + 1)).map ByteArray.size).sum := by rw [drop_at hy, List.map_cons, List.sum_cons]
    have hys := size_L y
    have hfy := front_len (L y)
    have hdr : (ls.drop (i + 1)).map L = L y :: (ls.drop (i + 1 + 1)).map L := by rw [drop_at hy, List.map_cons]
    have hcc : cont cur = cont (L x) := by
      rcases hcur with h | h
      · rw [h]
      · rw [h, cont_front]
    have hcl := cutc_len cur
    rw [hdr, step]
    refine Ev.step (fun _ => rfl) (Ev.bind (on_ev ls (by omega) i x hxi (by have := hx x (List.mem_of_getElem? hxi); omega)) ?_)
    rw [decide_eq_true (by omega), Bool.true_and, ← hcc]
    by_cases hc : cont cur = true
    · have e0 : soFar (d + 1 ≠ 0) acc cur = acc ++ cutc cur := by unfold soFar; rw [if_pos ⟨by omega, hc⟩]
      rw [if_pos hc, e0]
      have e1 : (B (acc ++ cutc cur)).size = acc.length + (cutc cur).length := by rw [size_B, List.length_append]
      refine ev_pos hc (ev_pos (by rw [e1]; omega) ?_)
      rw [hw]
      have hp := part_ev ls (by omega) (i + 1) y hy (by have := hx y (List.mem_of_getElem? hy); omega)
      refine Ev.bind hp ?_
      obtain ⟨P, hP⟩ : ∃ P, (if i + 1 + 1 < ls.length ∧ cont (L y) = true then cutc (L y) else L y) = P := ⟨_, rfl⟩
      rw [hP]
      have hPl : P.length ≤ (L y).length := by
        rw [← hP]; split
        · exact cutc_len _
        · exact Nat.le_refl _
      have hFl := front_len P
      have hFP : frontL P = (if (d ≠ 0) ∧ cont (frontL (L y)) = true then cutc (frontL (L y)) else frontL (L y)) := by
        rw [← hP, cont_front]
        by_cases h : i + 1 + 1 < ls.length ∧ cont (L y) = true
        · rw [if_pos h, if_pos ⟨by omega, h.2⟩, cutc_front h.2]
        · rw [if_neg h, if_neg (fun h2 => h ⟨by omega, h2.2⟩)]
      have hf := front_ev (B P) (by rw [size_B]; omega)
      rw [L_B] at hf
      refine Ev.bind hf ?_
      have e2 : (B (acc ++ cutc cur) ++ (⟨#[32]⟩ : ByteArray)).size = acc.length + (cutc cur).length + 1 := by rw [ByteArray.size_append, e1]; rfl
      have e3 := size_B (frontL P)
      refine ev_pos (by rw [e2, e3]; omega) ?_
      have e4 : B (acc ++ cutc cur) ++ (⟨#[32]⟩ : ByteArray) ++ B (frontL P) = B (soFar (d ≠ 0) (acc ++ cutc cur ++ [32]) (frontL (L y))) := by
        have : B (acc ++ cutc cur) ++ (⟨#[32]⟩ : ByteArray) = B (acc ++ cutc cur ++ [32]) := append_B _ [32]
        rw [this, append_B, hFP]; rfl
      rw [e4]
      exact rsplit_go n t ls hl hS hx d (i + 1) out no0 rc (acc ++ cutc cur ++ [32]) (frontL (L y)) y (by omega) hy (.inr rfl) (by omega) (by simp only [List.length_append, List.length_cons, List.length_nil]; omega)
    · have e0 : soFar (d + 1 ≠ 0) acc cur = acc ++ cur := by unfold soFar; rw [if_neg (fun h => hc h.2)]
      have hel := emit_len no0 rc (acc ++ cur)
      rw [if_neg hc, e0]
      refine ev_neg hc (remit_ev n t ls out no0 i rc (acc ++ cur) (by rw [List.length_append]; omega) (by omega) _ ?_)
      rw [hw]
      have hp := part_ev ls (by omega) (i + 1) y hy (by have := hx y (List.mem_of_getElem? hy); omega)
      have ih := rsplit_go n t ls hl hS hx d (i + 1) (out ++ (emit no0 rc (acc ++ cur)).map (mkS n)) (i + 1 + 1) (recL (L y)) [] (L y) y (by omega) hy (.inl rfl) (by rw [List.length_append, List.length_map]; omega) (by simp only [List.length_nil]; omega)
      have eP : B (if i + 1 + 1 < ls.length ∧ cont (L y) = true then cutc (L y) else L y) = B (soFar (d ≠ 0) [] (L y)) := by
        unfold soFar
        rw [List.nil_append]
        by_cases h : i + 1 + 1 < ls.length ∧ cont (L y) = true
        · rw [if_pos h, if_pos ⟨by omega, h.2⟩]
        · rw [if_neg h, if_neg (fun h2 => h ⟨by omega, h2.2⟩)]
      rw [eP] at hp
      rw [List.map_append, ← List.append_assoc]
      refine Ev.step (fun _ => rfl) (ev_pos (by omega) (ev_pos (by omega) ?_))
      rw [rdOf_at hy, wrap_1 (i := i + 1) (by omega)]
      by_cases h0 : ((y.size : Nat) : Int) > 0
      · refine ev_pos h0 (ev_pos h0 (Ev.bind hp ?_))
        obtain ⟨a, ha⟩ : ∃ a, (L y)[0]? = some a := ⟨_, List.getElem?_eq_getElem (by omega)⟩
        have hb0 : bt y 0 = (a.toNat : Int) := bt_at_L ha
        have hrec : (bt y 0 == 9) = recL (L y) := by
          rw [hb0]
          unfold recL
          rw [List.head?_eq_getElem?, ha]
          by_cases h9 : a = 9
          · subst h9; rfl
          · rw [beq_eq_false_iff_ne.2 (fun e => h9 (u8_eq.1 (by exact_mod_cast e)))]
            symm; simpa using h9
        rw [hrec]
        exact ih
      · refine ev_neg h0 (Ev.bind hp ?_)
        have hn : L y = [] := List.eq_nil_of_length_eq_zero (by omega)
        have hrec : recL (L y) = false := by rw [hn]; rfl
        rw [hrec] at ih ⊢
        exact ih

/-! ### the whole -/
/-- What a makefile falls into: its lines, a fault's number, and the fault's place. -/
def splitL (n t : ByteArray) (nm : Bool) : List S37 × Int × Int :=
  if nm = true then (if 65536 < t.size then ([], 41, 0) else if wrongL (phys (L t)) = 0 then ((logicL (phys (L t))).map (mkS n), 0, 0) else ([], 40, ((wrongL (phys (L t)) : Nat) : Int))) else ([], 3, 0)
theorem le_sum {l : List Nat} {n : Nat} (h : n ∈ l) : n ≤ l.sum := by
  induction l with
  | nil => simp at h
  | cons a l ih =>
    rw [List.sum_cons]
    rcases List.mem_cons.1 h with rfl | h
    · omega
    · have := ih h; omega
theorem phys_small {t : ByteArray} (h : t.size ≤ 65536) : ((phys (L t)).map B).length ≤ 65536 ∧ (((phys (L t)).map B).map ByteArray.size).sum ≤ 65536 ∧ ∀ x ∈ (phys (L t)).map B, x.size ≤ 65536 := by
  have h1 := phys_len (L t); have h2 := phys_sum (L t); have hz := size_L t
  have e : ((phys (L t)).map B).map ByteArray.size = (phys (L t)).map List.length := by
    rw [List.map_map]; exact List.map_congr_left (fun x _ => size_B x)
  refine ⟨by rw [List.length_map]; omega, by rw [e]; omega, fun x hx => ?_⟩
  have : x.size ≤ (((phys (L t)).map B).map ByteArray.size).sum := le_sum (List.mem_map.2 ⟨x, hx, rfl⟩)
  rw [e] at this; omega
theorem count_eq (l : List UInt8) (c : UInt8) : Lib.countByte l c = l.count c := rfl
theorem split_ev (n t : ByteArray) (hn : n.size ≤ 4611686018427387904) (ht : t.size ≤ 4611686018427387904) : ∃ nm, (nm = true → 0 < n.size ∧ n.size ≤ 64) ∧ Ev (fun k => lines_named.f k n) nm ∧ Ev (fun k => lines_Split.f k n t) (splitL n t nm) ∧ Ev (fun k => smithyref04_Split.f k n t) (splitL n t nm) := by
  obtain ⟨nm, h1, h2, h3⟩ := named_ex n hn
  refine ⟨nm, h3, h1, Ev.bind h1 ?_, Ev.bind h2 ?_⟩
  · unfold splitL
    by_cases hm : nm = true
    · rw [if_pos hm]
      refine ev_pos hm ?_
      by_cases hb : 65536 < t.size
      · rw [if_pos hb]
        exact ev_pos (by omega) (ev_some rfl)
      · rw [if_neg hb]
        refine ev_neg (by omega) ?_
        have hz := size_L t
        rcases foreign_ex t ht with ⟨f1, f2⟩ | ⟨j, a, c, l, f1, f2, f3, f4, f5, f6⟩
        · have hw : wrongL (phys (L t)) = 0 := physA_good (L t) [] rfl f2
          rw [if_pos hw]
          refine Ev.bind f1 (ev_neg (by omega) (ev_const (phys_some t (by omega)) ?_))
          obtain ⟨q1, q2, q3⟩ := phys_small (t := t) (by omega)
          refine ev_eq (r := ([] ++ (logicL (phys (L t))).map (mkS n), 0, 0)) ?_ (by rw [List.nil_append])
          cases hp : phys (L t) with
          | nil => exact Ev.step (f := fun _ => some ([], 0, 0)) (fun _ => rfl) (ev_some rfl)
          | cons x xs =>
            rw [hp] at q1 q2 q3
            have hx0 : ((x :: xs).map B)[0]? = some (B x) := rfl
            have hs0 : (((x :: xs).map B).drop 1) = xs.map B := rfl
            refine Ev.step (fun _ => rfl) (ev_pos (by simp) (ev_pos (by omega) ?_))
            rw [show rdOf ByteArray.empty ((x :: xs).map B) 0 = B x from rfl]
            refine ev_const (hasp_eq (B x)) ?_
            have := split_go n t ((x :: xs).map B) (by omega) (by omega) xs.length 0 [] 1 (recL x) [] x (by simp; omega) (by simp) (by
              rw [hs0]
              rw [List.map_cons, List.map_cons, List.sum_cons, size_B] at q2
              rw [List.map_cons, List.length_cons, List.length_map] at q1
              simp only [List.length_nil]; omega)
            rw [hs0, map_BL] at this
            rw [show wrap64 (0 + 1) = ((1 : Nat) : Int) from wrap_id (by omega) (by omega)]
            exact this
        · have hw : wrongL (phys (L t)) = a.count 10 + 1 := by
            have := physA_first a [] c l rfl f4 f5 f6
            unfold phys; rw [f2]; exact this
          have hl2 : (L t).length = a.length + (l.length + 1) := by rw [f2]; simp
          have hcl := List.count_le_length (a := (10 : UInt8)) (l := a)
          rw [if_neg (by omega), hw]
          refine Ev.bind f1 (ev_pos (by omega) (ev_pos (by omega) (ev_pos (by omega) ?_)))
          have hc : strings_Count.f (t.extract 0 ((j : Int)).toNat) (⟨#[10]⟩ : ByteArray) = some ((a.count 10 : Nat) : Int) := by
            unfold strings_Count.f
            rw [if_pos (by rfl)]
            show some (Int.ofNat (Lib.countByte (L (t.extract 0 ((j : Int)).toNat)) 10)) = _
            congr 2
            show Lib.countByte (L (t.extract 0 ((j : Int)).toNat)) 10 = _
            rw [L_extract, Int.toNat_natCast, List.drop_zero, Nat.sub_zero, f2, ← f3, List.take_left, count_eq]
          refine ev_const hc (ev_some ?_)
          rw [show wrap64 (1 + ((a.count 10 : Nat) : Int)) = ((a.count 10 + 1 : Nat) : Int) by rw [wrap_id (by omega) (by omega)]; omega]
    · rw [if_neg hm]
      exact ev_neg hm (ev_some rfl)
  · unfold splitL
    by_cases hm : nm = true
    · rw [if_pos hm]
      refine ev_pos hm ?_
      by_cases hb : 65536 < t.size
      · rw [if_pos hb]
        exact ev_pos (by omega) (ev_some rfl)
      · rw [if_neg hb]
        refine ev_neg (by omega) ?_
        have hz := size_L t
        obtain ⟨q1, q2, q3⟩ := phys_small (t := t) (by omega)
        have hwr := wrong_ev ((phys (L t)).map B) (by omega) (fun x hx => by have := q3 x hx; omega)
        rw [map_BL] at hwr
        refine Ev.bind (rphys_ev t (by omega)) (Ev.bind hwr ?_)
        by_cases hw : wrongL (phys (L t)) = 0
        · rw [if_pos hw]
          refine ev_neg (by omega) ?_
          refine ev_eq (r := ([] ++ (logicL (phys (L t))).map (mkS n), 0, 0)) ?_ (by rw [List.nil_append])
          cases hp : phys (L t) with
          | nil => exact Ev.step (f := fun _ => some ([], 0, 0)) (fun _ => rfl) (ev_some rfl)
          | cons x xs =>
            rw [hp] at q1 q2 q3
            have hx0 : ((x :: xs).map B)[0]? = some (B x) := rfl
            have hs0 : (((x :: xs).map B).drop 1) = xs.map B := rfl
            have hxl := q3 (B x) List.mem_cons_self
            have e0 : rdOf ByteArray.empty ((x :: xs).map B) 0 = B x := rfl
            have hp0 := part_ev ((x :: xs).map B) (by omega) 0 (B x) hx0 (by omega)
            rw [L_B] at hp0
            have ih := rsplit_go n t ((x :: xs).map B) (by omega) (by omega) (fun y hy => by have := q3 y hy; omega) xs.length 0 [] 1 (recL x) [] x (B x) (by simp; omega) hx0 (.inl rfl) (by simp) (by
              rw [hs0]
              rw [List.map_cons, List.map_cons, List.sum_cons, size_B] at q2
              rw [List.map_cons, List.length_cons, List.length_map] at q1
              simp only [List.length_nil]; omega)
            rw [hs0, map_BL] at ih
            have eP : B (if 0 + 1 < ((x :: xs).map B).length ∧ cont x = true then cutc x else x) = B (soFar (xs.length ≠ 0) [] x) := by
              unfold soFar
              rw [List.nil_append]
              have hl : ((x :: xs).map B).length = xs.length + 1 := by simp
              by_cases h : 0 + 1 < ((x :: xs).map B).length ∧ cont x = true
              · rw [if_pos h, if_pos ⟨by omega, h.2⟩]
              · rw [if_neg h, if_neg (fun h2 => h ⟨by omega, h2.2⟩)]
            rw [eP] at hp0
            refine Ev.step (fun _ => rfl) (ev_pos (by simp) (ev_pos (by omega) ?_))
            rw [e0, show wrap64 (0 + 1) = ((1 : Nat) : Int) from wrap_id (by omega) (by omega)]
            have hzx := size_B x
            by_cases h0 : (((B x).size : Nat) : Int) > 0
            · refine ev_pos h0 (ev_pos h0 (Ev.bind hp0 ?_))
              obtain ⟨a, ha⟩ : ∃ a, (L (B x))[0]? = some a := ⟨_, List.getElem?_eq_getElem (by rw [← size_L]; omega)⟩
              have hb0 : bt (B x) 0 = (a.toNat : Int) := bt_at_L ha
              have hrec : (bt (B x) 0 == 9) = recL x := by
                rw [hb0]
                unfold recL
                rw [L_B] at ha
                rw [List.head?_eq_getElem?, ha]
                by_cases h9 : a = 9
                · subst h9; rfl
                · rw [beq_eq_false_iff_ne.2 (fun e => h9 (u8_eq.1 (by exact_mod_cast e)))]
                  symm; simpa using h9
              rw [hrec]
              exact ih
            · refine ev_neg h0 (Ev.bind hp0 ?_)
              have hnx : x = [] := List.eq_nil_of_length_eq_zero (by omega)
              have hrec : recL x = false := by rw [hnx]; rfl
              rw [hrec] at ih
              refine ev_eq ih ?_
              show _ = (([] ++ (step 1 (recL x) [] x 1 xs).map (mkS n), 0, 0) : List S37 × Int × Int)
              rw [hrec]
        · rw [if_neg hw]
          exact ev_pos (by omega) (Ev.bind hwr (ev_some rfl))
    · rw [if_neg hm]
      exact ev_neg hm (ev_some rfl)
set_option maxRecDepth 100000 in
theorem small_ev : Ev (fun k => smithylaw04_speaks.f k) true := Ev.of (fun k => smithylaw04_speaks.mono k) (k := 60) (by decide +kernel)
theorem lines_refl (l : List S37) (hl : l.length ≤ 4611686018427387904) : ∀ (d i : Nat), i + d = l.length → Ev (fun k => smithyplain_Lines.l0 k l l (l.length : Int) (i : Int)) true
  | 0, i, hi => Ev.step (fun _ => rfl) (ev_neg (by omega) (ev_some rfl))
  | d + 1, i, hi => by
    refine Ev.step (fun _ => rfl) (ev_pos (by omega) (ev_pos (by omega) (ev_pos (by omega) (ev_pos (by omega) (ev_neg (by simp) ?_)))))
    rw [wrap_1 (by omega)]
    exact lines_refl l hl d (i + 1) (by omega)
theorem lines_ev (l : List S37) (hl : l.length ≤ 4611686018427387904) : Ev (fun k => smithyplain_Lines.f k l l) true := ev_pos rfl (lines_refl l hl l.length 0 (by omega))
theorem splitL_len (n t : ByteArray) (nm : Bool) : (splitL n t nm).1.length ≤ 65536 := by
  unfold splitL
  split
  · split
    · simp
    · split
      · have h1 := logic_len (phys (L t)); have h2 := phys_len (L t); have hz := size_L t
        show ((logicL (phys (L t))).map (mkS n)).length ≤ _
        rw [List.length_map]; omega
      · simp
  · simp
end Go.Proofs.YtoclolaljaiogaaDoor.Plain
