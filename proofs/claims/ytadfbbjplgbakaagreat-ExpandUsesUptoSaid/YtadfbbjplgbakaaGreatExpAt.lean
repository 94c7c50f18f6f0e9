/- The reference's at: the reference that begins at a place. -/
import Derived.Test.YtadfbbjplgbakaaGreatExpRn
import Derived.Test.YtadfbbjplgbakaaGreatExp2
import Derived.Test.YtadfbbjplgbakaaGreatPXx4
import Derived.Test.YtadfbbjplgbakaaGreatPXx5
import Derived.Test.YtadfbbjplgbakaaGreatPXx7
namespace Go.Proofs.YtadfbbjplgbakaaGreat.Exp
open Go Go.RowKit Go.Proofs Go.Proofs.YtadfbbjplgbakaaGreatW.PrintWords Go.Proofs.YtadfbbjplgbakaaGreatW.PrintLast Go.Proofs.YtadfbbjplgbakaaGreatW.PrintMore Go.Proofs.YtadfbbjplgbakaaGreat.PX Go.Proofs.YtadfbbjplgbakaaGreat.Plain
set_option linter.unusedVariables false
set_option linter.unusedSimpArgs false

/-! ### what its functions come to -/
theorem rfind_loop (s : ByteArray) (b : UInt8) (hs : s.size ≤ 4611686018427387904) : ∀ (d i : Nat), i + d = s.size → Ev (fun k => smithyref06_find.l0 k s (b.toNat : Int) (i : Int)) (if ((L s).drop i).contains b = true then (((aheadB b ((L s).drop i)).length + i : Nat) : Int) else -1)
  | 0, i, hi => by
    rw [List.drop_eq_nil_of_le (by rw [← size_L]; omega)]
    exact Ev.step (fun _ => rfl) (ev_neg (by omega) (ev_some rfl))
  | d + 1, i, hi => by
    have hlt : i < (L s).length := by rw [← size_L]; omega
    obtain ⟨c, hc⟩ : ∃ c, (L s)[i]? = some c := ⟨_, List.getElem?_eq_getElem hlt⟩
    have hb : bt s (i : Int) = (c.toNat : Int) := bt_at_L hc
    have hd : (L s).drop i = c :: (L s).drop (i + 1) := by
      rw [List.drop_eq_getElem_cons hlt, (List.getElem?_eq_some_iff.1 hc).2]
    have ih := rfind_loop s b hs d (i + 1) (by omega)
    have hw : wrap64 ((i : Int) + 1) = ((i + 1 : Nat) : Int) := by rw [wrap_id (by omega) (by omega)]; omega
    refine Ev.step (fun _ => rfl) (ev_pos (by omega) (ev_pos (by omega) ?_))
    rw [hb, hw, hd]
    by_cases h : c = b
    · subst h
      refine ev_pos rfl (ev_some ?_)
      rw [if_pos (by simp)]
      unfold aheadB
      rw [List.takeWhile_cons, if_neg (by simp)]
      simp
    · refine ev_neg (fun e => h (u8_eq.1 (Int.ofNat.inj e))) (ev_eq ih ?_)
      have h1 : (c :: (L s).drop (i + 1)).contains b = ((L s).drop (i + 1)).contains b := by
        rw [List.contains_cons, beq_eq_false_iff_ne.2 (fun e => h e.symm), Bool.false_or]
      have h2 : aheadB b (c :: (L s).drop (i + 1)) = c :: aheadB b ((L s).drop (i + 1)) := by
        unfold aheadB
        rw [List.takeWhile_cons, if_pos (by simpa using h)]
      rw [h1, h2, List.length_cons]
      by_cases h3 : ((L s).drop (i + 1)).contains b = true
      · rw [if_pos h3, if_pos h3]; omega
      · rw [if_neg h3, if_neg h3]
theorem rfind_ev (s : ByteArray) (b : UInt8) (hs : s.size ≤ 4611686018427387904) : Ev (fun k => smithyref06_find.f k s (b.toNat : Int)) (if (L s).contains b = true then ((aheadB b (L s)).length : Int) else -1) := by
  have := rfind_loop s b hs s.size 0 (by omega)
  rw [List.drop_zero] at this
  exact ev_eq this (by simp)
theorem rfind_calls (s : ByteArray) (b : UInt8) (hs : s.size ≤ 4611686018427387904) (W : World) : Calls Tryz.prog 42 #[.string s, .int .u8 (b.toNat : Int)] W fun e w' => e = .returned (.int .i64 (if (L s).contains b = true then ((aheadB b (L s)).length : Int) else -1)) ∧ Drawn0 W w' := by
  obtain ⟨k, hk⟩ := rfind_ev s b hs
  exact smithyref06_find.calls k s _ _ W (hk k (Nat.le_refl _))
set_option maxRecDepth 100000 in
theorem five_ev (b : UInt8) : (if (b.toNat : Int) = 64 then (some true) else (if (b.toNat : Int) = 60 then (some true) else (if (b.toNat : Int) = 63 then (some true) else (if (b.toNat : Int) = 42 then (some true) else (some ((b.toNat : Int) == 94)))))) = some (innB b) :=
  all_bytes (p := fun b => (if (b.toNat : Int) = 64 then (some true) else (if (b.toNat : Int) = 60 then (some true) else (if (b.toNat : Int) = 63 then (some true) else (if (b.toNat : Int) = 42 then (some true) else (some ((b.toNat : Int) == 94)))))) = some (innB b)) (by decide +kernel) b
theorem rinner_eq (k : Nat) (s : ByteArray) : smithyref06_Inner.f (k + 1) s = some (innL (L s)) := by
  have hz := size_L s
  obtain ⟨l, hl⟩ : ∃ l, L s = l := ⟨_, rfl⟩
  rw [hl] at hz ⊢
  have hj : ∀ x, smithyref06_Inner.j0 (k + 1) s x = if x = true then some false else (if (s.size : Int) = 1 then (if 0 < (s.size : Int) then (if (bt s 0) = 64 then (some true) else (if (bt s 0) = 60 then (some true) else (if (bt s 0) = 63 then (some true) else (if (bt s 0) = 42 then (some true) else (some ((bt s 0) == 94)))))) else (none)) else (if (s.size : Int) = 2 then (if 0 < (s.size : Int) then (if (bt s 0) = 64 then (some true) else (if (bt s 0) = 60 then (some true) else (if (bt s 0) = 63 then (some true) else (if (bt s 0) = 42 then (some true) else (some ((bt s 0) == 94)))))) else (none)) else (some false))) := fun x => rfl
  unfold smithyref06_Inner.f
  rw [hj, hj]
  rcases l with _ | ⟨c, _ | ⟨d, _ | ⟨e, t⟩⟩⟩
  · rw [hz]; rfl
  · have hc : bt s 0 = (c.toNat : Int) := bt_at_L (i := 0) (by rw [hl]; rfl)
    have h1 : (s.size : Int) = 1 := by rw [hz]; rfl
    rw [h1, if_neg (by decide), if_neg (by decide), if_pos rfl, if_pos (by decide), hc, five_ev]
    rfl
  · have hc : bt s 0 = (c.toNat : Int) := bt_at_L (i := 0) (by rw [hl]; rfl)
    have hd : bt s 1 = (d.toNat : Int) := bt_at_L (i := 1) (by rw [hl]; rfl)
    have h0 : (s.size : Int) = 2 := by rw [hz]; rfl
    have h1 : ((d.toNat : Int) = 68) ↔ d = 68 := ⟨fun h => u8_eq.1 (Int.ofNat.inj h), fun h => by subst h; rfl⟩
    have h2 : ((d.toNat : Int) = 70) ↔ d = 70 := ⟨fun h => u8_eq.1 (Int.ofNat.inj h), fun h => by subst h; rfl⟩
    rw [h0, if_pos rfl, if_pos (by decide), hc, five_ev, hd]
    simp only [if_neg (show ¬ ((2 : Int) = 1) by decide), if_pos (show (0 : Int) < 2 by decide), if_true]
    by_cases h68 : d = 68
    · rw [if_pos (h1.2 h68), if_neg (by decide)]
      simp [innL, h68]
    · rw [if_neg (fun h => h68 (h1.1 h))]
      have h8 : (d == 68) = false := beq_eq_false_iff_ne.2 h68
      by_cases h70 : d = 70
      · have : ((d.toNat : Int) != 70) = false := by simp [h2.2 h70]
        rw [this, if_neg (by decide)]; simp [innL, h70]
      · have : ((d.toNat : Int) != 70) = true := bne_iff_ne.2 (fun h => h70 (h2.1 h))
        rw [this, if_pos rfl]
        have h9 : (d == 70) = false := beq_eq_false_iff_ne.2 h70
        simp [innL, h8, h9]
  · have h0 : ¬ (s.size : Int) = 2 := by rw [hz]; simp; omega
    have h1 : ¬ (s.size : Int) = 1 := by rw [hz]; simp; omega
    rw [if_neg h0, if_neg (by decide), if_neg h1, if_neg h0]
    rfl
theorem rone_eq (k : Nat) (c : UInt8) : smithyref06_one.f (k + 1) (c.toNat : Int) = some (oneB c) := by
  have hst : strOfNums [(c.toNat : Int)] = B [c] := by
    unfold strOfNums
    simp [byte_back]
  have hi : smithyref06_Inner.f (k + 1) (strOfNums [(c.toNat : Int)]) = some (innB c) := by rw [hst, rinner_eq, L_B]; rfl
  unfold smithyref06_one.f
  rw [hi]
  clear hi hst
  simp only [Option.bind_some]
  revert c
  exact fun c => all_bytes (p := fun c : UInt8 => (if (c.toNat : Int) ≥ 97 then (if (c.toNat : Int) ≤ 122 then (some true) else (if (c.toNat : Int) ≥ 65 then (if (c.toNat : Int) ≤ 90 then (some true) else (if (c.toNat : Int) ≥ 48 then (if (c.toNat : Int) ≤ 57 then (some true) else (if (c.toNat : Int) = 95 then (some true) else some (innB c))) else (if (c.toNat : Int) = 95 then (some true) else some (innB c)))) else (if (c.toNat : Int) ≥ 48 then (if (c.toNat : Int) ≤ 57 then (some true) else (if (c.toNat : Int) = 95 then (some true) else some (innB c))) else (if (c.toNat : Int) = 95 then (some true) else some (innB c))))) else (if (c.toNat : Int) ≥ 65 then (if (c.toNat : Int) ≤ 90 then (some true) else (if (c.toNat : Int) ≥ 48 then (if (c.toNat : Int) ≤ 57 then (some true) else (if (c.toNat : Int) = 95 then (some true) else some (innB c))) else (if (c.toNat : Int) = 95 then (some true) else some (innB c)))) else (if (c.toNat : Int) ≥ 48 then (if (c.toNat : Int) ≤ 57 then (some true) else (if (c.toNat : Int) = 95 then (some true) else some (innB c))) else (if (c.toNat : Int) = 95 then (some true) else some (innB c))))) = some (oneB c)) (by decide +kernel) c
/-! ### at -/
/-- What is in a reference's brackets, as the reference reads it. -/
def atIn (inn : List UInt8) : Rf × Bool :=
  if inn.contains 58 = true then
    (if (behindB 58 inn).contains 61 = true then (⟨aheadB 58 inn, true, aheadB 61 (behindB 58 inn), behindB 61 (behindB 58 inn), inn.length + 3⟩, (namL (aheadB 58 inn) || innL (aheadB 58 inn)) && !((aheadB 61 (behindB 58 inn)).contains 36) && !((behindB 61 (behindB 58 inn)).contains 36)) else (Rf.none, false))
  else (⟨inn, false, [], [], inn.length + 3⟩, namL inn || innL inn)
/-- The reference at the front of a text, as the reference reads it. -/
def atX (l : List UInt8) : Rf × Bool :=
  match l with
  | _ :: c :: t =>
    if c = 36 then (⟨[], false, [], [], 2⟩, true)
    else if c = 40 ∨ c = 123 then (if t.contains (shutB c) = true then atIn (aheadB (shutB c) t) else (Rf.none, false))
    else (⟨[c], false, [], [], 2⟩, oneB c)
  | _ => (Rf.none, false)
abbrev atT (i : Nat) (r : Rf × Bool) : Value := .tuple #[.agg #[.string (B r.1.name), .bool r.1.swap, .string (B r.1.from_), .string (B r.1.to_)], .int .i64 (if r.1.size = 0 then 0 else ((i + r.1.size : Nat) : Int)), .bool r.2]
theorem four {w : World} {g : Nat} {c0 c1 c2 c3 : Value} {t : TypeId} (h : w.heap[g]? = some (.cells #[c0, c1, c2, c3] t (0, 0))) :
    w.cell? ⟨g, 0, none⟩ = some c0 ∧ w.cell? ⟨g, 1, none⟩ = some c1 ∧ w.cell? ⟨g, 2, none⟩ = some c2 ∧ w.cell? ⟨g, 3, none⟩ = some c3 ∧ w.frozen? ⟨g, 0, none⟩ = false ∧ w.frozen? ⟨g, 1, none⟩ = false ∧ w.frozen? ⟨g, 2, none⟩ = false ∧ w.frozen? ⟨g, 3, none⟩ = false :=
  ⟨cell_of_row w g 0 _ _ _ h, cell_of_row w g 1 _ _ _ h, cell_of_row w g 2 _ _ _ h, cell_of_row w g 3 _ _ _ h, frozen_of_row w g 0 _ _ h, frozen_of_row w g 1 _ _ h, frozen_of_row w g 2 _ _ h, frozen_of_row w g 3 _ _ h⟩
theorem fill4 {w w0 : World} {g B : Nat} {c0 c1 c2 c3 : Value} {t : TypeId} (h : w.heap[g]? = some (.cells #[c0, c1, c2, c3] t (0, 0))) (hb : Below B w0 w) (hg : B ≤ g) (v0 v1 v2 v3 : Value) :
    ((((w.setCell ⟨g, 0, none⟩ v0).setCell ⟨g, 1, none⟩ v1).setCell ⟨g, 2, none⟩ v2).setCell ⟨g, 3, none⟩ v3).heap[g]? = some (.cells #[v0, v1, v2, v3] t (0, 0)) ∧ Below B w0 ((((w.setCell ⟨g, 0, none⟩ v0).setCell ⟨g, 1, none⟩ v1).setCell ⟨g, 2, none⟩ v2).setCell ⟨g, 3, none⟩ v3) := by
  have k := fun (W : World) (cs : Array Value) (i : Nat) (u : Value) (hh : W.heap[g]? = some (.cells cs t (0, 0))) => heap_setCell_same W g i cs t u hh
  have h0 : (w.setCell ⟨g, 0, none⟩ v0).heap[g]? = some (.cells #[v0, c1, c2, c3] t (0, 0)) := k _ _ 0 v0 h
  have h1 : ((w.setCell ⟨g, 0, none⟩ v0).setCell ⟨g, 1, none⟩ v1).heap[g]? = some (.cells #[v0, v1, c2, c3] t (0, 0)) := k _ _ 1 v1 h0
  have h2 : (((w.setCell ⟨g, 0, none⟩ v0).setCell ⟨g, 1, none⟩ v1).setCell ⟨g, 2, none⟩ v2).heap[g]? = some (.cells #[v0, v1, v2, c3] t (0, 0)) := k _ _ 2 v2 h1
  exact ⟨k _ _ 3 v3 h2, (((hb.setCell (p := ⟨g, 0, none⟩) hg v0).setCell (p := ⟨g, 1, none⟩) hg v1).setCell (p := ⟨g, 2, none⟩) hg v2).setCell (p := ⟨g, 3, none⟩) hg v3⟩
theorem keep1 {w : World} {g i : Nat} {o : Obj} (j : Nat) (h : w.heap[i]? = some o) (hg : i ≠ g) (v : Value) : (w.setCell ⟨g, j, none⟩ v).heap[i]? = some o := (heap_setCell_other w ⟨g, j, none⟩ i v hg).trans h
theorem end_at (Q : Ending → World → Prop) (tmps : Array Value) (W : World) (g : Nat) (a c d : ByteArray) (b ok : Bool) (n : Int) (hp : tmps.getD 4 undef = .pointer (some ⟨g, 0, none⟩)) (hu : tmps.getD 5 undef = .int .i64 n) (hv : tmps.getD 6 undef = .bool ok)
    (hg : W.heap[g]? = some (.cells #[.string a, .bool b, .string c, .string d] 56 (0, 0))) (hQ : Q (.returned (.tuple #[.agg #[.string a, .bool b, .string c, .string d], .int .i64 n, .bool ok])) W) :
    bodyPost Tryz.prog Tryz.f27 Q .ret { tmps := tmps, defers := [] } W := by
  refine bodyPost_ret (results_ctt rfl _ _ g 56 _ (0, 0) _ hp hg Tryz.underlying56 rfl (by kernel_rfl)) rfl ?_
  rw [hu, hv]
  exact hQ
set_option maxRecDepth 100000 in
theorem conv_one (W : World) (g : Nat) (c : UInt8) (h : W.heap[g]? = some (.cells #[.int .u8 (c.toNat : Int)] 5 (0, 0))) : (convert 81 9 (.slice (some ⟨g, 0, none⟩) 1 1)).run Tryz.prog W = .ok (.string (B [c])) W := by
  have ho : W.ownsRow 0 5 1 (.slice (some ⟨g, 0, none⟩) 1 1) 1 (encs (fun x => Value.int .u8 x) [(c.toNat : Int)]) := ⟨rfl, .inr ⟨g, 1, _, rfl, Nat.zero_le _, h, Nat.le_refl _, by unfold maxLen; omega, rfl, rfl⟩⟩
  have := own_string (P := Tryz.prog) Tryz.underlying81 Tryz.underlying5 Tryz.underlying9 ho
  rw [this]
  congr 2
  unfold strOfNums
  simp [byte_back]
set_option maxHeartbeats 16000000 in
set_option maxRecDepth 100000 in
theorem at_calls (s : ByteArray) (i : Nat) (w : World) (hs : s.size ≤ 2305843009213693952) (hi : i ≤ s.size) :
    Calls Tryz.prog 27 #[.string s, .int .i64 (i : Int)] w fun e w' => e = .returned (atT i (atX ((L s).drop i))) ∧ Below w.heap.size w w' := by
  have hu79 := Tryz.underlying56
  obtain ⟨l, hl⟩ : ∃ l, (L s).drop i = l := ⟨_, rfl⟩
  have hz : s.size = i + l.length := by rw [← hl, List.length_drop, size_L] ; rw [size_L] at hi; omega
  rw [hl]
  obtain ⟨q, hq⟩ : ∃ q, atX l = q := ⟨_, rfl⟩
  rw [hq]
  have hq' : Hid (atX l = q) := hq
  have hl' : Hid ((L s).drop i = l) := hl
  clear hq hl
  have o1 : (i : Int) + 1 ≤ 4611686018427387904 := by omega
  have o2 : IntKind.i64.wrap ((i : Int) + 2) = ((i + 2 : Nat) : Int) := by rw [i64_w, wrap_id (by omega) (by omega)]; omega
  rcases l with _ | ⟨x, _ | ⟨c, t⟩⟩
  · have e1 : decide ((i : Int) + 1 ≥ (s.size : Int)) = true := decide_eq_true (by rw [hz]; simp; omega)
    have e2 : decide ((s.size : Int) ≤ (i : Int) + 1) = true := decide_eq_true (by rw [hz]; simp; omega)
    obtain rfl : q = (Rf.none, false) := hq'.out.symm
    clear hq' hz
    go_enter Tryz.func27, Tryz.ntmps27
    go_wp2_with (first | ((with_reducible refine gate_dst (N := 4) rfl ?_); refine box_event ?hg (N := 4) ?hd (cs := #[.string (⟨#[]⟩ : ByteArray), .bool false, .string (⟨#[]⟩ : ByteArray), .string (⟨#[]⟩ : ByteArray)]) (t := 56) ?hr ?_; (case hd => rfl); (case hg => rfl); (case hr => first | (go_simp; done) | (go_simp; rfl)); intro G hG w1 hbx hb; have hb1 := below_step (Below.refl w.heap.size w) hb; have hwG := (by rw [hG]; exact Nat.le_refl _ : w.heap.size ≤ G); clear hG hb; obtain ⟨r0, r1, r2, r3, q0, q1, q2, q3⟩ := four hbx))
    obtain ⟨hf, hbf⟩ := fill4 hbx hb1 hwG (.string (⟨#[]⟩ : ByteArray)) (.bool false) (.string (⟨#[]⟩ : ByteArray)) (.string (⟨#[]⟩ : ByteArray))
    exact end_at _ _ _ G _ _ _ _ _ _ rfl rfl rfl hf ⟨rfl, hbf⟩
  · have e1 : decide ((i : Int) + 1 ≥ (s.size : Int)) = true := decide_eq_true (by rw [hz]; simp)
    have e2 : decide ((s.size : Int) ≤ (i : Int) + 1) = true := decide_eq_true (by rw [hz]; simp)
    obtain rfl : q = (Rf.none, false) := hq'.out.symm
    clear hq' hz
    go_enter Tryz.func27, Tryz.ntmps27
    go_wp2_with (first | ((with_reducible refine gate_dst (N := 4) rfl ?_); refine box_event ?hg (N := 4) ?hd (cs := #[.string (⟨#[]⟩ : ByteArray), .bool false, .string (⟨#[]⟩ : ByteArray), .string (⟨#[]⟩ : ByteArray)]) (t := 56) ?hr ?_; (case hd => rfl); (case hg => rfl); (case hr => first | (go_simp; done) | (go_simp; rfl)); intro G hG w1 hbx hb; have hb1 := below_step (Below.refl w.heap.size w) hb; have hwG := (by rw [hG]; exact Nat.le_refl _ : w.heap.size ≤ G); clear hG hb; obtain ⟨r0, r1, r2, r3, q0, q1, q2, q3⟩ := four hbx))
    obtain ⟨hf, hbf⟩ := fill4 hbx hb1 hwG (.string (⟨#[]⟩ : ByteArray)) (.bool false) (.string (⟨#[]⟩ : ByteArray)) (.string (⟨#[]⟩ : ByteArray))
    exact end_at _ _ _ G _ _ _ _ _ _ rfl rfl rfl hf ⟨rfl, hbf⟩
  · have e1 : decide ((i : Int) + 1 ≥ (s.size : Int)) = false := decide_eq_false (by rw [hz]; simp only [List.length_cons]; omega)
    have e2 : decide ((s.size : Int) ≤ (i : Int) + 1) = false := decide_eq_false (by rw [hz]; simp only [List.length_cons]; omega)
    have e3 : (0 : Int) ≤ (i : Int) + 1 := by omega
    have e4 : (i : Int) + 1 < (s.size : Int) := by rw [hz]; simp only [List.length_cons]; omega
    have hz2 : Hid (s.size = i + (t.length + 2)) := by rw [show s.size = i + (t.length + 2) from hz]; rfl
    clear hz
    go_enter Tryz.func27, Tryz.ntmps27
    go_upto_region 4 with (first | ((with_reducible refine gate_dst (N := 4) rfl ?_); refine box_event ?hg (N := 4) ?hd (cs := #[.string (⟨#[]⟩ : ByteArray), .bool false, .string (⟨#[]⟩ : ByteArray), .string (⟨#[]⟩ : ByteArray)]) (t := 56) ?hr ?_; (case hd => rfl); (case hg => rfl); (case hr => first | (go_simp; done) | (go_simp; rfl)); intro G hG w1 hbx hb; have hb1 := below_step (Below.refl w.heap.size w) hb; have hwG := (by rw [hG]; exact Nat.le_refl _ : w.heap.size ≤ G); clear hG hb; obtain ⟨r0, r1, r2, r3, q0, q1, q2, q3⟩ := four hbx))
    have hci : Hid (∀ h, s[i + 1]'h = c) := fun h => by
      have h1 : (L s)[i + 1]? = some c := by
        have h2 := congrArg (fun l => l[1]?) hl'.out
        simpa [List.getElem?_drop] using h2
      exact (List.getElem?_eq_some_iff.1 h1).2
    simp only [hci.out]
    clear r0 r1 r2 r3 q0 q1 q2 q3 hci
    by_cases h36 : c = 36
    · subst h36
      obtain rfl : q = (⟨[], false, [], [], 2⟩, true) := hq'.out.symm.trans (by unfold atX; exact if_pos rfl)
      clear hq'
      obtain ⟨r0, r1, r2, r3, q0, q1, q2, q3⟩ := four hbx
      go_wp2_with fail
      obtain ⟨hf, hbf⟩ := fill4 hbx hb1 hwG (.string (⟨#[]⟩ : ByteArray)) (.bool false) (.string (⟨#[]⟩ : ByteArray)) (.string (⟨#[]⟩ : ByteArray))
      exact end_at _ _ _ G _ _ _ _ _ _ rfl rfl rfl hf ⟨rfl, hbf⟩
    · have d36 : ((c.toNat : Int) == 36) = false := beq_eq_false_iff_ne.2 (fun h => h36 (u8_eq.1 (Int.ofNat.inj h)))
      by_cases hbr : c = 40 ∨ c = 123
      · have hq2 : q = (if t.contains (shutB c) = true then atIn (aheadB (shutB c) t) else (Rf.none, false)) := hq'.out.symm.trans (by unfold atX; exact (if_neg h36).trans (if_pos hbr))
        have hq3 : Hid (q = (if t.contains (shutB c) = true then atIn (aheadB (shutB c) t) else (Rf.none, false))) := hq2
        clear hq' hq2 h36
        have hx2 : s.extract (i + 2) s.size = B t := by
          have h2 := congrArg (List.drop 2) hl'.out
          rw [List.drop_drop] at h2
          rw [extract_B, h2, List.take_of_length_le (by have := hz2.out; simp; omega)]
          rfl
        have e5 : (0 : Int) ≤ ((i + 2 : Nat) : Int) := by omega
        have e6 : ((i + 2 : Nat) : Int) ≤ (s.size : Int) := by have := hz2.out; omega
        have htl : t.length + i + 2 ≤ 2305843009213693952 := by have := hz2.out; omega
        have hbrh : Hid (c = 40 ∨ c = 123) := hbr
        clear hbr
        have hfd := fun W => rfind_calls (B t) (shutB c) (by rw [size_L, L_B]; omega) W
        rw [L_B] at hfd
        obtain ⟨E, hE⟩ : ∃ E : Int, (if t.contains (shutB c) = true then ((aheadB (shutB c) t).length : Int) else -1) = E := ⟨_, rfl⟩
        rw [hE] at hfd
        have hE' : Hid ((if t.contains (shutB c) = true then ((aheadB (shutB c) t).length : Int) else -1) = E) := hE
        have hq4 : Hid (q = (if t.contains (shutB c) = true then atIn (aheadB (shutB c) t) else (Rf.none, false))) := hq3.out
        clear hE hq3
        have hbn : Hid (((c.toNat : Int) = 40 ∧ ((shutB c).toNat : Int) = 41) ∨ ((c.toNat : Int) = 123 ∧ ((shutB c).toNat : Int) = 125)) := by
          rcases hbrh.out with rfl | rfl
          · exact .inl ⟨rfl, rfl⟩
          · exact .inr ⟨rfl, rfl⟩
        clear hbrh
        generalize (c.toNat : Int) = cn at hbn d36 ⊢
        obtain ⟨sn, hsn⟩ : ∃ sn : Int, ((shutB c).toNat : Int) = sn := ⟨_, rfl⟩
        rw [hsn] at hbn
        have hsn' : Hid (sn = ((shutB c).toNat : Int)) := hsn.symm
        clear hsn
        go_upto_region 6 with fail
        clear d36
        go_cut [35] (fun v wc => v = .bool false ∧ w1 = wc)
        case first =>
          clear hfd hE' hq4
          rcases hbn.out with ⟨rfl, rfl⟩ | ⟨rfl, rfl⟩
          · go_wp2_with fail
            go_meet
            case rel => exact ⟨rfl, rfl⟩
          · go_wp2_with fail
            go_meet
            case rel => exact ⟨rfl, rfl⟩
        case rest =>
        obtain ⟨rfl, rfl⟩ := hcut
        go_upto_if 45 with fail
        go_cut [8] (fun v wc => v = .int .u8 sn ∧ w1 = wc)
        case first =>
          clear hfd hE' hq4 o1 o2 e1 e2 e3 e4 e5 e6 hx2 htl hz2 hl' hbx hb1 hs hi
          rcases hbn.out with ⟨rfl, rfl⟩ | ⟨rfl, rfl⟩
          · have f1 : ((40 : Int) == 123) = false := by decide
            go_wp2_with fail
            go_meet
            case rel => exact ⟨rfl, rfl⟩
          · have f1 : ((123 : Int) == 123) = true := by decide
            go_wp2_with fail
            go_meet
            case rel => exact ⟨rfl, rfl⟩
        case rest =>
        obtain ⟨rfl, rfl⟩ := hcut
        rw [hsn'.out]
        clear hbn hsn'
        obtain ⟨r0, r1, r2, r3, q0, q1, q2, q3⟩ := four hbx
        generalize shutB c = sc at hfd hE' hq4 ⊢
        go_wp2_with fail
        refine (hfd _).mono ?_
        rintro e w2 ⟨rfl, ⟨⟨n2, rfl⟩⟩⟩
        have hbx2 : (w1.drewN n2).heap[G]? = some _ := hbx
        have hb2 := pw_below_drewN hb1 n2
        clear hbx hb1 hfd r0 r1 r2 r3 q0 q1 q2 q3
        generalize w1.drewN n2 = w2 at hbx2 hb2 ⊢
        by_cases hneg : E < 0
        · have hq5 : q = (Rf.none, false) := by
            rw [hq4.out]
            have := hE'.out
            by_cases h2 : t.contains sc = true
            · rw [if_pos h2] at this; omega
            · rw [if_neg h2]
          clear hq4 hE'
          subst hq5
          obtain ⟨r0, r1, r2, r3, q0, q1, q2, q3⟩ := four hbx2
          go_wp2_with fail
          obtain ⟨hf, hbf⟩ := fill4 hbx2 hb2 hwG (.string (⟨#[]⟩ : ByteArray)) (.bool false) (.string (⟨#[]⟩ : ByteArray)) (.string (⟨#[]⟩ : ByteArray))
          exact end_at _ _ _ G _ _ _ _ _ _ rfl rfl rfl hf ⟨rfl, hbf⟩
        · obtain ⟨inn, hin⟩ : ∃ inn, aheadB sc t = inn := ⟨_, rfl⟩
          have hct : t.contains sc = true := by
            have := hE'.out
            by_cases h2 : t.contains sc = true
            · exact h2
            · rw [if_neg h2] at this; omega
          have hEn : E = (inn.length : Int) := by rw [← hE'.out, if_pos hct, hin]
          have hq5 : Hid (atIn inn = q) := by rw [hq4.out, if_pos hct, hin]; rfl
          have hle : inn.length ≤ t.length := by rw [← hin]; exact ahead_le _ _
          have hx3 : s.extract (i + 2) (i + 2 + inn.length) = B inn := by
            have h2 := congrArg (List.drop 2) hl'.out
            rw [List.drop_drop] at h2
            rw [extract_B, h2, Nat.add_sub_cancel_left, ← hin]
            show B (t.take _) = _
            rw [← ahead_eq]
          clear hq4 hE' hin hct
          obtain ⟨m, hm⟩ : ∃ m, inn.length = m := ⟨_, rfl⟩
          rw [hm] at hEn hle hx3
          subst hEn
          have hz3 := hz2.out
          have e7 : (i : Int) + 2 + (m : Int) ≤ (s.size : Int) := by omega
          have e8 : (0 : Int) ≤ (i : Int) + 2 + (m : Int) := by omega
          have e9 : (i : Int) + 2 ≤ (i : Int) + 2 + (m : Int) := by omega
          have e10 : ((i : Int) + 2 + (m : Int)).toNat = i + 2 + m := by omega
          have e11 : ((i : Int) + 2).toNat = i + 2 := by omega
          have hml : m ≤ 2305843009213693952 := by omega
          have c0 : decide ((m : Int) < 0) = false := decide_eq_false (by omega)
          have hmh : Hid (inn.length = m) := hm
          clear hz3 hm hneg hle htl
          have hf58 := fun W => rfind_calls (B inn) 58 (by rw [size_L, L_B, hmh.out]; omega) W
          rw [L_B] at hf58
          obtain ⟨k, hk⟩ : ∃ k : Int, (if inn.contains 58 = true then ((aheadB 58 inn).length : Int) else -1) = k := ⟨_, rfl⟩
          rw [hk] at hf58
          have hkh : Hid ((if inn.contains 58 = true then ((aheadB 58 inn).length : Int) else -1) = k) := hk
          clear hk
          go_wp2_with (first | ((with_reducible refine gate_dst (N := 11) rfl ?_); refine box_event ?hg (N := 11) ?hd (cs := #[.string (⟨#[]⟩ : ByteArray), .bool false, .string (⟨#[]⟩ : ByteArray), .string (⟨#[]⟩ : ByteArray)]) (t := 56) ?hr ?_; (case hd => rfl); (case hg => rfl); (case hr => first | (go_simp; done) | (go_simp; rfl)); intro G2 hG2 w4 hbx4 hb; have hb4 := below_step hb2 hb; have hbx5 := (hb.block G (blk_lt hbx2)).trans hbx2; have hwG2 := (by rw [hG2]; exact below_size hb2 : w.heap.size ≤ G2); have hGG := (by rw [hG2]; exact Nat.ne_of_lt (blk_lt hbx2) : G ≠ G2); clear hb hG2; obtain ⟨r0, r1, r2, r3, q0, q1, q2, q3⟩ := four hbx4))
          obtain ⟨hf, hbf⟩ := fill4 hbx4 hb4 hwG2 (Value.string (B inn)) (Value.bool false) (Value.string (⟨#[]⟩ : ByteArray)) (Value.string (⟨#[]⟩ : ByteArray))
          have hk5 := keep1 3 (keep1 2 (keep1 1 (keep1 0 hbx5 hGG (Value.string (B inn))) hGG (Value.bool false)) hGG (Value.string (⟨#[]⟩ : ByteArray))) hGG (Value.string (⟨#[]⟩ : ByteArray))
          clear hbx2 hb2 hbx4 hb4 hbx5 r0 r1 r2 r3 q0 q1 q2 q3
          generalize ((((w4.setCell ⟨G2, 0, none⟩ (Value.string (B inn))).setCell ⟨G2, 1, none⟩ (Value.bool false)).setCell ⟨G2, 2, none⟩ (Value.string (⟨#[]⟩ : ByteArray))).setCell ⟨G2, 3, none⟩ (Value.string (⟨#[]⟩ : ByteArray))) = w5 at hf hk5 hbf ⊢
          refine (hf58 _).mono ?_
          rintro e w6 ⟨rfl, ⟨⟨n6, rfl⟩⟩⟩
          have hf2 : (w5.drewN n6).heap[G2]? = some _ := hf
          have hk2 : (w5.drewN n6).heap[G]? = some _ := hk5
          have hbf2 := pw_below_drewN hbf n6
          clear hf hk5 hbf hf58
          generalize w5.drewN n6 = w6 at hf2 hk2 hbf2 ⊢
          go_upto_if 68 with fail
          go_cut [11] (fun v11 wc => v11 = .pointer (some ⟨G2, 0, none⟩) ∧ ∃ (nm fr tt : List UInt8) (sw : Bool), Aside0 (q = (⟨nm, sw, fr, tt, m + 3⟩, (namL nm || innL nm) && !(fr.contains 36) && !(tt.contains 36)) ∧ nm.length ≤ m ∧ fr.length ≤ m ∧ tt.length ≤ m) ∧ wc.heap[G2]? = some (.cells #[.string (B nm), .bool sw, .string (B fr), .string (B tt)] 56 (0, 0)) ∧ wc.heap[G]? = some (.cells #[.string (⟨#[]⟩ : ByteArray), .bool false, .string (⟨#[]⟩ : ByteArray), .string (⟨#[]⟩ : ByteArray)] 56 (0, 0)) ∧ Below w.heap.size w wc)
          case first =>
            as_aux_lemma =>
              clear o1 o2 e1 e2 e3 e4 e5 e6 e7 e8 e9 e10 e11 hx2 hx3 hi c0 hs
              by_cases hkn : k < 0
              · have d1 : decide (k ≥ 0) = false := decide_eq_false (by omega)
                have d2 : decide (0 ≤ k) = false := decide_eq_false (by omega)
                have hn58 : ¬ inn.contains 58 = true := fun h => by have := hkh.out; rw [if_pos h] at this; omega
                go_wp2_with fail
                go_meet
                case rel => exact ⟨rfl, inn, [], [], false, ⟨by rw [← hq5.out, ← hmh.out]; exact (if_neg hn58).trans (by simp), by rw [hmh.out]; omega, by simp, by simp⟩, hf2, hk2, hbf2⟩
              · have hc58 : inn.contains 58 = true := by
                  cases h : inn.contains 58 with
                  | true => rfl
                  | false => have := hkh.out; rw [h, if_neg (by decide)] at this; omega
                have hka : k = ((aheadB 58 inn).length : Int) := by rw [← hkh.out, if_pos hc58]
                obtain ⟨nm, hnm⟩ : ∃ nm, aheadB 58 inn = nm := ⟨_, rfl⟩
                obtain ⟨how, hho⟩ : ∃ how, behindB 58 inn = how := ⟨_, rfl⟩
                rw [hnm] at hka
                have hlt := (List.getElem?_eq_some_iff.1 (ahead_at 58 inn (by simpa using hc58))).1
                rw [hnm, hmh.out] at hlt
                have hx4 : (B inn).extract 0 nm.length = B nm := by rw [extract_B, L_B, List.drop_zero, Nat.sub_zero, ← hnm, ← ahead_eq]
                have hx5 : (B inn).extract (nm.length + 1) inn.length = B how := by
                  rw [extract_B, L_B, ← hho, ← hnm]; unfold behindB; rw [List.take_of_length_le (by rw [List.length_drop]; omega)]
                have hhl : how.length ≤ m := by rw [← hho, ← hmh.out]; exact behind_le _ _
                have hq6 : Hid ((if how.contains 61 = true then (⟨nm, true, aheadB 61 how, behindB 61 how, m + 3⟩, (namL nm || innL nm) && !((aheadB 61 how).contains 36) && !((behindB 61 how).contains 36)) else (Rf.none, false)) = q) := by
                  rw [← hq5.out, ← hho, ← hnm, ← hmh.out]; exact (if_pos hc58).symm
                have hf61 := fun W => rfind_calls (B how) 61 (by rw [size_L, L_B]; omega) W
                rw [L_B] at hf61
                obtain ⟨k2, hk2'⟩ : ∃ k2 : Int, (if how.contains 61 = true then ((aheadB 61 how).length : Int) else -1) = k2 := ⟨_, rfl⟩
                rw [hk2'] at hf61
                have hk2h : Hid ((if how.contains 61 = true then ((aheadB 61 how).length : Int) else -1) = k2) := hk2'
                subst hka
                have hnl : nm.length < m := hlt
                have hzi : (B inn).size = inn.length := by rw [size_L, L_B]
                have hzm : inn.length = m := hmh.out
                rw [hzm] at hx5 hzi
                have d1 : decide ((nm.length : Int) ≥ 0) = true := decide_eq_true (by omega)
                have d2 : decide ((0 : Int) ≤ (nm.length : Int)) = true := decide_eq_true (by omega)
                have g1 : (0 : Int) ≤ (nm.length : Int) := by omega
                have g2 : (nm.length : Int) ≤ ((B inn).size : Int) := by rw [hzi]; omega
                have g3 : (0 : Int) ≤ (nm.length : Int) + 1 := by omega
                have g4 : (nm.length : Int) + 1 ≤ ((B inn).size : Int) := by rw [hzi]; omega
                have g5 : ((nm.length : Int) + 1).toNat = nm.length + 1 := by omega
                clear hk2' hho hnm hc58 hlt hkh hkn hq5 hzm
                obtain ⟨r0, r1, r2, r3, q0, q1, q2, q3⟩ := four hf2
                go_wp2_with fail
                have hf3 := heap_setCell_same _ G2 2 _ _ (.string (B how)) (heap_setCell_same _ G2 1 _ _ (.bool true) (heap_setCell_same w6 G2 0 _ _ (.string (B nm)) hf2))
                have hk3 := keep1 2 (keep1 1 (keep1 0 hk2 hGG (.string (B nm))) hGG (.bool true)) hGG (.string (B how))
                have hbf3 := ((hbf2.setCell (p := ⟨G2, 0, none⟩) hwG2 (.string (B nm))).setCell (p := ⟨G2, 1, none⟩) hwG2 (.bool true)).setCell (p := ⟨G2, 2, none⟩) hwG2 (.string (B how))
                clear hf2 hk2 hbf2 r0 r1 r2 r3 q0 q1 q2 q3
                generalize ((w6.setCell ⟨G2, 0, none⟩ (.string (B nm))).setCell ⟨G2, 1, none⟩ (.bool true)).setCell ⟨G2, 2, none⟩ (.string (B how)) = w7 at hf3 hk3 hbf3 ⊢
                have hf3 : w7.heap[G2]? = some (.cells #[.string (B nm), .bool true, .string (B how), .string (⟨#[]⟩ : ByteArray)] 56 (0, 0)) := hf3
                refine (hf61 _).mono ?_
                rintro e w8 ⟨rfl, ⟨⟨n8, rfl⟩⟩⟩
                have hf4 : (w7.drewN n8).heap[G2]? = some _ := hf3
                have hk4 : (w7.drewN n8).heap[G]? = some _ := hk3
                have hbf4 := pw_below_drewN hbf3 n8
                clear hf3 hk3 hbf3 hf61 hx4 hx5 d1 d2 g1 g2 g3 g4 g5 hzi
                generalize w7.drewN n8 = w8 at hf4 hk4 hbf4 ⊢
                by_cases hk2n : k2 < 0
                · have d1 : decide (k2 < 0) = true := decide_eq_true hk2n
                  have hn61 : ¬ how.contains 61 = true := fun h => by have := hk2h.out; rw [if_pos h] at this; omega
                  obtain rfl : q = (Rf.none, false) := hq6.out.symm.trans (if_neg hn61)
                  obtain ⟨r0, r1, r2, r3, q0, q1, q2, q3⟩ := four hk4
                  clear hn61 hk2h hq6
                  go_wp2_with fail
                  obtain ⟨hf, hbf⟩ := fill4 hk4 hbf4 hwG (.string (⟨#[]⟩ : ByteArray)) (.bool false) (.string (⟨#[]⟩ : ByteArray)) (.string (⟨#[]⟩ : ByteArray))
                  exact end_at _ _ _ G _ _ _ _ _ _ rfl rfl rfl hf ⟨rfl, hbf⟩
                · have hc61 : how.contains 61 = true := by
                    cases h : how.contains 61 with
                    | true => rfl
                    | false => have := hk2h.out; rw [h, if_neg (by decide)] at this; omega
                  have hka : k2 = ((aheadB 61 how).length : Int) := by rw [← hk2h.out, if_pos hc61]
                  have hq7 := hq6.out
                  rw [if_pos hc61] at hq7
                  obtain ⟨fr, hfr⟩ : ∃ fr, aheadB 61 how = fr := ⟨_, rfl⟩
                  obtain ⟨tt, htt⟩ : ∃ tt, behindB 61 how = tt := ⟨_, rfl⟩
                  have hlt := (List.getElem?_eq_some_iff.1 (ahead_at 61 how (by simpa using hc61))).1
                  rw [hfr] at hka hlt
                  rw [hfr, htt] at hq7
                  have hx6 : (B how).extract 0 fr.length = B fr := by rw [extract_B, L_B, List.drop_zero, Nat.sub_zero, ← hfr, ← ahead_eq]
                  obtain ⟨hn, hhn⟩ : ∃ hn, how.length = hn := ⟨_, rfl⟩
                  have hx7 : (B how).extract (fr.length + 1) hn = B tt := by
                    rw [extract_B, L_B, ← htt, ← hfr, ← hhn]; unfold behindB; rw [List.take_of_length_le (by rw [List.length_drop]; omega)]
                  have hzi : (B how).size = hn := by rw [size_L, L_B, hhn]
                  have hq8 : Aside0 (q = (⟨nm, true, fr, tt, m + 3⟩, (namL nm || innL nm) && !(fr.contains 36) && !(tt.contains 36)) ∧ nm.length ≤ m ∧ fr.length ≤ m ∧ tt.length ≤ m) := ⟨hq7.symm, by omega, by omega, by rw [← htt]; exact Nat.le_trans (behind_le _ _) hhl⟩
                  subst hka
                  rw [hhn] at hlt hhl
                  have d1 : decide ((fr.length : Int) < 0) = false := decide_eq_false (by omega)
                  have g1 : (0 : Int) ≤ (fr.length : Int) := by omega
                  have g2 : (fr.length : Int) ≤ ((B how).size : Int) := by rw [hzi]; omega
                  have g3 : (0 : Int) ≤ (fr.length : Int) + 1 := by omega
                  have g4 : (fr.length : Int) + 1 ≤ ((B how).size : Int) := by rw [hzi]; omega
                  have g5 : ((fr.length : Int) + 1).toNat = fr.length + 1 := by omega
                  obtain ⟨r0, r1, r2, r3, q0, q1, q2, q3⟩ := four hf4
                  clear hk2n hc61 hq7 hfr htt hk2h hq6 hhn
                  go_wp2_with fail
                  go_meet
                  case rel =>
                    refine ⟨rfl, nm, fr, tt, true, hq8, ?_, ?_, ?_⟩
                    · exact heap_setCell_same _ G2 2 _ _ (.string (B fr)) (heap_setCell_same w8 G2 3 _ _ (.string (B tt)) hf4)
                    · exact keep1 2 (keep1 3 hk4 hGG (.string (B tt))) hGG (.string (B fr))
                    · exact (hbf4.setCell (p := ⟨G2, 3, none⟩) hwG2 (.string (B tt))).setCell (p := ⟨G2, 2, none⟩) hwG2 (.string (B fr))
          case rest =>
            as_aux_lemma =>
              clear o1 o2 e1 e2 e3 e4 e5 e6 e7 e8 e9 e10 e11 hx2 hx3 c0 hf2 hk2 hbf2 w6
              obtain ⟨rfl, nm, fr, tt, sw, hq8, hf, hk, hbf⟩ := hcut
              obtain ⟨hqq, l1, l2, l3⟩ := hq8.out
              obtain ⟨kn, hkn⟩ := rname_ev (B nm) (by rw [size_L, L_B]; omega)
              have hnm := fun W => smithyref05_Name.calls kn (B nm) _ W (hkn kn (Nat.le_refl _))
              have hin := fun W => smithyref06_Inner.calls 1 (B nm) _ W (rinner_eq 0 (B nm))
              have hfr := fun W => rfind_calls (B fr) 36 (by rw [size_L, L_B]; omega) W
              have htt := fun W => rfind_calls (B tt) 36 (by rw [size_L, L_B]; omega) W
              rw [L_B] at hnm hin hfr htt
              clear hkn hq8 l1 l2 l3 hq5 hkh
              generalize namL nm = y1 at hnm hqq
              generalize innL nm = y2 at hin hqq
              generalize fr.contains 36 = f1 at hfr hqq
              generalize tt.contains 36 = f2 at htt hqq
              generalize (aheadB 36 fr).length = j1 at hfr
              generalize (aheadB 36 tt).length = j2 at htt
              have hqq : Hid _ := hqq
              have b1 : IntKind.i64.wrap ((i : Int) + 3) = (i : Int) + 3 := by rw [i64_w, wrap_id (by omega) (by omega)]
              have b2 : IntKind.i64.wrap ((i : Int) + 3 + (m : Int)) = ((i + (m + 3) : Nat) : Int) := by rw [i64_w, wrap_id (by omega) (by omega)]; omega
              clear hs hi hml
              go_upto_region 26 with fail
              go_cut [14] (fun v wd => v = .bool ((y1 || y2) && !f1 && !f2) ∧ wd.heap[G2]? = some (.cells #[.string (B nm), .bool sw, .string (B fr), .string (B tt)] 56 (0, 0)) ∧ wd.heap[G]? = some (.cells #[.string (⟨#[]⟩ : ByteArray), .bool false, .string (⟨#[]⟩ : ByteArray), .string (⟨#[]⟩ : ByteArray)] 56 (0, 0)) ∧ Below w.heap.size w wd)
              case first =>
                as_aux_lemma =>
                  clear hqq b1 b2
                  obtain ⟨r0, r1, r2, r3, q0, q1, q2, q3⟩ := four hf
                  go_wp2_with fail
                  refine (hnm _).mono ?_
                  rintro e wa ⟨rfl, hd⟩
                  have hb9 := hd.below
                  have hf := blk_below hf hb9
                  have hk := blk_below hk hb9
                  have hbf := below_step hbf hb9
                  clear hd hb9 hnm
                  cases y1 with
                  | true =>
                    clear hin
                    cases f1 with
                    | true =>
                      simp only [if_true] at hfr
                      have d7 : decide ((j1 : Int) < 0) = false := decide_eq_false (by omega)
                      obtain ⟨r0, r1, r2, r3, q0, q1, q2, q3⟩ := four hf
                      go_wp2_with fail
                      refine (hfr _).mono ?_
                      rintro e wb ⟨rfl, hd⟩
                      have hb9 := hd.below
                      have hf := blk_below hf hb9
                      have hk := blk_below hk hb9
                      have hbf := below_step hbf hb9
                      clear hd hb9 hfr
                      obtain ⟨r0, r1, r2, r3, q0, q1, q2, q3⟩ := four hf
                      go_wp2_with fail
                      go_meet
                      case rel => exact ⟨rfl, hf, hk, hbf⟩
                    | false =>
                      simp only [Bool.false_eq_true, if_false] at hfr
                      obtain ⟨r0, r1, r2, r3, q0, q1, q2, q3⟩ := four hf
                      go_wp2_with fail
                      refine (hfr _).mono ?_
                      rintro e wb ⟨rfl, hd⟩
                      have hb9 := hd.below
                      have hf := blk_below hf hb9
                      have hk := blk_below hk hb9
                      have hbf := below_step hbf hb9
                      clear hd hb9 hfr
                      obtain ⟨r0, r1, r2, r3, q0, q1, q2, q3⟩ := four hf
                      cases f2 with
                      | true =>
                        simp only [if_true] at htt
                        have d8 : decide ((j2 : Int) < 0) = false := decide_eq_false (by omega)
                        go_wp2_with fail
                        refine (htt _).mono ?_
                        rintro e wc2 ⟨rfl, hd⟩
                        have hb9 := hd.below
                        have hf := blk_below hf hb9
                        have hk := blk_below hk hb9
                        have hbf := below_step hbf hb9
                        clear hd hb9 htt
                        obtain ⟨r0, r1, r2, r3, q0, q1, q2, q3⟩ := four hf
                        go_wp2_with fail
                        go_meet
                        case rel => exact ⟨rfl, hf, hk, hbf⟩
                      | false =>
                        simp only [Bool.false_eq_true, if_false] at htt
                        go_wp2_with fail
                        refine (htt _).mono ?_
                        rintro e wc2 ⟨rfl, hd⟩
                        have hb9 := hd.below
                        have hf := blk_below hf hb9
                        have hk := blk_below hk hb9
                        have hbf := below_step hbf hb9
                        clear hd hb9 htt
                        obtain ⟨r0, r1, r2, r3, q0, q1, q2, q3⟩ := four hf
                        go_wp2_with fail
                        go_meet
                        case rel => exact ⟨rfl, hf, hk, hbf⟩
                  | false =>
                    obtain ⟨r0, r1, r2, r3, q0, q1, q2, q3⟩ := four hf
                    go_wp2_with fail
                    refine (hin _).mono ?_
                    rintro e wi ⟨rfl, hd⟩
                    have hb9 := hd.below
                    have hf := blk_below hf hb9
                    have hk := blk_below hk hb9
                    have hbf := below_step hbf hb9
                    clear hd hb9 hin
                    cases y2 with
                    | true =>
                      cases f1 with
                      | true =>
                        simp only [if_true] at hfr
                        have d7 : decide ((j1 : Int) < 0) = false := decide_eq_false (by omega)
                        obtain ⟨r0, r1, r2, r3, q0, q1, q2, q3⟩ := four hf
                        go_wp2_with fail
                        refine (hfr _).mono ?_
                        rintro e wb ⟨rfl, hd⟩
                        have hb9 := hd.below
                        have hf := blk_below hf hb9
                        have hk := blk_below hk hb9
                        have hbf := below_step hbf hb9
                        clear hd hb9 hfr
                        obtain ⟨r0, r1, r2, r3, q0, q1, q2, q3⟩ := four hf
                        go_wp2_with fail
                        go_meet
                        case rel => exact ⟨rfl, hf, hk, hbf⟩
                      | false =>
                        simp only [Bool.false_eq_true, if_false] at hfr
                        obtain ⟨r0, r1, r2, r3, q0, q1, q2, q3⟩ := four hf
                        go_wp2_with fail
                        refine (hfr _).mono ?_
                        rintro e wb ⟨rfl, hd⟩
                        have hb9 := hd.below
                        have hf := blk_below hf hb9
                        have hk := blk_below hk hb9
                        have hbf := below_step hbf hb9
                        clear hd hb9 hfr
                        obtain ⟨r0, r1, r2, r3, q0, q1, q2, q3⟩ := four hf
                        cases f2 with
                        | true =>
                          simp only [if_true] at htt
                          have d8 : decide ((j2 : Int) < 0) = false := decide_eq_false (by omega)
                          go_wp2_with fail
                          refine (htt _).mono ?_
                          rintro e wc2 ⟨rfl, hd⟩
                          have hb9 := hd.below
                          have hf := blk_below hf hb9
                          have hk := blk_below hk hb9
                          have hbf := below_step hbf hb9
                          clear hd hb9 htt
                          obtain ⟨r0, r1, r2, r3, q0, q1, q2, q3⟩ := four hf
                          go_wp2_with fail
                          go_meet
                          case rel => exact ⟨rfl, hf, hk, hbf⟩
                        | false =>
                          simp only [Bool.false_eq_true, if_false] at htt
                          go_wp2_with fail
                          refine (htt _).mono ?_
                          rintro e wc2 ⟨rfl, hd⟩
                          have hb9 := hd.below
                          have hf := blk_below hf hb9
                          have hk := blk_below hk hb9
                          have hbf := below_step hbf hb9
                          clear hd hb9 htt
                          obtain ⟨r0, r1, r2, r3, q0, q1, q2, q3⟩ := four hf
                          go_wp2_with fail
                          go_meet
                          case rel => exact ⟨rfl, hf, hk, hbf⟩
                    | false =>
                      clear hfr htt
                      obtain ⟨r0, r1, r2, r3, q0, q1, q2, q3⟩ := four hf
                      go_wp2_with fail
                      go_meet
                      case rel => exact ⟨rfl, hf, hk, hbf⟩
              case rest =>
                as_aux_lemma =>
                  clear hnm hin hfr htt hf hk hbf
                  obtain ⟨rfl, hf, hk, hbf⟩ := hcut
                  obtain ⟨s0, s1, s2, s3, p0, p1, p2, p3⟩ := four hk
                  obtain ⟨r0, r1, r2, r3, q0, q1, q2, q3⟩ := four hf
                  go_wp2_with fail
                  obtain ⟨hfe, hbfe⟩ := fill4 hk hbf hwG (.string (B nm)) (.bool sw) (.string (B fr)) (.string (B tt))
                  exact end_at _ _ _ G _ _ _ _ _ _ rfl rfl rfl hfe ⟨by rw [hqq.out]; rfl, hbfe⟩
      · as_aux_lemma =>
          have d40 : ((c.toNat : Int) == 40) = false := beq_eq_false_iff_ne.2 (fun h => hbr (.inl (u8_eq.1 (Int.ofNat.inj h))))
          have d123 : ((c.toNat : Int) == 123) = false := beq_eq_false_iff_ne.2 (fun h => hbr (.inr (u8_eq.1 (Int.ofNat.inj h))))
          have f40 : ((c.toNat : Int) != 40) = true := by rw [bne, d40]; rfl
          have f123 : ((c.toNat : Int) != 123) = true := by rw [bne, d123]; rfl
          have hq2 : q = (⟨[c], false, [], [], 2⟩, oneB c) := hq'.out.symm.trans (by unfold atX; exact (if_neg h36).trans (if_neg hbr))
          have hq3 : Hid (q = (⟨[c], false, [], [], 2⟩, oneB c)) := hq2
          have hone := fun W => smithyref06_one.calls 1 (c.toNat : Int) _ W (rone_eq 0 c)
          clear hq' hq2
          obtain ⟨y, hy⟩ : ∃ y, oneB c = y := ⟨_, rfl⟩
          rw [hy] at hone
          have hyh : Hid (oneB c = y) := hy
          clear hy
          obtain ⟨r0, r1, r2, r3, q0, q1, q2, q3⟩ := four hbx
          go_wp2_with fail
          have hxd : Below w1.heap.size w1 w1.drew := below_drew (Below.refl _ _)
          have al : ∀ W, Below w1.heap.size w1 W → (W.alloc (.cells #[.int .u8 (c.toNat : Int)] 5)).heap[G]? = some (.cells #[.string (⟨#[]⟩ : ByteArray), .bool false, .string (⟨#[]⟩ : ByteArray), .string (⟨#[]⟩ : ByteArray)] 56 (0, 0)) := fun W h => blk_below (blk_below hbx h) (below_alloc (Below.refl _ _) _)
          obtain ⟨ar0, ar1, ar2, ar3, aq0, aq1, aq2, aq3⟩ := four (al w1 (Below.refl _ _))
          have cvA := conv_one (w1.alloc (.cells #[.int .u8 (c.toNat : Int)] 5)).drew w1.heap.size c (blk_drew (heap_alloc_new w1 _))
          go_region_with (first | (go_at_call 41; refine (hone _).mono ?_; rintro e w3 ⟨rfl, hb3⟩; have hx3 := below_t hxd hb3; obtain ⟨r0, r1, r2, r3, q0, q1, q2, q3⟩ := four (blk_below hbx hx3); obtain ⟨ar0, ar1, ar2, ar3, aq0, aq1, aq2, aq3⟩ := four (al w3 hx3); have cvB := conv_one (w3.alloc (.cells #[.int .u8 (c.toNat : Int)] 5)) w3.heap.size c (heap_alloc_new w3 _)) | (go_at_call 41; refine (hone _).mono ?_; rintro e w3 ⟨rfl, hb3⟩; have hx3 := below_t (below_drew (below_alloc (Below.refl w1.heap.size w1) (.cells #[.int .u8 (c.toNat : Int)] 5))) hb3; obtain ⟨r0, r1, r2, r3, q0, q1, q2, q3⟩ := four (blk_below hbx hx3); have cvB := conv_one w3 w1.heap.size c (blk_below (blk_drew (heap_alloc_new w1 (.cells #[.int .u8 (c.toNat : Int)] 5))) hb3)))
          · have hbw := below_t hb1 hx3
            have hbx3 := blk_below hbx hx3
            clear hone al cvA cvB
            go_wp2_with fail
            obtain ⟨hf, hbf⟩ := fill4 hbx3 hbw hwG (.string (B [c])) (.bool false) (.string (⟨#[]⟩ : ByteArray)) (.string (⟨#[]⟩ : ByteArray))
            exact end_at _ _ _ G _ _ _ _ _ _ rfl rfl rfl hf ⟨by rw [hq3.out, hyh.out]; rfl, hbf⟩
          · have hbw := below_t hb1 hx3
            have hbx3 := blk_below hbx hx3
            clear hone al cvA cvB
            go_wp2_with fail
            obtain ⟨hf, hbf⟩ := fill4 hbx3 hbw hwG (.string (B [c])) (.bool false) (.string (⟨#[]⟩ : ByteArray)) (.string (⟨#[]⟩ : ByteArray))
            exact end_at _ _ _ G _ _ _ _ _ _ rfl rfl rfl hf ⟨by rw [hq3.out, hyh.out]; rfl, hbf⟩
          · have hbw := below_alloc (below_t hb1 hx3) (.cells #[.int .u8 (c.toNat : Int)] 5)
            have hbx3 := al _ hx3
            clear hone al cvA cvB
            go_wp2_with fail
            obtain ⟨hf, hbf⟩ := fill4 hbx3 hbw hwG (.string (B [c])) (.bool false) (.string (⟨#[]⟩ : ByteArray)) (.string (⟨#[]⟩ : ByteArray))
            exact end_at _ _ _ G _ _ _ _ _ _ rfl rfl rfl hf ⟨by rw [hq3.out, hyh.out]; rfl, hbf⟩
end Go.Proofs.YtadfbbjplgbakaaGreat.Exp

/-! ### as the printed texts ask it -/
namespace Go.Proofs.YtadfbbjplgbakaaGreat.PX
open Go Go.RowKit Go.Proofs.YtadfbbjplgbakaaGreatW.PrintWords Go.Proofs.YtadfbbjplgbakaaGreat.Plain Go.Proofs.YtadfbbjplgbakaaGreat.Exp
def smithyref06_at.f (a0 : ByteArray) (a1 : Int) : Option (ByteArray × Bool × ByteArray × ByteArray × Int × Bool) :=
  if a0.size ≤ 2305843009213693952 ∧ 0 ≤ a1 ∧ a1 ≤ (a0.size : Int) then some (B (atX ((L a0).drop a1.toNat)).1.name, (atX ((L a0).drop a1.toNat)).1.swap, B (atX ((L a0).drop a1.toNat)).1.from_, B (atX ((L a0).drop a1.toNat)).1.to_, (if (atX ((L a0).drop a1.toNat)).1.size = 0 then 0 else ((a1.toNat + (atX ((L a0).drop a1.toNat)).1.size : Nat) : Int)), (atX ((L a0).drop a1.toNat)).2) else none
theorem smithyref06_at.calls (a0 : ByteArray) (a1 : Int) (r1 : ByteArray) (r2 : Bool) (r3 : ByteArray) (r4 : ByteArray) (r5 : Int) (r6 : Bool) (w : World) (h : smithyref06_at.f a0 a1 = some (r1, r2, r3, r4, r5, r6)) :
    Calls Tryz.prog 27 #[.string a0, .int .i64 a1] w fun e w' => e = .returned (.tuple #[.agg #[.string r1, .bool r2, .string r3, .string r4], .int .i64 r5, .bool r6]) ∧ Below w.heap.size w w' := by
  unfold smithyref06_at.f at h
  by_cases c : a0.size ≤ 2305843009213693952 ∧ 0 ≤ a1 ∧ a1 ≤ (a0.size : Int)
  · rw [if_pos c] at h
    obtain ⟨c1, c2, c3⟩ := c
    obtain ⟨i, rfl⟩ : ∃ i : Nat, a1 = (i : Int) := ⟨a1.toNat, by omega⟩
    have hc := at_calls a0 i w c1 (by omega)
    rw [Int.toNat_natCast] at h
    simp only [Option.some.injEq, Prod.mk.injEq] at h
    obtain ⟨rfl, rfl, rfl, rfl, rfl, rfl⟩ := h
    exact hc
  · rw [if_neg c] at h
    cases h
end Go.Proofs.YtadfbbjplgbakaaGreat.PX
