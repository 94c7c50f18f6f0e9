/- Plain: macro.Check and its reference come to the same; an escaped text becomes the text; what every law of the layer reads. -/
import Derived.Test.YtadfbbjplgbakaaDoorExpCk
import Derived.Test.YtadfbbjplgbakaaDoorExpEs
import Derived.Test.YtadfbbjplgbakaaDoorExp6
import Derived.Test.YtadfbbjplgbakaaDoorNames2X
import Derived.Test.YtadfbbjplgbakaaDoorPXx0
import Derived.Test.YtadfbbjplgbakaaDoorPXx1
import Derived.Test.YtadfbbjplgbakaaDoorPXx2
import Derived.Test.YtadfbbjplgbakaaDoorPXx3
import Derived.Test.YtadfbbjplgbakaaDoorPXx9
namespace Go.Proofs.YtadfbbjplgbakaaDoor.Plain
open Go Go.RowKit Go.Proofs.YtadfbbjplgbakaaDoorW.PrintWords Go.Proofs.YtadfbbjplgbakaaDoor.PX Go.Proofs.YtadfbbjplgbakaaDoor.Exp
set_option linter.unusedVariables false

set_option maxRecDepth 100000 in
theorem speaks_ev : Ev (fun k => smithylaw06_speaks.f k) true := Ev.of (fun k => smithylaw06_speaks.mono k) (k := 12) (by decide +kernel)

/-! ### an escaped text -/
theorem ahead_front (p r : List UInt8) (h : 36 ∉ p) : aheadB 36 (p ++ 36 :: r) = p := by
  unfold aheadB
  induction p with
  | nil => rfl
  | cons c t ih =>
    have hc : c ≠ 36 := fun e => h (by rw [e]; exact List.mem_cons_self ..)
    rw [List.cons_append, List.takeWhile_cons, if_pos (by simpa using hc), ih (fun hm => h (List.mem_cons_of_mem _ hm))]
theorem TX_last (E : Env) (u : List (List UInt8)) (n : Nat) (out l : List UInt8) (h : 36 ∉ l) (hl : (out ++ l).length ≤ 8192) : TX E u n out l = .ok (out ++ l) n := by
  rw [TX_eq]
  by_cases h0 : l = []
  · rw [if_pos h0, h0, List.append_nil]
  · rw [if_neg h0, ahead_all 36 l h, if_neg (by omega), if_pos (List.drop_length ..)]
theorem TX_esc (E : Env) (u : List (List UInt8)) : ∀ (d : Nat) (l : List UInt8) (n : Nat) (out : List UInt8), l.length ≤ d → (out ++ l).length ≤ 8192 → n + l.count 36 ≤ 4096 → TX E u n out (escL l) = .ok (out ++ l) (n + l.count 36)
  | 0, l, n, out, hd, hl, hn => by
    obtain rfl : l = [] := List.eq_nil_of_length_eq_zero (by omega)
    exact TX_last E u n out [] (by simp) hl
  | d + 1, l, n, out, hd, hl, hn => by
    by_cases hm : 36 ∈ l
    · have hcs := count_split l hm
      have hsp := split36 l hm
      have hes := escL_split l hm
      have hna := ahead_not 36 l
      obtain ⟨p, hp⟩ : ∃ p, aheadB 36 l = p := ⟨_, rfl⟩
      obtain ⟨r, hr⟩ : ∃ r, behindB 36 l = r := ⟨_, rfl⟩
      rw [hp, hr] at hsp hes
      rw [hr] at hcs
      rw [hp] at hna
      have hlen : l.length = p.length + 1 + r.length := by rw [hsp]; simp; omega
      have hol : (out ++ l).length = out.length + p.length + 1 + r.length := by rw [List.length_append, hlen]; omega
      have e1 : escL l = p ++ 36 :: (36 :: escL r) := by rw [hes]; simp
      have e2 : (escL l).drop p.length = 36 :: 36 :: escL r := by rw [e1, List.drop_left]
      have e3 : rdX (36 :: 36 :: escL r) = (⟨[36], false, [], [], 2⟩, true) := by
        unfold rdX
        exact if_pos (Or.inl rfl)
      have ha : aheadB 36 (escL l) = p := by rw [e1]; exact ahead_front _ _ hna
      rw [TX_eq, if_neg (by rw [e1]; simp), ha, if_neg (by rw [List.length_append]; omega), e2, if_neg (by simp), e3, if_neg (by decide), if_neg (by omega)]
      have e4 : stp E (fun u n l => TX E u n [] l) u (n + 1) ⟨[36], false, [], [], 2⟩ = .ok [36] (n + 1) := if_pos rfl
      simp only [e4, Res.then]
      rw [if_neg (by simp only [List.length_append, List.length_cons, List.length_nil]; omega)]
      have e5 : (36 :: 36 :: escL r).drop 2 = escL r := rfl
      rw [e5, TX_esc E u d r (n + 1) (out ++ p ++ [36]) (by omega) (by simp only [List.length_append, List.length_cons, List.length_nil]; omega) (by omega)]
      have e6 : out ++ p ++ [36] ++ r = out ++ l := by rw [hsp]; simp
      rw [e6, hcs]
      congr 1
      omega
    · rw [escL_none l hm, TX_last E u n out l hm hl, List.count_eq_zero.2 hm]; rfl
/-- Text at an escaped text. -/
theorem outT_esc (M : List Mac) (t : ByteArray) (h1 : t.size ≤ 8192) (h2 : (L t).count 36 ≤ 4096) : outT M 0 (B (escL (L t))) = (t, 0) := by
  have hz := size_L t
  have hle := escL_len (L t)
  have hs : (B (escL (L t))).size ≤ 65536 := by rw [size_L, L_B, hle]; omega
  have ha : askE 0 (B (escL (L t))) = 0 := by unfold askE; rw [if_pos rfl, if_pos hs]
  unfold outT
  rw [if_pos ha, L_B, TX_esc (envM M) [] (L t).length (L t) 0 [] (Nat.le_refl _) (by simp; omega) (by omega)]
  rfl

/-! ### Check -/
/-- What is wrong with a macro. -/
def oneV (x : Mac) : Int := if namL (L x.f0) = true then (if 0 ≤ x.f2 ∧ x.f2 ≤ 2 then (if x.f1.size ≤ 8192 then 0 else 41) else 51) else 50
theorem one_ev (x : Mac) (hs : x.f0.size ≤ 9223372036854775807) : Ev (fun k => macro_one.f k x.f0 x.f1 x.f2) (oneV x) := by
  have hn : macro_Name.f x.f0 = some (namL (L x.f0)) := by unfold macro_Name.f; rw [if_pos hs, name_eq]
  have hj : ∀ b, Ev (fun k => macro_one.j0 k b x.f0 x.f1 x.f2) (if b = true then 51 else if x.f1.size ≤ 8192 then 0 else 41) := fun b => by
    refine Ev.step (fun _ => rfl) ?_
    refine ev_ite (fun _ => Ev.now _) (fun _ => ?_)
    by_cases h : x.f1.size ≤ 8192
    · rw [if_pos h]; exact ev_neg (by omega) (Ev.now _)
    · rw [if_neg h]; exact ev_pos (by omega) (Ev.now _)
  unfold oneV macro_one.f
  refine ev_const hn (ev_ite (fun _ => ?_) (fun _ => Ev.now _))
  by_cases h0 : x.f2 < 0
  · rw [if_neg (by omega)]
    exact ev_pos h0 (hj true)
  · refine ev_neg h0 (ev_eq (hj _) ?_)
    by_cases h2 : x.f2 > 2
    · rw [decide_eq_true h2, if_pos rfl, if_neg (by omega)]
    · rw [decide_eq_false h2, if_neg (by decide), if_pos (show 0 ≤ x.f2 ∧ x.f2 ≤ 2 by omega)]
theorem rname_loop (s : ByteArray) (hs : s.size ≤ 4611686018427387904) : ∀ (d i : Nat), i + d = s.size → Ev (fun k => smithyref05_Name.l0 k s (i : Int)) (((L s).drop i).all namB)
  | 0, i, hi => by
    refine Ev.step (fun _ => rfl) (ev_neg (by omega) (ev_some ?_))
    rw [List.drop_eq_nil_of_le (by rw [← size_L]; omega)]; rfl
  | d + 1, i, hi => by
    have hlt : i < (L s).length := by rw [← size_L]; omega
    obtain ⟨c, hc⟩ : ∃ c, (L s)[i]? = some c := ⟨_, List.getElem?_eq_getElem hlt⟩
    have hb : bt s (i : Int) = (c.toNat : Int) := bt_at_L hc
    have hd : (L s).drop i = c :: (L s).drop (i + 1) := by
      rw [List.drop_eq_getElem_cons hlt, (List.getElem?_eq_some_iff.1 hc).2]
    have ih := rname_loop s hs d (i + 1) (by omega)
    have hw : wrap64 ((i : Int) + 1) = ((i + 1 : Nat) : Int) := by rw [wrap_id (by omega) (by omega)]; omega
    have c95 : ((c.toNat : Int) = 95) ↔ c = 95 := ⟨fun h => u8_eq.1 (Int.ofNat.inj h), fun h => by subst h; rfl⟩
    have c46 : ((c.toNat : Int) = 46) ↔ c = 46 := ⟨fun h => u8_eq.1 (Int.ofNat.inj h), fun h => by subst h; rfl⟩
    rw [hd, List.all_cons]
    refine Ev.step (fun _ => rfl) (ev_pos (by omega) (ev_pos (by omega) ?_))
    rw [hb, hw]
    have yes : namB c = true → Ev (fun k => smithyref05_Name.l0 k s ((i + 1 : Nat) : Int)) (namB c && ((L s).drop (i + 1)).all namB) := fun h => by rw [h, Bool.true_and]; exact ih
    have no : namB c = false → Ev (fun _ => some false) (namB c && ((L s).drop (i + 1)).all namB) := fun h => by rw [h, Bool.false_and]; exact Ev.now _
    have hnam : namB c = (decide (65 ≤ c.toNat) && decide (c.toNat ≤ 90) || decide (97 ≤ c.toNat) && decide (c.toNat ≤ 122) || decide (48 ≤ c.toNat) && decide (c.toNat ≤ 57) || c == 95 || c == 46) := rfl
    have last : ¬ (65 ≤ c.toNat ∧ c.toNat ≤ 90) → ¬ (97 ≤ c.toNat ∧ c.toNat ≤ 122) → ¬ (48 ≤ c.toNat ∧ c.toNat ≤ 57) → Ev (fun k => if (c.toNat : Int) = 95 then smithyref05_Name.l0 k s ((i + 1 : Nat) : Int) else if (c.toNat : Int) = 46 then smithyref05_Name.l0 k s ((i + 1 : Nat) : Int) else some false) (namB c && ((L s).drop (i + 1)).all namB) := fun h1 h2 h3 => by
      refine ev_ite2 (fun h => yes ?_) (fun h => ev_ite2 (fun h' => yes ?_) (fun h' => no ?_))
      · have := c95.1 h; rw [this]; rfl
      · have := c46.1 h'; rw [this]; rfl
      · rw [hnam]
        have h5 : (c == 95) = false := beq_eq_false_iff_ne.2 (fun e => h (c95.2 e))
        have h6 : (c == 46) = false := beq_eq_false_iff_ne.2 (fun e => h' (c46.2 e))
        rw [h5, h6]
        simp only [Bool.or_false, Bool.or_eq_false_iff, Bool.and_eq_false_iff, decide_eq_false_iff_not]
        omega
    have dig : ¬ (65 ≤ c.toNat ∧ c.toNat ≤ 90) → ¬ (97 ≤ c.toNat ∧ c.toNat ≤ 122) → Ev (fun k => if (c.toNat : Int) ≥ 48 then (if (c.toNat : Int) ≤ 57 then smithyref05_Name.l0 k s ((i + 1 : Nat) : Int) else if (c.toNat : Int) = 95 then smithyref05_Name.l0 k s ((i + 1 : Nat) : Int) else if (c.toNat : Int) = 46 then smithyref05_Name.l0 k s ((i + 1 : Nat) : Int) else some false) else if (c.toNat : Int) = 95 then smithyref05_Name.l0 k s ((i + 1 : Nat) : Int) else if (c.toNat : Int) = 46 then smithyref05_Name.l0 k s ((i + 1 : Nat) : Int) else some false) (namB c && ((L s).drop (i + 1)).all namB) := fun h1 h2 => by
      refine ev_ite2 (fun h => ev_ite2 (fun h' => yes ?_) (fun h' => last h1 h2 (by omega))) (fun h => last h1 h2 (by omega))
      rw [hnam]; simp; omega
    have low : ¬ (65 ≤ c.toNat ∧ c.toNat ≤ 90) → Ev (fun k => if (c.toNat : Int) ≥ 97 then (if (c.toNat : Int) ≤ 122 then smithyref05_Name.l0 k s ((i + 1 : Nat) : Int) else if (c.toNat : Int) ≥ 48 then (if (c.toNat : Int) ≤ 57 then smithyref05_Name.l0 k s ((i + 1 : Nat) : Int) else if (c.toNat : Int) = 95 then smithyref05_Name.l0 k s ((i + 1 : Nat) : Int) else if (c.toNat : Int) = 46 then smithyref05_Name.l0 k s ((i + 1 : Nat) : Int) else some false) else if (c.toNat : Int) = 95 then smithyref05_Name.l0 k s ((i + 1 : Nat) : Int) else if (c.toNat : Int) = 46 then smithyref05_Name.l0 k s ((i + 1 : Nat) : Int) else some false) else if (c.toNat : Int) ≥ 48 then (if (c.toNat : Int) ≤ 57 then smithyref05_Name.l0 k s ((i + 1 : Nat) : Int) else if (c.toNat : Int) = 95 then smithyref05_Name.l0 k s ((i + 1 : Nat) : Int) else if (c.toNat : Int) = 46 then smithyref05_Name.l0 k s ((i + 1 : Nat) : Int) else some false) else if (c.toNat : Int) = 95 then smithyref05_Name.l0 k s ((i + 1 : Nat) : Int) else if (c.toNat : Int) = 46 then smithyref05_Name.l0 k s ((i + 1 : Nat) : Int) else some false) (namB c && ((L s).drop (i + 1)).all namB) := fun h1 => by
      refine ev_ite2 (fun h => ev_ite2 (fun h' => yes ?_) (fun h' => dig h1 (by omega))) (fun h => dig h1 (by omega))
      rw [hnam]; simp; omega
    refine ev_ite2 (fun h => ev_ite2 (fun h' => yes ?_) (fun h' => low (by omega))) (fun h => low (by omega))
    rw [hnam]; simp; omega
theorem rname_ev (s : ByteArray) (hs : s.size ≤ 4611686018427387904) : Ev (fun k => smithyref05_Name.f k s) (namL (L s)) := by
  have hj : ∀ b, Ev (fun k => smithyref05_Name.j0 k s b) (if b = true then false else (L s).all namB) := fun b => by
    refine Ev.step (fun _ => rfl) (ev_ite (fun _ => Ev.now _) (fun _ => ?_))
    have := rname_loop s hs s.size 0 (by omega)
    rw [List.drop_zero] at this
    exact this
  unfold namL
  rw [← size_L]
  by_cases h1 : (s.size : Int) < 1
  · refine ev_pos h1 (ev_eq (hj true) ?_)
    rw [if_pos rfl, decide_eq_false (by omega)]; rfl
  · refine ev_neg h1 (ev_eq (hj _) ?_)
    by_cases h2 : (s.size : Int) > 64
    · rw [decide_eq_true h2, if_pos rfl, decide_eq_true (show 0 < s.size by omega), decide_eq_false (show ¬ s.size ≤ 64 by omega)]; rfl
    · rw [decide_eq_false h2, if_neg (by decide), decide_eq_true (show 0 < s.size by omega), decide_eq_true (show s.size ≤ 64 by omega)]; rfl
theorem rone_ev (x : Mac) (hs : x.f0.size ≤ 4611686018427387904) : Ev (fun k => smithyref05_One.f k x.f0 x.f1 x.f2) (oneV x) := by
  have hj : ∀ b, Ev (fun k => smithyref05_One.j0 k b x.f0 x.f1 x.f2) (if b = true then 51 else if x.f1.size ≤ 8192 then 0 else 41) := fun b => by
    refine Ev.step (fun _ => rfl) ?_
    refine ev_ite (fun _ => Ev.now _) (fun _ => ?_)
    by_cases h : x.f1.size ≤ 8192
    · rw [if_pos h]; exact ev_neg (by omega) (Ev.now _)
    · rw [if_neg h]; exact ev_pos (by omega) (Ev.now _)
  unfold oneV smithyref05_One.f
  refine Ev.bind (rname_ev x.f0 hs) (ev_ite (fun _ => ?_) (fun _ => Ev.now _))
  by_cases h0 : x.f2 < 0
  · rw [if_neg (by omega)]
    exact ev_pos h0 (hj true)
  · refine ev_neg h0 (ev_eq (hj _) ?_)
    by_cases h2 : x.f2 > 2
    · rw [decide_eq_true h2, if_pos rfl, if_neg (by omega)]
    · rw [decide_eq_false h2, if_neg (by decide), if_pos (show 0 ≤ x.f2 ∧ x.f2 ≤ 2 by omega)]
/-- What is wrong with some macros, the first of them. -/
def onesV : List Mac → Int
  | [] => 0
  | x :: t => if oneV x = 0 then onesV t else oneV x
/-- Do the names rise, d of them from i on? -/
def riseI (M : List Mac) : Nat → Nat → Bool
  | 0, _ => true
  | d + 1, i => (i == 0 || Op.bytesLess (M.getD (i - 1) zM).f0.toList (M.getD i zM).f0.toList) && riseI M d (i + 1)
/-- What is wrong with a list of macros. -/
def chkV (M : List Mac) : Int := if M.length ≤ 256 then (if onesV M = 0 then (if riseI M M.length 0 = true then 0 else 5) else onesV M) else 2
theorem less_cmp : ∀ (a b : List UInt8), Op.bytesLess a b = decide (Lib.compareBytes a b < 0)
  | [], [] => rfl
  | [], _ :: _ => rfl
  | _ :: _, [] => rfl
  | a :: x, b :: y => by
    unfold Op.bytesLess Lib.compareBytes
    rw [less_cmp x y]
    by_cases h1 : a < b
    · rw [decide_eq_true h1, if_pos h1]; rfl
    · rw [decide_eq_false h1, if_neg h1, Bool.false_or]
      by_cases h2 : b < a
      · rw [if_pos h2]
        have : (a == b) = false := beq_eq_false_iff_ne.2 (fun e => by subst e; exact h1 h2)
        rw [this]; rfl
      · rw [if_neg h2]
        have : a = b := UInt8.toNat_inj.1 (Nat.le_antisymm (Nat.le_of_not_lt (fun h => h2 h)) (Nat.le_of_not_lt (fun h => h1 h)))
        rw [this]; simp
theorem rdM_getD (M : List Mac) (i : Nat) : rd_T43 M (i : Int) = M.getD i zM := by
  unfold rd_T43
  rw [Int.toNat_natCast]
  rfl
theorem l1_ev (M : List Mac) (hM : M.length ≤ 256) : ∀ (d i : Nat), i + d = M.length → Ev (fun k => macro_Check.l1 k M (M.length : Int) (i : Int)) (if riseI M d i = true then 0 else 5)
  | 0, i, hi => Ev.step (fun _ => rfl) (ev_neg (by omega) (ev_some rfl))
  | d + 1, i, hi => by
    have ih := l1_ev M hM d (i + 1) (by omega)
    have hw : wrap64 ((i : Int) + 1) = ((i + 1 : Nat) : Int) := by rw [wrap_id (by omega) (by omega)]; omega
    refine Ev.step (fun _ => rfl) (ev_pos (by omega) ?_)
    by_cases h0 : i = 0
    · subst h0
      refine ev_neg (by omega) ?_
      rw [hw]
      exact ih
    · have hw2 : wrap64 ((i : Int) - 1) = ((i - 1 : Nat) : Int) := by rw [wrap_id (by omega) (by omega)]; omega
      refine ev_pos (by omega) ?_
      rw [hw2, hw, rdM_getD, rdM_getD]
      refine ev_pos (by omega) (ev_pos (by omega) (ev_pos (by omega) (ev_pos (by omega) ?_)))
      have hc : macro_byName.f (M.getD (i - 1) zM).f0 (M.getD (i - 1) zM).f1 (M.getD (i - 1) zM).f2 (M.getD i zM).f0 (M.getD i zM).f1 (M.getD i zM).f2 = some (Lib.compareBytes (L (M.getD (i - 1) zM).f0) (L (M.getD i zM).f0)) := rfl
      have hl : riseI M (d + 1) i = (decide (Lib.compareBytes (L (M.getD (i - 1) zM).f0) (L (M.getD i zM).f0) < 0) && riseI M d (i + 1)) := by
        show ((i == 0 || _) && _) = _
        rw [beq_eq_false_iff_ne.2 h0, Bool.false_or, less_cmp, toList_L, toList_L]
      rw [hl]
      refine ev_const hc ?_
      by_cases hcmp : Lib.compareBytes (L (M.getD (i - 1) zM).f0) (L (M.getD i zM).f0) < 0
      · rw [decide_eq_true hcmp, Bool.true_and]
        exact ev_neg (by omega) ih
      · rw [decide_eq_false hcmp, Bool.false_and, if_neg (by decide)]
        exact ev_pos (by omega) (Ev.now _)
theorem l0_ev (M : List Mac) (hM : M.length ≤ 256) (hs : ∀ x ∈ M, x.f0.size ≤ 4611686018427387904) (e : Int) (he : Ev (fun k => macro_Check.l1 k M (M.length : Int) 0) e) : ∀ (d i : Nat), i + d = M.length → Ev (fun k => macro_Check.l0 k M M (M.length : Int) (i : Int)) (if onesV (M.drop i) = 0 then e else onesV (M.drop i))
  | 0, i, hi => by
    rw [List.drop_eq_nil_of_le (by omega)]
    exact Ev.step (fun _ => rfl) (ev_neg (by omega) he)
  | d + 1, i, hi => by
    have hlt : i < M.length := by omega
    have ih := l0_ev M hM hs e he d (i + 1) (by omega)
    have hw : wrap64 ((i : Int) + 1) = ((i + 1 : Nat) : Int) := by rw [wrap_id (by omega) (by omega)]; omega
    have hd := drop_cons hlt
    refine Ev.step (fun _ => rfl) (ev_pos (by omega) (ev_pos (by omega) (ev_pos (by omega) ?_)))
    rw [rdM_at (List.getElem?_eq_getElem hlt), hw, hd]
    refine Ev.bind (one_ev M[i] (Nat.le_trans (hs _ (List.getElem_mem hlt)) (by decide))) ?_
    show Ev _ (if (if oneV M[i] = 0 then onesV (M.drop (i + 1)) else oneV M[i]) = 0 then e else (if oneV M[i] = 0 then onesV (M.drop (i + 1)) else oneV M[i]))
    by_cases h1 : oneV M[i] = 0
    · rw [if_pos h1]; exact ev_pos h1 ih
    · rw [if_neg h1, if_neg h1]; exact ev_neg h1 (Ev.now _)
theorem check_ev (M : List Mac) (hs : ∀ x ∈ M, x.f0.size ≤ 4611686018427387904) : Ev (fun k => macro_Check.f k M) (chkV M) := by
  unfold chkV macro_Check.f
  by_cases h : M.length ≤ 256
  · rw [if_pos h]
    refine ev_neg (by omega) ?_
    exact l0_ev M h hs _ (l1_ev M h M.length 0 (by omega)) M.length 0 (by omega)
  · rw [if_neg h]
    exact ev_pos (by omega) (Ev.now _)
theorem rl1_ev (M : List Mac) (hM : M.length ≤ 256) : ∀ (d i : Nat), i + d = M.length → 0 < i → Ev (fun k => smithyref05_Check.l1 k M (i : Int)) (if riseI M d i = true then 0 else 5)
  | 0, i, hi, _ => Ev.step (fun _ => rfl) (ev_neg (by omega) (ev_some rfl))
  | d + 1, i, hi, h0 => by
    have ih := rl1_ev M hM d (i + 1) (by omega) (by omega)
    have hw : wrap64 ((i : Int) + 1) = ((i + 1 : Nat) : Int) := by rw [wrap_id (by omega) (by omega)]; omega
    have hw2 : wrap64 ((i : Int) - 1) = ((i - 1 : Nat) : Int) := by rw [wrap_id (by omega) (by omega)]; omega
    refine Ev.step (fun _ => rfl) (ev_pos (by omega) ?_)
    rw [hw2, hw, rdM_getD, rdM_getD]
    refine ev_pos (by omega) (ev_pos (by omega) (ev_pos (by omega) ?_))
    have hl : riseI M (d + 1) i = (Op.bytesLess (M.getD (i - 1) zM).f0.toList (M.getD i zM).f0.toList && riseI M d (i + 1)) := by
      show ((i == 0 || _) && _) = _
      rw [beq_eq_false_iff_ne.2 (by omega), Bool.false_or]
    rw [hl]
    by_cases hc : Op.bytesLess (M.getD (i - 1) zM).f0.toList (M.getD i zM).f0.toList = true
    · rw [hc, Bool.true_and]; exact ev_pos rfl ih
    · have hc' : Op.bytesLess (M.getD (i - 1) zM).f0.toList (M.getD i zM).f0.toList = false := by simpa using hc
      rw [hc', Bool.false_and, if_neg (by decide)]
      exact ev_neg (by decide) (Ev.now _)
theorem rl0_ev (M : List Mac) (hM : M.length ≤ 256) (hs : ∀ x ∈ M, x.f0.size ≤ 4611686018427387904) (e : Int) (he : Ev (fun k => smithyref05_Check.l1 k M 1) e) : ∀ (d i : Nat), i + d = M.length → Ev (fun k => smithyref05_Check.l0 k M M (M.length : Int) (i : Int)) (if onesV (M.drop i) = 0 then e else onesV (M.drop i))
  | 0, i, hi => by
    rw [List.drop_eq_nil_of_le (by omega)]
    exact Ev.step (fun _ => rfl) (ev_neg (by omega) he)
  | d + 1, i, hi => by
    have hlt : i < M.length := by omega
    have ih := rl0_ev M hM hs e he d (i + 1) (by omega)
    have hw : wrap64 ((i : Int) + 1) = ((i + 1 : Nat) : Int) := by rw [wrap_id (by omega) (by omega)]; omega
    have hd := drop_cons hlt
    refine Ev.step (fun _ => rfl) (ev_pos (by omega) (ev_pos (by omega) (ev_pos (by omega) ?_)))
    rw [rdM_at (List.getElem?_eq_getElem hlt), hw, hd]
    refine Ev.bind (rone_ev M[i] (hs _ (List.getElem_mem hlt))) ?_
    show Ev _ (if (if oneV M[i] = 0 then onesV (M.drop (i + 1)) else oneV M[i]) = 0 then e else (if oneV M[i] = 0 then onesV (M.drop (i + 1)) else oneV M[i]))
    by_cases h1 : oneV M[i] = 0
    · rw [if_pos h1]; exact ev_pos h1 ih
    · rw [if_neg h1, if_neg h1]; exact ev_neg h1 (Ev.now _)
theorem rcheck_ev (M : List Mac) (hs : ∀ x ∈ M, x.f0.size ≤ 4611686018427387904) : Ev (fun k => smithyref05_Check.f k M) (chkV M) := by
  unfold chkV smithyref05_Check.f
  by_cases h : M.length ≤ 256
  · rw [if_pos h]
    refine ev_neg (by omega) ?_
    refine rl0_ev M h hs _ ?_ M.length 0 (by omega)
    by_cases h0 : M.length = 0
    · obtain rfl := List.eq_nil_of_length_eq_zero h0
      exact Ev.step (fun _ => rfl) (ev_neg (by decide) (ev_some rfl))
    · obtain ⟨d, hd⟩ : ∃ d, M.length = d + 1 := ⟨M.length - 1, by omega⟩
      have := rl1_ev M h d 1 (by omega) (by decide)
      have hr : riseI M M.length 0 = riseI M d 1 := by rw [hd]; rfl
      rw [hr]
      exact this
  · rw [if_neg h]
    exact ev_pos (by omega) (Ev.now _)
end Go.Proofs.YtadfbbjplgbakaaDoor.Plain
