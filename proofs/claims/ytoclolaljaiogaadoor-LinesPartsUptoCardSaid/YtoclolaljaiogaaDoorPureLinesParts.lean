/- For every two texts, the first of which ends a line: what Split tells of both, one behind the other, is what it tells of each. -/
import Derived.Test.YtoclolaljaiogaaDoorLineT
import Derived.Test.YtoclolaljaiogaaDoorPXx0
import Derived.Test.YtoclolaljaiogaaDoorPXx2
import Derived.Test.YtoclolaljaiogaaDoorPXx4
import Derived.Test.YtoclolaljaiogaaDoorPXx13
set_option linter.unusedVariables false
set_option linter.unusedSimpArgs false
namespace Go.Proofs.YtoclolaljaiogaaDoor.Pure
open Go.RowKit Go.Proofs.YtoclolaljaiogaaDoor.PX Go.Proofs.YtoclolaljaiogaaDoorW.PrintWords Go.Proofs.YtoclolaljaiogaaDoor.Plain

theorem nm_m2 : Ev (fun k => lines_named.f k ⟨#[109]⟩) true := Ev.of (fun k => lines_named.mono _ k) (k := 10) (by decide +kernel)
theorem split_m (u : ByteArray) (hu : u.size ≤ 4611686018427387904) : Ev (fun k => lines_Split.f k ⟨#[109]⟩ u) (splitL ⟨#[109]⟩ u true) := by
  obtain ⟨nm', _, q2, f3, _⟩ := split_ev ⟨#[109]⟩ u (by decide) hu
  obtain rfl := ev_uniq nm_m2 q2
  exact f3
theorem splitT (n t : ByteArray) (h : t.size ≤ 65536) : splitL n t true = if wrongL (phys (L t)) = 0 then ((logicL (phys (L t))).map (mkS n), 0, 0) else ([], 40, ((wrongL (phys (L t)) : Nat) : Int)) := by
  unfold splitL
  rw [if_pos rfl, if_neg (by omega)]
theorem lastOk_of : ∀ (xs : List (List UInt8)) (x : List UInt8), (∀ y, (x :: xs).getLast? = some y → cont y = false) → lastOk x xs = true
  | [], x, h => by
    have := h x rfl
    simp [lastOk, this]
  | y :: ys, x, h => by
    show lastOk y ys = true
    refine lastOk_of ys y (fun z hz => h z ?_)
    rw [List.getLast?_cons_cons]; exact hz
def bump (m : Int) (x : S37) : S37 := ⟨x.f0, x.f1 + m, x.f2, x.f3⟩
theorem phys_two {a b : List UInt8} (h : a = [] ∨ a.getLast? = some 10) : phys (a ++ b) = phys a ++ phys b := by
  rcases h with rfl | h
  · rfl
  · obtain ⟨t, rfl⟩ : ∃ t, a = t ++ [10] := ⟨a.dropLast, by
      have hne : a ≠ [] := fun e => by rw [e] at h; cases h
      have h2 := List.dropLast_concat_getLast hne
      rw [List.getLast?_eq_some_getLast hne] at h
      rw [Option.some.inj h] at h2
      exact h2.symm⟩
    exact phys_append t b
theorem logic_two (xs ys : List (List UInt8)) (h : ∀ x, xs.getLast? = some x → cont x = false) : logicL (xs ++ ys) = logicL xs ++ (logicL ys).map (shift xs.length) := by
  cases xs with
  | nil =>
    rw [List.nil_append]
    show _ = [] ++ _
    rw [List.nil_append]
    conv => lhs; rw [← List.map_id (logicL ys)]
    exact List.map_congr_left (fun x _ => rfl)
  | cons x xs => exact logic_append x xs ys (lastOk_of xs x h)
theorem mk_shift (n : ByteArray) (m : Nat) (x : Ln) : mkS n (shift m x) = bump (m : Int) (mkS n x) := by
  unfold mkS shift bump
  simp
theorem rd37 {l : List S37} {i : Nat} {x : S37} (h : l[i]? = some x) : rd_T37 l (i : Int) = x := by
  unfold rd_T37
  rw [Int.toNat_natCast, List.getD_eq_getElem?_getD, h]; rfl
theorem parts_cmp (ls : List ByteArray) (F G : List S37) (hF : F.length ≤ 65536) (hG : G.length ≤ 65536) (hl : ls.length ≤ 65536) (hg : ∀ x ∈ G, 0 ≤ x.f1 ∧ x.f1 ≤ 65536) :
    ∀ (d i : Nat), i + d = (F ++ G.map (bump ls.length)).length → Ev (fun k => smithylaw04_LinesParts.l0 k ls F G (F ++ G.map (bump ls.length)) (i : Int)) true
  | 0, i, hi => Ev.step (fun _ => rfl) (ev_neg (by omega) (Ev.bind small_ev (ev_some rfl)))
  | d + 1, i, hi => by
    have hlen : (F ++ G.map (bump ls.length)).length = F.length + G.length := by rw [List.length_append, List.length_map]
    have ih := parts_cmp ls F G hF hG hl hg d (i + 1) (by omega)
    refine Ev.step (fun _ => rfl) (ev_pos (by omega) ?_)
    rw [wrap_1 (by omega)]
    by_cases h : i < F.length
    · obtain ⟨x, hx⟩ : ∃ x, F[i]? = some x := ⟨_, List.getElem?_eq_getElem h⟩
      have h1 : rd_T37 F (i : Int) = x := rd37 hx
      have h2 : rd_T37 (F ++ G.map (bump ls.length)) (i : Int) = x := rd37 (by rw [List.getElem?_append_left h, hx])
      refine ev_pos (by omega) (ev_pos (by omega) (ev_neg ?_ ih))
      rw [h1, h2]
      simp
    · obtain ⟨x, hx⟩ : ∃ x, G[i - F.length]? = some x := ⟨_, List.getElem?_eq_getElem (by omega)⟩
      have hw : wrap64 ((i : Int) - (F.length : Int)) = ((i - F.length : Nat) : Int) := by rw [wrap_id (by omega) (by omega)]; omega
      have h1 : rd_T37 G ((i - F.length : Nat) : Int) = x := rd37 hx
      have h2 : rd_T37 (F ++ G.map (bump ls.length)) (i : Int) = bump ls.length x := rd37 (by rw [List.getElem?_append_right (by omega), List.getElem?_map, hx]; rfl)
      have hb := hg x (List.mem_of_getElem? hx)
      have h3 : wrap64 (x.f1 + (ls.length : Int)) = x.f1 + (ls.length : Int) := wrap_id (by omega) (by omega)
      refine ev_neg (by omega) ?_
      rw [hw]
      refine ev_pos (by omega) (ev_pos (by omega) (ev_pos (by omega) (ev_neg ?_ ih)))
      rw [h1, h2, h3]
      simp [bump]
theorem parts_j1 (a b : ByteArray) (hs : a.size + b.size ≤ 65536) (h10 : L a = [] ∨ (L a).getLast? = some 10) (hc : ∀ x, (phys (L a)).getLast? = some x → cont x = false) :
    Ev (fun k => smithylaw04_LinesParts.j1 k a b ((phys (L a)).map B)) true := by
  have hab : (a ++ b).size = a.size + b.size := ByteArray.size_append
  refine Ev.step (fun _ => rfl) (Ev.bind (split_m a (by omega)) (Ev.bind (split_m b (by omega)) (ev_pos (by omega) (Ev.bind (split_m (a ++ b) (by omega)) ?_))))
  rw [splitT _ a (by omega), splitT _ b (by omega), splitT _ (a ++ b) (by omega), L_append, phys_two h10]
  have hw : wrongL (phys (L a) ++ phys (L b)) = 0 ↔ wrongL (phys (L a)) = 0 ∧ wrongL (phys (L b)) = 0 := by
    rw [wrongL_zero, wrongL_zero, wrongL_zero]
    constructor
    · intro h; exact ⟨fun x hx => h x (List.mem_append_left _ hx), fun x hx => h x (List.mem_append_right _ hx)⟩
    · rintro ⟨h1, h2⟩ x hx
      rcases List.mem_append.1 hx with h | h
      · exact h1 x h
      · exact h2 x h
  have stop : ∀ (z : Bool) (F G : List S37) (c : Int), z = true → c ≠ 0 → Ev (fun k => smithylaw04_LinesParts.j2 k ((phys (L a)).map B) F G [] c z) true := fun z F G c hz hc =>
    Ev.step (fun _ => rfl) (ev_pos hz (ev_neg hc (ev_pos rfl (Ev.bind small_ev (ev_some rfl)))))
  by_cases ha : wrongL (phys (L a)) = 0
  · rw [if_pos ha]
    by_cases hb : wrongL (phys (L b)) = 0
    · rw [if_pos hb, if_pos (hw.2 ⟨ha, hb⟩), logic_two _ _ hc]
      have e : ((logicL (phys (L a)) ++ (logicL (phys (L b))).map (shift (phys (L a)).length)).map (mkS ⟨#[109]⟩)) = (logicL (phys (L a))).map (mkS ⟨#[109]⟩) ++ ((logicL (phys (L b))).map (mkS ⟨#[109]⟩)).map (bump ((phys (L a)).map B).length) := by
        rw [List.map_append, List.map_map, List.map_map, List.length_map]
        exact congrArg _ (List.map_congr_left (fun x _ => mk_shift _ _ _))
      rw [e]
      have hza := size_L a
      have hzb := size_L b
      have p1 := phys_len (L a)
      have p2 := phys_len (L b)
      have q1 := logic_len (phys (L a))
      have q2 := logic_len (phys (L b))
      have hfine := (logic_fine (fun _ => True) trivial (phys (L b)) (fun _ _ _ _ => trivial)).1
      have hls : ((phys (L a)).map B).length ≤ 65536 := by rw [List.length_map]; omega
      have hF : ((logicL (phys (L a))).map (mkS ⟨#[109]⟩)).length ≤ 65536 := by rw [List.length_map]; omega
      have hG : ((logicL (phys (L b))).map (mkS ⟨#[109]⟩)).length ≤ 65536 := by rw [List.length_map]; omega
      have hg : ∀ x ∈ (logicL (phys (L b))).map (mkS ⟨#[109]⟩), 0 ≤ x.f1 ∧ x.f1 ≤ 65536 := by
        intro x hx
        obtain ⟨y, hy, rfl⟩ := List.mem_map.1 hx
        have := hfine y hy
        unfold mkS
        constructor <;> simp <;> omega
      generalize (phys (L a)).map B = ls at *
      generalize (logicL (phys (L a))).map (mkS ⟨#[109]⟩) = F at *
      generalize (logicL (phys (L b))).map (mkS ⟨#[109]⟩) = G at *
      have j3 : ∀ z, z = false → Ev (fun k => smithylaw04_LinesParts.j3 k ls F G (F ++ G.map (bump ls.length)) z) true := fun z hz =>
        Ev.step (fun _ => rfl) (ev_neg (by rw [hz]; decide) (parts_cmp ls F G hF hG hls hg _ 0 (Nat.zero_add _)))
      have j2 : ∀ z, z = false → Ev (fun k => smithylaw04_LinesParts.j2 k ls F G (F ++ G.map (bump ls.length)) 0 z) true := fun z hz =>
        Ev.step (fun _ => rfl) (ev_neg (by rw [hz]; decide) (ev_pos rfl (j3 _ (by
          rw [wrap_id (by omega) (by omega), List.length_append, List.length_map]
          simp))))
      exact ev_pos rfl (j2 _ rfl)
    · rw [if_neg hb, if_neg (fun h => hb (hw.1 h).2)]
      exact ev_pos rfl (stop _ _ _ _ rfl (show (40 : Int) ≠ 0 by decide))
  · rw [if_neg ha, if_neg (fun h => ha (hw.1 h).1)]
    exact ev_neg (show ¬ ((40 : Int) = 0) by decide) (stop _ _ _ _ rfl (show (40 : Int) ≠ 0 by decide))
theorem parts_j0 (a b : ByteArray) (hs : a.size + b.size ≤ 65536) (h10 : L a = [] ∨ (L a).getLast? = some 10) (z : Bool) (hz : z = false) :
    Ev (fun k => smithylaw04_LinesParts.j0 k a b ((phys (L a)).map B) z) true := by
  refine Ev.step (fun _ => rfl) (ev_neg (by rw [hz]; decide) ?_)
  have hza := size_L a
  have p1 := phys_len (L a)
  cases hl : (phys (L a)).getLast? with
  | none =>
    have e : phys (L a) = [] := List.getLast?_eq_none_iff.1 hl
    refine ev_neg (by rw [e]; simp) (parts_j1 a b hs h10 (fun x hx => by rw [hl] at hx; cases hx))
  | some x =>
    have hn : 0 < (phys (L a)).length := List.length_pos_iff.2 (fun e => by rw [e] at hl; cases hl)
    have hget : (phys (L a))[(phys (L a)).length - 1]? = some x := by rw [← List.getLast?_eq_getElem?]; exact hl
    have hlm : ((phys (L a)).map B).length = (phys (L a)).length := List.length_map _
    have hw : wrap64 ((((phys (L a)).map B).length : Int) - 1) = (((phys (L a)).length - 1 : Nat) : Int) := by rw [hlm, wrap_id (by omega) (by omega)]; omega
    have hrd : rdOf ByteArray.empty ((phys (L a)).map B) (((phys (L a)).length - 1 : Nat) : Int) = B x := rdOf_at (by rw [List.getElem?_map, hget]; rfl)
    have hsm := (phys_small (t := a) (by omega)).2.2 (B x) (List.mem_map.2 ⟨x, List.mem_of_getElem? hget, rfl⟩)
    have hj1 := parts_j1 a b hs h10
    refine ev_pos (by omega) ?_
    rw [hw]
    refine ev_pos (by omega) (ev_pos (by omega) ?_)
    rw [hrd]
    refine Ev.bind (rtrim_ev (B x) (by omega)) ?_
    rw [L_B x]
    have hct := cont_trim x
    have htl : (B (trimL x)).size = (trimL x).length := size_B _
    generalize hT : trimL x = T at *
    have hTl : T.length ≤ 65536 := by
      have h := congrArg List.length hT
      have h2 := trim_len x
      have h3 := size_B x
      omega
    cases hTT : T.getLast? with
    | none =>
      have e : T = [] := List.getLast?_eq_none_iff.1 hTT
      refine ev_neg (by rw [htl, e]; simp) (hj1 (fun y hy => ?_))
      rw [hl] at hy; cases hy
      rw [← hct, hTT]; rfl
    | some c =>
      have hTn : 0 < T.length := List.length_pos_iff.2 (fun e => by rw [e] at hTT; cases hTT)
      have hTg : T[T.length - 1]? = some c := by rw [← List.getLast?_eq_getElem?]; exact hTT
      have hw2 : wrap64 (((B T).size : Int) - 1) = ((T.length - 1 : Nat) : Int) := by rw [htl, wrap_id (by omega) (by omega)]; omega
      refine ev_pos (by omega) ?_
      rw [hw2]
      refine ev_pos (by omega) (ev_pos (by omega) ?_)
      rw [bt_at_L (s := B T) (i := T.length - 1) (b := c) hTg]
      refine ev_ite2 (fun _ => Ev.bind small_ev (ev_some rfl)) (fun h92 => hj1 (fun y hy => ?_))
      rw [hl] at hy; cases hy
      rw [← hct, hTT]
      have : c ≠ 92 := fun e => h92 (by rw [e]; rfl)
      simpa using this
theorem LinesParts (a b : ByteArray) (hB : (a.size + 1) + (b.size + 1) ≤ 1048576) : ∃ k, smithylaw04_LinesParts.f k a b = some true := by
  refine Ev.rounds (r := true) ?_
  have hza := size_L a
  have stop : ∀ (z : Bool) (ls : List ByteArray), z = true → Ev (fun k => smithylaw04_LinesParts.j0 k a b ls z) true := fun z ls hz =>
    Ev.step (fun _ => rfl) (ev_pos hz (Ev.bind small_ev (ev_some rfl)))
  refine Ev.bind (rphys_ev a (by omega)) ?_
  have hw0 : wrap64 ((a.size : Int) + (b.size : Int)) = ((a.size + b.size : Nat) : Int) := by rw [wrap_id (by omega) (by omega)]; omega
  have go : (L a = [] ∨ (L a).getLast? = some 10) → Ev (fun k => smithylaw04_LinesParts.j0 k a b ((phys (L a)).map B) (decide (wrap64 ((a.size : Int) + (b.size : Int)) > 65536))) true := by
    intro h10
    obtain ⟨z, hzz⟩ : ∃ z, decide (wrap64 ((a.size : Int) + (b.size : Int)) > 65536) = z := ⟨_, rfl⟩
    rw [hzz]
    cases z with
    | true => exact stop _ _ rfl
    | false =>
      have := of_decide_eq_false hzz
      exact parts_j0 a b (by omega) h10 _ rfl
  by_cases h : (a.size : Int) > 0
  · have hw : wrap64 ((a.size : Int) - 1) = ((a.size - 1 : Nat) : Int) := by rw [wrap_id (by omega) (by omega)]; omega
    obtain ⟨c, hcg⟩ : ∃ c, (L a)[a.size - 1]? = some c := ⟨_, List.getElem?_eq_getElem (by omega)⟩
    refine ev_pos h ?_
    rw [hw]
    refine ev_pos (by omega) (ev_pos (by omega) ?_)
    rw [bt_at_L hcg]
    refine ev_ite2 (fun h10 => go (.inr ?_)) (fun _ => stop _ _ rfl)
    rw [List.getLast?_eq_getElem?, ← hza, hcg]
    have : c = 10 := by
      apply UInt8.toNat_inj.1
      have : (c.toNat : Int) = 10 := h10
      have e : (10 : UInt8).toNat = 10 := rfl
      omega
    rw [this]
  · refine ev_neg h (go (.inl ?_))
    exact List.eq_nil_of_length_eq_zero (by omega)
end Go.Proofs.YtoclolaljaiogaaDoor.Pure
