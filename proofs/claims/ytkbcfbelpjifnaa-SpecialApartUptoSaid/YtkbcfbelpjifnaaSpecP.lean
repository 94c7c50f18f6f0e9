/- special.Sort: what it asks. -/
import Derived.Test.YtkbcfbelpjifnaaSpecM
import Derived.Test.YtkbcfbelpjifnaaSpec21
import Derived.Test.YtkbcfbelpjifnaaPXx2
import Derived.Test.YtkbcfbelpjifnaaPXx4
import Derived.Test.YtkbcfbelpjifnaaSpec20
namespace Go.Proofs.Ytkbcfbelpjifnaa.Spec
open Go Go.RowKit Go.Proofs Go.Proofs.YtkbcfbelpjifnaaW.PrintWords Go.Proofs.Ytkbcfbelpjifnaa.PX Go.Proofs.Ytkbcfbelpjifnaa.Plain
set_option linter.unusedVariables false
set_option linter.unusedSimpArgs false

/-- Is a target a special one? -/
def isSp (t : ByteArray) : Bool := decide (t = sSuf) || (decide (t = sDef) || !decide (kOf t = 0))
theorem kOf_zero {t : ByteArray} : kOf t = 0 ↔ ¬ t = sPho ∧ ¬ t = sPre ∧ ¬ t = sIgn ∧ ¬ t = sSil := by
  unfold kOf
  by_cases h1 : t = sPho
  · rw [if_pos h1]; simp [h1]
  · rw [if_neg h1]
    by_cases h2 : t = sPre
    · rw [if_pos h2]; simp [h2]
    · rw [if_neg h2]
      by_cases h3 : t = sIgn
      · rw [if_pos h3]; simp [h3]
      · rw [if_neg h3]
        by_cases h4 : t = sSil
        · rw [if_pos h4]; simp [h4]
        · rw [if_neg h4]; simp [h1, h2, h3, h4]
theorem isSp_mem (t : ByteArray) (g1 g2 g3 g4 : Nat) : isSp t = true ↔ t ∈ (tbl g1 g2 g3 g4).map (·.1) := by
  unfold isSp
  simp only [tbl, List.map_cons, List.map_nil, List.mem_cons, List.not_mem_nil, or_false, Bool.or_eq_true, decide_eq_true_eq, Bool.not_eq_true', decide_eq_false_iff_not, kOf_zero]
  constructor
  · rintro (h | h | h)
    · exact Or.inl h
    · exact Or.inr (Or.inl h)
    · by_cases h1 : t = sPho
      · exact Or.inr (Or.inr (Or.inl h1))
      · by_cases h2 : t = sPre
        · exact Or.inr (Or.inr (Or.inr (Or.inl h2)))
        · by_cases h3 : t = sIgn
          · exact Or.inr (Or.inr (Or.inr (Or.inr (Or.inl h3))))
          · by_cases h4 : t = sSil
            · exact Or.inr (Or.inr (Or.inr (Or.inr (Or.inr h4))))
            · exact absurd ⟨h1, h2, h3, h4⟩ h
  · rintro (h | h | h | h | h | h)
    · exact Or.inl h
    · exact Or.inr (Or.inl h)
    · exact Or.inr (Or.inr fun q => q.1 h)
    · exact Or.inr (Or.inr fun q => q.2.1 h)
    · exact Or.inr (Or.inr fun q => q.2.2.1 h)
    · exact Or.inr (Or.inr fun q => q.2.2.2 h)
theorem tb (t : ByteArray) (l : List UInt8) (b : ByteArray) (hb : b.toList = l) : t.toList = l ↔ t = b := by rw [← hb]; exact toList_inj
theorem ris_eq (t : ByteArray) : smithyref08_Is.f t = some (isSp t) := by
  unfold smithyref08_Is.f isSp
  rw [show (([46, 83, 85, 70, 70, 73, 88, 69, 83] : List UInt8)) = sSuf.toList from (toList_L sSuf).symm ▸ rfl, show (([46, 80, 72, 79, 78, 89] : List UInt8)) = sPho.toList from (toList_L sPho).symm ▸ rfl, show (([46, 80, 82, 69, 67, 73, 79, 85, 83] : List UInt8)) = sPre.toList from (toList_L sPre).symm ▸ rfl, show (([46, 73, 71, 78, 79, 82, 69] : List UInt8)) = sIgn.toList from (toList_L sIgn).symm ▸ rfl, show (([46, 83, 73, 76, 69, 78, 84] : List UInt8)) = sSil.toList from (toList_L sSil).symm ▸ rfl, show (([46, 68, 69, 70, 65, 85, 76, 84] : List UInt8)) = sDef.toList from (toList_L sDef).symm ▸ rfl]
  simp only [toList_inj]
  by_cases h1 : t = sSuf
  · rw [if_pos h1]; simp [h1]
  · rw [if_neg h1]
    have e1 : decide (t = sSuf) = false := decide_eq_false h1
    rw [e1, Bool.false_or]
    by_cases h2 : t = sPho
    · rw [if_pos h2]
      have : ¬ kOf t = 0 := fun h => (kOf_zero.1 h).1 h2
      simp [this]
    · rw [if_neg h2]
      by_cases h3 : t = sPre
      · rw [if_pos h3]
        have : ¬ kOf t = 0 := fun h => (kOf_zero.1 h).2.1 h3
        simp [this]
      · rw [if_neg h3]
        by_cases h4 : t = sIgn
        · rw [if_pos h4]
          have : ¬ kOf t = 0 := fun h => (kOf_zero.1 h).2.2.1 h4
          simp [this]
        · rw [if_neg h4]
          by_cases h5 : t = sSil
          · rw [if_pos h5]
            have : ¬ kOf t = 0 := fun h => (kOf_zero.1 h).2.2.2 h5
            simp [this]
          · rw [if_neg h5]
            have : kOf t = 0 := kOf_zero.2 ⟨h2, h3, h4, h5⟩
            rw [decide_eq_true this, Bool.not_true, Bool.or_false]
            congr 1
            by_cases h6 : t = sDef
            · simp [h6]
            · rw [decide_eq_false h6, beq_eq_false_iff_ne]
              exact fun h => h6 (toList_inj.1 h)
set_option maxHeartbeats 1000000 in
theorem is_calls (t : ByteArray) (w : World) : Calls Try.prog 26 #[.string t] w fun e w' => e = .returned (.bool (isSp t)) ∧ Below w.heap.size w w' := by
  have hrow := rows_calls w
  go_enter Try.func26, Try.ntmps26
  go_wp2_with fail
  refine hrow.mono ?_
  rintro e w2 ⟨rfl, ⟨g1, g2, g3, g4, hRo⟩, hb2⟩
  have hmem := isSp_mem t g1 g2 g3 g4
  cases hq : isSp t with
  | true =>
    obtain ⟨p, hp, rfl⟩ := List.mem_map.1 (hmem.1 hq)
    obtain ⟨v, hlk⟩ : ∃ f c1 c2, (Instr.lookup 52 (.map (some w.heap.size)) (.string p.1) true).run Try.prog w2 = .ok (.tuple #[.agg #[.func f c1 c2], .bool true]) w2 := by
      simp only [tbl, List.mem_cons, List.not_mem_nil, or_false] at hp
      rcases hp with rfl | rfl | rfl | rfl | rfl | rfl
      · exact ⟨.func 34, #[], #[], hRo.map.hit (by simp [tbl]) (by intro v hv; simp [tbl] at hv; exact hv)⟩
      · exact ⟨.func 35, #[], #[], hRo.map.hit (by simp [tbl]) (by intro v hv; simp [tbl] at hv; exact hv)⟩
      · exact ⟨.func 52, #[], #[.pointer (some ⟨g1 + 1, 0, none⟩), .pointer (some ⟨g1, 0, none⟩)], hRo.map.hit (by simp [tbl]) (by intro v hv; simp [tbl] at hv; exact hv)⟩
      · exact ⟨.func 52, #[], #[.pointer (some ⟨g2 + 1, 0, none⟩), .pointer (some ⟨g2, 0, none⟩)], hRo.map.hit (by simp [tbl]) (by intro v hv; simp [tbl] at hv; exact hv)⟩
      · exact ⟨.func 52, #[], #[.pointer (some ⟨g3 + 1, 0, none⟩), .pointer (some ⟨g3, 0, none⟩)], hRo.map.hit (by simp [tbl]) (by intro v hv; simp [tbl] at hv; exact hv)⟩
      · exact ⟨.func 52, #[], #[.pointer (some ⟨g4 + 1, 0, none⟩), .pointer (some ⟨g4, 0, none⟩)], hRo.map.hit (by simp [tbl]) (by intro v hv; simp [tbl] at hv; exact hv)⟩
    obtain ⟨v2, v3, hlk⟩ := hlk
    go_wp2_with fail
    go_ret
    exact ⟨by first | (rw [hq]; done) | (rw [hq]; rfl), below_alloc hb2 _⟩
  | false =>
    have hlk := hRo.map.miss (k := t) (fun h => by rw [hmem.2 h] at hq; cases hq)
    go_wp2_with fail
    go_ret
    exact ⟨by first | (rw [hq]; done) | (rw [hq]; rfl), below_alloc hb2 _⟩
/-- split comes to an end. -/
theorem split_loop (l : List ByteArray) (t : ByteArray) (hl : l.length ≤ 4611686018427387904) : ∀ (d i : Nat), i + d = l.length → ∃ r, Ev (fun k => special_split.l0 k l t l (l.length : Int) (i : Int)) r
  | 0, i, hi => by
    obtain rfl : i = l.length := by omega
    exact ⟨_, Ev.step (fun _ => rfl) (ev_neg (by omega) (ev_some rfl))⟩
  | d + 1, i, hi => by
    have hlt : i < l.length := by omega
    obtain ⟨r, hr⟩ := split_loop l t hl d (i + 1) (by omega)
    have hcp : ∃ q : ByteArray × Bool, strings_CutPrefix.f t l[i] = some q := by
      unfold strings_CutPrefix.f stringslite_CutPrefix.f stringslite_HasPrefix.f
      by_cases h1 : (t.size : Int) ≥ (l[i].size : Int)
      · rw [if_pos h1, if_pos (by omega), if_pos (by omega)]
        simp only [Option.bind_some]
        split
        all_goals first | exact ⟨_, rfl⟩ | (rw [if_pos (by omega), if_pos (by omega)]; exact ⟨_, rfl⟩)
      · rw [if_neg h1]
        exact ⟨_, rfl⟩
    obtain ⟨q, hq⟩ := hcp
    have hw : wrap64 ((i : Int) + 1) = ((i + 1 : Nat) : Int) := by rw [wrap_id (by omega) (by omega)]; rfl
    cases hb : q.2 with
    | false => exact ⟨r, Ev.step (fun _ => rfl) (ev_pos (by omega) (ev_pos (by omega) (ev_pos (by omega) (by
        rw [rdOf_get hlt]
        refine ev_const hq (ev_neg (by rw [hb]; simp) ?_)
        rw [hw]; exact hr))))⟩
    | true =>
      cases hc : memB q.1 l with
      | true => exact ⟨_, Ev.step (fun _ => rfl) (ev_pos (by omega) (ev_pos (by omega) (ev_pos (by omega) (by
          rw [rdOf_get hlt]
          refine ev_const hq (ev_pos hb (Ev.bind (contains_ev l q.1 hl) (ev_pos hc (ev_some rfl))))))))⟩
      | false => exact ⟨r, Ev.step (fun _ => rfl) (ev_pos (by omega) (ev_pos (by omega) (ev_pos (by omega) (by
          rw [rdOf_get hlt]
          refine ev_const hq (ev_pos hb (Ev.bind (contains_ev l q.1 hl) (ev_neg (by rw [hc]; simp) ?_)))
          rw [hw]; exact hr))))⟩
theorem split_ends (A : Option Addr) (c : Nat) (l : List ByteArray) (t : ByteArray) (w : World) (hr : Kd.string.C w A l.length l) (hc : l.length ≤ c) (hl : l.length ≤ 4611686018427387904) :
    Calls Try.prog 25 #[.slice A l.length c, .string t] w fun e w' => ∃ (a b : ByteArray) (q : Bool), e = .returned (.tuple #[.string a, .string b, .bool q]) ∧ Below w.heap.size w w' := by
  have he : ∃ r, Ev (fun k => special_split.f k l t) r := by
    obtain ⟨r, h⟩ := split_loop l t hl l.length 0 (by omega)
    cases hm : memB t l with
    | true => exact ⟨_, Ev.bind (contains_ev l t hl) (ev_pos hm (ev_some rfl))⟩
    | false => exact ⟨r, Ev.bind (contains_ev l t hl) (ev_neg (by rw [hm]; simp) h)⟩
  obtain ⟨⟨a, b, q⟩, k, hk⟩ := he
  exact (special_split.calls k A c l t a b q w hr hc (hk k (Nat.le_refl _))).mono fun e w' ⟨h1, h2⟩ => ⟨a, b, q, h1, h2.below⟩
end Go.Proofs.Ytkbcfbelpjifnaa.Spec
namespace Go.Proofs.Ytkbcfbelpjifnaa.Spec
open Go Go.RowKit Go.Proofs Go.Proofs.YtkbcfbelpjifnaaW.PrintWords Go.Proofs.Ytkbcfbelpjifnaa.PX Go.Proofs.Ytkbcfbelpjifnaa.Plain
set_option linter.unusedVariables false
set_option linter.unusedSimpArgs false

/-- An inference rule's cells: two texts and a row. -/
structure Inf where
  a : ByteArray
  b : ByteArray
  A : Option Addr
  n : Nat
  c : Nat
abbrev icell (y : Inf) : List Value := [.string y.a, .string y.b, .slice y.A y.n y.c]
def icells (l : List Inf) : List Value := l.flatMap icell
theorem icells_len (l : List Inf) : (icells l).length = l.length * 3 := by
  induction l with
  | nil => rfl
  | cons y l ih =>
    have : icells (y :: l) = icell y ++ icells l := rfl
    rw [this, List.length_append, ih]
    simp; omega
theorem icells_at : ∀ (l : List Inf) (i : Nat) (y : Inf), l[i]? = some y → (icells l)[i * 3]? = some (.string y.a) ∧ (icells l)[i * 3 + 1]? = some (.string y.b) ∧ (icells l)[i * 3 + 2]? = some (.slice y.A y.n y.c)
  | [], i, y, h => by simp at h
  | z :: l, 0, y, h => by
    simp at h; subst h
    exact ⟨rfl, rfl, rfl⟩
  | z :: l, i + 1, y, h => by
    have ih := icells_at l i y (by simpa using h)
    have e : icells (z :: l) = .string z.a :: .string z.b :: .slice z.A z.n z.c :: icells l := rfl
    rw [e, show (i + 1) * 3 = i * 3 + 1 + 1 + 1 by omega]
    simpa using ih
theorem info_inf : (Try.prog.info? 65).map (fun i => (i.zero, i.size, i.bytes)) = some (some (.agg #[.string (⟨#[]⟩ : ByteArray), .string (⟨#[]⟩ : ByteArray), .slice none 0 0]), 3, 56) := by kernel_rfl
theorem inf_cell {w : World} {base : Nat} {v : Value} {ys : List Inf} (h : w.ownsRow base 65 3 v ys.length (icells ys)) {i : Nat} {y : Inf} (hy : ys[i]? = some y) :
    ∃ g c, v = .slice (some ⟨g, 0, none⟩) ys.length c ∧ w.cell? ⟨g, i * 3, none⟩ = some (.string y.a) ∧ w.cell? ⟨g, i * 3 + 1, none⟩ = some (.string y.b) ∧ w.cell? ⟨g, i * 3 + 2, none⟩ = some (.slice y.A y.n y.c) := by
  have hi := (List.getElem?_eq_some_iff.1 hy).1
  obtain ⟨g, c, rfl, _, _⟩ := own_form h (by omega)
  obtain ⟨h0, h1, h2⟩ := icells_at ys i y hy
  refine ⟨g, c, rfl, ?_, ?_, ?_⟩
  · have := h.cells (g := g) rfl (i * 3) _ h0
    rw [add0] at this; exact this
  · have := h.cells (g := g) rfl (i * 3 + 1) _ h1
    rw [add0] at this; exact this
  · have := h.cells (g := g) rfl (i * 3 + 2) _ h2
    rw [add0] at this; exact this
theorem own_below {w w' : World} {base size n : Nat} {e : TypeId} {v : Value} {cs : List Value} (h : w.ownsRow base e size v n cs) (hb : Below w.heap.size w w') : w'.ownsRow base e size v n cs := by
  refine ⟨h.1, h.2.imp id ?_⟩
  rintro ⟨g, cap, cur, hv, hg, hb2, rest⟩
  exact ⟨g, cap, cur, hv, hg, (hb.block g (Array.getElem?_eq_some_iff.1 hb2).1).trans hb2, rest⟩
theorem apart_types {w : World} {b1 b2 s1 s2 n m : Nat} {e1 e2 : TypeId} {v u : Value} {xs ys : List Value} (h : w.ownsRow b1 e1 s1 v n xs) (k : w.ownsRow b2 e2 s2 u m ys) (he : e1 ≠ e2) : u.ownBlock = none ∨ u.ownBlock ≠ v.ownBlock := by
  rcases h.2 with ⟨rfl, _⟩ | ⟨g, cap, cur, rfl, _, hb, _⟩
  · rcases k.2 with ⟨rfl, _⟩ | ⟨g', cap', cur', rfl, _, hb', _⟩
    · exact Or.inl rfl
    · exact Or.inr (by simp [Value.ownBlock])
  · rcases k.2 with ⟨rfl, _⟩ | ⟨g', cap', cur', rfl, _, hb', _⟩
    · exact Or.inl rfl
    · refine Or.inr fun e => ?_
      have e2 : g' = g := by simpa [Value.ownBlock] using e
      rw [e2, hb] at hb'
      injection hb' with hb'
      injection hb' with _ h3 _
      exact he h3
set_option maxHeartbeats 1000000 in
theorem sort_one (s : ByteArray) (hs : s.size ≤ 4611686018427387904) (w : World) : Calls Try.prog 23 #[.string s] w fun e w' => e = .returned (.bool (!isSuf s)) ∧ Below w.heap.size w w' := by
  have hc := suffix_calls s hs w
  generalize isSuf s = q at hc
  go_enter Try.func23, Try.ntmps23
  go_wp2_with fail
  refine hc.mono ?_
  rintro e w2 ⟨rfl, hb⟩
  go_wp2
  go_ret
  exact ⟨rfl, hb⟩
theorem any_sort (A : Option Addr) (c : Nat) (l : List ByteArray) (w : World) (hr : Kd.string.C w A l.length l) (hfit : ∀ n ∈ l, n.size ≤ 4611686018427387904) :
    Calls Try.prog 22 #[.slice A l.length c, .func (.func 23) #[] #[]] w fun e w' => e = .returned (.bool (l.any fun s => !isSuf s)) ∧ Below w.heap.size w w' :=
  contains_func 23 (fun s => !isSuf s) A c l w hr (enters_of Try.func23 (by kernel_rfl) rfl) (fun x hx W _ => sort_one x (hfit x hx) W)
set_option maxHeartbeats 1000000 in
theorem sort_two (y : Inf) (b1 b2 : Nat) (p q : ByteArray) (w : World) (h1 : w.cell? ⟨b1, 0, none⟩ = some (.string p)) (h2 : w.cell? ⟨b2, 0, none⟩ = some (.string q)) :
    Calls Try.prog 28 #[.agg #[.string y.a, .string y.b, .slice y.A y.n y.c], .pointer (some ⟨b1, 0, none⟩), .pointer (some ⟨b2, 0, none⟩)] w fun e w' => (∃ r : Bool, e = .returned (.bool r)) ∧ Below w.heap.size w w' := by
  have hb : Below w.heap.size w (w.alloc (.cells #[.string y.a, .string y.b, .slice y.A y.n y.c] 65)) := below_alloc (Below.refl _ w) _
  have k1 := pw_cell_below hb h1
  have k2 := pw_cell_below hb h2
  cases hq : (y.a.toList == p.toList) with
  | true =>
    go_enter Try.func28, Try.ntmps28
    go_wp2
    go_ret
    exact ⟨⟨_, rfl⟩, hb⟩
  | false =>
    go_enter Try.func28, Try.ntmps28
    go_wp2
    go_ret
    exact ⟨⟨_, rfl⟩, hb⟩
set_option maxHeartbeats 2000000 in
set_option maxRecDepth 100000 in
theorem index_inf (v : Value) (base : Nat) (ys : List Inf) (b1 b2 : Nat) (p q : ByteArray) (w : World) (hown : w.ownsRow base 65 3 v ys.length (icells ys)) (hl : ys.length ≤ 4611686018427387904) (h1 : w.cell? ⟨b1, 0, none⟩ = some (.string p)) (h2 : w.cell? ⟨b2, 0, none⟩ = some (.string q)) :
    Calls Try.prog 48 #[v, .func (.func 28) #[] #[.pointer (some ⟨b1, 0, none⟩), .pointer (some ⟨b2, 0, none⟩)]] w fun e w' => (∃ n : Int, e = .returned (.int .i64 n)) ∧ Below w.heap.size w w' := by
  have eg := enters_of Try.func28 (by kernel_rfl) rfl
  obtain ⟨A, c, rfl⟩ := own_slice hown
  go_enter Try.func48, Try.ntmps48
  go_wp2_with fail
  go_loopw [8] (fun i wr => ∃ k : Nat, i = .int .i64 (k : Int) ∧ k ≤ ys.length ∧ Below w.heap.size w wr) (fun i _ => ys.length - (intOf i).toNat)
  case atStart => exact ⟨0, rfl, Nat.zero_le _, Below.refl _ _⟩
  case round =>
    obtain ⟨k, rfl, hk, hB⟩ := hrel
    by_cases hlt : k < ys.length
    · have d1 : (k : Int) < (ys.length : Int) := by omega
      have d2 : (0 : Int) ≤ (k : Int) := by omega
      obtain ⟨y, hy⟩ : ∃ y, ys[k]? = some y := ⟨_, List.getElem?_eq_getElem hlt⟩
      obtain ⟨g, c', hv, k0, k1, k2⟩ := inf_cell (own_below hown hB) hy
      injection hv with hv1 _ hv3
      subst hv1 hv3
      have hcall := sort_two y b1 b2 p q wr (pw_cell_below hB h1) (pw_cell_below hB h2)
      go_wp2_with fail
      refine hcall.mono ?_
      rintro e w2 ⟨⟨r, rfl⟩, hb2⟩
      cases r with
      | true =>
        go_wp2
        go_ret
        exact ⟨⟨_, rfl⟩, below_t hB hb2⟩
      | false =>
        go_wp2
        go_roundw
        case rel => exact ⟨k + 1, by go_num, by omega, below_t hB hb2⟩
        case measure => simp [intOf]; omega
    · obtain rfl : k = ys.length := by omega
      have d1 : ¬ ((ys.length : Int) < (ys.length : Int)) := by omega
      go_wp2
      go_ret
      exact ⟨⟨_, rfl⟩, hB⟩
set_option maxHeartbeats 1000000 in
theorem contains_inf (v : Value) (base : Nat) (ys : List Inf) (b1 b2 : Nat) (p q : ByteArray) (w : World) (hown : w.ownsRow base 65 3 v ys.length (icells ys)) (hl : ys.length ≤ 4611686018427387904) (h1 : w.cell? ⟨b1, 0, none⟩ = some (.string p)) (h2 : w.cell? ⟨b2, 0, none⟩ = some (.string q)) :
    Calls Try.prog 27 #[v, .func (.func 28) #[] #[.pointer (some ⟨b1, 0, none⟩), .pointer (some ⟨b2, 0, none⟩)]] w fun e w' => (∃ r : Bool, e = .returned (.bool r)) ∧ Below w.heap.size w w' := by
  have hi := index_inf v base ys b1 b2 p q w hown hl h1 h2
  go_enter Try.func27, Try.ntmps27
  go_wp2_with fail
  refine hi.mono ?_
  rintro e w2 ⟨⟨n, rfl⟩, hb2⟩
  go_wp2
  go_ret
  exact ⟨⟨_, rfl⟩, hb2⟩
end Go.Proofs.Ytkbcfbelpjifnaa.Spec
namespace Go.Proofs.Ytkbcfbelpjifnaa.Spec
open Go Go.RowKit Go.Proofs Go.Proofs.YtkbcfbelpjifnaaW.PrintWords Go.Proofs.Ytkbcfbelpjifnaa.PX Go.Proofs.Ytkbcfbelpjifnaa.Plain
set_option linter.unusedVariables false
set_option linter.unusedSimpArgs false

abbrev zeroR : Obj := .cells #[.string (⟨#[]⟩ : ByteArray), .slice none 0 0, .slice none 0 0, .bool false] 30
theorem four {w : World} {g : Nat} {c0 c1 c2 c3 : Value} {t : TypeId} (h : w.heap[g]? = some (.cells #[c0, c1, c2, c3] t (0, 0))) :
    w.cell? ⟨g, 0, none⟩ = some c0 ∧ w.cell? ⟨g, 1, none⟩ = some c1 ∧ w.cell? ⟨g, 2, none⟩ = some c2 ∧ w.cell? ⟨g, 3, none⟩ = some c3 ∧ w.frozen? ⟨g, 0, none⟩ = false ∧ w.frozen? ⟨g, 1, none⟩ = false ∧ w.frozen? ⟨g, 2, none⟩ = false ∧ w.frozen? ⟨g, 3, none⟩ = false :=
  ⟨cell_of_row w g 0 _ _ _ h, cell_of_row w g 1 _ _ _ h, cell_of_row w g 2 _ _ _ h, cell_of_row w g 3 _ _ _ h, frozen_of_row w g 0 _ _ h, frozen_of_row w g 1 _ _ h, frozen_of_row w g 2 _ _ h, frozen_of_row w g 3 _ _ h⟩
theorem fill4 {w w0 : World} {g B : Nat} {c0 c1 c2 c3 : Value} {t : TypeId} (h : w.heap[g]? = some (.cells #[c0, c1, c2, c3] t (0, 0))) (hb : Below B w0 w) (hg : B ≤ g) (v0 v1 v2 v3 : Value) :
    ((((w.setCell ⟨g, 0, none⟩ v0).setCell ⟨g, 1, none⟩ v1).setCell ⟨g, 2, none⟩ v2).setCell ⟨g, 3, none⟩ v3).heap[g]? = some (.cells #[v0, v1, v2, v3] t (0, 0)) ∧ Below B w0 ((((w.setCell ⟨g, 0, none⟩ v0).setCell ⟨g, 1, none⟩ v1).setCell ⟨g, 2, none⟩ v2).setCell ⟨g, 3, none⟩ v3) := by
  have k := fun (W : World) (cs : Array Value) (i : Nat) (u : Value) (hh : W.heap[g]? = some (.cells cs t (0, 0))) => heap_setCell_same W g i cs t u hh
  have h0 : (w.setCell ⟨g, 0, none⟩ v0).heap[g]? = some (.cells #[v0, c1, c2, c3] t (0, 0)) := k _ _ 0 v0 h
  have h1 : ((w.setCell ⟨g, 0, none⟩ v0).setCell ⟨g, 1, none⟩ v1).heap[g]? = some (.cells #[v0, v1, c2, c3] t (0, 0)) := k _ _ 1 v1 h0
  have h2 : (((w.setCell ⟨g, 0, none⟩ v0).setCell ⟨g, 1, none⟩ v1).setCell ⟨g, 2, none⟩ v2).heap[g]? = some (.cells #[v0, v1, v2, c3] t (0, 0)) := k _ _ 2 v2 h1
  have h3 : ((((w.setCell ⟨g, 0, none⟩ v0).setCell ⟨g, 1, none⟩ v1).setCell ⟨g, 2, none⟩ v2).setCell ⟨g, 3, none⟩ v3).heap[g]? = some (.cells #[v0, v1, v2, v3] t (0, 0)) := k _ _ 3 v3 h2
  exact ⟨h3, (((hb.setCell (p := ⟨g, 0, none⟩) hg v0).setCell (p := ⟨g, 1, none⟩) hg v1).setCell (p := ⟨g, 2, none⟩) hg v2).setCell (p := ⟨g, 3, none⟩) hg v3⟩
set_option maxHeartbeats 4000000 in
set_option maxRecDepth 100000 in
theorem copied_calls (x : Rl) (A1 : Option Addr) (c1 : Nat) (A2 : Option Addr) (c2 : Nat) (w : World) (r1 : Kd.string.C w A1 x.f1.length x.f1) (r2 : Kd.string.C w A2 x.f2.length x.f2) (h64 : x.f1.length ≤ 64) (h642 : x.f2.length ≤ 64) :
    Calls Try.prog 29 #[.agg #[.string x.f0, .slice A1 x.f1.length c1, .slice A2 x.f2.length c2, .bool x.f3]] w fun e w' => (∃ B1 n1 d1 B2 n2 d2, e = .returned (.agg #[.string x.f0, .slice B1 n1 d1, .slice B2 n2 d2, .bool x.f3])) ∧ Below w.heap.size w w' := by
  obtain ⟨W1, hW1⟩ : ∃ W1, W1 = (w.alloc (boxO x A1 c1 A2 c2)).alloc zeroR := ⟨_, rfl⟩
  have hb1 : Below w.heap.size w W1 := by rw [hW1]; exact below_alloc (below_alloc (Below.refl _ w) _) _
  have hs1 : W1.heap.size = w.heap.size + 1 + 1 := by rw [hW1]; simp
  have hbox : W1.heap[w.heap.size]? = some (boxO x A1 c1 A2 c2) := by
    rw [hW1]
    exact (Below.heap_alloc _ _ _ (by simp)).trans (heap_alloc_new w _)
  have hres : W1.heap[w.heap.size + 1]? = some zeroR := by
    rw [hW1, show w.heap.size + 1 = (w.alloc (boxO x A1 c1 A2 c2)).heap.size by simp]
    exact heap_alloc_new _ _
  have hr2 := Kd.C_below r2 hb1
  go_enter Try.func29, Try.ntmps29
  go_wp2_with fail
  rw [← hW1]
  have hlt1 : w.heap.size < W1.heap.size := by omega
  clear hW1 hs1
  obtain ⟨b0, b1, b2, b3⟩ := box_cells hbox
  have hBd : Below w.heap.size w W1.drew := hb1.drew
  have keep : ∀ W : World, Below W1.heap.size W1 W → W.cell? ⟨w.heap.size, 0, none⟩ = some (.string x.f0) ∧ W.cell? ⟨w.heap.size, 1, none⟩ = some (.slice A1 x.f1.length c1) ∧ W.cell? ⟨w.heap.size, 2, none⟩ = some (.slice A2 x.f2.length c2) ∧ W.cell? ⟨w.heap.size, 3, none⟩ = some (.bool x.f3) := fun W h => ⟨pw_cell_below h b0, pw_cell_below h b1, pw_cell_below h b2, pw_cell_below h b3⟩
  have hxd : Below W1.heap.size W1 W1.drew := below_drew (Below.refl _ _)
  have hxa : Below W1.heap.size W1 (W1.drew.alloc zeroR) := below_alloc hxd _
  have hza : (W1.drew.alloc zeroR).heap[W1.heap.size]? = some zeroR := heap_alloc_new W1.drew _
  have hsA : W1.heap.size < (W1.drew.alloc zeroR).heap.size := by simp
  go_region_held3 (fun W' => W'.cell? ⟨w.heap.size, 0, none⟩ = some (.string x.f0) ∧ W'.cell? ⟨w.heap.size, 1, none⟩ = some (.slice A1 x.f1.length c1) ∧ W'.cell? ⟨w.heap.size, 2, none⟩ = some (.slice A2 x.f2.length c2) ∧ W'.cell? ⟨w.heap.size, 3, none⟩ = some (.bool x.f3)) (first | exact keep _ hxd | exact keep _ hxa | exact keep _ hx6 | exact keep _ (by repeat (first | exact hx6 | exact below_alloc hx6 _ | refine Below.setCell ?_ (by first | exact Nat.le_refl _ | exact hx6.size) _))) ((first
    | (go_at_call 19; refine (clone_str A1 c1 x.f1 W1.drew (Kd.C_below r1 hBd) (by omega)).mono ?_; rintro e w6 ⟨v6, rfl, hR6, hb6⟩; obtain ⟨A6, c6, rfl, _, _⟩ := Kd.R_reads hR6; have hx6 := below_t hxd hb6)
    | (go_at_call 19; refine (clone_str A1 c1 x.f1 (W1.drew.alloc zeroR) (Kd.C_below r1 (below_alloc hBd _)) (by omega)).mono ?_; rintro e w6 ⟨v6, rfl, hR6, hb6⟩; obtain ⟨A6, c6, rfl, _, _⟩ := Kd.R_reads hR6; have hx6 := below_t hxa hb6; have hz6 := (hb6.block W1.heap.size hsA).trans hza; have z0 := cell_of_row w6 W1.heap.size 0 _ _ _ hz6; have z1 := cell_of_row w6 W1.heap.size 1 _ _ _ hz6; have z2 := cell_of_row w6 W1.heap.size 2 _ _ _ hz6; have z3 := cell_of_row w6 W1.heap.size 3 _ _ _ hz6; have f0 := frozen_of_row w6 W1.heap.size 0 _ _ hz6; have f1 := frozen_of_row w6 W1.heap.size 1 _ _ hz6; have f2 := frozen_of_row w6 W1.heap.size 2 _ _ hz6; have f3 := frozen_of_row w6 W1.heap.size 3 _ _ hz6)))
  · obtain ⟨g9, hgg⟩ : ∃ g, g = w6.heap.size := ⟨_, rfl⟩
    have h9 : (w6.alloc (.cells #[.string x.f0, .slice A6 x.f1.length c6, .slice none 0 0, .bool x.f3] 30)).heap[g9]? = some (.cells #[.string x.f0, .slice A6 x.f1.length c6, .slice none 0 0, .bool x.f3] 30 (0, 0)) := by rw [hgg]; exact heap_alloc_new w6 _
    have h10 : Below W1.heap.size W1 (w6.alloc (.cells #[.string x.f0, .slice A6 x.f1.length c6, .slice none 0 0, .bool x.f3] 30)) := below_alloc hx6 _
    have hg9 : W1.heap.size ≤ g9 := by rw [hgg]; exact hx6.size
    rw [← hgg]
    generalize (w6.alloc (.cells #[.string x.f0, .slice A6 x.f1.length c6, .slice none 0 0, .bool x.f3] 30)) = W9 at h9 h10 ⊢
    clear hgg
    have hgW : W1.heap.size ≤ g9 := hg9
    have hrne : w.heap.size + 1 ≠ g9 := by have := blk_lt hres; omega
    obtain ⟨k0, k1, k2, k3⟩ := keep W9 h10
    obtain ⟨z0, z1, z2, z3, f0, f1, f2, f3⟩ := four h9
    clear keep b0 b1 b2 b3
    cases hx3 : x.f3 with
    | false =>
      rw [hx3] at k3 z3 h9
      have hr9 := (h10.block (w.heap.size + 1) (blk_lt hres)).trans hres
      obtain ⟨r0, r1', r2', r3, q0, q1, q2, q3⟩ := four hr9
      go_wp2_with fail
      obtain ⟨hf, hbf⟩ := fill4 hr9 (hb1.trans (h10.mono hb1.size)) (Nat.le_succ _) (.string x.f0) (.slice A6 x.f1.length c6) (.slice none 0 0) (.bool false)
      generalize (((W9.setCell ⟨w.heap.size + 1, 0, none⟩ (.string x.f0)).setCell ⟨w.heap.size + 1, 1, none⟩ (.slice A6 x.f1.length c6)).setCell ⟨w.heap.size + 1, 2, none⟩ (.slice none 0 0)).setCell ⟨w.heap.size + 1, 3, none⟩ (.bool false) = WF at hf hbf ⊢
      clear r0 r1' r2' r3 q0 q1 q2 q3
      obtain ⟨r0, r1', r2', r3, q0, q1, q2, q3⟩ := four hf
      (try simp only [Exit.inBlock, Exit.then])
      refine bodyPost_ret (by simp [results, Try.results29, go_sem, r0, r1', r2', r3, Result.andThen]; try rfl) rfl ?_
      exact ⟨⟨_, _, _, _, _, _, by rw [hx3]⟩, hbf⟩
    | true =>
      rw [hx3] at k3 z3 h9
      have hc2 := clone_str A2 c2 x.f2 W9 (Kd.C_below hr2 h10) (by omega)
      go_wp2_with fail
      refine hc2.mono ?_
      rintro e w10 ⟨v10, rfl, hR10, hb10⟩
      obtain ⟨A10, c10, rfl, _, _⟩ := Kd.R_reads hR10
      have h9' := (hb10.block g9 (blk_lt h9)).trans h9
      have h10' := below_t h10 hb10
      clear z0 z1 z2 z3 f0 f1 f2 f3
      obtain ⟨z0, z1, z2, z3, f0, f1, f2, f3⟩ := four h9'
      go_upto_region 4 with fail
      have h11 := heap_setCell_same w10 g9 2 _ _ (.slice A10 x.f2.length c10) h9'
      have hB11 := h10'.setCell (p := ⟨g9, 2, none⟩) hgW (.slice A10 x.f2.length c10)
      generalize w10.setCell ⟨g9, 2, none⟩ (.slice A10 x.f2.length c10) = W11 at h11 hB11 ⊢
      clear z0 z1 z2 z3 f0 f1 f2 f3 h10 h9
      obtain ⟨z0, z1, z2, z3, f0, f1, f2, f3⟩ := four h11
      have h10 := hB11
      have hr9 := (h10.block (w.heap.size + 1) (blk_lt hres)).trans hres
      obtain ⟨r0, r1', r2', r3, q0, q1, q2, q3⟩ := four hr9
      go_wp2_with fail
      obtain ⟨hf, hbf⟩ := fill4 hr9 (hb1.trans (h10.mono hb1.size)) (Nat.le_succ _) (.string x.f0) (.slice A6 x.f1.length c6) (.slice A10 x.f2.length c10) (.bool true)
      generalize (((W11.setCell ⟨w.heap.size + 1, 0, none⟩ (.string x.f0)).setCell ⟨w.heap.size + 1, 1, none⟩ (.slice A6 x.f1.length c6)).setCell ⟨w.heap.size + 1, 2, none⟩ (.slice A10 x.f2.length c10)).setCell ⟨w.heap.size + 1, 3, none⟩ (.bool true) = WF at hf hbf ⊢
      clear r0 r1' r2' r3 q0 q1 q2 q3
      obtain ⟨r0, r1', r2', r3, q0, q1, q2, q3⟩ := four hf
      (try simp only [Exit.inBlock, Exit.then])
      refine bodyPost_ret (by simp [results, Try.results29, go_sem, r0, r1', r2', r3, Result.andThen]; try rfl) rfl ?_
      exact ⟨⟨_, _, _, _, _, _, by rw [hx3]⟩, hbf⟩
  · obtain ⟨g9, hgg⟩ : ∃ g, g = W1.heap.size := ⟨_, rfl⟩
    have hg9 : W1.heap.size ≤ g9 := Nat.le_of_eq hgg.symm
    obtain ⟨h9, h10⟩ := fill4 (w0 := W1) (B := W1.heap.size) hz6 hx6 (Nat.le_refl _) (.string x.f0) (.slice A6 x.f1.length c6) (.slice none 0 0) (.bool x.f3)
    generalize (((w6.setCell ⟨W1.heap.size, 0, none⟩ (.string x.f0)).setCell ⟨W1.heap.size, 1, none⟩ (.slice A6 x.f1.length c6)).setCell ⟨W1.heap.size, 2, none⟩ (.slice none 0 0)).setCell ⟨W1.heap.size, 3, none⟩ (.bool x.f3) = W9 at h9 h10 ⊢
    rw [← hgg] at h9
    rw [← hgg]
    clear hgg z0 z1 z2 z3 f0 f1 f2 f3
    have hgW : W1.heap.size ≤ g9 := hg9
    have hrne : w.heap.size + 1 ≠ g9 := by have := blk_lt hres; omega
    obtain ⟨k0, k1, k2, k3⟩ := keep W9 h10
    obtain ⟨z0, z1, z2, z3, f0, f1, f2, f3⟩ := four h9
    clear keep b0 b1 b2 b3
    cases hx3 : x.f3 with
    | false =>
      rw [hx3] at k3 z3 h9
      have hr9 := (h10.block (w.heap.size + 1) (blk_lt hres)).trans hres
      obtain ⟨r0, r1', r2', r3, q0, q1, q2, q3⟩ := four hr9
      go_wp2_with fail
      obtain ⟨hf, hbf⟩ := fill4 hr9 (hb1.trans (h10.mono hb1.size)) (Nat.le_succ _) (.string x.f0) (.slice A6 x.f1.length c6) (.slice none 0 0) (.bool false)
      generalize (((W9.setCell ⟨w.heap.size + 1, 0, none⟩ (.string x.f0)).setCell ⟨w.heap.size + 1, 1, none⟩ (.slice A6 x.f1.length c6)).setCell ⟨w.heap.size + 1, 2, none⟩ (.slice none 0 0)).setCell ⟨w.heap.size + 1, 3, none⟩ (.bool false) = WF at hf hbf ⊢
      clear r0 r1' r2' r3 q0 q1 q2 q3
      obtain ⟨r0, r1', r2', r3, q0, q1, q2, q3⟩ := four hf
      (try simp only [Exit.inBlock, Exit.then])
      refine bodyPost_ret (by simp [results, Try.results29, go_sem, r0, r1', r2', r3, Result.andThen]; try rfl) rfl ?_
      exact ⟨⟨_, _, _, _, _, _, by rw [hx3]⟩, hbf⟩
    | true =>
      rw [hx3] at k3 z3 h9
      have hc2 := clone_str A2 c2 x.f2 W9 (Kd.C_below hr2 h10) (by omega)
      go_wp2_with fail
      refine hc2.mono ?_
      rintro e w10 ⟨v10, rfl, hR10, hb10⟩
      obtain ⟨A10, c10, rfl, _, _⟩ := Kd.R_reads hR10
      have h9' := (hb10.block g9 (blk_lt h9)).trans h9
      have h10' := below_t h10 hb10
      clear z0 z1 z2 z3 f0 f1 f2 f3
      obtain ⟨z0, z1, z2, z3, f0, f1, f2, f3⟩ := four h9'
      go_upto_region 4 with fail
      have h11 := heap_setCell_same w10 g9 2 _ _ (.slice A10 x.f2.length c10) h9'
      have hB11 := h10'.setCell (p := ⟨g9, 2, none⟩) hgW (.slice A10 x.f2.length c10)
      generalize w10.setCell ⟨g9, 2, none⟩ (.slice A10 x.f2.length c10) = W11 at h11 hB11 ⊢
      clear z0 z1 z2 z3 f0 f1 f2 f3 h10 h9
      obtain ⟨z0, z1, z2, z3, f0, f1, f2, f3⟩ := four h11
      have h10 := hB11
      have hr9 := (h10.block (w.heap.size + 1) (blk_lt hres)).trans hres
      obtain ⟨r0, r1', r2', r3, q0, q1, q2, q3⟩ := four hr9
      go_wp2_with fail
      obtain ⟨hf, hbf⟩ := fill4 hr9 (hb1.trans (h10.mono hb1.size)) (Nat.le_succ _) (.string x.f0) (.slice A6 x.f1.length c6) (.slice A10 x.f2.length c10) (.bool true)
      generalize (((W11.setCell ⟨w.heap.size + 1, 0, none⟩ (.string x.f0)).setCell ⟨w.heap.size + 1, 1, none⟩ (.slice A6 x.f1.length c6)).setCell ⟨w.heap.size + 1, 2, none⟩ (.slice A10 x.f2.length c10)).setCell ⟨w.heap.size + 1, 3, none⟩ (.bool true) = WF at hf hbf ⊢
      clear r0 r1' r2' r3 q0 q1 q2 q3
      obtain ⟨r0, r1', r2', r3, q0, q1, q2, q3⟩ := four hf
      (try simp only [Exit.inBlock, Exit.then])
      refine bodyPost_ret (by simp [results, Try.results29, go_sem, r0, r1', r2', r3, Result.andThen]; try rfl) rfl ?_
      exact ⟨⟨_, _, _, _, _, _, by rw [hx3]⟩, hbf⟩
end Go.Proofs.Ytkbcfbelpjifnaa.Spec
