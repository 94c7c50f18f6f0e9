/- SpecialTurns: the walk. -/
import Derived.Test.YtkbcfbelpjifnaaSpec23
import Derived.Test.YtkbcfbelpjifnaaSpec24
import Derived.Test.YtkbcfbelpjifnaaWNEv
import Derived.Deep.RegionHeld3
namespace Go.Proofs.Ytkbcfbelpjifnaa.Spec
open Go Go.RowKit Go.Proofs Go.Proofs.YtkbcfbelpjifnaaW.PrintWords Go.Proofs.Ytkbcfbelpjifnaa.PX Go.Proofs.Ytkbcfbelpjifnaa.Plain
set_option linter.unusedVariables false
set_option linter.unusedSimpArgs false

theorem heapR : Kd.Heap k30 := Kd.heap_iso _ (Kd.heap_pair Kd.heap_string (Kd.heap_pair (Kd.heap_slice 9 Kd.heap_string) (Kd.heap_pair (Kd.heap_slice 9 Kd.heap_string) Kd.heap_bool)))
/-- An empty literal. -/
theorem noRules (w : World) {base : Nat} (hb : base ≤ w.heap.size) : Kd.N k30 30 (w.alloc (.cells #[] 30)) base (fun _ => True) (.slice (some ⟨w.heap.size, 0, none⟩) 0 0) [] :=
  Kd.R_N ⟨fun _ _ => trivial, [], ⟨rfl, Or.inr ⟨w.heap.size, 0, #[], rfl, hb, heap_alloc_new w _, Nat.le_refl _, by decide, rfl, rfl⟩⟩, ⟨rfl, fun j p h => by simp at h⟩⟩
theorem n_at {W : World} {base g n cap : Nat} {ok : Nat → Prop} {xs : List Rl} (h : Kd.N k30 30 W base ok (.slice (some ⟨g, 0, none⟩) n cap) xs) {j : Nat} {y : Rl} (hy : xs[j]? = some y) :
    ∃ B1 d1 B2 d2, W.cell? ⟨g, j * 4, none⟩ = some (.string y.f0) ∧ W.cell? ⟨g, j * 4 + 1, none⟩ = some (.slice B1 y.f1.length d1) ∧ W.cell? ⟨g, j * 4 + 2, none⟩ = some (.slice B2 y.f2.length d2) ∧ W.cell? ⟨g, j * 4 + 3, none⟩ = some (.bool y.f3) ∧
      ∀ i, W.frozen? ⟨g, j * 4 + i, none⟩ = false := by
  have hj := (List.getElem?_eq_some_iff.1 hy).1
  have hn := (Kd.N_reads' h).1
  obtain ⟨c, hcl, hK, hcc, hfr⟩ := Kd.N_elem h dfl (j : Int) (by omega) (by omega)
  rw [show ((j : Int)).toNat = j by omega] at hK hcc hfr
  rw [show k30.sz = 4 from rfl] at hcc hfr
  rw [show xs.getD j dfl = y by rw [List.getD_eq_getElem?_getD, hy]; rfl] at hK
  obtain ⟨B1, d1, B2, d2, rfl, _, _, _, _⟩ := k30_openF hK
  exact ⟨B1, d1, B2, d2, hcc 0 _ rfl, hcc 1 _ rfl, hcc 2 _ rfl, hcc 3 _ rfl, hfr⟩
theorem n_put {W : World} {base g n cap : Nat} {ok okp : Nat → Prop} {xs : List Rl} (h : Kd.N k30 30 W base ok (.slice (some ⟨g, 0, none⟩) n cap) xs) {j : Nat} {y : Rl} (hy : xs[j]? = some y) {x : Rl} {A1 : Option Addr} {c1 : Nat} {A2 : Option Addr} {c2 : Nat}
    (hx : Kd.FK k30 W okp x [.string x.f0, .slice A1 x.f1.length c1, .slice A2 x.f2.length c2, .bool x.f3]) (hok : ∀ k, okp k → ok k ∧ k ≠ g) :
    Kd.N k30 30 ((((W.setCell ⟨g, j * 4, none⟩ (.string x.f0)).setCell ⟨g, j * 4 + 1, none⟩ (.slice A1 x.f1.length c1)).setCell ⟨g, j * 4 + 2, none⟩ (.slice A2 x.f2.length c2)).setCell ⟨g, j * 4 + 3, none⟩ (.bool x.f3)) base ok (.slice (some ⟨g, 0, none⟩) n cap) (xs.set j x) ∧
      W.grownBy ((((W.setCell ⟨g, j * 4, none⟩ (.string x.f0)).setCell ⟨g, j * 4 + 1, none⟩ (.slice A1 x.f1.length c1)).setCell ⟨g, j * 4 + 2, none⟩ (.slice A2 x.f2.length c2)).setCell ⟨g, j * 4 + 3, none⟩ (.bool x.f3)) (some g) := by
  have hj := (List.getElem?_eq_some_iff.1 hy).1
  have hn := (Kd.N_reads' h).1
  obtain ⟨c, hcl, hK, hcc, hfr⟩ := Kd.N_elem h dfl (j : Int) (by omega) (by omega)
  rw [show ((j : Int)).toNat = j by omega] at hcc
  have hz : k30.sz = 4 := rfl
  have := Kd.N_seg h (j : Int) (by omega) (by omega) (seg := [.string x.f0, .slice A1 x.f1.length c1, .slice A2 x.f2.length c2, .bool x.f3]) (j := 0) (x' := x) (okp := okp) hcl (by rw [show ((j : Int)).toNat = j by omega]; exact hcc) (by simp [hz]) (by
    have e : c.take 0 ++ [.string x.f0, .slice A1 x.f1.length c1, .slice A2 x.f2.length c2, .bool x.f3] ++ c.drop (0 + [Value.string x.f0, .slice A1 x.f1.length c1, .slice A2 x.f2.length c2, .bool x.f3].length) = [.string x.f0, .slice A1 x.f1.length c1, .slice A2 x.f2.length c2, .bool x.f3] := by
      rw [hz] at hcl
      simp [List.drop_eq_nil_of_le, hcl]
    rw [e]
    exact hx) hok
  rw [show ((j : Int)).toNat = j by omega, hz] at this
  exact this
theorem ruleF {w W : World} {x : Rl} {A1 : Option Addr} {c1 : Nat} {A2 : Option Addr} {c2 : Nat} {p : Addr} (h : RulAt w p x A1 c1 A2 c2) (hb : Below w.heap.size w W) : Kd.FK k30 W (fun k => k < w.heap.size) x [.string x.f0, .slice A1 x.f1.length c1, .slice A2 x.f2.length c2, .bool x.f3] :=
  k30_mkF W _ x h.l1 (Kd.F_below (Kd.C_F Kd.heap_string h.r1) hb) h.l2 (Kd.F_below (Kd.C_F Kd.heap_string h.r2) hb)
set_option maxHeartbeats 8000000 in
set_option maxRecDepth 100000 in
theorem turns_calls (A : Option Addr) (c : Nat) (l : List Rl) (n : Int) (w : World) (hr : k30.C w A l.length l) (hfit : ∀ x ∈ l, Fits x) (hl : l.length ≤ 1048576) (hn : -9223372036854775808 ≤ n ∧ n ≤ 9223372036854775807) :
    Calls Try.prog 4 #[.slice A l.length c, .int .i64 n] w fun e w' => e = .returned (.bool true) ∧ Below w.heap.size w w' := by
  have hsp := fun W => speaks_calls W
  have hwr : IntKind.i64.wrap ((l.length : Int) - 1) = (l.length : Int) - 1 := by rw [IntKind.wrap_i64]; omega
  by_cases h1 : n < 0
  · have d1 : decide (n < 0) = true := decide_eq_true h1
    go_enter Try.func4, Try.ntmps4
    go_wp2_with fail
    go_quiet (fail)
    go_wp2_with fail
    refine (hsp _).mono ?_
    rintro e w2 ⟨rfl, hb2⟩
    go_wp2_with fail
    go_ret
    exact ⟨rfl, (pw_below_drewN (Below.refl _ w) nq).trans hb2⟩
  · have d1 : decide (n < 0) = false := decide_eq_false h1
    by_cases h2 : n ≥ (l.length : Int) - 1
    · have d2 : decide ((l.length : Int) - 1 ≤ n) = true := decide_eq_true h2
      go_enter Try.func4, Try.ntmps4
      go_wp2_with fail
      go_quiet (fail)
      go_wp2_with fail
      refine (hsp _).mono ?_
      rintro e w2 ⟨rfl, hb2⟩
      go_wp2_with fail
      go_ret
      exact ⟨rfl, (pw_below_drewN (Below.refl _ w) nq).trans hb2⟩
    · have d2 : decide ((l.length : Int) - 1 ≤ n) = false := decide_eq_false h2
      obtain ⟨a, rfl⟩ : ∃ a : Nat, n = (a : Int) := ⟨n.toNat, by omega⟩
      have h3 : a + 1 < l.length := by omega
      have hwa : IntKind.i64.wrap ((a : Int) + 1) = ((a + 1 : Nat) : Int) := by rw [IntKind.wrap_i64]; omega
      obtain ⟨x, hx⟩ : ∃ x, l[a]? = some x := ⟨_, List.getElem?_eq_getElem (by omega)⟩
      obtain ⟨y, hy⟩ : ∃ y, l[a + 1]? = some y := ⟨_, List.getElem?_eq_getElem h3⟩
      obtain ⟨ad, A1, c1, A2, c2, rfl, hxw⟩ := rul_at hr hx
      obtain ⟨ad', A3, c3, A4, c4, had, hyw⟩ := rul_at hr hy
      injection had with had
      subst had
      have x0 := hxw.e0
      have x1 := hxw.e1
      have x2 := hxw.e2
      have x3 := hxw.e3
      have y0 := hyw.e0
      have y1 := hyw.e1
      have y2 := hyw.e2
      have y3 := hyw.e3
      have d3 : (0 : Int) ≤ (a : Int) := by omega
      have d4 : (a : Int) < (l.length : Int) := by omega
      have d5 : (0 : Int) ≤ ((a + 1 : Nat) : Int) := by omega
      have d6 : ((a + 1 : Nat) : Int) < (l.length : Int) := by omega
      by_cases hxy : x.f0 = y.f0
      · have d7 : (x.f0.toList == y.f0.toList) = true := by rw [hxy]; simp
        go_enter Try.func4, Try.ntmps4
        go_wp2_with fail
        go_quiet (fail)
        go_wp2_with fail
        refine (hsp _).mono ?_
        rintro e w2 ⟨rfl, hb2⟩
        go_wp2_with fail
        go_ret
        exact ⟨rfl, (pw_below_drewN (Below.refl _ w) nq).trans hb2⟩
      · have d7 : (x.f0.toList == y.f0.toList) = false := by rw [beq_eq_false_iff_ne]; exact fun h => hxy (toList_inj.1 h)
        go_enter Try.func4, Try.ntmps4
        go_wp2_with fail
        go_quiet (fail)
        have hBq : Below w.heap.size w (w.drewN nq) := pw_below_drewN (Below.refl _ w) nq
        have hqs : (w.drewN nq).heap.size = w.heap.size := rfl
        generalize w.drewN nq = wq at hBq hqs ⊢
        have hBr : Below w.heap.size w (wq.alloc (.cells #[] 30)) := below_alloc hBq _
        have hHF : Kd.F k30 (wq.alloc (.cells #[] 30)) (fun k => k < w.heap.size) (some ad) l.length l := Kd.F_below (Kd.C_F heapR hr) hBr
        have hHN : Kd.N k30 30 (wq.alloc (.cells #[] 30)) w.heap.size (fun _ => True) (.slice (some ⟨wq.heap.size, 0, none⟩) 0 0) [] := noRules wq (Nat.le_of_eq hqs.symm)
        rw [hqs] at hHN
        go_upto_region 4 with (at_builtin; go_must (refine Kd.N_append_rows k30 (w0 := w) w.heap.size rfl (.tmp 39) (.tmp 40) 22 30 _ 72 rfl Try.underlying22 info_rule rfl (by decide) (by decide) (.slice (some ⟨w.heap.size, 0, none⟩) 0 0) [] l (some ad) l.length c (fun _ => True) (fun k => k < w.heap.size) rfl rfl hHN hHF (fun k hk => ⟨trivial, fun e => by have hk' : k < w.heap.size := hk; injection e with e; rw [e] at hk'; exact Nat.lt_irrefl _ hk'⟩) (fun _ _ => trivial) hBr hBr.size (by simp; omega) ?_; intro v3 w3 hN3 hB3 hg3 hat3))
        rw [List.nil_append] at hN3
        clear hHF hHN hBr hg3 hat3
        obtain ⟨g, cap, rfl, hgb, _, _⟩ := Kd.N_form hN3 (by omega)
        obtain ⟨_, _, _, _, a0, a1, a2, a3, af⟩ := n_at hN3 hx
        have af0 := af 0
        have af1 := af 1
        have af2 := af 2
        have af3 := af 3
        simp only [Nat.add_zero] at af0
        have hyw3 := hyw.below hB3
        have b0 := hyw3.e0
        have b1 := hyw3.e1
        have b2 := hyw3.e2
        have b3 := hyw3.e3
        clear af
        go_upto_region 5 with fail
        obtain ⟨hN4, hg4⟩ := n_put hN3 hx (ruleF hyw hB3) (fun k hk => ⟨trivial, fun e => by have hk' : k < w.heap.size := hk; omega⟩)
        have hB4 := hB3.grown hg4 hB3.size (fun k hk => by injection hk with hk; omega)
        generalize (((w3.setCell ⟨g, a * 4, none⟩ (.string y.f0)).setCell ⟨g, a * 4 + 1, none⟩ (.slice A3 y.f1.length c3)).setCell ⟨g, a * 4 + 2, none⟩ (.slice A4 y.f2.length c4)).setCell ⟨g, a * 4 + 3, none⟩ (.bool y.f3) = w4 at hN4 hB4 ⊢
        clear a0 a1 a2 a3 af0 af1 af2 af3 b0 b1 b2 b3 hyw3 hg4
        have hy4 : (l.set a y)[a + 1]? = some y := by rw [List.getElem?_set_ne (by omega)]; exact hy
        obtain ⟨_, _, _, _, a0, a1, a2, a3, af⟩ := n_at hN4 hy4
        have af0 := af 0
        have af1 := af 1
        have af2 := af 2
        have af3 := af 3
        simp only [Nat.add_zero] at af0
        have hxw4 := hxw.below hB4
        have b0 := hxw4.e0
        have b1 := hxw4.e1
        have b2 := hxw4.e2
        have b3 := hxw4.e3
        clear af
        go_upto_region 6 with fail
        obtain ⟨hN5, hg5⟩ := n_put hN4 hy4 (ruleF hxw hB4) (fun k hk => ⟨trivial, fun e => by have hk' : k < w.heap.size := hk; omega⟩)
        have hB5 := hB4.grown hg5 hB4.size (fun k hk => by injection hk with hk; omega)
        generalize (((w4.setCell ⟨g, (a + 1) * 4, none⟩ (.string x.f0)).setCell ⟨g, (a + 1) * 4 + 1, none⟩ (.slice A1 x.f1.length c1)).setCell ⟨g, (a + 1) * 4 + 2, none⟩ (.slice A2 x.f2.length c2)).setCell ⟨g, (a + 1) * 4 + 3, none⟩ (.bool x.f3) = w5 at hN5 hB5 ⊢
        clear a0 a1 a2 a3 af0 af1 af2 af3 b0 b1 b2 b3 hxw4 hg5 x0 x1 x2 x3 y0 y1 y2 y3
        obtain ⟨t, ht⟩ : ∃ t, (l.set a y).set (a + 1) x = t := ⟨_, rfl⟩
        have htl : Hid (l.length = t.length) := by rw [← ht]; exact (by simp : l.length = ((l.set a y).set (a + 1) x).length)
        have hfit2 : ∀ z ∈ t, Fits z := by
          intro z hz
          rw [← ht] at hz
          rcases List.mem_or_eq_of_mem_set hz with hz | rfl
          · rcases List.mem_or_eq_of_mem_set hz with hz | rfl
            · exact hfit z hz
            · exact hfit _ (List.mem_of_getElem? hy)
          · exact hfit _ (List.mem_of_getElem? hx)
        have hsw : ((mergeL l).2.1 = 0 ↔ (mergeL t).2.1 = 0) ∧ ((mergeL l).2.1 = 0 → (mergeL l).1.length = (mergeL t).1.length ∧ ∀ r ∈ (mergeL l).1, r ∈ (mergeL t).1) := by
          have h6 := merge_swap (l.take a) (l.drop (a + 2)) hxy
          have e1 : l.take a ++ x :: y :: l.drop (a + 2) = l := by
            have e2 : l.drop a = x :: y :: l.drop (a + 2) := by
              rw [List.drop_eq_getElem_cons (by omega : a < l.length), List.drop_eq_getElem_cons h3, (List.getElem?_eq_some_iff.1 hx).2, (List.getElem?_eq_some_iff.1 hy).2]
            rw [← e2, List.take_append_drop]
          have e3 : l.take a ++ y :: x :: l.drop (a + 2) = t := by
            rw [← ht]
            have hal : (l.take a).length = a := by simp; omega
            conv => rhs; rw [← e1]
            rw [List.set_append_right _ _ (by omega), List.set_append_right _ _ (by omega)]
            simp [hal]
          rw [e1, e3] at h6
          exact h6
        rw [ht] at hN5
        have hC5 := (Kd.N_reads' hN5).2.2
        clear hN3 hN4 hN5 hB3 hB4 hy4 ht
        have hm1 := merge_calls (some ad) c l w5 (Kd.C_below hr hB5) hfit
        have hfi : (mergeL l).2.1 = 0 → ∀ r ∈ (mergeL l).1, r.f1.length ≤ 64 ∧ r.f2.length ≤ 64 := fun h0 r hr => ⟨((merge_fine h0).2.1 r hr).few, ((merge_fine h0).2.1 r hr).recs⟩
        generalize hM1 : mergeL l = M1 at hm1 hsw hfi
        generalize hM2 : mergeL t = M2 at hsw
        obtain ⟨m1, e1, i1⟩ := M1
        obtain ⟨m2, e2, i2⟩ := M2
        simp only [] at hm1 hsw hfi
        clear hfit hxy hxw hyw hx hy d7
        by_cases he : e1 = 0
        · obtain rfl := he
          have he2 : e2 = 0 := hsw.1.1 rfl
          subst he2
          obtain ⟨hlen, hmem0⟩ := hsw.2 rfl
          have hmem : Hid (∀ r ∈ m1, r ∈ m2) := hmem0
          have hfine : Hid (∀ r ∈ m1, r.f1.length ≤ 64 ∧ r.f2.length ≤ 64) := hfi rfl
          obtain ⟨n, hn1, hn2⟩ : ∃ n, Hid (m1.length = n) ∧ Hid (m2.length = n) := ⟨_, hlen, rfl⟩
          clear hlen hsw hmem0 hfi
          go_wp2_with fail
          refine hm1.mono ?_
          rintro e w6 ⟨v6, rfl, hO6, hb6⟩
          obtain ⟨Am, cm, rfl, hcm, hCm⟩ := Kd.R_reads hO6
          have hm2 := merge_calls (some ⟨g, 0, none⟩) cap t w6 (Kd.C_below hC5 hb6) hfit2
          rw [hM2, ← htl.out] at hm2
          simp only [] at hm2
          rw [hn1.out]
          go_wp2_with fail
          refine hm2.mono ?_
          rintro e w7 ⟨v7, rfl, hO7, hb7⟩
          obtain ⟨An, cn, rfl, hcn, hCn⟩ := Kd.R_reads hO7
          have hB7 : Below w.heap.size w w7 := below_t (below_t hB5 hb6) hb7
          have hO67 := Kd.R_below hO6 hb7
          rw [hn2.out]
          have hltn : n ≤ 9223372036854775807 := by have := hCm.2.1; rw [hn1.out] at this; exact this
          clear hm1 hm2 hM1 hM2 hC5 hfit2 hO6 hCm hCn hcm hcn htl
          go_upto_region 12 with fail
          go_wp2_with fail
          go_loopw [12] (fun i wr => ∃ k : Nat, i = .int .i64 (k : Int) ∧ k ≤ n ∧ Below w7.heap.size w7 wr) (fun i _ => n - (intOf i).toNat)
          case atStart => exact ⟨0, rfl, Nat.zero_le _, Below.refl _ _⟩
          case round =>
            obtain ⟨i, rfl, hi, hB⟩ := hrel
            by_cases hlt : i < n
            · have g1 : (i : Int) < (n : Int) := by omega
              have g2 : (0 : Int) ≤ (i : Int) := by omega
              obtain ⟨r, hri⟩ : ∃ r, m1[i]? = some r := ⟨_, List.getElem?_eq_getElem (by rw [hn1.out]; exact hlt)⟩
              have hrm := hmem.out r (List.mem_of_getElem? hri)
              go_wp2_with fail
              go_loopw [13, 14] (fun b i' wx => ∃ (q : Bool) (k : Nat), b = .bool q ∧ i' = .int .i64 (k : Int) ∧ k ≤ n ∧ (q = true ∨ r ∈ m2.drop k) ∧ Below w7.heap.size w7 wx) (fun _ i' _ => n - (intOf i').toNat)
              case atStart => exact ⟨false, 0, rfl, rfl, Nat.zero_le _, Or.inr (by simpa using hrm), hB⟩
              case round =>
                obtain ⟨q, k, rfl, rfl, hk, hq, hB'⟩ := hrel
                by_cases hltk : k < n
                · have g3 : (k : Int) < (n : Int) := by omega
                  have g4 : (0 : Int) ≤ (k : Int) := by omega
                  cases q with
                  | true =>
                    clear hq
                    go_wp2_with fail
                    go_quiet (fail)
                    go_wp2_with fail
                    go_roundw
                    case rel => exact ⟨true, k + 1, rfl, by go_num, by omega, Or.inl rfl, hB'.trans (pw_below_drewN (Below.refl _ _) nq)⟩
                    case measure => simp [intOf]; omega
                  | false =>
                    have hk2 : k < m2.length := by rw [hn2.out]; exact hltk
                    obtain ⟨z, hz⟩ : ∃ z, m2[k]? = some z := ⟨_, List.getElem?_eq_getElem hk2⟩
                    have hq2 : Hid (r ∈ m2.drop k) := hq.resolve_left (by simp)
                    clear hq hk2
                    have hO8 := Kd.R_below hO67 hB'
                    have hP8 := Kd.R_below hO7 hB'
                    obtain ⟨gm, cam, hfm, _, _⟩ := Kd.R_form hO8 (by rw [hn1.out]; omega)
                    injection hfm with hfm1 _ hfm3
                    subst hfm1 hfm3
                    obtain ⟨gn, can, hfn, _, _⟩ := Kd.R_form hP8 (by rw [hn2.out]; omega)
                    injection hfn with hfn1 _ hfn3
                    subst hfn1 hfn3
                    obtain ⟨B1, b1, B2, b2, k0, k1, k2, k3, hCB1, hCB2, hRB1, hRB2, _⟩ := out_at hO8 hri
                    obtain ⟨D1, d1', D2, d2', j0, j1, j2, j3, hCD1, hCD2, hRD1, hRD2, _⟩ := out_at hP8 hz
                    simp only [Nat.add_zero] at k0 j0
                    have hf := hfine.out r (List.mem_of_getElem? hri)
                    obtain ⟨kk, hkk⟩ := rule_ev r z (by omega) (by omega)
                    have hkk' := hkk kk (Nat.le_refl _)
                    have hss : Hid (sameR r z = true ↔ r = z) := sameR_iff
                    generalize sameR r z = s at hkk' hss
                    have hd : Below wr.heap.size wr wr.drew := below_drew (Below.refl _ wr)
                    have hcl := smithyplain_Rule.calls kk r.f0 B1 b1 r.f1 B2 b2 r.f2 r.f3 z.f0 D1 d1' z.f1 D2 d2' z.f2 z.f3 s wr.drew (Kd.C_below hCB1 hd) (Kd.R_reads' hRB1).2.1 (Kd.C_below hCB2 hd) (Kd.R_reads' hRB2).2.1 (Kd.C_below hCD1 hd) (Kd.R_reads' hRD1).2.1 (Kd.C_below hCD2 hd) (Kd.R_reads' hRD2).2.1 hkk'
                    clear hkk hkk' hf hO8 hP8 hCB1 hCB2 hCD1 hCD2 hRB1 hRB2 hRD1 hRD2
                    go_wp2_with fail
                    go_region_held3 (fun W' => W'.cell? ⟨gm, i * 4, none⟩ = some (.string r.f0) ∧ W'.cell? ⟨gm, i * 4 + 1, none⟩ = some (.slice B1 r.f1.length b1) ∧ W'.cell? ⟨gm, i * 4 + 2, none⟩ = some (.slice B2 r.f2.length b2) ∧ W'.cell? ⟨gm, i * 4 + 3, none⟩ = some (.bool r.f3) ∧ W'.cell? ⟨gn, k * 4, none⟩ = some (.string z.f0) ∧ W'.cell? ⟨gn, k * 4 + 1, none⟩ = some (.slice D1 z.f1.length d1') ∧ W'.cell? ⟨gn, k * 4 + 2, none⟩ = some (.slice D2 z.f2.length d2') ∧ W'.cell? ⟨gn, k * 4 + 3, none⟩ = some (.bool z.f3)) (first | exact ⟨k0, k1, k2, k3, j0, j1, j2, j3⟩ | exact ⟨pw_cell_below hb9 (pw_cell_below hd k0), pw_cell_below hb9 (pw_cell_below hd k1), pw_cell_below hb9 (pw_cell_below hd k2), pw_cell_below hb9 (pw_cell_below hd k3), pw_cell_below hb9 (pw_cell_below hd j0), pw_cell_below hb9 (pw_cell_below hd j1), pw_cell_below hb9 (pw_cell_below hd j2), pw_cell_below hb9 (pw_cell_below hd j3)⟩) ((go_at_call 11; refine hcl.mono ?_; rintro e w9 ⟨rfl, hb9⟩))
                    all_goals
                      have hB9 := hB'.trans ((hd.trans hb9).mono hB'.size)
                      go_wp2_with fail
                      go_roundw
                      case rel =>
                        refine ⟨s, k + 1, rfl, by go_num, by omega, ?_, hB9⟩
                        cases s with
                        | true => exact Or.inl rfl
                        | false =>
                          refine Or.inr ?_
                          have h9 := hq2.out
                          rw [List.drop_eq_getElem_cons (by rw [hn2.out]; exact hltk)] at h9
                          rcases List.mem_cons.1 h9 with e9 | e9
                          · rw [(List.getElem?_eq_some_iff.1 hz).2] at e9
                            exact absurd (hss.out.2 e9) (by simp)
                          · exact e9
                      case measure => simp [intOf]; omega
                · obtain rfl : n = k := by omega
                  have g3 : ¬ ((n : Int) < (n : Int)) := by omega
                  have hqt : q = true := hq.elim id (fun h => by rw [← hn2.out, List.drop_length] at h; cases h)
                  subst hqt
                  clear hq
                  go_wp2_with fail
                  go_roundw
                  case rel => exact ⟨i + 1, by go_num, by omega, hB'⟩
                  case measure => simp [intOf]; omega
            · obtain rfl : n = i := by omega
              have g1 : ¬ ((n : Int) < (n : Int)) := by omega
              go_wp2_with fail
              refine (hsp _).mono ?_
              rintro e w8 ⟨rfl, hb8⟩
              go_wp2_with fail
              go_ret
              exact ⟨rfl, below_t hB7 (below_t hB hb8)⟩
        · have he2 : ¬ e2 = 0 := fun h => he (hsw.1.2 h)
          clear hfi
          have he3 : (e1 == 0) = false := by simp [he]
          have he4 : (e2 == 0) = false := by simp [he2]
          go_wp2_with fail
          refine hm1.mono ?_
          rintro e w6 ⟨v6, rfl, hO6, hb6⟩
          obtain ⟨Am, cm, rfl, hcm, hCm⟩ := Kd.R_reads hO6
          have hm2 := merge_calls (some ⟨g, 0, none⟩) cap t w6 (Kd.C_below hC5 hb6) hfit2
          rw [hM2, ← htl.out] at hm2
          simp only [] at hm2
          go_wp2_with fail
          refine hm2.mono ?_
          rintro e w7 ⟨v7, rfl, hO7, hb7⟩
          obtain ⟨An, cn, rfl, hcn, hCn⟩ := Kd.R_reads hO7
          have hB7 : Below w.heap.size w w7 := below_t (below_t hB5 hb6) hb7
          go_wp2_with fail
          refine (hsp _).mono ?_
          rintro e w8 ⟨rfl, hb8⟩
          go_wp2_with fail
          go_ret
          exact ⟨rfl, below_t hB7 hb8⟩
end Go.Proofs.Ytkbcfbelpjifnaa.Spec
namespace Go.Proofs.Ytkbcfbelpjifnaa.Hand
open Go Go.RowKit Go.Proofs Go.Proofs.YtkbcfbelpjifnaaW.PrintWords Go.Proofs.Ytkbcfbelpjifnaa.PX Go.Proofs.Ytkbcfbelpjifnaa.Spec Go.Proofs.Ytkbcfbelpjifnaa.Opens

theorem len_sum {α : Type} (f : α → Nat) (h : ∀ x, 1 ≤ f x) : ∀ l : List α, l.length ≤ (l.map f).sum
  | [] => by simp
  | x :: l => by
    have := len_sum f h l
    have := h x
    rw [List.map_cons, List.sum_cons, List.length_cons]
    omega
theorem SpecialTurns.row (A : Option Addr) (c : Nat) (l : List S30) (n : Int) (w : World) (hB : bkL bkR l + 1 ≤ 1048576) (hw : (Lit.int .i64 n).wf = true) (hr : k30.C w A l.length l) (_hc : l.length ≤ c) :
    Calls Try.prog 4 #[.slice A l.length c, .int .i64 n] w fun e w' => e = .returned (.bool true) ∧ Below w.heap.size w w' := by
  have hl := len_sum bkR (fun x => by unfold bkR; omega) l
  have hB1 : bkL bkR l ≤ 1048576 := by omega
  have hB2 : (l.map bkR).sum + 1 ≤ 1048576 := hB1
  have e1 : IntKind.i64.min = -9223372036854775808 := rfl
  have e2 : IntKind.i64.max = 9223372036854775807 := rfl
  simp [Lit.wf, e1, e2] at hw
  exact turns_calls A c l n w hr (fits_of hB1) (by omega) ⟨by omega, by omega⟩
end Go.Proofs.Ytkbcfbelpjifnaa.Hand
