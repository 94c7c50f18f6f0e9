/- expand.read: the reference at the front of a text. -/
import Derived.Test.YtadfbbjplgbakaaGreatExp2
import Derived.Test.YtadfbbjplgbakaaGreatExpL
import Derived.Test.YtadfbbjplgbakaaGreatMacN
import Derived.Test.YtadfbbjplgbakaaGreatPXx2
import Derived.Test.YtadfbbjplgbakaaGreatPXx3
import Derived.Deep.RegionHeld3
namespace Go.Proofs.YtadfbbjplgbakaaGreat.Exp
open Go Go.RowKit Go.Proofs Go.Proofs.YtadfbbjplgbakaaGreatW.PrintWords Go.Proofs.YtadfbbjplgbakaaGreatW.PrintLast Go.Proofs.YtadfbbjplgbakaaGreatW.PrintMore Go.Proofs.YtadfbbjplgbakaaGreat.PX Go.Proofs.YtadfbbjplgbakaaGreat.Plain
set_option linter.unusedVariables false
set_option linter.unusedSimpArgs false

theorem five {w : World} {g : Nat} {c0 c1 c2 c3 c4 : Value} {t : TypeId} (h : w.heap[g]? = some (.cells #[c0, c1, c2, c3, c4] t (0, 0))) :
    w.cell? ⟨g, 0, none⟩ = some c0 ∧ w.cell? ⟨g, 1, none⟩ = some c1 ∧ w.cell? ⟨g, 2, none⟩ = some c2 ∧ w.cell? ⟨g, 3, none⟩ = some c3 ∧ w.cell? ⟨g, 4, none⟩ = some c4 ∧ w.frozen? ⟨g, 0, none⟩ = false ∧ w.frozen? ⟨g, 1, none⟩ = false ∧ w.frozen? ⟨g, 2, none⟩ = false ∧ w.frozen? ⟨g, 3, none⟩ = false ∧ w.frozen? ⟨g, 4, none⟩ = false :=
  ⟨cell_of_row w g 0 _ _ _ h, cell_of_row w g 1 _ _ _ h, cell_of_row w g 2 _ _ _ h, cell_of_row w g 3 _ _ _ h, cell_of_row w g 4 _ _ _ h, frozen_of_row w g 0 _ _ h, frozen_of_row w g 1 _ _ h, frozen_of_row w g 2 _ _ h, frozen_of_row w g 3 _ _ h, frozen_of_row w g 4 _ _ h⟩
abbrev set5 (w : World) (g : Nat) (v0 v1 v2 v3 v4 : Value) : World := ((((w.setCell ⟨g, 0, none⟩ v0).setCell ⟨g, 1, none⟩ v1).setCell ⟨g, 2, none⟩ v2).setCell ⟨g, 3, none⟩ v3).setCell ⟨g, 4, none⟩ v4
theorem fill5 {w w0 : World} {g B : Nat} {c0 c1 c2 c3 c4 : Value} {t : TypeId} (h : w.heap[g]? = some (.cells #[c0, c1, c2, c3, c4] t (0, 0))) (hb : Below B w0 w) (hg : B ≤ g) (v0 v1 v2 v3 v4 : Value) :
    (set5 w g v0 v1 v2 v3 v4).heap[g]? = some (.cells #[v0, v1, v2, v3, v4] t (0, 0)) ∧ Below B w0 (set5 w g v0 v1 v2 v3 v4) := by
  have k := fun (W : World) (cs : Array Value) (i : Nat) (u : Value) (hh : W.heap[g]? = some (.cells cs t (0, 0))) => heap_setCell_same W g i cs t u hh
  have h0 : (w.setCell ⟨g, 0, none⟩ v0).heap[g]? = some (.cells #[v0, c1, c2, c3, c4] t (0, 0)) := k _ _ 0 v0 h
  have h1 : ((w.setCell ⟨g, 0, none⟩ v0).setCell ⟨g, 1, none⟩ v1).heap[g]? = some (.cells #[v0, v1, c2, c3, c4] t (0, 0)) := k _ _ 1 v1 h0
  have h2 : (((w.setCell ⟨g, 0, none⟩ v0).setCell ⟨g, 1, none⟩ v1).setCell ⟨g, 2, none⟩ v2).heap[g]? = some (.cells #[v0, v1, v2, c3, c4] t (0, 0)) := k _ _ 2 v2 h1
  have h3 : ((((w.setCell ⟨g, 0, none⟩ v0).setCell ⟨g, 1, none⟩ v1).setCell ⟨g, 2, none⟩ v2).setCell ⟨g, 3, none⟩ v3).heap[g]? = some (.cells #[v0, v1, v2, v3, c4] t (0, 0)) := k _ _ 3 v3 h2
  have h4 : (set5 w g v0 v1 v2 v3 v4).heap[g]? = some (.cells #[v0, v1, v2, v3, v4] t (0, 0)) := k _ _ 4 v4 h3
  exact ⟨h4, ((((hb.setCell (p := ⟨g, 0, none⟩) hg v0).setCell (p := ⟨g, 1, none⟩) hg v1).setCell (p := ⟨g, 2, none⟩) hg v2).setCell (p := ⟨g, 3, none⟩) hg v3).setCell (p := ⟨g, 4, none⟩) hg v4⟩
theorem idx_shut (a z : UInt8) (t : List UInt8) (h1 : (36 : UInt8) ≠ z) (h2 : a ≠ z) : some (if (36 :: a :: t).contains z = true then ((aheadB z (36 :: a :: t)).length : Int) else -1) = some (if t.contains z = true then (((aheadB z t).length + 2 : Nat) : Int) else -1) := by
  have e1 : (36 :: a :: t).contains z = t.contains z := by
    simp only [List.contains_cons]
    rw [beq_eq_false_iff_ne.2 (fun h => h1 h.symm), beq_eq_false_iff_ne.2 (fun h => h2 h.symm)]
    rfl
  have e2 : aheadB z (36 :: a :: t) = 36 :: a :: aheadB z t := by
    unfold aheadB
    rw [List.takeWhile_cons, if_pos (by simpa using h1), List.takeWhile_cons, if_pos (by simpa using h2)]
  rw [e1, e2]
  rfl
abbrev set2 (w : World) (g : Nat) (v0 v1 : Value) : World := (w.setCell ⟨g, 0, none⟩ v0).setCell ⟨g, 1, none⟩ v1
theorem fill2 {w w0 : World} {g B : Nat} {c0 c1 c2 c3 c4 : Value} {t : TypeId} (h : w.heap[g]? = some (.cells #[c0, c1, c2, c3, c4] t (0, 0))) (hb : Below B w0 w) (hg : B ≤ g) (v0 v1 : Value) :
    (set2 w g v0 v1).heap[g]? = some (.cells #[v0, v1, c2, c3, c4] t (0, 0)) ∧ Below B w0 (set2 w g v0 v1) := by
  have k := fun (W : World) (cs : Array Value) (i : Nat) (u : Value) (hh : W.heap[g]? = some (.cells cs t (0, 0))) => heap_setCell_same W g i cs t u hh
  have h0 : (w.setCell ⟨g, 0, none⟩ v0).heap[g]? = some (.cells #[v0, c1, c2, c3, c4] t (0, 0)) := k _ _ 0 v0 h
  exact ⟨k _ _ 1 v1 h0, (hb.setCell (p := ⟨g, 0, none⟩) hg v0).setCell (p := ⟨g, 1, none⟩) hg v1⟩
theorem keep2 {w : World} {g i : Nat} {o : Obj} (h : w.heap[i]? = some o) (hg : i ≠ g) (v0 v1 : Value) : (set2 w g v0 v1).heap[i]? = some o := by
  have k := fun (W : World) (j : Nat) (u : Value) => heap_setCell_other W ⟨g, j, none⟩ i u hg
  unfold set2
  rw [k, k]
  exact h
abbrev set23 (w : World) (g : Nat) (v2 v3 : Value) : World := (w.setCell ⟨g, 2, none⟩ v2).setCell ⟨g, 3, none⟩ v3
theorem fill23 {w w0 : World} {g B : Nat} {c0 c1 c2 c3 c4 : Value} {t : TypeId} (h : w.heap[g]? = some (.cells #[c0, c1, c2, c3, c4] t (0, 0))) (hb : Below B w0 w) (hg : B ≤ g) (v2 v3 : Value) :
    (set23 w g v2 v3).heap[g]? = some (.cells #[c0, c1, v2, v3, c4] t (0, 0)) ∧ Below B w0 (set23 w g v2 v3) := by
  have k := fun (W : World) (cs : Array Value) (i : Nat) (u : Value) (hh : W.heap[g]? = some (.cells cs t (0, 0))) => heap_setCell_same W g i cs t u hh
  have h0 : (w.setCell ⟨g, 2, none⟩ v2).heap[g]? = some (.cells #[c0, c1, v2, c3, c4] t (0, 0)) := k _ _ 2 v2 h
  exact ⟨k _ _ 3 v3 h0, (hb.setCell (p := ⟨g, 2, none⟩) hg v2).setCell (p := ⟨g, 3, none⟩) hg v3⟩
theorem keep23 {w : World} {g i : Nat} {o : Obj} (h : w.heap[i]? = some o) (hg : i ≠ g) (v0 v1 : Value) : (set23 w g v0 v1).heap[i]? = some o := by
  have k := fun (W : World) (j : Nat) (u : Value) => heap_setCell_other W ⟨g, j, none⟩ i u hg
  unfold set23
  rw [k, k]
  exact h
theorem keep5 {w : World} {g i : Nat} {o : Obj} (h : w.heap[i]? = some o) (hg : i ≠ g) (v0 v1 v2 v3 v4 : Value) : (set5 w g v0 v1 v2 v3 v4).heap[i]? = some o := by
  have k := fun (W : World) (j : Nat) (u : Value) => heap_setCell_other W ⟨g, j, none⟩ i u hg
  unfold set5
  rw [k, k, k, k, k]
  exact h
abbrev rdT (r : Rf × Bool) : Value := .tuple #[.agg #[.string (B r.1.name), .bool r.1.swap, .string (B r.1.from_), .string (B r.1.to_), .int .i64 (r.1.size : Int)], .bool r.2]
theorem end_read (Q : Ending → World → Prop) (tmps : Array Value) (W : World) (g : Nat) (a c d : ByteArray) (b ok : Bool) (n : Int) (hp : tmps.getD 2 undef = .pointer (some ⟨g, 0, none⟩)) (hu : tmps.getD 3 undef = .bool ok)
    (hg : W.heap[g]? = some (.cells #[.string a, .bool b, .string c, .string d, .int .i64 n] 62 (0, 0))) (hQ : Q (.returned (.tuple #[.agg #[.string a, .bool b, .string c, .string d, .int .i64 n], .bool ok])) W) :
    bodyPost Tryz.prog Tryz.f30 Q .ret { tmps := tmps, defers := [] } W := by
  refine bodyPost_ret (results_ct rfl _ _ g 62 _ (0, 0) _ hp hg Tryz.underlying62 rfl (by kernel_rfl)) rfl ?_
  rw [hu]
  exact hQ
abbrev z5 : Obj := .cells #[.string (⟨#[]⟩ : ByteArray), .bool false, .string (⟨#[]⟩ : ByteArray), .string (⟨#[]⟩ : ByteArray), .int .i64 0] 62
def read_T22 : Bool × List (List Nat × List Nat) := (true, [([], []), ([], []), ([1], [1]), ([2], [2]), ([3, 3], [3]), ([4], [4]), ([5, 4], [4, 5]), ([6, 4, 4], [4, 6]), ([4, 7], [4, 7]), ([0, 7, 0], [0]), ([8, 9, 0, 1, 2, 3, 4, 5, 6, 7, 8, 9], [8])])
def read_B22 : List Nat := [0, 0, 2, 6, 14, 30, 62, 126, 254, 255, 1023]
theorem read_tab22 : rtab .any (opsOf Tryz.f30 22) = read_T22 := by kernel_rfl
theorem read_bits22 : waitsOk read_T22.2 read_B22 = true := by kernel_rfl
set_option maxHeartbeats 4000000 in
set_option maxRecDepth 100000 in
theorem read_calls (a0 : ByteArray) (w : World) (hs : a0.size ≤ 4611686018427387904) (h0 : (L a0).head? = some 36) :
    Calls Tryz.prog 30 #[.string a0] w fun e w' => e = .returned (rdT (rdX (L a0))) ∧ Below w.heap.size w w' := by
  have hu73 := Tryz.underlying62
  obtain ⟨l, hl⟩ : ∃ l, L a0 = l := ⟨_, rfl⟩
  have hz : a0.size = l.length := by rw [← hl]; exact size_L a0
  have hl' : Hid (L a0 = l) := hl
  rw [hl] at h0 ⊢
  clear hl
  have hl := hl'
  clear hl'
  rcases l with _ | ⟨x, _ | ⟨c, t⟩⟩
  · cases h0
  · have e1 : decide ((a0.size : Int) < 2) = true := decide_eq_true (by rw [hz]; simp)
    have e2 : decide (a0.size < 2) = true := decide_eq_true (by rw [hz]; simp)
    obtain ⟨q, hq⟩ : ∃ q, rdX [x] = q := ⟨_, rfl⟩
    have hq2 : q = (Rf.none, false) := by rw [← hq]; rfl
    rw [hq]
    clear hq hz h0
    subst hq2
    go_enter Tryz.func30, Tryz.ntmps30
    go_wp2_with (first | ((with_reducible refine gate_dst (N := 2) rfl ?_); refine box_event ?hg (N := 2) ?hd (cs := #[.string (⟨#[]⟩ : ByteArray), .bool false, .string (⟨#[]⟩ : ByteArray), .string (⟨#[]⟩ : ByteArray), .int .i64 0]) (t := 62) ?hr ?_; (case hd => rfl); (case hg => rfl); (case hr => first | (go_simp; done) | (go_simp; rfl)); intro G hG w1 hbx hb; have hb1 := below_step (Below.refl w.heap.size w) hb; have hwG := (by rw [hG]; exact Nat.le_refl _ : w.heap.size ≤ G); clear hb hG; obtain ⟨r0, r1, r2, r3, r4, q0, q1, q2, q3, q4⟩ := five hbx))
    obtain ⟨hf, hbf⟩ := fill5 hbx hb1 hwG (.string (⟨#[]⟩ : ByteArray)) (.bool false) (.string (⟨#[]⟩ : ByteArray)) (.string (⟨#[]⟩ : ByteArray)) (.int .i64 0)
    exact end_read _ _ _ G _ _ _ _ _ _ rfl rfl hf ⟨rfl, hbf⟩
  · have e1 : decide ((a0.size : Int) < 2) = false := decide_eq_false (by rw [hz]; simp only [List.length_cons]; omega)
    have e2 : decide (a0.size < 2) = false := decide_eq_false (by rw [hz]; simp)
    have e3 : (1 : Int) < (a0.size : Int) := by rw [hz]; simp only [List.length_cons]; omega
    have e4 : (2 : Int) ≤ (a0.size : Int) := by omega
    have hc : Hid (∀ h, a0[1]'h = c) := fun h => by
      have := hl.out
      have h1 : (L a0)[1]'(by rw [this]; simp) = c := by simp [this]
      exact h1
    have hz' : Hid (a0.size = t.length + 2) := by
      rw [show a0.size = t.length + 2 from by rw [hz]; simp]; rfl
    clear hz
    obtain rfl : x = 36 := by simpa using h0
    clear h0
    obtain ⟨q, hq'⟩ : ∃ q, rdX (36 :: c :: t) = q := ⟨_, rfl⟩
    rw [hq']
    have hq : Hid (rdX (36 :: c :: t) = q) := hq'
    clear hq'
    have hsg := fun W => expand_single.calls (c.toNat : Int) (oneB c) W (single_eq c)
    have hex : a0.extract 1 2 = B [c] := by rw [extract_B, hl.out]; rfl
    go_enter Tryz.func30, Tryz.ntmps30
    go_upto_region 4 with (first | ((with_reducible refine gate_dst (N := 2) rfl ?_); refine box_event ?hg (N := 2) ?hd (cs := #[.string (⟨#[]⟩ : ByteArray), .bool false, .string (⟨#[]⟩ : ByteArray), .string (⟨#[]⟩ : ByteArray), .int .i64 0]) (t := 62) ?hr ?_; (case hd => rfl); (case hg => rfl); (case hr => first | (go_simp; done) | (go_simp; rfl)); intro G hG w1 hbx hb; have hb1 := below_step (Below.refl w.heap.size w) hb; have hwG := (by rw [hG]; exact Nat.le_refl _ : w.heap.size ≤ G); clear hb hG))
    simp only [hc.out]
    by_cases h36 : c = 36 ∨ oneB c = true
    · have hq2 : q = (⟨[c], false, [], [], 2⟩, true) := by rw [← hq.out]; exact if_pos h36
      clear hq
      subst hq2
      obtain ⟨r0, r1, r2, r3, r4, q0, q1, q2, q3, q4⟩ := five hbx
      by_cases hc36 : c = 36
      · subst hc36
        clear hsg h36
        go_wp2_with fail
        obtain ⟨hf, hbf⟩ := fill5 hbx hb1 hwG (.string (B [36])) (.bool false) (.string (⟨#[]⟩ : ByteArray)) (.string (⟨#[]⟩ : ByteArray)) (.int .i64 2)
        exact end_read _ _ _ G _ _ _ _ _ _ rfl rfl hf ⟨rfl, hbf⟩
      · have hc37 : ((c.toNat : Int) == 36) = false := beq_eq_false_iff_ne.2 (fun h => hc36 (u8_eq.1 (Int.ofNat.inj h)))
        have ho : oneB c = true := h36.resolve_left hc36
        rw [ho] at hsg
        clear h36 hc36 ho
        go_wp2_with fail
        refine (hsg _).mono ?_
        rintro e w2 ⟨rfl, hd2⟩
        obtain ⟨⟨n2, rfl⟩⟩ := hd2
        go_wp2_with fail
        have hbx2 : (w1.drewN n2).heap[G]? = some _ := hbx
        obtain ⟨hf, hbf⟩ := fill5 hbx2 (pw_below_drewN hb1 n2) hwG (.string (B [c])) (.bool false) (.string (⟨#[]⟩ : ByteArray)) (.string (⟨#[]⟩ : ByteArray)) (.int .i64 2)
        exact end_read _ _ _ G _ _ _ _ _ _ rfl rfl hf ⟨rfl, hbf⟩
    · have hc37 : ((c.toNat : Int) == 36) = false := beq_eq_false_iff_ne.2 (fun h => h36 (.inl (u8_eq.1 (Int.ofNat.inj h))))
      have ho : oneB c = false := by
        cases h : oneB c with
        | false => rfl
        | true => exact absurd (.inr h) h36
      rw [ho] at hsg
      clear ho hex
      go_wp2_with fail
      refine (hsg _).mono ?_
      rintro e w2 ⟨rfl, hd2⟩
      obtain ⟨⟨n2, rfl⟩⟩ := hd2
      clear hsg hc37
      have hb2 := pw_below_drewN hb1 n2
      have hbx2 : (w1.drewN n2).heap[G]? = some _ := hbx
      clear hbx hb1
      generalize w1.drewN n2 = w2 at hb2 hbx2 ⊢
      obtain ⟨E, hE⟩ : ∃ E : Int, E = if c = 40 ∨ c = 123 then (if t.contains (shutB c) = true then (((aheadB (shutB c) t).length + 2 : Nat) : Int) else -1) else -1 := ⟨_, rfl⟩
      have hE' : Hid (E = if c = 40 ∨ c = 123 then (if t.contains (shutB c) = true then (((aheadB (shutB c) t).length + 2 : Nat) : Int) else -1) else -1) := hE
      clear hE
      go_upto_block 0 with fail
      go_cut [5] (fun v5 wc => v5 = .int .i64 E ∧ wc.heap[G]? = some (.cells #[.string (⟨#[]⟩ : ByteArray), .bool false, .string (⟨#[]⟩ : ByteArray), .string (⟨#[]⟩ : ByteArray), .int .i64 0] 62 (0, 0)) ∧ Below w.heap.size w wc)
      case first =>
        by_cases h40 : c = 40
        · subst h40
          have hv : strings_IndexByte.f a0 41 = some E := by
            rw [show (41 : Int) = ((41 : UInt8).toNat : Int) from rfl, indexB_eq, hl.out, hE'.out]
            exact (idx_shut 40 41 t (by decide) (by decide)).trans (congrArg some (if_pos (.inl rfl)).symm)
          have hv' := fun W => strings_IndexByte.calls a0 41 E W hv
          clear hv hE' hq hc
          go_wp2_with fail
          refine (hv' _).mono ?_
          rintro e w3 ⟨rfl, hd3⟩
          obtain ⟨⟨n3, rfl⟩⟩ := hd3
          go_wp2_with fail
          go_meet
          case rel => exact ⟨rfl, hbx2, pw_below_drewN hb2 n3⟩
        · have c1 : ((c.toNat : Int) == 40) = false := beq_eq_false_iff_ne.2 (fun h => h40 (u8_eq.1 (Int.ofNat.inj h)))
          by_cases h123 : c = 123
          · subst h123
            have hv : strings_IndexByte.f a0 125 = some E := by
              rw [show (125 : Int) = ((125 : UInt8).toNat : Int) from rfl, indexB_eq, hl.out, hE'.out]
              exact (idx_shut 123 125 t (by decide) (by decide)).trans (congrArg some (if_pos (.inr rfl)).symm)
            have hv' := fun W => strings_IndexByte.calls a0 125 E W hv
            clear hv hE' hq hc
            go_wp2_with fail
            refine (hv' _).mono ?_
            rintro e w3 ⟨rfl, hd3⟩
            obtain ⟨⟨n3, rfl⟩⟩ := hd3
            go_wp2_with fail
            go_meet
            case rel => exact ⟨rfl, hbx2, pw_below_drewN hb2 n3⟩
          · have c2 : ((c.toNat : Int) == 123) = false := beq_eq_false_iff_ne.2 (fun h => h123 (u8_eq.1 (Int.ofNat.inj h)))
            have hE2 : E = -1 := by rw [hE'.out, if_neg (fun h => h.elim h40 h123)]
            subst hE2
            clear hE' hq hc
            go_wp2_with fail
            go_meet
            case rel => exact ⟨rfl, hbx2, hb2⟩
      case rest =>
        obtain ⟨rfl, hbx, hb1⟩ := hcut
        clear hbx2 hb2 w2
        by_cases hneg : E < 0
        · have hq2 : q = (Rf.none, false) := by
            rw [← hq.out]
            have := hE'.out
            by_cases h1 : c = 40 ∨ c = 123
            · rw [if_pos h1] at this
              by_cases h2 : t.contains (shutB c) = true
              · rw [if_pos h2] at this; omega
              · exact (if_neg h36).trans ((if_pos h1).trans (if_neg h2))
            · exact (if_neg h36).trans (if_neg h1)
          clear hq hE' hc
          subst hq2
          obtain ⟨r0, r1, r2, r3, r4, q0, q1, q2, q3, q4⟩ := five hbx
          go_wp2_with fail
          obtain ⟨hf, hbf⟩ := fill5 hbx hb1 hwG (.string (⟨#[]⟩ : ByteArray)) (.bool false) (.string (⟨#[]⟩ : ByteArray)) (.string (⟨#[]⟩ : ByteArray)) (.int .i64 0)
          exact end_read _ _ _ G _ _ _ _ _ _ rfl rfl hf ⟨rfl, hbf⟩
        · obtain ⟨inn, hin⟩ : ∃ inn, aheadB (shutB c) t = inn := ⟨_, rfl⟩
          have hcc : (c = 40 ∨ c = 123) ∧ t.contains (shutB c) = true := by
            have := hE'.out
            by_cases h1 : c = 40 ∨ c = 123
            · refine ⟨h1, ?_⟩
              rw [if_pos h1] at this
              by_cases h2 : t.contains (shutB c) = true
              · exact h2
              · rw [if_neg h2] at this; omega
            · rw [if_neg h1] at this; omega
          have hEn : E = ((inn.length + 2 : Nat) : Int) := by rw [hE'.out, if_pos hcc.1, if_pos hcc.2, hin]
          have hq2 : rdIn inn = q := by
            rw [← hq.out, ← hin]
            exact ((if_neg h36).trans ((if_pos hcc.1).trans (if_pos hcc.2))).symm
          have hle : inn.length ≤ t.length := by rw [← hin]; exact ahead_le _ _
          have hext : a0.extract 2 (inn.length + 2) = B inn := by
            rw [extract_B, hl.out, ← hin, ahead_eq]
            simp
          obtain ⟨m, hm⟩ : ∃ m, inn.length = m := ⟨_, rfl⟩
          rw [hm] at hEn hle hext
          have hz2 := hz'.out
          have hct := cut_eq (B inn) 58 (by rw [size_L, L_B, hm]; omega)
          rw [L_B] at hct
          have hin2 : Hid (inn.length = m) := hm
          clear hin hcc hE' hc hm hneg hq hz'
          subst hEn
          have c0 : decide (((m + 2 : Nat) : Int) < 0) = false := decide_eq_false (by omega)
          have c3 : (2 : Int) ≤ ((m + 2 : Nat) : Int) := by omega
          have c4 : ((m + 2 : Nat) : Int) ≤ (a0.size : Int) := by omega
          have c5 : wrap64 (((m + 2 : Nat) : Int) + 1) = ((m + 3 : Nat) : Int) := by rw [wrap_id (by omega) (by omega)]; omega
          obtain ⟨M, hM⟩ : ∃ M : Int, ((m + 2 : Nat) : Int) = M := ⟨_, rfl⟩
          have hM2 : M.toNat = m + 2 := by omega
          rw [← hM2] at hext
          rw [hM] at c0 c3 c4 c5 ⊢
          have hmle : m + 2 ≤ 4611686018427387904 := by omega
          clear hM hle hz2 hM2
          obtain ⟨nm, hnm⟩ : ∃ nm, aheadB 58 inn = nm := ⟨_, rfl⟩
          obtain ⟨sw, hsw⟩ : ∃ sw, inn.contains 58 = sw := ⟨_, rfl⟩
          obtain ⟨hw, hhw⟩ : ∃ hw, (if sw = true then B (behindB 58 inn) else (⟨#[]⟩ : ByteArray)) = hw := ⟨_, rfl⟩
          rw [hnm, hsw, hhw] at hct
          have hcut := fun W => strings_Cut.calls _ _ _ _ _ W hct
          clear hct
          have F1 : Hid (aheadB 58 inn = nm ∧ inn.contains 58 = sw ∧ (if sw = true then B (behindB 58 inn) else (⟨#[]⟩ : ByteArray)) = hw ∧ rdIn inn = q ∧ inn.length = m ∧ m + 2 ≤ 4611686018427387904 ∧ nm.length ≤ m) := ⟨hnm, hsw, hhw, hq2, hin2.out, hmle, by rw [← hnm, ← hin2.out]; exact ahead_le _ _⟩
          clear hnm hsw hhw hq2 hin2
          go_wp2_with (first | ((with_reducible refine gate_dst (N := 6) rfl ?_); refine box_event ?hg (N := 6) ?hd (cs := #[.string (⟨#[]⟩ : ByteArray), .bool false, .string (⟨#[]⟩ : ByteArray), .string (⟨#[]⟩ : ByteArray), .int .i64 0]) (t := 62) ?hr ?_; (case hd => rfl); (case hg => rfl); (case hr => first | (go_simp; done) | (go_simp; rfl)); intro G2 hG2 w2 hbx2 hb; have hb2 := below_step hb1 hb; have hbx3 := (hb.block G (blk_lt hbx)).trans hbx; have hwG2 := (by rw [hG2]; exact below_size hb1 : w.heap.size ≤ G2); have hGG := (by rw [hG2]; exact Nat.ne_of_lt (blk_lt hbx) : G ≠ G2); clear hb hG2; obtain ⟨r0, r1, r2, r3, r4, q0, q1, q2, q3, q4⟩ := five hbx2))
          obtain ⟨hf, hbf⟩ := fill5 hbx2 hb2 hwG2 (.string (⟨#[]⟩ : ByteArray)) (.bool false) (.string (⟨#[]⟩ : ByteArray)) (.string (⟨#[]⟩ : ByteArray)) (.int .i64 (M + 1))
          have hk := keep5 hbx3 hGG (.string (⟨#[]⟩ : ByteArray)) (.bool false) (.string (⟨#[]⟩ : ByteArray)) (.string (⟨#[]⟩ : ByteArray)) (.int .i64 (M + 1))
          clear hbx hb1 hbx2 hb2 hbx3 r0 r1 r2 r3 r4 q0 q1 q2 q3 q4
          unfold set5 at hf hk hbf
          generalize (((((w2.setCell ⟨G2, 0, none⟩ (Value.string (⟨#[]⟩ : ByteArray))).setCell ⟨G2, 1, none⟩ (Value.bool false)).setCell ⟨G2, 2, none⟩ (Value.string (⟨#[]⟩ : ByteArray))).setCell ⟨G2, 3, none⟩ (Value.string (⟨#[]⟩ : ByteArray))).setCell ⟨G2, 4, none⟩ (Value.int .i64 (M + 1))) = w3 at hf hk hbf ⊢
          refine (hcut _).mono ?_
          rintro e w4 ⟨rfl, hd4⟩
          obtain ⟨⟨n4, rfl⟩⟩ := hd4
          have hbf2 := pw_below_drewN hbf n4
          have hf2 : (w3.drewN n4).heap[G2]? = some _ := hf
          have hk2 : (w3.drewN n4).heap[G]? = some _ := hk
          clear hf hk hbf hcut
          generalize w3.drewN n4 = w4 at hbf2 hf2 hk2 ⊢
          obtain ⟨r0, r1, r2, r3, r4, q0, q1, q2, q3, q4⟩ := five hf2
          have hf2' := Aside0.mk hf2
          have hk2' := Aside0.mk hk2
          have hb2' := Aside0.mk hbf2
          clear hf2 hk2 hbf2
          go_upto_region 17 with fail
          obtain ⟨hf, hbf⟩ := fill2 hf2'.out hb2'.out hwG2 (.string (B nm)) (.bool sw)
          have hk := keep2 hk2'.out hGG (.string (B nm)) (.bool sw)
          clear hf2' hk2' hb2' r0 r1 r2 r3 r4 q0 q1 q2 q3 q4
          unfold set2 at hf hk hbf
          generalize ((w4.setCell ⟨G2, 0, none⟩ (Value.string (B nm))).setCell ⟨G2, 1, none⟩ (Value.bool sw)) = w5 at hf hk hbf ⊢
          obtain ⟨r0, r1, r2, r3, r4, q0, q1, q2, q3, q4⟩ := five hf
          go_upto_if 50 with fail
          go_cut [6] (fun v6 wc => v6 = .pointer (some ⟨G2, 0, none⟩) ∧ ∃ fr tt : List UInt8, q = (⟨nm, sw, fr, tt, m + 3⟩, namL nm || innL nm) ∧ wc.heap[G2]? = some (.cells #[.string (B nm), .bool sw, .string (B fr), .string (B tt), .int .i64 (M + 1)] 62 (0, 0)) ∧ wc.heap[G]? = some (.cells #[.string (⟨#[]⟩ : ByteArray), .bool false, .string (⟨#[]⟩ : ByteArray), .string (⟨#[]⟩ : ByteArray), .int .i64 0] 62 (0, 0)) ∧ Below w.heap.size w wc)
          case first =>
            obtain ⟨E1, F2, F3, F4, F5, F6⟩ := F1.out
            cases sw with
            | false =>
              go_wp2_with fail
              go_meet
              case rel => exact ⟨rfl, [], [], by rw [← F4, ← E1, ← F5]; exact if_neg (by rw [F2]; decide), hf, hk, hbf⟩
            | true =>
              obtain ⟨how, hho⟩ : ∃ how, behindB 58 inn = how := ⟨_, rfl⟩
              have hhl : how.length ≤ inn.length := by rw [← hho]; unfold behindB; rw [List.length_drop]; omega
              rw [if_pos rfl, hho] at F3
              subst F3
              have hct := cut_eq (B how) 61 (by rw [size_L, L_B]; omega)
              rw [L_B] at hct
              have hcd := cont_eq (B how) 36
              rw [L_B] at hcd
              have hq2 : q = if how.contains 61 = true ∧ how.contains 36 = false then (⟨nm, true, aheadB 61 how, behindB 61 how, m + 3⟩, namL nm || innL nm) else (Rf.none, false) := by
                rw [← F4, ← hho, ← E1, ← F5]
                exact if_pos F2
              clear F4 hho hhl c0 c3 c4 c5 hext F1 E1 F2 F5 F6
              obtain ⟨fr, hfr⟩ : ∃ fr, aheadB 61 how = fr := ⟨_, rfl⟩
              obtain ⟨ok, hok⟩ : ∃ ok, how.contains 61 = ok := ⟨_, rfl⟩
              obtain ⟨dl, hdl⟩ : ∃ dl, how.contains 36 = dl := ⟨_, rfl⟩
              obtain ⟨tt, htt⟩ : ∃ tt, behindB 61 how = tt := ⟨_, rfl⟩
              rw [hfr, hok, htt] at hct
              rw [hdl] at hcd
              rw [hfr, hok, hdl, htt] at hq2
              have hq3 := Aside0.mk hq2
              clear hfr hok hdl htt hq2
              obtain ⟨ts, hts⟩ : ∃ ts, (if ok = true then B tt else (⟨#[]⟩ : ByteArray)) = ts := ⟨_, rfl⟩
              rw [hts] at hct
              have hts := Aside0.mk hts
              have hcut := fun W => strings_Cut.calls _ _ _ _ _ W hct
              have hcon := fun W => strings_Contains.calls _ _ _ W hcd
              clear hct hcd
              go_wp2_with fail
              refine (hcut _).mono ?_
              rintro e w6 ⟨rfl, hd6⟩
              obtain ⟨⟨n6, rfl⟩⟩ := hd6
              have hbf2 := pw_below_drewN hbf n6
              have hf2 : (w5.drewN n6).heap[G2]? = some _ := hf
              have hk2 : (w5.drewN n6).heap[G]? = some _ := hk
              clear hf hk hbf hcut r0 r1 r2 r3 r4 q0 q1 q2 q3 q4
              generalize w5.drewN n6 = w6 at hbf2 hf2 hk2 ⊢
              obtain ⟨r0, r1, r2, r3, r4, q0, q1, q2, q3, q4⟩ := five hf2
              go_upto_region 20 with fail
              obtain ⟨hf, hbf⟩ := fill23 hf2 hbf2 hwG2 (.string (B fr)) (.string ts)
              have hk := keep23 hk2 hGG (.string (B fr)) (.string ts)
              clear hf2 hk2 hbf2 r0 r1 r2 r3 r4 q0 q1 q2 q3 q4
              unfold set23 at hf hk hbf
              generalize ((w6.setCell ⟨G2, 2, none⟩ (.string (B fr))).setCell ⟨G2, 3, none⟩ (.string ts)) = w7 at hf hk hbf ⊢
              cases ok with
              | false =>
                have hq4 : q = (Rf.none, false) := hq3.out.trans (if_neg (by simp))
                clear hq3 hcon
                subst hq4
                obtain ⟨r0, r1, r2, r3, r4, q0, q1, q2, q3, q4⟩ := five hk
                go_wp2_with fail
                obtain ⟨hf, hbf⟩ := fill5 hk hbf hwG (.string (⟨#[]⟩ : ByteArray)) (.bool false) (.string (⟨#[]⟩ : ByteArray)) (.string (⟨#[]⟩ : ByteArray)) (.int .i64 0)
                exact end_read _ _ _ G _ _ _ _ _ _ rfl rfl hf ⟨rfl, hbf⟩
              | true =>
                obtain rfl := hts.out
                clear hts
                go_wp2_with fail
                refine (hcon _).mono ?_
                rintro e w8 ⟨rfl, hd8⟩
                obtain ⟨⟨n8, rfl⟩⟩ := hd8
                have hbf2 := pw_below_drewN hbf n8
                have hf2 : (w7.drewN n8).heap[G2]? = some _ := hf
                have hk2 : (w7.drewN n8).heap[G]? = some _ := hk
                clear hf hk hbf hcon
                generalize w7.drewN n8 = w8 at hbf2 hf2 hk2 ⊢
                cases dl with
                | true =>
                  have hq4 : q = (Rf.none, false) := hq3.out.trans (if_neg (by simp))
                  clear hq3
                  subst hq4
                  obtain ⟨r0, r1, r2, r3, r4, q0, q1, q2, q3, q4⟩ := five hk2
                  go_wp2_with fail
                  obtain ⟨hf, hbf⟩ := fill5 hk2 hbf2 hwG (.string (⟨#[]⟩ : ByteArray)) (.bool false) (.string (⟨#[]⟩ : ByteArray)) (.string (⟨#[]⟩ : ByteArray)) (.int .i64 0)
                  exact end_read _ _ _ G _ _ _ _ _ _ rfl rfl hf ⟨rfl, hbf⟩
                | false =>
                  have hq4 := hq3.out.trans (if_pos (by simp))
                  clear hq3
                  go_wp2_with fail
                  go_meet
                  case rel => exact ⟨rfl, fr, tt, hq4, hf2, hk2, hbf2⟩
          case rest =>
            clear hf hk hbf r0 r1 r2 r3 r4 q0 q1 q2 q3 q4 w5
            obtain ⟨rfl, fr, tt, hq2, hf, hk, hbf⟩ := hcut
            have hM : M + 1 = ((m + 3 : Nat) : Int) := by
              have := wrap_id (x := M + 1) (by omega) (by omega)
              omega
            rw [hM] at hf
            have F6 := F1.out.2.2.2.2.2
            clear F1 hext c0 c3 c4 c5 hM
            subst hq2
            have hb3 := F6
            have hn1 := fun W => macro_Name.calls (B nm) (namL nm) W (by unfold macro_Name.f; rw [if_pos (by rw [size_L, L_B]; have := hb3.2; have := hb3.1; omega), name_eq, L_B])
            have hn2 := fun W => (expand_isInner.calls (B nm) (innL nm) W (inner_eq (B nm))).mono fun e w' h => (⟨h.1, h.2.below⟩ : e = .returned (.bool (innL nm)) ∧ Below W.heap.size W w')
            clear hb3 F6
            obtain ⟨y1, hy1⟩ : ∃ y1, namL nm = y1 := ⟨_, rfl⟩
            obtain ⟨y2, hy2⟩ : ∃ y2, innL nm = y2 := ⟨_, rfl⟩
            rw [hy1] at hn1
            rw [hy2] at hn2
            have hy : Hid ((namL nm || innL nm) = (y1 || y2)) := by rw [hy1, hy2]; rfl
            clear hy1 hy2
            obtain ⟨r0, r1, r2, r3, r4, q0, q1, q2, q3, q4⟩ := five hf
            obtain ⟨s0, s1, s2, s3, s4, p0, p1, p2, p3, p4⟩ := five hk
            cases y1 with
            | true =>
              go_wp2_with fail
              refine start_ (n := 11) (S := fun W' => W'.cell? ⟨G2, 0, none⟩ = some (.string (B nm)) ∧ W'.cell? ⟨G2, 1, none⟩ = some (.bool sw) ∧ W'.cell? ⟨G2, 2, none⟩ = some (.string (B fr)) ∧ W'.cell? ⟨G2, 3, none⟩ = some (.string (B tt)) ∧ W'.cell? ⟨G2, 4, none⟩ = some (.int .i64 ((m + 3 : Nat) : Int))) (ds := []) #[false, false, false, false, false, false, false, false, false, false, false] (by kernel_rfl) rfl rfl ⟨r0, r1, r2, r3, r4⟩ (fun hHeld => ?_); refine with_tabW read_tab22 read_bits22 (fun HT_ HW_ => ?_)
              have hf := (blk_drew hf)
              have hk := (blk_drew hk)
              have hbf := below_drew1 hbf
              generalize wc.drew = wd at hf hk hbf hHeld ⊢
              refine pure_ (i := 1) (N := some 67) (v := ?_) (a' := ?_) #[false, true, false, false, false, false, false, false, false, false, false] rfl rfl (any_of HT_.out (by kernel_rfl)) (fun _ _ _ h => h) (Or.inl ⟨by rfl, ?_⟩) ?_ ?_
              rotate_left
              · intro w'
                go_simp
                with_reducible rfl
              rotate_left
              · simp only [Act.put, List.setIfInBounds_toArray, List.set_cons_zero, List.set_cons_succ, i64_w, i32_w]
                rfl
              refine take_ (i := 0) (N := some 66) (v := ?_) (a' := ?_) #[true, true, false, false, false, false, false, false, false, false, false] rfl rfl (take_ofW HT_.out HW_.out (by kernel_rfl)) (fun _ _ _ h => h) (Or.inl ⟨by rfl, ?_⟩) hHeld ?_ ?_
              rotate_left
              · rintro w' ⟨s0, s1, s2, s3, s4⟩
                go_simp
                with_reducible rfl
              rotate_left
              · simp only [Act.put, List.setIfInBounds_toArray, List.set_cons_zero, List.set_cons_succ, i64_w, i32_w]
                rfl
              refine take_ (i := 2) (N := some 68) (v := ?_) (a' := ?_) #[true, true, true, false, false, false, false, false, false, false, false] rfl rfl (take_ofW HT_.out HW_.out (by kernel_rfl)) (fun _ _ _ h => h) (Or.inl ⟨by rfl, ?_⟩) hHeld ?_ ?_
              rotate_left
              · rintro w' ⟨s0, s1, s2, s3, s4⟩
                go_simp
                with_reducible rfl
              rotate_left
              · simp only [Act.put, List.setIfInBounds_toArray, List.set_cons_zero, List.set_cons_succ, i64_w, i32_w]
                rfl
              refine one_ (i := 3) (N := some 69) #[true, true, true, true, false, false, false, false, false, false, false] rfl rfl (one_of HT_.out (by kernel_rfl)) (by decide) (fun K hK => ?_)
              refine goes_ Tryz.func36 (by kernel_rfl) rfl #[.string (B nm)] (by rfl) rfl rfl (by (try simp only [List.map_toArray, List.map_cons, List.map_nil]); first | done | rfl) ?_
              refine (hn1 _).mono ?_
              rintro e we ⟨rfl, hb⟩
              refine ⟨_, rfl, ?_⟩
              have hf := blk_below hf hb
              have hk := blk_below hk hb
              have hbf := below_step hbf hb
              clear hb
              obtain ⟨r0, r1, r2, r3, r4, q0, q1, q2, q3, q4⟩ := five hf
              refine hK.out _ _ ⟨r0, r1, r2, r3, r4⟩ (fun hHeld => ?_)
              clear hK K
              refine norm_ (a' := ?_) ?_ ?_
              rotate_left
              · show Act.put _ (some 69) _ = _
                simp only [Act.put, List.setIfInBounds_toArray, List.set_cons_zero, List.set_cons_succ, i64_w, i32_w]
                rfl
              refine pure_ (i := 4) (N := some 70) (v := ?_) (a' := ?_) #[true, true, true, true, true, false, false, false, false, false, false] rfl rfl (any_of HT_.out (by kernel_rfl)) (fun _ _ _ h => h) (Or.inl ⟨by rfl, ?_⟩) ?_ ?_
              rotate_left
              · intro w'
                go_simp
                with_reducible rfl
              rotate_left
              · simp only [Act.put, List.setIfInBounds_toArray, List.set_cons_zero, List.set_cons_succ, i64_w, i32_w]
                rfl
              refine pure_ (i := 5) (N := some 71) (v := undef) (a' := ?_) #[true, true, true, true, true, true, false, false, false, false, false] rfl rfl (any_of HT_.out (by kernel_rfl)) (fun _ _ _ h => h) (Or.inr ⟨by rfl, rfl⟩) ?_ ?_
              rotate_left
              · simp only [Act.put, List.setIfInBounds_toArray, List.set_cons_zero, List.set_cons_succ, i64_w, i32_w]
                rfl
              refine pure_ (i := 6) (N := some 72) (v := undef) (a' := ?_) #[true, true, true, true, true, true, true, false, false, false, false] rfl rfl (any_of HT_.out (by kernel_rfl)) (fun _ _ _ h => h) (Or.inr ⟨by rfl, rfl⟩) ?_ ?_
              rotate_left
              · simp only [Act.put, List.setIfInBounds_toArray, List.set_cons_zero, List.set_cons_succ, i64_w, i32_w]
                rfl
              refine pure_ (i := 7) (N := some 73) (v := undef) (a' := ?_) #[true, true, true, true, true, true, true, true, false, false, false] rfl rfl (any_of HT_.out (by kernel_rfl)) (fun _ _ _ h => h) (Or.inr ⟨by rfl, rfl⟩) ?_ ?_
              rotate_left
              · simp only [Act.put, List.setIfInBounds_toArray, List.set_cons_zero, List.set_cons_succ, i64_w, i32_w]
                rfl
              refine pure_ (i := 8) (N := some 74) (v := ?_) (a' := ?_) #[true, true, true, true, true, true, true, true, true, false, false] rfl rfl (any_of HT_.out (by kernel_rfl)) (fun _ _ _ h => h) (Or.inl ⟨by rfl, ?_⟩) ?_ ?_
              rotate_left
              · intro w'
                go_simp
                with_reducible rfl
              rotate_left
              · simp only [Act.put, List.setIfInBounds_toArray, List.set_cons_zero, List.set_cons_succ, i64_w, i32_w]
                rfl
              refine one_ (i := 9) (N := none) #[true, true, true, true, true, true, true, true, true, true, false] rfl rfl (one_of HT_.out (by kernel_rfl)) (by decide) (fun K hK => ?_)
              obtain ⟨s0, s1, s2, s3, s4, p0, p1, p2, p3, p4⟩ := five hk
              refine skip_ (w1 := ?_) (by rfl) rfl ?_ ?_
              rotate_left
              · go_simp
                rfl
              obtain ⟨hf5, hbf5⟩ := fill5 hk hbf hwG (.string (B nm)) (.bool sw) (.string (B fr)) (.string (B tt)) (.int .i64 ((m + 3 : Nat) : Int))
              have hk5 := keep5 hf (Ne.symm hGG) (.string (B nm)) (.bool sw) (.string (B fr)) (.string (B tt)) (.int .i64 ((m + 3 : Nat) : Int))
              obtain ⟨r0, r1, r2, r3, r4, q0, q1, q2, q3, q4⟩ := five hk5
              refine hK.out _ _ ⟨r0, r1, r2, r3, r4⟩ (fun hHeld => ?_)
              clear hK K
              refine pure_ (i := 10) (N := some 3) (v := ?_) (a' := ?_) #[true, true, true, true, true, true, true, true, true, true, true] rfl rfl (any_of HT_.out (by kernel_rfl)) (fun _ _ _ h => h) (Or.inl ⟨by rfl, ?_⟩) ?_ ?_
              rotate_left
              · intro w'
                go_simp
                with_reducible rfl
              rotate_left
              · simp only [Act.put, List.setIfInBounds_toArray, List.set_cons_zero, List.set_cons_succ, i64_w, i32_w]
                rfl
              refine done_ (done_of HT_.out (by kernel_rfl)) ?_
              clear hf hk hbf hHeld r0 r1 r2 r3 r4 q0 q1 q2 q3 q4 s0 s1 s2 s3 s4 p0 p1 p2 p3 p4
              go_wp2_with fail
              exact end_read _ _ _ G _ _ _ _ _ _ rfl rfl hf5 ⟨by rw [show (rdT _) = _ from congrArg (fun b => rdT ((⟨nm, sw, fr, tt, m + 3⟩ : Rf), b)) hy.out]; rfl, hbf5⟩
            | false =>
              go_wp2_with fail
              refine start_ (n := 11) (S := fun W' => W'.cell? ⟨G2, 0, none⟩ = some (.string (B nm)) ∧ W'.cell? ⟨G2, 1, none⟩ = some (.bool sw) ∧ W'.cell? ⟨G2, 2, none⟩ = some (.string (B fr)) ∧ W'.cell? ⟨G2, 3, none⟩ = some (.string (B tt)) ∧ W'.cell? ⟨G2, 4, none⟩ = some (.int .i64 ((m + 3 : Nat) : Int))) (ds := []) #[false, false, false, false, false, false, false, false, false, false, false] (by kernel_rfl) rfl rfl ⟨r0, r1, r2, r3, r4⟩ (fun hHeld => ?_); refine with_tabW read_tab22 read_bits22 (fun HT_ HW_ => ?_)
              have hf := (blk_drew hf)
              have hk := (blk_drew hk)
              have hbf := below_drew1 hbf
              generalize wc.drew = wd at hf hk hbf hHeld ⊢
              refine pure_ (i := 1) (N := some 67) (v := ?_) (a' := ?_) #[false, true, false, false, false, false, false, false, false, false, false] rfl rfl (any_of HT_.out (by kernel_rfl)) (fun _ _ _ h => h) (Or.inl ⟨by rfl, ?_⟩) ?_ ?_
              rotate_left
              · intro w'
                go_simp
                with_reducible rfl
              rotate_left
              · simp only [Act.put, List.setIfInBounds_toArray, List.set_cons_zero, List.set_cons_succ, i64_w, i32_w]
                rfl
              refine take_ (i := 0) (N := some 66) (v := ?_) (a' := ?_) #[true, true, false, false, false, false, false, false, false, false, false] rfl rfl (take_ofW HT_.out HW_.out (by kernel_rfl)) (fun _ _ _ h => h) (Or.inl ⟨by rfl, ?_⟩) hHeld ?_ ?_
              rotate_left
              · rintro w' ⟨s0, s1, s2, s3, s4⟩
                go_simp
                with_reducible rfl
              rotate_left
              · simp only [Act.put, List.setIfInBounds_toArray, List.set_cons_zero, List.set_cons_succ, i64_w, i32_w]
                rfl
              refine take_ (i := 2) (N := some 68) (v := ?_) (a' := ?_) #[true, true, true, false, false, false, false, false, false, false, false] rfl rfl (take_ofW HT_.out HW_.out (by kernel_rfl)) (fun _ _ _ h => h) (Or.inl ⟨by rfl, ?_⟩) hHeld ?_ ?_
              rotate_left
              · rintro w' ⟨s0, s1, s2, s3, s4⟩
                go_simp
                with_reducible rfl
              rotate_left
              · simp only [Act.put, List.setIfInBounds_toArray, List.set_cons_zero, List.set_cons_succ, i64_w, i32_w]
                rfl
              refine one_ (i := 3) (N := some 69) #[true, true, true, true, false, false, false, false, false, false, false] rfl rfl (one_of HT_.out (by kernel_rfl)) (by decide) (fun K hK => ?_)
              refine goes_ Tryz.func36 (by kernel_rfl) rfl #[.string (B nm)] (by rfl) rfl rfl (by (try simp only [List.map_toArray, List.map_cons, List.map_nil]); first | done | rfl) ?_
              refine (hn1 _).mono ?_
              rintro e we ⟨rfl, hb⟩
              refine ⟨_, rfl, ?_⟩
              have hf := blk_below hf hb
              have hk := blk_below hk hb
              have hbf := below_step hbf hb
              clear hb
              obtain ⟨r0, r1, r2, r3, r4, q0, q1, q2, q3, q4⟩ := five hf
              refine hK.out _ _ ⟨r0, r1, r2, r3, r4⟩ (fun hHeld => ?_)
              clear hK K
              refine norm_ (a' := ?_) ?_ ?_
              rotate_left
              · show Act.put _ (some 69) _ = _
                simp only [Act.put, List.setIfInBounds_toArray, List.set_cons_zero, List.set_cons_succ, i64_w, i32_w]
                rfl
              refine pure_ (i := 4) (N := some 70) (v := ?_) (a' := ?_) #[true, true, true, true, true, false, false, false, false, false, false] rfl rfl (any_of HT_.out (by kernel_rfl)) (fun _ _ _ h => h) (Or.inl ⟨by rfl, ?_⟩) ?_ ?_
              rotate_left
              · intro w'
                go_simp
                with_reducible rfl
              rotate_left
              · simp only [Act.put, List.setIfInBounds_toArray, List.set_cons_zero, List.set_cons_succ, i64_w, i32_w]
                rfl
              refine pure_ (i := 5) (N := some 71) (v := ?_) (a' := ?_) #[true, true, true, true, true, true, false, false, false, false, false] rfl rfl (any_of HT_.out (by kernel_rfl)) (fun _ _ _ h => h) (Or.inl ⟨by rfl, ?_⟩) ?_ ?_
              rotate_left
              · intro w'
                go_simp
                with_reducible rfl
              rotate_left
              · simp only [Act.put, List.setIfInBounds_toArray, List.set_cons_zero, List.set_cons_succ, i64_w, i32_w]
                rfl
              refine take_ (i := 6) (N := some 72) (v := ?_) (a' := ?_) #[true, true, true, true, true, true, true, false, false, false, false] rfl rfl (take_ofW HT_.out HW_.out (by kernel_rfl)) (fun _ _ _ h => h) (Or.inl ⟨by rfl, ?_⟩) hHeld ?_ ?_
              rotate_left
              · rintro w' ⟨s0, s1, s2, s3, s4⟩
                go_simp
                with_reducible rfl
              rotate_left
              · simp only [Act.put, List.setIfInBounds_toArray, List.set_cons_zero, List.set_cons_succ, i64_w, i32_w]
                rfl
              refine one_ (i := 7) (N := some 73) #[true, true, true, true, true, true, true, true, false, false, false] rfl rfl (one_of HT_.out (by kernel_rfl)) (by decide) (fun K hK => ?_)
              refine goes_ Tryz.func48 (by kernel_rfl) rfl #[.string (B nm)] (by rfl) rfl rfl (by (try simp only [List.map_toArray, List.map_cons, List.map_nil]); first | done | rfl) ?_
              refine (hn2 _).mono ?_
              rintro e wg ⟨rfl, hb⟩
              refine ⟨_, rfl, ?_⟩
              have hf := blk_below hf hb
              have hk := blk_below hk hb
              have hbf := below_step hbf hb
              clear hb
              obtain ⟨r0, r1, r2, r3, r4, q0, q1, q2, q3, q4⟩ := five hf
              refine hK.out _ _ ⟨r0, r1, r2, r3, r4⟩ (fun hHeld => ?_)
              clear hK K
              refine norm_ (a' := ?_) ?_ ?_
              rotate_left
              · show Act.put _ (some 73) _ = _
                simp only [Act.put, List.setIfInBounds_toArray, List.set_cons_zero, List.set_cons_succ, i64_w, i32_w]
                rfl
              refine pure_ (i := 8) (N := some 74) (v := ?_) (a' := ?_) #[true, true, true, true, true, true, true, true, true, false, false] rfl rfl (any_of HT_.out (by kernel_rfl)) (fun _ _ _ h => h) (Or.inl ⟨by rfl, ?_⟩) ?_ ?_
              rotate_left
              · intro w'
                go_simp
                with_reducible rfl
              rotate_left
              · simp only [Act.put, List.setIfInBounds_toArray, List.set_cons_zero, List.set_cons_succ, i64_w, i32_w]
                rfl
              refine one_ (i := 9) (N := none) #[true, true, true, true, true, true, true, true, true, true, false] rfl rfl (one_of HT_.out (by kernel_rfl)) (by decide) (fun K hK => ?_)
              obtain ⟨s0, s1, s2, s3, s4, p0, p1, p2, p3, p4⟩ := five hk
              refine skip_ (w1 := ?_) (by rfl) rfl ?_ ?_
              rotate_left
              · go_simp
                rfl
              obtain ⟨hf5, hbf5⟩ := fill5 hk hbf hwG (.string (B nm)) (.bool sw) (.string (B fr)) (.string (B tt)) (.int .i64 ((m + 3 : Nat) : Int))
              have hk5 := keep5 hf (Ne.symm hGG) (.string (B nm)) (.bool sw) (.string (B fr)) (.string (B tt)) (.int .i64 ((m + 3 : Nat) : Int))
              obtain ⟨r0, r1, r2, r3, r4, q0, q1, q2, q3, q4⟩ := five hk5
              refine hK.out _ _ ⟨r0, r1, r2, r3, r4⟩ (fun hHeld => ?_)
              clear hK K
              refine pure_ (i := 10) (N := some 3) (v := ?_) (a' := ?_) #[true, true, true, true, true, true, true, true, true, true, true] rfl rfl (any_of HT_.out (by kernel_rfl)) (fun _ _ _ h => h) (Or.inl ⟨by rfl, ?_⟩) ?_ ?_
              rotate_left
              · intro w'
                go_simp
                with_reducible rfl
              rotate_left
              · simp only [Act.put, List.setIfInBounds_toArray, List.set_cons_zero, List.set_cons_succ, i64_w, i32_w]
                rfl
              refine done_ (done_of HT_.out (by kernel_rfl)) ?_
              clear hf hk hbf hHeld r0 r1 r2 r3 r4 q0 q1 q2 q3 q4 s0 s1 s2 s3 s4 p0 p1 p2 p3 p4
              go_wp2_with fail
              exact end_read _ _ _ G _ _ _ _ _ _ rfl rfl hf5 ⟨by rw [show (rdT _) = _ from congrArg (fun b => rdT ((⟨nm, sw, fr, tt, m + 3⟩ : Rf), b)) hy.out]; rfl, hbf5⟩
end Go.Proofs.YtadfbbjplgbakaaGreat.Exp

/-! ### as the printed texts ask it -/
namespace Go.Proofs.YtadfbbjplgbakaaGreat.PX
open Go Go.RowKit Go.Proofs.YtadfbbjplgbakaaGreatW.PrintWords Go.Proofs.YtadfbbjplgbakaaGreat.Plain Go.Proofs.YtadfbbjplgbakaaGreat.Exp
def expand_read.f (a0 : ByteArray) : Option (ByteArray × Bool × ByteArray × ByteArray × Int × Bool) :=
  if a0.size ≤ 4611686018427387904 ∧ (L a0).head? = some 36 then some (B (rdX (L a0)).1.name, (rdX (L a0)).1.swap, B (rdX (L a0)).1.from_, B (rdX (L a0)).1.to_, ((rdX (L a0)).1.size : Int), (rdX (L a0)).2) else none
theorem expand_read.calls (a0 : ByteArray) (r1 : ByteArray) (r2 : Bool) (r3 : ByteArray) (r4 : ByteArray) (r5 : Int) (r6 : Bool) (w : World) (h : expand_read.f a0 = some (r1, r2, r3, r4, r5, r6)) :
    Calls Tryz.prog 30 #[.string a0] w fun e w' => e = .returned (.tuple #[.agg #[.string r1, .bool r2, .string r3, .string r4, .int .i64 r5], .bool r6]) ∧ Below w.heap.size w w' := by
  unfold expand_read.f at h
  by_cases c : a0.size ≤ 4611686018427387904 ∧ (L a0).head? = some 36
  · rw [if_pos c] at h
    have hc := read_calls a0 w c.1 c.2
    simp only [Option.some.injEq, Prod.mk.injEq] at h
    obtain ⟨rfl, rfl, rfl, rfl, rfl, rfl⟩ := h
    exact hc
  · rw [if_neg c] at h
    cases h
end Go.Proofs.YtadfbbjplgbakaaGreat.PX
