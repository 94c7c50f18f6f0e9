/- SpecialOnce: the walk. -/
import Derived.Test.YtkbcfbelpjifnaaSpec20
import Derived.Test.YtkbcfbelpjifnaaSpec21
import Derived.Test.YtkbcfbelpjifnaaSpec10
namespace Go.Proofs.Ytkbcfbelpjifnaa.Spec
open Go Go.RowKit Go.Proofs Go.Proofs.YtkbcfbelpjifnaaW.PrintWords Go.Proofs.Ytkbcfbelpjifnaa.PX Go.Proofs.Ytkbcfbelpjifnaa.Plain
set_option linter.unusedVariables false
set_option linter.unusedSimpArgs false

theorem gather_le (s : ByteArray) : ∀ (l : List Rl), (∀ x ∈ l, x.f1.length ≤ 64) → (gather s l).length ≤ 64 * l.length
  | [], _ => by simp [gather]
  | x :: l, h => by
    have ih := gather_le s l fun y hy => h y (.tail _ hy)
    have hx := h x (.head _)
    unfold gather
    rw [List.length_append, List.length_cons]
    split <;> simp <;> omega
theorem gather_step (s : ByteArray) {l : List Rl} {k : Nat} {x : Rl} (h : l[k]? = some x) : gather s (l.take (k + 1)) = gather s (l.take k) ++ (if x.f0 = s then x.f1 else []) := by
  rw [List.take_add_one, h, gather_app]
  simp [gather]
theorem fine_fits {y : Rl} (h : Fine1 y) : Fits y := by
  have hn : ∀ n : ByteArray, isName n = true → n.size ≤ 4611686018427387904 := fun n hn => by
    unfold isName at hn
    simp at hn
    omega
  exact ⟨hn _ h.name, fun n hm => hn n (h.needs n hm)⟩
set_option maxHeartbeats 8000000 in
set_option maxRecDepth 100000 in
theorem once_calls (A : Option Addr) (c : Nat) (l : List Rl) (w : World) (hr : k30.C w A l.length l) (hfit : ∀ x ∈ l, Fits x) :
    Calls Try.prog 3 #[.slice A l.length c] w fun e w' => e = .returned (.bool true) ∧ Below w.heap.size w w' := by
  have hmx : l.length ≤ 9223372036854775807 := hr.2.1
  have hm1 := merge_calls A c l w hr hfit
  by_cases h0 : (mergeL l).2.1 = 0
  · have hne : (mergeL l).1.length ≤ 512 := (merge_fine h0).2.2
    have hfine := (merge_fine h0).2.1
    have htw := merge_twice h0
    have hga := merge_gather h0
    have hask : (askedL l).1 = 0 := by
      by_cases h : (askedL l).1 = 0
      · exact h
      · unfold mergeL at h0
        rw [if_neg h] at h0
        exact absurd h0 h
    obtain ⟨hl512, hck⟩ := asked_ok hask
    have h64 : ∀ x ∈ l, x.f1.length ≤ 64 := fun x hx => (ck_ok (hck x hx)).2.2.1
    rw [h0] at hm1
    generalize (mergeL l).2.2 = q2 at hm1
    generalize (mergeL l).1 = m at *
    have hrr := rules_refl m (by omega) (fun x hx => ⟨by have := (hfine x hx).few; omega, by have := (hfine x hx).recs; omega⟩)
    obtain ⟨kr, hkr⟩ := hrr
    clear h0 hask hck
    go_enter Try.func3, Try.ntmps3
    go_wp2_with fail
    refine hm1.mono ?_
    rintro e w1 ⟨v1, rfl, hO1, hb1⟩
    obtain ⟨Am, cm, rfl, hcm, hCm⟩ := Kd.R_reads hO1
    have hm2 := merge_calls Am cm m w1 hCm (fun x hx => fine_fits (hfine x hx))
    rw [htw] at hm2
    go_wp2_with fail
    refine hm2.mono ?_
    rintro e w2 ⟨v2, rfl, hO2, hb2⟩
    obtain ⟨An, cn, rfl, hcn, hCn⟩ := Kd.R_reads hO2
    have hru := smithyplain_Rules.calls kr Am cm m An cn m true w2 (Kd.C_below hCm hb2) hcm hCn hcn (hkr kr (Nat.le_refl _))
    go_wp2_with fail
    refine hru.mono ?_
    rintro e w3 ⟨rfl, hb3⟩
    have hB3 : Below w.heap.size w w3 := below_t (below_t hb1 hb2) hb3
    have hO3 := Kd.R_below (Kd.R_below hO1 hb2) hb3
    have hsp := fun W => speaks_calls W
    go_wp2_with fail
    go_loopw [9] (fun i wr => ∃ k : Nat, i = .int .i64 (k : Int) ∧ k ≤ m.length ∧ Below w3.heap.size w3 wr) (fun i _ => m.length - (intOf i).toNat)
    case atStart => exact ⟨0, rfl, Nat.zero_le _, Below.refl _ _⟩
    case round =>
      obtain ⟨i, rfl, hi, hB⟩ := hrel
      by_cases hlt : i < m.length
      · have d1 : (i : Int) < (m.length : Int) := by omega
        have d2 : (0 : Int) ≤ (i : Int) := by omega
        obtain ⟨y, hy⟩ : ∃ y, m[i]? = some y := ⟨_, List.getElem?_eq_getElem hlt⟩
        have hgy := hga y (List.mem_of_getElem? hy)
        obtain ⟨F, hF⟩ : ∃ F : Nat → List ByteArray, F = fun k => gather y.f0 (l.take k) := ⟨_, rfl⟩
        have hF0 : F 0 = [] := by rw [hF]; simp [gather]
        have hFn : F l.length = gather y.f0 l := by rw [hF]; simp
        have hFs : ∀ {k x}, l[k]? = some x → F (k + 1) = F k ++ (if x.f0 = y.f0 then x.f1 else []) := fun h => by rw [hF]; exact gather_step _ h
        have hFl : ∀ k, (F k).length ≤ 32768 := fun k => by
          rw [hF]
          have := gather_le y.f0 (l.take k) fun x hx => h64 x (List.mem_of_mem_take hx)
          have h2 : (l.take k).length ≤ l.length := by simp; omega
          show (gather y.f0 (l.take k)).length ≤ 32768
          omega
        rw [← hFn] at hgy
        clear hF hFn hga
        go_wp2_with fail
        go_loopw [10, 11] (fun v i' wx => ∃ k : Nat, i' = .int .i64 (k : Int) ∧ k ≤ l.length ∧ wx.ownsRow w3.heap.size 9 1 v (F k).length (strs (F k)) ∧ Below w3.heap.size w3 wx) (fun _ i' _ => l.length - (intOf i').toNat)
        case atStart => exact ⟨0, rfl, Nat.zero_le _, by rw [hF0]; exact ⟨by simp [strs], .inl ⟨rfl, rfl⟩⟩, hB⟩
        case round =>
          obtain ⟨k, rfl, hk, hown, hB'⟩ := hrel
          by_cases hlt2 : k < l.length
          · have d3 : (k : Int) < (l.length : Int) := by omega
            have d4 : (0 : Int) ≤ (k : Int) := by omega
            obtain ⟨x, hx⟩ : ∃ x, l[k]? = some x := ⟨_, List.getElem?_eq_getElem hlt2⟩
            have hBw := hB3.trans (hB'.mono hB3.size)
            obtain ⟨ad, A1, c1, A2, c2, rfl, hxw⟩ := rul_at hr hx
            have hxr := hxw.below hBw
            have e0 := hxr.e0
            have e1 := hxr.e1
            have hO4 := Kd.R_below hO3 hB'
            obtain ⟨gm, capm, hfm, _, _⟩ := Kd.R_form hO4 (by omega)
            injection hfm with hfm1 _ hfm3
            subst hfm1 hfm3
            obtain ⟨Ay, cy, Az, cz, g0, g1, _, _, _, _, _, _, _⟩ := out_at hO4 hy
            simp only [Nat.add_zero] at g0
            have hk1 := hFl k
            have hk2 := hFl (k + 1)
            have hk3 := h64 x (List.mem_of_getElem? hx)
            by_cases hxy : x.f0 = y.f0
            · rw [hFs hx, if_pos hxy] at hk2
              have d5 : (x.f0.toList == y.f0.toList) = true := by rw [hxy]; simp
              go_wp2_with fail
              go_quiet (fail)
              have hBq : Below w3.heap.size w3 (wr.drewN nq) := hB'.trans (pw_below_drewN (Below.refl _ wr) nq)
              have hownq : (wr.drewN nq).ownsRow w3.heap.size 9 1 u10 (F k).length (strs (F k)) := hown
              have hxq := hxw.below (hB3.trans (hBq.mono hB3.size))
              have e1q := hxq.e1
              have r1q := hxq.r1
              generalize wr.drewN nq = wq at hBq hownq hxq e1q r1q ⊢
              go_wp2_with (at_builtin; go_must (refine append_strs rfl (.tmp 63) (.tmp 68) rfl w3.heap.size _ _ _ rfl hownq A1 c1 x.f1 rfl r1q (by omega) hBq.size ?_; intro v3 w5 hown3 hgrow3))
              go_roundw
              case rel =>
                refine ⟨k + 1, by go_num, by omega, ?_, hBq.grown hgrow3 (by simpa using hBq.size) ?_⟩
                · rw [hFs hx, if_pos hxy, List.length_append, strs, List.map_append]
                  exact hown3
                · exact fun k hk => (World.ownsRow.lt hown k hk).1
              case measure => simp [intOf]; omega
            · have d5 : (x.f0.toList == y.f0.toList) = false := by rw [beq_eq_false_iff_ne]; exact fun h => hxy (toList_inj.1 h)
              go_wp2_with fail
              go_quiet (fail)
              go_wp2_with fail
              go_roundw
              case rel =>
                refine ⟨k + 1, by go_num, by omega, ?_, hB'.trans (pw_below_drewN (Below.refl _ wr) nq)⟩
                rw [hFs hx, if_neg hxy, List.append_nil]
                exact hown
              case measure => simp [intOf]; omega
          · obtain rfl : k = l.length := by omega
            have d3 : ¬ ((l.length : Int) < (l.length : Int)) := by omega
            have hO4 := Kd.R_below hO3 hB'
            obtain ⟨gm, capm, hfm, _, _⟩ := Kd.R_form hO4 (by omega)
            injection hfm with hfm1 _ hfm3
            subst hfm1 hfm3
            obtain ⟨Ay, cy, Az, cz, g0, g1, _, _, hCy, _, hRy, _, _⟩ := out_at hO4 hy
            have hly := (Kd.R_reads' hRy).2.1
            obtain ⟨Aa, ca, rfl, hca, hCa⟩ := Kd.R_reads (R_strs hown)
            have hk1 := hFl l.length
            obtain ⟨ku, hku⟩ := runique_ev (F l.length) (by omega)
            have hun := smithyref03_Unique.calls ku Aa ca (F l.length) _ wr.drew (Kd.C_below hCa (below_drew (Below.refl _ wr))) hca (hku ku (Nat.le_refl _))
            rw [← hgy] at hun
            obtain ⟨kt, hkt⟩ := texts_ev y.f1 y.f1 (by have := (hfine y (List.mem_of_getElem? hy)).few; omega)
            have hkt' := hkt kt (Nat.le_refl _)
            rw [decide_eq_true rfl] at hkt'
            clear hgy hFs hkt hku hsp hfit h64 hfine
            go_wp2_with fail
            go_region_with (first
              | (go_at_call 10; refine hun.mono ?_; rintro e w6 ⟨v6, rfl, hR6, hb6⟩; obtain ⟨A6, c6, rfl, h6c, h6C⟩ := Kd.R_reads hR6; have g16 := pw_cell_below hb6 g1)
              | (go_at_call 9; refine (smithyplain_Texts.calls kt A6 c6 y.f1 Ay cy y.f1 true w6 h6C h6c (Kd.C_below (Kd.C_below hCy (below_drew (Below.refl _ wr))) hb6) hly hkt').mono ?_; rintro e w7 ⟨rfl, hd7⟩))
            all_goals
              have hB7 := hB'.drew.trans ((below_t hb6 hd7.below).mono hB'.size)
              go_wp2_with fail
              go_roundw
              case rel => exact ⟨i + 1, by go_num, by omega, hB7⟩
              case measure => simp [intOf]; omega
      · obtain rfl : i = m.length := by omega
        have d1 : ¬ ((m.length : Int) < (m.length : Int)) := by omega
        go_wp2_with fail
        refine (hsp _).mono ?_
        rintro e w8 ⟨rfl, hb8⟩
        go_wp2_with fail
        go_ret
        exact ⟨rfl, below_t hB3 (below_t hB hb8)⟩
  · have hn := merge_nil h0
    rw [hn] at hm1
    generalize (mergeL l).2.1 = q1 at *
    generalize (mergeL l).2.2 = q2 at *
    go_enter Try.func3, Try.ntmps3
    go_wp2_with fail
    refine hm1.mono ?_
    rintro e w1 ⟨v1, rfl, hO1, hb1⟩
    obtain ⟨Am, cm, rfl, hcm, hCm⟩ := Kd.R_reads hO1
    go_wp2_with fail
    refine (speaks_calls w1).mono ?_
    rintro e w2 ⟨rfl, hb2⟩
    go_wp2_with fail
    go_ret
    exact ⟨rfl, below_t hb1 hb2⟩
end Go.Proofs.Ytkbcfbelpjifnaa.Spec
