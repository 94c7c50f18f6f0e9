/- (*work).stands and (*work).text: what a reference stands for, what a text becomes. -/
import Derived.Test.YtadfbbjplgbakaaGreatExp3
import Derived.Test.YtadfbbjplgbakaaGreatExpRd
import Derived.Test.YtadfbbjplgbakaaGreatBldX
import Derived.Test.YtadfbbjplgbakaaGreatWordsX
import Derived.Test.YtadfbbjplgbakaaGreatPXx2
import Derived.Test.YtadfbbjplgbakaaGreatPXx3
import Derived.Test.YtadfbbjplgbakaaGreatPXx6
import Derived.Deep.RegionLawGrows
import Derived.Lib.BufferOwn
namespace Go.Proofs.YtadfbbjplgbakaaGreat.Exp
open Go Go.RowKit Go.Proofs Go.Proofs.YtadfbbjplgbakaaGreatW.PrintWords Go.Proofs.YtadfbbjplgbakaaGreatW.PrintLast Go.Proofs.YtadfbbjplgbakaaGreatW.PrintMore Go.Proofs.YtadfbbjplgbakaaGreat.PX Go.Proofs.YtadfbbjplgbakaaGreat.Plain Go.Proofs.YtadfbbjplgbakaaGreat.Hand
set_option linter.unusedVariables false
set_option linter.unusedSimpArgs false

/-! ### the world -/
/-- What lies under: some names, in a block of texts. -/
def UA (u : List (List UInt8)) (v : Value) (w : World) : Prop :=
  (v = .slice none 0 0 ∧ u = []) ∨ ∃ (g cap : Nat) (cur : Array Value), v = .slice (some ⟨g, 0, none⟩) u.length cap ∧ u.length ≤ cap ∧ cap ≤ maxLen ∧ w.heap[g]? = some (Obj.cells cur 9 (0, 0)) ∧ ∀ (j : Nat) (x : List UInt8), u[j]? = some x → cur[j]? = some (Value.string (B x))
theorem UA.kept {u : List (List UInt8)} {v : Value} {w w' : World} (h : UA u v w) (hk : ∀ (k : Nat) (cur : Array Value), w.heap[k]? = some (Obj.cells cur 9 (0, 0)) → w'.heap[k]? = some (Obj.cells cur 9 (0, 0))) : UA u v w' := by
  rcases h with h | ⟨g, cap, cur, h1, h2, h3, h4, h5⟩
  · exact .inl h
  · exact .inr ⟨g, cap, cur, h1, h2, h3, hk g cur h4, h5⟩
/-- A work: its macros, no inner ones, what is under, how many references. -/
abbrev WB (b : Nat) (Am Ai : Option Addr) (cm ci m : Nat) (v : Value) (n : Int) (w : World) : Prop := w.heap[b]? = some (.cells #[.slice Am m cm, .slice Ai 0 ci, v, .int .i64 n] 73 (0, 0))
theorem UA.grown {u : List (List UInt8)} {v v0 : Value} {w w' : World} {b m cm ci : Nat} {Am Ai : Option Addr} {n : Int} (h : UA u v w) (hw : WB b Am Ai cm ci m v0 n w) (hg : w.grownBy w' (some b)) : UA u v w' :=
  h.kept fun k cur hk => (hg.block k (blk_lt hk) (fun e => by cases e; rw [hw] at hk; cases hk)).trans hk
theorem UA.below {u : List (List UInt8)} {v : Value} {w w' : World} (h : UA u v w) (hb : Below w.heap.size w w') : UA u v w' := h.kept fun k cur hk => (hb.block k (blk_lt hk)).trans hk
/-- As a row that may be read. -/
theorem UA.reads {u : List (List UInt8)} {v : Value} {w : World} (h : UA u v w) : ∃ A c, v = .slice A (u.map B).length c ∧ (u.map B).length ≤ c ∧ Kd.C Kd.string w A (u.map B).length (u.map B) := by
  rcases h with ⟨rfl, rfl⟩ | ⟨g, cap, cur, rfl, h2, h3, h4, h5⟩
  · exact ⟨none, 0, rfl, Nat.le_refl _, Kd.C_nil Kd.string w⟩
  · rw [List.length_map]
    refine ⟨some ⟨g, 0, none⟩, cap, rfl, h2, by rw [List.length_map], by unfold maxLen at h3; omega, fun _ => ⟨_, rfl, fun j p hj => ?_⟩⟩
    rw [List.getElem?_map] at hj
    obtain ⟨x, hx, rfl⟩ := Option.map_eq_some_iff.1 hj
    refine ⟨[.string (B x)], rfl, rfl, fun i q hq => ?_⟩
    have hi : i = 0 := by
      match i, hq with
      | 0, _ => rfl
    subst hi
    have hq2 : Value.string (B x) = q := by simpa using hq
    subst hq2
    have ha : (⟨g, 0, none⟩ : Addr).add (j * 1 + 0) = ⟨g, j, none⟩ := by
      unfold Addr.add
      split
      · rename_i hj0
        have : j = 0 := by simpa using hj0
        subst this; rfl
      · simp
    show w.cell? ((⟨g, 0, none⟩ : Addr).add (j * 1 + 0)) = _
    rw [ha, cell_of_row w g j cur _ _ h4]
    exact h5 j x hx
theorem UA.cells {u : List (List UInt8)} {A : Option Addr} {c : Nat} {w : World} (h : UA u (.slice A u.length c) w) : (A = none → u.length = 0 ∧ u.length = 0) ∧ ∀ ad, A = some ad → ∀ (j : Nat) (q : Value), (u.map fun x => Value.string (B x))[j]? = some q → w.cell? (ad.add j) = some q := by
  rcases h with ⟨e, rfl⟩ | ⟨g, cap, cur, e, h2, h3, h4, h5⟩
  · refine ⟨fun _ => ⟨rfl, rfl⟩, fun ad _ j q hq => (by simp at hq)⟩
  · cases e
    refine ⟨(fun e => by cases e), fun ad e j q hq => ?_⟩
    cases e
    rw [List.getElem?_map] at hq
    obtain ⟨x, hx, rfl⟩ := Option.map_eq_some_iff.1 hq
    have ha : (⟨g, 0, none⟩ : Addr).add j = ⟨g, j, none⟩ := by
      unfold Addr.add
      split
      · rename_i hj0
        subst hj0; rfl
      · simp
    rw [ha, cell_of_row w g j cur _ _ h4]
    exact h5 j x hx
theorem UA.of_own {u : List (List UInt8)} {nm : List UInt8} {v : Value} {w : World} {base : Nat} (h : w.ownsRow base 9 1 v (u.length + 1) ((u.map fun x => Value.string (B x)) ++ [.string (B nm)])) :
    UA (u ++ [nm]) v w ∧ ∃ g cap, v = .slice (some ⟨g, 0, none⟩) (u.length + 1) cap ∧ base ≤ g ∧ u.length ≤ cap := by
  rcases h.2 with ⟨_, h0⟩ | ⟨g, cap, cur, rfl, hg, hh, hn, hm, hs, ht⟩
  · omega
  · refine ⟨.inr ⟨g, cap, cur, by rw [List.length_append]; rfl, by rw [List.length_append]; exact hn, hm, hh, fun j x hj => ?_⟩, g, cap, rfl, hg, by omega⟩
    have hj2 := (List.getElem?_eq_some_iff.1 hj).1
    rw [List.length_append, List.length_singleton] at hj2
    have h1 : (cur.toList.take ((u.length + 1) * 1))[j]? = cur[j]? := by
      rw [List.getElem?_take_of_lt (by omega), Array.getElem?_toList]
    rw [← h1, ht]
    have h2 : (u.map fun x => Value.string (B x)) ++ [Value.string (B nm)] = (u ++ [nm]).map fun x => Value.string (B x) := by simp
    rw [h2, List.getElem?_map, hj]; rfl
theorem UA.front {u : List (List UInt8)} {nm : List UInt8} {v : Value} {w : World} (h : UA (u ++ [nm]) v w) : ∃ g cap, v = .slice (some ⟨g, 0, none⟩) (u.length + 1) cap ∧ u.length + 1 ≤ cap ∧ UA u (.slice (some ⟨g, 0, none⟩) u.length cap) w := by
  rcases h with ⟨_, h⟩ | ⟨g, cap, cur, h1, h2, h3, h4, h5⟩
  · exact absurd h (by simp)
  · rw [List.length_append] at h1 h2
    refine ⟨g, cap, h1, h2, .inr ⟨g, cap, cur, rfl, by simp at h2; omega, h3, h4, fun j x hj => h5 j x ?_⟩⟩
    rw [List.getElem?_append_left (List.getElem?_eq_some_iff.1 hj).1]; exact hj
theorem info_str5 : (Tryz.prog.info? 9).map (fun i => (i.zero, i.size, i.bytes)) = some (some (.string ⟨#[]⟩), 1, 16) := by kernel_rfl
/-- What a macro's name stands for, how ends are swapped. -/
def envM (M : List Mac) : Env := ⟨fun x => L (valM M (B x)), fun t f o => L (swapOf (B t) (B f) (B o))⟩
/-- What is told of a call: the work and what it had are kept; what it becomes, or how it ends. -/
def Post (b : Nat) (Am Ai : Option Addr) (cm ci m : Nat) (u : List (List UInt8)) (r : Res) (w : World) (e : Ending) (w' : World) : Prop :=
  w.grownBy w' (some b) ∧ match r with
    | .ok o n => e = .returned (.string (B o)) ∧ ∃ v, WB b Am Ai cm ci m v (n : Int) w' ∧ UA u v w'
    | .bad c => e = bad (c : Int)
theorem grown_b {w w' : World} (h : Below w.heap.size w w') (row : Option Nat) : w.grownBy w' row := ⟨h.os, h.tape, h.output, h.size, fun i hi _ => h.block i hi⟩
section
variable (b k0 : Nat) (Am Ai : Option Addr) (cm ci : Nat) (M : List Mac) (w0 : World)
/-- What stays. -/
structure Fix : Prop where
  hM : kM.C w0 Am M.length M
  hc : M.length ≤ cm
  hl : M.length ≤ 4611686018427387904
  hck : macro_Check.f k0 M = some 0
  hV : ∀ x, (valM M x).size ≤ 65536
  hb : w0.heap.size ≤ b
def TextC (K : Nat) : Prop := ∀ (u : List (List UInt8)) (n : Nat) (s : ByteArray) (w : World) (v : Value), n ≤ 4096 → 4097 ≤ K + n → u.length ≤ n → s.size ≤ 65536 → Below w0.heap.size w0 w → WB b Am Ai cm ci M.length v (n : Int) w → UA u v w →
  Calls Tryz.prog 35 #[.pointer (some ⟨b, 0, none⟩), .string s] w (Post b Am Ai cm ci M.length u (tx (envM M) K u n [] (L s)) w)
def StandsC (K : Nat) : Prop := ∀ (u : List (List UInt8)) (n : Nat) (r : Rf) (w : World) (v : Value), n ≤ 4096 → 4097 ≤ K + n → u.length < n → r.name.length ≤ 65536 → r.from_.length ≤ 65536 → r.to_.length ≤ 65536 → Below w0.heap.size w0 w → WB b Am Ai cm ci M.length v (n : Int) w → UA u v w →
  Calls Tryz.prog 54 #[.pointer (some ⟨b, 0, none⟩), .agg #[.string (B r.name), .bool r.swap, .string (B r.from_), .string (B r.to_), .int .i64 (r.size : Int)]] w
    (Post b Am Ai cm ci M.length u (stp (envM M) (fun u n l => tx (envM M) K u n [] l) u n r) w)
set_option maxHeartbeats 4000000 in
set_option maxRecDepth 100000 in
theorem stands_of (hF : Fix b k0 Am cm M w0) (K : Nat) (hT : TextC b Am Ai cm ci M w0 K) : StandsC b Am Ai cm ci M w0 K := by
  rintro u n ⟨nm, sw, fr, tt, sz⟩ w v hn hKn hu h1 h2 h3 hb0 hW hU
  obtain ⟨R, hR⟩ : ∃ R, stp (envM M) (fun u n l => tx (envM M) K u n [] l) u n ⟨nm, sw, fr, tt, sz⟩ = R := ⟨_, rfl⟩
  rw [hR]
  have hR' : Hid (stp (envM M) (fun u n l => tx (envM M) K u n [] l) u n ⟨nm, sw, fr, tt, sz⟩ = R) := hR
  clear hR
  simp only at h1 h2 h3
  by_cases h36 : nm = [36]
  · subst h36
    have hR2 : R = .ok [36] n := by rw [← hR'.out]; rfl
    subst hR2
    clear hR' hT
    go_enter Tryz.func54, Tryz.ntmps54
    go_wp2_with fail
    go_ret
    exact ⟨grown_b (below_alloc (Below.refl _ _) _) _, rfl, v, (Lib.alloc_old w _ b (blk_lt hW)).trans hW, hU.below (below_alloc (Below.refl _ _) _)⟩
  · have hS2 : Hid (R = Res.then (if innL nm = true then .ok [] n else if nm ∈ u then .bad 61 else tx (envM M) K (u ++ [nm]) n [] ((envM M).val nm)) fun t m =>
        if sw = true then (if 8192 < ((envM M).swap t fr tt).length then .bad 41 else .ok ((envM M).swap t fr tt) m) else .ok t m) := hR'.out.symm.trans (if_neg h36)
    clear hR'
    obtain ⟨G, hG⟩ : ∃ G, G = w.heap.size := ⟨_, rfl⟩
    obtain ⟨W1, hW1⟩ : ∃ W1, W1 = w.alloc (.cells #[.string (B nm), .bool sw, .string (B fr), .string (B tt), .int .i64 (sz : Int)] 62) := ⟨_, rfl⟩
    have g1 : W1.heap[G]? = some (.cells #[.string (B nm), .bool sw, .string (B fr), .string (B tt), .int .i64 (sz : Int)] 62 (0, 0)) := by rw [hG, hW1]; exact heap_alloc_new w _
    have b1 : Below w.heap.size w W1 := by rw [hW1]; exact below_alloc (Below.refl _ _) _
    have hGb : G ≠ b := by rw [hG]; exact Nat.ne_of_gt (blk_lt hW)
    have e36 : (nm == [36]) = false := beq_eq_false_iff_ne.2 h36
    go_enter Tryz.func54, Tryz.ntmps54
    go_wp2_with fail
    rw [← hW1, ← hG]
    have hbw : Below w0.heap.size w0 W1 := hb0.trans ⟨b1.os, b1.tape, b1.output, b1.size, fun i hi => b1.block i (Nat.lt_of_lt_of_le hi hb0.size)⟩
    have c1 : WB b Am Ai cm ci M.length v (n : Int) W1 := (b1.block b (blk_lt hW)).trans hW
    refine (look_in k0 b Am Ai cm ci M v n (B nm) W1 c1 (Kd.C_below hF.hM hbw) hF.hc hF.hl hF.hck (by rw [size_L, L_B]; omega)).mono ?_
    rintro e w2 ⟨rfl, hb2⟩
    rw [L_B]
    have g2 := blk_below g1 hb2
    have c2 : WB b Am Ai cm ci M.length v (n : Int) w2 := blk_below c1 hb2
    have k2 : w.grownBy w2 (some b) := grown_b (below_t b1 hb2) _
    have hbw2 : Below w0.heap.size w0 w2 := hb0.trans ⟨(below_t b1 hb2).os, (below_t b1 hb2).tape, (below_t b1 hb2).output, (below_t b1 hb2).size, fun i hi => (below_t b1 hb2).block i (Nat.lt_of_lt_of_le hi hb0.size)⟩
    have u2 : UA u v w2 := hU.below (below_t b1 hb2)
    have hGw : w.heap.size ≤ G := by omega
    clear hb2 hbw c1 g1 b1 hW1 hG W1 hU
    generalize hvv : valM M (B nm) = val
    have hval : Hid (valM M (B nm) = val) := hvv
    clear hvv
    generalize hy : innL nm = y
    have hy' : Hid (innL nm = y) := hy
    clear hy
    go_upto_if 18 with fail
    go_cut [5] (fun v5 wc => ∃ (t : List UInt8) (m : Nat) (v' : Value), v5 = .string (B t) ∧ Aside0 (R = if sw = true then (if 8192 < ((envM M).swap t fr tt).length then .bad 41 else .ok ((envM M).swap t fr tt) m) else .ok t m) ∧ Aside0 (t.length ≤ 8192) ∧ Aside0 (wc.heap[G]? = some (.cells #[.string (B nm), .bool sw, .string (B fr), .string (B tt), .int .i64 (sz : Int)] 62 (0, 0))) ∧ Aside0 (WB b Am Ai cm ci M.length v' (m : Int) wc) ∧ Aside0 (UA u v' wc) ∧ Aside0 (w.grownBy wc (some b)))
    case first =>
      cases y with
      | true =>
        rw [if_pos rfl]
        go_wp2_with fail
        go_meet
        case rel => exact ⟨[], n, v, rfl, ⟨by rw [hS2.out, hy'.out, if_pos rfl]; rfl⟩, ⟨by simp⟩, ⟨g2⟩, ⟨c2⟩, ⟨u2⟩, ⟨k2⟩⟩
      | false =>
        rw [if_neg (show ¬ (false = true) by decide), Bool.not_false]
        have hS3 : Hid (R = Res.then (if nm ∈ u then .bad 61 else tx (envM M) K (u ++ [nm]) n [] ((envM M).val nm)) fun t m =>
          if sw = true then (if 8192 < ((envM M).swap t fr tt).length then .bad 41 else .ok ((envM M).swap t fr tt) m) else .ok t m) := by rw [hS2.out, hy'.out, if_neg (by decide)]; rfl
        clear hS2 hy'
        obtain ⟨A, c, rfl, hc, hC⟩ := u2.reads
        obtain ⟨kc, hkc⟩ := contains_ev (u.map B) (B nm) (by rw [List.length_map]; omega)
        have hcn := fun W hW => slices_Contains_string_string.calls kc A c (u.map B) (B nm) _ W (Kd.C_below hC hW) hc (hkc kc (Nat.le_refl _))
        have hmem : memB (B nm) (u.map B) = true ↔ nm ∈ u := by
          rw [memB_iff]
          constructor
          · intro h
            obtain ⟨x, hx, hxe⟩ := List.mem_map.1 h
            rw [← B_inj hxe]; exact hx
          · intro h
            exact List.mem_map.2 ⟨nm, h, rfl⟩
        clear hkc hC
        simp only [List.length_map] at hcn hc c2 u2 ⊢
        generalize memB (B nm) (u.map B) = mb at hcn hmem
        have m2 : w2.cell? ⟨b, 2, none⟩ = some (.slice A u.length c) := cell_of_row w2 b 2 _ _ _ c2
        have r0 : w2.cell? ⟨G, 0, none⟩ = some (.string (B nm)) := cell_of_row w2 G 0 _ _ _ g2
        go_wp2_with fail
        have hxd : Below w2.heap.size w2 w2.drew := below_drew (Below.refl _ _)
        have keep : ∀ W, Below w2.heap.size w2 W → W.cell? ⟨b, 2, none⟩ = some (.slice A u.length c) ∧ W.cell? ⟨G, 0, none⟩ = some (.string (B nm)) := fun W h => ⟨pw_cell_below h m2, pw_cell_below h r0⟩
        go_region_held3 (fun W => W.cell? ⟨b, 2, none⟩ = some (.slice A u.length c) ∧ W.cell? ⟨G, 0, none⟩ = some (.string (B nm))) (first | exact keep _ hxd | exact keep _ hx3) ((first | (go_at_call 17; refine (hcn _ hxd).mono ?_; rintro e w3 ⟨rfl, hb3⟩; have hx3 := below_t hxd hb3.below)))
        cases mb with
        | true =>
          have hR4 : R = .bad 61 := by rw [hS3.out, if_pos (hmem.1 rfl)]; rfl
          subst hR4
          clear hS3 hmem hcn hT
          go_wp2_with fail
          exact ⟨rfl, Lib.grownBy_trans k2 (grown_b hx3 _), rfl⟩
        | false =>
          have hnm : ¬ nm ∈ u := fun h => by have := hmem.2 h; cases this
          have hS4 : Hid (R = Res.then (tx (envM M) K (u ++ [nm]) n [] ((envM M).val nm)) fun t m =>
            if sw = true then (if 8192 < ((envM M).swap t fr tt).length then .bad 41 else .ok ((envM M).swap t fr tt) m) else .ok t m) := by rw [hS3.out, if_neg hnm]; rfl
          clear hS3 hmem hcn hnm keep hxd
          have g3 := blk_below g2 hx3
          have c3 : WB b Am Ai cm ci M.length (.slice A u.length c) (n : Int) w3 := blk_below c2 hx3
          have k3 : w.grownBy w3 (some b) := Lib.grownBy_trans k2 (grown_b hx3 _)
          have u3 := u2.below hx3
          have hbw3 : Below w0.heap.size w0 w3 := hbw2.trans ⟨hx3.os, hx3.tape, hx3.output, hx3.size, fun i hi => hx3.block i (Nat.lt_of_lt_of_le hi hbw2.size)⟩
          have m2 : w3.cell? ⟨b, 2, none⟩ = some (.slice A u.length c) := cell_of_row w3 b 2 _ _ _ c3
          have r0 : w3.cell? ⟨G, 0, none⟩ = some (.string (B nm)) := cell_of_row w3 G 0 _ _ _ g3
          obtain ⟨i0, hi, hz0, hz1, hz2⟩ := info_parts info_str5
          go_wp2_with fail
          refine start_ (n := 15) (S := fun W' => W'.cell? ⟨b, 2, none⟩ = some (.slice A u.length c) ∧ W'.cell? ⟨G, 0, none⟩ = some (.string (B nm))) (ds := [14]) #[false, false, false, false, false, false, false, false, false, false, false, false, false, false, false] (by kernel_rfl) rfl rfl ⟨m2, r0⟩ (fun hHeld => ?_)
          have g4 := blk_drew g3
          have c4 : WB b Am Ai cm ci M.length (.slice A u.length c) (n : Int) w3.drew := c3
          have k4 : w.grownBy w3.drew (some b) := Lib.grownBy_trans k3 (grown_b (below_drew (Below.refl _ _)) _)
          have u4 : UA u (.slice A u.length c) w3.drew := u3
          have hbw4 : Below w0.heap.size w0 w3.drew := below_drew1 hbw3
          generalize w3.drew = w4 at g4 c4 k4 u4 hbw4 hHeld ⊢
          clear g3 c3 k3 u3 hbw3 m2 r0 hx3
          refine pure_ (i := 0) (N := (some 33)) (v := ?_) (a' := ?_) #[true, false, false, false, false, false, false, false, false, false, false, false, false, false, false] rfl rfl (by kernel_rfl) (fun _ _ _ h => h) (Or.inl ⟨by rfl, ?_⟩) ?_ ?_
          rotate_left
          · intro w'
            go_simp
            with_reducible rfl
          rotate_left
          · simp only [Act.put, List.setIfInBounds_toArray, List.set_cons_zero, List.set_cons_succ, i64_w, i32_w]
            rfl
          refine pure_ (i := 1) (N := (some 34)) (v := ?_) (a' := ?_) #[true, true, false, false, false, false, false, false, false, false, false, false, false, false, false] rfl rfl (by kernel_rfl) (fun _ _ _ h => h) (Or.inl ⟨by rfl, ?_⟩) ?_ ?_
          rotate_left
          · intro w'
            go_simp
            with_reducible rfl
          rotate_left
          · simp only [Act.put, List.setIfInBounds_toArray, List.set_cons_zero, List.set_cons_succ, i64_w, i32_w]
            rfl
          refine pure_ (i := 2) (N := (some 35)) (v := ?_) (a' := ?_) #[true, true, true, false, false, false, false, false, false, false, false, false, false, false, false] rfl rfl (by kernel_rfl) (fun _ _ _ h => h) (Or.inl ⟨by rfl, ?_⟩) ?_ ?_
          rotate_left
          · intro w'
            go_simp
            with_reducible rfl
          rotate_left
          · simp only [Act.put, List.setIfInBounds_toArray, List.set_cons_zero, List.set_cons_succ, i64_w, i32_w]
            rfl
          refine pure_ (i := 3) (N := (some 36)) (v := ?_) (a' := ?_) #[true, true, true, true, false, false, false, false, false, false, false, false, false, false, false] rfl rfl (by kernel_rfl) (fun _ _ _ h => h) (Or.inl ⟨by rfl, ?_⟩) ?_ ?_
          rotate_left
          · intro w'
            go_simp
            with_reducible rfl
          rotate_left
          · simp only [Act.put, List.setIfInBounds_toArray, List.set_cons_zero, List.set_cons_succ, i64_w, i32_w]
            rfl
          refine take_ (i := 4) (N := (some 37)) (v := ?_) (a' := ?_) #[true, true, true, true, true, false, false, false, false, false, false, false, false, false, false] rfl rfl (by kernel_rfl) (fun _ _ _ h => h) (Or.inl ⟨by rfl, ?_⟩) hHeld ?_ ?_
          rotate_left
          · rintro w' ⟨s0, s1⟩
            go_simp
            with_reducible rfl
          rotate_left
          · simp only [Act.put, List.setIfInBounds_toArray, List.set_cons_zero, List.set_cons_succ, i64_w, i32_w]
            rfl
          refine pure_ (i := 5) (N := (some 38)) (v := ?_) (a' := ?_) #[true, true, true, true, true, true, false, false, false, false, false, false, false, false, false] rfl rfl (by kernel_rfl) (fun _ _ _ h => h) (Or.inl ⟨by rfl, ?_⟩) ?_ ?_
          rotate_left
          · intro w'
            go_simp
            with_reducible rfl
          rotate_left
          · simp only [Act.put, List.setIfInBounds_toArray, List.set_cons_zero, List.set_cons_succ, i64_w, i32_w]
            rfl
          refine pure_ (i := 6) (N := (some 39)) (v := ?_) (a' := ?_) #[true, true, true, true, true, true, true, false, false, false, false, false, false, false, false] rfl rfl (by kernel_rfl) (fun _ _ _ h => h) (Or.inl ⟨by rfl, ?_⟩) ?_ ?_
          rotate_left
          · intro w'
            go_simp
            with_reducible rfl
          rotate_left
          · simp only [Act.put, List.setIfInBounds_toArray, List.set_cons_zero, List.set_cons_succ, i64_w, i32_w]
            rfl
          refine pure_ (i := 7) (N := (some 40)) (v := ?_) (a' := ?_) #[true, true, true, true, true, true, true, true, false, false, false, false, false, false, false] rfl rfl (by kernel_rfl) (fun _ _ _ h => h) (Or.inl ⟨by rfl, ?_⟩) ?_ ?_
          rotate_left
          · intro w'
            go_simp
            with_reducible rfl
          rotate_left
          · simp only [Act.put, List.setIfInBounds_toArray, List.set_cons_zero, List.set_cons_succ, i64_w, i32_w]
            rfl
          refine pure_ (i := 8) (N := (some 41)) (v := ?_) (a' := ?_) #[true, true, true, true, true, true, true, true, true, false, false, false, false, false, false] rfl rfl (by kernel_rfl) (fun _ _ _ h => h) (Or.inl ⟨by rfl, ?_⟩) ?_ ?_
          rotate_left
          · intro w'
            go_simp
            with_reducible rfl
          rotate_left
          · simp only [Act.put, List.setIfInBounds_toArray, List.set_cons_zero, List.set_cons_succ, i64_w, i32_w]
            rfl
          refine take_ (i := 9) (N := (some 42)) (v := ?_) (a' := ?_) #[true, true, true, true, true, true, true, true, true, true, false, false, false, false, false] rfl rfl (by kernel_rfl) (fun _ _ _ h => h) (Or.inl ⟨by rfl, ?_⟩) hHeld ?_ ?_
          rotate_left
          · rintro w' ⟨s0, s1⟩
            go_simp
            with_reducible rfl
          rotate_left
          · simp only [Act.put, List.setIfInBounds_toArray, List.set_cons_zero, List.set_cons_succ, i64_w, i32_w]
            rfl
          refine one_ (i := 10) (N := (some 43)) #[true, true, true, true, true, true, true, true, true, true, true, false, false, false, false] rfl rfl (by kernel_rfl) (by decide) (fun Kq hK => ?_)
          refine value_ (v := (.slice (some ⟨w4.heap.size, 0, none⟩) 1 1)) (w1 := (w4.alloc (.cells #[.string (B nm)] 9))) (by rfl) rfl (by first | (go_simp; done) | (go_simp; rfl)) ?_
          refine hK.out _ _ ⟨pw_cell_below (below_alloc (Below.refl _ _) _) hHeld.1, pw_cell_below (below_alloc (Below.refl _ _) _) hHeld.2⟩ (fun hHeld => ?_)
          clear hK Kq
          refine norm_ (a' := ?_) ?_ ?_
          rotate_left
          · show Act.put _ (some 43) _ = _
            simp only [Act.put, List.setIfInBounds_toArray, List.set_cons_zero, List.set_cons_succ, i64_w, i32_w]
            rfl
          refine one_ (i := 11) (N := (some 44)) #[true, true, true, true, true, true, true, true, true, true, true, true, false, false, false] rfl rfl (by kernel_rfl) (by decide) (fun Kq hK => ?_)
          have hbx := below_alloc (Below.refl w4.heap.size w4) (.cells #[.string (B nm)] 9)
          have u5 := u4.below hbx
          have hu5 := u5.cells
          refine step_append_grows rfl (.tmp 40) (.tmp 43) 23 rfl 9 i0 (.string ⟨#[]⟩) 1 16 Tryz.underlying23 hi hz0 hz1 hz2 rfl (by decide) A u.length u.length (u.map fun x => .string (B x)) rfl hu5.1 (by rw [List.length_map, Nat.mul_one]) hu5.2 ⟨w4.heap.size, 0, none⟩ 1 1 [.string (B nm)] rfl rfl (cell_one_new _ _ _) (by simp [Value.oneCell']) (by omega) (by unfold maxLen; omega) (by omega) ?_
          intro v5 w5 hown hgrow
          obtain ⟨u6, g, cap, rfl, hgg, hcap⟩ := UA.of_own hown
          have g5 := (hgrow.block G (by rw [World.size_alloc]; have := blk_lt g4; omega) (by simp)).trans (blk_below g4 hbx)
          have c5 : WB b Am Ai cm ci M.length (.slice A u.length c) (n : Int) w5 := (hgrow.block b (by rw [World.size_alloc]; have := blk_lt c4; omega) (by simp)).trans (blk_below c4 hbx)
          have hlt5 : b < w4.heap.size := blk_lt c4
          rw [World.size_alloc] at hgg
          have k5 : w.grownBy w5 (some b) := Lib.grownBy_trans (Lib.grownBy_trans k4 (grown_b hbx _)) ⟨hgrow.os, hgrow.tape, hgrow.output, hgrow.size, fun i hi _ => hgrow.block i hi (by simp)⟩
          have m2 : w5.cell? ⟨b, 2, none⟩ = some (.slice A u.length c) := cell_of_row w5 b 2 _ _ _ c5
          have q2 := frozen_of_row w5 b 2 _ _ c5
          refine hK.out _ _ ⟨m2, cell_of_row w5 G 0 _ _ _ g5⟩ (fun hHeld => ?_)
          clear hK Kq
          refine norm_ (a' := ?_) ?_ ?_
          rotate_left
          · show Act.put _ (some 44) _ = _
            simp only [Act.put, List.setIfInBounds_toArray, List.set_cons_zero, List.set_cons_succ, i64_w, i32_w]
            rfl
          clear hHeld hu5 u5 hown hgrow u4 c4 g4 k4 hbw4 hbx
          refine pure_ (i := 12) (N := (some 45)) (v := ?_) (a' := ?_) #[true, true, true, true, true, true, true, true, true, true, true, true, true, false, false] rfl rfl (by kernel_rfl) (fun _ _ _ h => h) (Or.inl ⟨by rfl, ?_⟩) ?_ ?_
          rotate_left
          · intro w'
            go_simp
            with_reducible rfl
          rotate_left
          · simp only [Act.put, List.setIfInBounds_toArray, List.set_cons_zero, List.set_cons_succ, i64_w, i32_w]
            rfl
          refine pure_ (i := 13) (N := (some 46)) (v := ?_) (a' := ?_) #[true, true, true, true, true, true, true, true, true, true, true, true, true, true, false] rfl rfl (by kernel_rfl) (fun _ _ _ h => h) (Or.inl ⟨by rfl, ?_⟩) ?_ ?_
          rotate_left
          · intro w'
            go_simp
            with_reducible rfl
          rotate_left
          · simp only [Act.put, List.setIfInBounds_toArray, List.set_cons_zero, List.set_cons_succ, i64_w, i32_w]
            rfl
          refine last_ (i := 14) (N := none) #[true, true, true, true, true, true, true, true, true, true, true, true, true, true, true] rfl rfl (by kernel_rfl) (by decide) (fun Kq hK => ?_)
          refine skip_ (w1 := ?_) (by rfl) rfl ?_ ?_
          rotate_left
          · go_simp
            rfl
          refine hK.out _ _ ?_
          clear hK Kq
          refine done_ (by kernel_rfl) ?_
          have hbg : b ≠ g := by omega
          have c6 : WB b Am Ai cm ci M.length (.slice (some ⟨g, 0, none⟩) (u.length + 1) cap) (n : Int) (w5.setCell ⟨b, 2, none⟩ (.slice (some ⟨g, 0, none⟩) (u.length + 1) cap)) := heap_setCell_same w5 b 2 _ _ _ c5
          have g6 := (heap_setCell_other w5 ⟨b, 2, none⟩ G (.slice (some ⟨g, 0, none⟩) (u.length + 1) cap) hGb).trans g5
          have k6 : w.grownBy (w5.setCell ⟨b, 2, none⟩ (.slice (some ⟨g, 0, none⟩) (u.length + 1) cap)) (some b) := Lib.grownBy_setB k5 2 _
          have u7 : UA (u ++ [nm]) (.slice (some ⟨g, 0, none⟩) (u.length + 1) cap) (w5.setCell ⟨b, 2, none⟩ (.slice (some ⟨g, 0, none⟩) (u.length + 1) cap)) := u6.kept fun k cur hk => (heap_setCell_other w5 _ k _ (fun e => by have e : k = b := e; subst e; rw [c5] at hk; cases hk)).trans hk
          clear m2 q2 u6 k5 c5 g5
          generalize w5.setCell ⟨b, 2, none⟩ (.slice (some ⟨g, 0, none⟩) (u.length + 1) cap) = w6 at c6 g6 k6 u7 ⊢
          have hS5 : Hid (R = Res.then (tx (envM M) K (u ++ [nm]) n [] (L val)) fun t m =>
            if sw = true then (if 8192 < ((envM M).swap t fr tt).length then .bad 41 else .ok ((envM M).swap t fr tt) m) else .ok t m) := by rw [hS4.out, ← hval.out]; rfl
          clear hS4
          have hvs : val.size ≤ 65536 := by rw [← hval.out]; exact hF.hV _
          have hbw6 : Below w0.heap.size w0 w6 := hb0.grown k6 hb0.size (fun k e => by cases e; exact hF.hb)
          have hcall := hT (u ++ [nm]) n val w6 _ hn hKn (by rw [List.length_append]; simp; omega) hvs hbw6 c6 u7
          clear hval hvs hT
          obtain ⟨T, hTt⟩ : ∃ T, tx (envM M) K (u ++ [nm]) n [] (L val) = T := ⟨_, rfl⟩
          have hlenT : Hid (∀ o m, T = .ok o m → o.length ≤ 8192) := fun o m h => tx_len _ _ _ _ _ _ _ _ (hTt.trans h) (by simp)
          rw [hTt] at hcall hS5
          clear hTt hbw6 u7
          go_wp2_with fail
          refine hcall.mono ?_
          rintro e w7 ⟨k7, hp⟩
          have g7 := (k7.block G (blk_lt g6) (fun e => hGb (Option.some.inj e))).trans g6
          have k8 := Lib.grownBy_trans k6 k7
          cases T with
          | bad cd =>
            have hR6 : R = .bad cd := hS5.out
            subst hR6
            obtain rfl : e = bad (cd : Int) := hp
            go_wp2_with fail
            exact ⟨rfl, k8, rfl⟩
          | ok o m =>
            obtain ⟨rfl, v7, c7, u8⟩ := hp
            obtain ⟨g7', cap7, rfl, hcap7, u9⟩ := u8.front
            have m2 : w7.cell? ⟨b, 2, none⟩ = some (.slice (some ⟨g7', 0, none⟩) (u.length + 1) cap7) := cell_of_row w7 b 2 _ _ _ c7
            have q2 := frozen_of_row w7 b 2 _ _ c7
            have d1 : (0 : Int) ≤ (u.length : Int) := by omega
            have d2 : (u.length : Int) ≤ (cap7 : Int) := by omega
            go_wp2_with fail
            go_meet
            case rel =>
              refine ⟨o, m, .slice (some ⟨g7', 0, none⟩) u.length cap7, rfl, ⟨hS5.out⟩, ⟨hlenT.out o m rfl⟩, ⟨?_⟩, ⟨?_⟩, ⟨?_⟩, ⟨Lib.grownBy_setB k8 2 _⟩⟩
              · exact (heap_setCell_other w7 ⟨b, 2, none⟩ G _ hGb).trans g7
              · exact heap_setCell_same w7 b 2 _ _ _ c7
              · exact u9.kept fun k cur hk => (heap_setCell_other w7 _ k _ (fun e => by have e : k = b := e; subst e; rw [c7] at hk; cases hk)).trans hk
    case rest =>
      obtain ⟨t, m, v', rfl, hR7, ht, g9, c9, u9, k9⟩ := hcut
      clear hS2 hy' hval k2 c2 u2 g2 hbw2 w2 hT
      obtain ⟨r0, r1, r2, r3, r4, q0, q1, q2, q3, q4⟩ := five g9.out
      cases sw with
      | false =>
        have hR8 : R = .ok t m := hR7.out
        subst hR8
        go_wp2_with fail
        go_ret
        exact ⟨k9.out, rfl, v', c9.out, u9.out⟩
      | true =>
        have hlt := ht.out
        have hsz : (B t).size ≤ 8192 := by rw [size_L, L_B]; exact hlt
        have hsf : (B tt).size ≤ 65536 := by rw [size_L, L_B]; exact h3
        have hws := words_sum (B t)
        have hwl := sumS_len ((words (L (B t))).map B)
        have hsum := sumS_swap (B fr) (B tt) ((words (L (B t))).map B)
        have hmul : ((words (L (B t))).map B).length * (B tt).size ≤ 8193 * 65536 := Nat.mul_le_mul (by omega) hsf
        obtain ⟨ks, hks⟩ := swap_ev (B t) (B fr) (B tt) (by omega) (by omega) (by omega)
        have hsw := fun W => names_Swap.calls ks (B t) (B fr) (B tt) _ W (hks ks (Nat.le_refl _))
        have hR8 : R = if 8192 < (L (swapOf (B t) (B fr) (B tt))).length then .bad 41 else .ok (L (swapOf (B t) (B fr) (B tt))) m := hR7.out
        clear hks hmul hsum hwl hws hsf hsz hlt hR7
        generalize swapOf (B t) (B fr) (B tt) = sx at hsw hR8
        have hzx := size_L sx
        rw [← hzx] at hR8
        have hR9 : Hid (R = if 8192 < sx.size then .bad 41 else .ok (L sx) m) := hR8
        clear hR8 hzx
        go_wp2_with fail
        refine (hsw _).mono ?_
        rintro e w10 ⟨rfl, hb10⟩
        have k10 := Lib.grownBy_trans k9.out (grown_b hb10 (some b))
        have c10 := blk_below c9.out hb10
        have u10 := u9.out.below hb10
        clear hsw
        by_cases hbig : 8192 < sx.size
        · have hR10 : R = .bad 41 := by rw [hR9.out, if_pos hbig]
          subst hR10
          go_wp2_with fail
          refine (fit_bad _ (by omega) _).mono ?_
          rintro e w11 ⟨rfl, rfl⟩
          go_wp2_with fail
          exact ⟨rfl, k10, rfl⟩
        · have hR10 : R = .ok (L sx) m := by rw [hR9.out, if_neg hbig]
          subst hR10
          go_wp2_with fail
          refine (fit_ok _ (by omega) _).mono ?_
          rintro e w11 ⟨⟨vv, rfl⟩, rfl⟩
          go_wp2_with fail
          go_ret
          exact ⟨k10, rfl, v', c10, u10⟩
end
end Go.Proofs.YtadfbbjplgbakaaGreat.Exp
namespace Go.Proofs.YtadfbbjplgbakaaGreat.Exp
open Go Go.RowKit Go.Proofs Go.Proofs.YtadfbbjplgbakaaGreatW.PrintWords Go.Proofs.YtadfbbjplgbakaaGreatW.PrintLast Go.Proofs.YtadfbbjplgbakaaGreatW.PrintMore Go.Proofs.YtadfbbjplgbakaaGreat.PX Go.Proofs.YtadfbbjplgbakaaGreat.Plain Go.Proofs.YtadfbbjplgbakaaGreat.Hand
set_option linter.unusedVariables false
set_option linter.unusedSimpArgs false

/-- A builder's block is none of texts. -/
theorem bld_not {B b : Nat} {l : List UInt8} {w : World} (h : IsBld B b l w) {cur : Array Value} {fz : Nat × Nat} : w.heap[b]? ≠ some (.cells cur 9 fz) := by
  intro he
  rcases h with ⟨_, v, hb, _⟩ | ⟨_, v, hb, _⟩ <;> (rw [hb] at he; cases he)
theorem UA.others {u : List (List UInt8)} {v : Value} {w w' : World} {B b : Nat} {l : List UInt8} (h : UA u v w) (hI : IsBld B b l w) (ho : Lib.OthersKept 5 (some b) w w') : UA u v w' :=
  h.kept fun k cur hk => ho k _ hk (fun e => bld_not hI (by rw [← Option.some.inj e]; exact hk)) (fun c fz e => by cases e)
theorem bld_other {B b k : Nat} {l : List UInt8} {w : World} (j : Nat) (h : IsBld B b l w) (hk : k < B) (v : Value) : IsBld B b l (w.setCell ⟨k, j, none⟩ v) := by
  have go : ∀ p, Lib.BuilderAtF 90 5 B b p (Lib.byteCells l) w → Lib.BuilderAtF 90 5 B b p (Lib.byteCells l) (w.setCell ⟨k, j, none⟩ v) := by
    rintro p ⟨hB, q, hb, hown, hne⟩
    refine ⟨hB, q, (heap_setCell_other w ⟨k, j, none⟩ b v (by show b ≠ k; omega)).trans hb, ⟨hown.1, ?_⟩, hne⟩
    rcases hown.2 with h0 | ⟨g, cap, cur, fz, hv, hg, hh, r⟩
    · exact .inl h0
    · exact .inr ⟨g, cap, cur, fz, hv, hg, (heap_setCell_other w ⟨k, j, none⟩ g v (by show g ≠ k; omega)).trans hh, r⟩
  exact h.imp (go _) (go _)
theorem bld_grown {B b k : Nat} {l : List UInt8} {w w' : World} (h : IsBld B b l w) (hg : w.grownBy w' (some k)) (hk : k < B) : IsBld B b l w' := by
  have go : ∀ p, Lib.BuilderAtF 90 5 B b p (Lib.byteCells l) w → Lib.BuilderAtF 90 5 B b p (Lib.byteCells l) w' := by
    rintro p ⟨hB, q, hb, hown, hne⟩
    refine ⟨hB, q, (hg.block b (blk_lt hb) (fun e => by cases e; omega)).trans hb, ⟨hown.1, ?_⟩, hne⟩
    rcases hown.2 with h0 | ⟨g, cap, cur, fz, hv, hg2, hh, r⟩
    · exact .inl h0
    · exact .inr ⟨g, cap, cur, fz, hv, hg2, (hg.block g (blk_lt hh) (fun e => by cases e; omega)).trans hh, r⟩
  exact h.imp (go _) (go _)
theorem stp_len {E : Env} {rec : List (List UInt8) → Nat → List UInt8 → Res} {u : List (List UInt8)} {n : Nat} {r : Rf} {o : List UInt8} {m : Nat} (hr : ∀ u n l o m, rec u n l = .ok o m → o.length ≤ 8192) (h : stp E rec u n r = .ok o m) : o.length ≤ 8192 := by
  unfold stp at h
  by_cases c1 : r.name = [36]
  · rw [if_pos c1] at h; cases h; simp
  · rw [if_neg c1] at h
    obtain ⟨t, q, h1, h2⟩ := Plain.then_ok h
    have hq : t.length ≤ 8192 := by
      by_cases c2 : innL r.name = true
      · rw [if_pos c2] at h1; cases h1; simp
      · rw [if_neg c2] at h1
        by_cases c3 : r.name ∈ u
        · rw [if_pos c3] at h1; cases h1
        · rw [if_neg c3] at h1; exact hr _ _ _ _ _ h1
    by_cases c4 : r.swap = true
    · rw [if_pos c4] at h2
      by_cases c5 : 8192 < (E.swap t r.from_ r.to_).length
      · rw [if_pos c5] at h2; cases h2
      · rw [if_neg c5] at h2; cases h2; omega
    · rw [if_neg c4] at h2; cases h2; exact hq
theorem stp_max {E : Env} {rec : List (List UInt8) → Nat → List UInt8 → Res} {u : List (List UInt8)} {n : Nat} {r : Rf} {o : List UInt8} {m : Nat} (hr : ∀ u n l o m, rec u n l = .ok o m → n ≤ 4096 → m ≤ 4096) (h : stp E rec u n r = .ok o m) (hn : n ≤ 4096) : m ≤ 4096 := by
  unfold stp at h
  by_cases c1 : r.name = [36]
  · rw [if_pos c1] at h; cases h; exact hn
  · rw [if_neg c1] at h
    obtain ⟨t, q, h1, h2⟩ := Plain.then_ok h
    have hq : q ≤ 4096 := by
      by_cases c2 : innL r.name = true
      · rw [if_pos c2] at h1; cases h1; exact hn
      · rw [if_neg c2] at h1
        by_cases c3 : r.name ∈ u
        · rw [if_pos c3] at h1; cases h1
        · rw [if_neg c3] at h1; exact hr _ _ _ _ _ h1 hn
    by_cases c4 : r.swap = true
    · rw [if_pos c4] at h2
      by_cases c5 : 8192 < (E.swap t r.from_ r.to_).length
      · rw [if_pos c5] at h2; cases h2
      · rw [if_neg c5] at h2; cases h2; exact hq
    · rw [if_neg c4] at h2; cases h2; exact hq
theorem tx_max (E : Env) : ∀ (k : Nat) (u : List (List UInt8)) (n : Nat) (out l o : List UInt8) (m : Nat), tx E k u n out l = .ok o m → n ≤ 4096 → m ≤ 4096
  | 0, _, _, _, _, _, _, h, _ => by cases h
  | k + 1, u, n, out, l, o, m, h, hn => by
    rw [tx_succ] at h
    by_cases c1 : l = []
    · rw [if_pos c1] at h; cases h; exact hn
    rw [if_neg c1] at h
    by_cases c2 : 8192 < (out ++ aheadB 36 l).length
    · rw [if_pos c2] at h; cases h
    rw [if_neg c2] at h
    by_cases c3 : l.drop (aheadB 36 l).length = []
    · rw [if_pos c3] at h; cases h; exact hn
    rw [if_neg c3] at h
    by_cases c4 : (rdX (l.drop (aheadB 36 l).length)).2 = false
    · rw [if_pos c4] at h; cases h
    rw [if_neg c4] at h
    by_cases c5 : 4096 < n + 1
    · rw [if_pos c5] at h; cases h
    rw [if_neg c5] at h
    obtain ⟨t, q, h1, h2⟩ := Plain.then_ok h
    have hq := stp_max (fun u n l o m h => tx_max E k u n [] l o m h) h1 (by omega)
    by_cases c6 : 8192 < (out ++ aheadB 36 l ++ t).length
    · rw [if_pos c6] at h2; cases h2
    rw [if_neg c6] at h2
    exact tx_max E k _ _ _ _ _ _ h2 hq
theorem grown_to {w w1 w2 : World} {b : Nat} (h : w.grownBy w1 (some b)) (k : Below w.heap.size w1 w2) : w.grownBy w2 (some b) :=
  ⟨k.os.trans h.os, k.tape.trans h.tape, k.output.trans h.output, Nat.le_trans h.size k.size, fun i hi hne => (k.block i hi).trans (h.block i hi hne)⟩
/-- A text, read off a value. -/
def strOf : Value → ByteArray
  | .string s => s
  | _ => ⟨#[]⟩
section
variable (b k0 : Nat) (Am Ai : Option Addr) (cm ci : Nat) (M : List Mac) (w0 : World)
set_option maxHeartbeats 4000000 in
set_option maxRecDepth 100000 in
theorem text_of (hF : Fix b k0 Am cm M w0) (K : Nat) (hS : ∀ k, k < K → StandsC b Am Ai cm ci M w0 k) : TextC b Am Ai cm ci M w0 K := by
  intro u n s w v hn hKn hu hs hb0 hW hU
  obtain ⟨R, hR⟩ : ∃ R, tx (envM M) K u n [] (L s) = R := ⟨_, rfl⟩
  rw [hR]
  have hRh : Hid (tx (envM M) K u n [] (L s) = R) := hR
  clear hR
  obtain ⟨G, hG⟩ : ∃ G, G = w.heap.size := ⟨_, rfl⟩
  obtain ⟨W1, hW1⟩ : ∃ W1, W1 = w.alloc (.cells #[.pointer none, .slice none 0 0] 90) := ⟨_, rfl⟩
  have i1 : IsBld G G [] W1 := by rw [hG, hW1]; exact bld_new w
  have b1 : Below w.heap.size w W1 := by rw [hW1]; exact below_alloc (Below.refl _ _) _
  have hbG : b < G := by rw [hG]; exact blk_lt hW
  have hzs := size_L s
  go_enter Tryz.func35, Tryz.ntmps35
  go_wp2_with fail
  rw [← hW1, ← hG]
  have c1 : WB b Am Ai cm ci M.length v (n : Int) W1 := (b1.block b (blk_lt hW)).trans hW
  have u1 := hU.below b1
  have k1 : w.grownBy W1 (some b) := grown_b b1 _
  have hGs : G ≤ W1.heap.size := by rw [hG]; exact b1.size
  clear b1 hW1 hU
  go_loopw [1] (fun v1 wr => ∃ (k' n' : Nat) (out l' : List UInt8) (v' : Value), v1 = .string (B l') ∧ Aside0 (k' ≤ K ∧ n' ≤ 4096 ∧ 4097 ≤ k' + n' ∧ n ≤ n' ∧ out.length ≤ 8192 ∧ l'.length ≤ 65536) ∧ Aside0 (tx (envM M) k' u n' out l' = R) ∧ Aside0 (WB b Am Ai cm ci M.length v' (n' : Int) wr) ∧ Aside0 (UA u v' wr) ∧ Aside0 (IsBld G G out wr) ∧ Aside0 (w.grownBy wr (some b))) (fun v1 _ => (strOf v1).size)
  case atStart => exact ⟨K, n, [], L s, v, rfl, ⟨Nat.le_refl _, hn, hKn, Nat.le_refl _, by simp, by omega⟩, ⟨hRh.out⟩, ⟨c1⟩, ⟨u1⟩, ⟨i1⟩, ⟨k1⟩⟩
  case round =>
    obtain ⟨k', n', out, l', v', rfl, hA, hT, cA, uA, iA, kA⟩ := hrel
    clear hRh hzs c1 u1 i1 k1 hGs hW hs hn hKn
    obtain ⟨a1, a2, a3, a4, a5, a6⟩ := hA.out
    obtain ⟨kk, rfl⟩ : ∃ kk, k' = kk + 1 := ⟨k' - 1, by omega⟩
    have hT2 : Hid (tx (envM M) (kk + 1) u n' out l' = R) := hT.out
    have hG2 : G ≤ wr.heap.size := by rw [hG]; exact kA.out.size
    have hG3 : Hid (G = w.heap.size) := hG
    clear hT hA hG
    have hz := size_L (B l')
    rw [L_B] at hz
    by_cases hl : l' = []
    · subst hl
      have hR2 : R = .ok out n' := by rw [← hT2.out, tx_succ, if_pos rfl]
      subst hR2
      clear hT2 hS
      go_wp2_with fail
      refine (bld_String G G out _ iA.out hG2).mono ?_
      rintro e w9 ⟨rfl, i9, b9, o9⟩
      go_wp2_with fail
      go_ret
      exact ⟨grown_to kA.out (hG3.out ▸ b9), rfl, v', (b9.block b hbG).trans cA.out, uA.out.others iA.out o9⟩
    · have e2 : (!l'.isEmpty) = true := by
        cases l' with
        | nil => exact absurd rfl hl
        | cons => rfl
      obtain ⟨p, hp⟩ : ∃ p, aheadB 36 l' = p := ⟨_, rfl⟩
      obtain ⟨l1, hl1⟩ : ∃ l1, l'.drop p.length = l1 := ⟨_, rfl⟩
      have hpl : p.length ≤ l'.length := by rw [← hp]; exact ahead_le _ _
      have hcu := cut_eq (B l') 36 (by omega)
      rw [L_B, hp] at hcu
      have hcut := fun W => strings_Cut.calls _ _ _ _ _ W hcu
      clear hcu
      generalize (if l'.contains 36 = true then B (behindB 36 l') else (⟨#[]⟩ : ByteArray)) = rr at hcut
      generalize l'.contains 36 = fd at hcut
      obtain ⟨o1, ho1⟩ : ∃ o1, out ++ p = o1 := ⟨_, rfl⟩
      have hopl : out.length + p.length = o1.length := by rw [← ho1, List.length_append]
      have hT3 : Hid ((if 8192 < o1.length then .bad 41
        else if l1 = [] then .ok o1 n'
        else if (rdX l1).2 = false then .bad 60
        else if 4096 < n' + 1 then .bad 41
        else Res.then (stp (envM M) (fun u n l => tx (envM M) kk u n [] l) u (n' + 1) (rdX l1).1) fun t m =>
          if 8192 < (o1 ++ t).length then .bad 41
          else tx (envM M) kk u m (o1 ++ t) (l1.drop (rdX l1).1.size)) = R) := by
        rw [← hT2.out, tx_succ, if_neg hl, hp, hl1, ho1]; rfl
      have hhd : Hid (l1 ≠ [] → l1.head? = some 36) := fun h => by rw [← hl1, ← hp] at h ⊢; exact ahead_drop 36 l' h
      have hl1s : l1.length + p.length = l'.length := by rw [← hl1, List.length_drop]; omega
      have hext : (B l').extract p.length l'.length = B l1 := by
        rw [extract_B, L_B, hl1, List.take_of_length_le (by omega)]
      have hzp := size_L (B p)
      rw [L_B] at hzp
      have hzl : (B p).size ≤ (B l').size := by omega
      clear hT2 hp hl1
      go_wp2_with fail
      refine (hcut _).mono ?_
      rintro e w2 ⟨rfl, ⟨⟨n2, rfl⟩⟩⟩
      have c2 : WB b Am Ai cm ci M.length v' (n' : Int) (wr.drewN n2) := cA.out
      have u2 : UA u v' (wr.drewN n2) := uA.out
      have i2 : IsBld G G out (wr.drewN n2) := iA.out
      have k2 : w.grownBy (wr.drewN n2) (some b) := grown_to kA.out (pw_below_drewN (Below.refl _ _) n2)
      have hG4 : G ≤ (wr.drewN n2).heap.size := hG2
      clear cA uA iA kA hG2 hcut
      generalize wr.drewN n2 = w2 at c2 u2 i2 k2 hG4 ⊢
      go_wp2_with fail
      refine (bld_WriteString G G out (B p) _ i2 (by omega) hG4).mono ?_
      rintro e w3 ⟨rfl, i3, b3, o3⟩
      rw [show (B p).data.toList = p from L_B p, ho1] at i3
      have c3 : WB b Am Ai cm ci M.length v' (n' : Int) w3 := (b3.block b hbG).trans c2
      have u3 := u2.others i2 o3
      have k3 := grown_to k2 (hG3.out ▸ b3)
      have hG5 : G ≤ w3.heap.size := Nat.le_trans hG4 b3.size
      clear c2 u2 i2 k2 hG4 b3 o3
      go_wp2_with fail
      refine (bld_Len G G o1 _ i3).mono ?_
      rintro e w4 ⟨rfl, rfl⟩
      have hT4 := hT3.out
      by_cases hbig : 8192 < o1.length
      · rw [if_pos hbig] at hT4
        subst hT4
        clear hT3
        go_wp2_with fail
        refine (fit_bad _ (by omega) _).mono ?_
        rintro e w5 ⟨rfl, rfl⟩
        go_wp2_with fail
        exact ⟨rfl, k3, rfl⟩
      · rw [if_neg hbig] at hT4
        have hT5 : Hid _ := hT4
        clear hT4 hT3
        by_cases hl0 : l1 = []
        · have hT6 := hT5.out
          rw [if_pos hl0] at hT6
          subst hl0
          subst hT6
          clear hT5
          go_wp2_with fail
          refine (fit_ok _ (by omega) _).mono ?_
          rintro e w5 ⟨⟨vv, rfl⟩, rfl⟩
          go_wp2_with fail
          refine (bld_String G G o1 _ i3 hG5).mono ?_
          rintro e w9 ⟨rfl, i9, b9, o9⟩
          go_wp2_with fail
          go_ret
          exact ⟨grown_to k3 (hG3.out ▸ b9), rfl, v', (b9.block b hbG).trans c3, u3.others i3 o9⟩
        · have e3 : l1.isEmpty = false := by
            cases l1 with
            | nil => exact absurd rfl hl0
            | cons => rfl
          have hT6 := hT5.out
          rw [if_neg hl0] at hT6
          have hT7 : Hid _ := hT6
          clear hT5 hT6
          go_wp2_with fail
          refine (fit_ok _ (by omega) _).mono ?_
          rintro e w5 ⟨⟨vv, rfl⟩, rfl⟩
          go_wp2_with fail
          have hrd := read_calls (B l1) w5 (by rw [size_L, L_B]; omega) (by rw [L_B]; exact hhd.out hl0)
          rw [L_B] at hrd
          have hfit := rdX_fits l1
          obtain ⟨⟨⟨nm, sw, fr, tt, sz⟩, ok⟩, hq⟩ : ∃ q, rdX l1 = q := ⟨_, rfl⟩
          have hT8 := hT7.out
          rw [hq] at hrd hfit hT8
          simp only at hfit hT8
          have hT9 : Hid _ := hT8
          clear hq hT8 hT7
          refine hrd.mono ?_
          rintro e w6 ⟨rfl, b6⟩
          have c6 : WB b Am Ai cm ci M.length v' (n' : Int) w6 := blk_below c3 b6
          have u6 := u3.below b6
          have i6 := bld_below i3 b6
          have k6 := Lib.grownBy_trans k3 (grown_b b6 _)
          have hG6 : G ≤ w6.heap.size := Nat.le_trans hG5 b6.size
          clear hrd c3 u3 i3 k3 hG5 b6
          have hu73 := Tryz.underlying62
          cases ok with
          | false =>
            have hT10 := hT9.out
            rw [if_pos rfl] at hT10
            subst hT10
            go_wp2_with fail
            exact ⟨rfl, Lib.grownBy_trans k6 (grown_b (below_alloc (Below.refl _ _) _) _), rfl⟩
          | true =>
            have hT10 := hT9.out
            rw [if_neg (by decide)] at hT10
            have hT11 : Hid _ := hT10
            clear hT9 hT10
            obtain ⟨z1, z2, z3, z4, z5⟩ := hfit rfl
            clear hfit
            go_upto_region 11 with (first | ((with_reducible refine gate_dst (N := 9) rfl ?_); refine box_event ?hg (N := 9) ?hd (cs := #[.string (⟨#[]⟩ : ByteArray), .bool false, .string (⟨#[]⟩ : ByteArray), .string (⟨#[]⟩ : ByteArray), .int .i64 0]) (t := 62) ?hr ?_; (case hd => rfl); (case hg => rfl); (case hr => first | (go_simp; done) | (go_simp; rfl)); intro G9 hG9 w7 x7 hb; have b7 := below_step (Below.refl w6.heap.size w6) hb; have hG9w := (by rw [hG9]; exact Nat.le_refl _ : w6.heap.size ≤ G9); clear hb hG9; obtain ⟨r0, r1, r2, r3, r4, q0, q1, q2, q3, q4⟩ := five x7))
            obtain ⟨x8, b8⟩ := fill5 x7 b7 hG9w (Value.string (B nm)) (Value.bool sw) (Value.string (B fr)) (Value.string (B tt)) (Value.int .i64 (sz : Int))
            unfold set5 at x8 b8
            clear x7 b7 hG9w r0 r1 r2 r3 r4 q0 q1 q2 q3 q4
            generalize (((((w7.setCell ⟨G9, 0, none⟩ (Value.string (B nm))).setCell ⟨G9, 1, none⟩ (Value.bool sw)).setCell ⟨G9, 2, none⟩ (Value.string (B fr))).setCell ⟨G9, 3, none⟩ (Value.string (B tt))).setCell ⟨G9, 4, none⟩ (Value.int .i64 (sz : Int))) = w8 at x8 b8 ⊢
            have c8 : WB b Am Ai cm ci M.length v' (n' : Int) w8 := blk_below c6 b8
            have u8 := u6.below b8
            have i8 := bld_below i6 b8
            have k8 := Lib.grownBy_trans k6 (grown_b b8 (some b))
            have hG8 := Nat.le_trans hG6 b8.size
            have h9b : G9 ≠ b := fun e => by rw [e, c8] at x8; cases x8
            clear b8 c6 u6 i6 k6 hG6 w7
            have m3 : w8.cell? ⟨b, 3, none⟩ = some (.int .i64 (n' : Int)) := cell_of_row w8 b 3 _ _ _ c8
            have f3 := frozen_of_row w8 b 3 _ _ c8
            have c9 : WB b Am Ai cm ci M.length v' ((n' : Int) + 1) (w8.setCell ⟨b, 3, none⟩ (.int .i64 ((n' : Int) + 1))) := heap_setCell_same w8 b 3 _ _ _ c8
            have x9 := (heap_setCell_other w8 ⟨b, 3, none⟩ G9 (.int .i64 ((n' : Int) + 1)) h9b).trans x8
            have u9 : UA u v' (w8.setCell ⟨b, 3, none⟩ (.int .i64 ((n' : Int) + 1))) := u8.kept fun k cur hk => (heap_setCell_other w8 _ k _ (fun e => by have e : k = b := e; subst e; rw [c8] at hk; cases hk)).trans hk
            have i9 : IsBld G G o1 (w8.setCell ⟨b, 3, none⟩ (.int .i64 ((n' : Int) + 1))) := bld_other 3 i8 hbG _
            have k9 : w.grownBy (w8.setCell ⟨b, 3, none⟩ (.int .i64 ((n' : Int) + 1))) (some b) := Lib.grownBy_setB k8 3 _
            have m9 : (w8.setCell ⟨b, 3, none⟩ (.int .i64 ((n' : Int) + 1))).cell? ⟨b, 3, none⟩ = some (.int .i64 ((n' : Int) + 1)) := cell_of_row _ b 3 _ _ _ c9
            clear c8 x8 u8 i8 k8
            have hG9 : G ≤ (w8.setCell ⟨b, 3, none⟩ (.int .i64 ((n' : Int) + 1))).heap.size := Nat.le_trans hG8 (Lib.grownBy_setB (World.grownBy.refl w8 (some b)) 3 (.int .i64 ((n' : Int) + 1))).size
            go_upto_region 12 with fail
            generalize w8.setCell ⟨b, 3, none⟩ (.int .i64 ((n' : Int) + 1)) = w9 at c9 x9 u9 i9 k9 m9 hG9 ⊢
            clear m3 f3 hG8
            by_cases hn2 : 4096 < n' + 1
            · have hT12 := hT11.out
              rw [if_pos hn2] at hT12
              subst hT12
              have d1 : decide ((4096 : Int) < (n' : Int) + 1) = true := decide_eq_true (by omega)
              clear hT11
              go_wp2_with fail
              exact ⟨rfl, k9, rfl⟩
            · have hT12 := hT11.out
              rw [if_neg hn2] at hT12
              have hT13 : Hid _ := hT12
              clear hT11 hT12
              have d1 : decide ((4096 : Int) < (n' : Int) + 1) = false := decide_eq_false (by omega)
              obtain ⟨r0, r1, r2, r3, r4, q0, q1, q2, q3, q4⟩ := five x9
              have hcall := hS kk (by omega) u (n' + 1) ⟨nm, sw, fr, tt, sz⟩ w9 v' (by omega) (by omega) (by omega) (Nat.le_trans z1 (by omega)) (Nat.le_trans z2 (by omega)) (Nat.le_trans z3 (by omega)) (hb0.grown k9 hb0.size (fun k e => by cases e; exact hF.hb)) c9 u9
              obtain ⟨T, hTt⟩ : ∃ T, stp (envM M) (fun u n l => tx (envM M) kk u n [] l) u (n' + 1) ⟨nm, sw, fr, tt, sz⟩ = T := ⟨_, rfl⟩
              have hlenT : Hid (∀ o m, T = .ok o m → o.length ≤ 8192 ∧ m ≤ 4096 ∧ n' + 1 ≤ m) := fun o m h => ⟨stp_len (fun u n l o m h => tx_len _ _ _ _ _ _ _ _ h (by simp)) (hTt.trans h), stp_max (fun u n l o m h => tx_max _ _ _ _ _ _ _ _ h) (hTt.trans h) (by omega), stp_n (fun u n l o m h => tx_n _ _ _ _ _ _ _ _ h) (hTt.trans h)⟩
              have hT14 := hT13.out
              rw [hTt] at hcall hT14
              have hT15 : Hid _ := hT14
              clear hTt hT13 hT14 hS
              go_wp2_with fail
              refine hcall.mono ?_
              rintro e w10 ⟨k10, hp⟩
              have k11 := Lib.grownBy_trans k9 k10
              cases T with
              | bad cd =>
                obtain rfl : R = .bad cd := hT15.out.symm
                obtain rfl : e = bad (cd : Int) := hp
                go_wp2_with fail
                exact ⟨rfl, k11, rfl⟩
              | ok t m =>
                obtain ⟨rfl, v10, c10, u10⟩ := hp
                obtain ⟨y1, y2, y3⟩ := hlenT.out t m rfl
                have i10 := bld_grown i9 k10 hbG
                have x10 := (k10.block G9 (blk_lt x9) (fun e => h9b (Option.some.inj e))).trans x9
                have hG10 : G ≤ w10.heap.size := Nat.le_trans hG9 k10.size
                have hzt := size_L (B t)
                rw [L_B] at hzt
                obtain ⟨o2, ho2⟩ : ∃ o2, o1 ++ t = o2 := ⟨_, rfl⟩
                have ho2l : o1.length + t.length = o2.length := by rw [← ho2, List.length_append]
                have hT16 := hT15.out
                simp only [Res.then] at hT16
                rw [ho2] at hT16
                have hT17 : Hid _ := hT16
                clear hcall hT15 hT16 hlenT k9 k10 c9 u9 i9 x9 m9 hG9 r0 r1 r2 r3 r4 q0 q1 q2 q3 q4
                go_wp2_with fail
                refine (bld_WriteString G G o1 (B t) _ i10 (by omega) hG10).mono ?_
                rintro e w11 ⟨rfl, i11, b11, o11⟩
                rw [show (B t).data.toList = t from L_B t, ho2] at i11
                have c11 : WB b Am Ai cm ci M.length v10 (m : Int) w11 := (b11.block b hbG).trans c10
                have u11 := u10.others i10 o11
                have k12 := grown_to k11 (hG3.out ▸ b11)
                have x11 := o11 G9 _ x10 (fun e => by
                  have e : G9 = G := Option.some.inj e
                  rw [e] at x10
                  rcases i10 with ⟨_, q, hb, _⟩ | ⟨_, q, hb, _⟩ <;> (rw [hb] at x10; cases x10)) (fun c fz e => by cases e)
                have hG11 : G ≤ w11.heap.size := Nat.le_trans hG10 b11.size
                clear c10 u10 i10 k11 x10 hG10 b11 o11 ho2
                go_wp2_with fail
                refine (bld_Len G G o2 _ i11).mono ?_
                rintro e w12 ⟨rfl, rfl⟩
                have hT18 := hT17.out
                by_cases hbig2 : 8192 < o2.length
                · rw [if_pos hbig2] at hT18
                  subst hT18
                  clear hT17
                  go_wp2_with fail
                  refine (fit_bad _ (by omega) _).mono ?_
                  rintro e w13 ⟨rfl, rfl⟩
                  go_wp2_with fail
                  exact ⟨rfl, k12, rfl⟩
                · rw [if_neg hbig2] at hT18
                  have hT19 : Hid _ := hT18
                  clear hT17 hT18
                  have s4 : w12.cell? ⟨G9, 4, none⟩ = some (.int .i64 (sz : Int)) := cell_of_row w12 G9 4 _ _ _ x11
                  have hzl1 := size_L (B l1)
                  rw [L_B] at hzl1
                  have e5 : (0 : Int) ≤ (sz : Int) := by omega
                  have e6 : (sz : Int) ≤ ((B l1).size : Int) := by omega
                  have hext2 : (B l1).extract sz l1.length = B (l1.drop sz) := by
                    rw [extract_B, L_B, List.take_of_length_le (by rw [List.length_drop]; omega)]
                  go_wp2_with fail
                  refine (fit_ok _ (by omega) _).mono ?_
                  rintro e w13 ⟨⟨vv2, rfl⟩, rfl⟩
                  go_wp2_with fail

                  go_roundw
                  case rel => exact ⟨kk, m, o2, l1.drop sz, v10, rfl, ⟨by omega, y2, by omega, by omega, by omega, by rw [List.length_drop]; omega⟩, ⟨hT19.out⟩, ⟨c11⟩, ⟨u11⟩, ⟨i11⟩, ⟨k12⟩⟩
                  case measure =>
                    show (B (l1.drop sz)).size < (B l').size
                    rw [size_L, L_B, List.length_drop]
                    omega
end
end Go.Proofs.YtadfbbjplgbakaaGreat.Exp
