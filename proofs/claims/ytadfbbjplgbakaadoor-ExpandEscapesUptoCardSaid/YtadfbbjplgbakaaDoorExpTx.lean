/- (*work).text: what a text becomes is tx. -/
import Derived.Test.YtadfbbjplgbakaaDoorExp5
import Derived.Test.YtadfbbjplgbakaaDoorPXx4
namespace Go.Proofs.YtadfbbjplgbakaaDoor.Exp
open Go Go.RowKit Go.Proofs Go.Proofs.YtadfbbjplgbakaaDoorW.PrintWords Go.Proofs.YtadfbbjplgbakaaDoorW.PrintLast Go.Proofs.YtadfbbjplgbakaaDoorW.PrintMore Go.Proofs.YtadfbbjplgbakaaDoor.PX Go.Proofs.YtadfbbjplgbakaaDoor.Plain Go.Proofs.YtadfbbjplgbakaaDoor.Hand
set_option linter.unusedVariables false
set_option linter.unusedSimpArgs false

/-- A builder's block is none of texts. -/
theorem bld_not {B b : Nat} {l : List UInt8} {w : World} (h : IsBld B b l w) {cur : Array Value} {fz : Nat × Nat} : w.heap[b]? ≠ some (.cells cur 9 fz) := by
  intro he
  rcases h with ⟨_, v, hb, _⟩ | ⟨_, v, hb, _⟩ <;> (rw [hb] at he; cases he)
theorem UA.others {u : List (List UInt8)} {v : Value} {w w' : World} {B b : Nat} {l : List UInt8} (h : UA u v w) (hI : IsBld B b l w) (ho : Lib.OthersKept 5 (some b) w w') : UA u v w' :=
  h.kept fun k cur hk => ho k _ hk (fun e => bld_not hI (by rw [← Option.some.inj e]; exact hk)) (fun c fz e => by cases e)
theorem bld_other {B b k : Nat} {l : List UInt8} {w : World} (j : Nat) (h : IsBld B b l w) (hk : k < B) (v : Value) : IsBld B b l (w.setCell ⟨k, j, none⟩ v) := by
  have go : ∀ p, Lib.BuilderAtF 63 5 B b p (Lib.byteCells l) w → Lib.BuilderAtF 63 5 B b p (Lib.byteCells l) (w.setCell ⟨k, j, none⟩ v) := by
    rintro p ⟨hB, q, hb, hown, hne⟩
    refine ⟨hB, q, (heap_setCell_other w ⟨k, j, none⟩ b v (by show b ≠ k; omega)).trans hb, ⟨hown.1, ?_⟩, hne⟩
    rcases hown.2 with h0 | ⟨g, cap, cur, fz, hv, hg, hh, r⟩
    · exact .inl h0
    · exact .inr ⟨g, cap, cur, fz, hv, hg, (heap_setCell_other w ⟨k, j, none⟩ g v (by show g ≠ k; omega)).trans hh, r⟩
  exact h.imp (go _) (go _)
theorem bld_grown {B b k : Nat} {l : List UInt8} {w w' : World} (h : IsBld B b l w) (hg : w.grownBy w' (some k)) (hk : k < B) : IsBld B b l w' := by
  have go : ∀ p, Lib.BuilderAtF 63 5 B b p (Lib.byteCells l) w → Lib.BuilderAtF 63 5 B b p (Lib.byteCells l) w' := by
    rintro p ⟨hB, q, hb, hown, hne⟩
    refine ⟨hB, q, (hg.block b (blk_lt hb) (fun e => by cases e; omega)).trans hb, ⟨hown.1, ?_⟩, hne⟩
    rcases hown.2 with h0 | ⟨g, cap, cur, fz, hv, hg2, hh, r⟩
    · exact .inl h0
    · exact .inr ⟨g, cap, cur, fz, hv, hg2, (hg.block g (blk_lt hh) (fun e => by cases e; omega)).trans hh, r⟩
  exact h.imp (go _) (go _)
theorem stp_len {E : Env} {rec : List (List UInt8) → Nat → List UInt8 → Res} {u : List (List UInt8)} {n : Nat} {r : Rf} {o : List UInt8} {m : Nat} (hr : ∀ u n l o m, rec u n l = .ok o m → o.length ≤ 8192) (h : stp E rec u n r = .ok o m) : o.length ≤ 8192 := by
  unfold stp at h
  by_cases c1 : r.name = [36]
  · rw [if_pos c1] at h; cases h; simp
  · rw [if_neg c1] at h
    obtain ⟨t, q, h1, h2⟩ := Plain.then_ok h
    have hq : t.length ≤ 8192 := by
      by_cases c2 : innL r.name = true
      · rw [if_pos c2] at h1; cases h1; simp
      · rw [if_neg c2] at h1
        by_cases c3 : r.name ∈ u
        · rw [if_pos c3] at h1; cases h1
        · rw [if_neg c3] at h1; exact hr _ _ _ _ _ h1
    by_cases c4 : r.swap = true
    · rw [if_pos c4] at h2
      by_cases c5 : 8192 < (E.swap t r.from_ r.to_).length
      · rw [if_pos c5] at h2; cases h2
      · rw [if_neg c5] at h2; cases h2; omega
    · rw [if_neg c4] at h2; cases h2; exact hq
theorem stp_max {E : Env} {rec : List (List UInt8) → Nat → List UInt8 → Res} {u : List (List UInt8)} {n : Nat} {r : Rf} {o : List UInt8} {m : Nat} (hr : ∀ u n l o m, rec u n l = .ok o m → n ≤ 4096 → m ≤ 4096) (h : stp E rec u n r = .ok o m) (hn : n ≤ 4096) : m ≤ 4096 := by
  unfold stp at h
  by_cases c1 : r.name = [36]
  · rw [if_pos c1] at h; cases h; exact hn
  · rw [if_neg c1] at h
    obtain ⟨t, q, h1, h2⟩ := Plain.then_ok h
    have hq : q ≤ 4096 := by
      by_cases c2 : innL r.name = true
      · rw [if_pos c2] at h1; cases h1; exact hn
      · rw [if_neg c2] at h1
        by_cases c3 : r.name ∈ u
        · rw [if_pos c3] at h1; cases h1
        · rw [if_neg c3] at h1; exact hr _ _ _ _ _ h1 hn
    by_cases c4 : r.swap = true
    · rw [if_pos c4] at h2
      by_cases c5 : 8192 < (E.swap t r.from_ r.to_).length
      · rw [if_pos c5] at h2; cases h2
      · rw [if_neg c5] at h2; cases h2; exact hq
    · rw [if_neg c4] at h2; cases h2; exact hq
theorem tx_max (E : Env) : ∀ (k : Nat) (u : List (List UInt8)) (n : Nat) (out l o : List UInt8) (m : Nat), tx E k u n out l = .ok o m → n ≤ 4096 → m ≤ 4096
  | 0, _, _, _, _, _, _, h, _ => by cases h
  | k + 1, u, n, out, l, o, m, h, hn => by
    rw [tx_succ] at h
    by_cases c1 : l = []
    · rw [if_pos c1] at h; cases h; exact hn
    rw [if_neg c1] at h
    by_cases c2 : 8192 < (out ++ aheadB 36 l).length
    · rw [if_pos c2] at h; cases h
    rw [if_neg c2] at h
    by_cases c3 : l.drop (aheadB 36 l).length = []
    · rw [if_pos c3] at h; cases h; exact hn
    rw [if_neg c3] at h
    by_cases c4 : (rdX (l.drop (aheadB 36 l).length)).2 = false
    · rw [if_pos c4] at h; cases h
    rw [if_neg c4] at h
    by_cases c5 : 4096 < n + 1
    · rw [if_pos c5] at h; cases h
    rw [if_neg c5] at h
    obtain ⟨t, q, h1, h2⟩ := Plain.then_ok h
    have hq := stp_max (fun u n l o m h => tx_max E k u n [] l o m h) h1 (by omega)
    by_cases c6 : 8192 < (out ++ aheadB 36 l ++ t).length
    · rw [if_pos c6] at h2; cases h2
    rw [if_neg c6] at h2
    exact tx_max E k _ _ _ _ _ _ h2 hq
theorem grown_to {w w1 w2 : World} {b : Nat} (h : w.grownBy w1 (some b)) (k : Below w.heap.size w1 w2) : w.grownBy w2 (some b) :=
  ⟨k.os.trans h.os, k.tape.trans h.tape, k.output.trans h.output, Nat.le_trans h.size k.size, fun i hi hne => (k.block i hi).trans (h.block i hi hne)⟩
/-- A text, read off a value. -/
def strOf : Value → ByteArray
  | .string s => s
  | _ => ⟨#[]⟩
section
variable (b k0 : Nat) (Am Ai : Option Addr) (cm ci : Nat) (M : List Mac) (w0 : World)
set_option maxHeartbeats 4000000 in
set_option maxRecDepth 100000 in
theorem text_of (hF : Fix b k0 Am cm M w0) (K : Nat) (hS : ∀ k, k < K → StandsC b Am Ai cm ci M w0 k) : TextC b Am Ai cm ci M w0 K := by
  intro u n s w v hn hKn hu hs hb0 hW hU
  obtain ⟨R, hR⟩ : ∃ R, tx (envM M) K u n [] (L s) = R := ⟨_, rfl⟩
  rw [hR]
  have hRh : Hid (tx (envM M) K u n [] (L s) = R) := hR
  clear hR
  obtain ⟨G, hG⟩ : ∃ G, G = w.heap.size := ⟨_, rfl⟩
  obtain ⟨W1, hW1⟩ : ∃ W1, W1 = w.alloc (.cells #[.pointer none, .slice none 0 0] 63) := ⟨_, rfl⟩
  have i1 : IsBld G G [] W1 := by rw [hG, hW1]; exact bld_new w
  have b1 : Below w.heap.size w W1 := by rw [hW1]; exact below_alloc (Below.refl _ _) _
  have hbG : b < G := by rw [hG]; exact blk_lt hW
  have hzs := size_L s
  go_enter Tryd.func19, Tryd.ntmps19
  go_wp2_with fail
  rw [← hW1, ← hG]
  have c1 : WB b Am Ai cm ci M.length v (n : Int) W1 := (b1.block b (blk_lt hW)).trans hW
  have u1 := hU.below b1
  have k1 : w.grownBy W1 (some b) := grown_b b1 _
  have hGs : G ≤ W1.heap.size := by rw [hG]; exact b1.size
  clear b1 hW1 hU
  go_loopw [1] (fun v1 wr => ∃ (k' n' : Nat) (out l' : List UInt8) (v' : Value), v1 = .string (B l') ∧ Aside0 (k' ≤ K ∧ n' ≤ 4096 ∧ 4097 ≤ k' + n' ∧ n ≤ n' ∧ out.length ≤ 8192 ∧ l'.length ≤ 65536) ∧ Aside0 (tx (envM M) k' u n' out l' = R) ∧ Aside0 (WB b Am Ai cm ci M.length v' (n' : Int) wr) ∧ Aside0 (UA u v' wr) ∧ Aside0 (IsBld G G out wr) ∧ Aside0 (w.grownBy wr (some b))) (fun v1 _ => (strOf v1).size)
  case atStart => exact ⟨K, n, [], L s, v, rfl, ⟨Nat.le_refl _, hn, hKn, Nat.le_refl _, by simp, by omega⟩, ⟨hRh.out⟩, ⟨c1⟩, ⟨u1⟩, ⟨i1⟩, ⟨k1⟩⟩
  case round =>
    obtain ⟨k', n', out, l', v', rfl, hA, hT, cA, uA, iA, kA⟩ := hrel
    clear hRh hzs c1 u1 i1 k1 hGs hW hs hn hKn
    obtain ⟨a1, a2, a3, a4, a5, a6⟩ := hA.out
    obtain ⟨kk, rfl⟩ : ∃ kk, k' = kk + 1 := ⟨k' - 1, by omega⟩
    have hT2 : Hid (tx (envM M) (kk + 1) u n' out l' = R) := hT.out
    have hG2 : G ≤ wr.heap.size := by rw [hG]; exact kA.out.size
    have hG3 : Hid (G = w.heap.size) := hG
    clear hT hA hG
    have hz := size_L (B l')
    rw [L_B] at hz
    by_cases hl : l' = []
    · subst hl
      have hR2 : R = .ok out n' := by rw [← hT2.out, tx_succ, if_pos rfl]
      subst hR2
      clear hT2 hS
      go_wp2_with fail
      refine (bld_String G G out _ iA.out hG2).mono ?_
      rintro e w9 ⟨rfl, i9, b9, o9⟩
      go_wp2_with fail
      go_ret
      exact ⟨grown_to kA.out (hG3.out ▸ b9), rfl, v', (b9.block b hbG).trans cA.out, uA.out.others iA.out o9⟩
    · have e2 : (!l'.isEmpty) = true := by
        cases l' with
        | nil => exact absurd rfl hl
        | cons => rfl
      obtain ⟨p, hp⟩ : ∃ p, aheadB 36 l' = p := ⟨_, rfl⟩
      obtain ⟨l1, hl1⟩ : ∃ l1, l'.drop p.length = l1 := ⟨_, rfl⟩
      have hpl : p.length ≤ l'.length := by rw [← hp]; exact ahead_le _ _
      have hcu := cut_eq (B l') 36 (by omega)
      rw [L_B, hp] at hcu
      have hcut := fun W => strings_Cut.calls _ _ _ _ _ W hcu
      clear hcu
      generalize (if l'.contains 36 = true then B (behindB 36 l') else (⟨#[]⟩ : ByteArray)) = rr at hcut
      generalize l'.contains 36 = fd at hcut
      obtain ⟨o1, ho1⟩ : ∃ o1, out ++ p = o1 := ⟨_, rfl⟩
      have hopl : out.length + p.length = o1.length := by rw [← ho1, List.length_append]
      have hT3 : Hid ((if 8192 < o1.length then .bad 41
        else if l1 = [] then .ok o1 n'
        else if (rdX l1).2 = false then .bad 60
        else if 4096 < n' + 1 then .bad 41
        else Res.then (stp (envM M) (fun u n l => tx (envM M) kk u n [] l) u (n' + 1) (rdX l1).1) fun t m =>
          if 8192 < (o1 ++ t).length then .bad 41
          else tx (envM M) kk u m (o1 ++ t) (l1.drop (rdX l1).1.size)) = R) := by
        rw [← hT2.out, tx_succ, if_neg hl, hp, hl1, ho1]; rfl
      have hhd : Hid (l1 ≠ [] → l1.head? = some 36) := fun h => by rw [← hl1, ← hp] at h ⊢; exact ahead_drop 36 l' h
      have hl1s : l1.length + p.length = l'.length := by rw [← hl1, List.length_drop]; omega
      have hext : (B l').extract p.length l'.length = B l1 := by
        rw [extract_B, L_B, hl1, List.take_of_length_le (by omega)]
      have hzp := size_L (B p)
      rw [L_B] at hzp
      have hzl : (B p).size ≤ (B l').size := by omega
      clear hT2 hp hl1
      go_wp2_with fail
      refine (hcut _).mono ?_
      rintro e w2 ⟨rfl, ⟨⟨n2, rfl⟩⟩⟩
      have c2 : WB b Am Ai cm ci M.length v' (n' : Int) (wr.drewN n2) := cA.out
      have u2 : UA u v' (wr.drewN n2) := uA.out
      have i2 : IsBld G G out (wr.drewN n2) := iA.out
      have k2 : w.grownBy (wr.drewN n2) (some b) := grown_to kA.out (pw_below_drewN (Below.refl _ _) n2)
      have hG4 : G ≤ (wr.drewN n2).heap.size := hG2
      clear cA uA iA kA hG2 hcut
      generalize wr.drewN n2 = w2 at c2 u2 i2 k2 hG4 ⊢
      go_wp2_with fail
      refine (bld_WriteString G G out (B p) _ i2 (by omega) hG4).mono ?_
      rintro e w3 ⟨rfl, i3, b3, o3⟩
      rw [show (B p).data.toList = p from L_B p, ho1] at i3
      have c3 : WB b Am Ai cm ci M.length v' (n' : Int) w3 := (b3.block b hbG).trans c2
      have u3 := u2.others i2 o3
      have k3 := grown_to k2 (hG3.out ▸ b3)
      have hG5 : G ≤ w3.heap.size := Nat.le_trans hG4 b3.size
      clear c2 u2 i2 k2 hG4 b3 o3
      go_wp2_with fail
      refine (bld_Len G G o1 _ i3).mono ?_
      rintro e w4 ⟨rfl, rfl⟩
      have hT4 := hT3.out
      by_cases hbig : 8192 < o1.length
      · rw [if_pos hbig] at hT4
        subst hT4
        clear hT3
        go_wp2_with fail
        refine (fit_bad _ (by omega) _).mono ?_
        rintro e w5 ⟨rfl, rfl⟩
        go_wp2_with fail
        exact ⟨rfl, k3, rfl⟩
      · rw [if_neg hbig] at hT4
        have hT5 : Hid _ := hT4
        clear hT4 hT3
        by_cases hl0 : l1 = []
        · have hT6 := hT5.out
          rw [if_pos hl0] at hT6
          subst hl0
          subst hT6
          clear hT5
          go_wp2_with fail
          refine (fit_ok _ (by omega) _).mono ?_
          rintro e w5 ⟨⟨vv, rfl⟩, rfl⟩
          go_wp2_with fail
          refine (bld_String G G o1 _ i3 hG5).mono ?_
          rintro e w9 ⟨rfl, i9, b9, o9⟩
          go_wp2_with fail
          go_ret
          exact ⟨grown_to k3 (hG3.out ▸ b9), rfl, v', (b9.block b hbG).trans c3, u3.others i3 o9⟩
        · have e3 : l1.isEmpty = false := by
            cases l1 with
            | nil => exact absurd rfl hl0
            | cons => rfl
          have hT6 := hT5.out
          rw [if_neg hl0] at hT6
          have hT7 : Hid _ := hT6
          clear hT5 hT6
          go_wp2_with fail
          refine (fit_ok _ (by omega) _).mono ?_
          rintro e w5 ⟨⟨vv, rfl⟩, rfl⟩
          go_wp2_with fail
          have hrd := read_calls (B l1) w5 (by rw [size_L, L_B]; omega) (by rw [L_B]; exact hhd.out hl0)
          rw [L_B] at hrd
          have hfit := rdX_fits l1
          obtain ⟨⟨⟨nm, sw, fr, tt, sz⟩, ok⟩, hq⟩ : ∃ q, rdX l1 = q := ⟨_, rfl⟩
          have hT8 := hT7.out
          rw [hq] at hrd hfit hT8
          simp only at hfit hT8
          have hT9 : Hid _ := hT8
          clear hq hT8 hT7
          refine hrd.mono ?_
          rintro e w6 ⟨rfl, b6⟩
          have c6 : WB b Am Ai cm ci M.length v' (n' : Int) w6 := blk_below c3 b6
          have u6 := u3.below b6
          have i6 := bld_below i3 b6
          have k6 := Lib.grownBy_trans k3 (grown_b b6 _)
          have hG6 : G ≤ w6.heap.size := Nat.le_trans hG5 b6.size
          clear hrd c3 u3 i3 k3 hG5 b6
          have hu73 := Tryd.underlying73
          cases ok with
          | false =>
            have hT10 := hT9.out
            rw [if_pos rfl] at hT10
            subst hT10
            go_wp2_with fail
            exact ⟨rfl, Lib.grownBy_trans k6 (grown_b (below_alloc (Below.refl _ _) _) _), rfl⟩
          | true =>
            have hT10 := hT9.out
            rw [if_neg (by decide)] at hT10
            have hT11 : Hid _ := hT10
            clear hT9 hT10
            obtain ⟨z1, z2, z3, z4, z5⟩ := hfit rfl
            clear hfit
            go_upto_region 11 with (first | ((with_reducible refine gate_dst (N := 9) rfl ?_); refine box_event ?hg (N := 9) ?hd (cs := #[.string (⟨#[]⟩ : ByteArray), .bool false, .string (⟨#[]⟩ : ByteArray), .string (⟨#[]⟩ : ByteArray), .int .i64 0]) (t := 73) ?hr ?_; (case hd => rfl); (case hg => rfl); (case hr => first | (go_simp; done) | (go_simp; rfl)); intro G9 hG9 w7 x7 hb; have b7 := below_step (Below.refl w6.heap.size w6) hb; have hG9w := (by rw [hG9]; exact Nat.le_refl _ : w6.heap.size ≤ G9); clear hb hG9; obtain ⟨r0, r1, r2, r3, r4, q0, q1, q2, q3, q4⟩ := five x7))
            obtain ⟨x8, b8⟩ := fill5 x7 b7 hG9w (Value.string (B nm)) (Value.bool sw) (Value.string (B fr)) (Value.string (B tt)) (Value.int .i64 (sz : Int))
            unfold set5 at x8 b8
            clear x7 b7 hG9w r0 r1 r2 r3 r4 q0 q1 q2 q3 q4
            generalize (((((w7.setCell ⟨G9, 0, none⟩ (Value.string (B nm))).setCell ⟨G9, 1, none⟩ (Value.bool sw)).setCell ⟨G9, 2, none⟩ (Value.string (B fr))).setCell ⟨G9, 3, none⟩ (Value.string (B tt))).setCell ⟨G9, 4, none⟩ (Value.int .i64 (sz : Int))) = w8 at x8 b8 ⊢
            have c8 : WB b Am Ai cm ci M.length v' (n' : Int) w8 := blk_below c6 b8
            have u8 := u6.below b8
            have i8 := bld_below i6 b8
            have k8 := Lib.grownBy_trans k6 (grown_b b8 (some b))
            have hG8 := Nat.le_trans hG6 b8.size
            have h9b : G9 ≠ b := fun e => by rw [e, c8] at x8; cases x8
            clear b8 c6 u6 i6 k6 hG6 w7
            have m3 : w8.cell? ⟨b, 3, none⟩ = some (.int .i64 (n' : Int)) := cell_of_row w8 b 3 _ _ _ c8
            have f3 := frozen_of_row w8 b 3 _ _ c8
            have c9 : WB b Am Ai cm ci M.length v' ((n' : Int) + 1) (w8.setCell ⟨b, 3, none⟩ (.int .i64 ((n' : Int) + 1))) := heap_setCell_same w8 b 3 _ _ _ c8
            have x9 := (heap_setCell_other w8 ⟨b, 3, none⟩ G9 (.int .i64 ((n' : Int) + 1)) h9b).trans x8
            have u9 : UA u v' (w8.setCell ⟨b, 3, none⟩ (.int .i64 ((n' : Int) + 1))) := u8.kept fun k cur hk => (heap_setCell_other w8 _ k _ (fun e => by have e : k = b := e; subst e; rw [c8] at hk; cases hk)).trans hk
            have i9 : IsBld G G o1 (w8.setCell ⟨b, 3, none⟩ (.int .i64 ((n' : Int) + 1))) := bld_other 3 i8 hbG _
            have k9 : w.grownBy (w8.setCell ⟨b, 3, none⟩ (.int .i64 ((n' : Int) + 1))) (some b) := Lib.grownBy_setB k8 3 _
            have m9 : (w8.setCell ⟨b, 3, none⟩ (.int .i64 ((n' : Int) + 1))).cell? ⟨b, 3, none⟩ = some (.int .i64 ((n' : Int) + 1)) := cell_of_row _ b 3 _ _ _ c9
            clear c8 x8 u8 i8 k8
            have hG9 : G ≤ (w8.setCell ⟨b, 3, none⟩ (.int .i64 ((n' : Int) + 1))).heap.size := Nat.le_trans hG8 (Lib.grownBy_setB (World.grownBy.refl w8 (some b)) 3 (.int .i64 ((n' : Int) + 1))).size
            go_upto_region 12 with fail
            generalize w8.setCell ⟨b, 3, none⟩ (.int .i64 ((n' : Int) + 1)) = w9 at c9 x9 u9 i9 k9 m9 hG9 ⊢
            clear m3 f3 hG8
            by_cases hn2 : 4096 < n' + 1
            · have hT12 := hT11.out
              rw [if_pos hn2] at hT12
              subst hT12
              have d1 : decide ((4096 : Int) < (n' : Int) + 1) = true := decide_eq_true (by omega)
              clear hT11
              go_wp2_with fail
              exact ⟨rfl, k9, rfl⟩
            · have hT12 := hT11.out
              rw [if_neg hn2] at hT12
              have hT13 : Hid _ := hT12
              clear hT11 hT12
              have d1 : decide ((4096 : Int) < (n' : Int) + 1) = false := decide_eq_false (by omega)
              obtain ⟨r0, r1, r2, r3, r4, q0, q1, q2, q3, q4⟩ := five x9
              have hcall := hS kk (by omega) u (n' + 1) ⟨nm, sw, fr, tt, sz⟩ w9 v' (by omega) (by omega) (by omega) (Nat.le_trans z1 (by omega)) (Nat.le_trans z2 (by omega)) (Nat.le_trans z3 (by omega)) (hb0.grown k9 hb0.size (fun k e => by cases e; exact hF.hb)) c9 u9
              obtain ⟨T, hTt⟩ : ∃ T, stp (envM M) (fun u n l => tx (envM M) kk u n [] l) u (n' + 1) ⟨nm, sw, fr, tt, sz⟩ = T := ⟨_, rfl⟩
              have hlenT : Hid (∀ o m, T = .ok o m → o.length ≤ 8192 ∧ m ≤ 4096 ∧ n' + 1 ≤ m) := fun o m h => ⟨stp_len (fun u n l o m h => tx_len _ _ _ _ _ _ _ _ h (by simp)) (hTt.trans h), stp_max (fun u n l o m h => tx_max _ _ _ _ _ _ _ _ h) (hTt.trans h) (by omega), stp_n (fun u n l o m h => tx_n _ _ _ _ _ _ _ _ h) (hTt.trans h)⟩
              have hT14 := hT13.out
              rw [hTt] at hcall hT14
              have hT15 : Hid _ := hT14
              clear hTt hT13 hT14 hS
              go_wp2_with fail
              refine hcall.mono ?_
              rintro e w10 ⟨k10, hp⟩
              have k11 := Lib.grownBy_trans k9 k10
              cases T with
              | bad cd =>
                obtain rfl : R = .bad cd := hT15.out.symm
                obtain rfl : e = bad (cd : Int) := hp
                go_wp2_with fail
                exact ⟨rfl, k11, rfl⟩
              | ok t m =>
                obtain ⟨rfl, v10, c10, u10⟩ := hp
                obtain ⟨y1, y2, y3⟩ := hlenT.out t m rfl
                have i10 := bld_grown i9 k10 hbG
                have x10 := (k10.block G9 (blk_lt x9) (fun e => h9b (Option.some.inj e))).trans x9
                have hG10 : G ≤ w10.heap.size := Nat.le_trans hG9 k10.size
                have hzt := size_L (B t)
                rw [L_B] at hzt
                obtain ⟨o2, ho2⟩ : ∃ o2, o1 ++ t = o2 := ⟨_, rfl⟩
                have ho2l : o1.length + t.length = o2.length := by rw [← ho2, List.length_append]
                have hT16 := hT15.out
                simp only [Res.then] at hT16
                rw [ho2] at hT16
                have hT17 : Hid _ := hT16
                clear hcall hT15 hT16 hlenT k9 k10 c9 u9 i9 x9 m9 hG9 r0 r1 r2 r3 r4 q0 q1 q2 q3 q4
                go_wp2_with fail
                refine (bld_WriteString G G o1 (B t) _ i10 (by omega) hG10).mono ?_
                rintro e w11 ⟨rfl, i11, b11, o11⟩
                rw [show (B t).data.toList = t from L_B t, ho2] at i11
                have c11 : WB b Am Ai cm ci M.length v10 (m : Int) w11 := (b11.block b hbG).trans c10
                have u11 := u10.others i10 o11
                have k12 := grown_to k11 (hG3.out ▸ b11)
                have x11 := o11 G9 _ x10 (fun e => by
                  have e : G9 = G := Option.some.inj e
                  rw [e] at x10
                  rcases i10 with ⟨_, q, hb, _⟩ | ⟨_, q, hb, _⟩ <;> (rw [hb] at x10; cases x10)) (fun c fz e => by cases e)
                have hG11 : G ≤ w11.heap.size := Nat.le_trans hG10 b11.size
                clear c10 u10 i10 k11 x10 hG10 b11 o11 ho2
                go_wp2_with fail
                refine (bld_Len G G o2 _ i11).mono ?_
                rintro e w12 ⟨rfl, rfl⟩
                have hT18 := hT17.out
                by_cases hbig2 : 8192 < o2.length
                · rw [if_pos hbig2] at hT18
                  subst hT18
                  clear hT17
                  go_wp2_with fail
                  refine (fit_bad _ (by omega) _).mono ?_
                  rintro e w13 ⟨rfl, rfl⟩
                  go_wp2_with fail
                  exact ⟨rfl, k12, rfl⟩
                · rw [if_neg hbig2] at hT18
                  have hT19 : Hid _ := hT18
                  clear hT17 hT18
                  have s4 : w12.cell? ⟨G9, 4, none⟩ = some (.int .i64 (sz : Int)) := cell_of_row w12 G9 4 _ _ _ x11
                  have hzl1 := size_L (B l1)
                  rw [L_B] at hzl1
                  have e5 : (0 : Int) ≤ (sz : Int) := by omega
                  have e6 : (sz : Int) ≤ ((B l1).size : Int) := by omega
                  have hext2 : (B l1).extract sz l1.length = B (l1.drop sz) := by
                    rw [extract_B, L_B, List.take_of_length_le (by rw [List.length_drop]; omega)]
                  go_wp2_with fail
                  refine (fit_ok _ (by omega) _).mono ?_
                  rintro e w13 ⟨⟨vv2, rfl⟩, rfl⟩
                  go_wp2_with fail

                  go_roundw
                  case rel => exact ⟨kk, m, o2, l1.drop sz, v10, rfl, ⟨by omega, y2, by omega, by omega, by omega, by rw [List.length_drop]; omega⟩, ⟨hT19.out⟩, ⟨c11⟩, ⟨u11⟩, ⟨i11⟩, ⟨k12⟩⟩
                  case measure =>
                    show (B (l1.drop sz)).size < (B l').size
                    rw [size_L, L_B, List.length_drop]
                    omega
end
end Go.Proofs.YtadfbbjplgbakaaDoor.Exp
