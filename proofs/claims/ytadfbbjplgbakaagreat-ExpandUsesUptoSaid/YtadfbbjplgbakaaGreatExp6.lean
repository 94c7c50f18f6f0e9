/- What macro.Check and its reference come to. -/
import Derived.Test.YtadfbbjplgbakaaGreatExpL
import Derived.Test.YtadfbbjplgbakaaGreatExp2
import Derived.Test.YtadfbbjplgbakaaGreatPXx0
import Derived.Test.YtadfbbjplgbakaaGreatPXx1
import Derived.Test.YtadfbbjplgbakaaGreatPXx2
import Derived.Test.YtadfbbjplgbakaaGreatExp5
import Derived.Test.YtadfbbjplgbakaaGreatExp3
import Derived.Tactics
import Derived.Tactics2
import Derived.Defers
import Derived.Recover
import Derived.Laws.Pointers
namespace Go.Proofs.YtadfbbjplgbakaaGreat.Plain
open Go Go.RowKit Go.Proofs.YtadfbbjplgbakaaGreatW.PrintWords Go.Proofs.YtadfbbjplgbakaaGreat.PX Go.Proofs.YtadfbbjplgbakaaGreat.Exp
set_option linter.unusedVariables false

/-- A macro that is right. -/
def goodM (x : Mac) : Prop := namL (L x.f0) = true ∧ 0 ≤ x.f2 ∧ x.f2 ≤ 2 ∧ x.f1.size ≤ 8192
theorem one_zero {k : Nat} {x : Mac} (h : macro_one.f k x.f0 x.f1 x.f2 = some 0) : goodM x := by
  unfold macro_one.f macro_Name.f at h
  by_cases hs : x.f0.size ≤ 9223372036854775807
  · rw [if_pos hs, Option.bind_some, name_eq] at h
    by_cases hn : namL (L x.f0) = true
    · rw [if_pos hn] at h
      by_cases h0 : x.f2 < 0
      · rw [if_pos h0] at h
        cases k with
        | zero => cases h
        | succ k => rw [macro_one.j0, if_pos rfl] at h; cases h
      · rw [if_neg h0] at h
        cases k with
        | zero => cases h
        | succ k =>
          rw [macro_one.j0] at h
          by_cases h2 : decide (x.f2 > 2) = true
          · rw [if_pos h2] at h; cases h
          · rw [if_neg h2] at h
            by_cases h3 : (x.f1.size : Int) > 8192
            · rw [if_pos h3] at h; cases h
            · have h4 : ¬ x.f2 > 2 := by simpa using h2
              exact ⟨hn, by omega, by omega, by omega⟩
    · rw [if_neg hn] at h; cases h
  · rw [if_neg hs] at h; cases h
theorem rdM_at {M : List Mac} {i : Nat} {x : Mac} (h : M[i]? = some x) : rd_T42 M (i : Int) = x := by
  unfold rd_T42
  rw [Int.toNat_natCast, List.getD_eq_getElem?_getD, h]
  rfl
theorem check_l0 {M : List Mac} (hM : M.length ≤ 256) : ∀ (k i : Nat), macro_Check.l0 k M M (M.length : Int) (i : Int) = some 0 → ∀ (j : Nat) x, i ≤ j → M[j]? = some x → goodM x
  | 0, i, h, _, _, _, _ => by cases h
  | k + 1, i, h, j, x, hij, hx => by
    rw [macro_Check.l0] at h
    have hj := (List.getElem?_eq_some_iff.1 hx).1
    rw [if_pos (by omega), if_pos (by omega), if_pos (by omega)] at h
    obtain ⟨y, hy⟩ : ∃ y, M[i]? = some y := ⟨_, List.getElem?_eq_getElem (by omega)⟩
    rw [rdM_at hy] at h
    obtain ⟨t, h1, h2⟩ := Option.bind_eq_some_iff.1 h
    by_cases ht : t = 0
    · subst ht
      rw [if_pos rfl, wrap_id (by omega) (by omega)] at h2
      by_cases hij2 : i = j
      · subst hij2
        rw [hy] at hx
        cases hx
        exact one_zero h1
      · exact check_l0 hM k (i + 1) h2 j x (by omega) hx
    · rw [if_neg ht] at h2
      cases h2
      exact absurd rfl ht
/-- Macros that are right: few, each right. -/
theorem check_good {k : Nat} {M : List Mac} (h : macro_Check.f k M = some 0) : M.length ≤ 256 ∧ ∀ x ∈ M, goodM x := by
  unfold macro_Check.f at h
  by_cases hl : (M.length : Int) > 256
  · rw [if_pos hl] at h; cases h
  · rw [if_neg hl] at h
    refine ⟨by omega, fun x hx => ?_⟩
    obtain ⟨j, hj⟩ := List.mem_iff_getElem?.1 hx
    exact check_l0 (by omega) k 0 h j x (Nat.zero_le _) hj
theorem val_size {M : List Mac} (h : ∀ x ∈ M, goodM x) (y : ByteArray) : (valM M y).size ≤ 8192 := by
  unfold valM
  by_cases h1 : macro_Name.f y = some true
  · rw [if_pos h1]
    by_cases h2 : mHas M y = true
    · rw [if_pos h2]
      unfold mHas at h2
      have h3 := (of_decide_eq_true h2).1
      rw [List.getD_eq_getElem?_getD, List.getElem?_eq_getElem h3]
      exact (h _ (List.getElem_mem h3)).2.2.2
    · rw [if_neg h2]; decide
  · rw [if_neg h1]; decide
end Go.Proofs.YtadfbbjplgbakaaGreat.Plain
namespace Go.Proofs.YtadfbbjplgbakaaGreat.Exp
open Go Go.RowKit Go.Proofs Go.Proofs.YtadfbbjplgbakaaGreatW.PrintWords Go.Proofs.YtadfbbjplgbakaaGreatW.PrintLast Go.Proofs.YtadfbbjplgbakaaGreatW.PrintMore Go.Proofs.YtadfbbjplgbakaaGreat.PX Go.Proofs.YtadfbbjplgbakaaGreat.Plain Go.Proofs.YtadfbbjplgbakaaGreat.Hand
set_option linter.unusedVariables false
set_option linter.unusedSimpArgs false

section
variable (b k0 : Nat) (Am Ai : Option Addr) (cm ci : Nat) (M : List Mac) (w0 : World)
theorem text_all (hF : Fix b k0 Am cm M w0) (K : Nat) : TextC b Am Ai cm ci M w0 K := by
  induction K using Nat.strongRecOn with
  | ind K ih => exact text_of b k0 Am Ai cm ci M w0 hF K (fun k hk => stands_of b k0 Am Ai cm ci M w0 hF k (ih k hk))
end
/-! ### the deferred closure -/
theorem is_refusal (v : Value) (xT : TypeId) (W : World) : (Instr.typeAssert (.iface 69 v) xT 69 true).run Tryz.prog W = .ok (.tuple #[v, .bool true]) W := by kernel_rfl
set_option maxRecDepth 100000 in
set_option maxHeartbeats 1000000 in
theorem catch_idle (p q : Addr) (w : World) :
    CallsD Tryz.prog 34 #[.pointer (some p), .pointer (some q)] .returning w fun e u' w' => e = .returned (.tuple #[]) ∧ u' = .returning ∧ w' = w := by
  refine callsD_of_wpS Tryz.func34 rfl fun c₀ cs hu => ?_
  simp only [Tryz.ntmps34, List.size_toArray, List.length_cons, List.length_nil, Nat.reduceAdd, Nat.reduceSub, Array.replicate_succ, Array.replicate_zero, List.push_toArray, List.append_toArray, List.nil_append, List.cons_append]
  apply wpS_seq
  apply wpS_region
  simp [wpOpsS, go_sem, recoverD, hu, Exit.thenS]
  refine wpS_of_wp ?_
  go_wp2
  cases c₀
  simp_all [bodyPostS, results, Tryz.results34]
set_option maxRecDepth 100000 in
set_option maxHeartbeats 1000000 in
theorem catch_panicking (p q : Nat) (s : ByteArray) (x c : Int) (older : List PanicEntry) (w : World) (hp : w.heap[p]? = some (.cells #[.string s] 9 (0, 0))) (hq : w.heap[q]? = some (.cells #[.int .i64 x] 24 (0, 0))) (hpq : p ≠ q) :
    CallsD Tryz.prog 34 #[.pointer (some ⟨p, 0, none⟩), .pointer (some ⟨q, 0, none⟩)] (.panicking ({ v := .iface 69 (.agg #[.int .i64 c]), recovered := false } :: older)) w fun e u' w' =>
      e = .returned (.tuple #[]) ∧ u' = .panicking ({ v := .iface 69 (.agg #[.int .i64 c]), recovered := true } :: older) ∧ w'.heap[p]? = some (.cells #[.string ⟨#[]⟩] 9 (0, 0)) ∧ w'.heap[q]? = some (.cells #[.int .i64 c] 24 (0, 0)) ∧ ∀ B, B ≤ p → B ≤ q → B ≤ w.heap.size → Below B w w' := by
  have r0 : w.cell? ⟨p, 0, none⟩ = some (.string s) := cell_of_row w p 0 _ _ _ hp
  have r1 : w.cell? ⟨q, 0, none⟩ = some (.int .i64 x) := cell_of_row w q 0 _ _ _ hq
  have f0 := frozen_of_row w p 0 _ _ hp
  have f1 := frozen_of_row w q 0 _ _ hq
  refine callsD_of_wpS Tryz.func34 rfl fun c₀ cs hu => ?_
  simp only [Tryz.ntmps34, List.size_toArray, List.length_cons, List.length_nil, Nat.reduceAdd, Nat.reduceSub, Array.replicate_succ, Array.replicate_zero, List.push_toArray, List.append_toArray, List.nil_append, List.cons_append]
  apply wpS_seq
  apply wpS_region
  simp [wpOpsS, go_sem, recoverD, hu, Exit.thenS]
  refine wpS_of_wp ?_
  have hta := is_refusal
  go_wp2_with fail
  have hbx := heap_alloc_new w (.cells #[.int .i64 c] 69)
  have hpl := blk_lt hp
  have hql := blk_lt hq
  have hbe : Below w.heap.size w (w.alloc (.cells #[.int .i64 c] 69)) := below_alloc (Below.refl _ _) _
  have hp1 := blk_below hp hbe
  have hq1 := blk_below hq hbe
  clear r0 r1 f0 f1
  generalize w.alloc (.cells #[.int .i64 c] 69) = w1 at hbx hbe hp1 hq1 ⊢
  have r0 : w1.cell? ⟨p, 0, none⟩ = some (.string s) := cell_of_row w1 p 0 _ _ _ hp1
  have r1 : w1.cell? ⟨q, 0, none⟩ = some (.int .i64 x) := cell_of_row w1 q 0 _ _ _ hq1
  have r2 : w1.cell? ⟨w.heap.size, 0, none⟩ = some (.int .i64 c) := cell_of_row w1 w.heap.size 0 _ _ _ hbx
  have f0 := frozen_of_row w1 p 0 _ _ hp1
  have f1 := frozen_of_row w1 q 0 _ _ hq1
  have n1 : p ≠ w.heap.size := by omega
  have n2 : q ≠ w.heap.size := by omega
  have n3 : w.heap.size ≠ p := by omega
  have n4 : w.heap.size ≠ q := by omega
  have n5 : q ≠ p := fun e => hpq e.symm
  go_region
  have hp2 : ((w1.setCell ⟨p, 0, none⟩ (.string (⟨#[]⟩ : ByteArray))).setCell ⟨q, 0, none⟩ (.int .i64 c)).heap[p]? = some (.cells #[.string (⟨#[]⟩ : ByteArray)] 9 (0, 0)) := by
    rw [heap_setCell_other _ ⟨q, 0, none⟩ p _ hpq]; exact heap_setCell_same w1 p 0 _ _ _ hp1
  have hq2 : ((w1.setCell ⟨p, 0, none⟩ (.string (⟨#[]⟩ : ByteArray))).setCell ⟨q, 0, none⟩ (.int .i64 c)).heap[q]? = some (.cells #[.int .i64 c] 24 (0, 0)) := by
    refine heap_setCell_same _ q 0 #[.int .i64 x] _ _ ?_
    rw [heap_setCell_other _ ⟨p, 0, none⟩ q _ (Ne.symm hpq)]; exact hq1
  have hbB : ∀ B, B ≤ p → B ≤ q → B ≤ w.heap.size → Below B w ((w1.setCell ⟨p, 0, none⟩ (.string (⟨#[]⟩ : ByteArray))).setCell ⟨q, 0, none⟩ (.int .i64 c)).drew := fun B h1 h2 h3 =>
    below_drew (((Below.mk hbe.os hbe.tape hbe.output hbe.size (fun i hi => hbe.block i (by omega))).setCell (p := ⟨p, 0, none⟩) h1 _).setCell (p := ⟨q, 0, none⟩) h2 _)
  generalize (w1.setCell ⟨p, 0, none⟩ (.string (⟨#[]⟩ : ByteArray))).setCell ⟨q, 0, none⟩ (.int .i64 c) = w2 at hp2 hq2 hbB ⊢
  clear r0 r1 r2 f0 f1 hp hq hp1 hq1 hbx hbe
  have hp3 : w2.drew.heap[p]? = some (.cells #[.string (⟨#[]⟩ : ByteArray)] 9 (0, 0)) := hp2
  have hq3 : w2.drew.heap[q]? = some (.cells #[.int .i64 c] 24 (0, 0)) := hq2
  generalize w2.drew = w3 at hp3 hq3 hbB ⊢
  clear hp2 hq2 hta w2
  exact ⟨rfl, _, rfl, .tuple #[], results_none rfl _ _ _, rfl, rfl, hp3, hq3, hbB⟩
/-- What Text tells. -/
def outT (M : List Mac) (e0 : Int) (s : ByteArray) : ByteArray × Int :=
  if askE e0 s = 0 then (match TX (envM M) [] 0 [] (L s) with | .ok o _ => (B o, 0) | .bad c => (⟨#[]⟩, (c : Int))) else (⟨#[]⟩, askE e0 s)
theorem end_text (Q : Ending → World → Prop) (tmps : Array Value) (W : World) (s1 s2 : Nat) (o : ByteArray) (c : Int) (hp : tmps.getD 6 undef = .pointer (some ⟨s1, 0, none⟩)) (hp2 : tmps.getD 7 undef = .pointer (some ⟨s2, 0, none⟩))
    (h1 : W.heap[s1]? = some (.cells #[.string o] 9 (0, 0))) (h2 : W.heap[s2]? = some (.cells #[.int .i64 c] 24 (0, 0))) (hQ : Q (.returned (.tuple #[.string o, .int .i64 c])) W) :
    Leaves Tryz.prog Tryz.f20 tmps Q [] .returning W := by
  have r1 : W.cell? ⟨s1, 0, none⟩ = some (.string o) := cell_of_row _ s1 0 _ _ _ h1
  have r2 : W.cell? ⟨s2, 0, none⟩ = some (.int .i64 c) := cell_of_row _ s2 0 _ _ _ h2
  have hp' : tmps[6]?.getD undef = .pointer (some ⟨s1, 0, none⟩) := by simpa using hp
  have hp2' : tmps[7]?.getD undef = .pointer (some ⟨s2, 0, none⟩) := by simpa using hp2
  exact ⟨.tuple #[.string o, .int .i64 c], by simp [results, Tryz.results20, go_sem, hp', hp2', r1, r2, asAddr, Result.andThen], hQ⟩
set_option maxRecDepth 100000 in
set_option maxHeartbeats 4000000 in
theorem text_calls (k : Nat) (A Ai : Option Addr) (c ci : Nat) (M : List Mac) (s : ByteArray) (e0 : Int) (w : World) (hr : kM.C w A M.length M) (hc : M.length ≤ c) (hck : macro_Check.f k M = some e0) (hl : e0 = 0 → M.length ≤ 4611686018427387904) (hV : e0 = 0 → ∀ x, (valM M x).size ≤ 65536) :
    Calls Tryz.prog 20 #[.slice A M.length c, .slice Ai 0 ci, .string s] w fun e w' => e = .returned (.tuple #[.string (outT M e0 s).1, .int .i64 (outT M e0 s).2]) ∧ Below w.heap.size w w' := by
  have hmf : ∀ (fn : Fn) (first cap : Array Value) (w : World), (Instr.makeFunc fn first cap).run Tryz.prog w = .ok (.func fn first cap) w := fun _ _ _ _ => rfl
  obtain ⟨q, hq⟩ : ∃ q, outT M e0 s = q := ⟨_, rfl⟩
  rw [hq]
  have hq2 : Hid (outT M e0 s = q) := hq
  clear hq
  obtain ⟨ro, rc⟩ := q
  have hask := fun W hW => asked_calls k A Ai c ci M e0 s W (Kd.C_below hr hW) hc hck
  obtain ⟨W1, hW1⟩ : ∃ W1, W1 = (w.alloc (.cells #[.string (⟨#[]⟩ : ByteArray)] 9)).alloc (.cells #[.int .i64 0] 24) := ⟨_, rfl⟩
  have g0 : W1.heap[w.heap.size]? = some (.cells #[.string (⟨#[]⟩ : ByteArray)] 9 (0, 0)) := by
    rw [hW1, Lib.alloc_old _ _ _ (by simp)]; exact heap_alloc_new w _
  have g1 : W1.heap[w.heap.size + 1]? = some (.cells #[.int .i64 0] 24 (0, 0)) := by
    rw [hW1]
    have := heap_alloc_new (w.alloc (.cells #[.string (⟨#[]⟩ : ByteArray)] 9)) (.cells #[.int .i64 0] 24)
    rw [World.size_alloc] at this; exact this
  have b1 : Below w.heap.size w W1 := by rw [hW1]; exact below_alloc (below_alloc (Below.refl _ _) _) _
  go_enter_defers Tryz.func20, Tryz.ntmps20
  go_wp2_with fail
  rw [← hW1]
  clear hW1
  refine (hask _ b1).mono ?_
  rintro e w2 ⟨rfl, b2⟩
  have h0 := blk_below g0 b2
  have h1 := blk_below g1 b2
  have b3 := below_t b1 b2
  clear g0 g1 b1 b2 hask
  by_cases ha : askE e0 s = 0
  · have he0 : e0 = 0 ∧ s.size ≤ 65536 := by
      unfold askE at ha
      by_cases h0 : e0 = 0
      · rw [if_pos h0] at ha
        by_cases h1 : s.size ≤ 65536
        · exact ⟨h0, h1⟩
        · rw [if_neg h1] at ha; cases ha
      · rw [if_neg h0] at ha; exact absurd ha h0
    obtain ⟨rfl, hs⟩ := he0
    have hq3 := hq2.out
    unfold outT at hq3
    rw [if_pos ha] at hq3
    have hq4 : Hid _ := hq3
    rw [ha]
    clear hq2 hq3 ha
    obtain ⟨b, hb⟩ : ∃ b, b = w2.heap.size := ⟨_, rfl⟩
    obtain ⟨W3, hW3⟩ : ∃ W3, W3 = w2.alloc (.cells #[.slice A M.length c, .slice Ai 0 ci, .slice none 0 0, .int .i64 0] 73) := ⟨_, rfl⟩
    have hwb : WB b A Ai c ci M.length (.slice none 0 0) ((0 : Nat) : Int) W3 := by rw [hb, hW3]; exact heap_alloc_new w2 _
    have b4 : Below w2.heap.size w2 W3 := by rw [hW3]; exact below_alloc (Below.refl _ _) _
    have hF : Fix b k A c M w := ⟨hr, hc, hl rfl, hck, hV rfl, by rw [hb]; exact b3.size⟩
    have hcall := text_all b k A Ai c ci M w hF 4097 [] 0 s W3 (.slice none 0 0) (by omega) (by omega) (by simp) hs (below_t b3 b4) hwb (.inl ⟨rfl, rfl⟩)
    have i0 := blk_below h0 b4
    have i1 := blk_below h1 b4
    have hlt0 := blk_lt h0
    have hlt1 := blk_lt h1
    have b5 := below_t b3 b4
    have hwsb : w.heap.size ≤ b := by rw [hb]; exact b3.size
    clear hr hc hck hl hV hF h0 h1 b3 b4
    go_wp2_with fail
    rw [← hW3, ← hb]
    have n0 : w.heap.size ≠ b := by omega
    have n1 : w.heap.size + 1 ≠ b := by omega
    clear hW3 hlt0 hlt1
    refine hcall.mono ?_
    rintro e w5 ⟨k5, hp⟩
    have j0 := (k5.block _ (blk_lt i0) (fun e => n0 (Option.some.inj e))).trans i0
    have j1 := (k5.block _ (blk_lt i1) (fun e => n1 (Option.some.inj e))).trans i1
    have b6 : Below w.heap.size w w5 := b5.grown k5 b5.size (fun k e => by cases e; exact hwsb)
    have hTX : tx (envM M) 4097 [] 0 [] (L s) = TX (envM M) [] 0 [] (L s) := rfl
    rw [hTX] at hp
    have hq5 := hq4.out
    clear hcall hq4 hTX i0 i1 k5 b5 hwb
    generalize TX (envM M) [] 0 [] (L s) = T at hp hq5
    cases T with
    | bad cd =>
      obtain rfl : e = bad (cd : Int) := hp
      cases hq5
      go_wp2_with fail
      refine leaves_cons (f := 34) (args := #[.pointer (some ⟨w.heap.size, 0, none⟩), .pointer (some ⟨w.heap.size + 1, 0, none⟩)]) (by simp) (by simp [go_sem]) ?_
      refine (catch_panicking w.heap.size (w.heap.size + 1) _ _ (cd : Int) [] _ j0 j1 (by omega)).mono ?_
      rintro e u' w6 ⟨rfl, rfl, h0, h1, hB⟩
      exact end_text _ _ _ w.heap.size (w.heap.size + 1) _ _ rfl rfl h0 h1 ⟨rfl, b6.trans (hB _ (Nat.le_refl _) (Nat.le_succ _) b6.size)⟩
    | ok o n =>
      obtain ⟨rfl, v5, c5, u5⟩ := hp
      cases hq5
      have r0 : w5.cell? ⟨w.heap.size, 0, none⟩ = some (.string (⟨#[]⟩ : ByteArray)) := cell_of_row w5 _ 0 _ _ _ j0
      have r1 : w5.cell? ⟨w.heap.size + 1, 0, none⟩ = some (.int .i64 0) := cell_of_row w5 _ 0 _ _ _ j1
      have f0 := frozen_of_row w5 w.heap.size 0 _ _ j0
      have f1 := frozen_of_row w5 (w.heap.size + 1) 0 _ _ j1
      go_wp2_with fail
      have hz0 : w.heap.size ≠ w.heap.size + 1 := by omega
      have h0 := (heap_setCell_other (w5.setCell ⟨w.heap.size, 0, none⟩ (.string (B o))) ⟨w.heap.size + 1, 0, none⟩ w.heap.size (.int .i64 0) hz0).trans (heap_setCell_same w5 w.heap.size 0 _ _ (.string (B o)) j0)
      have h1 := heap_setCell_same (w5.setCell ⟨w.heap.size, 0, none⟩ (.string (B o))) (w.heap.size + 1) 0 #[.int .i64 0] _ (.int .i64 0) ((heap_setCell_other w5 ⟨w.heap.size, 0, none⟩ (w.heap.size + 1) (.string (B o)) (Ne.symm hz0)).trans j1)
      have b7 := (b6.setCell (p := ⟨w.heap.size, 0, none⟩) (Nat.le_refl _) (.string (B o))).setCell (p := ⟨w.heap.size + 1, 0, none⟩) (Nat.le_succ _) (.int .i64 0)
      generalize (w5.setCell ⟨w.heap.size, 0, none⟩ (.string (B o))).setCell ⟨w.heap.size + 1, 0, none⟩ (.int .i64 0) = w6 at h0 h1 b7 ⊢
      refine leaves_cons (f := 34) (args := #[.pointer (some ⟨w.heap.size, 0, none⟩), .pointer (some ⟨w.heap.size + 1, 0, none⟩)]) (by simp) (by simp [go_sem]) ?_
      refine (catch_idle ⟨w.heap.size, 0, none⟩ ⟨w.heap.size + 1, 0, none⟩ _).mono ?_
      rintro e u' w7 ⟨rfl, rfl, rfl⟩
      exact end_text _ _ _ w.heap.size (w.heap.size + 1) _ _ rfl rfl h0 h1 ⟨rfl, b7⟩
  · have d1 : (askE e0 s == 0) = false := beq_eq_false_iff_ne.2 ha
    have d2 : (askE e0 s != 0) = true := by simp [ha]
    have hq3 := hq2.out
    unfold outT at hq3
    rw [if_neg ha] at hq3
    cases hq3
    clear hq2
    have r0 : w2.cell? ⟨w.heap.size, 0, none⟩ = some (.string (⟨#[]⟩ : ByteArray)) := cell_of_row w2 _ 0 _ _ _ h0
    have r1 : w2.cell? ⟨w.heap.size + 1, 0, none⟩ = some (.int .i64 0) := cell_of_row w2 _ 0 _ _ _ h1
    have f0 := frozen_of_row w2 w.heap.size 0 _ _ h0
    have f1 := frozen_of_row w2 (w.heap.size + 1) 0 _ _ h1
    go_wp2_with fail
    have hz0 : w.heap.size ≠ w.heap.size + 1 := by omega
    have h4 := (heap_setCell_other (w2.setCell ⟨w.heap.size, 0, none⟩ (.string ⟨#[]⟩)) ⟨w.heap.size + 1, 0, none⟩ w.heap.size (.int .i64 (askE e0 s)) hz0).trans (heap_setCell_same w2 w.heap.size 0 _ _ (.string ⟨#[]⟩) h0)
    have h5 := heap_setCell_same (w2.setCell ⟨w.heap.size, 0, none⟩ (.string ⟨#[]⟩)) (w.heap.size + 1) 0 #[.int .i64 0] _ (.int .i64 (askE e0 s)) ((heap_setCell_other w2 ⟨w.heap.size, 0, none⟩ (w.heap.size + 1) (.string ⟨#[]⟩) (Ne.symm hz0)).trans h1)
    have b7 := (b3.setCell (p := ⟨w.heap.size, 0, none⟩) (Nat.le_refl _) (.string ⟨#[]⟩)).setCell (p := ⟨w.heap.size + 1, 0, none⟩) (Nat.le_succ _) (.int .i64 (askE e0 s))
    generalize (w2.setCell ⟨w.heap.size, 0, none⟩ (.string ⟨#[]⟩)).setCell ⟨w.heap.size + 1, 0, none⟩ (.int .i64 (askE e0 s)) = w6 at h4 h5 b7 ⊢
    have hfin : Leaves Tryz.prog Tryz.f20 #[.slice A M.length c, .slice Ai 0 ci, .string s, undef, undef, undef, .pointer (some ⟨w.heap.size, 0, none⟩), .pointer (some ⟨w.heap.size + 1, 0, none⟩), .int .i64 (askE e0 s), undef, .slice A M.length c, .slice Ai 0 ci, .string s, .int .i64 (askE e0 s), .int .i64 (askE e0 s), .bool true, .int .i64 (askE e0 s), undef, undef, undef, undef, undef, undef, undef, undef]
      (fun e w' => e = .returned (.tuple #[.string ⟨#[]⟩, .int .i64 (askE e0 s)]) ∧ Below w.heap.size w w') [] .returning w6 := end_text _ _ _ w.heap.size (w.heap.size + 1) _ _ rfl rfl h4 h5 ⟨rfl, b7⟩
    exact hfin
end Go.Proofs.YtadfbbjplgbakaaGreat.Exp

/-! ### as the printed texts ask it -/
namespace Go.Proofs.YtadfbbjplgbakaaGreat.PX
open Go Go.RowKit Go.Proofs.YtadfbbjplgbakaaGreatW.PrintWords Go.Proofs.YtadfbbjplgbakaaGreatW.PrintLast Go.Proofs.YtadfbbjplgbakaaGreatW.PrintMore Go.Proofs.YtadfbbjplgbakaaGreat.Plain Go.Proofs.YtadfbbjplgbakaaGreat.Exp
set_option linter.unusedVariables false
def expand_Text.f (k : Nat) (l0 l1 : List Mac) (a2 : ByteArray) : Option (ByteArray × Int) := if l1.length = 0 then (macro_Check.f k l0).bind fun e0 => some (outT l0 e0 a2) else none
theorem expand_Text.mono : ∀ l0 l1 a2 k, LeO (expand_Text.f k l0 l1 a2) (expand_Text.f (k + 1) l0 l1 a2) := by
  intro l0 l1 a2 k
  unfold expand_Text.f
  exact LeO.ite (LeO.bind (macro_Check.mono _ _) fun _ => LeO.refl _) (LeO.refl _)
theorem expand_Text.calls (k : Nat) (A0 : Option Addr) (c0 : Nat) (l0 : List Mac) (A1 : Option Addr) (c1 : Nat) (l1 : List Mac) (a2 : ByteArray) (r1 : ByteArray) (r2 : Int) (w : World) (hr0 : Kd.C kM w A0 l0.length l0) (hc0 : l0.length ≤ c0) (hr1 : Kd.C kM w A1 l1.length l1) (hc1 : l1.length ≤ c1) (h : expand_Text.f k l0 l1 a2 = some (r1, r2)) :
    Calls Tryz.prog 20 #[.slice A0 l0.length c0, .slice A1 l1.length c1, .string a2] w fun e w' => e = .returned (.tuple #[.string r1, .int .i64 r2]) ∧ Below w.heap.size w w' := by
  unfold expand_Text.f at h
  by_cases hl : l1.length = 0
  · rw [if_pos hl] at h
    obtain ⟨e0, h1, h2⟩ := Option.bind_eq_some_iff.1 h
    have hg := fun he : e0 = 0 => check_good (h1.trans (congrArg some he))
    have hc := text_calls k A0 A1 c0 c1 l0 a2 e0 w hr0 hc0 h1 (fun he => by have := (hg he).1; omega) (fun he x => by have := val_size (hg he).2 x; omega)
    rw [Option.some.inj h2] at hc
    rw [hl]
    exact hc
  · rw [if_neg hl] at h
    cases h
end Go.Proofs.YtadfbbjplgbakaaGreat.PX
