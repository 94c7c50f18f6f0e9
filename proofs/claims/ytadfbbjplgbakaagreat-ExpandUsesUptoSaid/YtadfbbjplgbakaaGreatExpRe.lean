/- expand.reached: all names that some reach, sorted. -/
import Derived.Test.YtadfbbjplgbakaaGreatStrsX
import Derived.Test.YtadfbbjplgbakaaGreatExp2
import Derived.Test.YtadfbbjplgbakaaGreatExp6
import Derived.Test.YtadfbbjplgbakaaGreatExpRg
import Derived.Test.YtadfbbjplgbakaaGreatNames2X
import Derived.Test.YtadfbbjplgbakaaGreatPXx2
import Derived.Test.YtadfbbjplgbakaaGreatPXx10
namespace Go.Proofs.YtadfbbjplgbakaaGreat.Exp
open Go Go.RowKit Go.Proofs Go.Proofs.YtadfbbjplgbakaaGreatW.PrintWords Go.Proofs.YtadfbbjplgbakaaGreatW.PrintLast Go.Proofs.YtadfbbjplgbakaaGreatW.PrintMore Go.Proofs.YtadfbbjplgbakaaGreat.PX Go.Proofs.YtadfbbjplgbakaaGreat.Plain Go.Proofs.YtadfbbjplgbakaaGreat.Strs
set_option linter.unusedVariables false
set_option linter.unusedSimpArgs false

/-- The names in the value of a macro; none, if there is none of that name. -/
def nmM (M : List Mac) (x : ByteArray) : List ByteArray := (NM (L (valM M x))).1.map B
/-- What is left to be gone to, but for the last. -/
abbrev lastB (todo : List ByteArray) : ByteArray := todo.getD (todo.length - 1) ⟨#[]⟩
abbrev restB (todo : List ByteArray) : List ByteArray := todo.take (todo.length - 1)
/-- All names that are reached, in the order in which they are met (k bounds how many rounds). -/
def rch (M : List Mac) : Nat → List ByteArray → List ByteArray → Option (List ByteArray)
  | 0, _, _ => none
  | k + 1, out, todo =>
    if todo.length = 0 then some out
    else if 1048576 < (lastB todo).size then none
    else if memB (lastB todo) out = true then rch M k out (restB todo)
    else if out.length < 1073741824 ∧ todo.length + (nmM M (lastB todo)).length < 1099511627776 then rch M k (out ++ [lastB todo]) (restB todo ++ nmM M (lastB todo))
    else none
theorem rch_succ (M : List Mac) (k : Nat) (out todo : List ByteArray) : rch M (k + 1) out todo = if todo.length = 0 then some out
    else if 1048576 < (lastB todo).size then none
    else if memB (lastB todo) out = true then rch M k out (restB todo)
    else if out.length < 1073741824 ∧ todo.length + (nmM M (lastB todo)).length < 1099511627776 then rch M k (out ++ [lastB todo]) (restB todo ++ nmM M (lastB todo))
    else none := rfl
theorem rch_mono (M : List Mac) : ∀ (k : Nat) (out todo : List ByteArray), LeO (rch M k out todo) (rch M (k + 1) out todo) := by
  intro k
  induction k with
  | zero => intro out todo; exact LeO.none _
  | succ k ih =>
    intro out todo
    rw [rch_succ, rch_succ M (k + 1)]
    exact LeO.ite (LeO.refl _) (LeO.ite (LeO.refl _) (LeO.ite (ih _ _) (LeO.ite (ih _ _) (LeO.refl _))))
/-- What the map of names that were met tells. -/
def inB (out : List ByteArray) (s : ByteArray) : Int := if memB s out = true then 1 else 0
theorem inB_put (out : List ByteArray) (x : ByteArray) : (fun t => if t = x then 1 else inB out t) = inB (out ++ [x]) := by
  funext t
  unfold inB
  by_cases h : t = x
  · rw [if_pos h, if_pos (memB_iff.2 (by simp [h]))]
  · rw [if_neg h]
    by_cases h2 : t ∈ out
    · rw [if_pos (memB_iff.2 h2), if_pos (memB_iff.2 (by simp [h2]))]
    · rw [if_neg (fun q => h2 (memB_iff.1 q)), if_neg (fun q => by have := memB_iff.1 q; simp [h2, h] at this)]
/-- The state of the walk. -/
structure RSt (w0 : World) (mb n : Nat) (v6 v7 : Value) (out todo : List ByteArray) (w : World) : Prop where
  map : IntMap w mb n (inB out)
  o6 : w.ownsRow w0.heap.size 9 1 v6 out.length (strs out)
  o7 : w.ownsRow w0.heap.size 9 1 v7 todo.length (strs todo)
  ne : v6.ownBlock = none ∨ v6.ownBlock ≠ v7.ownBlock
  low : w0.heap.size ≤ mb
  below : Below w0.heap.size w0 w
theorem own_kept {w w' : World} {base n : Nat} {v : Value} {xs : List Value} (h : w.ownsRow base 9 1 v n xs) (hb : Below w.heap.size w w') : w'.ownsRow base 9 1 v n xs :=
  h.kept (grown_of_below hb none) (by cases v.ownBlock <;> simp)
theorem own_lt {w : World} {base n : Nat} {v : Value} {xs : List Value} (h : w.ownsRow base 9 1 v n xs) : ∀ k, v.ownBlock = some k → k < w.heap.size := fun k hk => (h.lt k hk).2
theorem RSt.step {w0 w w' : World} {mb n : Nat} {v6 v7 : Value} {out todo : List ByteArray} (h : RSt w0 mb n v6 v7 out todo w) (hb : Below w.heap.size w w') : RSt w0 mb n v6 v7 out todo w' :=
  ⟨h.map.below hb, h.o6.kept (grown_of_below hb none) (by cases v6.ownBlock <;> simp), h.o7.kept (grown_of_below hb none) (by cases v7.ownBlock <;> simp), h.ne, h.low, h.below.trans ⟨hb.os, hb.tape, hb.output, hb.size, fun i hi => hb.block i (Nat.lt_of_lt_of_le hi h.below.size)⟩⟩
/-- A text less to go to. -/
theorem RSt.pop {w0 w : World} {mb n : Nat} {v6 v7 : Value} {out todo : List ByteArray} (h : RSt w0 mb n v6 v7 out todo w) (h0 : 0 < todo.length) :
    ∃ g cap, v7 = .slice (some ⟨g, 0, none⟩) todo.length cap ∧ todo.length ≤ cap ∧ w.cell? ⟨g, todo.length - 1, none⟩ = some (.string (lastB todo)) ∧ RSt w0 mb n v6 (.slice (some ⟨g, 0, none⟩) (todo.length - 1) cap) out (restB todo) w := by
  obtain ⟨g, cap, rfl, hc, _, hcell, hown⟩ := own_last h.o7 h0
  have hl : (restB todo).length = todo.length - 1 := by unfold restB; rw [List.length_take]; omega
  refine ⟨g, cap, rfl, hc, hcell _ ?_, h.map, h.o6, by rw [hl]; exact hown, h.ne, h.low, h.below⟩
  unfold lastB
  rw [List.getD_eq_getElem?_getD, List.getElem?_eq_getElem (by omega)]; rfl
/-- The map behind a text more. -/
theorem RSt.put {w0 w : World} {mb n : Nat} {v6 v7 : Value} {out todo : List ByteArray} (h : RSt w0 mb n v6 v7 out todo w) (x : ByteArray) (hx : x.size ≤ 1048576) (hn : n < 1099511627776) :
    ∃ w', (Instr.mapUpdate 49 (.map (some mb)) (.string x) (.int .i64 1)).run Tryz.prog w = .ok () w' ∧ IntMap w' mb (n + 1) (inB (out ++ [x])) ∧ w'.ownsRow w0.heap.size 9 1 v6 out.length (strs out) ∧ w'.ownsRow w0.heap.size 9 1 v7 todo.length (strs todo) ∧ Below w0.heap.size w0 w' := by
  obtain ⟨w', hrun, hm, hg⟩ := h.map.put x 1 (by unfold maxLen; omega) hn (by decide) (by decide)
  rw [inB_put] at hm
  exact ⟨w', hrun, hm, h.o6.kept hg (Or.inr (Ne.symm (h.map.ne_own h.o6))), h.o7.kept hg (Or.inr (Ne.symm (h.map.ne_own h.o7))), h.below.grown hg h.below.size (fun k hk => by cases hk; exact h.low)⟩
theorem ne_new {w : World} {base n : Nat} {v v6 v7 : Value} {xs : List Value} (h : w.ownsRow base 9 1 v n xs) (hne : v.ownBlock = none ∨ v.ownBlock ≠ v7.ownBlock) (hat : v6.ownBlock = v7.ownBlock ∨ v6.ownBlock = some w.heap.size) : v.ownBlock = none ∨ v.ownBlock ≠ v6.ownBlock := by
  rcases hat with e | e
  · rw [e]; exact hne
  · cases hv : v.ownBlock with
    | none => exact Or.inl rfl
    | some k =>
      right
      rw [e]
      intro e2
      have := own_lt h k hv
      cases e2
      exact Nat.lt_irrefl _ this
theorem ne_swap {a b : Option Nat} (h : a = none ∨ a ≠ b) : b = none ∨ b ≠ a := by
  rcases h with h | h
  · subst h
    cases b with
    | none => exact Or.inl rfl
    | some k => exact Or.inr (by simp)
  · exact Or.inr (Ne.symm h)
theorem RSt.pushed {w0 w4 w5 : World} {mb : Nat} {v6 v6' v7 : Value} {out rest : List ByteArray} {x : ByteArray} (hm : IntMap w4 mb (out.length + 1) (inB (out ++ [x]))) (ho6 : w4.ownsRow w0.heap.size 9 1 v6 out.length (strs out)) (ho7 : w4.ownsRow w0.heap.size 9 1 v7 rest.length (strs rest))
    (hne : v6.ownBlock = none ∨ v6.ownBlock ≠ v7.ownBlock) (hlow : w0.heap.size ≤ mb) (hb : Below w0.heap.size w0 w4)
    (hown : w5.ownsRow w0.heap.size 9 1 v6' (out.length + 1) (strs out ++ [.string x])) (hg : (w4.alloc (.cells #[.string x] 9)).grownBy w5 v6.ownBlock) (hat : v6'.ownBlock = v6.ownBlock ∨ v6'.ownBlock = some (w4.alloc (.cells #[.string x] 9)).heap.size) :
    RSt w0 mb (out ++ [x]).length v6' v7 (out ++ [x]) rest w5 := by
  have ha : Below w4.heap.size w4 (w4.alloc (.cells #[.string x] 9)) := below_alloc (Below.refl _ _) _
  have h6 := ho6.kept (grown_of_below ha none) (by cases v6.ownBlock <;> simp)
  have h7 := ho7.kept (grown_of_below ha none) (by cases v7.ownBlock <;> simp)
  have hb1 : Below w0.heap.size w0 (w4.alloc (.cells #[.string x] 9)) := hb.alloc hb.size _
  refine ⟨?_, ?_, h7.kept hg (ne_swap hne), ne_swap (ne_new h7 (ne_swap hne) hat), hlow, hb1.grown hg hb1.size (fun q hq => (h6.lt q hq).1)⟩
  · rw [List.length_append]
    exact (hm.below ha).kept hg ((hm.below ha).ne_own h6)
  · rw [List.length_append, strs, List.map_append]
    exact hown
theorem RSt.more {w0 w w' : World} {mb n : Nat} {v6 v7 v7' : Value} {out rest l : List ByteArray} (h : RSt w0 mb n v6 v7 out rest w) (hown : w'.ownsRow w0.heap.size 9 1 v7' (rest.length + l.length) (strs rest ++ strs l)) (hg : w.grownBy w' v7.ownBlock) (hat : v7'.ownBlock = v7.ownBlock ∨ v7'.ownBlock = some w.heap.size) :
    RSt w0 mb n v6 v7' out (rest ++ l) w' := by
  refine ⟨h.map.kept hg (h.map.ne_own h.o7), h.o6.kept hg h.ne, ?_, ne_new h.o6 h.ne hat, h.low, h.below.grown hg h.below.size (fun q hq => (h.o7.lt q hq).1)⟩
  rw [List.length_append, strs, List.map_append]
  exact hown
theorem own_base {w : World} {b b' n : Nat} {v : Value} {xs : List Value} (h : w.ownsRow b 9 1 v n xs) (hb : b' ≤ b) : w.ownsRow b' 9 1 v n xs := by
  rcases h with ⟨h0, h | ⟨g, cap, cur, e, h1, h2⟩⟩
  · exact ⟨h0, .inl h⟩
  · exact ⟨h0, .inr ⟨g, cap, cur, e, Nat.le_trans hb h1, h2⟩⟩
theorem own_slice {w : World} {b n : Nat} {v : Value} {xs : List Value} (h : w.ownsRow b 9 1 v n xs) : ∃ a c, v = .slice a n c := by
  rcases h.2 with ⟨e, rfl⟩ | ⟨g, cap, cur, e, _⟩
  · exact ⟨_, _, e⟩
  · exact ⟨_, _, e⟩
theorem mark_in {out : List ByteArray} {x : ByteArray} (h : memB x out = true) : inB out x = 1 := if_pos h
theorem mark_out {out : List ByteArray} {x : ByteArray} (h : ¬ memB x out = true) : inB out x = 0 := if_neg h
set_option maxHeartbeats 16000000 in
set_option maxRecDepth 100000 in
theorem reached_calls (k ck : Nat) (A Af : Option Addr) (c cf : Nat) (M : List Mac) (F res : List ByteArray) (w : World) (hr : kM.C w A M.length M) (hc : M.length ≤ c) (hck : macro_Check.f ck M = some 0) (hf : Kd.string.C w Af F.length F) (hl : F.length ≤ 1099511627776) (h : rch M k [] F = some res) :
    Calls Tryz.prog 12 #[.slice A M.length c, .slice Af F.length cf] w fun e w' => ∃ v, e = .returned v ∧ w'.ownsRow w.heap.size 9 1 v res.length (strs (sortS res)) ∧ Below w.heap.size w w' := by
  obtain ⟨hM, hgood⟩ := check_good hck
  have hval := val_size hgood
  have hmm := @run_makeMap Tryz.prog
  have hH : Aside0 (rch M k [] F = some res) := Aside0.mk h
  clear h hgood
  have hck' : Hid (macro_Check.f ck M = some 0) := hck
  clear hck
  go_enter Tryz.func12, Tryz.ntmps12
  go_wp2_with fail
  refine (clone_str Af cf F _ (Kd.C_below hf (below_alloc (Below.refl _ _) _)) hl).mono ?_
  rintro e w2 ⟨v7, rfl, hown7, hb2⟩
  have hb0 : Below w.heap.size w (w.alloc (.map #[] 0)) := below_alloc (Below.refl _ _) _
  have hst : RSt w w.heap.size 0 (.slice none 0 0) v7 [] F w2 := by
    refine ⟨?_, World.ownsRow_nil _ _ _ _, own_base hown7 (by simp), Or.inl rfl, Nat.le_refl _, below_t hb0 hb2⟩
    have := (IntMap.made w).below hb2
    have e : inB [] = fun _ => (0 : Int) := by funext s; exact if_neg (by simp [memB])
    rw [e]
    exact this
  clear hown7 hb2 hb0 hf hmm
  go_wp2_with fail
  go_loopg [6, 7] k (fun gk v6 v7 wr => ∃ out todo : List ByteArray, Aside0 (rch M gk out todo = some res) ∧ out.length ≤ 1073741824 ∧ RSt w w.heap.size out.length v6 v7 out todo wr)
  case atStart => exact ⟨[], F, hH, by simp, hst⟩
  case round =>
    clear hst hH
    obtain ⟨out, todo, hA, hol, hS⟩ := hrel
    cases gk with
    | zero => cases hA.out
    | succ g =>
      have hch := hA.out
      clear hA
      rw [rch_succ] at hch
      by_cases h0 : todo.length = 0
      · rw [if_pos h0] at hch
        obtain rfl := Option.some.inj hch
        obtain ⟨a7, c7, hv7⟩ := own_slice hS.o7
        rw [h0] at hv7
        subst hv7
        clear hch h0
        have hso := sort_own hS.o6 (by omega)
        clear hol
        go_wp2_with fail
        refine hso.mono ?_
        rintro e w9 ⟨rfl, ho9, hg9⟩
        go_wp2_with fail
        go_ret
        exact ⟨_, rfl, ho9, hS.below.grown hg9 hS.below.size (fun q hq => (hS.o6.lt q hq).1)⟩
      · rw [if_neg h0] at hch
        have hx : (lastB todo).size ≤ 1048576 := by
          by_cases q : 1048576 < (lastB todo).size
          · rw [if_pos q] at hch; cases hch
          · omega
        rw [if_neg (by omega)] at hch
        obtain ⟨g7, cap7, rfl, hcap, hcell, hS2⟩ := hS.pop (by omega)
        obtain ⟨x, hxe⟩ : ∃ x, lastB todo = x := ⟨_, rfl⟩
        obtain ⟨rest, hre⟩ : ∃ rest, restB todo = rest := ⟨_, rfl⟩
        obtain ⟨n0, hn0⟩ : ∃ n0, todo.length = n0 := ⟨_, rfl⟩
        have hrl : rest.length = n0 - 1 := by rw [← hre, ← hn0]; unfold restB; rw [List.length_take]; omega
        rw [hxe] at hx hcell hch
        rw [hre] at hS2 hch
        rw [hn0] at h0 hcap hcell hS2 hch ⊢
        have hcm : n0 ≤ 9223372036854775807 := by
          rcases hS.o7.2 with ⟨e, _⟩ | ⟨g, cap, cur, e, _, _, q1, q2, _⟩
          · cases e
          · unfold maxLen at q2
            injection e with _ _ e3
            omega
        have b1 : (1 : Int) ≤ (n0 : Int) := by omega
        have b2 : (n0 : Int) ≤ 9223372036854775807 := by omega
        have b3 : ((n0 : Int) - 1).toNat = n0 - 1 := by omega
        have b4 : (n0 : Int) - 1 < (n0 : Int) := by omega
        have b5 : (0 : Int) ≤ (n0 : Int) - 1 := by omega
        have b6 : (n0 : Int) - 1 ≤ (cap7 : Int) := by omega
        have b7 : (0 : Int) < (n0 : Int) := by omega
        have hg := hS2.map.get x (by unfold maxLen; omega)
        have hrlh : Hid (rest.length = n0 - 1) := hrl
        clear hS hcap hcm h0 hxe hre hn0 hrl
        by_cases hin : memB x out = true
        · rw [if_pos hin] at hch
          rw [mark_in hin] at hg
          have hchh : Aside0 (rch M g out rest = some res) := Aside0.mk hch
          clear hch hin
          go_wp2_with fail
          go_roundg g
          case measure => exact Nat.lt_succ_self g
          case rel => exact ⟨out, rest, hchh, hol, hS2⟩
        · rw [if_neg hin] at hch
          have hgd : out.length < 1073741824 ∧ n0 + (nmM M x).length < 1099511627776 := by
            by_cases q : out.length < 1073741824 ∧ n0 + (nmM M x).length < 1099511627776
            · exact q
            · rw [if_neg q] at hch; cases hch
          rw [if_pos hgd] at hch
          have hchh : Aside0 (rch M g (out ++ [x]) (rest ++ nmM M x) = some res) := Aside0.mk hch
          rw [mark_out hin] at hg
          obtain ⟨w4, hput, hm4, ho6, ho7, hb4⟩ := hS2.put x hx (by omega)
          have hne4 := hS2.ne
          have hlow := hS2.low
          obtain ⟨kr, hkr⟩ := refs_ev (valM M x) (by have := hval x; omega)
          have hkr := hkr kr (Nat.le_refl _)
          have hnm : Hid ((NM (L (valM M x))).1.map B = nmM M x) := rfl
          rw [hnm.out] at hkr
          have hlk := fun W hW => look_calls2 ck A c M x (macro_Name.v x) W (Kd.C_below hr hW) hc (by omega) hck'.out (by unfold macro_Name.f; exact if_pos (by omega))
          have hgd1 : out.length + 1 ≤ 4398046511104 := by omega
          have hgd2 : rest.length + (nmM M x).length ≤ 4398046511104 := by have := hrlh.out; omega
          have hq0 : Hid (valM M x = ⟨#[]⟩ → nmM M x = []) := fun e => by
            unfold nmM
            rw [e]
            rfl
          have hol2 : out.length + 1 ≤ 1073741824 := hgd.1
          clear hch hgd hS2 hin hol
          generalize (NM (L (valM M x))).2 = okb at hkr
          generalize valM M x = v at hkr hlk hnm hq0
          generalize nmM M x = nms at hkr hchh hgd2 hnm hq0
          clear hnm
          go_wp2_with (at_builtin; go_must (refine append_one rfl (.tmp 37) (.tmp 39) rfl w.heap.size _ out.length (strs out) rfl (own_kept ho6 (below_alloc (Below.refl _ _) _)) w4.heap.size x rfl (heap_alloc_new w4 _) hgd1 (Nat.le_trans hb4.size (by simp)) ?_; intro v6' w5 hown6 hgrow6 hat6))
          have hS5 := RSt.pushed hm4 ho6 ho7 hne4 hlow hb4 hown6 hgrow6 hat6
          clear hm4 ho6 ho7 hne4 hlow hb4 hown6 hgrow6 hat6 hput hg hgd1
          refine (hlk _ hS5.below).mono ?_
          rintro e w6 ⟨⟨nn, lv, q, ec, rfl, hqf⟩, hb6⟩
          have hS6 := hS5.step hb6
          clear hS5 hb6 hlk
          cases q with
          | false =>
            have hv0 := hqf rfl
            have hn0 := hq0.out hv0
            subst hn0
            clear hqf hq0
            go_wp2_with fail
            go_roundg g
            case measure => exact Nat.lt_succ_self g
            case rel => exact ⟨out ++ [x], rest, by rw [List.append_nil] at hchh; exact hchh, by rw [List.length_append]; exact hol2, hS6.step (below_alloc (Below.refl _ _) _)⟩
          | true =>
            clear hqf hq0
            go_wp2_with fail
            refine (expand_refs.calls kr v nms okb _ hkr).mono ?_
            rintro e w8 ⟨v12, rfl, hR12, hb8⟩
            have hS8 := (hS6.step (below_alloc (Below.refl _ _) (.cells #[.string nn, .string v, .int .i64 lv] 42))).step hb8
            obtain ⟨A12, c12, rfl, hc12, hC12⟩ := Kd.R_reads hR12
            clear hS6 hb8 hR12 hc12
            have hrl2 : rest.length = n0 - 1 := hrlh.out
            rw [← hrl2]
            clear hrl2 b3
            go_wp2_with (at_builtin; go_must (refine append_at rfl (.tmp 55) (.tmp 56) rfl w.heap.size (.slice (some ⟨g7, 0, none⟩) rest.length cap7) rest.length (strs rest) rfl (by rw [← hrlh.out] at hS8; exact hS8.o7) A12 c12 nms rfl hC12 hgd2 hS8.below.size ?_; intro v7' w9 hown7 hgrow7 hat7))
            go_roundg g
            case measure => exact Nat.lt_succ_self g
            case rel => exact ⟨out ++ [x], rest ++ nms, hchh, by rw [List.length_append]; exact hol2, by rw [← hrlh.out] at hS8; exact hS8.more hown7 hgrow7 hat7⟩
end Go.Proofs.YtadfbbjplgbakaaGreat.Exp

/-! ### as the printed texts ask it -/
namespace Go.Proofs.YtadfbbjplgbakaaGreat.PX
open Go Go.RowKit Go.Proofs.YtadfbbjplgbakaaGreatW.PrintWords Go.Proofs.YtadfbbjplgbakaaGreatW.PrintLast Go.Proofs.YtadfbbjplgbakaaGreatW.PrintMore Go.Proofs.YtadfbbjplgbakaaGreat.Plain Go.Proofs.YtadfbbjplgbakaaGreat.Exp Go.Proofs.YtadfbbjplgbakaaGreat.Strs
set_option linter.unusedVariables false
def expand_reached.f (k : Nat) (l0 : List Mac) (l1 : List ByteArray) : Option (List ByteArray) :=
  if l1.length ≤ 1099511627776 then (macro_Check.f k l0).bind fun e0 => if e0 = 0 then (rch l0 k [] l1).bind fun r => some (sortS r) else none else none
theorem expand_reached.mono : ∀ l0 l1 k, LeO (expand_reached.f k l0 l1) (expand_reached.f (k + 1) l0 l1) := by
  intro l0 l1 k
  unfold expand_reached.f
  exact LeO.ite (LeO.bind (macro_Check.mono _ _) fun _ => LeO.ite (LeO.bind (rch_mono _ _ _ _) fun _ => LeO.refl _) (LeO.refl _)) (LeO.refl _)
theorem expand_reached.calls (k : Nat) (A0 : Option Addr) (c0 : Nat) (l0 : List Mac) (A1 : Option Addr) (c1 : Nat) (l1 : List ByteArray) (r : List ByteArray) (w : World) (hr0 : Kd.C kM w A0 l0.length l0) (hc0 : l0.length ≤ c0) (hr1 : Kd.C Kd.string w A1 l1.length l1) (hc1 : l1.length ≤ c1) (h : expand_reached.f k l0 l1 = some r) :
    Calls Tryz.prog 12 #[.slice A0 l0.length c0, .slice A1 l1.length c1] w fun e w' => ∃ v0_ : Value, e = .returned (v0_) ∧ Kd.R Kd.string 9 w' w.heap.size (fun _ => True) v0_ r ∧ Below w.heap.size w w' := by
  unfold expand_reached.f at h
  by_cases hl : l1.length ≤ 1099511627776
  · rw [if_pos hl] at h
    obtain ⟨e0, h1, h2⟩ := Option.bind_eq_some_iff.1 h
    by_cases he : e0 = 0
    · subst he
      rw [if_pos rfl] at h2
      obtain ⟨res, h3, h4⟩ := Option.bind_eq_some_iff.1 h2
      obtain rfl := Option.some.inj h4
      refine (reached_calls k k A0 A1 c0 c1 l0 l1 res w hr0 hc0 h1 hr1 hl h3).mono ?_
      rintro e w' ⟨v, he, ho, hb⟩
      exact ⟨v, he, R_strs (by rw [sortS_len]; exact ho), hb⟩
    · rw [if_neg he] at h2
      cases h2
  · rw [if_neg hl] at h
    cases h
end Go.Proofs.YtadfbbjplgbakaaGreat.PX
