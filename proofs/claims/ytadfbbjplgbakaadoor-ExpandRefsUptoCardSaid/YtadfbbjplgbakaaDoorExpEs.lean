/- expand.Escape: each $ twice; strings.ReplaceAll at one byte, whatever the package's variables hold. -/
import Derived.Test.YtadfbbjplgbakaaDoorExpL
import Derived.Test.YtadfbbjplgbakaaDoorBldX
import Derived.Test.YtadfbbjplgbakaaDoorShelf
import Derived.Shelf.Strings.Replace
namespace Go.Proofs.YtadfbbjplgbakaaDoor.Exp
open Go Go.RowKit Go.Proofs Go.Proofs.YtadfbbjplgbakaaDoorW.PrintWords Go.Proofs.YtadfbbjplgbakaaDoor.Plain Go.Proofs.YtadfbbjplgbakaaDoor.Hand
set_option linter.unusedVariables false
set_option linter.unusedSimpArgs false

/-- Each $ twice. -/
def escL (l : List UInt8) : List UInt8 := l.flatMap fun c => if c = 36 then [36, 36] else [c]
theorem escL_nil : escL [] = [] := rfl
theorem escL_cons (c : UInt8) (t : List UInt8) : escL (c :: t) = (if c = 36 then [36, 36] else [c]) ++ escL t := by unfold escL; rw [List.flatMap_cons]
theorem escL_none : ∀ l : List UInt8, (36 : UInt8) ∉ l → escL l = l
  | [], _ => rfl
  | c :: t, h => by
    rw [escL_cons, if_neg (fun e => h (by rw [e]; exact List.mem_cons_self ..)), escL_none t (fun hm => h (List.mem_cons_of_mem _ hm))]; rfl
theorem escL_append (a b : List UInt8) : escL (a ++ b) = escL a ++ escL b := by unfold escL; rw [List.flatMap_append]
theorem escL_len : ∀ l : List UInt8, (escL l).length = l.length + l.count 36
  | [] => rfl
  | c :: t => by
    rw [escL_cons, List.length_append, escL_len t, List.count_cons, List.length_cons]
    by_cases h : c = 36
    · rw [if_pos h, if_pos (by simp [h])]; simp only [List.length_cons, List.length_nil]; omega
    · rw [if_neg h, if_neg (by simp [h])]; simp only [List.length_cons, List.length_nil]; omega
/-- A text is what stands ahead of the first $, the $, what stands behind it. -/
theorem split36 (l : List UInt8) (h : 36 ∈ l) : l = aheadB 36 l ++ 36 :: behindB 36 l := by
  have h1 := ahead_at 36 l h
  have hlt := (List.getElem?_eq_some_iff.1 h1).1
  have h2 := ahead_eq 36 l
  obtain ⟨n, hn⟩ : ∃ n, (aheadB 36 l).length = n := ⟨_, rfl⟩
  unfold behindB
  rw [hn] at hlt h1 h2 ⊢
  rw [h2]
  have h3 : l.drop n = 36 :: l.drop (n + 1) := by
    rw [List.drop_eq_getElem_cons hlt, (List.getElem?_eq_some_iff.1 h1).2]
  rw [← h3, List.take_append_drop]
theorem escL_split (l : List UInt8) (h : 36 ∈ l) : escL l = aheadB 36 l ++ [36, 36] ++ escL (behindB 36 l) := by
  conv => lhs; rw [split36 l h]
  rw [escL_append, escL_none _ (ahead_not 36 l), escL_cons, if_pos rfl, List.append_assoc]
theorem count_split (l : List UInt8) (h : 36 ∈ l) : l.count 36 = (behindB 36 l).count 36 + 1 := by
  conv => lhs; rw [split36 l h]
  rw [List.count_append, List.count_eq_zero.2 (ahead_not 36 l), List.count_cons]
  simp
theorem ext_sub (l : List UInt8) (n m k : Nat) (h : k ≤ l.length) : (B l).extract n k = B ((l.drop n).take (k - n)) := by rw [extract_B, L_B]
set_option maxHeartbeats 1000000 in
theorem index_one (t : ByteArray) (w : World) : Calls Tryd.prog 39 #[.string t, .string ⟨#[36]⟩] w fun e w' => e = .returned (.int .i64 (Lib.indexByte (L t) 36)) ∧ w' = w := by
  have h := fun W => Tryd.stringslite_Index_one t 36 W
  go_enter Tryd.func39, Tryd.ntmps39
  go_wp2_with fail
  refine (h _).mono ?_
  rintro e w' ⟨rfl, rfl⟩
  go_wp2
  go_ret
  exact ⟨rfl, rfl⟩
set_option maxRecDepth 100000 in
set_option maxHeartbeats 1000000 in
theorem replace_calls (s : ByteArray) (w : World) (hs : s.size ≤ 70368744177664) :
    Calls Tryd.prog 24 #[.string s, .string ⟨#[36]⟩, .string ⟨#[36, 36]⟩, .int .i64 (-1)] w fun e w' => e = .returned (.string (B (escL (L s)))) ∧ Below w.heap.size w w' := by
  have hcn := fun W => Tryd.strings_Count_one s 36 W
  have hz := size_L s
  obtain ⟨cn, hcn'⟩ : ∃ cn, Lib.countByte s.data.toList 36 = cn := ⟨_, rfl⟩
  rw [hcn'] at hcn
  have hc2 : (L s).count 36 = cn := hcn'
  clear hcn'
  have hcl : cn ≤ s.size := by rw [hz, ← hc2]; exact List.count_le_length
  by_cases h0 : cn = 0
  · subst h0
    have hR : B (escL (L s)) = s := by rw [escL_none _ (List.count_eq_zero.1 hc2), B_L]
    rw [hR]
    clear hR hc2
    go_enter Tryd.func24, Tryd.ntmps24
    go_wp2_with fail
    refine (hcn _).mono ?_
    rintro e w' ⟨rfl, rfl⟩
    go_wp2_with fail
    go_ret
    exact ⟨rfl, Below.refl _ _⟩
  · have d0 : ((cn : Int) == 0) = false := beq_eq_false_iff_ne.2 (by omega)
    obtain ⟨R, hR⟩ : ∃ R, escL (L s) = R := ⟨_, rfl⟩
    rw [hR]
    have hRh : Hid (escL (L s) = R) := hR
    have hRl : R.length = s.size + cn := by rw [← hR, escL_len, hc2, hz]
    clear hR
    have c1 : (0 : Int) < (cn : Int) := by omega
    have c2 : (0 : Int) ≤ (s.size : Int) := by omega
    have hgr := fun (b : Nat) (W : World) (hbk : W.heap[b]? = some (.cells #[.pointer none, .slice none 0 0] 63 (0, 0))) => Any.Builder_Grow_fresh { Tryd.lays155 with } Tryd.Builder_Extra_155 b b (s.size + cn) W (Nat.le_refl _) hbk (by have := blk_lt hbk; omega) (by omega)
    have hsum : (s.size : Int) + (cn : Int) = ((s.size + cn : Nat) : Int) := by omega
    obtain ⟨G, hG⟩ : ∃ G, G = w.heap.size := ⟨_, rfl⟩
    obtain ⟨W1, hW1⟩ : ∃ W1, W1 = w.alloc (.cells #[.pointer none, .slice none 0 0] 63) := ⟨_, rfl⟩
    have g1 : W1.heap[G]? = some (.cells #[.pointer none, .slice none 0 0] 63 (0, 0)) := by rw [hG, hW1]; exact heap_alloc_new w _
    have b1 : Below w.heap.size w W1 := by rw [hW1]; exact below_alloc (Below.refl _ _) _
    go_enter Tryd.func24, Tryd.ntmps24
    go_wp2_with fail
    refine (hcn _).mono ?_
    rintro e w' ⟨rfl, rfl⟩
    go_wp2_with fail
    rw [← hW1, ← hG]
    refine (hgr _ _ g1).mono ?_
    rintro e w2 ⟨rfl, hI, hb2⟩
    have i2 : IsBld G G [] w2 := .inr (Lib.BuilderAtF.of hI)
    have b2 : Below w'.heap.size w' w2 := by rw [hG] at hb2; exact b1.trans hb2
    have hG2 : G ≤ w2.heap.size := by rw [hG]; exact b2.size
    have hGl : Hid (G = w'.heap.size) := hG
    have b3 : Below G w' w2 := hG ▸ b2
    have hGw : G ≤ w'.heap.size := by omega
    clear hgr hI hb2 g1 b1 hW1 hcn hG b2
    go_wp2_with fail
    have hzz : Hid (s.size = (L s).length) := hz
    clear hG2 c1 hsum hz
    go_loopw [11, 53] (fun v11 v53 wr => ∃ (st i : Nat) (out : List UInt8), v11 = .int .i64 (st : Int) ∧ v53 = .int .i64 (i : Int) ∧ Aside0 (i ≤ cn ∧ st ≤ (L s).length ∧ ((L s).drop st).count 36 + i = cn ∧ out ++ escL ((L s).drop st) = R) ∧ Aside0 (IsBld G G out wr) ∧ Aside0 (Below G w' wr)) (fun _ v53 _ => (cn : Int).toNat - (intOf v53).toNat)
    case atStart => exact ⟨0, 0, [], rfl, rfl, ⟨by omega, Nat.zero_le _, by rw [List.drop_zero, hc2]; rfl, by rw [List.drop_zero]; exact hRh.out⟩, ⟨i2⟩, ⟨b3⟩⟩
    case round =>
      obtain ⟨st, i, out, rfl, rfl, hA, hI, hB⟩ := hrel
      obtain ⟨a1, a2, a3, a4⟩ := hA.out
      have hz := hzz.out
      have a4' := Aside0.mk a4
      have a3' := Aside0.mk a3
      have hol : out.length ≤ R.length := by rw [← a4, List.length_append]; omega
      clear i2 b3 hA a4 a3 hRh
      have hGr : G ≤ wr.heap.size := Nat.le_trans hGw hB.out.size
      obtain ⟨rest, hrest⟩ : ∃ rest, (L s).drop st = rest := ⟨_, rfl⟩
      rw [hrest] at a3' a4'
      have hrl : rest.length + st = (L s).length := by rw [← hrest, List.length_drop]; omega
      have e1 : (0 : Int) ≤ (st : Int) := by omega
      have e2 : (st : Int) ≤ (s.size : Int) := by omega
      have x1 : s.extract st s.size = B rest := by rw [extract_B, hrest, List.take_of_length_le (by rw [hz]; omega)]
      by_cases hi : i < cn
      · have d1 : decide ((i : Int) < (cn : Int)) = true := decide_eq_true (by omega)
        have hm : 36 ∈ rest := by
          have h1 : 0 < rest.count 36 := by have := a3'.out; omega
          exact List.count_pos_iff.1 h1
        have h1 := ahead_at 36 rest hm
        have hlt := (List.getElem?_eq_some_iff.1 h1).1
        have hae := ahead_eq 36 rest
        have hsp := escL_split rest hm
        have hcs := count_split rest hm
        have hbh : behindB 36 rest = (L s).drop (st + (aheadB 36 rest).length + 1) := by
          unfold behindB; rw [← hrest, List.drop_drop]; congr 1
        have hix : Lib.indexByte (L (B rest)) 36 = ((aheadB 36 rest).length : Int) := by
          rw [L_B, index_eq, if_pos (by simpa using hm)]
        have hidx := fun W => index_one (B rest) W
        rw [hix] at hidx
        obtain ⟨p, hp⟩ : ∃ p, aheadB 36 rest = p := ⟨_, rfl⟩
        rw [hp] at hsp hlt hae hbh hidx h1
        have hpl : p.length < rest.length := hlt
        have x2 : s.extract st (st + p.length) = B p := by
          rw [extract_B, hrest, Nat.add_sub_cancel_left, ← hae]
        have hA2 : Aside0 ((out ++ p) ++ [36, 36] ++ escL ((L s).drop (st + p.length + 1)) = R) := ⟨by rw [← hbh, ← a4'.out, hsp]; simp⟩
        have hA3 : Aside0 (((L s).drop (st + p.length + 1)).count 36 + (i + 1) = cn) := ⟨by rw [← hbh]; have := a3'.out; omega⟩
        have hzp := size_L (B p)
        rw [L_B] at hzp
        have e3 : (0 : Int) ≤ (st : Int) + (p.length : Int) := by omega
        have e4 : (st : Int) + (p.length : Int) ≤ (s.size : Int) := by omega
        have e5 : (st : Int) ≤ (st : Int) + (p.length : Int) := by omega
        have e6 : ((st : Int) + (p.length : Int)).toNat = st + p.length := by omega
        have hol2 : (out ++ p).length ≤ R.length := by rw [← hA2.out]; simp only [List.length_append]; omega
        have hol3 : (out ++ p).length + 2 ≤ R.length := by rw [← hA2.out]; simp only [List.length_append, List.length_cons, List.length_nil]; omega
        rw [List.length_append] at hol2 hol3
        have hst2 : Aside0 (st + p.length + 1 ≤ (L s).length) := ⟨by omega⟩
        clear a4' a3' hrest h1 hae hsp hcs hbh hix hp hm hlt hz a2 hrl
        go_wp2_with fail
        refine (hidx _).mono ?_
        rintro e w3 ⟨rfl, rfl⟩
        go_wp2_with fail
        refine (bld_WriteString G G out (B p) _ hI.out (by omega) hGr).mono ?_
        rintro e w4 ⟨rfl, i4, b4, _⟩
        rw [show (B p).data.toList = p from L_B p] at i4
        have hG4 := Nat.le_trans hGr b4.size
        have b5 := hB.out.trans b4
        clear hI hB b4 hGr
        go_wp2_with fail
        refine (bld_WriteString G G (out ++ p) ⟨#[36, 36]⟩ _ i4 (by rw [List.length_append]; show _ + 2 ≤ _; omega) hG4).mono ?_
        rintro e w5 ⟨rfl, i5, b6, _⟩
        have b7 := b5.trans b6
        go_wp2_with fail
        go_roundw
        case rel => exact ⟨st + p.length + 1, i + 1, (out ++ p) ++ [36, 36], by go_num, by go_num, ⟨by omega, hst2.out, hA3.out, hA2.out⟩, ⟨i5⟩, ⟨b7⟩⟩
        case measure => simp [intOf]; omega
      · have hie : i = cn := by omega
        subst hie
        have d1 : decide ((i : Int) < (i : Int)) = false := decide_eq_false (by omega)
        have hc0 : rest.count 36 = 0 := by have := a3'.out; omega
        have hfin : out ++ rest = R := by rw [← a4'.out, escL_none rest (List.count_eq_zero.1 hc0)]
        have hofl : out.length + rest.length = R.length := by rw [← hfin, List.length_append]
        have hzr := size_L (B rest)
        rw [L_B] at hzr
        have hfin' := Aside0.mk hfin
        clear a4' a3' hrest hc0 hfin hz a2 hrl
        go_wp2_with fail
        refine (bld_WriteString G G out (B rest) _ hI.out (by omega) hGr).mono ?_
        rintro e w4 ⟨rfl, i4, b4, _⟩
        rw [show (B rest).data.toList = rest from L_B rest, hfin'.out] at i4
        have hG4 := Nat.le_trans hGr b4.size
        have b5 := hB.out.trans b4
        clear hI hB b4 hGr
        go_wp2_with fail
        refine (bld_String G G R _ i4 hG4).mono ?_
        rintro e w6 ⟨rfl, i6, b6, _⟩
        go_wp2_with fail
        go_ret
        exact ⟨rfl, hGl.out ▸ (b5.trans b6)⟩
set_option maxHeartbeats 1000000 in
theorem escape_calls (s : ByteArray) (w : World) (hs : s.size ≤ 70368744177664) :
    Calls Tryd.prog 5 #[.string s] w fun e w' => e = .returned (.string (B (escL (L s)))) ∧ Below w.heap.size w w' := by
  have h : ∀ W, Calls Tryd.prog 15 #[.string s, .string ⟨#[36]⟩, .string ⟨#[36, 36]⟩] W fun e w' => e = .returned (.string (B (escL (L s)))) ∧ Below W.heap.size W w' := by
    intro W
    have h2 := fun W => replace_calls s W hs
    generalize B (escL (L s)) = r at h2 ⊢
    go_enter Tryd.func15, Tryd.ntmps15
    go_wp2_with fail
    refine (h2 _).mono ?_
    rintro e w' ⟨rfl, hb⟩
    go_wp2
    go_ret
    exact ⟨rfl, hb⟩
  generalize B (escL (L s)) = r at h ⊢
  go_enter Tryd.func5, Tryd.ntmps5
  go_wp2_with fail
  refine (h _).mono ?_
  rintro e w' ⟨rfl, hb⟩
  go_wp2
  go_ret
  exact ⟨rfl, hb⟩
end Go.Proofs.YtadfbbjplgbakaaDoor.Exp

/-! ### as the printed texts ask it -/
namespace Go.Proofs.YtadfbbjplgbakaaDoor.PX
open Go Go.RowKit Go.Proofs.YtadfbbjplgbakaaDoorW.PrintWords Go.Proofs.YtadfbbjplgbakaaDoor.Plain Go.Proofs.YtadfbbjplgbakaaDoor.Exp
def expand_Escape.f (a0 : ByteArray) : Option ByteArray := if a0.size ≤ 70368744177664 then some (B (escL (L a0))) else none
theorem expand_Escape.calls (a0 : ByteArray) (r : ByteArray) (w : World) (h : expand_Escape.f a0 = some r) :
    Calls Tryd.prog 5 #[.string a0] w fun e w' => e = .returned (.string r) ∧ Below w.heap.size w w' := by
  unfold expand_Escape.f at h
  by_cases c : a0.size ≤ 70368744177664
  · rw [if_pos c] at h
    obtain rfl := Option.some.inj h
    exact escape_calls a0 w c
  · rw [if_neg c] at h
    cases h
end Go.Proofs.YtadfbbjplgbakaaDoor.PX
