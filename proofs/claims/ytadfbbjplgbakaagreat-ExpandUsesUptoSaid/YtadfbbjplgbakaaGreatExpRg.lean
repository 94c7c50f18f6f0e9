/- Plain: expand.refs comes to the names of a text's references. -/
import Derived.Test.YtadfbbjplgbakaaGreatExpP
import Derived.Test.YtadfbbjplgbakaaGreatExpRd
import Derived.Test.YtadfbbjplgbakaaGreatPXx2
import Derived.Test.YtadfbbjplgbakaaGreatPXx10
namespace Go.Proofs.YtadfbbjplgbakaaGreat.Plain
open Go Go.RowKit Go.Proofs.YtadfbbjplgbakaaGreatW.PrintWords Go.Proofs.YtadfbbjplgbakaaGreat.PX Go.Proofs.YtadfbbjplgbakaaGreat.Exp
set_option linter.unusedVariables false

theorem toL_B (l : List UInt8) : (B l).toList = l := by rw [toList_L, L_B]
theorem drop_sub (l : List UInt8) (n : Nat) (h : n ≤ l.length) : (B l).extract n (B l).size = B (l.drop n) := by
  rw [extract_B, L_B, List.take_of_length_le (by rw [size_L, L_B, List.length_drop]; omega)]
theorem wrap_add (n m : Nat) (h : n + m ≤ 1048576) : wrap64 ((n : Int) + (m : Int)) = ((n + m : Nat) : Int) := by rw [wrap_id (by omega) (by omega)]; omega
theorem NM_none (l : List UInt8) (h : 36 ∉ l) : NM l = ([], true) := by
  rw [NM_eq, ahead_all 36 l h, if_pos (List.drop_length ..)]
theorem NM_at (l : List UInt8) (n : Nat) (l1 : List UInt8) (hm : 36 ∈ l) (hn : (aheadB 36 l).length = n) (hl : l.drop n = l1) : NM l = if (rdX l1).2 = false then ([], false) else ((if (rdX l1).1.name = [36] then [] else [(rdX l1).1.name]) ++ (NM (l1.drop (rdX l1).1.size)).1, (NM (l1.drop (rdX l1).1.size)).2) := by
  have hlt := (List.getElem?_eq_some_iff.1 (ahead_at 36 l hm)).1
  rw [NM_eq, hn, hl, if_neg]
  rintro rfl
  have := congrArg List.length hl
  rw [List.length_drop] at this
  simp at this
  omega
theorem refs_loop : ∀ (d : Nat) (l : List UInt8) (acc : List (List UInt8)), l.length < d → acc.length + l.length ≤ 1048576 → Ev (fun k => expand_refs.l0 k (B l) (acc.map B)) ((acc ++ (NM l).1).map B, (NM l).2) := by
  intro d
  induction d with
  | zero => intro l acc hd ha; omega
  | succ d IH =>
    intro l acc hd ha
    have hi : strings_IndexByte.f (B l) 36 = some (if l.contains 36 = true then ((aheadB 36 l).length : Int) else -1) := by
      have := indexB_eq (B l) 36
      rw [L_B] at this
      exact this
    have hz : (B l).size = l.length := by rw [size_L, L_B]
    by_cases hc : l.contains 36 = true
    · rw [if_pos hc] at hi
      have hm : 36 ∈ l := by simpa using hc
      have hlt := (List.getElem?_eq_some_iff.1 (ahead_at 36 l hm)).1
      obtain ⟨n, hn⟩ : ∃ n, (aheadB 36 l).length = n := ⟨_, rfl⟩
      rw [hn] at hi hlt
      obtain ⟨l1, hl1⟩ : ∃ l1, l.drop n = l1 := ⟨_, rfl⟩
      have hll : l1.length = l.length - n := by rw [← hl1, List.length_drop]
      have hh : l1.head? = some 36 := by
        have := ahead_at 36 l hm
        rw [hn] at this
        rw [← hl1, List.head?_drop]
        exact this
      have hx : (B l).extract ((n : Int)).toNat (B l).size = B l1 := by rw [Int.toNat_natCast, drop_sub l n (by omega), hl1]
      have hrd : expand_read.f (B l1) = some (B (rdX l1).1.name, (rdX l1).1.swap, B (rdX l1).1.from_, B (rdX l1).1.to_, ((rdX l1).1.size : Int), (rdX l1).2) := by
        unfold expand_read.f
        rw [L_B, if_pos ⟨by rw [size_L, L_B]; omega, hh⟩]
      have hnm := NM_at l n l1 hm hn hl1
      refine Ev.step (fun _ => rfl) (ev_const hi (ev_neg (by omega) (ev_pos (by omega) (ev_pos (by rw [hz]; omega) ?_))))
      rw [hx]
      refine ev_const hrd ?_
      dsimp only
      by_cases hok : (rdX l1).2 = true
      · have hfit := rdX_fits l1 hok
        obtain ⟨z4, z5⟩ : 2 ≤ (rdX l1).1.size ∧ (rdX l1).1.size ≤ l1.length := ⟨hfit.2.2.2.1, hfit.2.2.2.2⟩
        rw [if_neg (by rw [hok]; decide)] at hnm
        clear hfit hrd hx hi hh hc hm
        generalize (rdX l1).1.name = nm at hnm ⊢
        generalize (rdX l1).1.size = sz at z4 z5 hnm ⊢
        rw [hok]
        have hlen : (l1.drop sz).length < d := by rw [List.length_drop]; omega
        have hns : n + sz ≤ l.length := by omega
        have hx2 : (B l).extract (((n + sz : Nat) : Int)).toNat (B l).size = B (l1.drop sz) := by
          rw [Int.toNat_natCast, drop_sub l (n + sz) hns, ← hl1, List.drop_drop]
        have hle2 : ((n + sz : Nat) : Int) ≤ ((B l).size : Int) := by rw [hz]; omega
        have hl2 : (l1.drop sz).length + 2 ≤ l.length := by rw [List.length_drop]; omega
        have hge : (0 : Int) ≤ ((n + sz : Nat) : Int) := by omega
        have ha1 : acc.length + (l1.drop sz).length ≤ 1048576 := by omega
        have ha2 : (acc ++ [nm]).length + (l1.drop sz).length ≤ 1048576 := by rw [List.length_append, List.length_singleton]; omega
        have ha3 : (acc.map B).length < 8796093022208 := by rw [List.length_map]; omega
        have hns2 : n + sz ≤ 1048576 := by omega
        have ih := fun (acc' : List (List UInt8)) h => IH (l1.drop sz) acc' hlen h
        clear IH hlen hlt hll hl1 hn hok z4 z5 hz
        have hw : wrap64 ((n : Int) + (sz : Int)) = ((n + sz : Nat) : Int) := wrap_add n sz hns2
        refine ev_pos rfl ?_
        rw [hnm, hw]
        by_cases h36 : nm = [36]
        · rw [if_pos h36, List.nil_append]
          refine ev_pos (by rw [toL_B]; exact h36) (ev_pos hge (ev_pos hle2 ?_))
          rw [hx2]
          exact ih acc ha1
        · rw [if_neg h36]
          refine ev_neg (by rw [toL_B]; exact h36) (ev_pos ha3 (ev_pos hge (ev_pos hle2 ?_)))
          rw [hx2]
          have := ih (acc ++ [nm]) ha2
          rw [List.map_append, List.append_assoc] at this
          exact this
      · have hok' : (rdX l1).2 = false := by simpa using hok
        rw [if_pos hok'] at hnm
        rw [hnm, hok', List.append_nil]
        exact ev_neg (by decide) (Ev.now _)
    · rw [if_neg hc] at hi
      have hn36 : 36 ∉ l := fun hm => hc (by simpa using hm)
      rw [NM_none l hn36, List.append_nil]
      exact Ev.step (fun _ => rfl) (ev_const hi (ev_pos (by decide) (Ev.now _)))
theorem refs_ev (s : ByteArray) (hs : s.size ≤ 1048576) : Ev (fun k => expand_refs.f k s) ((NM (L s)).1.map B, (NM (L s)).2) := by
  have := refs_loop (L s).length.succ (L s) [] (Nat.lt_succ_self _) (by rw [← size_L]; simp; exact hs)
  rw [B_L] at this
  exact this
end Go.Proofs.YtadfbbjplgbakaaGreat.Plain
namespace Go.Proofs.YtadfbbjplgbakaaGreat.Plain
open Go Go.RowKit Go.Proofs.YtadfbbjplgbakaaGreatW.PrintWords Go.Proofs.YtadfbbjplgbakaaGreat.PX Go.Proofs.YtadfbbjplgbakaaGreat.Exp
set_option linter.unusedVariables false

/-- What expand.Refs tells. -/
def refsV (s : ByteArray) : List ByteArray × Int := if s.size ≤ 65536 then (if (NM (L s)).2 = true then ((NM (L s)).1.map B, 0) else ([], 60)) else ([], 2)
theorem Refs_ev (s : ByteArray) : Ev (fun k => expand_Refs.f k s) (refsV s) := by
  unfold expand_Refs.f refsV
  by_cases h : s.size ≤ 65536
  · rw [if_pos h]
    refine ev_neg (by omega) (Ev.bind (refs_ev s (by omega)) ?_)
    dsimp only
    exact ev_ite (fun _ => Ev.now _) (fun _ => Ev.now _)
  · rw [if_neg h]
    exact ev_pos (by omega) (Ev.now _)
end Go.Proofs.YtadfbbjplgbakaaGreat.Plain
