/- Plain: the references of a text, as the program and as the reference reads them. -/
import Derived.Test.YtadfbbjplgbakaaGreatExpAt
import Derived.Test.YtadfbbjplgbakaaGreatExpRg
import Derived.Test.YtadfbbjplgbakaaGreatPXx13
namespace Go.Proofs.YtadfbbjplgbakaaGreat.Plain
open Go Go.RowKit Go.Proofs.YtadfbbjplgbakaaGreatW.PrintWords Go.Proofs.YtadfbbjplgbakaaGreat.PX Go.Proofs.YtadfbbjplgbakaaGreat.Exp
set_option linter.unusedVariables false

set_option maxRecDepth 100000 in
theorem one_not_br (c : UInt8) : ((c == 40 || c == 123) && oneB c) = false := all_bytes (p := fun c => ((c == 40 || c == 123) && oneB c) = false) (by decide +kernel) c
theorem nam_no36 : namB 36 = false := by decide
theorem name_not (l : List UInt8) (h : (namL l || innL l) = true) : l ≠ [] ∧ l ≠ [36] := by
  constructor
  · rintro rfl; revert h; decide
  · rintro rfl; revert h; decide
/-- Both read the same reference, but for the name of two $. -/
theorem at_rd (l : List UInt8) (h : l.head? = some 36) : (atX l).2 = (rdX l).2 ∧ ((rdX l).2 = true → (atX l).1.size = (rdX l).1.size ∧ (((rdX l).1.name = [36] ∧ (atX l).1.name = []) ∨ ((rdX l).1.name ≠ [36] ∧ (atX l).1.name ≠ [] ∧ (atX l).1.name = (rdX l).1.name))) := by
  rcases l with _ | ⟨x, _ | ⟨c, t⟩⟩
  · cases h
  · exact ⟨rfl, fun h => by cases h⟩
  · by_cases h36 : c = 36
    · have hA : atX (x :: c :: t) = (⟨[], false, [], [], 2⟩, true) := if_pos h36
      have hR : rdX (x :: c :: t) = (⟨[c], false, [], [], 2⟩, true) := if_pos (Or.inl h36)
      rw [hA, hR]
      exact ⟨rfl, fun _ => ⟨rfl, .inl ⟨by rw [h36], rfl⟩⟩⟩
    · by_cases hbr : c = 40 ∨ c = 123
      · have ho : oneB c = false := by
          have := one_not_br c
          rcases hbr with rfl | rfl <;> simpa using this
        have hno : ¬ (c = 36 ∨ oneB c = true) := fun h => h.elim h36 (fun h => by rw [ho] at h; cases h)
        have hA : atX (x :: c :: t) = (if t.contains (shutB c) = true then atIn (aheadB (shutB c) t) else (Rf.none, false)) := (if_neg h36).trans (if_pos hbr)
        have hR : rdX (x :: c :: t) = (if t.contains (shutB c) = true then rdIn (aheadB (shutB c) t) else (Rf.none, false)) := (if_neg hno).trans (if_pos hbr)
        rw [hA, hR]
        by_cases hct : t.contains (shutB c) = true
        · rw [if_pos hct, if_pos hct]
          generalize aheadB (shutB c) t = inn
          unfold atIn rdIn
          simp only
          by_cases h58 : inn.contains 58 = true
          · rw [if_pos h58, if_pos h58]
            generalize aheadB 58 inn = nm
            generalize hho : behindB 58 inn = how
            by_cases h61 : how.contains 61 = true
            · have h61m : (61 : UInt8) ∈ how := by simpa using h61
              have hsp : how = aheadB 61 how ++ 61 :: behindB 61 how := by
                have h1 := ahead_at 61 how h61m
                have hlt := (List.getElem?_eq_some_iff.1 h1).1
                have h2 := ahead_eq 61 how
                obtain ⟨n, hn⟩ : ∃ n, (aheadB 61 how).length = n := ⟨_, rfl⟩
                unfold behindB
                rw [hn] at hlt h1 h2 ⊢
                rw [h2]
                have h3 : how.drop n = 61 :: how.drop (n + 1) := by
                  rw [List.drop_eq_getElem_cons hlt, (List.getElem?_eq_some_iff.1 h1).2]
                rw [← h3, List.take_append_drop]
              have hc36 : how.contains 36 = ((aheadB 61 how).contains 36 || (behindB 61 how).contains 36) := by
                conv => lhs; rw [hsp]
                rw [List.contains_append, List.contains_cons]
                rfl
              rw [if_pos h61]
              by_cases hd : how.contains 36 = false
              · rw [if_pos ⟨h61, hd⟩]
                rw [hd] at hc36
                have hf := (Bool.or_eq_false_iff.1 hc36.symm)
                rw [hf.1, hf.2]
                refine ⟨by simp, fun hk => ⟨rfl, .inr ?_⟩⟩
                have := name_not nm hk
                exact ⟨this.2, this.1, rfl⟩
              · rw [if_neg (fun h => hd h.2)]
                have hd' : how.contains 36 = true := by simpa using hd
                rw [hd'] at hc36
                refine ⟨?_, fun hk => by cases hk⟩
                show (_ && !_ && !_) = false
                rcases Bool.or_eq_true_iff.1 hc36.symm with h | h <;> rw [h] <;> simp
            · rw [if_neg h61, if_neg (fun h => h61 h.1)]
              exact ⟨rfl, fun hk => by cases hk⟩
          · have ha : aheadB 58 inn = inn := ahead_all 58 inn (fun hm => h58 (by simpa using hm))
            rw [if_neg h58, if_neg h58, ha]
            refine ⟨rfl, fun hk => ⟨rfl, .inr ?_⟩⟩
            have := name_not inn hk
            exact ⟨this.2, this.1, rfl⟩
        · rw [if_neg hct, if_neg hct]
          exact ⟨rfl, fun hk => by cases hk⟩
      · have hA : atX (x :: c :: t) = (⟨[c], false, [], [], 2⟩, oneB c) := (if_neg h36).trans (if_neg hbr)
        rw [hA]
        by_cases ho : oneB c = true
        · have hR : rdX (x :: c :: t) = (⟨[c], false, [], [], 2⟩, true) := if_pos (Or.inr ho)
          rw [hR]
          exact ⟨ho, fun _ => ⟨rfl, .inr ⟨fun e => h36 (by simpa using e), by simp, rfl⟩⟩⟩
        · have hR : rdX (x :: c :: t) = (Rf.none, false) := (if_neg (fun h => h.elim h36 ho)).trans (if_neg hbr)
          rw [hR]
          exact ⟨by simpa using ho, fun hk => by cases hk⟩
end Go.Proofs.YtadfbbjplgbakaaGreat.Plain
namespace Go.Proofs.YtadfbbjplgbakaaGreat.Plain
open Go Go.RowKit Go.Proofs.YtadfbbjplgbakaaGreatW.PrintWords Go.Proofs.YtadfbbjplgbakaaGreat.PX Go.Proofs.YtadfbbjplgbakaaGreat.Exp
set_option linter.unusedVariables false

theorem NM_skip (c : UInt8) (t : List UInt8) (h : c ≠ 36) : NM (c :: t) = NM t := by
  have h1 : (c :: t).drop (aheadB 36 (c :: t)).length = t.drop (aheadB 36 t).length := by
    unfold aheadB
    rw [List.takeWhile_cons, if_pos (by simpa using h), List.length_cons, List.drop_succ_cons]
  rw [NM_eq, NM_eq t, h1]
theorem wrap_one (i : Nat) (h : i ≤ 1048576) : wrap64 ((i : Int) + 1) = ((i + 1 : Nat) : Int) := by rw [wrap_id (by omega) (by omega)]; omega
theorem names_loop (s : ByteArray) (hs : s.size ≤ 1048576) : ∀ (m i : Nat) (acc : List (List UInt8)), s.size - i ≤ m → i ≤ s.size → acc.length + (s.size - i) ≤ 1048576 → Ev (fun k => smithyref06_names.l0 k s (acc.map B) (i : Int)) ((acc ++ (NM ((L s).drop i)).1).map B, (NM ((L s).drop i)).2) := by
  intro m
  induction m with
  | zero =>
    intro i acc hm hi ha
    have he : (L s).drop i = [] := List.drop_eq_nil_of_le (by rw [← size_L]; omega)
    rw [he, NM_none [] (by simp), List.append_nil]
    exact Ev.step (fun _ => rfl) (ev_neg (by omega) (Ev.now _))
  | succ m IH =>
    intro i acc hm hi ha
    by_cases hlt : i < s.size
    · have hlt2 : i < (L s).length := by rw [← size_L]; exact hlt
      obtain ⟨c, hc⟩ : ∃ c, (L s)[i]? = some c := ⟨_, List.getElem?_eq_getElem hlt2⟩
      have hb : bt s (i : Int) = (c.toNat : Int) := bt_at_L hc
      have hdr : (L s).drop i = c :: (L s).drop (i + 1) := by
        rw [List.drop_eq_getElem_cons hlt2, (List.getElem?_eq_some_iff.1 hc).2]
      have hlti : (i : Int) < (s.size : Int) := by omega
      have hge : (0 : Int) ≤ (i : Int) := by omega
      by_cases h36 : c = 36
      · subst h36
        obtain ⟨l1, hl1⟩ : ∃ l1, (L s).drop i = l1 := ⟨_, rfl⟩
        have hh : l1.head? = some 36 := by rw [← hl1, hdr]; rfl
        have hm36 : 36 ∈ l1 := by rw [← hl1, hdr]; exact List.mem_cons_self ..
        have hz := size_L s
        have hll : l1.length = s.size - i := by rw [← hl1, List.length_drop, hz]
        have hat := at_rd l1 hh
        have hf : smithyref06_at.f s (i : Int) = some (B (atX l1).1.name, (atX l1).1.swap, B (atX l1).1.from_, B (atX l1).1.to_, (if (atX l1).1.size = 0 then 0 else ((i + (atX l1).1.size : Nat) : Int)), (atX l1).2) := by
          unfold smithyref06_at.f
          rw [if_pos ⟨by omega, by omega, by omega⟩, Int.toNat_natCast, hl1]
        have ha0 : (aheadB 36 l1).length = 0 := by
          rw [← hl1, hdr]; unfold aheadB; rw [List.takeWhile_cons, if_neg (by simp)]; rfl
        have hnm := NM_at l1 0 l1 hm36 ha0 (List.drop_zero ..)
        have hdd : ∀ z, l1.drop z = (L s).drop (i + z) := fun z => by rw [← hl1, List.drop_drop]
        refine Ev.step (fun _ => rfl) (ev_pos hlti (ev_pos hge ?_))
        rw [hb, hl1]
        refine ev_pos rfl (ev_const hf ?_)
        dsimp only
        by_cases hok : (rdX l1).2 = true
        · have hfit := rdX_fits l1 hok
          obtain ⟨h1, h2⟩ := hat
          obtain ⟨h3, h4⟩ := h2 hok
          obtain ⟨z4, z5⟩ : 2 ≤ (rdX l1).1.size ∧ (rdX l1).1.size ≤ l1.length := ⟨hfit.2.2.2.1, hfit.2.2.2.2⟩
          rw [if_neg (by rw [hok]; decide)] at hnm
          rw [hnm, h1, hok]
          rw [← h3] at z4 z5 ⊢
          clear hfit hf hnm h2 hh hm36 hdr hb hc h1 hok
          generalize (atX l1).1.size = sz at z4 z5 ⊢
          have hpos : (if sz = 0 then (0 : Int) else ((i + sz : Nat) : Int)) = ((i + sz : Nat) : Int) := if_neg (by omega)
          have q1 : s.size - (i + sz) ≤ m := by omega
          have q2 : i + sz ≤ s.size := by omega
          have q3 : acc.length + (s.size - (i + sz)) ≤ 1048576 := by omega
          have q4 : (acc ++ [(rdX l1).1.name]).length + (s.size - (i + sz)) ≤ 1048576 := by rw [List.length_append, List.length_singleton]; omega
          have q5 : (acc.map B).length < 8796093022208 := by rw [List.length_map]; omega
          have ih := fun (acc' : List (List UInt8)) h => IH (i + sz) acc' q1 q2 h
          rw [hdd, hpos]
          clear IH hdd hpos
          refine ev_pos rfl ?_
          rcases h4 with ⟨h5, h6⟩ | ⟨h5, h6, h7⟩
          · rw [if_pos h5, List.nil_append]
            refine ev_pos (by rw [toL_B]; exact h6) ?_
            exact ih acc q3
          · rw [if_neg h5]
            refine ev_neg (by rw [toL_B]; exact h6) (ev_pos q5 ?_)
            rw [h7]
            have := ih (acc ++ [(rdX l1).1.name]) q4
            rw [List.map_append, List.append_assoc] at this
            exact this
        · have hok' : (rdX l1).2 = false := by simpa using hok
          rw [if_pos hok'] at hnm
          rw [hnm, hat.1, hok', List.append_nil]
          exact ev_neg (by decide) (Ev.now _)
      · have q1 : s.size - (i + 1) ≤ m := by omega
        have q2 : i + 1 ≤ s.size := by omega
        have q3 : acc.length + (s.size - (i + 1)) ≤ 1048576 := by omega
        have ih := IH (i + 1) acc q1 q2 q3
        have hn : ¬ (c.toNat : Int) = 36 := fun h => h36 (u8_eq.1 (Int.ofNat.inj h))
        refine Ev.step (fun _ => rfl) (ev_pos hlti (ev_pos hge ?_))
        rw [hb, wrap_one i (by omega), hdr, NM_skip c _ h36]
        exact ev_neg hn ih
    · have he : (L s).drop i = [] := List.drop_eq_nil_of_le (by rw [← size_L]; omega)
      rw [he, NM_none [] (by simp), List.append_nil]
      exact Ev.step (fun _ => rfl) (ev_neg (by omega) (Ev.now _))
theorem names_ev (s : ByteArray) (hs : s.size ≤ 1048576) : Ev (fun k => smithyref06_names.f k s) ((NM (L s)).1.map B, (NM (L s)).2) := by
  have := names_loop s hs s.size 0 [] (by omega) (by omega) (by simp; exact hs)
  rw [List.drop_zero] at this
  exact this
end Go.Proofs.YtadfbbjplgbakaaGreat.Plain
