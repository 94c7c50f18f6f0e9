/- For every text: it refers to some names, or has a reference that is none, as the document says; and so of Plain and Escape. -/
import Derived.Test.YtadfbbjplgbakaaDoorExpRr
import Derived.Test.YtadfbbjplgbakaaDoorExpQ
import Derived.Test.YtadfbbjplgbakaaDoorTextsP
import Derived.Test.YtadfbbjplgbakaaDoorOpens
import Derived.Test.YtadfbbjplgbakaaDoorPXx7
namespace Go.Proofs.YtadfbbjplgbakaaDoor.Pure
open Go Go.RowKit Go.Proofs.YtadfbbjplgbakaaDoor.PX Go.Proofs.YtadfbbjplgbakaaDoorW.PrintWords Go.Proofs.YtadfbbjplgbakaaDoor.Plain Go.Proofs.YtadfbbjplgbakaaDoor.Exp

theorem esc_num (l : List UInt8) (c : UInt8) : (l.map fun c : UInt8 => (c.toNat : Int)) ++ [(c.toNat : Int)] = (l ++ [c]).map fun c : UInt8 => (c.toNat : Int) := by rw [List.map_append]; rfl
theorem num_B (l : List UInt8) : strOfNums (l.map fun c : UInt8 => (c.toNat : Int)) = B l := by
  unfold strOfNums
  rw [List.map_map]
  congr 2
  induction l with
  | nil => rfl
  | cons c t ih => rw [List.map_cons, ih]; simp
theorem resc_loop (s : ByteArray) (hs : s.size ≤ 1048576) : ∀ (d i : Nat) (acc : List UInt8), i + d = s.size → acc.length ≤ 2 * i → Ev (fun k => smithyref06_Escape.l0 k s (acc.map fun c : UInt8 => (c.toNat : Int)) (i : Int)) (B (acc ++ escL ((L s).drop i))) := by
  intro d
  induction d with
  | zero =>
    intro i acc hi ha
    rw [List.drop_eq_nil_of_le (by rw [← size_L]; omega), escL_nil, List.append_nil]
    refine Ev.step (fun _ => rfl) (ev_neg (by omega) (ev_some ?_))
    exact num_B acc
  | succ d IH =>
    intro i acc hi ha
    have hlt2 : i < (L s).length := by rw [← size_L]; omega
    obtain ⟨c, hc⟩ : ∃ c, (L s)[i]? = some c := ⟨_, List.getElem?_eq_getElem hlt2⟩
    have hb : bt s (i : Int) = (c.toNat : Int) := bt_at_L hc
    have hdr : (L s).drop i = c :: (L s).drop (i + 1) := by
      rw [List.drop_eq_getElem_cons hlt2, (List.getElem?_eq_some_iff.1 hc).2]
    have q1 : ((acc.map fun c : UInt8 => (c.toNat : Int))).length < 140737488355328 := by rw [List.length_map]; omega
    have q2 : (((acc ++ [36]).map fun c : UInt8 => (c.toNat : Int))).length < 140737488355328 := by rw [List.length_map, List.length_append]; simp; omega
    have ih := fun acc' h => IH (i + 1) acc' (by omega) h
    have g1 : (i : Int) < (s.size : Int) := by omega
    have g2 : (0 : Int) ≤ (i : Int) := by omega
    have g3 : (acc ++ [36] ++ [(36 : UInt8)]).length ≤ 2 * (i + 1) := by simp; omega
    have g4 : (acc ++ [c]).length ≤ 2 * (i + 1) := by simp; omega
    have hw := wrap_one i (by omega)
    refine Ev.step (fun _ => rfl) (ev_pos g1 (ev_pos g2 ?_))
    rw [hb, hw, hdr, escL_cons]
    by_cases h36 : c = 36
    · subst h36
      refine ev_pos rfl (ev_pos q1 ?_)
      rw [show (36 : Int) = (((36 : UInt8).toNat : Nat) : Int) from rfl, esc_num]
      refine ev_const rfl (ev_pos q2 ?_)
      rw [esc_num]
      have := ih (acc ++ [36] ++ [36]) g3
      rw [show acc ++ [36] ++ [36] ++ escL ((L s).drop (i + 1)) = acc ++ ((if (36 : UInt8) = 36 then [36, 36] else [36]) ++ escL ((L s).drop (i + 1))) by simp] at this
      exact this
    · have hn : ¬ (c.toNat : Int) = 36 := fun h => h36 (u8_eq.1 (Int.ofNat.inj h))
      refine ev_neg hn (ev_pos q1 ?_)
      rw [esc_num]
      have := ih (acc ++ [c]) g4
      rw [show acc ++ [c] ++ escL ((L s).drop (i + 1)) = acc ++ ((if c = 36 then [36, 36] else [c]) ++ escL ((L s).drop (i + 1))) by rw [if_neg h36]; simp] at this
      exact this
theorem resc_ev (s : ByteArray) (hs : s.size ≤ 1048576) : Ev (fun k => smithyref06_Escape.f k s) (B (escL (L s))) := by
  have := resc_loop s hs s.size 0 [] (by omega) (by simp)
  rw [List.drop_zero, List.nil_append] at this
  exact this
theorem refsV_len (s : ByteArray) (hs : s.size ≤ 1048576) : (refsV s).1.length ≤ 4611686018427387904 := by
  have h : ∀ (d : Nat) (l : List UInt8), l.length ≤ d → (NM l).1.length ≤ l.length := by
    intro d
    induction d with
    | zero =>
      intro l h
      obtain rfl := List.eq_nil_of_length_eq_zero (by omega : l.length = 0)
      rw [NM_none [] (by simp)]; exact Nat.le_refl _
    | succ d ih =>
      intro l h
      rw [NM_eq]
      by_cases c1 : l.drop (aheadB 36 l).length = []
      · rw [if_pos c1]; exact Nat.zero_le _
      rw [if_neg c1]
      by_cases c2 : (rdX (l.drop (aheadB 36 l).length)).2 = false
      · rw [if_pos c2]; exact Nat.zero_le _
      rw [if_neg c2]
      have h1 := left_lt l c1 (by simpa using c2)
      have h2 := ih _ (by omega : ((l.drop (aheadB 36 l).length).drop (rdX (l.drop (aheadB 36 l).length)).1.size).length ≤ d)
      rw [List.length_append]
      have h3 : (if (rdX (l.drop (aheadB 36 l).length)).1.name = [36] then ([] : List (List UInt8)) else [(rdX (l.drop (aheadB 36 l).length)).1.name]).length ≤ 1 := by split <;> simp
      omega
  unfold refsV
  split
  · split
    · have := h _ (L s) (Nat.le_refl _)
      rw [← size_L] at this
      rw [List.length_map]
      omega
    · exact Nat.zero_le _
  · exact Nat.zero_le _
/-- What Plain tells. -/
def plainV (s : ByteArray) : Bool × Int := if (refsV s).2 = 0 then (!((L s).contains 36), 0) else (false, (refsV s).2)
theorem Plain_ev (s : ByteArray) : Ev (fun k => expand_Plain.f k s) (plainV s) := by
  unfold expand_Plain.f plainV
  refine Ev.bind (Refs_ev s) (ev_ite (fun _ => ?_) (fun _ => Ev.now _))
  exact ev_const (cont_eq s 36) (Ev.now _)
theorem rPlain_ev (s : ByteArray) (hs : s.size ≤ 1048576) : Ev (fun k => smithyref06_Plain.f k s) (plainV s) := by
  unfold smithyref06_Plain.f plainV
  refine Ev.bind (rRefs_ev s) (ev_ite (fun h => ?_) (fun _ => Ev.now _))
  refine Ev.bind (rfind_ev s 36 (by omega)) (ev_some ?_)
  rw [h]
  by_cases hc : (L s).contains 36 = true
  · rw [if_pos hc, hc, decide_eq_false (by omega)]; rfl
  · rw [if_neg hc]
    simp only [Bool.not_eq_true] at hc
    rw [hc]; rfl
theorem ExpandRefs (a0 : ByteArray) (hB : a0.size + 1 ≤ 1048576) : ∃ k, smithylaw06_ExpandRefs.f k a0 = some true := by
  have hE : expand_Escape.f a0 = some (B (escL (L a0))) := by unfold expand_Escape.f; rw [if_pos (by omega)]
  refine Ev.rounds (r := true) ?_
  refine Ev.bind (Refs_ev a0) (Ev.bind (rRefs_ev a0) (Ev.bind (Plain_ev a0) (Ev.bind (rPlain_ev a0 (by omega)) ?_)))
  refine Ev.bind (texts_ev (refsV a0).1 (refsV a0).1 (refsV_len a0 (by omega))) ?_
  refine ev_pos (by simp) (ev_pos rfl (ev_pos (by simp) (ev_pos rfl ?_)))
  refine ev_const hE (Ev.bind (resc_ev a0 (by omega)) ?_)
  exact ev_pos rfl (Ev.bind speaks_ev (Ev.now _))
end Go.Proofs.YtadfbbjplgbakaaDoor.Pure
