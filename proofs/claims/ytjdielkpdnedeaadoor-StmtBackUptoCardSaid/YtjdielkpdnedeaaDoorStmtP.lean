/- What Parse and Print come to: the program's and the reference's tell the same. -/
import Derived.Test.YtjdielkpdnedeaaDoorFindP
import Derived.Test.YtjdielkpdnedeaaDoorTrimP
import Derived.Test.YtjdielkpdnedeaaDoorPXx2
import Derived.Test.YtjdielkpdnedeaaDoorPXx3
import Derived.Test.YtjdielkpdnedeaaDoorPXx4
import Derived.Test.YtjdielkpdnedeaaDoorPXx6
namespace Go.Proofs.YtjdielkpdnedeaaDoor.Plain
open Go.RowKit Go.Proofs.YtjdielkpdnedeaaDoorW.PrintWords Go.Proofs.YtjdielkpdnedeaaDoor.PX

/-- A statement's seven parts, and a number of a fault. -/
abbrev St : Type := Int × ByteArray × ByteArray × ByteArray × ByteArray × ByteArray × Bool
abbrev Sn : Type := Int × ByteArray × ByteArray × ByteArray × ByteArray × ByteArray × Bool × Int
abbrev em : ByteArray := ⟨#[]⟩
def bad (e : Int) : Sn := (0, em, em, em, em, em, false, e)
def well (s : St) : Sn := (s.1, s.2.1, s.2.2.1, s.2.2.2.1, s.2.2.2.2.1, s.2.2.2.2.2.1, s.2.2.2.2.2.2, 0)
theorem find_ex (T S : ByteArray) (hT : T.size ≤ 4611686018427387904) (hS : S.size ≤ 4611686018427387904) : ∃ r : Int, Ev (fun k => stmt_Find.f k T S) r ∧ Ev (fun k => smithyref07_Find.f k T S) r ∧ -1 ≤ r ∧ r < (T.size : Int) ∧ (0 ≤ r → ∃ b, (L T)[r.toNat]? = some b ∧ b ∈ L S) := by
  obtain ⟨r, ⟨h1, h2⟩, h3, h4, h5⟩ := finds_ex T S hT hS _ 0 rfl
  exact ⟨r, h1, h2, h3, h4, h5⟩
theorem ext_size (s : ByteArray) (a b : Nat) : (s.extract a b).size ≤ s.size := by rw [ByteArray.size_extract]; omega

/-- No part is longer than n. -/
def Fits (n : Nat) (s : St) : Prop := s.2.1.size ≤ n ∧ s.2.2.1.size ≤ n ∧ s.2.2.2.1.size ≤ n ∧ s.2.2.2.2.1.size ≤ n ∧ s.2.2.2.2.2.1.size ≤ n
def parts (s : Sn) : St := (s.1, s.2.1, s.2.2.1, s.2.2.2.1, s.2.2.2.2.1, s.2.2.2.2.2.1, s.2.2.2.2.2.2.1)
theorem trimB_size (s : ByteArray) : (B (trimL (L s))).size ≤ s.size := by
  rw [size_L, L_B, size_L]
  unfold trimL
  have h1 := end_len (frontL (L s)); have h2 := front_len (L s)
  omega
theorem frontB_size (s : ByteArray) : (B (frontL (L s))).size ≤ s.size := by
  rw [size_L, L_B, size_L]
  exact front_len (L s)
theorem bad_fits (n : Nat) (e : Int) : Fits n (parts (bad e)) := ⟨Nat.zero_le _, Nat.zero_le _, Nat.zero_le _, Nat.zero_le _, Nat.zero_le _⟩

/-- A rule. -/
theorem rule_ex (T : ByteArray) (i : Nat) (hT : T.size ≤ 4611686018427387904) (hi : i < T.size) (z : Bool) (hz : z = false) : ∃ s : St, Fits T.size s ∧ Ev (fun k => stmt_rule.f k T (i : Int)) s ∧ Ev (fun k => smithyref07_Parse.j0 k T (i : Int) z) (well s) := by
  have w1 : wrap64 ((i : Int) + 1) = ((i + 1 : Nat) : Int) := wrap_s (n := 1) (by omega) (by omega)
  obtain ⟨R, hR⟩ : ∃ R, T.extract (((i + 1 : Nat) : Int)).toNat T.size = R := ⟨_, rfl⟩
  have hRs : R.size ≤ T.size := hR ▸ ext_size _ _ _
  obtain ⟨A, hA⟩ : ∃ A, T.extract 0 ((i : Int)).toNat = A := ⟨_, rfl⟩
  have hAs : A.size ≤ T.size := hA ▸ ext_size _ _ _
  obtain ⟨r, f1, f2, h1, h2, h3⟩ := find_ex R ⟨#[59]⟩ (by omega) (by decide)
  have hzn : ¬ z = true := by rw [hz]; decide
  by_cases hr : 0 ≤ r
  · obtain ⟨j, rfl⟩ : ∃ j : Nat, r = (j : Int) := ⟨r.toNat, by omega⟩
    have w2 : wrap64 ((j : Int) + 1) = ((j + 1 : Nat) : Int) := wrap_s (n := 1) (by omega) (by omega)
    obtain ⟨X, hX⟩ : ∃ X, R.extract (((j + 1 : Nat) : Int)).toNat R.size = X := ⟨_, rfl⟩
    have hXs : X.size ≤ R.size := hX ▸ ext_size _ _ _
    obtain ⟨Y, hY⟩ : ∃ Y, R.extract 0 ((j : Int)).toNat = Y := ⟨_, rfl⟩
    have hYs : Y.size ≤ R.size := hY ▸ ext_size _ _ _
    have tA := trimB_size A; have tY := trimB_size Y; have tX := frontB_size X
    refine ⟨(3, em, em, B (trimL (L A)), B (trimL (L Y)), B (frontL (L X)), true), ⟨Nat.zero_le _, Nat.zero_le _, by show (B (trimL (L A))).size ≤ _; omega, by show (B (trimL (L Y))).size ≤ _; omega, by show (B (frontL (L X))).size ≤ _; omega⟩, ?_, ?_⟩
    · unfold stmt_rule.f
      rw [w1, hR, hA]
      refine ev_pos (by omega) (ev_pos (by omega) (ev_const (trim_some A (by omega)) (ev_pos (by omega) (ev_pos (by omega) (Ev.bind f1 (ev_pos hr ?_))))))
      rw [w2, hX, hY]
      exact ev_pos (by omega) (ev_pos (by omega) (ev_const (left_some X (by omega)) (ev_pos (by omega) (ev_pos (by omega) (ev_const (trim_some Y (by omega)) (ev_some rfl))))))
    · refine Ev.step (fun _ => rfl) (ev_neg hzn (ev_pos (by omega) (ev_pos (by omega) (ev_pos (by omega) ?_))))
      rw [w1, hR, hA]
      refine Ev.bind (rtrim_ev A (by omega)) (ev_pos (by omega) (ev_pos (by omega) (Ev.bind f2 (ev_pos hr ?_))))
      rw [w2, hX, hY]
      exact ev_pos (by omega) (ev_pos (by omega) (Ev.bind (front_ev _ X rfl (by omega)) (ev_pos (by omega) (ev_pos (by omega) (Ev.bind (rtrim_ev Y (by omega)) (ev_some rfl))))))
  · have tA := trimB_size A; have tR := trimB_size R
    refine ⟨(3, em, em, B (trimL (L A)), B (trimL (L R)), em, false), ⟨Nat.zero_le _, Nat.zero_le _, by show (B (trimL (L A))).size ≤ _; omega, by show (B (trimL (L R))).size ≤ _; omega, Nat.zero_le _⟩, ?_, ?_⟩
    · unfold stmt_rule.f
      rw [w1, hR, hA]
      exact ev_pos (by omega) (ev_pos (by omega) (ev_const (trim_some A (by omega)) (ev_pos (by omega) (ev_pos (by omega) (Ev.bind f1 (ev_neg hr (ev_const (trim_some R (by omega)) (ev_some rfl))))))))
    · refine Ev.step (fun _ => rfl) (ev_neg hzn (ev_pos (by omega) (ev_pos (by omega) (ev_pos (by omega) ?_))))
      rw [w1, hR, hA]
      exact Ev.bind (rtrim_ev A (by omega)) (ev_pos (by omega) (ev_pos (by omega) (Ev.bind f2 (ev_neg hr (Ev.bind (rtrim_ev R (by omega)) (ev_some rfl))))))

/-- A macro. -/
theorem macro_ex (T : ByteArray) (i : Nat) (hT : T.size ≤ 4611686018427387904) (hi : i < T.size) (z : Bool) (hz : z = true) : ∃ s : Sn, Fits T.size (parts s) ∧ (s.2.2.2.2.2.2.2 = 0 ∨ s = bad 70) ∧ Ev (fun k => stmt_Parse.j0 k T (i : Int) z) s ∧ Ev (fun k => smithyref07_Parse.j0 k T (i : Int) z) s := by
  have w1 : wrap64 ((i : Int) + 1) = ((i + 1 : Nat) : Int) := wrap_s (n := 1) (by omega) (by omega)
  obtain ⟨R, hR⟩ : ∃ R, T.extract (((i + 1 : Nat) : Int)).toNat T.size = R := ⟨_, rfl⟩
  have hRs : R.size ≤ T.size := hR ▸ ext_size _ _ _
  obtain ⟨A, hA⟩ : ∃ A, T.extract 0 ((i : Int)).toNat = A := ⟨_, rfl⟩
  have hAs : A.size ≤ T.size := hA ▸ ext_size _ _ _
  by_cases hn : (B (trimL (L A))).toList = ([] : List UInt8)
  · refine ⟨bad 70, bad_fits _ _, .inr rfl, Ev.step (fun _ => rfl) (ev_pos hz (ev_pos (by omega) (ev_pos (by omega) ?_))), Ev.step (fun _ => rfl) (ev_pos hz (ev_pos (by omega) (ev_pos (by omega) ?_)))⟩
    · rw [w1, hR, hA]
      exact ev_const (trim_some A (by omega)) (ev_pos (by omega) (ev_pos (by omega) (ev_const (trim_some R (by omega)) (ev_pos hn (ev_some rfl)))))
    · rw [w1, hR, hA]
      exact Ev.bind (rtrim_ev A (by omega)) (ev_pos (by omega) (ev_pos (by omega) (Ev.bind (rtrim_ev R (by omega)) (ev_pos hn (ev_some rfl)))))
  · have tA := trimB_size A; have tR := trimB_size R
    refine ⟨(1, B (trimL (L A)), B (trimL (L R)), em, em, em, false, 0), ⟨by show (B (trimL (L A))).size ≤ _; omega, by show (B (trimL (L R))).size ≤ _; omega, Nat.zero_le _, Nat.zero_le _, Nat.zero_le _⟩, .inl rfl, Ev.step (fun _ => rfl) (ev_pos hz (ev_pos (by omega) (ev_pos (by omega) ?_))), Ev.step (fun _ => rfl) (ev_pos hz (ev_pos (by omega) (ev_pos (by omega) ?_)))⟩
    · rw [w1, hR, hA]
      exact ev_const (trim_some A (by omega)) (ev_pos (by omega) (ev_pos (by omega) (ev_const (trim_some R (by omega)) (ev_neg hn (ev_some rfl)))))
    · rw [w1, hR, hA]
      exact Ev.bind (rtrim_ev A (by omega)) (ev_pos (by omega) (ev_pos (by omega) (Ev.bind (rtrim_ev R (by omega)) (ev_neg hn (ev_some rfl)))))

/-- An include, or none. -/
theorem incl_bad (T : ByteArray) (z : Bool) (hz : z = true) : Ev (fun k => stmt_Parse.j1 k T z) (bad 70) ∧ Ev (fun k => smithyref07_Parse.j1 k T z) (bad 70) :=
  ⟨Ev.step (fun _ => rfl) (ev_pos hz (ev_some rfl)), Ev.step (fun _ => rfl) (ev_pos hz (ev_some rfl))⟩
theorem incl_ex (T : ByteArray) (hT : T.size ≤ 4294967296) (r : Int) (hr : r < 0) (z : Bool) (hz : z = false) : ∃ s : Sn, Fits T.size (parts s) ∧ (s.2.2.2.2.2.2.2 = 0 ∨ s = bad 70) ∧ Ev (fun k => stmt_Parse.j0 k T r z) s ∧ Ev (fun k => smithyref07_Parse.j0 k T r z) s := by
  have hzn : ¬ z = true := by rw [hz]; decide
  have go : ∀ {s : Sn}, Ev (fun k => if ((((words (L T)).map B).length : Nat) : Int) < 2 then (stmt_Parse.j1 k T true) else (if 0 < ((((words (L T)).map B).length : Nat) : Int) then (stmt_Parse.j1 k T ((rdOf ByteArray.empty ((words (L T)).map B) 0).toList != ([105, 110, 99, 108, 117, 100, 101] : List UInt8))) else (none))) s →
      Ev (fun k => if ((((words (L T)).map B).length : Nat) : Int) < 2 then (smithyref07_Parse.j1 k T true) else (if 0 < ((((words (L T)).map B).length : Nat) : Int) then (smithyref07_Parse.j1 k T ((rdOf ByteArray.empty ((words (L T)).map B) 0).toList != ([105, 110, 99, 108, 117, 100, 101] : List UInt8))) else (none))) s →
      Ev (fun k => stmt_Parse.j0 k T r z) s ∧ Ev (fun k => smithyref07_Parse.j0 k T r z) s := fun h1 h2 =>
    ⟨Ev.step (fun _ => rfl) (ev_neg hzn (ev_neg (by omega) (ev_const (words_some T hT) h1))), Ev.step (fun _ => rfl) (ev_neg hzn (ev_neg (by omega) (Ev.bind (rwords_ev T (by omega)) h2)))⟩
  by_cases hl : ((((words (L T)).map B).length : Nat) : Int) < 2
  · exact ⟨bad 70, bad_fits _ _, .inr rfl, go (ev_pos hl (incl_bad T true rfl).1) (ev_pos hl (incl_bad T true rfl).2)⟩
  · obtain ⟨w, ws, hw⟩ : ∃ w ws, words (L T) = w :: ws := by
      cases h : words (L T) with
      | nil => rw [h] at hl; exact absurd (by decide) hl
      | cons w ws => exact ⟨w, ws, rfl⟩
    have e0 : rdOf ByteArray.empty ((words (L T)).map B) 0 = B w := by
      rw [hw]
      exact rdOf_at (i := 0) rfl
    by_cases hi : w = [105, 110, 99, 108, 117, 100, 101]
    · have hroom := trim_room hw
      rw [hi] at hroom
      have hroom' : 7 ≤ (trimL (L T)).length := hroom
      have hsz : (B (trimL (L T))).size = (trimL (L T)).length := by rw [size_L, L_B]
      have hle : (trimL (L T)).length ≤ (L T).length := by
        unfold trimL
        have h1 := end_len (frontL (L T)); have h2 := front_len (L T)
        omega
      have hst := size_L T
      have hX := ext_size (B (trimL (L T))) 7 (B (trimL (L T))).size
      have hzz : ((B w).toList != ([105, 110, 99, 108, 117, 100, 101] : List UInt8)) = false := by
        rw [toList_L, L_B, hi]; rfl
      have j : ∀ z' : Bool, z' = false → Ev (fun k => stmt_Parse.j1 k T z') (2, em, em, em, B (trimL (L ((B (trimL (L T))).extract 7 (B (trimL (L T))).size))), em, false, 0) ∧ Ev (fun k => smithyref07_Parse.j1 k T z') (2, em, em, em, B (trimL (L ((B (trimL (L T))).extract 7 (B (trimL (L T))).size))), em, false, 0) := by
        intro z' hz'
        have hzn' : ¬ z' = true := by rw [hz']; decide
        exact ⟨Ev.step (fun _ => rfl) (ev_neg hzn' (ev_const (trim_some T (by omega)) (ev_pos (by omega) (ev_const (trim_some _ (by omega)) (ev_some rfl))))), Ev.step (fun _ => rfl) (ev_neg hzn' (Ev.bind (rtrim_ev T (by omega)) (ev_pos (by omega) (Ev.bind (rtrim_ev _ (by omega)) (ev_some rfl)))))⟩
      have tX := trimB_size ((B (trimL (L T))).extract 7 (B (trimL (L T))).size)
      refine ⟨(2, em, em, em, B (trimL (L ((B (trimL (L T))).extract 7 (B (trimL (L T))).size))), em, false, 0), ⟨Nat.zero_le _, Nat.zero_le _, Nat.zero_le _, by show (B (trimL (L ((B (trimL (L T))).extract 7 (B (trimL (L T))).size)))).size ≤ _; omega, Nat.zero_le _⟩, .inl rfl, go (ev_neg hl (ev_pos (by omega) ?_)) (ev_neg hl (ev_pos (by omega) ?_))⟩
      · rw [e0]; exact (j _ hzz).1
      · rw [e0]; exact (j _ hzz).2
    · have hzz : ((B w).toList != ([105, 110, 99, 108, 117, 100, 101] : List UInt8)) = true := by
        rw [toList_L, L_B]; exact bne_iff_ne.2 hi
      refine ⟨bad 70, bad_fits _ _, .inr rfl, go (ev_neg hl (ev_pos (by omega) ?_)) (ev_neg hl (ev_pos (by omega) ?_))⟩
      · rw [e0]; exact (incl_bad T _ hzz).1
      · rw [e0]; exact (incl_bad T _ hzz).2

/-- PARSE: the two tell the same. -/
theorem parse_ex (T : ByteArray) (hT : T.size ≤ 4611686018427387904) : ∃ s : Sn, Fits T.size (parts s) ∧ (s.2.2.2.2.2.2.2 = 0 ∨ ∃ e, e ≠ 0 ∧ s = bad e) ∧ Ev (fun k => stmt_Parse.f k T) s ∧ Ev (fun k => smithyref07_Parse.f k T) s := by
  have wk : ∀ {s : Sn}, (s.2.2.2.2.2.2.2 = 0 ∨ s = bad 70) → (s.2.2.2.2.2.2.2 = 0 ∨ ∃ e, e ≠ 0 ∧ s = bad e) := fun h => h.imp id (fun h => ⟨70, by decide, h⟩)
  by_cases hlong : (T.size : Int) > 65536
  · exact ⟨bad 2, bad_fits _ _, .inr ⟨2, by decide, rfl⟩, ev_pos hlong (ev_some rfl), ev_pos hlong (ev_some rfl)⟩
  · obtain ⟨r, f1, f2, h1, h2, h3⟩ := find_ex T ⟨#[61, 58]⟩ hT (by decide)
    by_cases hr : 0 ≤ r
    · obtain ⟨i, rfl⟩ : ∃ i : Nat, r = (i : Int) := ⟨r.toNat, by omega⟩
      obtain ⟨z, hz⟩ : ∃ z, (bt T (i : Int) == 61) = z := ⟨_, rfl⟩
      have up : ∀ {s : Sn}, Ev (fun k => stmt_Parse.j0 k T (i : Int) z) s → Ev (fun k => smithyref07_Parse.j0 k T (i : Int) z) s → Ev (fun k => stmt_Parse.f k T) s ∧ Ev (fun k => smithyref07_Parse.f k T) s := by
        intro s e1 e2
        rw [← hz] at e1 e2
        exact ⟨ev_neg hlong (Ev.bind f1 (ev_pos hr (ev_pos hr (ev_pos h2 e1)))), ev_neg hlong (Ev.bind f2 (ev_pos hr (ev_pos hr (ev_pos h2 e2))))⟩
      cases hzc : z with
      | true =>
        obtain ⟨s, hf, hs, e1, e2⟩ := macro_ex T i hT (by omega) z hzc
        exact ⟨s, hf, wk hs, up e1 e2⟩
      | false =>
        obtain ⟨s, hf, e1, e2⟩ := rule_ex T i hT (by omega) z hzc
        have hzn : ¬ z = true := by rw [hzc]; decide
        exact ⟨well s, hf, .inl rfl, up (Ev.step (fun _ => rfl) (ev_neg hzn (ev_pos hr (Ev.bind e1 (ev_some rfl))))) e2⟩
    · obtain ⟨s, hf, hs, e1, e2⟩ := incl_ex T (by omega) r (by omega) false rfl
      exact ⟨s, hf, wk hs, ev_neg hlong (Ev.bind f1 (ev_neg hr e1)), ev_neg hlong (Ev.bind f2 (ev_neg hr e2))⟩
end Go.Proofs.YtjdielkpdnedeaaDoor.Plain
