/- What stands within references does not count: a text in brackets behind a money sign is no end of a target. -/
import Derived.Test.YtjdielkpdnedeaaDoorStmtP
import Derived.Test.YtjdielkpdnedeaaDoorStmtSmall
import Derived.Test.YtjdielkpdnedeaaDoorPXx2
import Derived.Test.YtjdielkpdnedeaaDoorPXx3
import Derived.Test.YtjdielkpdnedeaaDoorPXx4
import Derived.Test.YtjdielkpdnedeaaDoorPXx7
namespace Go.Proofs.YtjdielkpdnedeaaDoor.Pure
open Go.RowKit Go.Proofs.YtjdielkpdnedeaaDoor.PX Go.Proofs.YtjdielkpdnedeaaDoorW.PrintWords Go.Proofs.YtjdielkpdnedeaaDoor.Plain

/-- Small letters alone. -/
def letters (l : List UInt8) : Prop := ∀ b ∈ l, 97 ≤ b.toNat ∧ b.toNat ≤ 122
theorem let_ne {b c : UInt8} (h : 97 ≤ b.toNat) (hc : c.toNat < 97) : b ≠ c := fun e => by rw [e] at h; omega
theorem let_blk {b : UInt8} (h : 97 ≤ b.toNat) : blk b = false := by
  unfold blk
  rw [beq_eq_false_iff_ne.2 (let_ne h (by decide)), beq_eq_false_iff_ne.2 (let_ne h (by decide))]; rfl
theorem front_head {a : UInt8} {t : List UInt8} (h : blk a = false) : frontL (a :: t) = a :: t := by
  unfold frontL
  rw [List.dropWhile_cons, if_neg (by rw [h]; decide)]
theorem end_last {b : UInt8} {t : List UInt8} (h : blk b = false) : endL (t ++ [b]) = t ++ [b] := by
  unfold endL
  rw [List.reverse_append, List.reverse_singleton, List.singleton_append, List.dropWhile_cons, if_neg (by rw [h]; decide)]
  simp
theorem trim_letters {l : List UInt8} (h : letters l) : trimL l = l := by
  unfold trimL
  have e : frontL l = l := by
    cases l with
    | nil => rfl
    | cons a t => exact front_head (let_blk (h a (by simp)).1)
  rw [e]
  rcases List.eq_nil_or_concat l with rfl | ⟨t, b, rfl⟩
  · rfl
  · rw [List.concat_eq_append] at h ⊢
    exact end_last (let_blk (h b (by simp)).1)
theorem finds_run {T S : ByteArray} {r : Int} (hS : S.size ≤ 4611686018427387904) (hT : T.size ≤ 4611686018427387904) : ∀ (d j : Nat), (∀ k, j ≤ k → k < j + d → ∃ b, (L T)[k]? = some b ∧ b ≠ 36 ∧ b ∉ L S) → Finds T S (j + d) r → Finds T S j r
  | 0, j, _, h => h
  | d + 1, j, hk, h => by
    obtain ⟨b, hb, h1, h2⟩ := hk j (Nat.le_refl _) (by omega)
    exact finds_on hS hT hb h1 h2 (finds_run hS hT d (j + 1) (fun k a b => hk k (by omega) (by omega)) (by rw [show j + 1 + d = j + (d + 1) by omega]; exact h))
theorem ext_tail (T : ByteArray) (n : Nat) : L (T.extract n T.size) = (L T).drop n := by
  rw [L_extract]
  exact List.take_of_length_le (by rw [List.length_drop, size_L]; exact Nat.le_refl _)
theorem drop_app {α : Type} {l a b : List α} {n : Nat} (h : l = a ++ b) (hn : a.length = n) : l.drop n = b := by
  subst h hn
  exact List.drop_left
theorem take_app {α : Type} {l a b : List α} {n : Nat} (h : l = a ++ b) (hn : a.length = n) : l.take n = a := by
  subst h hn
  exact List.take_left
theorem finds_letters {R : ByteArray} (hR : letters (L R)) (hs : R.size ≤ 4611686018427387904) : Finds R ⟨#[59]⟩ 0 (-1) := by
  have s1 : (⟨#[59]⟩ : ByteArray).size ≤ 4611686018427387904 := by decide
  have he : Finds R ⟨#[59]⟩ (0 + (L R).length) (-1) := finds_end (by rw [Nat.zero_add]; exact Nat.le_refl _)
  refine finds_run s1 hs (L R).length 0 (fun k _ h2 => ?_) he
  rw [Nat.zero_add] at h2
  have hm := hR _ (List.getElem_mem h2)
  refine ⟨(L R)[k], List.getElem?_eq_getElem h2, let_ne hm.1 (by decide), ?_⟩
  show (L R)[k] ∉ [59]
  simp only [List.mem_cons, List.not_mem_nil, or_false]
  exact let_ne hm.1 (by decide)
theorem trim_out (F I : ByteArray) (hF : letters (L F)) : trimL (L (((F ++ (⟨#[36, 40]⟩ : ByteArray)) ++ I) ++ (⟨#[41]⟩ : ByteArray))) = L (((F ++ (⟨#[36, 40]⟩ : ByteArray)) ++ I) ++ (⟨#[41]⟩ : ByteArray)) := by
  have e : L (((F ++ (⟨#[36, 40]⟩ : ByteArray)) ++ I) ++ (⟨#[41]⟩ : ByteArray)) = (L F ++ (36 :: 40 :: L I)) ++ [41] := by
    rw [L_append, L_append, L_append, show L (⟨#[36, 40]⟩ : ByteArray) = [36, 40] from rfl, show L (⟨#[41]⟩ : ByteArray) = [41] from rfl]; simp
  rw [e]
  unfold trimL
  have e1 : frontL ((L F ++ (36 :: 40 :: L I)) ++ [41]) = (L F ++ (36 :: 40 :: L I)) ++ [41] := by
    cases hf : L F with
    | nil => exact front_head rfl
    | cons a t => exact front_head (let_blk (hF a (by rw [hf]; simp)).1)
  rw [e1]
  exact end_last rfl
/-- The line. -/
def line (I F R : ByteArray) : ByteArray := (((F ++ (⟨#[36, 40]⟩ : ByteArray)) ++ I) ++ (⟨#[41, 58]⟩ : ByteArray)) ++ R
theorem line_L (I F R : ByteArray) : L (line I F R) = L F ++ (36 :: 40 :: (L I ++ (41 :: 58 :: L R))) := by
  unfold line
  rw [L_append, L_append, L_append, L_append, show L (⟨#[36, 40]⟩ : ByteArray) = [36, 40] from rfl, show L (⟨#[41, 58]⟩ : ByteArray) = [41, 58] from rfl]
  simp
theorem parse_line (I F R : ByteArray) (hI : ∀ b ∈ L I, b ≠ 41 ∧ b ≠ 36) (hF : letters (L F)) (hR : letters (L R)) (hn : I.size + F.size + R.size ≤ 60000) :
    Ev (fun k => stmt_Parse.f k (line I F R)) (3, em, em, ((F ++ (⟨#[36, 40]⟩ : ByteArray)) ++ I) ++ (⟨#[41]⟩ : ByteArray), R, em, false, 0) := by
  obtain ⟨T, hT⟩ : ∃ T, line I F R = T := ⟨_, rfl⟩
  have hL := line_L I F R
  rw [hT] at hL ⊢
  have sI := size_L I; have sF := size_L F; have sR := size_L R; have sT := size_L T
  have lT : (L T).length = (L F).length + ((L I).length + (L R).length + 4) := by rw [hL]; simp; omega
  have at_p : ∀ m, (L T)[(L F).length + m]? = (36 :: 40 :: (L I ++ (41 :: 58 :: L R)))[m]? := by
    intro m
    rw [hL, List.getElem?_append_right (by omega), show (L F).length + m - (L F).length = m by omega]
  have h36 : (L T)[(L F).length]? = some 36 := at_p 0
  have h40 : (L T)[(L F).length + 1]? = some 40 := at_p 1
  have at_q : ∀ m, (L T)[(L F).length + 2 + m]? = (L I ++ (41 :: 58 :: L R))[m]? := by
    intro m
    rw [show (L F).length + 2 + m = (L F).length + (m + 2) by omega, at_p]; rfl
  have h41 : (L T)[(L F).length + 2 + (L I).length]? = some 41 := by rw [at_q, List.getElem?_append_right (Nat.le_refl _), Nat.sub_self]; rfl
  have h58 : (L T)[(L F).length + 3 + (L I).length]? = some 58 := by
    rw [show (L F).length + 3 + (L I).length = (L F).length + 2 + ((L I).length + 1) by omega, at_q, List.getElem?_append_right (by omega), show (L I).length + 1 - (L I).length = 1 by omega]; rfl
  obtain ⟨i, hi⟩ : ∃ i, (L F).length + 3 + (L I).length = i := ⟨_, rfl⟩
  rw [hi] at h58
  have s2 : (⟨#[61, 58]⟩ : ByteArray).size ≤ 4611686018427387904 := by decide
  have s1 : (⟨#[59]⟩ : ByteArray).size ≤ 4611686018427387904 := by decide
  have f0 : Finds T ⟨#[61, 58]⟩ i (i : Int) := finds_hit s2 h58 (by decide) (by show (58 : UInt8) ∈ [61, 58]; decide)
  have f1 : Finds T ⟨#[61, 58]⟩ (L F).length (i : Int) := by
    refine finds_shut (by omega) h36 h40 (.inl ⟨rfl, rfl⟩) h41 (fun k h1 h2 e => ?_) (by rw [hi]; exact f0)
    rw [show k = (L F).length + 2 + (k - ((L F).length + 2)) by omega, at_q, List.getElem?_append_left (by omega)] at e
    exact (hI _ (List.mem_of_getElem? e)).1 rfl
  have f2 : Finds T ⟨#[61, 58]⟩ 0 (i : Int) := by
    refine finds_run s2 (by omega) (L F).length 0 (fun k _ h2 => ?_) (by rw [Nat.zero_add]; exact f1)
    have hk : k < (L F).length := by omega
    have hm := hF _ (List.getElem_mem hk)
    refine ⟨(L F)[k], by rw [hL, List.getElem?_append_left hk, List.getElem?_eq_getElem hk], let_ne hm.1 (by decide), ?_⟩
    show (L F)[k] ∉ [61, 58]
    simp only [List.mem_cons, List.not_mem_nil, or_false, not_or]
    exact ⟨let_ne hm.1 (by decide), let_ne hm.1 (by decide)⟩
  have hz : ∃ z, (bt T (i : Int) == 61) = z ∧ z = false := ⟨_, rfl, beq_eq_false_iff_ne.2 (bt_ne (c := 61) h58 (by decide))⟩
  obtain ⟨z, hz1, hz2⟩ := hz
  have hzn : ¬ z = true := by rw [hz2]; decide
  have hlt : i < (L T).length := by omega
  have hlong : ¬ (T.size : Int) > 65536 := by omega
  have bT : T.size ≤ 4611686018427387904 := by omega
  have bR : R.size ≤ 4611686018427387904 := by omega
  have hge : (i : Int) ≥ 0 := by omega
  have hge' : (0 : Int) ≤ (i : Int) := by omega
  have hlt' : (i : Int) < (T.size : Int) := by omega
  have hle' : (i : Int) ≤ (T.size : Int) := by omega
  have hj0 : (0 : Int) ≤ ((i + 1 : Nat) : Int) := by omega
  have hj1 : ((i + 1 : Nat) : Int) ≤ (T.size : Int) := by omega
  have hm1 : ¬ (-1 : Int) ≥ 0 := by omega
  have hA : (T.extract 0 ((i : Int)).toNat).size ≤ 4611686018427387904 := Nat.le_trans (ext_size T 0 _) bT
  have w1 : wrap64 ((i : Int) + 1) = ((i + 1 : Nat) : Int) := wrap_s (n := 1) (by omega) (by omega)
  have f3 : Ev (fun k => stmt_Find.f k T ⟨#[61, 58]⟩) (i : Int) := f2.1
  have g1 : Ev (fun k => stmt_Find.f k R ⟨#[59]⟩) (-1) := (finds_letters hR bR).1
  have e58 : 58 :: L R = [58] ++ L R := rfl
  have eA : T.extract 0 ((i : Int)).toNat = ((F ++ (⟨#[36, 40]⟩ : ByteArray)) ++ I) ++ (⟨#[41]⟩ : ByteArray) := by
    apply L_inj
    rw [L_extract, List.drop_zero, Int.toNat_natCast, Nat.sub_zero]
    refine take_app (b := 58 :: L R) ?_ ?_
    · rw [hL, L_append, L_append, L_append, show L (⟨#[36, 40]⟩ : ByteArray) = [36, 40] from rfl, show L (⟨#[41]⟩ : ByteArray) = [41] from rfl]
      simp
    · rw [L_append, L_append, L_append, show L (⟨#[36, 40]⟩ : ByteArray) = [36, 40] from rfl, show L (⟨#[41]⟩ : ByteArray) = [41] from rfl, ← hi]
      simp only [List.length_append, List.length_cons, List.length_nil]
      clear w1
      omega
  have eR : T.extract (((i + 1 : Nat) : Int)).toNat T.size = R := by
    apply L_inj
    rw [Int.toNat_natCast, ext_tail]
    refine drop_app (a := L F ++ [36, 40] ++ L I ++ [41, 58]) ?_ ?_
    · rw [hL]; simp
    · rw [← hi]
      simp only [List.length_append, List.length_cons, List.length_nil]
      clear w1
      omega
  have tA := trim_out F I hF
  have rl : Ev (fun k => stmt_rule.f k T (i : Int)) (3, em, em, ((F ++ (⟨#[36, 40]⟩ : ByteArray)) ++ I) ++ (⟨#[41]⟩ : ByteArray), R, em, false) := by
    unfold stmt_rule.f
    rw [w1, eR]
    refine ev_pos hge' (ev_pos hle' (ev_const (trim_some _ hA) (ev_pos hj0 (ev_pos hj1 (Ev.bind g1 (ev_neg hm1 (ev_const (trim_some R bR) (ev_some ?_))))))))
    rw [eA, tA, trim_letters hR, B_L, B_L]
  have go : Ev (fun k => stmt_Parse.j0 k T (i : Int) z) (3, em, em, ((F ++ (⟨#[36, 40]⟩ : ByteArray)) ++ I) ++ (⟨#[41]⟩ : ByteArray), R, em, false, 0) := Ev.step (fun _ => rfl) (ev_neg hzn (ev_pos hge (Ev.bind rl (ev_some rfl))))
  rw [← hz1] at go
  exact ev_neg hlong (Ev.bind f3 (ev_pos hge (ev_pos hge' (ev_pos hlt' go))))

theorem out_end (I F R : ByteArray) (hI : ∀ b ∈ L I, b ≠ 41 ∧ b ≠ 36) (hF : letters (L F)) (hR : letters (L R)) (wI : I.size ≤ 140737488351232) (wF : F.size ≤ 140737488351232) (wR : R.size ≤ 140737488351232) (xs : List ByteArray) (j : Int) (hj : j = 2) : Ev (fun k => smithylaw07_StmtOutside.l1 k I F R xs 2 j) true := by
  have e1 : wrap64 ((I.size : Int) + (F.size : Int)) = ((I.size + F.size : Nat) : Int) := by rw [wrap_id (by omega) (by omega)]; omega
  have e2 : wrap64 (((I.size + F.size : Nat) : Int) + (R.size : Int)) = ((I.size + F.size + R.size : Nat) : Int) := by rw [wrap_id (by omega) (by omega)]; omega
  refine Ev.step (fun _ => rfl) (ev_neg (by omega) ?_)
  rw [e1, e2]
  by_cases hbig : ((I.size + F.size + R.size : Nat) : Int) > 60000
  · exact ev_pos hbig (Ev.bind small_ev (ev_some rfl))
  · have z2 : (⟨#[36, 40]⟩ : ByteArray).size = 2 := rfl
    have z2' : (⟨#[41, 58]⟩ : ByteArray).size = 2 := rfl
    have b1 : (F ++ (⟨#[36, 40]⟩ : ByteArray)).size + I.size ≤ 9223372036854775807 := by simp only [ByteArray.size_append, z2]; omega
    have b2 : ((F ++ (⟨#[36, 40]⟩ : ByteArray)) ++ I).size + 2 ≤ 9223372036854775807 := by simp only [ByteArray.size_append, z2]; omega
    have b3 : (((F ++ (⟨#[36, 40]⟩ : ByteArray)) ++ I) ++ (⟨#[41, 58]⟩ : ByteArray)).size + R.size ≤ 9223372036854775807 := by simp only [ByteArray.size_append, z2, z2']; omega
    have b4 : ((F ++ (⟨#[36, 40]⟩ : ByteArray)) ++ I).size + 1 ≤ 9223372036854775807 := by omega
    have e0 : em.toList = [] := by rw [toList_L]; rfl
    exact ev_neg hbig (ev_pos (by omega) (ev_pos b1 (ev_pos b2 (ev_pos b3 (Ev.bind (parse_line I F R hI hF hR (by omega)) (ev_pos rfl (ev_pos b4 (ev_pos (by simp [e0]) (Ev.bind small_ev (ev_some rfl))))))))))
theorem out_word (I F R s : ByteArray) (xs : List ByteArray) (n i : Int) (hs : s.size ≤ 140737488351232) (hK : letters (L s) → Ev (fun k => smithylaw07_StmtOutside.l1 k I F R xs n (wrap64 (i + 1))) true) : ∀ (d j : Nat), j + d = (L s).length → (∀ k, k < j → ∀ b, (L s)[k]? = some b → 97 ≤ b.toNat ∧ b.toNat ≤ 122) →
    Ev (fun k => smithylaw07_StmtOutside.l2 k I F R s (j : Int) xs n i) true
  | 0, j, hj, hp => by
    have hsz := size_L s
    refine Ev.step (fun _ => rfl) (ev_neg (by omega) (hK ?_))
    intro b hb
    obtain ⟨k, hk⟩ := List.mem_iff_getElem?.1 hb
    exact hp k (by have := (List.getElem?_eq_some_iff.1 hk).1; omega) b hk
  | d + 1, j, hj, hp => by
    have hsz := size_L s
    obtain ⟨b, hb⟩ : ∃ b, (L s)[j]? = some b := ⟨_, List.getElem?_eq_getElem (by omega)⟩
    have hbt := bt_at_L hb
    refine Ev.step (fun _ => rfl) (ev_pos (by omega) (ev_pos (by omega) ?_))
    rw [hbt]
    refine ev_ite2 (fun h1 => ev_ite2 (fun h2 => ?_) (fun _ => Ev.bind small_ev (ev_some rfl))) (fun _ => Ev.bind small_ev (ev_some rfl))
    rw [show wrap64 ((j : Int) + 1) = ((j + 1 : Nat) : Int) from wrap_s (n := 1) (by omega) (by omega)]
    refine out_word I F R s xs n i hs hK d (j + 1) (by omega) (fun k hk c hc => ?_)
    rcases Nat.lt_or_ge k j with h | h
    · exact hp k h c hc
    · obtain rfl : k = j := by omega
      rw [hb] at hc
      obtain rfl := Option.some.inj hc
      omega
theorem out_in (I F R : ByteArray) (wI : I.size ≤ 140737488351232) (wF : F.size ≤ 140737488351232) (wR : R.size ≤ 140737488351232) : ∀ (d j : Nat), j + d = (L I).length → (∀ k, k < j → ∀ b, (L I)[k]? = some b → b ≠ 41 ∧ b ≠ 36) →
    Ev (fun k => smithylaw07_StmtOutside.l0 k I F R (j : Int)) true
  | 0, j, hj, hp => by
    have hsz := size_L I
    have hI : ∀ b ∈ L I, b ≠ 41 ∧ b ≠ 36 := by
      intro b hb
      obtain ⟨k, hk⟩ := List.mem_iff_getElem?.1 hb
      exact hp k (by have := (List.getElem?_eq_some_iff.1 hk).1; omega) b hk
    refine Ev.step (fun _ => rfl) (ev_neg (by omega) (ev_const rfl ?_))
    refine Ev.step (f := fun k => smithylaw07_StmtOutside.l2 k I F R F 0 [F, R] 2 0) (fun _ => rfl) ?_
    refine out_word I F R F [F, R] 2 0 wF (fun hF => ?_) (L F).length 0 (by omega) (fun k hk => absurd hk (by omega))
    rw [show wrap64 (0 + 1) = 1 from wrap_id (by omega) (by omega)]
    refine Ev.step (f := fun k => smithylaw07_StmtOutside.l2 k I F R R 0 [F, R] 2 1) (fun _ => rfl) ?_
    refine out_word I F R R [F, R] 2 1 wR (fun hR => ?_) (L R).length 0 (by omega) (fun k hk => absurd hk (by omega))
    exact out_end I F R hI hF hR wI wF wR [F, R] _ (wrap_id (by omega) (by omega))
  | d + 1, j, hj, hp => by
    have hsz := size_L I
    obtain ⟨b, hb⟩ : ∃ b, (L I)[j]? = some b := ⟨_, List.getElem?_eq_getElem (by omega)⟩
    refine Ev.step (fun _ => rfl) (ev_pos (by omega) (ev_pos (by omega) ?_))
    by_cases h1 : b = 41
    · exact ev_pos (bt_is hb h1) (Ev.bind small_ev (ev_some rfl))
    · refine ev_neg (bt_ne hb h1) ?_
      by_cases h2 : b = 36
      · exact ev_pos (bt_is hb h2) (Ev.bind small_ev (ev_some rfl))
      · refine ev_neg (bt_ne hb h2) ?_
        rw [show wrap64 ((j : Int) + 1) = ((j + 1 : Nat) : Int) from wrap_s (n := 1) (by omega) (by omega)]
        refine out_in I F R wI wF wR d (j + 1) (by omega) (fun k hk c hc => ?_)
        rcases Nat.lt_or_ge k j with h | h
        · exact hp k h c hc
        · obtain rfl : k = j := by omega
          rw [hb] at hc
          obtain rfl := Option.some.inj hc
          exact ⟨h1, h2⟩
theorem StmtOutside (a0 a1 a2 : ByteArray) (w0 : a0.size ≤ 140737488351232) (w1 : a1.size ≤ 140737488351232) (w2 : a2.size ≤ 140737488351232) : ∃ k, smithylaw07_StmtOutside.f k a0 a1 a2 = some true :=
  Ev.rounds (r := true) (out_in a0 a1 a2 w0 w1 w2 (L a0).length 0 (by omega) (fun k hk => absurd hk (by omega)))
end Go.Proofs.YtjdielkpdnedeaaDoor.Pure
