/- For every makefile: what its lines are printed as says the same lines again, unless one ends with a backslash. -/
import Derived.Test.YtoclolaljaiogaaDoorLineT
import Derived.Test.YtoclolaljaiogaaDoorPXx0
import Derived.Test.YtoclolaljaiogaaDoorPXx4
import Derived.Test.YtoclolaljaiogaaDoorPXx10
import Derived.Test.YtoclolaljaiogaaDoorPXx11
set_option linter.unusedVariables false
set_option linter.unusedSimpArgs false
namespace Go.Proofs.YtoclolaljaiogaaDoor.Pure
open Go.RowKit Go.Proofs.YtoclolaljaiogaaDoor.PX Go.Proofs.YtoclolaljaiogaaDoorW.PrintWords Go.Proofs.YtoclolaljaiogaaDoor.Plain

theorem rd_at37 {l : List S37} {i : Nat} {x : S37} (h : l[i]? = some x) : rd_T37 l (i : Int) = x := by
  unfold rd_T37
  rw [Int.toNat_natCast, List.getD_eq_getElem?_getD, h]; rfl
theorem emit_size {no : Nat} {rc : Bool} {t : List UInt8} {x : Ln} (h : x ∈ emit no rc t) : x.2.2.length ≤ t.length := by
  unfold emit at h
  split at h
  · simp at h
  · rw [List.mem_singleton.1 h]
    show (txt rc t).length ≤ _
    unfold txt
    split
    · exact trim_len _
    · unfold stripL
      exact Nat.le_trans (trim_len _) (tw_len _ _)
theorem step_size : ∀ (ls : List (List UInt8)) (no0 : Nat) (rc : Bool) (acc cur : List UInt8) (no : Nat), ∀ x ∈ Plain.step no0 rc acc cur no ls, x.2.2.length ≤ acc.length + cur.length + (ls.map List.length).sum + ls.length
  | [], no0, rc, acc, cur, no, x, hx => by
    have := emit_size hx
    rw [List.length_append] at this
    simp; omega
  | y :: ys, no0, rc, acc, cur, no, x, hx => by
    rw [Plain.step] at hx
    rw [List.map_cons, List.sum_cons, List.length_cons]
    split at hx
    · have := step_size ys no0 rc (acc ++ cutc cur ++ [32]) (frontL y) (no + 1) x hx
      have h1 := cutc_len cur; have h2 := front_len y
      simp only [List.length_append, List.length_cons, List.length_nil] at this
      omega
    · rcases List.mem_append.1 hx with hx | hx
      · have := emit_size hx
        rw [List.length_append] at this
        omega
      · have := step_size ys (no + 1) (recL y) [] y (no + 1) x hx
        simp only [List.length_nil] at this
        omega
theorem logic_size (ls : List (List UInt8)) : ∀ x ∈ logicL ls, x.2.2.length ≤ (ls.map List.length).sum + ls.length := by
  cases ls with
  | nil => simp [logicL]
  | cons y ys =>
    intro x hx
    have := step_size ys 1 (recL y) [] y 1 x hx
    rw [List.map_cons, List.sum_cons, List.length_cons]
    simp only [List.length_nil] at this
    omega
/-- The last loop: text by text, flag by flag. -/
theorem again_cmp (ll : List Ln) (n : ByteArray) (hl : ll.length ≤ 65536) : ∀ (d i : Nat), i + d = ll.length → Ev (fun k => smithylaw04_LinesAgain.l1 k (ll.map (mkS n)) ((numL 1 (ll.map (·.2))).map (mkS n)) (i : Int)) true
  | 0, i, hi => Ev.step (fun _ => rfl) (ev_neg (by rw [List.length_map, numL_len, List.length_map]; omega) (Ev.bind small_ev (ev_some rfl)))
  | d + 1, i, hi => by
    obtain ⟨x, hx⟩ : ∃ x, ll[i]? = some x := ⟨_, List.getElem?_eq_getElem (by omega)⟩
    have h1 : rd_T37 (ll.map (mkS n)) (i : Int) = mkS n x := rd_at37 (by rw [List.getElem?_map, hx]; rfl)
    have h2 : rd_T37 ((numL 1 (ll.map (·.2))).map (mkS n)) (i : Int) = mkS n (1 + i, x.2.1, x.2.2) := rd_at37 (by rw [List.getElem?_map, numL_get (ll.map (·.2)) 1 i x.2 (by rw [List.getElem?_map, hx]; rfl)]; rfl)
    refine Ev.step (fun _ => rfl) (ev_pos (by rw [List.length_map, numL_len, List.length_map]; omega) (ev_pos (by omega) (ev_pos (by rw [List.length_map]; omega) ?_)))
    rw [h1, h2]
    refine ev_pos rfl (ev_neg (by simp [mkS]) ?_)
    rw [wrap_1 (by omega)]
    exact again_cmp ll n hl d (i + 1) (by omega)
theorem print_not : ∀ (xs : List S37) (acc : List UInt8), (∀ x ∈ xs, x.f3.size ≤ 262144) → (∀ x ∈ xs, Plain.Good (rt x).1 (rt x).2) → ¬ Ev (fun k => lines_Print.l0 k xs acc) ((⟨#[]⟩ : ByteArray), (8 : Int))
  | [], acc, _, _, h => by
    have := ev_uniq h (Ev.congr (f := fun _ => some (⟨acc.toArray⟩, (0 : Int))) (fun k => by rw [lines_Print.l0]) (ev_some rfl))
    simp at this
  | x :: xs, acc, hm, hg, h => by
    obtain ⟨b, hb, hbg⟩ := printable_ex x.f0 x.f1 x.f2 x.f3 (by have := hm x List.mem_cons_self; omega)
    have hbt := hbg.2 (hg x List.mem_cons_self)
    subst hbt
    refine print_not xs (acc ++ lines_Print.line x) (fun y hy => hm y (List.mem_cons_of_mem _ hy)) (fun y hy => hg y (List.mem_cons_of_mem _ hy)) ?_
    obtain ⟨K, hK⟩ := h
    obtain ⟨M, hM⟩ := hb
    refine ⟨max K M, fun k hk => ?_⟩
    have h1 : lines_Print.l0 k (x :: xs) acc = some ((⟨#[]⟩ : ByteArray), (8 : Int)) := hK k (by omega)
    have h2 : lines_printable.f k x.f0 x.f1 x.f2 x.f3 = some true := hM k (by omega)
    rw [lines_Print.l0, h2] at h1
    simp only [Option.bind_some, if_true] at h1
    split at h1
    · exact h1
    · cases h1
theorem text_len : ∀ l : List Ln, (∀ x ∈ l, x.2.2.length ≤ 262144) → (textL (l.map (·.2))).length ≤ l.length * 262146
  | [], _ => by simp [textL]
  | x :: l, h => by
    have h1 := text_len l (fun y hy => h y (List.mem_cons_of_mem _ hy)); have h2 := h x List.mem_cons_self
    show ((lineL x.2.1 x.2.2 ++ ([10] : List UInt8)) ++ textL (l.map (·.2))).length ≤ _
    have h3 : (lineL x.2.1 x.2.2).length ≤ x.2.2.length + 1 := by unfold lineL; split <;> simp
    simp only [List.length_append, List.length_cons, List.length_nil]; omega
theorem again_end (n t : ByteArray) (ll : List Ln) (hl : ll.length ≤ 65536) (hfine : ∀ x ∈ ll, Fine x ∧ 1 ≤ x.1 ∧ (∀ b ∈ x.2.2, badb b = false ∧ b ≠ 10) ∧ x.2.2.length ≤ 262144 ∧ x.1 ≤ 65536)
    (hsp : ∀ u : ByteArray, u.size ≤ 4611686018427387904 → Ev (fun k => lines_Split.f k n u) (splitL n u true)) (i : Nat) (hi : i + 0 = ll.length) (hp : ∀ j, j < i → ∀ x, ll[j]? = some x → x.2.2.getLast? ≠ some 92) :
    Ev (fun k => smithylaw04_LinesAgain.l0 k (i : Int) (ll.map (mkS n)) n t) true := by
    have hgood : ∀ x ∈ ll, Plain.Good x.2.1 x.2.2 := fun x hx => by
      obtain ⟨⟨f1, f2, f3⟩, _, f5, _⟩ := hfine x hx
      obtain ⟨j, hj⟩ := List.mem_iff_getElem?.1 hx
      exact ⟨f1, f2, hp j (by have := (List.getElem?_eq_some_iff.1 hj).1; omega) x hj, fun b hb _ => (f5 b hb).1, fun hm => (f5 10 hm).2 rfl, f3⟩
    have er : (ll.map (mkS n)).map rt = ll.map (·.2) := by
      rw [List.map_map]; exact List.map_congr_left (fun x _ => rfl)
    have hM : ∀ x ∈ ll.map (mkS n), x.f3.size ≤ 262144 := fun x hx => by
      obtain ⟨y, hy, rfl⟩ := List.mem_map.1 hx
      show (B y.2.2).size ≤ _
      rw [size_B]; exact (hfine y hy).2.2.2.1
    have hpr : Ev (fun k => lines_Print.f k (ll.map (mkS n))) (B (textL (ll.map (·.2))), 0) := by
      refine ev_neg (by rw [List.length_map]; omega) ?_
      rcases print_go 262144 (ll.map (mkS n)) [] hM (by rw [List.length_map]; simp; omega) with ⟨_, h⟩ | h
      · rw [er] at h; exact h
      · exfalso
        exact print_not _ _ hM (fun x hx => by obtain ⟨y, hy, rfl⟩ := List.mem_map.1 hx; exact hgood y hy) h
    refine Ev.step (fun _ => rfl) (ev_neg (by rw [List.length_map]; omega) (Ev.bind hpr ?_))
    have hts : (textL (ll.map (·.2))).length ≤ 17180000256 := by
      have h1 := text_len ll (fun x hx => (hfine x hx).2.2.2.1)
      omega
    have hz := size_B (textL (ll.map (·.2)))
    have hsz : (B (textL (ll.map (·.2)))).size ≤ 4611686018427387904 := by rw [hz]; omega
    have hts2 := text_split n (ll.map (·.2)) (fun x hx => by obtain ⟨y, hy, rfl⟩ := List.mem_map.1 hx; exact hgood y hy)
    obtain ⟨T, hT⟩ : ∃ T, B (textL (ll.map (·.2))) = T := ⟨_, rfl⟩
    rw [hT] at hz hsz hts2 ⊢
    refine Ev.bind (hsp T hsz) ?_
    obtain ⟨S, hS⟩ : ∃ S, splitL n T true = S := ⟨_, rfl⟩
    rw [hS] at hts2 ⊢
    refine ev_pos rfl ?_
    refine ev_ite2 (fun _ => Ev.bind small_ev (ev_some rfl)) (fun hb => ?_)
    · have hb' : (textL (ll.map (·.2))).length ≤ 65536 := by
        dsimp only at hb
        omega
      rw [hts2 hb']
      skip
      refine ev_pos rfl (Ev.step (fun _ => rfl) (ev_neg ?_ ?_))
      · simp [numL_len]
      · exact again_cmp ll n hl ll.length 0 (by omega)
theorem again_go (n t : ByteArray) (nm : Bool) (ll : List Ln) (hl : ll.length ≤ 65536) (hfine : ∀ x ∈ ll, Fine x ∧ 1 ≤ x.1 ∧ (∀ b ∈ x.2.2, badb b = false ∧ b ≠ 10) ∧ x.2.2.length ≤ 262144 ∧ x.1 ≤ 65536) (hpw : ll.Pairwise (fun x y => x.1 < y.1))
    (hsp : ∀ u : ByteArray, u.size ≤ 4611686018427387904 → Ev (fun k => lines_Split.f k n u) (splitL n u true)) : ∀ (d i : Nat), i + d = ll.length → (∀ j, j < i → ∀ x, ll[j]? = some x → x.2.2.getLast? ≠ some 92) →
    Ev (fun k => smithylaw04_LinesAgain.l0 k (i : Int) (ll.map (mkS n)) n t) true
  | 0, i, hi, hp => again_end n t ll hl hfine hsp i hi hp
  | d + 1, i, hi, hp => by
    obtain ⟨x, hx⟩ : ∃ x, ll[i]? = some x := ⟨_, List.getElem?_eq_getElem (by omega)⟩
    have h1 : rd_T37 (ll.map (mkS n)) (i : Int) = mkS n x := rd_at37 (by rw [List.getElem?_map, hx]; rfl)
    obtain ⟨⟨f1, f2, f3⟩, f4, f5, f6, f7⟩ := hfine x (List.mem_of_getElem? hx)
    have hne : 0 < x.2.2.length := List.length_pos_iff.2 f1
    -- the test of the last byte, and on
    have hj : ∀ z, z = false → Ev (fun k => smithylaw04_LinesAgain.j1 k (ll.map (mkS n)) (i : Int) (B x.2.2) z n t) true := by
      intro z hzz
      have hz := size_B x.2.2
      have hw : wrap64 (((B x.2.2).size : Int) - 1) = ((x.2.2.length - 1 : Nat) : Int) := by rw [hz, wrap_id (by omega) (by omega)]; omega
      refine Ev.step (fun _ => rfl) (ev_neg (by rw [hzz]; decide) ?_)
      rw [hw]
      refine ev_pos (by omega) (ev_pos (by omega) ?_)
      obtain ⟨b, hb⟩ : ∃ b, x.2.2[x.2.2.length - 1]? = some b := ⟨_, List.getElem?_eq_getElem (by omega)⟩
      have hlast : x.2.2.getLast? = some b := by rw [List.getLast?_eq_getElem?]; exact hb
      rw [bt_at_L (s := B x.2.2) hb]
      by_cases h92 : b = 92
      · exact ev_pos (by rw [h92]; rfl) (Ev.bind small_ev (ev_some rfl))
      · refine ev_neg (fun e => h92 (u8_eq.1 (by exact_mod_cast e))) ?_
        rw [wrap_1 (by omega)]
        refine again_go n t nm ll hl hfine hpw hsp d (i + 1) (by omega) (fun j hj y hy => ?_)
        rcases Nat.lt_or_ge j i with h | h
        · exact hp j h y hy
        · obtain rfl : j = i := by omega
          rw [hx] at hy
          obtain rfl := Option.some.inj hy
          rw [hlast]
          exact fun e => h92 (by simpa using e)
    have hb2 : (((mkS n x).f0).toList != n.toList) = false := by simp [mkS]
    refine Ev.step (fun _ => rfl) (ev_pos (by rw [List.length_map]; omega) (ev_pos (by omega) ?_))
    rw [h1]
    have hn1 : ¬ ((mkS n x).f3).toList = ([] : List UInt8) := by
      show ¬ (B x.2.2).toList = []
      rw [toList_L, L_B]; exact f1
    have hn2 : ¬ ((mkS n x).f1) < 1 := by show ¬ ((x.1 : Nat) : Int) < 1; omega
    refine ev_neg hn1 (ev_neg hn2 ?_)
    by_cases hi0 : (i : Int) > 0
    · obtain ⟨y, hy⟩ : ∃ y, ll[i - 1]? = some y := ⟨_, List.getElem?_eq_getElem (by omega)⟩
      have hw : wrap64 ((i : Int) - 1) = ((i - 1 : Nat) : Int) := by rw [wrap_id (by omega) (by omega)]; omega
      have h2 : rd_T37 (ll.map (mkS n)) ((i - 1 : Nat) : Int) = mkS n y := rd_at37 (by rw [List.getElem?_map, hy]; rfl)
      have hlt : y.1 < x.1 := by
        have := List.pairwise_iff_getElem.1 hpw (i - 1) i (by omega) (by omega) (by omega)
        rw [(List.getElem?_eq_some_iff.1 hy).2, (List.getElem?_eq_some_iff.1 hx).2] at this
        exact this
      refine ev_pos hi0 ?_
      rw [hw, h2]
      refine ev_pos (by omega) (ev_pos (by rw [List.length_map]; omega) (ev_neg ?_ (hj _ hb2)))
      show ¬ ((x.1 : Nat) : Int) ≤ ((y.1 : Nat) : Int)
      omega
    · exact ev_neg hi0 (hj _ hb2)
theorem LinesAgain (a : ByteArray × ByteArray) (hB : ((a.1.size + 1) + (a.2.size + 1) + 1) ≤ 1048576) : ∃ k, smithylaw04_LinesAgain.f k a.1 a.2 = some true := by
  obtain ⟨n, t⟩ := a
  refine Ev.rounds (r := true) ?_
  dsimp only at hB ⊢
  obtain ⟨nm, hnm, q1, f1, f2⟩ := split_ev n t (by omega) (by omega)
  refine Ev.bind f1 ?_
  by_cases h : (splitL n t nm).2.1 = 0
  · refine ev_pos h ?_
    -- it is right
    have hs : nm = true ∧ t.size ≤ 65536 ∧ wrongL (phys (L t)) = 0 ∧ splitL n t nm = ((logicL (phys (L t))).map (mkS n), 0, 0) := by
      unfold splitL at h ⊢
      by_cases h1 : nm = true
      · rw [if_pos h1] at h ⊢
        by_cases h2 : 65536 < t.size
        · rw [if_pos h2] at h; exact absurd h (by decide)
        · rw [if_neg h2] at h ⊢
          by_cases h3 : wrongL (phys (L t)) = 0
          · rw [if_pos h3]; exact ⟨h1, by omega, h3, rfl⟩
          · rw [if_neg h3] at h; exact absurd (show (40 : Int) = 0 from h) (by decide)
      · rw [if_neg h1] at h; exact absurd h (by decide)
    obtain ⟨rfl, ht, hw, he⟩ := hs
    rw [he]
    have hz := size_L t
    have hpl := phys_len (L t); have hps := phys_sum (L t); have hll := logic_len (phys (L t))
    have hok : ∀ y ∈ phys (L t), ∀ b ∈ y, badb b = false ∧ b ≠ 10 := fun y hy b hb => by
      refine ⟨?_, fun e => (phys_mem hy).1 (e ▸ hb)⟩
      have := wrongL_zero.1 hw y hy
      rw [List.any_eq_false] at this
      simpa using this b hb
    obtain ⟨g1, g2⟩ := logic_fine (fun b => badb b = false ∧ b ≠ 10) ⟨by decide, by decide⟩ (phys (L t)) hok
    have hsz := logic_size (phys (L t))
    refine again_go n t true (logicL (phys (L t))) (by omega) (fun x hx => ?_) g2 (fun u hu => ?_) _ 0 (Nat.zero_add _) (fun j hj => absurd hj (by omega))
    · obtain ⟨p1, p2, p3, p4⟩ := g1 x hx
      have := hsz x hx
      exact ⟨p1, p2, p4, by omega, by omega⟩
    · obtain ⟨nm', _, q2, f3, _⟩ := split_ev n u (by omega) hu
      obtain rfl := ev_uniq q1 q2
      exact f3
  · refine ev_neg h (ev_pos ?_ (Ev.bind small_ev (ev_some rfl)))
    have : (splitL n t nm).1 = [] := by
      unfold splitL at h ⊢
      split
      · rename_i h1
        rw [if_pos h1] at h
        split
        · rfl
        · rename_i h2
          rw [if_neg h2] at h
          split
          · rename_i h3
            rw [if_pos h3] at h; exact absurd rfl h
          · rfl
      · rfl
    rw [this]; rfl
end Go.Proofs.YtoclolaljaiogaaDoor.Pure
