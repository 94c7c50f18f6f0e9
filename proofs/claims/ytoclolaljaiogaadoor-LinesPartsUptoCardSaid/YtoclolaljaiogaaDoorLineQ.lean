/- Names, wrong bytes, physical lines, lines that go on: what the printed functions come to. -/
import Derived.Test.YtoclolaljaiogaaDoorLineP
import Derived.Test.YtoclolaljaiogaaDoorPXx2
import Derived.Test.YtoclolaljaiogaaDoorPXx6
import Derived.Test.YtoclolaljaiogaaDoorPXx7
set_option linter.unusedVariables false
set_option linter.unusedSimpArgs false
namespace Go.Proofs.YtoclolaljaiogaaDoor.Plain
open Go.RowKit Go.Proofs.YtoclolaljaiogaaDoorW.PrintWords Go.Proofs.YtoclolaljaiogaaDoor.PX

/-! ### names -/
/-- A byte that may stand in a name. -/
abbrev NmB (c : Int) : Prop := (97 ≤ c ∧ c ≤ 122) ∨ (65 ≤ c ∧ c ≤ 90) ∨ (48 ≤ c ∧ c ≤ 57) ∨ c = 95 ∨ c = 45 ∨ c = 46 ∨ c = 47 ∨ c = 43
theorem nm_ix (c : Int) (h0 : 0 ≤ c) (h1 : c ≤ 255) : Lib.indexByte ([95, 45, 46, 47, 43] : List UInt8) c.toNat.toUInt8 ≥ 0 ↔ (c = 95 ∨ c = 45 ∨ c = 46 ∨ c = 47 ∨ c = 43) := by
  obtain ⟨n, rfl⟩ : ∃ n : Nat, c = n := ⟨c.toNat, by omega⟩
  have hn : n < 256 := by omega
  rw [ge_iff_le, ix_mem, Int.toNat_natCast]
  have e : ∀ m : Nat, m < 256 → (n.toUInt8 = m.toUInt8 ↔ n = m) := fun m hm => by
    rw [← UInt8.toNat_inj, Nat.toUInt8_eq, Nat.toUInt8_eq, UInt8.toNat_ofNat_of_lt' hn, UInt8.toNat_ofNat_of_lt' hm]
  simp only [List.mem_cons, List.not_mem_nil, or_false]
  have a1 := e 95 (by decide); have a2 := e 45 (by decide); have a3 := e 46 (by decide); have a4 := e 47 (by decide); have a5 := e 43 (by decide)
  have b1 : (95 : UInt8) = (95 : Nat).toUInt8 := rfl
  have b2 : (45 : UInt8) = (45 : Nat).toUInt8 := rfl
  have b3 : (46 : UInt8) = (46 : Nat).toUInt8 := rfl
  have b4 : (47 : UInt8) = (47 : Nat).toUInt8 := rfl
  have b5 : (43 : UInt8) = (43 : Nat).toUInt8 := rfl
  rw [b1, b2, b3, b4, b5, a1, a2, a3, a4, a5]
  omega
theorem named_step (k : Nat) (s : ByteArray) (n i : Int) : lines_named.l0 (k + 1) s n i = if i < n then (if 0 ≤ i then (if i < (s.size : Int) then (if NmB (bt s i) then lines_named.l0 k s n (wrap64 (i + 1)) else some false) else none) else none) else some true := by
  have hr := bt_range s i
  have hx := nm_ix (bt s i) hr.1 hr.2
  rw [lines_named.l0]
  unfold strings_IndexByte.f
  simp only [Option.bind_some]
  generalize lines_named.l0 k s n (wrap64 (i + 1)) = X
  show (if i < n then _ else _) = _
  generalize hI : (Lib.indexByte (⟨#[95, 45, 46, 47, 43]⟩ : ByteArray).data.toList (bt s i).toNat.toUInt8) = I
  have hx' : I ≥ 0 ↔ (bt s i = 95 ∨ bt s i = 45 ∨ bt s i = 46 ∨ bt s i = 47 ∨ bt s i = 43) := hI ▸ hx
  clear hx hI
  generalize bt s i = c at *
  by_cases a0 : i < n
  · rw [if_pos a0, if_pos a0]
    by_cases a1 : 0 ≤ i
    · rw [if_pos a1, if_pos a1]
      by_cases a2 : i < (s.size : Int)
      · rw [if_pos a2, if_pos a2]
        by_cases hN : NmB c
        · rw [if_pos hN]
          repeat' split
          all_goals first | rfl | (exfalso; omega)
        · rw [if_neg hN]
          repeat' split
          all_goals first | rfl | (exfalso; omega)
      · rw [if_neg a2, if_neg a2]
    · rw [if_neg a1, if_neg a1]
  · rw [if_neg a0, if_neg a0]
set_option maxHeartbeats 1000000 in
theorem rname_step (k : Nat) (s : ByteArray) (i : Int) : smithyref02_Name.l0 (k + 1) s i = if i < (s.size : Int) then (if 0 ≤ i then (if NmB (bt s i) then smithyref02_Name.l0 k s (wrap64 (i + 1)) else some false) else none) else (if (s.size : Int) > 0 then some (decide ((s.size : Int) ≤ 64)) else some false) := by
  have hr := bt_range s i
  rw [smithyref02_Name.l0]
  generalize smithyref02_Name.l0 k s (wrap64 (i + 1)) = X
  generalize bt s i = c at *
  have hT : ∀ Y : Option Bool, (if c = 95 then Y else (if c = 45 then Y else (if c = 46 then Y else (if c = 47 then Y else (if c = 43 then Y else (some false)))))) = if (c = 95 ∨ c = 45 ∨ c = 46 ∨ c = 47 ∨ c = 43) then Y else some false := by
    intro Y
    by_cases h : (c = 95 ∨ c = 45 ∨ c = 46 ∨ c = 47 ∨ c = 43)
    · rw [if_pos h]
      rcases h with rfl | rfl | rfl | rfl | rfl <;> rfl
    · rw [if_neg h, if_neg (by omega), if_neg (by omega), if_neg (by omega), if_neg (by omega), if_neg (by omega)]
  rw [hT X]
  by_cases a0 : i < (s.size : Int)
  · rw [if_pos a0, if_pos a0]
    by_cases a1 : 0 ≤ i
    · rw [if_pos a1, if_pos a1]
      by_cases hN : NmB c
      · rw [if_pos hN]
        repeat' split
        all_goals first | rfl | (exfalso; omega)
      · rw [if_neg hN]
        repeat' split
        all_goals first | rfl | (exfalso; omega)
    · rw [if_neg a1, if_neg a1]
  · rw [if_neg a0, if_neg a0]
theorem rname_go (s : ByteArray) (hs : s.size ≤ 4611686018427387904) : ∀ (d i : Nat), i + d = (L s).length → ∃ b, Ev (fun k => smithyref02_Name.l0 k s (i : Int)) b ∧ (¬ (0 < s.size ∧ s.size ≤ 64) → b = false) ∧ (0 < s.size ∧ s.size ≤ 64 → Ev (fun k => lines_named.l0 k s (s.size : Int) (i : Int)) b)
  | 0, i, hi => by
    have hz := size_L s
    by_cases h : 0 < s.size ∧ s.size ≤ 64
    · exact ⟨true, Ev.step (fun k => rname_step k s _) (ev_neg (by omega) (ev_pos (by omega) (ev_some (by simp; omega)))), fun h2 => absurd h h2, fun _ => Ev.step (fun k => named_step k s _ _) (ev_neg (by omega) (ev_some rfl))⟩
    · refine ⟨false, Ev.step (fun k => rname_step k s _) (ev_neg (by omega) ?_), fun _ => rfl, fun h2 => absurd h2 h⟩
      by_cases h0 : (s.size : Int) > 0
      · exact ev_pos h0 (ev_some (by simp; omega))
      · exact ev_neg h0 (ev_some rfl)
  | d + 1, i, hi => by
    have hz := size_L s
    have hw : wrap64 ((i : Int) + 1) = ((i + 1 : Nat) : Int) := wrap_1 (by omega)
    obtain ⟨b, h1, h2, h3⟩ := rname_go s hs d (i + 1) (by omega)
    by_cases h : NmB (bt s (i : Int))
    · refine ⟨b, Ev.step (fun k => rname_step k s _) (ev_pos (by omega) (ev_pos (by omega) (ev_pos h ?_))), h2, fun hr => Ev.step (fun k => named_step k s _ _) (ev_pos (by omega) (ev_pos (by omega) (ev_pos (by omega) (ev_pos h ?_))))⟩
      · rw [hw]; exact h1
      · rw [hw]; exact h3 hr
    · exact ⟨false, Ev.step (fun k => rname_step k s _) (ev_pos (by omega) (ev_pos (by omega) (ev_neg h (ev_some rfl)))), fun _ => rfl, fun hr => Ev.step (fun k => named_step k s _ _) (ev_pos (by omega) (ev_pos (by omega) (ev_pos (by omega) (ev_neg h (ev_some rfl)))))⟩
theorem named_ex (s : ByteArray) (hs : s.size ≤ 4611686018427387904) : ∃ b, Ev (fun k => lines_named.f k s) b ∧ Ev (fun k => smithyref02_Name.f k s) b ∧ (b = true → 0 < s.size ∧ s.size ≤ 64) := by
  have hz := size_L s
  obtain ⟨b, h1, h2, h3⟩ := rname_go s hs (L s).length 0 (by omega)
  have hj : ∀ z, z = true → Ev (fun k => lines_named.j0 k s z) false := fun z hz => Ev.step (fun _ => rfl) (ev_pos hz (ev_some rfl))
  by_cases h : 0 < s.size ∧ s.size ≤ 64
  · refine ⟨b, ev_neg (by omega) (Ev.step (fun _ => rfl) (ev_neg (by simp; omega) (h3 h))), h1, fun _ => h⟩
  · obtain rfl := h2 h
    refine ⟨false, ?_, h1, fun e => by cases e⟩
    by_cases h0 : (s.size : Int) < 1
    · exact ev_pos h0 (hj true rfl)
    · exact ev_neg h0 (hj _ (by simp; omega))

/-! ### wrong bytes -/
theorem bad_iff (b : UInt8) : badb b = true ↔ (b.toNat ≠ 9 ∧ (b.toNat < 32 ∨ 126 < b.toNat)) := by
  unfold badb
  rw [Bool.and_eq_true, Bool.or_eq_true, bne_iff_ne, decide_eq_true_iff, decide_eq_true_iff, ne_eq, ne_eq, ← u8_eq]
  exact Iff.rfl
theorem foreign_go (s : ByteArray) (hs : s.size ≤ 4611686018427387904) : ∀ (d i : Nat), i + d = (L s).length → (∀ b ∈ (L s).take i, b ≠ 10 → badb b = false) →
    (Ev (fun k => lines_foreign.l0 k s (s.size : Int) (i : Int)) (-1) ∧ ∀ b ∈ L s, b ≠ 10 → badb b = false) ∨
    (∃ (j : Nat) (a : List UInt8) (c : UInt8) (l : List UInt8), Ev (fun k => lines_foreign.l0 k s (s.size : Int) (i : Int)) (j : Int) ∧ L s = a ++ c :: l ∧ a.length = j ∧ (∀ b ∈ a, b ≠ 10 → badb b = false) ∧ badb c = true ∧ c ≠ 10)
  | 0, i, hi, hp => by
    have hz := size_L s
    refine .inl ⟨Ev.step (fun _ => rfl) (ev_neg (by omega) (ev_some rfl)), ?_⟩
    rw [List.take_of_length_le (by omega)] at hp
    exact hp
  | d + 1, i, hi, hp => by
    have hz := size_L s
    have hlt : i < (L s).length := by omega
    obtain ⟨b, hb⟩ : ∃ b, (L s)[i]? = some b := ⟨_, List.getElem?_eq_getElem hlt⟩
    have hw : wrap64 ((i : Int) + 1) = ((i + 1 : Nat) : Int) := wrap_1 (by omega)
    have et : (L s).take (i + 1) = (L s).take i ++ [b] := by rw [List.take_add_one, hb]; rfl
    have hbb := bad_iff b
    by_cases hg : b ≠ 10 ∧ badb b = true
    · refine .inr ⟨i, (L s).take i, b, (L s).drop (i + 1), ?_, by rw [← drop_at hb, List.take_append_drop], by rw [List.length_take]; omega, hp, hg.2, hg.1⟩
      have h2 := hbb.1 hg.2
      have h3 : b.toNat ≠ 10 := fun e => hg.1 (u8_eq.1 (by rw [e]; rfl))
      refine Ev.step (fun _ => rfl) (ev_pos (by omega) (ev_pos (by omega) (ev_pos (by omega) ?_)))
      rw [bt_at_L hb]
      refine ev_neg (by omega) (ev_neg (by omega) ?_)
      by_cases h5 : (b.toNat : Int) ≥ 32
      · exact ev_pos h5 (ev_neg (by omega) (ev_some rfl))
      · exact ev_neg h5 (ev_some rfl)
    · have hp' : ∀ c ∈ (L s).take (i + 1), c ≠ 10 → badb c = false := by
        intro c hc hn
        rw [et] at hc
        rcases List.mem_append.1 hc with h | h
        · exact hp c h hn
        · rw [List.mem_singleton.1 h] at hn ⊢
          cases hv : badb b with
          | false => rfl
          | true => exact absurd ⟨hn, hv⟩ hg
      have key : ∀ {r : Int}, Ev (fun k => lines_foreign.l0 k s (s.size : Int) ((i + 1 : Nat) : Int)) r → Ev (fun k => lines_foreign.l0 k s (s.size : Int) (i : Int)) r := by
        intro r hr
        refine Ev.step (fun _ => rfl) (ev_pos (by omega) (ev_pos (by omega) (ev_pos (by omega) ?_)))
        rw [bt_at_L hb, hw]
        by_cases h9 : (b.toNat : Int) = 9
        · exact ev_pos h9 hr
        · refine ev_neg h9 ?_
          by_cases h10 : (b.toNat : Int) = 10
          · exact ev_pos h10 hr
          · have h11 : ¬ badb b = true := fun e => hg ⟨fun e2 => h10 (by rw [e2]; rfl), e⟩
            have h12 : ¬ (b.toNat ≠ 9 ∧ (b.toNat < 32 ∨ 126 < b.toNat)) := fun e => h11 (hbb.2 e)
            exact ev_neg h10 (ev_pos (by omega) (ev_pos (by omega) hr))
      rcases foreign_go s hs d (i + 1) (by omega) hp' with ⟨h1, h2⟩ | ⟨j, a, c, l, h1, h2⟩
      · exact .inl ⟨key h1, h2⟩
      · exact .inr ⟨j, a, c, l, key h1, h2⟩
theorem foreign_ex (s : ByteArray) (hs : s.size ≤ 4611686018427387904) :
    (Ev (fun k => lines_foreign.f k s) (-1) ∧ ∀ b ∈ L s, b ≠ 10 → badb b = false) ∨
    (∃ (j : Nat) (a : List UInt8) (c : UInt8) (l : List UInt8), Ev (fun k => lines_foreign.f k s) (j : Int) ∧ L s = a ++ c :: l ∧ a.length = j ∧ (∀ b ∈ a, b ≠ 10 → badb b = false) ∧ badb c = true ∧ c ≠ 10) := by
  rcases foreign_go s hs (L s).length 0 (by omega) (by simp) with h | h
  · exact .inl h
  · exact .inr h
theorem wrong_row (ls : List ByteArray) (hl : ls.length ≤ 4611686018427387904) (i : Nat) (x : ByteArray) (hx : ls[i]? = some x) (hs : x.size ≤ 4611686018427387904) (r : Int) (hr : Ev (fun k => smithyref04_wrong.l0 k ls ((i + 1 : Nat) : Int)) r) : ∀ (d j : Nat), j + d = (L x).length → (∀ b ∈ (L x).take j, badb b = false) →
    Ev (fun k => smithyref04_wrong.l1 k ls (i : Int) (j : Int)) (if (L x).any badb = true then ((i + 1 : Nat) : Int) else r)
  | 0, j, hj, hp => by
    have hz := size_L x
    have hlt := (List.getElem?_eq_some_iff.1 hx).1
    rw [List.take_of_length_le (by omega)] at hp
    have hn : ¬ (L x).any badb = true := by
      rw [Bool.not_eq_true, List.any_eq_false]
      intro b hb
      rw [hp b hb]; decide
    rw [if_neg hn]
    refine Ev.step (fun _ => rfl) (ev_pos (by omega) (ev_pos (by omega) ?_))
    rw [rdOf_at hx]
    refine ev_neg (by omega) ?_
    rw [wrap_1 (by omega)]
    exact hr
  | d + 1, j, hj, hp => by
    have hz := size_L x
    have hlt := (List.getElem?_eq_some_iff.1 hx).1
    obtain ⟨b, hb⟩ : ∃ b, (L x)[j]? = some b := ⟨_, List.getElem?_eq_getElem (by omega)⟩
    have hw : wrap64 ((j : Int) + 1) = ((j + 1 : Nat) : Int) := wrap_1 (by omega)
    have et : (L x).take (j + 1) = (L x).take j ++ [b] := by rw [List.take_add_one, hb]; rfl
    have hbb := bad_iff b
    refine Ev.step (fun _ => rfl) (ev_pos (by omega) (ev_pos (by omega) ?_))
    rw [rdOf_at hx]
    refine ev_pos (by omega) (ev_pos (by omega) ?_)
    rw [bt_at_L hb, hw, wrap_1 (i := i) (by omega)]
    cases hv : badb b with
    | true =>
      have ha : (L x).any badb = true := List.any_eq_true.2 ⟨b, List.mem_of_getElem? hb, hv⟩
      rw [if_pos ha]
      have h2 := hbb.1 hv
      refine ev_neg (by omega) ?_
      by_cases h3 : (b.toNat : Int) < 32
      · exact ev_pos h3 (ev_some rfl)
      · exact ev_neg h3 (ev_pos (by omega) (ev_some rfl))
    | false =>
      have h12 : ¬ (b.toNat ≠ 9 ∧ (b.toNat < 32 ∨ 126 < b.toNat)) := fun e => by rw [hbb.2 e] at hv; cases hv
      have ih := wrong_row ls hl i x hx hs r hr d (j + 1) (by omega) (fun c hc => by
        rw [et] at hc
        rcases List.mem_append.1 hc with h | h
        · exact hp c h
        · rw [List.mem_singleton.1 h]; exact hv)
      by_cases h9 : (b.toNat : Int) = 9
      · exact ev_pos h9 ih
      · exact ev_neg h9 (ev_neg (by omega) (ev_neg (by omega) ih))
theorem wrong_go (ls : List ByteArray) (hl : ls.length ≤ 4611686018427387904) (hs : ∀ x ∈ ls, x.size ≤ 4611686018427387904) : ∀ (d i : Nat), i + d = ls.length →
    Ev (fun k => smithyref04_wrong.l0 k ls (i : Int)) (if wrongL ((ls.drop i).map L) = 0 then 0 else ((i + wrongL ((ls.drop i).map L) : Nat) : Int))
  | 0, i, hi => by
    rw [List.drop_of_length_le (by omega)]
    exact Ev.step (fun _ => rfl) (ev_neg (by omega) (ev_some rfl))
  | d + 1, i, hi => by
    obtain ⟨x, hx⟩ : ∃ x, ls[i]? = some x := ⟨_, List.getElem?_eq_getElem (by omega)⟩
    have h := wrong_row ls hl i x hx (hs x (List.mem_of_getElem? hx)) _ (wrong_go ls hl hs d (i + 1) (by omega)) (L x).length 0 (by omega) (by simp)
    refine Ev.step (fun _ => rfl) (ev_pos (by omega) (ev_eq h ?_))
    rw [drop_at hx, List.map_cons, wrongL]
    by_cases h1 : (L x).any badb = true
    · rw [if_pos h1, if_pos h1, if_neg (by omega)]
    · rw [if_neg h1, if_neg h1]
      by_cases h2 : wrongL ((ls.drop (i + 1)).map L) = 0
      · rw [if_pos h2, if_pos h2, if_pos rfl]
      · rw [if_neg h2, if_neg h2, if_neg (by omega)]
        congr 1; omega
theorem wrong_ev (ls : List ByteArray) (hl : ls.length ≤ 4611686018427387904) (hs : ∀ x ∈ ls, x.size ≤ 4611686018427387904) : Ev (fun k => smithyref04_wrong.f k ls) ((wrongL (ls.map L) : Nat) : Int) := by
  have := wrong_go ls hl hs ls.length 0 (by omega)
  rw [List.drop_zero, Nat.zero_add] at this
  refine ev_eq this ?_
  split
  · rename_i h; rw [h]; rfl
  · rfl
end Go.Proofs.YtoclolaljaiogaaDoor.Plain
