/- Plain: what names reach; the macro of a name. -/
import Derived.Test.YtadfbbjplgbakaaGreatExpRe
import Derived.Test.YtadfbbjplgbakaaGreatExpZ
import Derived.Sort.Walk0
import Derived.Test.YtadfbbjplgbakaaGreatPXx0
import Derived.Test.YtadfbbjplgbakaaGreatPXx2
import Derived.Test.YtadfbbjplgbakaaGreatPXx8
import Derived.Test.YtadfbbjplgbakaaGreatPXx12
namespace Go.Proofs.YtadfbbjplgbakaaGreat.Plain
open Go Go.RowKit Go.Proofs.YtadfbbjplgbakaaGreatW.PrintWords Go.Proofs.YtadfbbjplgbakaaGreat.PX Go.Proofs.YtadfbbjplgbakaaGreat.Exp Go.Proofs.YtadfbbjplgbakaaGreat.Strs
set_option linter.unusedVariables false

/-! ### lists of which each stands once -/
theorem nodup_len {α : Type} [DecidableEq α] : ∀ (l U : List α), l.Nodup → (∀ x ∈ l, x ∈ U) → l.length ≤ U.length
  | [], U, _, _ => Nat.zero_le _
  | x :: t, U, hn, h => by
    have hx := h x (List.mem_cons_self ..)
    obtain ⟨h1, h2⟩ := List.nodup_cons.1 hn
    have h3 := nodup_len t (U.erase x) h2 (fun y hy => by
      have hne : y ≠ x := fun e => h1 (e ▸ hy)
      exact (List.mem_erase_of_ne hne).2 (h y (List.mem_cons_of_mem _ hy)))
    have h4 := List.length_erase_of_mem hx
    have h5 : 0 < U.length := List.length_pos_of_mem hx
    rw [List.length_cons]
    omega
theorem nodup_snoc {α : Type} {l : List α} {x : α} (h : l.Nodup) (hx : x ∉ l) : (l ++ [x]).Nodup := by
  rw [List.nodup_append]
  refine ⟨h, by simp, fun a ha b hb e => ?_⟩
  have hb' : b = x := by simpa using hb
  rw [e, hb'] at ha
  exact hx ha
theorem mem_snoc {α : Type} {l U : List α} {x : α} (h : ∀ y ∈ l, y ∈ U) (hx : x ∈ U) : ∀ y ∈ l ++ [x], y ∈ U := fun y hy => by
  rcases List.mem_append.1 hy with hy | hy
  · exact h y hy
  · have : y = x := by simpa using hy
    rw [this]; exact hx
theorem last_mem (todo : List ByteArray) (h : ¬ todo.length = 0) : lastB todo ∈ todo := by
  unfold lastB
  rw [List.getD_eq_getElem?_getD, List.getElem?_eq_getElem (by omega)]
  exact List.getElem_mem _
theorem mem_rest (todo : List ByteArray) (h : ¬ todo.length = 0) (x : ByteArray) : x ∈ todo → x = lastB todo ∨ x ∈ restB todo := by
  intro hx
  have hd : todo = restB todo ++ [lastB todo] := by
    unfold restB lastB
    rw [List.getD_eq_getElem?_getD, List.getElem?_eq_getElem (by omega), Option.getD_some]
    have h1 := List.take_append_drop (todo.length - 1) todo
    rw [List.drop_eq_getElem_cons (by omega : todo.length - 1 < todo.length), List.drop_eq_nil_of_le (by omega)] at h1
    exact h1.symm
  rw [hd] at hx
  rcases List.mem_append.1 hx with hx | hx
  · exact Or.inr hx
  · exact Or.inl (by simpa using hx)
/-! ### the walk over what is reached comes to an end -/
/-- What the walk tells. -/
structure RSp (M : List Mac) (out todo res : List ByteArray) : Prop where
  once : res.Nodup
  o : ∀ x ∈ out, x ∈ res
  t : ∀ x ∈ todo, x ∈ res
  shut : ∀ x ∈ res, x ∈ out ∨ ∀ y ∈ nmM M x, y ∈ res
  of : ∀ P : ByteArray → Prop, (∀ x ∈ out, P x) → (∀ x ∈ todo, P x) → (∀ x, P x → ∀ y ∈ nmM M x, P y) → ∀ x ∈ res, P x
theorem RSp_nil {M : List Mac} {out todo : List ByteArray} (h : todo.length = 0) (hd : out.Nodup) : RSp M out todo out := by
  obtain rfl := List.eq_nil_of_length_eq_zero h
  exact ⟨hd, fun x h => h, fun x h => (by cases h), fun x h => Or.inl h, fun P h1 _ _ => h1⟩
theorem rch_ok (M : List Mac) (U : List ByteArray) (hU : ∀ x ∈ U, x.size ≤ 1048576) (hc : ∀ x ∈ U, ∀ y ∈ nmM M x, y ∈ U) (hn : ∀ x, (nmM M x).length ≤ 8192) (hUl : U.length ≤ 16777216) :
    ∀ (a b : Nat) (out todo : List ByteArray), U.length - out.length ≤ a → todo.length ≤ b → (∀ x ∈ out, x ∈ U) → (∀ x ∈ todo, x ∈ U) → out.Nodup → todo.length ≤ 1048576 + out.length * 8192 → ∃ k res, rch M k out todo = some res ∧ RSp M out todo res := by
  intro a
  induction a with
  | zero =>
    intro b
    induction b with
    | zero =>
      intro out todo _ hb ho ht hd _
      exact ⟨1, out, if_pos (by omega), RSp_nil (by omega) hd⟩
    | succ b ihb =>
      intro out todo ha hb ho ht hd hl
      by_cases h0 : todo.length = 0
      · exact ⟨1, out, if_pos h0, RSp_nil h0 hd⟩
      · have hx := last_mem todo h0
        have hxU := ht _ hx
        have hin : lastB todo ∈ out := by
          refine Classical.byContradiction fun hni => ?_
          have := nodup_len (out ++ [lastB todo]) U (nodup_snoc hd hni) (mem_snoc ho hxU)
          rw [List.length_append, List.length_singleton] at this
          omega
        have hrl : (restB todo).length = todo.length - 1 := by unfold restB; rw [List.length_take]; omega
        obtain ⟨k, res, h1, h2⟩ := ihb out (restB todo) ha (by omega) ho (fun x h => ht x (List.mem_of_mem_take h)) hd (by omega)
        refine ⟨k + 1, res, ?_, h2.once, h2.o, fun x h => ?_, h2.shut, fun P p1 p2 p3 => h2.of P p1 (fun x h => p2 x (List.mem_of_mem_take h)) p3⟩
        · rw [rch_succ, if_neg h0, if_neg (by have := hU _ hxU; omega), if_pos (memB_iff.2 hin)]; exact h1
        · rcases mem_rest todo h0 x h with e | h
          · rw [e]; exact h2.o _ hin
          · exact h2.t x h
  | succ a iha =>
    intro b
    induction b with
    | zero =>
      intro out todo _ hb ho ht hd _
      exact ⟨1, out, if_pos (by omega), RSp_nil (by omega) hd⟩
    | succ b ihb =>
      intro out todo ha hb ho ht hd hl
      by_cases h0 : todo.length = 0
      · exact ⟨1, out, if_pos h0, RSp_nil h0 hd⟩
      · have hx := last_mem todo h0
        have hxU := ht _ hx
        have hrl : (restB todo).length = todo.length - 1 := by unfold restB; rw [List.length_take]; omega
        by_cases hin : lastB todo ∈ out
        · obtain ⟨k, res, h1, h2⟩ := ihb out (restB todo) ha (by omega) ho (fun x h => ht x (List.mem_of_mem_take h)) hd (by omega)
          refine ⟨k + 1, res, ?_, h2.once, h2.o, fun x h => ?_, h2.shut, fun P p1 p2 p3 => h2.of P p1 (fun x h => p2 x (List.mem_of_mem_take h)) p3⟩
          · rw [rch_succ, if_neg h0, if_neg (by have := hU _ hxU; omega), if_pos (memB_iff.2 hin)]; exact h1
          · rcases mem_rest todo h0 x h with e | h
            · rw [e]; exact h2.o _ hin
            · exact h2.t x h
        · have hd2 : (out ++ [lastB todo]).Nodup := nodup_snoc hd hin
          have ho2 : ∀ x ∈ out ++ [lastB todo], x ∈ U := mem_snoc ho hxU
          have hlen := nodup_len _ U hd2 ho2
          rw [List.length_append, List.length_singleton] at hlen
          have hnx := hn (lastB todo)
          have hl2 : (restB todo ++ nmM M (lastB todo)).length ≤ 1048576 + (out ++ [lastB todo]).length * 8192 := by
            rw [List.length_append, List.length_append, List.length_singleton, hrl]; omega
          obtain ⟨k, res, h1, h2⟩ := iha _ (out ++ [lastB todo]) (restB todo ++ nmM M (lastB todo)) (by rw [List.length_append, List.length_singleton]; omega) (Nat.le_refl _) ho2 (fun x h => by
            rcases List.mem_append.1 h with h | h
            · exact ht x (List.mem_of_mem_take h)
            · exact hc _ hxU x h) hd2 hl2
          refine ⟨k + 1, res, ?_, h2.once, fun x h => h2.o x (List.mem_append_left _ h), fun x h => ?_, fun x h => ?_, fun P p1 p2 p3 => h2.of P (fun x h => ?_) (fun x h => ?_) p3⟩
          · rw [rch_succ, if_neg h0, if_neg (by have := hU _ hxU; omega), if_neg (fun q => hin (memB_iff.1 q)), if_pos (by omega)]; exact h1
          · rcases mem_rest todo h0 x h with e | h
            · rw [e]; exact h2.o _ (by simp)
            · exact h2.t x (List.mem_append_left _ h)
          · rcases h2.shut x h with h3 | h3
            · rcases List.mem_append.1 h3 with h3 | h3
              · exact Or.inl h3
              · have : x = lastB todo := by simpa using h3
                subst this
                exact Or.inr (fun y hy => h2.t y (List.mem_append_right _ hy))
            · exact Or.inr h3
          · rcases List.mem_append.1 h with h | h
            · exact p1 x h
            · have : x = lastB todo := by simpa using h
              rw [this]; exact p2 _ hx
          · rcases List.mem_append.1 h with h | h
            · exact p2 x (List.mem_of_mem_take h)
            · exact p3 _ (p2 _ hx) x h
theorem sortS_mem (l : List ByteArray) (x : ByteArray) : x ∈ sortS l ↔ x ∈ l := by
  unfold sortS
  rw [List.mem_map]
  constructor
  · rintro ⟨y, hy, rfl⟩
    rw [List.mem_mergeSort] at hy
    obtain ⟨z, hz, rfl⟩ := List.mem_map.1 hy
    exact hz
  · intro h
    exact ⟨L x, by rw [List.mem_mergeSort]; exact List.mem_map.2 ⟨x, h, rfl⟩, rfl⟩
/-- The names in a text are no more than its bytes, and each no longer than it. -/
theorem NM_small : ∀ (d : Nat) (l : List UInt8), l.length ≤ d → (NM l).1.length ≤ l.length ∧ ∀ y ∈ (NM l).1, y.length ≤ l.length := by
  intro d
  induction d with
  | zero =>
    intro l h
    obtain rfl := List.eq_nil_of_length_eq_zero (by omega : l.length = 0)
    rw [NM_none [] (by simp)]
    exact ⟨Nat.le_refl _, fun y hy => by cases hy⟩
  | succ d ih =>
    intro l h
    rw [NM_eq]
    by_cases c1 : l.drop (aheadB 36 l).length = []
    · rw [if_pos c1]; exact ⟨Nat.zero_le _, fun y hy => by cases hy⟩
    rw [if_neg c1]
    by_cases c2 : (rdX (l.drop (aheadB 36 l).length)).2 = false
    · rw [if_pos c2]; exact ⟨Nat.zero_le _, fun y hy => by cases hy⟩
    rw [if_neg c2]
    have c2' : (rdX (l.drop (aheadB 36 l).length)).2 = true := by simpa using c2
    have h1 := left_lt l c1 c2'
    obtain ⟨h2, h3⟩ := ih _ (by omega : ((l.drop (aheadB 36 l).length).drop (rdX (l.drop (aheadB 36 l).length)).1.size).length ≤ d)
    have h4 := (rdX_fits _ c2').1
    have h5 := List.length_drop (i := (aheadB 36 l).length) (l := l)
    constructor
    · rw [List.length_append]
      have h6 : (if (rdX (l.drop (aheadB 36 l).length)).1.name = [36] then ([] : List (List UInt8)) else [(rdX (l.drop (aheadB 36 l).length)).1.name]).length ≤ 1 := by split <;> simp
      omega
    · intro y hy
      rcases List.mem_append.1 hy with hy | hy
      · split at hy
        · cases hy
        · have : y = (rdX (l.drop (aheadB 36 l).length)).1.name := by simpa using hy
          rw [this]; omega
      · have := h3 y hy
        omega
theorem nmM_len {M : List Mac} (hg : ∀ x ∈ M, goodM x) (x : ByteArray) : (nmM M x).length ≤ 8192 := by
  unfold nmM
  rw [List.length_map]
  have h1 := (NM_small _ (L (valM M x)) (Nat.le_refl _)).1
  have h2 := val_size hg x
  rw [size_L] at h2
  omega
/-- The value is that of one of the macros, or there is none. -/
theorem val_or (M : List Mac) (x : ByteArray) : valM M x = ⟨#[]⟩ ∨ ∃ m ∈ M, valM M x = m.f1 ∧ cmpS m.f0 x = 0 := by
  unfold valM
  by_cases h1 : macro_Name.f x = some true
  · rw [if_pos h1]
    by_cases h2 : mHas M x = true
    · rw [if_pos h2]
      unfold mHas at h2
      obtain ⟨h3, h4⟩ := of_decide_eq_true h2
      rw [List.getD_eq_getElem?_getD, List.getElem?_eq_getElem h3] at h4 ⊢
      exact Or.inr ⟨_, List.getElem_mem h3, rfl, h4⟩
    · rw [if_neg h2]; exact Or.inl rfl
  · rw [if_neg h1]; exact Or.inl rfl
theorem nmM_nil {M : List Mac} {x : ByteArray} (h : valM M x = ⟨#[]⟩) : nmM M x = [] := by
  unfold nmM
  rw [h]
  rfl
/-- What a text's names reach, by the program. -/
theorem reached_ev (M : List Mac) (F : List ByteArray) (hck : Ev (fun k => macro_Check.f k M) 0) (hF : F.length ≤ 1048576) (hFs : ∀ x ∈ F, x.size ≤ 1048576) :
    ∃ R, Ev (fun k => expand_reached.f k M F) R ∧ R.length ≤ 16777216 ∧ (∃ l, R = sortS l ∧ l.Nodup) ∧ ∀ y, y ∈ R ↔ Rch (envM M).val (F.map L) (L y) := by
  obtain ⟨K, hK⟩ := hck
  obtain ⟨hM, hg⟩ := check_good (hK K (Nat.le_refl _))
  obtain ⟨U, hU⟩ : ∃ U, U = F ++ M.flatMap fun m => (NM (L m.f1)).1.map B := ⟨_, rfl⟩
  have hmem : ∀ x, ∀ y ∈ nmM M x, y ∈ M.flatMap fun m => (NM (L m.f1)).1.map B := fun x y hy => by
    rcases val_or M x with h | ⟨m, hm, h, _⟩
    · rw [nmM_nil h] at hy; cases hy
    · unfold nmM at hy
      rw [h] at hy
      exact List.mem_flatMap.2 ⟨m, hm, hy⟩
  have hlen : ∀ l : List Mac, (∀ x ∈ l, goodM x) → (l.flatMap fun m => (NM (L m.f1)).1.map B).length ≤ l.length * 8192 := by
    intro l
    induction l with
    | nil => intro _; simp
    | cons m t ih =>
      intro h
      have h1 := ih (fun x hx => h x (List.mem_cons_of_mem _ hx))
      have h2 := (NM_small _ (L m.f1) (Nat.le_refl _)).1
      have h3 := (h m (List.mem_cons_self ..)).2.2.2
      rw [size_L] at h3
      rw [List.flatMap_cons, List.length_append, List.length_map, List.length_cons]
      omega
  have hUl : U.length ≤ 16777216 := by
    have := hlen M hg
    rw [hU, List.length_append]
    have : M.length * 8192 ≤ 256 * 8192 := Nat.mul_le_mul_right _ hM
    omega
  obtain ⟨k, res, h1, h2⟩ := rch_ok M U (fun x hx => by
    rw [hU] at hx
    rcases List.mem_append.1 hx with hx | hx
    · exact hFs x hx
    · obtain ⟨m, hm, hx⟩ := List.mem_flatMap.1 hx
      obtain ⟨y, hy, rfl⟩ := List.mem_map.1 hx
      have h3 := (NM_small _ (L m.f1) (Nat.le_refl _)).2 y hy
      have h4 := (hg m hm).2.2.2
      rw [size_L] at h4 ⊢
      rw [L_B]
      omega) (fun x _ y hy => by rw [hU]; exact List.mem_append_right _ (hmem x y hy)) (nmM_len hg) hUl U.length F.length [] F (by simp) (Nat.le_refl _) (fun x hx => by cases hx) (fun x hx => by rw [hU]; exact List.mem_append_left _ hx) List.nodup_nil (by simp; exact hF)
  have hr : Ev (fun k => rch M k [] F) res := Ev.of (fun k => rch_mono M k [] F) h1
  refine ⟨sortS res, ?_, ?_, ⟨res, rfl, h2.once⟩, fun y => ?_⟩
  · unfold expand_reached.f
    refine ev_pos (by omega) (Ev.bind ⟨K, hK⟩ (ev_pos rfl (Ev.bind hr (Ev.now _))))
  · rw [sortS_len]
    exact Nat.le_trans (nodup_len res U h2.once (fun x hx => h2.of (· ∈ U) (fun x h => by cases h) (fun x h => by rw [hU]; exact List.mem_append_left _ h) (fun x _ y hy => by rw [hU]; exact List.mem_append_right _ (hmem x y hy)) x hx)) hUl
  · rw [sortS_mem]
    constructor
    · intro hy
      refine h2.of (fun y => Rch (envM M).val (F.map L) (L y)) (fun x h => by cases h) (fun x h => .base (List.mem_map.2 ⟨x, h, rfl⟩)) (fun x hx y hy => ?_) y hy
      unfold nmM at hy
      obtain ⟨z, hz, rfl⟩ := List.mem_map.1 hy
      exact .step hx hz
    · intro hy
      have : ∀ z, Rch (envM M).val (F.map L) z → B z ∈ res := by
        intro z hz
        induction hz with
        | base h =>
          obtain ⟨x, hx, rfl⟩ := List.mem_map.1 h
          exact h2.t x hx
        | @step x z _ hz ih =>
          rcases h2.shut _ ih with h | h
          · cases h
          · exact h _ (List.mem_map.2 ⟨z, hz, rfl⟩)
      exact this _ hy
/-! ### the macro of a name -/
theorem lt_irr (a : List UInt8) : ¬ a < a := List.lt_irrefl a
theorem cmp_lt (a b : ByteArray) : cmpS a b < 0 ↔ L a < L b := by
  have h1 := less_cmp a.data.toList b.data.toList
  rw [bytesLess_eq] at h1
  exact ⟨fun h => by have := h1.trans (decide_eq_true h); exact of_decide_eq_true this, fun h => by have := h1.symm.trans (decide_eq_true h); exact of_decide_eq_true this⟩
theorem cmp_eq0 (a b : ByteArray) : cmpS a b = 0 ↔ a = b := by
  constructor
  · intro h
    have : ∀ (x y : List UInt8), Lib.compareBytes x y = 0 → x = y := by
      intro x
      induction x with
      | nil => intro y h; cases y with
        | nil => rfl
        | cons b t => unfold Lib.compareBytes at h; cases h
      | cons a s ih => intro y h; cases y with
        | nil => unfold Lib.compareBytes at h; cases h
        | cons b t =>
          unfold Lib.compareBytes at h
          by_cases h1 : a < b
          · rw [if_pos h1] at h; cases h
          · rw [if_neg h1] at h
            by_cases h2 : b < a
            · rw [if_pos h2] at h; cases h
            · rw [if_neg h2] at h
              have : a = b := UInt8.toNat_inj.1 (Nat.le_antisymm (Nat.le_of_not_lt (fun h => h2 h)) (Nat.le_of_not_lt (fun h => h1 h)))
              rw [this, ih t h]
    exact L_inj (this _ _ h)
  · rintro rfl
    have : ∀ (x : List UInt8), Lib.compareBytes x x = 0 := by
      intro x
      induction x with
      | nil => rfl
      | cons a s ih =>
        unfold Lib.compareBytes
        rw [if_neg (by exact Nat.lt_irrefl _), if_neg (by exact Nat.lt_irrefl _), ih]
    exact this _
theorem mbs_find (l : List Mac) (x : ByteArray) (p : Nat) (hp : p < l.length) (hx : (l.getD p zM).f0 = x) (hs : ∀ i j, i < j → j < l.length → L (l.getD i zM).f0 < L (l.getD j zM).f0) :
    ∀ n i j, i ≤ p → p ≤ j → j ≤ l.length → j - i ≤ n → (j = l.length → True) → mbs l x n i j = p := by
  intro n
  induction n with
  | zero => intro i j h1 h2 _ h4 _; exact (by omega : i = p)
  | succ n ih =>
    intro i j h1 h2 h3 h4 _
    unfold mbs
    by_cases hij : i < j
    · rw [if_pos hij]
      by_cases hc : cmpS (l.getD ((i + j) / 2) zM).f0 x < 0
      · rw [if_pos hc]
        have hlt := (cmp_lt _ _).1 hc
        have hm : (i + j) / 2 < p := by
          rcases Nat.lt_trichotomy ((i + j) / 2) p with h | h | h
          · exact h
          · rw [h, hx] at hlt; exact absurd hlt (lt_irr _)
          · have := hs p ((i + j) / 2) h (by omega)
            rw [hx] at this
            exact absurd hlt (fun h => List.lt_asymm h this)
        exact ih _ _ (by omega) h2 h3 (by omega) (fun _ => trivial)
      · rw [if_neg hc]
        have hm : p ≤ (i + j) / 2 := by
          rcases Nat.lt_or_ge ((i + j) / 2) p with h | h
          · have := hs ((i + j) / 2) p h hp
            rw [hx] at this
            exact absurd ((cmp_lt _ _).2 this) hc
          · exact h
        exact ih _ _ h1 hm (by omega) (by omega) (fun _ => trivial)
    · rw [if_neg hij]
      omega
theorem rise_all (M : List Mac) : ∀ (d i : Nat), riseI M d i = true → ∀ j, i ≤ j → j < i + d → 0 < j → L (M.getD (j - 1) zM).f0 < L (M.getD j zM).f0
  | 0, i, _, j, h1, h2, _ => by omega
  | d + 1, i, h, j, h1, h2, h3 => by
    have h' : ((i == 0 || Op.bytesLess (M.getD (i - 1) zM).f0.toList (M.getD i zM).f0.toList) && riseI M d (i + 1)) = true := h
    rw [Bool.and_eq_true] at h'
    by_cases hj : j = i
    · subst hj
      have h4 := h'.1
      rw [beq_eq_false_iff_ne.2 (by omega), Bool.false_or, bytesLess_eq, toList_L, toList_L] at h4
      exact of_decide_eq_true h4
    · exact rise_all M d (i + 1) h'.2 j (by omega) (by omega) h3
theorem rise_lt (M : List Mac) (h : riseI M M.length 0 = true) : ∀ (d i : Nat), i + d + 1 < M.length → L (M.getD i zM).f0 < L (M.getD (i + d + 1) zM).f0
  | 0, i, hi => by
    have := rise_all M M.length 0 h (i + 1) (Nat.zero_le _) (by omega) (by omega)
    exact this
  | d + 1, i, hi => by
    have h1 := rise_lt M h d i (by omega)
    have h2 := rise_all M M.length 0 h (i + (d + 1) + 1) (Nat.zero_le _) (by omega) (by omega)
    exact List.lt_trans h1 h2
theorem chk_rise {M : List Mac} (h : chkV M = 0) : riseI M M.length 0 = true := by
  unfold chkV at h
  by_cases h1 : M.length ≤ 256
  · rw [if_pos h1] at h
    by_cases h2 : onesV M = 0
    · rw [if_pos h2] at h
      by_cases h3 : riseI M M.length 0 = true
      · exact h3
      · rw [if_neg h3] at h; cases h
    · rw [if_neg h2] at h; exact absurd h h2
  · rw [if_neg h1] at h; cases h
/-- The value of a macro's name is the macro's. -/
theorem val_of {M : List Mac} (h : chkV M = 0) (hg : ∀ x ∈ M, goodM x) {m : Mac} (hm : m ∈ M) : valM M m.f0 = m.f1 := by
  obtain ⟨p, hp⟩ := List.mem_iff_getElem?.1 hm
  have hlt := (List.getElem?_eq_some_iff.1 hp).1
  have hgd : M.getD p zM = m := by rw [List.getD_eq_getElem?_getD, hp]; rfl
  have hs : ∀ i j, i < j → j < M.length → L (M.getD i zM).f0 < L (M.getD j zM).f0 := fun i j h1 h2 => by
    have := rise_lt M (chk_rise h) (j - i - 1) i (by omega)
    rw [show i + (j - i - 1) + 1 = j by omega] at this
    exact this
  have hat : mAt M m.f0 = p := mbs_find M m.f0 p hlt (by rw [hgd]) hs M.length 0 M.length (Nat.zero_le _) (by omega) (Nat.le_refl _) (by omega) (fun _ => trivial)
  have hn := (hg m hm).1
  have hsz : m.f0.size ≤ 9223372036854775807 := by
    unfold namL at hn
    rw [Bool.and_eq_true, Bool.and_eq_true] at hn
    have := of_decide_eq_true hn.1.2
    rw [size_L]; omega
  unfold valM mHas
  rw [hat, hgd, if_pos (by unfold macro_Name.f; rw [if_pos hsz, name_eq, hn]), if_pos (by rw [decide_eq_true_eq]; exact ⟨hlt, (cmp_eq0 _ _).2 rfl⟩)]
/-- No name of an inner macro is a macro's. -/
theorem inn_val (M : List Mac) (hg : ∀ x ∈ M, goodM x) (y : List UInt8) (h : innL y = true) : (NM ((envM M).val y)).1 = [] := by
  have hv : valM M (B y) = ⟨#[]⟩ := by
    rcases val_or M (B y) with h1 | ⟨m, hm, _, h3⟩
    · exact h1
    · exfalso
      have h4 := (cmp_eq0 _ _).1 h3
      have h5 := (hg m hm).1
      rw [h4, L_B] at h5
      have h6 : ∀ c : UInt8, (innB c && namB c) = false := fun c => all_bytes (p := fun c => (innB c && namB c) = false) (by decide +kernel) c
      unfold namL at h5
      rw [Bool.and_eq_true] at h5
      rcases y with _ | ⟨a, _ | ⟨b, _ | ⟨c, t⟩⟩⟩
      · cases h
      · have h7 : innB a = true := h
        have h8 := h6 a
        have h9 : namB a = true := by simpa using h5.2
        rw [h7, h9] at h8; cases h8
      · have h7 : innB a = true := by
          have : (innB a && (b == 68 || b == 70)) = true := h
          exact (Bool.and_eq_true_iff.1 this).1
        have h8 := h6 a
        have h9 : namB a = true := by
          have := h5.2
          rw [List.all_cons, Bool.and_eq_true] at this
          exact this.1
        rw [h7, h9] at h8; cases h8
      · cases h
  show (NM (L (valM M (B y)))).1 = []
  rw [hv]
  rfl
/-- What Uses tells: where there is an error, nothing; else what is reached. -/
theorem Uses_ev (M : List Mac) (hs : ∀ x ∈ M, x.f0.size ≤ 4611686018427387904) (s : ByteArray) :
    ∃ R e, Ev (fun k => expand_Uses.f k M s) (R, e) ∧ R.length ≤ 16777216 ∧ (e ≠ 0 → R = []) ∧ (e = 0 → chkV M = 0 ∧ s.size ≤ 65536 ∧ (NM (L s)).2 = true ∧ (∃ l, R = sortS l ∧ l.Nodup) ∧ ∀ y, y ∈ R ↔ Rch (envM M).val (NM (L s)).1 (L y)) := by
  by_cases h0 : chkV M = 0
  · by_cases h1 : (refsV s).2 = 0
    · obtain ⟨h2, h3, h4⟩ := refs_names s h1
      have hck := check_ev M hs
      rw [h0] at hck
      have hsm := NM_small _ (L s) (Nat.le_refl _)
      rw [← size_L] at hsm
      obtain ⟨R, r1, r2, r3, r4⟩ := reached_ev M ((NM (L s)).1.map B) hck (by rw [List.length_map]; omega) (fun x hx => by
        obtain ⟨y, hy, rfl⟩ := List.mem_map.1 hx
        have := hsm.2 y hy
        rw [size_L, L_B]; omega)
      rw [map_L_B] at r4
      refine ⟨R, 0, ?_, r2, fun h => absurd rfl h, fun _ => ⟨h0, h2, h3, r3, r4⟩⟩
      unfold expand_Uses.f
      refine Ev.bind hck (ev_pos rfl (Ev.bind (Refs_ev s) ?_))
      rw [h4]
      exact ev_pos h1 (Ev.bind r1 (Ev.now _))
    · refine ⟨[], (refsV s).2, ?_, by simp, fun _ => rfl, fun h => absurd h h1⟩
      unfold expand_Uses.f
      refine Ev.bind (check_ev M hs) (ev_pos h0 (Ev.bind (Refs_ev s) ?_))
      exact ev_neg h1 (Ev.now _)
  · refine ⟨[], chkV M, ?_, by simp, fun _ => rfl, fun h => absurd h h0⟩
    unfold expand_Uses.f
    exact Ev.bind (check_ev M hs) (ev_neg h0 (Ev.now _))
end Go.Proofs.YtadfbbjplgbakaaGreat.Plain
namespace Go.Proofs.YtadfbbjplgbakaaGreat.Plain
open Go Go.RowKit Go.Proofs.YtadfbbjplgbakaaGreatW.PrintWords Go.Proofs.YtadfbbjplgbakaaGreat.PX Go.Proofs.YtadfbbjplgbakaaGreat.Exp Go.Proofs.YtadfbbjplgbakaaGreat.Strs
set_option linter.unusedVariables false

/-- Is a macro reached from its own value? -/
noncomputable def loopB (M : List Mac) (x : Mac) : Bool := @decide (Rch (envM M).val (NM (L x.f1)).1 (L x.f0)) (Classical.propDecidable _)
theorem loopB_iff (M : List Mac) (x : Mac) : loopB M x = true ↔ Rch (envM M).val (NM (L x.f1)).1 (L x.f0) := by
  unfold loopB
  exact @decide_eq_true_iff _ (Classical.propDecidable _)
/-- The names of the macros that are reached from their own values. -/
noncomputable def loopsV (M : List Mac) : List ByteArray := (M.filter (loopB M)).map fun x => x.f0
theorem loops_mem (M : List Mac) (y : ByteArray) : y ∈ loopsV M ↔ ∃ x ∈ M, x.f0 = y ∧ Rch (envM M).val (NM (L x.f1)).1 (L x.f0) := by
  unfold loopsV
  rw [List.mem_map]
  constructor
  · rintro ⟨x, hx, rfl⟩
    obtain ⟨h1, h2⟩ := List.mem_filter.1 hx
    exact ⟨x, h1, rfl, (loopB_iff M x).1 h2⟩
  · rintro ⟨x, h1, rfl, h2⟩
    exact ⟨x, List.mem_filter.2 ⟨h1, (loopB_iff M x).2 h2⟩, rfl⟩
theorem loops_loop (M : List Mac) (hM : M.length ≤ 256) (hg : ∀ x ∈ M, goodM x) (hck : Ev (fun k => macro_Check.f k M) 0) : ∀ (d i : Nat) (acc : List ByteArray), i + d = M.length → acc.length ≤ i →
    Ev (fun k => expand_Loops.l0 k M acc M (M.length : Int) (i : Int)) (acc ++ ((M.drop i).filter (loopB M)).map (fun x => x.f0), 0) := by
  intro d
  induction d with
  | zero =>
    intro i acc hi ha
    rw [List.drop_eq_nil_of_le (by omega), List.filter_nil, List.map_nil, List.append_nil]
    exact Ev.step (fun _ => rfl) (ev_neg (by omega) (Ev.now _))
  | succ d ih =>
    intro i acc hi ha
    have hlt : i < M.length := by omega
    have hrd : rd_T42 M (i : Int) = M[i] := rdM_at (List.getElem?_eq_getElem hlt)
    have hx := hg _ (List.getElem_mem hlt)
    have hsz := hx.2.2.2
    have hsm := NM_small _ (L M[i].f1) (Nat.le_refl _)
    rw [← size_L] at hsm
    obtain ⟨R, r1, r2, _, r4⟩ := reached_ev M ((NM (L M[i].f1)).1.map B) hck (by rw [List.length_map]; omega) (fun x hx => by
      obtain ⟨y, hy, rfl⟩ := List.mem_map.1 hx
      have := hsm.2 y hy
      rw [size_L, L_B]; omega)
    rw [map_L_B] at r4
    have hmem : memB M[i].f0 R = loopB M M[i] := by
      cases h1 : loopB M M[i] with
      | true => exact memB_iff.2 ((r4 _).2 ((loopB_iff _ _).1 h1))
      | false =>
        cases h2 : memB M[i].f0 R with
        | false => rfl
        | true =>
          have := (loopB_iff M M[i]).2 ((r4 _).1 (memB_iff.1 h2))
          rw [h1] at this; cases this
    have q1 : (i : Int) < (M.length : Int) := by omega
    have q2 : (0 : Int) ≤ (i : Int) := by omega
    have q3 : acc.length < 8796093022208 := by omega
    have hrf := refs_ev M[i].f1 (by omega)
    have hct := contains_ev R M[i].f0 (by omega)
    have nx1 := ih (i + 1) acc (by omega) (by omega)
    have nx2 := ih (i + 1) (acc ++ [M[i].f0]) (by omega) (by rw [List.length_append, List.length_singleton]; omega)
    have hw : wrap64 ((i : Int) + 1) = ((i + 1 : Nat) : Int) := wrap_add i 1 (by omega)
    refine Ev.step (fun _ => rfl) (ev_pos q1 (ev_pos q2 (ev_pos q1 ?_)))
    rw [hrd, hw, drop_cons hlt, List.filter_cons]
    refine Ev.bind hrf (Ev.bind r1 (Ev.bind hct ?_))
    rw [hmem]
    by_cases hl : loopB M M[i] = true
    · rw [if_pos hl]
      refine ev_pos hl (ev_pos q3 ?_)
      rw [List.append_assoc] at nx2
      exact nx2
    · rw [if_neg hl]
      exact ev_neg hl nx1
theorem Loops_ev (M : List Mac) (hs : ∀ x ∈ M, x.f0.size ≤ 4611686018427387904) : Ev (fun k => expand_Loops.f k M) (if chkV M = 0 then (loopsV M, 0) else ([], chkV M)) := by
  unfold expand_Loops.f
  refine Ev.bind (check_ev M hs) ?_
  by_cases h0 : chkV M = 0
  · obtain ⟨hM, hg⟩ := good_of hs h0
    have hck := check_ev M hs
    have hll := fun h => loops_loop M hM hg h M.length 0 [] (by omega) (Nat.le_refl _)
    rw [h0] at hck ⊢
    rw [if_pos rfl]
    exact ev_pos rfl (hll hck)
  · rw [if_neg h0]
    exact ev_neg h0 (Ev.now _)
theorem loops_len (M : List Mac) : (loopsV M).length ≤ M.length := by
  unfold loopsV
  rw [List.length_map]
  exact List.length_filter_le _ _
end Go.Proofs.YtadfbbjplgbakaaGreat.Plain
