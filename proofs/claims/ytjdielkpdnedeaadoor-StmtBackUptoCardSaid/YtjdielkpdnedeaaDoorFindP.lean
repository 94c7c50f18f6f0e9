/- What Find comes to: the program's and the reference's come to one place. -/
import Derived.Test.YtjdielkpdnedeaaDoorBase
import Derived.Lib.IndexLaws
import Derived.Test.YtjdielkpdnedeaaDoorPXx2
namespace Go.Proofs.YtjdielkpdnedeaaDoor.Plain
open Go.RowKit Go.Proofs.YtjdielkpdnedeaaDoorW.PrintWords Go.Proofs.YtjdielkpdnedeaaDoor.PX

theorem ix_ge (l : List UInt8) (c : UInt8) : -1 ≤ Lib.indexByte l c := Lib.indexByte_ge l c
theorem ix_none {l : List UInt8} {c : UInt8} (h : Lib.indexByte l c < 0) : c ∉ l := by
  have h' : Lib.indexByte l c = -1 := by have := ix_ge l c; omega
  intro hm
  obtain ⟨k, hk⟩ := List.mem_iff_getElem?.1 hm
  exact Lib.indexByte_none h' k hk
theorem ix_some {l : List UInt8} {c : UInt8} (h : 0 ≤ Lib.indexByte l c) : ∃ o : Nat, Lib.indexByte l c = o ∧ l[o]? = some c ∧ ∀ k, k < o → l[k]? ≠ some c := by
  obtain ⟨o, ho⟩ : ∃ o : Nat, Lib.indexByte l c = o := ⟨(Lib.indexByte l c).toNat, by omega⟩
  exact ⟨o, ho, Lib.indexByte_some ho⟩
theorem ix_mem {l : List UInt8} {c : UInt8} : 0 ≤ Lib.indexByte l c ↔ c ∈ l := by
  constructor
  · intro h
    obtain ⟨o, _, ho, _⟩ := ix_some h
    exact List.mem_iff_getElem?.2 ⟨o, ho⟩
  · intro h
    by_cases hn : Lib.indexByte l c < 0
    · exact absurd h (ix_none hn)
    · omega
theorem u8_back (b : UInt8) : ((b.toNat : Int)).toNat.toUInt8 = b := by
  rw [Int.toNat_natCast]
  exact UInt8.ofNat_toNat
theorem bt_ne {s : ByteArray} {i : Nat} {b c : UInt8} (h : (L s)[i]? = some b) (hn : b ≠ c) : ¬ bt s (i : Int) = (c.toNat : Int) := by
  rw [bt_at_L h]
  exact fun e => hn (u8_eq.1 (by exact_mod_cast e))
theorem bt_is {s : ByteArray} {i : Nat} {b c : UInt8} (h : (L s)[i]? = some b) (e : b = c) : bt s (i : Int) = (c.toNat : Int) := by
  rw [bt_at_L h, e]

/-! ### the reference's look for a bracket -/
theorem beh_found (T : ByteArray) (c : UInt8) (hs : T.size ≤ 4611686018427387904) : ∀ (d i : Nat), (L T)[i + d]? = some c → (∀ k, i ≤ k → k < i + d → (L T)[k]? ≠ some c) →
    Ev (fun k => smithyref07_behind.l0 k T (c.toNat : Int) (i : Int)) ((i + d + 1 : Nat) : Int)
  | 0, i, hd, _ => by
    have hsz := size_L T
    have hlt : i < (L T).length := (List.getElem?_eq_some_iff.1 hd).1
    refine Ev.step (fun _ => rfl) (ev_pos (by omega) (ev_pos (by omega) (ev_pos (bt_is hd rfl) (ev_some ?_))))
    rw [wrap_id (by omega) (by omega)]
    omega
  | d + 1, i, hd, hn => by
    have hsz := size_L T
    have hlt : i + (d + 1) < (L T).length := (List.getElem?_eq_some_iff.1 hd).1
    obtain ⟨b, hb⟩ : ∃ b, (L T)[i]? = some b := ⟨_, List.getElem?_eq_getElem (by omega)⟩
    have hbc : b ≠ c := fun e => hn i (Nat.le_refl _) (by omega) (e ▸ hb)
    refine Ev.step (fun _ => rfl) (ev_pos (by omega) (ev_pos (by omega) (ev_neg (bt_ne hb hbc) ?_)))
    rw [wrap_id (by omega) (by omega)]
    refine ev_eq (beh_found T c hs d (i + 1) (by rw [show i + 1 + d = i + (d + 1) by omega]; exact hd) (fun k h1 h2 => hn k (by omega) (by omega))) ?_
    omega
theorem beh_none (T : ByteArray) (c : UInt8) (hs : T.size ≤ 4611686018427387904) : ∀ (d i : Nat), (L T).length ≤ i + d → (∀ k, i ≤ k → (L T)[k]? ≠ some c) →
    Ev (fun k => smithyref07_behind.l0 k T (c.toNat : Int) (i : Int)) (T.size : Int)
  | 0, i, hd, _ => by
    have hsz := size_L T
    exact Ev.step (fun _ => rfl) (ev_neg (by omega) (ev_some rfl))
  | d + 1, i, hd, hn => by
    have hsz := size_L T
    by_cases hlt : i < (L T).length
    · obtain ⟨b, hb⟩ : ∃ b, (L T)[i]? = some b := ⟨_, List.getElem?_eq_getElem hlt⟩
      have hbc : b ≠ c := fun e => hn i (Nat.le_refl _) (e ▸ hb)
      refine Ev.step (fun _ => rfl) (ev_pos (by omega) (ev_pos (by omega) (ev_neg (bt_ne hb hbc) ?_)))
      rw [wrap_id (by omega) (by omega)]
      exact beh_none T c hs d (i + 1) (by omega) (fun k h1 => hn k (by omega))
    · exact Ev.step (fun _ => rfl) (ev_neg (by omega) (ev_some rfl))

/-! ### the reference's look among some -/
theorem some_hit (T S : ByteArray) (i : Nat) (b : UInt8) (hS : S.size ≤ 4611686018427387904) (hb : (L T)[i]? = some b) : ∀ (d j : Nat), j + d = (L S).length → b ∈ (L S).drop j →
    Ev (fun k => smithyref07_Find.l1 k T S (i : Int) (j : Int)) (i : Int)
  | 0, j, hj, hm => by
    rw [List.drop_of_length_le (by omega)] at hm
    cases hm
  | d + 1, j, hj, hm => by
    have hsz := size_L S; have hst := size_L T
    have hlt : i < (L T).length := (List.getElem?_eq_some_iff.1 hb).1
    obtain ⟨c, hc⟩ : ∃ c, (L S)[j]? = some c := ⟨_, List.getElem?_eq_getElem (by omega)⟩
    refine Ev.step (fun _ => rfl) (ev_pos (by omega) (ev_pos (by omega) (ev_pos (by omega) (ev_pos (by omega) ?_))))
    rw [bt_at_L hb]
    by_cases e : c = b
    · exact ev_pos (bt_is hc e) (ev_some rfl)
    · refine ev_neg (bt_ne hc e) ?_
      rw [wrap_id (by omega) (by omega)]
      refine some_hit T S i b hS hb d (j + 1) (by omega) ?_
      obtain ⟨hj', e'⟩ := List.getElem?_eq_some_iff.1 hc
      rw [List.drop_eq_getElem_cons hj', e'] at hm
      rcases List.mem_cons.1 hm with h | h
      · exact absurd h.symm e
      · exact h
theorem some_miss (T S : ByteArray) (i : Nat) (b : UInt8) (r : Int) (hS : S.size ≤ 4611686018427387904) (hT : T.size ≤ 4611686018427387904) (hb : (L T)[i]? = some b) (hr : Ev (fun k => smithyref07_Find.l0 k T S ((i + 1 : Nat) : Int)) r) : ∀ (d j : Nat), j + d = (L S).length → b ∉ (L S).drop j →
    Ev (fun k => smithyref07_Find.l1 k T S (i : Int) (j : Int)) r
  | 0, j, hj, hm => by
    have hsz := size_L S; have hst := size_L T
    have hlt : i < (L T).length := (List.getElem?_eq_some_iff.1 hb).1
    refine Ev.step (fun _ => rfl) (ev_neg (by omega) ?_)
    rw [wrap_id (by omega) (by omega)]
    exact hr
  | d + 1, j, hj, hm => by
    have hsz := size_L S; have hst := size_L T
    have hlt : i < (L T).length := (List.getElem?_eq_some_iff.1 hb).1
    obtain ⟨c, hc⟩ : ∃ c, (L S)[j]? = some c := ⟨_, List.getElem?_eq_getElem (by omega)⟩
    obtain ⟨hj', e'⟩ := List.getElem?_eq_some_iff.1 hc
    rw [List.drop_eq_getElem_cons hj', e'] at hm
    have e : c ≠ b := fun e => hm (e ▸ List.mem_cons_self)
    refine Ev.step (fun _ => rfl) (ev_pos (by omega) (ev_pos (by omega) (ev_pos (by omega) (ev_pos (by omega) ?_))))
    rw [bt_at_L hb]
    refine ev_neg (bt_ne hc e) ?_
    rw [wrap_id (by omega) (by omega)]
    exact some_miss T S i b r hS hT hb hr d (j + 1) (by omega) (fun h => hm (List.mem_cons_of_mem _ h))

/-! ### both -/
/-- Both come to r from a place on. -/
def Finds (T S : ByteArray) (i : Nat) (r : Int) : Prop := Ev (fun k => stmt_Find.l0 k T S (i : Int)) r ∧ Ev (fun k => smithyref07_Find.l0 k T S (i : Int)) r
theorem finds_end {T S : ByteArray} {i : Nat} (h : (L T).length ≤ i) : Finds T S i (-1) := by
  have hst := size_L T
  exact ⟨Ev.step (fun _ => rfl) (ev_neg (by omega) (ev_some rfl)), Ev.step (fun _ => rfl) (ev_neg (by omega) (ev_some rfl))⟩
theorem finds_hit {T S : ByteArray} {i : Nat} {b : UInt8} (hS : S.size ≤ 4611686018427387904) (hb : (L T)[i]? = some b) (h36 : b ≠ 36) (hm : b ∈ L S) : Finds T S i (i : Int) := by
  have hst := size_L T
  have hlt : i < (L T).length := (List.getElem?_eq_some_iff.1 hb).1
  constructor
  · refine Ev.step (fun _ => rfl) (ev_pos (by omega) (ev_pos (by omega) (ev_neg (bt_ne hb h36) ?_)))
    rw [bt_at_L hb]
    refine ev_const (a := Lib.indexByte (L S) b) ?_ (ev_pos (ix_mem.2 hm) (ev_some rfl))
    unfold strings_IndexByte.f
    rw [u8_back]; rfl
  · refine Ev.step (fun _ => rfl) (ev_pos (by omega) (ev_pos (by omega) (ev_neg (bt_ne hb h36) ?_)))
    exact some_hit T S i b hS hb (L S).length 0 (by omega) (by rw [List.drop_zero]; exact hm)
theorem finds_on {T S : ByteArray} {i : Nat} {b : UInt8} {r : Int} (hS : S.size ≤ 4611686018427387904) (hT : T.size ≤ 4611686018427387904) (hb : (L T)[i]? = some b) (h36 : b ≠ 36) (hm : b ∉ L S) (hr : Finds T S (i + 1) r) : Finds T S i r := by
  have hst := size_L T
  have hlt : i < (L T).length := (List.getElem?_eq_some_iff.1 hb).1
  constructor
  · refine Ev.step (fun _ => rfl) (ev_pos (by omega) (ev_pos (by omega) (ev_neg (bt_ne hb h36) ?_)))
    rw [bt_at_L hb]
    refine ev_const (a := Lib.indexByte (L S) b) ?_ (ev_neg (fun h => hm (ix_mem.1 h)) ?_)
    · unfold strings_IndexByte.f
      rw [u8_back]; rfl
    · rw [wrap_id (by omega) (by omega)]
      exact hr.1
  · refine Ev.step (fun _ => rfl) (ev_pos (by omega) (ev_pos (by omega) (ev_neg (bt_ne hb h36) ?_)))
    exact some_miss T S i b r hS hT hb hr.2 (L S).length 0 (by omega) (by rw [List.drop_zero]; exact hm)
theorem wrap_s {i n : Nat} (h : i ≤ 4611686018427387904) (hn : n ≤ 2) : wrap64 ((i : Int) + (n : Int)) = ((i + n : Nat) : Int) := by
  rw [wrap_id (by omega) (by omega)]
  omega
theorem beh_end {T : ByteArray} {i : Nat} (hT : i ≤ 4611686018427387904) (h : (L T).length ≤ i + 1) : Ev (fun k => smithyref07_behind.f k T (i : Int)) ((i + 1 : Nat) : Int) := by
  have hst := size_L T
  have e1 : wrap64 ((i : Int) + 1) = ((i + 1 : Nat) : Int) := wrap_s (n := 1) hT (by omega)
  unfold smithyref07_behind.f
  rw [e1]
  exact ev_pos (by omega) (ev_some rfl)
theorem beh_other {T : ByteArray} {i : Nat} {c : UInt8} (hT : T.size ≤ 4611686018427387904) (hc : (L T)[i + 1]? = some c) (h1 : c ≠ 40) (h2 : c ≠ 123) : Ev (fun k => smithyref07_behind.f k T (i : Int)) ((i + 2 : Nat) : Int) := by
  have hst := size_L T
  have hlt : i + 1 < (L T).length := (List.getElem?_eq_some_iff.1 hc).1
  have e1 : wrap64 ((i : Int) + 1) = ((i + 1 : Nat) : Int) := wrap_s (n := 1) (by omega) (by omega)
  have e2 : wrap64 ((i : Int) + 2) = ((i + 2 : Nat) : Int) := wrap_s (n := 2) (by omega) (by omega)
  unfold smithyref07_behind.f
  rw [e1, e2]
  exact ev_neg (by omega) (ev_pos (by omega) (ev_pos (by omega) (ev_neg (bt_ne hc h1) (ev_neg (bt_ne hc h2) (ev_some rfl)))))
theorem beh_open {T : ByteArray} {i : Nat} {c d : UInt8} {r : Int} (hT : T.size ≤ 4611686018427387904) (hc : (L T)[i + 1]? = some c) (h : c = 40 ∧ d = 41 ∨ c = 123 ∧ d = 125) (hr : Ev (fun k => smithyref07_behind.l0 k T (d.toNat : Int) ((i + 2 : Nat) : Int)) r) : Ev (fun k => smithyref07_behind.f k T (i : Int)) r := by
  have hst := size_L T
  have hlt : i + 1 < (L T).length := (List.getElem?_eq_some_iff.1 hc).1
  have e1 : wrap64 ((i : Int) + 1) = ((i + 1 : Nat) : Int) := wrap_s (n := 1) (by omega) (by omega)
  have e2 : wrap64 ((i : Int) + 2) = ((i + 2 : Nat) : Int) := wrap_s (n := 2) (by omega) (by omega)
  unfold smithyref07_behind.f
  rw [e1]
  refine ev_neg (by omega) (ev_pos (by omega) (ev_pos (by omega) ?_))
  rcases h with ⟨rfl, rfl⟩ | ⟨rfl, rfl⟩
  · refine ev_pos (bt_is hc rfl) (Ev.step (f := fun k => smithyref07_behind.l0 k T 41 (wrap64 ((i : Int) + 2))) (fun _ => rfl) ?_)
    rw [e2]; exact hr
  · refine ev_neg (bt_ne (c := 40) hc (by decide)) (ev_pos (bt_is hc rfl) (Ev.step (f := fun k => smithyref07_behind.l0 k T 125 (wrap64 ((i : Int) + 2))) (fun _ => rfl) ?_))
    rw [e2]; exact hr
/-- A money sign that is the last byte. -/
theorem finds_last {T S : ByteArray} {i : Nat} (hT : T.size ≤ 4611686018427387904) (hb : (L T)[i]? = some 36) (hl : (L T).length = i + 1) : Finds T S i (-1) := by
  have hst := size_L T
  have he := finds_end (T := T) (S := S) (i := i + 1) (by omega)
  have he2 := finds_end (T := T) (S := S) (i := i + 2) (by omega)
  have e1 : wrap64 ((i : Int) + 1) = ((i + 1 : Nat) : Int) := wrap_s (n := 1) (by omega) (by omega)
  have e2 : wrap64 (((i + 1 : Nat) : Int) + 1) = ((i + 2 : Nat) : Int) := wrap_s (i := i + 1) (n := 1) (by omega) (by omega)
  constructor
  · refine Ev.step (fun _ => rfl) (ev_pos (by omega) (ev_pos (by omega) (ev_pos (bt_is hb rfl) ?_)))
    rw [e1]
    refine ev_neg (by omega) (Ev.step (f := fun k => stmt_Find.l0 k T S (wrap64 (((i + 1 : Nat) : Int) + 1))) (fun _ => rfl) ?_)
    rw [e2]
    exact he2.1
  · refine Ev.step (fun _ => rfl) (ev_pos (by omega) (ev_pos (by omega) (ev_pos (bt_is hb rfl) ?_)))
    exact Ev.bind (beh_end (by omega) (by omega)) he.2
theorem finds_other {T S : ByteArray} {i : Nat} {c : UInt8} {r : Int} (hT : T.size ≤ 4611686018427387904) (hb : (L T)[i]? = some 36) (hc : (L T)[i + 1]? = some c) (h1 : c ≠ 40) (h2 : c ≠ 123) (hr : Finds T S (i + 2) r) : Finds T S i r := by
  have hst := size_L T
  have hlt : i + 1 < (L T).length := (List.getElem?_eq_some_iff.1 hc).1
  have e1 : wrap64 ((i : Int) + 1) = ((i + 1 : Nat) : Int) := wrap_s (n := 1) (by omega) (by omega)
  have e2 : wrap64 (((i + 1 : Nat) : Int) + 1) = ((i + 2 : Nat) : Int) := wrap_s (i := i + 1) (n := 1) (by omega) (by omega)
  constructor
  · refine Ev.step (fun _ => rfl) (ev_pos (by omega) (ev_pos (by omega) (ev_pos (bt_is hb rfl) ?_)))
    rw [e1]
    refine ev_pos (by omega) (ev_pos (by omega) (ev_neg (bt_ne hc h1) ?_))
    rw [show (bt T ((i + 1 : Nat) : Int) == 123) = false from beq_eq_false_iff_ne.2 (bt_ne hc h2)]
    refine Ev.step (f := fun k => stmt_Find.l0 k T S (wrap64 (((i + 1 : Nat) : Int) + 1))) (fun _ => rfl) ?_
    rw [e2]
    exact hr.1
  · refine Ev.step (fun _ => rfl) (ev_pos (by omega) (ev_pos (by omega) (ev_pos (bt_is hb rfl) ?_)))
    exact Ev.bind (beh_other hT hc h1 h2) hr.2
/-- What the program does at a bracket. -/
theorem find_open {T S : ByteArray} {i : Nat} {c d : UInt8} {r : Int} (hT : T.size ≤ 4611686018427387904) (hb : (L T)[i]? = some 36) (hc : (L T)[i + 1]? = some c) (h : c = 40 ∧ d = 41 ∨ c = 123 ∧ d = 125)
    (hr : Ev (fun k => if Lib.indexByte ((L T).drop (i + 1)) d < 0 then (some (-1)) else (stmt_Find.l0 k T S (wrap64 ((wrap64 (((i + 1 : Nat) : Int) + Lib.indexByte ((L T).drop (i + 1)) d)) + 1)))) r) : Ev (fun k => stmt_Find.l0 k T S (i : Int)) r := by
  have hst := size_L T
  have hlt : i + 1 < (L T).length := (List.getElem?_eq_some_iff.1 hc).1
  have e1 : wrap64 ((i : Int) + 1) = ((i + 1 : Nat) : Int) := wrap_s (n := 1) (by omega) (by omega)
  have ec : ∀ d : UInt8, strings_IndexByte.f (T.extract (((i + 1 : Nat) : Int)).toNat T.size) (d.toNat : Int) = some (Lib.indexByte ((L T).drop (i + 1)) d) := by
    intro d
    unfold strings_IndexByte.f
    rw [u8_back]
    show some (Lib.indexByte (L (T.extract (((i + 1 : Nat) : Int)).toNat T.size)) d) = _
    rw [L_extract, Int.toNat_natCast, List.take_of_length_le (by rw [List.length_drop]; omega)]
  refine Ev.step (fun _ => rfl) (ev_pos (by omega) (ev_pos (by omega) (ev_pos (bt_is hb rfl) ?_)))
  rw [e1]
  refine ev_pos (by omega) (ev_pos (by omega) ?_)
  have join : ∀ z : Bool, z = true → Ev (fun k => stmt_Find.j1 k T S ((i + 1 : Nat) : Int) z) r := by
    intro z hz
    refine Ev.step (fun _ => rfl) (ev_pos hz (ev_pos (by omega) (ev_pos (by omega) ?_)))
    rcases h with ⟨rfl, rfl⟩ | ⟨rfl, rfl⟩
    · exact ev_neg (bt_ne (c := 123) hc (by decide)) (ev_pos (by omega) (ev_const (ec 41) hr))
    · exact ev_pos (bt_is hc rfl) (ev_pos (by omega) (ev_const (ec 125) hr))
  by_cases h40 : c = 40
  · exact ev_pos (bt_is hc h40) (join true rfl)
  · refine ev_neg (bt_ne hc h40) (join _ ?_)
    have h123 : c = 123 := by
      rcases h with h | h
      · exact absurd h.1 h40
      · exact h.1
    exact beq_iff_eq.2 (bt_is hc h123)
theorem finds_shut {T S : ByteArray} {i o : Nat} {c d : UInt8} {r : Int} (hT : T.size ≤ 4611686018427387904) (hb : (L T)[i]? = some 36) (hc : (L T)[i + 1]? = some c) (h : c = 40 ∧ d = 41 ∨ c = 123 ∧ d = 125)
    (ho : (L T)[i + 2 + o]? = some d) (hn : ∀ k, i + 2 ≤ k → k < i + 2 + o → (L T)[k]? ≠ some d) (hr : Finds T S (i + 3 + o) r) : Finds T S i r := by
  have hst := size_L T
  have hlt : i + 2 + o < (L T).length := (List.getElem?_eq_some_iff.1 ho).1
  have hcd : c ≠ d := by rcases h with ⟨rfl, rfl⟩ | ⟨rfl, rfl⟩ <;> decide
  constructor
  · refine find_open hT hb hc h ?_
    have hge : 0 ≤ Lib.indexByte ((L T).drop (i + 1)) d := ix_mem.2 (List.mem_iff_getElem?.2 ⟨1 + o, by rw [List.getElem?_drop, show i + 1 + (1 + o) = i + 2 + o by omega]; exact ho⟩)
    obtain ⟨q, hq, hq1, hq2⟩ := ix_some hge
    rw [List.getElem?_drop] at hq1
    have e : q = 1 + o := by
      rcases Nat.lt_trichotomy q (1 + o) with hlt' | he | hgt
      · rcases Nat.eq_zero_or_pos q with rfl | hp
        · rw [Nat.add_zero, hc] at hq1
          exact absurd (Option.some.inj hq1) hcd
        · exact absurd hq1 (hn _ (by omega) (by omega))
      · exact he
      · have := hq2 (1 + o) hgt
        rw [List.getElem?_drop, show i + 1 + (1 + o) = i + 2 + o by omega] at this
        exact absurd ho this
    rw [hq, e]
    refine ev_neg (by omega) ?_
    have w1 : wrap64 (((i + 1 : Nat) : Int) + ((1 + o : Nat) : Int)) = ((i + 2 + o : Nat) : Int) := by rw [wrap_id (by omega) (by omega)]; omega
    rw [w1, wrap_id (by omega) (by omega), show (((i + 2 + o : Nat) : Int) + 1) = ((i + 3 + o : Nat) : Int) by omega]
    exact hr.1
  · refine Ev.step (fun _ => rfl) (ev_pos (by omega) (ev_pos (by omega) (ev_pos (bt_is hb rfl) ?_)))
    refine Ev.bind (beh_open hT hc h (beh_found T d hT o (i + 2) ho hn)) ?_
    rw [show i + 2 + o + 1 = i + 3 + o by omega]
    exact hr.2
theorem finds_unshut {T S : ByteArray} {i : Nat} {c d : UInt8} (hT : T.size ≤ 4611686018427387904) (hb : (L T)[i]? = some 36) (hc : (L T)[i + 1]? = some c) (h : c = 40 ∧ d = 41 ∨ c = 123 ∧ d = 125)
    (hn : ∀ k, i + 2 ≤ k → (L T)[k]? ≠ some d) : Finds T S i (-1) := by
  have hst := size_L T
  have hlt : i + 1 < (L T).length := (List.getElem?_eq_some_iff.1 hc).1
  have hcd : c ≠ d := by rcases h with ⟨rfl, rfl⟩ | ⟨rfl, rfl⟩ <;> decide
  constructor
  · refine find_open hT hb hc h (ev_pos ?_ (ev_some rfl))
    by_cases hge : 0 ≤ Lib.indexByte ((L T).drop (i + 1)) d
    · obtain ⟨q, hq, hq1, hq2⟩ := ix_some hge
      rw [List.getElem?_drop] at hq1
      rcases Nat.eq_zero_or_pos q with rfl | hp
      · rw [Nat.add_zero, hc] at hq1
        exact absurd (Option.some.inj hq1) hcd
      · exact absurd hq1 (hn _ (by omega))
    · omega
  · refine Ev.step (fun _ => rfl) (ev_pos (by omega) (ev_pos (by omega) (ev_pos (bt_is hb rfl) ?_)))
    refine Ev.bind (beh_open hT hc h (beh_none T d hT (L T).length (i + 2) (by omega) hn)) ?_
    rw [hst]
    exact (finds_end (Nat.le_refl _)).2
/-- BOTH COME TO ONE PLACE. -/
theorem finds_ex (T S : ByteArray) (hT : T.size ≤ 4611686018427387904) (hS : S.size ≤ 4611686018427387904) : ∀ (m i : Nat), (L T).length - i = m → ∃ r : Int, Finds T S i r ∧ -1 ≤ r ∧ r < (T.size : Int) ∧ (0 ≤ r → ∃ b, (L T)[r.toNat]? = some b ∧ b ∈ L S) := by
  intro m
  induction m using Nat.strongRecOn with
  | _ m ih =>
  intro i hm
  have hst := size_L T
  by_cases hlt : i < (L T).length
  · obtain ⟨b, hb⟩ : ∃ b, (L T)[i]? = some b := ⟨_, List.getElem?_eq_getElem hlt⟩
    by_cases h36 : b = 36
    · subst h36
      by_cases hl : (L T).length = i + 1
      · exact ⟨-1, finds_last hT hb hl, by omega, by omega, fun h => absurd h (by omega)⟩
      · obtain ⟨c, hc⟩ : ∃ c, (L T)[i + 1]? = some c := ⟨_, List.getElem?_eq_getElem (by omega)⟩
        by_cases hop : c = 40 ∨ c = 123
        · obtain ⟨d, hd⟩ : ∃ d : UInt8, c = 40 ∧ d = 41 ∨ c = 123 ∧ d = 125 := by
            rcases hop with h | h
            · exact ⟨41, .inl ⟨h, rfl⟩⟩
            · exact ⟨125, .inr ⟨h, rfl⟩⟩
          by_cases hm' : d ∈ (L T).drop (i + 2)
          · obtain ⟨o, _, ho, hon⟩ := ix_some (ix_mem.2 hm')
            rw [List.getElem?_drop] at ho
            have hlo : i + 2 + o < (L T).length := (List.getElem?_eq_some_iff.1 ho).1
            obtain ⟨r, hr, h1, h2, h3⟩ := ih ((L T).length - (i + 3 + o)) (by omega) (i + 3 + o) rfl
            refine ⟨r, finds_shut hT hb hc hd ho (fun k h1 h2 => ?_) hr, h1, h2, h3⟩
            have := hon (k - (i + 2)) (by omega)
            rw [List.getElem?_drop, show i + 2 + (k - (i + 2)) = k by omega] at this
            exact this
          · refine ⟨-1, finds_unshut hT hb hc hd (fun k h1 h2 => hm' ?_), by omega, by omega, fun h => absurd h (by omega)⟩
            exact List.mem_iff_getElem?.2 ⟨k - (i + 2), by rw [List.getElem?_drop, show i + 2 + (k - (i + 2)) = k by omega]; exact h2⟩
        · obtain ⟨r, hr, h1, h2, h3⟩ := ih ((L T).length - (i + 2)) (by omega) (i + 2) rfl
          exact ⟨r, finds_other hT hb hc (fun h => hop (.inl h)) (fun h => hop (.inr h)) hr, h1, h2, h3⟩
    · by_cases hmS : b ∈ L S
      · exact ⟨i, finds_hit hS hb h36 hmS, by omega, by omega, fun _ => ⟨b, by rw [Int.toNat_natCast]; exact hb, hmS⟩⟩
      · obtain ⟨r, hr, h1, h2, h3⟩ := ih ((L T).length - (i + 1)) (by omega) (i + 1) rfl
        exact ⟨r, finds_on hS hT hb h36 hmS hr, h1, h2, h3⟩
  · exact ⟨-1, finds_end (by omega), by omega, by omega, fun h => absurd h (by omega)⟩
end Go.Proofs.YtjdielkpdnedeaaDoor.Plain
