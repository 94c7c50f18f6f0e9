/- special.Merge. -/
import Derived.Test.YtkbcfbelpjifnaaSpec4
import Derived.Lib.OwnKind
import Derived.Deep.RegionHeld3
namespace Go.Proofs.Ytkbcfbelpjifnaa.Spec
open Go Go.RowKit Go.Proofs Go.Proofs.YtkbcfbelpjifnaaW.PrintWords Go.Proofs.Ytkbcfbelpjifnaa.PX Go.Proofs.Ytkbcfbelpjifnaa.Plain
set_option linter.unusedVariables false
set_option linter.unusedSimpArgs false

abbrev Rl := S30
def dfl : Rl := ⟨⟨#[]⟩, [], [], false⟩
abbrev nms (m : List Rl) : List ByteArray := m.map (·.f0)
/-- Where a text stands first; the row's length: nowhere. -/
def ixOf (s : ByteArray) : List ByteArray → Nat
  | [] => 0
  | t :: l => if t = s then 0 else ixOf s l + 1
theorem ixOf_at {s : ByteArray} : ∀ {l : List ByteArray}, s ∈ l → l[ixOf s l]? = some s
  | [], h => by cases h
  | t :: l, h => by
    unfold ixOf
    by_cases e : t = s
    · rw [if_pos e]; simp [e]
    · rw [if_neg e]
      rcases List.mem_cons.1 h with h | h
      · exact absurd h.symm e
      · simpa using ixOf_at h
theorem ixOf_no {s : ByteArray} : ∀ {l : List ByteArray}, s ∉ l → ixOf s l = l.length
  | [], h => rfl
  | t :: l, h => by
    unfold ixOf
    simp at h
    rw [if_neg (fun e => h.1 e.symm), ixOf_no h.2]
    simp
def put1 (m : List Rl) (s : ByteArray) : List Rl := if memB s (nms m) = true then m else m ++ [⟨s, [], [], false⟩]
/-- What a rule that stands becomes. -/
def upd (x y : Rl) : Rl := if x.f3 = true then ⟨y.f0, uniq [] (y.f1 ++ x.f1), x.f2, true⟩ else ⟨y.f0, uniq [] (y.f1 ++ x.f1), y.f2, y.f3⟩
def mg (i : Nat) (m : List Rl) : List Rl → List Rl × Int × Int
  | [] => (m, 0, 0)
  | x :: l => if x.f3 = true ∧ ((put1 m x.f0).getD (ixOf x.f0 (nms m)) dfl).f3 = true then ([], 92, (i : Int))
    else if 64 < (uniq [] (((put1 m x.f0).getD (ixOf x.f0 (nms m)) dfl).f1 ++ x.f1)).length then ([], 2, (i : Int))
    else mg (i + 1) ((put1 m x.f0).set (ixOf x.f0 (nms m)) (upd x ((put1 m x.f0).getD (ixOf x.f0 (nms m)) dfl))) l
def mergeL (l : List Rl) : List Rl × Int × Int := if (askedL l).1 = 0 then mg 0 [] l else ([], (askedL l).1, (askedL l).2)
theorem ask_ok : ∀ (l : List Rl) (i : Nat), (askL i l).1 = 0 → ∀ x ∈ l, ckRule x = 0
  | [], _, _ => by simp
  | x :: l, i, h => by
    unfold askL at h
    by_cases hx : ckRule x = 0
    · rw [if_pos hx] at h
      intro y hy
      rcases List.mem_cons.1 hy with rfl | hy
      · exact hx
      · exact ask_ok l (i + 1) h y hy
    · rw [if_neg hx] at h
      exact absurd h hx
theorem asked_ok {l : List Rl} (h : (askedL l).1 = 0) : l.length ≤ 512 ∧ ∀ x ∈ l, ckRule x = 0 := by
  unfold askedL at h
  by_cases hb : 512 < l.length
  · rw [if_pos hb] at h; cases h
  · rw [if_neg hb] at h
    exact ⟨by omega, ask_ok l 0 h⟩
theorem ck_ok {x : Rl} (h : ckRule x = 0) : isName x.f0 = true ∧ x.f0.size ≤ 64 ∧ x.f1.length ≤ 64 ∧ x.f2.length ≤ 64 := by
  unfold ckRule at h
  split at h
  · cases h
  · rename_i h1
    split at h
    · cases h
    · rename_i h2
      have hn : isName x.f0 = true := by
        simp at h1
        exact h1.1
      refine ⟨hn, ?_, by omega, by omega⟩
      unfold isName at hn
      simp at hn
      omega
theorem put1_len {m : List Rl} {s : ByteArray} : ixOf s (nms m) < (put1 m s).length := by
  unfold put1
  split
  · rename_i h
    have := (List.getElem?_eq_some_iff.1 (ixOf_at (memB_iff.1 h))).1
    simpa using this
  · rename_i h
    rw [ixOf_no (memB_no.1 (by simpa using h))]
    simp
theorem put1_names {m : List Rl} {s : ByteArray} : nms (put1 m s) = if memB s (nms m) = true then nms m else nms m ++ [s] := by
  unfold put1
  split <;> simp [nms]
theorem set_names {m : List Rl} {j : Nat} {x y : Rl} (h : m[j]? = some y) (e : x.f0 = y.f0) : nms (m.set j x) = nms m := by
  unfold nms
  rw [List.map_set, e]
  have hj := (List.getElem?_eq_some_iff.1 h)
  obtain ⟨hl, rfl⟩ := hj
  apply List.ext_getElem?
  intro i
  rw [List.getElem?_set]
  split
  · rename_i e; subst e
    simp [hl]
  · rfl
theorem upd_f0 (x y : Rl) : (upd x y).f0 = y.f0 := by unfold upd; split <;> rfl
theorem upd_f1 (x y : Rl) : (upd x y).f1 = uniq [] (y.f1 ++ x.f1) := by unfold upd; split <;> rfl
/-! ### the box and the rows beside the map -/
theorem IxMap.blk {w : World} {b : Nat} {N : List ByteArray} (h : IxMap w b N) : ∃ es clock, w.heap[b]? = some (.map es clock) := by
  obtain ⟨D, ⟨es, clock, hb, _⟩, _⟩ := h
  exact ⟨es, clock, hb⟩
theorem IxMap.ne_cells {w : World} {b g : Nat} {N : List ByteArray} (h : IxMap w b N) {c : Array Value} {e : TypeId} {fz : Nat × Nat} (hg : w.heap[g]? = some (.cells c e fz)) : b ≠ g := by
  rintro rfl
  obtain ⟨es, clock, hb⟩ := h.blk
  rw [hb] at hg
  cases hg
abbrev Out (w : World) (base : Nat) (v : Value) (m : List Rl) : Prop := k30.R 30 w base (fun _ => True) v m
theorem IxMap.ne_out {w : World} {b base : Nat} {N : List ByteArray} (h : IxMap w b N) {v : Value} {m : List Rl} (ho : Out w base v m) : some b ≠ v.ownBlock := by
  intro e
  obtain ⟨inner, hown⟩ := Kd.R_own ho
  obtain ⟨c, fz, hc⟩ := Lib.ownsRow_kind hown b e.symm
  exact h.ne_cells hc rfl
theorem IxMap.out_kept {w w' : World} {b base : Nat} {N : List ByteArray} (h : IxMap w b N) {v : Value} {m : List Rl} (ho : Out w base v m) (hg : w.grownBy w' (some b)) : Out w' base v m :=
  Kd.R_mono (Kd.R_grown (Kd.R_mono (Kd.R_bound ho) (ok' := fun k => k ≠ b) (fun k hk => by
    obtain ⟨_, _, _, _, _, cells, hc⟩ := hk
    exact fun e => h.ne_cells hc e.symm)) hg (fun k hk e => hk (by injection e))) (fun _ _ => trivial)
/-- The box of a rule. -/
abbrev boxO (x : Rl) (A1 : Option Addr) (c1 : Nat) (A2 : Option Addr) (c2 : Nat) : Obj := .cells #[.string x.f0, .slice A1 x.f1.length c1, .slice A2 x.f2.length c2, .bool x.f3] 30
theorem box_cells {w : World} {g : Nat} {x : Rl} {A1 : Option Addr} {c1 : Nat} {A2 : Option Addr} {c2 : Nat} (h : w.heap[g]? = some (boxO x A1 c1 A2 c2)) :
    w.cell? ⟨g, 0, none⟩ = some (.string x.f0) ∧ w.cell? ⟨g, 1, none⟩ = some (.slice A1 x.f1.length c1) ∧ w.cell? ⟨g, 2, none⟩ = some (.slice A2 x.f2.length c2) ∧ w.cell? ⟨g, 3, none⟩ = some (.bool x.f3) :=
  ⟨cell_of_row w g 0 _ _ _ h, cell_of_row w g 1 _ _ _ h, cell_of_row w g 2 _ _ _ h, cell_of_row w g 3 _ _ _ h⟩
/-- A rule of one's own row: its four cells, its two rows. -/
theorem out_at {w : World} {base g cap : Nat} {M : List Rl} (h : Out w base (.slice (some ⟨g, 0, none⟩) M.length cap) M) {j : Nat} {y : Rl} (hy : M[j]? = some y) :
    ∃ Ay cy Az cz, w.cell? ⟨g, j * 4 + 0, none⟩ = some (.string y.f0) ∧ w.cell? ⟨g, j * 4 + 1, none⟩ = some (.slice Ay y.f1.length cy) ∧ w.cell? ⟨g, j * 4 + 2, none⟩ = some (.slice Az y.f2.length cz) ∧ w.cell? ⟨g, j * 4 + 3, none⟩ = some (.bool y.f3) ∧
      Kd.string.C w Ay y.f1.length y.f1 ∧ Kd.string.C w Az y.f2.length y.f2 ∧ Kd.string.R 9 w base (fun k => True ∧ k ≠ g) (.slice Ay y.f1.length cy) y.f1 ∧ Kd.string.R 9 w base (fun k => True ∧ k ≠ g) (.slice Az y.f2.length cz) y.f2 ∧ ∀ i, w.frozen? ⟨g, j * 4 + i, none⟩ = false := by
  have hj := (List.getElem?_eq_some_iff.1 hy).1
  obtain ⟨c, hcl, hM, hcc, hfr⟩ := Kd.R_elem h dfl (j : Int) (by omega) (by omega)
  rw [show ((j : Int)).toNat = j by omega] at hM hcc hfr
  rw [show k30.sz = 4 from rfl] at hcc hfr
  rw [show M.getD j dfl = y by rw [List.getD_eq_getElem?_getD, hy]; rfl] at hM
  obtain ⟨y1, y2, rfl, hR1, hR2⟩ := k30_openM hM
  obtain ⟨Ay, cy, rfl, _, hC1⟩ := Kd.R_reads hR1
  obtain ⟨Az, cz, rfl, _, hC2⟩ := Kd.R_reads hR2
  exact ⟨Ay, cy, Az, cz, hcc 0 _ rfl, hcc 1 _ rfl, hcc 2 _ rfl, hcc 3 _ rfl, hC1, hC2, hR1, hR2, hfr⟩
/-- One of a rule's cells is written anew. -/
theorem out_put {w : World} {base g cap : Nat} {M : List Rl} (h : Out w base (.slice (some ⟨g, 0, none⟩) M.length cap) M) {j : Nat} {y : Rl} (hy : M[j]? = some y) (s : Nat) (hs : s < 4) (u : Value) (x' : Rl)
    (hM : ∀ v1 v2, Kd.string.R 9 w base (fun k => True ∧ k ≠ g) v1 y.f1 → Kd.string.R 9 w base (fun k => True ∧ k ≠ g) v2 y.f2 → k30.M w base (fun k => True ∧ k ≠ g) x' ([.string y.f0, v1, v2, .bool y.f3].take s ++ [u] ++ [.string y.f0, v1, v2, .bool y.f3].drop (s + 1))) :
    Out (w.setCell ⟨g, j * 4 + s, none⟩ u) base (.slice (some ⟨g, 0, none⟩) (M.set j x').length cap) (M.set j x') ∧ w.grownBy (w.setCell ⟨g, j * 4 + s, none⟩ u) (some g) := by
  have hj := (List.getElem?_eq_some_iff.1 hy).1
  obtain ⟨c, hcl, hMy, hcc, hfr⟩ := Kd.R_elem h dfl (j : Int) (by omega) (by omega)
  rw [show ((j : Int)).toNat = j by omega, show M.getD j dfl = y by rw [List.getD_eq_getElem?_getD, hy]; rfl] at hMy
  obtain ⟨y1, y2, rfl, hR1, hR2⟩ := k30_openM hMy
  have := Kd.R_seg h (j : Int) (by omega) (by omega) (seg := [u]) (j := s) (x' := x') hcl hcc (by rw [show k30.sz = 4 from rfl]; simp; omega) (hM y1 y2 hR1 hR2) (fun k hk => hk)
  rw [show ((j : Int)).toNat = j by omega, show k30.sz = 4 from rfl] at this
  rw [List.length_set]
  exact this
end Go.Proofs.Ytkbcfbelpjifnaa.Spec
