/- TableOver and TableFrom: their walks, as their rows ask for them. -/
import Derived.Test.YtbpaejbecgaepaaFromF
import Derived.Test.YtbpaejbecgaepaaSmallT
import Derived.Test.YtbpaejbecgaepaaRowK
import Derived.Deep.RegionWith
namespace Go.Proofs.Ytbpaejbecgaepaa.TabIS
open Go Go.RowKit Go.Proofs Go.Proofs.Ytbpaejbecgaepaa.Hand
set_option linter.unusedVariables false
set_option linter.unusedSimpArgs false

theorem rdp_of {w : World} {base : Nat} {A : Option Addr} {c : Nat} {xs : Prs} (h : RRows w base (.slice A xs.length c) xs) : RdP w A xs := fun i x hx => by
  have hi := (List.getElem?_eq_some_iff.1 hx).1
  obtain ⟨g, cap, e, _, _⟩ := own_form h (by omega)
  cases e
  obtain ⟨h0, h1⟩ := rrows_cell h hx
  exact ⟨g, 0, rfl, by rw [Nat.zero_add]; exact h0, by rw [Nat.zero_add]; exact h1⟩
set_option maxHeartbeats 4000000 in
set_option maxRecDepth 100000 in
theorem table_over (A : Option Addr) (c : Nat) (l : List Int) (most : Int) (w : World) (hl : l.length ≤ 1048576) (hr : ∀ i x, l[i]? = some x → ∃ ad, A = some ad ∧ w.cell? (ad.add i) = some (.int .i64 x)) :
    Calls Try.prog 3 #[.slice A l.length c, .int .i64 most] w fun e w' => e = .returned (.bool true) ∧ Below w.heap.size w w' := by
  go_enter Try.func3, Try.ntmps3
  go_wp2_with fail
  refine (filled_calls A c l _ w hl hr).mono ?_
  rintro e w1 ⟨a, va, b, vb, xs, rfl, hF⟩
  have hlen := hF.len
  go_wp2_with fail
  refine (TabSI.small_calls w1).mono ?_
  rintro e w2 ⟨rfl, hb2⟩
  have hD2 := hF.duo.kept hb2
  obtain ⟨A2, c2, rfl⟩ := own_slice hD2.tb.rows
  have hc2 := cell_of_row w2 b 0 _ _ _ hD2.tb.blk
  go_wp2_with fail
  refine (over_fn _ a va A2 c2 xs most w2 hD2.ta (rdp_of hD2.tb.rows) (by omega)).mono ?_
  rintro e w3 ⟨rfl, hb3⟩
  have hD3 := hD2.kept hb3
  have hc3 := cell_of_row w3 b 0 _ _ _ hD3.tb.blk
  go_wp2_with fail
  refine (over_fn _ a va A2 c2 xs (-1) w3 hD3.ta (rdp_of hD3.tb.rows) (by omega)).mono ?_
  rintro e w4 ⟨rfl, hb4⟩
  go_wp2
  go_ret
  exact ⟨rfl, below_trans hF.below (below_trans (below_trans hb2 hb3) hb4)⟩
theorem rdp_drop {w : World} {base g cap : Nat} {xs : Prs} (h : RRows w base (.slice (some ⟨g, 0, none⟩) xs.length cap) xs) {r : Nat} (hr : r ≤ xs.length) {o : Nat} (ho : o = r * 2 ∨ r = xs.length) : RdP w (some ⟨g, o, none⟩) (xs.drop r) := fun i x hx => by
  rw [List.getElem?_drop] at hx
  have hi := (List.getElem?_eq_some_iff.1 hx).1
  rcases ho with rfl | rfl
  · obtain ⟨h0, h1⟩ := rrows_cell h hx
    exact ⟨g, _, rfl, by rw [show r * 2 + i * 2 = (r + i) * 2 by omega]; exact h0, by rw [show r * 2 + i * 2 + 1 = (r + i) * 2 + 1 by omega]; exact h1⟩
  · omega
set_option maxHeartbeats 4000000 in
set_option maxRecDepth 100000 in
theorem table_from (A : Option Addr) (c : Nat) (l : List Int) (k : Int) (w : World) (hl : l.length ≤ 1048576) (hr : ∀ i x, l[i]? = some x → ∃ ad, A = some ad ∧ w.cell? (ad.add i) = some (.int .i64 x)) :
    Calls Try.prog 4 #[.slice A l.length c, .int .i64 k] w fun e w' => e = .returned (.bool true) ∧ Below w.heap.size w w' := by
  have mixed : Try.prog.follows Departure.mixedOrders = true := by kernel_rfl
  go_enter Try.func4, Try.ntmps4
  go_wp2_with fail
  refine (filled_calls A c l _ w hl hr).mono ?_
  rintro e w1 ⟨a, va, b, vb, xs, rfl, hF⟩
  have hlen := hF.len
  have hd1 : Below w1.heap.size w1 w1.drew := ⟨rfl, rfl, rfl, Nat.le_refl _, fun _ _ => rfl⟩
  have hrank := fun W (hB : Below w1.heap.size w1 W) => ref_rank w.heap.size b vb xs k (rk xs k) W (hF.duo.kept hB).tb (place_rk xs k hF.srt) (by omega)
  have hrx := (place_rk xs k hF.srt).1
  obtain ⟨r, hrk⟩ : ∃ r, rk xs k = r := ⟨_, rfl⟩
  have hpl := place_rk xs k hF.srt
  rw [hrk] at hrank hrx hpl
  have hcell := fun W (hB : Below w1.heap.size w1 W) => cell_of_row W b 0 _ _ _ (hF.duo.kept hB).tb.blk
  have hc1 := hcell w1 (Below.refl _ _)
  have d0 : (0 : Int) ≤ (r : Int) := by omega
  have d1 : (r : Int) ≤ (xs.length : Int) := by omega
  have hs := hF.duo.size
  obtain ⟨A2, c2, rfl⟩ := own_slice hF.duo.tb.rows
  obtain ⟨A3, hA3⟩ : ∃ A3, (if c2 = r then A2 else Option.map (fun x => x.add (r * 2)) A2) = A3 := ⟨_, rfl⟩
  have hrd : ∀ W, Below w1.heap.size w1 W → RdP W A3 (xs.drop r) := fun W hB => by
    have hR := (hF.duo.kept hB).tb.rows
    rcases hR.2 with ⟨e, hn⟩ | ⟨g, cap, cur, e, _, _, hcc, _⟩
    · have : xs = [] := List.eq_nil_of_length_eq_zero hn
      subst this
      intro i x h
      simp at h
    · cases e
      rw [← hA3]
      split
      · exact rdp_drop hR hrx (.inr (by omega))
      · have e2 : Option.map (fun x : Addr => x.add (r * 2)) (some ⟨g, 0, none⟩) = some ⟨g, r * 2, none⟩ := by simp [Addr.add_lit]
        rw [e2]
        exact rdp_drop hR hrx (.inl rfl)
  have hcc : xs.length ≤ c2 := by
    rcases hF.duo.tb.rows.2 with ⟨e, hn⟩ | ⟨g, cap, cur, e, _, _, hcc, _⟩
    · injection e with e1 e2 e3
      omega
    · cases e; exact hcc
  have hfrom : ∀ W, Below w1.heap.size w1 W → Calls Try.prog 13 #[.pointer (some ⟨a, 0, none⟩), .slice A3 (xs.length - r) (c2 - r), .int .i64 k] W fun e w' => e = .returned (.bool true) ∧ Below W.heap.size W w' := fun W hB => by
    have h := from_fn w.heap.size a va A3 (c2 - r) xs (xs.drop r) k r W (hF.duo.kept hB).ta hpl rfl (Nat.le_trans hs hB.size) (hrd W hB) (by omega) (by rw [List.length_drop]; omega)
    rw [List.length_drop] at h
    exact h
  clear hrd
  go_wp2_with fail
  go_region_with (first
    | (go_at_call 11; refine (TabSI.small_calls _).mono ?_; rintro e w2 ⟨rfl, hb2'⟩; have hb2 := below_trans hd1 hb2'; have hc2 := hcell w2 hb2)
    | (go_at_call 14; refine (hrank w2 hb2).mono ?_; rintro e w3 ⟨rfl, rfl⟩)
    | (go_at_call 13; refine (hfrom _ (by assumption)).mono ?_; rintro e w4 ⟨rfl, hb4⟩))
  all_goals go_wp2
  all_goals go_ret
  all_goals exact ⟨rfl, below_trans hF.below (below_trans (by assumption) hb4)⟩
end Go.Proofs.Ytbpaejbecgaepaa.TabIS
namespace Go.Proofs.Ytbpaejbecgaepaa.Hand
open Go Go.RowKit Go.Proofs Go.Proofs.YtbpaejbecgaepaaW.PrintWords Go.Proofs.Ytbpaejbecgaepaa.Opens
set_option linter.unusedVariables false
theorem TableOver.row (A : Option Addr) (c : Nat) (l : List Int) (most : Int) (w : World) (hB : bkL (fun _ => 1) l + 1 ≤ 1048576) (hw : (Lit.int .i64 most).wf = true) (hr : (Kd.int .i64).C w A l.length l) (hc : l.length ≤ c) :
    Calls Try.prog 3 #[.slice A l.length c, .int .i64 most] w fun e w' => e = .returned (.bool true) ∧ Below w.heap.size w w' :=
  TabIS.table_over A c l most w (by unfold bkL at hB; rw [sum_ones] at hB; omega) (ints_of hr)
theorem TableFrom.row (A : Option Addr) (c : Nat) (l : List Int) (k : Int) (w : World) (hB : bkL (fun _ => 1) l + 1 ≤ 1048576) (hw : (Lit.int .i64 k).wf = true) (hr : (Kd.int .i64).C w A l.length l) (hc : l.length ≤ c) :
    Calls Try.prog 4 #[.slice A l.length c, .int .i64 k] w fun e w' => e = .returned (.bool true) ∧ Below w.heap.size w w' :=
  TabIS.table_from A c l k w (by unfold bkL at hB; rw [sum_ones] at hB; omega) (ints_of hr)
end Go.Proofs.Ytbpaejbecgaepaa.Hand
