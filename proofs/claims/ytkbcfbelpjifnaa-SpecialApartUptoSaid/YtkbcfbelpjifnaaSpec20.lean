/- speaks. -/
import Derived.Test.YtkbcfbelpjifnaaSpec18
namespace Go.Proofs.Ytkbcfbelpjifnaa.Spec
open Go Go.RowKit Go.Proofs Go.Proofs.YtkbcfbelpjifnaaW.PrintWords Go.Proofs.Ytkbcfbelpjifnaa.PX Go.Proofs.Ytkbcfbelpjifnaa.Plain
set_option linter.unusedVariables false
set_option linter.unusedSimpArgs false

abbrev bC : ByteArray := ⟨#[46, 99]⟩
abbrev bY : ByteArray := ⟨#[46, 121]⟩
/-- The three lines that speaks asks Of about, and the two that it asks Merge about. -/
abbrev L3 : List Rl := [⟨sSuf, [bC], [], false⟩, ⟨sSuf, [], [], false⟩, ⟨sSuf, [bY, bC], [], false⟩]
abbrev L2 : List Rl := [⟨⟨#[97]⟩, [⟨#[98]⟩], [], false⟩, ⟨⟨#[97]⟩, [⟨#[99]⟩, ⟨#[98]⟩], [⟨#[120]⟩], true⟩]
theorem ofL3 (LS : Nat → Rl → Sp → Int × Sp) : (ofL LS L3).2 = (0, 0) := by kernel_rfl
theorem ofL3s (LS : Nat → Rl → Sp → Int × Sp) : (ofL LS L3).1.r 0 = [bY, bC] := by kernel_rfl
theorem mergeL2 : mergeL L2 = ([⟨⟨#[97]⟩, [⟨#[98]⟩, ⟨#[99]⟩], [⟨#[120]⟩], true⟩], 0, 0) := by kernel_rfl
theorem texts1 : smithyplain_Texts.f 5 [bY, bC] [bY, bC] = some true := by kernel_rfl
theorem texts2 : smithyplain_Texts.f 5 [(⟨#[98]⟩ : ByteArray), ⟨#[99]⟩] [⟨#[98]⟩, ⟨#[99]⟩] = some true := by kernel_rfl
theorem add0 (g i : Nat) : (⟨g, 0, none⟩ : Addr).add i = ⟨g, i, none⟩ := by
  unfold Addr.add
  by_cases h : i = 0
  · subst h; simp
  · simp [h]
/-- A row of texts that a block holds. -/
theorem strC {W : World} {g : Nat} {l : List ByteArray} (hl : l.length ≤ 1099511627776) (h : ∀ i s, l[i]? = some s → W.cell? ⟨g, i, none⟩ = some (.string s)) : Kd.string.C W (some ⟨g, 0, none⟩) l.length l := by
  refine ⟨rfl, by omega, fun h0 => ⟨_, rfl, fun i x hx => ⟨[.string x], rfl, rfl, fun j u hu => ?_⟩⟩⟩
  have hj : j = 0 := by
    have := (List.getElem?_eq_some_iff.1 hu).1
    simpa using this
  subst hj
  simp at hu
  subst hu
  have hz : Kd.string.sz = 1 := rfl
  rw [hz, add0]
  simpa using h i x hx
/-- A row of rules that a block holds. -/
theorem rulC {W : World} {g : Nat} {l : List Rl} (hl : l.length ≤ 1099511627776) (h : ∀ i x, l[i]? = some x → ∃ A1 c1 A2 c2, RulAt W ⟨g, i * 4, none⟩ x A1 c1 A2 c2) : k30.C W (some ⟨g, 0, none⟩) l.length l := by
  refine ⟨rfl, by omega, fun h0 => ⟨_, rfl, fun i x hx => ?_⟩⟩
  obtain ⟨A1, c1, A2, c2, hr⟩ := h i x hx
  refine ⟨[.string x.f0, .slice A1 x.f1.length c1, .slice A2 x.f2.length c2, .bool x.f3], rfl, k30_mk W x hr.l1 hr.r1 hr.l2 hr.r2, fun j u hu => ?_⟩
  have hz : k30.sz = 4 := rfl
  rw [hz, add0]
  rcases j with _ | _ | _ | _ | j
  · simp at hu; subst hu; exact hr.e0
  · simp at hu; subst hu; exact hr.e1
  · simp at hu; subst hu; exact hr.e2
  · simp at hu; subst hu; exact hr.e3
  · simp at hu
theorem rulHeap {W : World} {g : Nat} {cs : Array Value} {t : TypeId} {fz : Nat × Nat} (h : W.heap[g]? = some (.cells cs t fz)) (i : Nat) (x : Rl) (A1 : Option Addr) (c1 : Nat) (A2 : Option Addr) (c2 : Nat)
    (k0 : cs[i * 4]? = some (.string x.f0)) (k1 : cs[i * 4 + 1]? = some (.slice A1 x.f1.length c1)) (k2 : cs[i * 4 + 2]? = some (.slice A2 x.f2.length c2)) (k3 : cs[i * 4 + 3]? = some (.bool x.f3)) (l1 : x.f1.length ≤ c1) (l2 : x.f2.length ≤ c2)
    (r1 : Kd.string.C W A1 x.f1.length x.f1) (r2 : Kd.string.C W A2 x.f2.length x.f2) : RulAt W ⟨g, i * 4, none⟩ x A1 c1 A2 c2 :=
  ⟨(cell_of_row W g _ _ _ _ h).trans k0, (cell_of_row W g _ _ _ _ h).trans k1, (cell_of_row W g _ _ _ _ h).trans k2, (cell_of_row W g _ _ _ _ h).trans k3, l1, l2, r1, r2⟩
abbrev o1 : Obj := .cells #[.string bC] 9
abbrev o2 : Obj := .cells #[.string bY, .string bC] 9
abbrev o3 (g : Nat) : Obj := .cells #[.string sSuf, .slice (some ⟨g, 0, none⟩) 1 1, .slice none 0 0, .bool false, .string sSuf, .slice none 0 0, .slice none 0 0, .bool false, .string sSuf, .slice (some ⟨g + 1, 0, none⟩) 2 2, .slice none 0 0, .bool false] 30
theorem nilC (W : World) : Kd.string.C W none ([] : List ByteArray).length [] := Kd.C_nil _ _
theorem of_row {W : World} {g : Nat} {l : List ByteArray} {t : TypeId} {fz : Nat × Nat} (hl : l.length ≤ 1099511627776) (h : W.heap[g]? = some (.cells (l.map Value.string).toArray t fz)) : Kd.string.C W (some ⟨g, 0, none⟩) l.length l :=
  strC hl fun i s hs => by rw [cell_of_row W g i _ _ _ h]; simp [hs]
theorem L3C (w : World) : k30.C (((w.alloc o1).alloc o2).alloc (o3 w.heap.size)) (some ⟨w.heap.size + 1 + 1, 0, none⟩) L3.length L3 := by
  have h1 : (w.alloc o1).heap[w.heap.size]? = some o1 := heap_alloc_new w _
  have s1 : (w.alloc o1).heap.size = w.heap.size + 1 := by simp
  have h2 : ((w.alloc o1).alloc o2).heap[w.heap.size + 1]? = some o2 := by rw [← s1]; exact heap_alloc_new _ _
  have s2 : ((w.alloc o1).alloc o2).heap.size = w.heap.size + 1 + 1 := by simp
  have h3 : (((w.alloc o1).alloc o2).alloc (o3 w.heap.size)).heap[w.heap.size + 1 + 1]? = some (o3 w.heap.size) := by rw [← s2]; exact heap_alloc_new _ _
  have b2 : Below (w.alloc o1).heap.size (w.alloc o1) (((w.alloc o1).alloc o2).alloc (o3 w.heap.size)) := below_alloc (below_alloc (Below.refl _ _) _) _
  have b3 : Below ((w.alloc o1).alloc o2).heap.size ((w.alloc o1).alloc o2) (((w.alloc o1).alloc o2).alloc (o3 w.heap.size)) := below_alloc (Below.refl _ _) _
  generalize (((w.alloc o1).alloc o2).alloc (o3 w.heap.size)) = W at h3 b2 b3
  have r1 : Kd.string.C W (some ⟨w.heap.size, 0, none⟩) [bC].length [bC] := Kd.C_below (of_row (by simp) h1) b2
  have r2 : Kd.string.C W (some ⟨w.heap.size + 1, 0, none⟩) [bY, bC].length [bY, bC] := Kd.C_below (of_row (by simp) h2) b3
  refine rulC (by simp) fun i x hx => ?_
  rcases i with _ | _ | _ | i
  · simp at hx; subst hx
    exact ⟨_, _, _, _, rulHeap h3 0 ⟨sSuf, [bC], [], false⟩ _ 1 none 0 rfl rfl rfl rfl (by simp) (by simp) r1 (nilC W)⟩
  · simp at hx; subst hx
    exact ⟨_, _, _, _, rulHeap h3 1 ⟨sSuf, [], [], false⟩ none 0 none 0 rfl rfl rfl rfl (by simp) (by simp) (nilC W) (nilC W)⟩
  · simp at hx; subst hx
    exact ⟨_, _, _, _, rulHeap h3 2 ⟨sSuf, [bY, bC], [], false⟩ _ 2 none 0 rfl rfl rfl rfl (by simp) (by simp) r2 (nilC W)⟩
  · simp at hx
abbrev p1 : Obj := .cells #[.string ⟨#[98]⟩] 9
abbrev p2 : Obj := .cells #[.string ⟨#[99]⟩, .string ⟨#[98]⟩] 9
abbrev p3 : Obj := .cells #[.string ⟨#[120]⟩] 9
abbrev p4 (g : Nat) : Obj := .cells #[.string ⟨#[97]⟩, .slice (some ⟨g, 0, none⟩) 1 1, .slice none 0 0, .bool false, .string ⟨#[97]⟩, .slice (some ⟨g + 1, 0, none⟩) 2 2, .slice (some ⟨g + 1 + 1, 0, none⟩) 1 1, .bool true] 30
theorem L2C (w : World) : k30.C ((((w.alloc p1).alloc p2).alloc p3).alloc (p4 w.heap.size)) (some ⟨w.heap.size + 1 + 1 + 1, 0, none⟩) L2.length L2 := by
  have h1 : (w.alloc p1).heap[w.heap.size]? = some p1 := heap_alloc_new w _
  have s1 : (w.alloc p1).heap.size = w.heap.size + 1 := by simp
  have h2 : ((w.alloc p1).alloc p2).heap[w.heap.size + 1]? = some p2 := by rw [← s1]; exact heap_alloc_new _ _
  have s2 : ((w.alloc p1).alloc p2).heap.size = w.heap.size + 1 + 1 := by simp
  have h3 : (((w.alloc p1).alloc p2).alloc p3).heap[w.heap.size + 1 + 1]? = some p3 := by rw [← s2]; exact heap_alloc_new _ _
  have s3 : (((w.alloc p1).alloc p2).alloc p3).heap.size = w.heap.size + 1 + 1 + 1 := by simp
  have h4 : ((((w.alloc p1).alloc p2).alloc p3).alloc (p4 w.heap.size)).heap[w.heap.size + 1 + 1 + 1]? = some (p4 w.heap.size) := by rw [← s3]; exact heap_alloc_new _ _
  have b2 : Below (w.alloc p1).heap.size (w.alloc p1) ((((w.alloc p1).alloc p2).alloc p3).alloc (p4 w.heap.size)) := below_alloc (below_alloc (below_alloc (Below.refl _ _) _) _) _
  have b3 : Below ((w.alloc p1).alloc p2).heap.size ((w.alloc p1).alloc p2) ((((w.alloc p1).alloc p2).alloc p3).alloc (p4 w.heap.size)) := below_alloc (below_alloc (Below.refl _ _) _) _
  have b4 : Below (((w.alloc p1).alloc p2).alloc p3).heap.size (((w.alloc p1).alloc p2).alloc p3) ((((w.alloc p1).alloc p2).alloc p3).alloc (p4 w.heap.size)) := below_alloc (Below.refl _ _) _
  generalize ((((w.alloc p1).alloc p2).alloc p3).alloc (p4 w.heap.size)) = W at h4 b2 b3 b4
  have r1 : Kd.string.C W (some ⟨w.heap.size, 0, none⟩) [(⟨#[98]⟩ : ByteArray)].length [⟨#[98]⟩] := Kd.C_below (of_row (by simp) h1) b2
  have r2 : Kd.string.C W (some ⟨w.heap.size + 1, 0, none⟩) [(⟨#[99]⟩ : ByteArray), ⟨#[98]⟩].length [⟨#[99]⟩, ⟨#[98]⟩] := Kd.C_below (of_row (by simp) h2) b3
  have r3 : Kd.string.C W (some ⟨w.heap.size + 1 + 1, 0, none⟩) [(⟨#[120]⟩ : ByteArray)].length [⟨#[120]⟩] := Kd.C_below (of_row (by simp) h3) b4
  refine rulC (by simp) fun i x hx => ?_
  rcases i with _ | _ | i
  · simp at hx; subst hx
    exact ⟨_, _, _, _, rulHeap h4 0 ⟨⟨#[97]⟩, [⟨#[98]⟩], [], false⟩ _ 1 none 0 rfl rfl rfl rfl (by simp) (by simp) r1 (nilC W)⟩
  · simp at hx; subst hx
    exact ⟨_, _, _, _, rulHeap h4 1 ⟨⟨#[97]⟩, [⟨#[99]⟩, ⟨#[98]⟩], [⟨#[120]⟩], true⟩ _ 2 _ 1 rfl rfl rfl rfl (by simp) (by simp) r2 r3⟩
  · simp at hx
theorem fitL3 : ∀ x ∈ L3, Fits x := by
  intro x hx
  simp only [L3, List.mem_cons, List.not_mem_nil, or_false] at hx
  rcases hx with rfl | rfl | rfl <;> exact ⟨by decide, by simp; try decide⟩
theorem fitL2 : ∀ x ∈ L2, Fits x := by
  intro x hx
  simp only [L2, List.mem_cons, List.not_mem_nil, or_false] at hx
  rcases hx with rfl | rfl <;> exact ⟨by decide, by simp; try decide⟩
def LS0 : Nat → Rl → Sp → Int × Sp := fun _ _ s => (0, s)
theorem kL3 : ∀ x ∈ L3, kOf x.f0 = 0 := by
  intro x hx
  simp only [L3, List.mem_cons, List.not_mem_nil, or_false] at hx
  rcases hx with rfl | rfl | rfl <;> rfl
set_option maxHeartbeats 4000000 in
set_option maxRecDepth 100000 in
theorem speaks_calls (w : World) : Calls Try.prog 7 #[] w fun e w' => e = .returned (.bool true) ∧ Below w.heap.size w w' := by
  have hof := of_calls LS0 (some ⟨w.heap.size + 1 + 1, 0, none⟩) 3 L3 (((w.alloc o1).alloc o2).alloc (o3 w.heap.size)) (L3C w) fitL3 (Or.inl kL3)
  have hb0 : Below w.heap.size w (((w.alloc o1).alloc o2).alloc (o3 w.heap.size)) := below_alloc (below_alloc (below_alloc (Below.refl _ _) _) _) _
  go_enter Try.func7, Try.ntmps7
  go_wp2_with fail
  refine hof.mono ?_
  rintro e w4 ⟨V, rfl, hV, hb4⟩
  rw [ofL3 LS0]
  have hV0 := hV 0
  rw [ofL3s LS0] at hV0
  generalize (ofL LS0 L3).1 = s4 at hV
  obtain ⟨A0, c0, hv0, l0, C0⟩ := Kd.R_reads hV0
  obtain ⟨A1, c1, hv1, _, _⟩ := Kd.R_reads (hV 1)
  obtain ⟨A2, c2, hv2, _, _⟩ := Kd.R_reads (hV 2)
  obtain ⟨A3, c3, hv3, _, _⟩ := Kd.R_reads (hV 3)
  obtain ⟨A4, c4, hv4, _, _⟩ := Kd.R_reads (hV 4)
  obtain ⟨A8, c8, hv8, _, _⟩ := Kd.R_reads (hV 8)
  simp only [spO, hv0, hv1, hv2, hv3, hv4, hv8]
  obtain ⟨O5, hO5⟩ : ∃ O : Obj, O = .cells #[.slice A0 2 c0, .slice A1 (s4.r 1).length c1, .slice A2 (s4.r 2).length c2, .slice A3 (s4.r 3).length c3, .slice A4 (s4.r 4).length c4, .bool (s4.f 5), .bool (s4.f 6), .bool (s4.f 7), .slice A8 (s4.r 8).length c8, .bool (s4.f 9)] 38 := ⟨_, rfl⟩
  have hs5 : (w4.alloc O5).heap.size = w4.heap.size + 1 := by simp
  have h5 : (w4.alloc O5).heap[w4.heap.size]? = some O5 := heap_alloc_new w4 _
  have hmg := merge_calls (some ⟨(w4.alloc O5).heap.size + 1 + 1 + 1, 0, none⟩) 2 L2 (((((w4.alloc O5).alloc p1).alloc p2).alloc p3).alloc (p4 (w4.alloc O5).heap.size)) (L2C _) fitL2
  have hb5 : Below (w4.alloc O5).heap.size (w4.alloc O5) (((((w4.alloc O5).alloc p1).alloc p2).alloc p3).alloc (p4 (w4.alloc O5).heap.size)) := below_alloc (below_alloc (below_alloc (below_alloc (Below.refl _ _) _) _) _) _
  rw [hs5, mergeL2] at hmg
  rw [hs5] at hb5
  rw [hO5] at hmg hb5 h5
  go_wp2_with fail
  refine hmg.mono ?_
  rintro e w6 ⟨v6, rfl, hO6, hb6⟩
  obtain ⟨g6, cap6, rfl, hg6, _⟩ := Kd.R_form hO6 (by simp)
  obtain ⟨Ay, cy, Az, cz, q0, q1, q2, q3, hCy, _, hRy, _, _⟩ := out_at hO6 (j := 0) rfl
  have hb56 := hb5.trans (hb6.mono (by have := hb5.size; simp at this ⊢))
  have h6 := (hb56.block _ (by omega)).trans h5
  have i0 := cell_of_row w6 w4.heap.size 0 _ _ _ h6
  have hb46 : Below w4.heap.size w4 w6 := (below_alloc (Below.refl _ w4) _).trans (hb56.mono (by omega))
  have b7 : Below w6.heap.size w6 (w6.alloc o2) := below_alloc (Below.refl _ _) _
  have ht1 := smithyplain_Texts.calls 5 A0 c0 [bY, bC] (some ⟨w6.heap.size, 0, none⟩) 2 [bY, bC] true (w6.alloc o2) (Kd.C_below (Kd.C_below C0 hb46) b7) l0 (of_row (by simp) (heap_alloc_new w6 o2)) (by simp) texts1
  go_wp2_with fail
  refine ht1.mono ?_
  rintro e w7 ⟨rfl, hd7⟩
  have hb67 : Below w6.heap.size w6 w7 := below_t b7 hd7.below
  have q13 := pw_cell_below hb67 q3
  have q11 := pw_cell_below hb67 q1
  have b8 : Below w7.heap.size w7 (w7.alloc (.cells #[.string ⟨#[98]⟩, .string ⟨#[99]⟩] 9)) := below_alloc (Below.refl _ _) _
  have ht2 := smithyplain_Texts.calls 5 Ay cy [(⟨#[98]⟩ : ByteArray), ⟨#[99]⟩] (some ⟨w7.heap.size, 0, none⟩) 2 [(⟨#[98]⟩ : ByteArray), ⟨#[99]⟩] true (w7.alloc (.cells #[.string ⟨#[98]⟩, .string ⟨#[99]⟩] 9)) (Kd.C_below (Kd.C_below hCy hb67) b8) (Kd.R_reads' hRy).2.1 (of_row (by simp) (heap_alloc_new w7 _)) (by simp) texts2
  go_wp2_with fail
  refine ht2.mono ?_
  rintro e w8 ⟨rfl, hd8⟩
  go_wp2_with fail
  go_ret
  exact ⟨rfl, (below_t hb0 hb4).trans ((below_t (below_t hb46 hb67) (below_t b8 hd8.below)).mono (below_t hb0 hb4).size)⟩
end Go.Proofs.Ytkbcfbelpjifnaa.Spec
