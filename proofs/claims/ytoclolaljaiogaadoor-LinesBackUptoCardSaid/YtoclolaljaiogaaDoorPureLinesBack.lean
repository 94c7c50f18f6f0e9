/- For every list of lines: what is printed is read as it was, its lines numbered one behind the other. -/
import Derived.Test.YtoclolaljaiogaaDoorLineT
import Derived.Test.YtoclolaljaiogaaDoorOpens
import Derived.Test.YtoclolaljaiogaaDoorPXx0
import Derived.Test.YtoclolaljaiogaaDoorPXx2
import Derived.Test.YtoclolaljaiogaaDoorPXx4
import Derived.Test.YtoclolaljaiogaaDoorPXx12
set_option linter.unusedVariables false
set_option linter.unusedSimpArgs false
namespace Go.Proofs.YtoclolaljaiogaaDoor.Pure
open Go.RowKit Go.Proofs.YtoclolaljaiogaaDoor.PX Go.Proofs.YtoclolaljaiogaaDoorW.PrintWords Go.Proofs.YtoclolaljaiogaaDoor.Plain

theorem rd_at37 {l : List S37} {i : Nat} {x : S37} (h : l[i]? = some x) : rd_T37 l (i : Int) = x := by
  unfold rd_T37
  rw [Int.toNat_natCast, List.getD_eq_getElem?_getD, h]; rfl
theorem back_cmp (l : List S37) (n : ByteArray) (hl : l.length ≤ 65536) : ∀ (d i : Nat), i + d = l.length → Ev (fun k => smithylaw04_LinesBack.l0 k l ((numL 1 (l.map rt)).map (mkS n)) (i : Int)) true
  | 0, i, hi => Ev.step (fun _ => rfl) (ev_neg (by rw [List.length_map, numL_len, List.length_map]; omega) (Ev.bind small_ev (ev_some rfl)))
  | d + 1, i, hi => by
    obtain ⟨x, hx⟩ : ∃ x, l[i]? = some x := ⟨_, List.getElem?_eq_getElem (by omega)⟩
    have h1 : rd_T37 l (i : Int) = x := rd_at37 hx
    have h2 : rd_T37 ((numL 1 (l.map rt)).map (mkS n)) (i : Int) = mkS n (1 + i, (rt x).1, (rt x).2) := rd_at37 (by rw [List.getElem?_map, numL_get (l.map rt) 1 i (rt x) (by rw [List.getElem?_map, hx]; rfl)]; rfl)
    refine Ev.step (fun _ => rfl) (ev_pos (by rw [List.length_map, numL_len, List.length_map]; omega) (ev_pos (by omega) (ev_pos (by omega) ?_)))
    rw [h1, h2, wrap_1 (by omega)]
    refine ev_pos rfl (ev_neg (by simp [mkS, rt]) (ev_pos ?_ ?_))
    · show ((1 + i : Nat) : Int) = ((i + 1 : Nat) : Int)
      omega
    · exact back_cmp l n hl d (i + 1) (by omega)
theorem nm_m : Ev (fun k => lines_named.f k ⟨#[109]⟩) true := Ev.of (fun k => lines_named.mono _ k) (k := 10) (by decide +kernel)
theorem back_ex (l : List S37) (M : Nat) (hM : ∀ x ∈ l, x.f3.size ≤ M) (hm : l.length * (M + 2) ≤ 140737488355328) : ∃ k, smithylaw04_LinesBack.f k l = some true := by
  refine Ev.rounds (r := true) ?_
  have hsp : ∀ u : ByteArray, u.size ≤ 4611686018427387904 → Ev (fun k => lines_Split.f k ⟨#[109]⟩ u) (splitL ⟨#[109]⟩ u true) := fun u hu => by
    obtain ⟨nm', _, q2, f3, _⟩ := split_ev ⟨#[109]⟩ u (by decide) hu
    obtain rfl := ev_uniq nm_m q2
    exact f3
  have stop : ∀ (z : Bool) (T : ByteArray), z = true → Ev (fun k => smithylaw04_LinesBack.j0 k l T z) true := fun z T hz => Ev.step (fun _ => rfl) (ev_pos hz (Ev.bind small_ev (ev_some rfl)))
  by_cases hlong : 65536 < l.length
  · have hp : Ev (fun k => lines_Print.f k l) (⟨#[]⟩, 2) := ev_pos hlong (ev_some rfl)
    exact Ev.bind hp (ev_neg (by decide) (stop _ _ rfl))
  · rcases print_go M l [] hM (by simp; omega) with ⟨hg, h⟩ | h
    · have hp : Ev (fun k => lines_Print.f k l) (B ([] ++ textL (l.map rt)), 0) := ev_neg hlong h
      rw [List.nil_append] at hp
      have hz := size_B (textL (l.map rt))
      have hgood : ∀ x ∈ l.map rt, Plain.Good x.1 x.2 := fun x hx => by
        obtain ⟨y, hy, rfl⟩ := List.mem_map.1 hx
        exact hg y hy
      have hts := text_split (⟨#[109]⟩ : ByteArray) (l.map rt) hgood
      obtain ⟨T, hT⟩ : ∃ T, B (textL (l.map rt)) = T := ⟨_, rfl⟩
      rw [hT] at hp hz hts
      refine Ev.bind hp (ev_pos rfl ?_)
      obtain ⟨z, hzz⟩ : ∃ z, decide (((T.size : Nat) : Int) > 65536) = z := ⟨_, rfl⟩
      show Ev (fun k => smithylaw04_LinesBack.j0 k l T (decide (((T.size : Nat) : Int) > 65536))) true
      rw [hzz]
      cases hc : z with
      | true => exact stop _ _ rfl
      | false =>
        rw [hc] at hzz
        have hsz : ¬ ((T.size : Nat) : Int) > 65536 := of_decide_eq_false hzz
        have hts2 := hts (by omega)
        have key : ∀ y, y = false → Ev (fun k => smithylaw04_LinesBack.j0 k l T y) true := by
          intro y hy
          refine Ev.step (fun _ => rfl) (ev_neg (by rw [hy]; decide) (Ev.bind (hsp T (by omega)) ?_))
          rw [hts2]
          have k2 : ∀ y, y = false → Ev (fun k => smithylaw04_LinesBack.j1 k l ((numL 1 (l.map rt)).map (mkS ⟨#[109]⟩)) y) true := by
            intro y hy
            exact Ev.step (fun _ => rfl) (ev_neg (by rw [hy]; decide) (back_cmp l ⟨#[109]⟩ (by omega) l.length 0 (by omega)))
          exact ev_pos rfl (k2 _ (by simp [numL_len]))
        exact key _ rfl
    · have hp : Ev (fun k => lines_Print.f k l) (⟨#[]⟩, 8) := ev_neg hlong h
      exact Ev.bind hp (ev_neg (by decide) (stop _ _ rfl))
theorem LinesBack (l : List S37) (hB : Opens.bkL (fun x : S37 => (fun v => (fun x => Opens.bkS x.1 + (fun x => (fun _ => 1) x.1 + (fun x => (fun _ => 1) x.1 + Opens.bkS x.2) x.2) x.2) v + 1) (x.f0, x.f1, x.f2, x.f3)) l ≤ 1048576) : ∃ k, smithylaw04_LinesBack.f k l = some true := by
  have hs : ∀ l : List S37, (l.map fun x => x.f3.size + 1).sum + 1 ≤ Opens.bkL (fun x : S37 => (fun v => (fun x => Opens.bkS x.1 + (fun x => (fun _ => 1) x.1 + (fun x => (fun _ => 1) x.1 + Opens.bkS x.2) x.2) x.2) v + 1) (x.f0, x.f1, x.f2, x.f3)) l := by
    intro l
    unfold Opens.bkL
    induction l with
    | nil => simp
    | cons x l ih =>
      rw [List.map_cons, List.map_cons, List.sum_cons, List.sum_cons]
      simp only [Opens.bkS] at ih ⊢
      omega
  have h2 := hs l
  have hx : ∀ x ∈ l, x.f3.size ≤ 1048576 := fun x hx => by
    have := le_sum (l := l.map fun x => x.f3.size + 1) (List.mem_map.2 ⟨x, hx, rfl⟩)
    omega
  have hl : l.length ≤ (l.map fun x => x.f3.size + 1).sum := by
    clear hB h2 hx hs
    induction l with
    | nil => simp
    | cons x l ih => rw [List.map_cons, List.sum_cons, List.length_cons]; omega
  exact back_ex l 1048576 hx (by omega)
end Go.Proofs.YtoclolaljaiogaaDoor.Pure
