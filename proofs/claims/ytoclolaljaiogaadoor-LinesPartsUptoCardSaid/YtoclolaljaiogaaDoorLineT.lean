/- Print: what it comes to; what is printed and read again. -/
import Derived.Test.YtoclolaljaiogaaDoorLineS
import Derived.Test.YtoclolaljaiogaaDoorLPrint
import Derived.Test.YtoclolaljaiogaaDoorPXx0
import Derived.Test.YtoclolaljaiogaaDoorPXx3
import Derived.Test.YtoclolaljaiogaaDoorPXx9
import Derived.Test.YtoclolaljaiogaaDoorPXx10
set_option linter.unusedVariables false
set_option linter.unusedSimpArgs false
namespace Go.Proofs.YtoclolaljaiogaaDoor.Plain
open Go.RowKit Go.Proofs.YtoclolaljaiogaaDoorW.PrintWords Go.Proofs.YtoclolaljaiogaaDoor.PX

/-- A line that can be printed. -/
def Good (rc : Bool) (t : List UInt8) : Prop := t ≠ [] ∧ trimL t = t ∧ t.getLast? ≠ some 92 ∧ (∀ b ∈ t, b ≠ 10 → badb b = false) ∧ (10 : UInt8) ∉ t ∧ (rc = false → (35 : UInt8) ∉ t)
theorem good_goes {rc : Bool} {t : List UInt8} (h : Good rc t) : Goes (rc, t) := ⟨h.1, h.2.1, h.2.2.2.2.2, h.2.2.1⟩
theorem hassuf_eq (x : ByteArray) (hs : x.size ≤ 4611686018427387904) : strings_HasSuffix.f x ⟨#[92]⟩ = some (decide ((L x).getLast? = some 92)) := by
  have h := cutsuf_eq (L x) (by rw [← size_L]; exact hs)
  rw [B_L] at h
  unfold strings_CutSuffix.f stringslite_CutSuffix.f at h
  unfold strings_HasSuffix.f
  cases hx : stringslite_HasSuffix.f x ⟨#[92]⟩ with
  | none => rw [hx] at h; simp at h
  | some b =>
    rw [hx] at h
    simp only [Option.bind_some] at h ⊢
    by_cases h1 : (L x).getLast? = some 92
    · rw [if_pos h1] at h
      rw [decide_eq_true h1]
      cases b with
      | true => rfl
      | false => simp at h
    · rw [if_neg h1] at h
      rw [decide_eq_false h1]
      cases b with
      | false => rfl
      | true =>
        rw [if_pos rfl] at h
        exfalso
        split at h
        · split at h
          · simp at h
          · simp at h
        · simp at h
theorem has_eq (x : ByteArray) (c : UInt8) : strings_Contains.f x ⟨#[c]⟩ = some (decide (c ∈ L x)) := by
  unfold strings_Contains.f
  rw [if_pos (by rfl)]
  congr 1
  show decide (0 ≤ Lib.indexByte (L x) c) = _
  by_cases h : c ∈ L x
  · rw [decide_eq_true h, decide_eq_true (ix_mem.2 h)]
  · rw [decide_eq_false h, decide_eq_false (fun h2 => h (ix_mem.1 h2))]
theorem printable_ex (n : ByteArray) (no : Int) (rc : Bool) (t : ByteArray) (ht : t.size ≤ 4611686018427387904) : ∃ b, Ev (fun k => lines_printable.f k n no rc t) b ∧ (b = true ↔ Good rc (L t)) := by
  by_cases h1 : L t = []
  · exact ⟨false, ev_pos (by rw [toList_L]; exact h1) (ev_some rfl), ⟨fun e => (by cases e), fun h => absurd h1 h.1⟩⟩
  have up : ∀ {f : Nat → Option Bool} {r : Bool}, Ev (fun k => if (B (trimL (L t))).toList = t.toList then f k else some false) r → Ev (fun k => if t.toList = ([] : List UInt8) then (some false) else ((lines_Trim.f t).bind fun t282 => (if t282.toList = t.toList then f k else some false))) r := fun h => ev_neg (by rw [toList_L]; exact h1) (ev_const (trim_some t ht) h)
  by_cases h2 : trimL (L t) = L t
  · have e2 : (B (trimL (L t))).toList = t.toList := by rw [toList_L, toList_L, L_B, h2]
    by_cases h3 : (L t).getLast? = some 92
    · refine ⟨false, up (ev_pos e2 (ev_const (hassuf_eq t ht) (ev_pos (by simpa using h3) (ev_some rfl)))), ⟨fun e => (by cases e), fun h => absurd h3 h.2.2.1⟩⟩
    · rcases foreign_ex t ht with ⟨f1, f2⟩ | ⟨j, a, c, l, f1, f3, f4, f5, f6, f7⟩
      · by_cases h4 : (10 : UInt8) ∈ L t
        · exact ⟨false, up (ev_pos e2 (ev_const (hassuf_eq t ht) (ev_neg (by simpa using h3) (Ev.bind f1 (ev_pos (by omega) (ev_const (has_eq t 10) (ev_pos (by simpa using h4) (ev_some rfl)))))))), ⟨fun e => (by cases e), fun h => absurd h4 h.2.2.2.2.1⟩⟩
        · cases rc with
          | true => exact ⟨true, up (ev_pos e2 (ev_const (hassuf_eq t ht) (ev_neg (by simpa using h3) (Ev.bind f1 (ev_pos (by omega) (ev_const (has_eq t 10) (ev_neg (by simpa using h4) (ev_pos rfl (ev_some rfl))))))))), ⟨fun _ => ⟨h1, h2, h3, f2, h4, fun e => (by cases e)⟩, fun _ => rfl⟩⟩
          | false =>
            refine ⟨!decide ((35 : UInt8) ∈ L t), up (ev_pos e2 (ev_const (hassuf_eq t ht) (ev_neg (by simpa using h3) (Ev.bind f1 (ev_pos (by omega) (ev_const (has_eq t 10) (ev_neg (by simpa using h4) (ev_neg (by decide) (ev_const (has_eq t 35) (ev_some rfl)))))))))), ⟨fun e => ⟨h1, h2, h3, f2, h4, fun _ => by simpa using e⟩, fun h => by simpa using h.2.2.2.2.2 rfl⟩⟩
      · refine ⟨false, up (ev_pos e2 (ev_const (hassuf_eq t ht) (ev_neg (by simpa using h3) (Ev.bind f1 (ev_neg (by omega) (ev_some rfl)))))), ⟨fun e => (by cases e), fun h => ?_⟩⟩
        have := h.2.2.2.1 c (by rw [f3]; simp) f7
        rw [this] at f6; cases f6
  · exact ⟨false, up (ev_neg (by rw [toList_L, toList_L, L_B]; exact h2) (ev_some rfl)), ⟨fun e => (by cases e), fun h => absurd h.2.1 h2⟩⟩
/-- A line's flag and text. -/
def rt (x : S37) : Bool × List UInt8 := (x.f2, L x.f3)
theorem line_eq (x : S37) : lines_Print.line x = lineL (rt x).1 (rt x).2 ++ [10] := by
  unfold lines_Print.line lineL rt
  cases x.f2 <;> rfl
theorem print_go (M : Nat) : ∀ (xs : List S37) (acc : List UInt8), (∀ x ∈ xs, x.f3.size ≤ M) → acc.length + xs.length * (M + 2) ≤ 140737488355328 →
    ((∀ x ∈ xs, Good (rt x).1 (rt x).2) ∧ Ev (fun k => lines_Print.l0 k xs acc) (B (acc ++ textL (xs.map rt)), 0)) ∨ Ev (fun k => lines_Print.l0 k xs acc) (⟨#[]⟩, 8)
  | [], acc, _, _ => .inl ⟨fun x hx => by simp at hx, by
      refine Ev.congr (f := fun _ => some (⟨acc.toArray⟩, 0)) (fun k => by rw [lines_Print.l0]) (ev_some ?_)
      simp [textL]⟩
  | x :: xs, acc, hM, hb => by
    have hx := hM x List.mem_cons_self
    have hz := size_L x.f3
    rw [List.length_cons, Nat.succ_mul] at hb
    obtain ⟨b, hp, hg⟩ := printable_ex x.f0 x.f1 x.f2 x.f3 (by omega)
    have hll : (lines_Print.line x).length ≤ x.f3.size + 2 := by
      rw [line_eq]; unfold lineL rt
      split <;> simp only [List.length_append, List.length_cons, List.length_nil] <;> omega
    have up : ∀ {r : ByteArray × Int}, Ev (fun k => if b = true then lines_Print.l0 k xs (acc ++ lines_Print.line x) else some (⟨#[]⟩, 8)) r → Ev (fun k => lines_Print.l0 k (x :: xs) acc) r := fun h =>
      Ev.congr (fun k => by rw [lines_Print.l0]) (ev_pos (by omega) (Ev.bind hp h))
    cases hbb : b with
    | false => exact .inr (up (ev_neg (by rw [hbb]; decide) (ev_some rfl)))
    | true =>
      rcases print_go M xs (acc ++ lines_Print.line x) (fun y hy => hM y (List.mem_cons_of_mem _ hy)) (by rw [List.length_append]; omega) with ⟨h1, h2⟩ | h2
      · refine .inl ⟨fun y hy => ?_, up (ev_pos hbb (ev_eq h2 ?_))⟩
        · rcases List.mem_cons.1 hy with rfl | hy
          · exact hg.1 hbb
          · exact h1 y hy
        · rw [line_eq, List.append_assoc]; rfl
      · exact .inr (up (ev_pos hbb h2))
theorem ev_uniq {α : Type} {g : Nat → Option α} {a b : α} (h : Ev g a) (k : Ev g b) : a = b := by
  obtain ⟨K, hK⟩ := h; obtain ⟨M, hM⟩ := k
  have h1 := hK (max K M) (Nat.le_max_left _ _); have h2 := hM (max K M) (Nat.le_max_right _ _)
  rw [h1] at h2
  exact Option.some.inj h2
/-- What is printed is read as it was, its lines numbered one behind the other. -/
theorem text_split (n : ByteArray) (l : List (Bool × List UInt8)) (hg : ∀ x ∈ l, Good x.1 x.2) (hs : (textL l).length ≤ 65536) : splitL n (B (textL l)) true = ((numL 1 l).map (mkS n), 0, 0) := by
  have hp : phys (L (B (textL l))) = l.map fun x => lineL x.1 x.2 := by rw [L_B]; exact phys_text l (fun x hx => (hg x hx).2.2.2.2.1)
  have hw : wrongL (phys (L (B (textL l)))) = 0 := by
    rw [hp, wrongL_zero]
    intro x hx
    obtain ⟨y, hy, rfl⟩ := List.mem_map.1 hx
    have h := hg y hy
    rw [List.any_eq_false]
    intro b hb
    have hb' : b = 9 ∨ b ∈ y.2 := by
      unfold lineL at hb; split at hb
      · exact List.mem_cons.1 hb
      · exact .inr hb
    rcases hb' with rfl | hm
    · decide
    · rw [h.2.2.2.1 b hm (fun e => h.2.2.2.2.1 (e ▸ hm))]; decide
  unfold splitL
  rw [if_pos rfl, if_neg (by rw [size_B]; omega), if_pos hw, hp, logic_goes l (fun x hx => good_goes (hg x hx))]
end Go.Proofs.YtoclolaljaiogaaDoor.Plain
