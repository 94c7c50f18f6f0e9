/- What Print comes to: the program's and the reference's tell the same; what is printed is read as it was. -/
import Derived.Test.YtjdielkpdnedeaaDoorStmtP
import Derived.Test.YtjdielkpdnedeaaDoorPXx4
import Derived.Test.YtjdielkpdnedeaaDoorPXx6
import Derived.Test.YtjdielkpdnedeaaDoorPXx7
import Derived.Test.YtjdielkpdnedeaaDoorPXx8
namespace Go.Proofs.YtjdielkpdnedeaaDoor.Plain
open Go.RowKit Go.Proofs.YtjdielkpdnedeaaDoorW.PrintWords Go.Proofs.YtjdielkpdnedeaaDoor.PX

theorem bytes_inj {s t : ByteArray} : s.toList = t.toList ↔ s = t := ⟨fun h => L_inj (by rw [← toList_L, ← toList_L]; exact h), fun h => h ▸ rfl⟩
/-- Do the parts differ? -/
def neq (s : Sn) (a : St) : Bool := (!(s.1 == a.1) || (!(s.2.1.toList == a.2.1.toList) || (!(s.2.2.1.toList == a.2.2.1.toList) || (!(s.2.2.2.1.toList == a.2.2.2.1.toList) || (!(s.2.2.2.2.1.toList == a.2.2.2.2.1.toList) || (!(s.2.2.2.2.2.1.toList == a.2.2.2.2.2.1.toList) || (!(s.2.2.2.2.2.2.1 == a.2.2.2.2.2.2))))))))
theorem neq_well (a : St) : neq (well a) a = false := by simp [neq, well]
theorem neq_eq {s : Sn} {a : St} (h : neq s a = false) (h0 : s.2.2.2.2.2.2.2 = 0) : s = well a := by
  obtain ⟨s1, s2, s3, s4, s5, s6, s7, s8⟩ := s
  obtain ⟨a1, a2, a3, a4, a5, a6, a7⟩ := a
  simp only [neq, Bool.or_eq_false_iff, Bool.not_eq_false', beq_iff_eq, bytes_inj] at h
  obtain ⟨rfl, rfl, rfl, rfl, rfl, rfl, rfl⟩ := h
  simp only at h0
  subst h0
  rfl
/-- What is told of a text that is read again. -/
def tl (X : ByteArray) (a : St) (s : Sn) : Option (ByteArray × Int) := if s.2.2.2.2.2.2.2 = 0 then (if neq s a = true then some (em, 1) else some (X, 0)) else some (em, 1)
theorem tl_ex (X : ByteArray) (a : St) (s : Sn) : ∃ p, tl X a s = some p ∧ (p.2 = 0 → p.1 = X ∧ s = well a) := by
  unfold tl
  by_cases h0 : s.2.2.2.2.2.2.2 = 0
  · rw [if_pos h0]
    by_cases hn : neq s a = true
    · rw [if_pos hn]
      exact ⟨_, rfl, fun h => absurd h (by decide)⟩
    · rw [if_neg hn]
      exact ⟨_, rfl, fun _ => ⟨rfl, neq_eq (by simpa using hn) h0⟩⟩
  · rw [if_neg h0]
    exact ⟨_, rfl, fun h => absurd h (by decide)⟩
theorem read_ex (X : ByteArray) (a : St) (hX : X.size ≤ 4611686018427387904) : ∃ p : ByteArray × Int, Ev (fun k => (stmt_Parse.f k X).bind (fun s => tl X a s)) p ∧ Ev (fun k => (smithyref07_Parse.f k X).bind (fun s => tl X a s)) p ∧ (p.2 = 0 → Ev (fun k => stmt_Parse.f k p.1) (well a)) := by
  obtain ⟨s, _, _, f1, f2⟩ := parse_ex X hX
  obtain ⟨p, hp, hw⟩ := tl_ex X a s
  refine ⟨p, Ev.bind f1 (ev_const_eq hp), Ev.bind f2 (ev_const_eq hp), fun h => ?_⟩
  obtain ⟨rfl, rfl⟩ := hw h
  exact f1
set_option maxRecDepth 100000 in
theorem none_ev : Ev (fun k => smithyref07_Parse.f k em) (bad 70) := Ev.of (fun k => smithyref07_Parse.mono em k) (k := 20) (by kernel_rfl)
theorem print_ex (a : St) (hf : Fits 140737488351232 a) : ∃ p : ByteArray × Int, Ev (fun k => stmt_Print.f k a.1 a.2.1 a.2.2.1 a.2.2.2.1 a.2.2.2.2.1 a.2.2.2.2.2.1 a.2.2.2.2.2.2) p ∧ Ev (fun k => smithyref07_Print.f k a.1 a.2.1 a.2.2.1 a.2.2.2.1 a.2.2.2.2.1 a.2.2.2.2.2.1 a.2.2.2.2.2.2) p ∧ (p.2 = 0 → Ev (fun k => stmt_Parse.f k p.1) (well a)) := by
  obtain ⟨a0, a1, a2, a3, a4, a5, a6⟩ := a
  obtain ⟨h1, h2, h3, h4, h5⟩ := hf
  simp only at h1 h2 h3 h4 h5 ⊢
  have e3 : (⟨#[32, 61, 32]⟩ : ByteArray).size = 3 := rfl
  have e3' : (⟨#[32, 59, 32]⟩ : ByteArray).size = 3 := rfl
  have e2 : (⟨#[58, 32]⟩ : ByteArray).size = 2 := rfl
  have e8 : (⟨#[105, 110, 99, 108, 117, 100, 101, 32]⟩ : ByteArray).size = 8 := rfl
  by_cases c1 : a0 = 1
  · obtain ⟨p, r1, r2, r3⟩ := read_ex ((a1 ++ (⟨#[32, 61, 32]⟩ : ByteArray)) ++ a2) (a0, a1, a2, a3, a4, a5, a6) (by simp only [ByteArray.size_append, e3]; omega)
    have b1 : (a1 ++ (⟨#[32, 61, 32]⟩ : ByteArray)).size + a2.size ≤ 9223372036854775807 := by simp only [ByteArray.size_append, e3]; omega
    exact ⟨p, ev_pos c1 (ev_pos (by omega) (ev_pos b1 r1)), ev_pos c1 (ev_pos (by omega) (ev_pos b1 r2)), r3⟩
  · by_cases c2 : a0 = 2
    · obtain ⟨p, r1, r2, r3⟩ := read_ex ((⟨#[105, 110, 99, 108, 117, 100, 101, 32]⟩ : ByteArray) ++ a4) (a0, a1, a2, a3, a4, a5, a6) (by simp only [ByteArray.size_append, e8]; omega)
      exact ⟨p, ev_neg c1 (ev_pos c2 (ev_pos (by omega) r1)), ev_neg c1 (ev_pos c2 (ev_pos (by omega) r2)), r3⟩
    · by_cases c3 : a0 = 3
      · have b1 : (a3 ++ (⟨#[58, 32]⟩ : ByteArray)).size + a4.size ≤ 9223372036854775807 := by simp only [ByteArray.size_append, e2]; omega
        by_cases c6 : a6 = true
        · obtain ⟨p, r1, r2, r3⟩ := read_ex (((a3 ++ (⟨#[58, 32]⟩ : ByteArray)) ++ a4) ++ ((⟨#[32, 59, 32]⟩ : ByteArray) ++ a5)) (a0, a1, a2, a3, a4, a5, a6) (by simp only [ByteArray.size_append, e2, e3']; omega)
          have b2 : ((a3 ++ (⟨#[58, 32]⟩ : ByteArray)) ++ a4).size + ((⟨#[32, 59, 32]⟩ : ByteArray) ++ a5).size ≤ 9223372036854775807 := by simp only [ByteArray.size_append, e2, e3']; omega
          have b3 : ((a3 ++ (⟨#[58, 32]⟩ : ByteArray)) ++ a4).size + 3 ≤ 9223372036854775807 := by simp only [ByteArray.size_append, e2]; omega
          have b4 : (((a3 ++ (⟨#[58, 32]⟩ : ByteArray)) ++ a4) ++ (⟨#[32, 59, 32]⟩ : ByteArray)).size + a5.size ≤ 9223372036854775807 := by simp only [ByteArray.size_append, e2, e3']; omega
          have ea : ((a3 ++ (⟨#[58, 32]⟩ : ByteArray)) ++ a4) ++ ((⟨#[32, 59, 32]⟩ : ByteArray) ++ a5) = (((a3 ++ (⟨#[58, 32]⟩ : ByteArray)) ++ a4) ++ (⟨#[32, 59, 32]⟩ : ByteArray)) ++ a5 := L_inj (by simp only [L_append, List.append_assoc])
          refine ⟨p, ev_neg c1 (ev_neg c2 (ev_pos c3 (ev_pos (by omega) (ev_pos b1 (ev_pos c6 (ev_pos (by omega) (ev_pos b2 r1))))))), ev_neg c1 (ev_neg c2 (ev_pos c3 (ev_pos (by omega) (ev_pos b1 (ev_pos c6 (ev_pos b3 (ev_pos b4 ?_))))))), r3⟩
          rw [ea] at r2
          exact r2
        · obtain ⟨p, r1, r2, r3⟩ := read_ex ((a3 ++ (⟨#[58, 32]⟩ : ByteArray)) ++ a4) (a0, a1, a2, a3, a4, a5, a6) (by simp only [ByteArray.size_append, e2]; omega)
          exact ⟨p, ev_neg c1 (ev_neg c2 (ev_pos c3 (ev_pos (by omega) (ev_pos b1 (ev_neg c6 r1))))), ev_neg c1 (ev_neg c2 (ev_pos c3 (ev_pos (by omega) (ev_pos b1 (ev_neg c6 r2))))), r3⟩
      · refine ⟨(em, 1), ev_neg c1 (ev_neg c2 (ev_neg c3 (ev_some rfl))), ev_neg c1 (ev_neg c2 (ev_neg c3 (Ev.bind none_ev (ev_neg (by decide) (ev_some rfl))))), fun h => absurd h (by decide)⟩
end Go.Proofs.YtjdielkpdnedeaaDoor.Plain
