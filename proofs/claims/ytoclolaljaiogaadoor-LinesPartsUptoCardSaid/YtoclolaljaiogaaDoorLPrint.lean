/- lines.Print: a builder and one line behind the other. -/
import Derived.Test.YtoclolaljaiogaaDoorBld
import Derived.Lib.Hide
import Derived.Test.YtoclolaljaiogaaDoorPXx0
import Derived.Test.YtoclolaljaiogaaDoorPXx10
set_option linter.unusedVariables false
set_option linter.unusedSimpArgs false
namespace Go.Proofs.YtoclolaljaiogaaDoor.PX
open Go Go.RowKit Go.Proofs.YtoclolaljaiogaaDoorW.PrintWords Go.Proofs.YtoclolaljaiogaaDoorW.PrintLast Go.Proofs.YtoclolaljaiogaaDoorW.PrintMore Go.Proofs.YtoclolaljaiogaaDoor.Hand
/-- A line as it is printed. -/
def lines_Print.line (x : S37) : List UInt8 := (if x.f2 = true then [9] else []) ++ (x.f3.data.toList ++ [10])
def lines_Print.l0 (k : Nat) : List S37 → List UInt8 → Option (ByteArray × Int)
  | [], acc => some (⟨acc.toArray⟩, 0)
  | x :: xs, acc => if acc.length + x.f3.size + 2 ≤ 140737488355328 then (lines_printable.f k x.f0 x.f1 x.f2 x.f3).bind fun b => if b = true then lines_Print.l0 k xs (acc ++ lines_Print.line x) else some (⟨#[]⟩, 8) else none
def lines_Print.f (k : Nat) (l0 : List S37) : Option (ByteArray × Int) := if 65536 < l0.length then some (⟨#[]⟩, 2) else lines_Print.l0 k l0 []
theorem lines_Print.mono_l : ∀ (xs : List S37) (acc : List UInt8) (k : Nat), LeO (lines_Print.l0 k xs acc) (lines_Print.l0 (k + 1) xs acc)
  | [], acc, k => LeO.refl _
  | x :: xs, acc, k => by
    unfold lines_Print.l0
    exact LeO.ite (LeO.bind (lines_printable.mono _ _ _ _ _) fun _ => LeO.ite (lines_Print.mono_l xs _ k) (LeO.refl _)) (LeO.refl _)
theorem lines_Print.mono : ∀ l0 k, LeO (lines_Print.f k l0) (lines_Print.f (k + 1) l0) := by
  intro l0 k
  unfold lines_Print.f
  exact LeO.ite (LeO.refl _) (lines_Print.mono_l _ _ _)
/-- A block that is neither the builder's nor a row of bytes stays. -/
theorem lines_Print.kept {W W' : World} {b g t : Nat} {cs : Array Value} (h : W.heap[g]? = some (.cells cs t (0, 0))) (hk : Lib.OthersKept 5 (some b) W W') (hg : g ≠ b) (ht : t ≠ 5) : W'.heap[g]? = some (.cells cs t (0, 0)) :=
  hk g _ h (by simpa using hg) (fun c fz e => by injection e with _ e; exact ht e)
set_option maxHeartbeats 4000000 in
set_option maxRecDepth 100000 in
theorem lines_Print.calls (k : Nat) (A0 : Option Addr) (c0 : Nat) (l0 : List S37) (r1 : ByteArray) (r2 : Int) (w : World) (hr0 : Kd.C k37 w A0 l0.length l0) (hc0 : l0.length ≤ c0) (h : lines_Print.f k l0 = some (r1, r2)) :
    Calls Tryd.prog 16 #[.slice A0 l0.length c0] w fun e w' => e = .returned (.tuple #[.string r1, .int .i64 r2]) ∧ Below w.heap.size w w' := by
  unfold lines_Print.f at h
  by_cases hb : 65536 < l0.length
  · rw [if_pos hb] at h
    obtain ⟨rfl, rfl⟩ : (⟨#[]⟩ : ByteArray) = r1 ∧ (2 : Int) = r2 := by simpa using h
    have hb1 : decide ((65536 : Int) < (l0.length : Int)) = true := by simp; omega
    have hb2 : decide (65536 < l0.length) = true := by simp; omega
    clear hb h
    go_enter Tryd.func16, Tryd.ntmps16
    go_wp2
    go_ret2
    exact ⟨rfl, Below.refl _ _⟩
  · rw [if_neg hb] at h
    have hb1 : decide ((65536 : Int) < (l0.length : Int)) = false := by simp; omega
    have hb2 : decide (65536 < l0.length) = false := by simp; omega
    have hll : l0.length ≤ 65536 := by omega
    clear hb
    go_enter Tryd.func16, Tryd.ntmps16
    have hB0 := bld_new w
    have hbel0 : Below w.heap.size w (w.alloc (.cells #[.pointer none, .slice none 0 0] 59)) := (Below.refl _ w).alloc (Nat.le_refl _) _
    go_wp2
    go_loopw [12] (fun v12 wr => ∃ (i : Nat) (acc : List UInt8), v12 = .int .i64 i ∧ i ≤ l0.length ∧ Hid (lines_Print.l0 k (l0.drop i) acc = some (r1, r2)) ∧ Hid (IsBld w.heap.size w.heap.size acc wr) ∧ Hid (Below w.heap.size w wr))
      (fun v12 _ => l0.length - (intOf v12).toNat)
    case atStart => exact ⟨0, [], rfl, Nat.zero_le _, Lib.hid h, Lib.hid hB0, Lib.hid hbel0⟩
    case round =>
      obtain ⟨i, acc, rfl, hi, hf, hB, hbel⟩ := hrel
      clear h hB0 hbel0
      by_cases hlt : i < l0.length
      · have e0 : l0.drop i = l0[i] :: l0.drop (i + 1) := List.drop_eq_getElem_cons hlt
        have hf1 := hf.out
        rw [e0, lines_Print.l0] at hf1
        obtain ⟨x, hx⟩ : ∃ x, l0[i] = x := ⟨_, rfl⟩
        rw [hx] at hf1
        by_cases hsz : acc.length + x.f3.size + 2 ≤ 140737488355328
        · rw [if_pos hsz] at hf1
          obtain ⟨b, hpb, hf2⟩ := Option.bind_eq_some_iff.1 hf1
          obtain ⟨ad, rfl, q0, q1, q2, q3⟩ := at_T37 (Kd.C_below hr0 (hbel.out)) (i : Int) (by omega) (by omega)
          have hrd : rd_T37 l0 (i : Int) = x := by unfold rd_T37; rw [Int.toNat_natCast, List.getD_eq_getElem?_getD, List.getElem?_eq_getElem hlt, hx]; rfl
          rw [hrd, Int.toNat_natCast] at q0 q1 q2 q3
          obtain ⟨x0, x1, x2, x3⟩ := x
          dsimp only at q0 q1 q2 q3 hpb hf2 hsz
          have Hpb := Lib.hid hpb
          have Hf2 := Lib.hid hf2
          have hltI : (i : Int) < (l0.length : Int) := by omega
          clear hx hrd hf1 hf2 hpb e0 hf
          have hB1 := bld_alloc hB.out (.cells #[.string x0, .int .i64 x1, .bool x2, .string x3] 37)
          have hbel1 : Below w.heap.size w (wr.alloc (.cells #[.string x0, .int .i64 x1, .bool x2, .string x3] 37)) := hbel.out.alloc hbel.out.size _
          have HB1 := Lib.hid hB1
          have Hbel1 := Lib.hid hbel1
          have hgt : w.heap.size < wr.heap.size := by
            rcases hB.out with h | h <;> exact heap_lt h.2.choose_spec.1
          clear hB1 hbel1 hB hbel
          go_wp2_with fail
          refine (lines_printable.calls k x0 x1 x2 x3 b _ Hpb.out).mono ?_
          rintro e w1 ⟨rfl, hb⟩
          have bk : w1.heap[wr.heap.size]? = some (.cells #[.string x0, .int .i64 x1, .bool x2, .string x3] 37 (0, 0)) := (hb.block _ (by simp)).trans (heap_alloc_new wr _)
          have hB2 := Lib.hid (bld_below HB1.out hb)
          have hbel2 := Lib.hid (Hbel1.out.trans (hb.mono (Hbel1.out.size)))
          have cz2 : w1.cell? ⟨wr.heap.size, 2, none⟩ = some (.bool x2) := (blk_cell bk 2).trans rfl
          have cz3 : w1.cell? ⟨wr.heap.size, 3, none⟩ = some (.string x3) := (blk_cell bk 3).trans rfl
          have BK := Lib.hid bk
          clear hb bk HB1 Hbel1 Hpb q0 q1 q2 q3 hr0
          cases b with
          | false =>
            have hf3 := Hf2.out
            rw [if_neg (by decide)] at hf3
            obtain ⟨rfl, rfl⟩ : (⟨#[]⟩ : ByteArray) = r1 ∧ (8 : Int) = r2 := by simpa using hf3
            clear hf3 Hf2
            go_wp2
            go_ret2
            exact ⟨rfl, hbel2.out⟩
          | true =>
            have hf3 := Hf2.out
            rw [if_pos rfl] at hf3
            have Hf3 := Lib.hid hf3
            clear hf3 Hf2
            have hs2 := hbel2.out.size
            have ho : (x3 ++ (⟨#[10]⟩ : ByteArray)).data.toList = x3.data.toList ++ [10] := by rw [ByteArray.data_append]; simp
            have hx3 : x3.data.toList.length = x3.size := (Lib.size_eq x3).symm
            have hsz2 : (x3 ++ (⟨#[10]⟩ : ByteArray)).size = x3.size + 1 := by rw [ByteArray.size_append]; rfl
            have Ho := Lib.hid ho; have Hs2 := Lib.hid hsz2
            clear ho hx3 hsz2
            cases x2 with
            | false =>
              go_wp2_with fail
              refine (bld_WriteString _ _ acc _ _ hB2.out (by rw [Hs2.out]; omega) hs2).mono ?_
              rintro e w2 ⟨rfl, hB3, hb3, hk3⟩
              have HB4 : Hid (IsBld w.heap.size w.heap.size (acc ++ lines_Print.line ⟨x0, x1, false, x3⟩) w2) := Lib.hid (by rw [Ho.out] at hB3; exact hB3)
              have Hbel3 := Lib.hid (hbel2.out.trans hb3)
              clear hB3 hb3 hk3 hB2 hbel2 BK cz2 cz3
              go_wp2
              go_roundw
              case rel => exact ⟨i + 1, _, by go_num, by omega, Hf3, HB4, Hbel3⟩
              case measure => simp [intOf]; omega
            | true =>
              go_wp2_with fail
              refine (bld_WriteByte _ _ acc 9 _ hB2.out (by omega) hs2).mono ?_
              rintro e w2 ⟨rfl, hB3, hb3, hk3⟩
              have bk2 := lines_Print.kept BK.out hk3 (by omega) (by decide)
              have hbel3 := hbel2.out.trans hb3
              have hs3 := hbel3.size
              have cy3 : w2.cell? ⟨wr.heap.size, 3, none⟩ = some (.string x3) := (blk_cell bk2 3).trans rfl
              have HB3 := Lib.hid hB3
              have Hbel3 := Lib.hid hbel3
              clear hB3 hb3 hk3 hB2 hbel2 BK cz2 cz3 bk2 hbel3
              go_wp2_with fail
              refine (bld_WriteString _ _ (acc ++ [9]) _ _ HB3.out (by rw [Hs2.out, List.length_append, List.length_singleton]; omega) hs3).mono ?_
              rintro e w3 ⟨rfl, hB4, hb4, hk4⟩
              have HB4 : Hid (IsBld w.heap.size w.heap.size (acc ++ lines_Print.line ⟨x0, x1, true, x3⟩) w3) := Lib.hid (by rw [Ho.out, List.append_assoc] at hB4; exact hB4)
              have Hbel4 := Lib.hid (Hbel3.out.trans hb4)
              clear hB4 hb4 hk4 HB3 Hbel3 cy3
              go_wp2
              go_roundw
              case rel => exact ⟨i + 1, _, by go_num, by omega, Hf3, HB4, Hbel4⟩
              case measure => simp [intOf]; omega
        · rw [if_neg hsz] at hf1
          cases hf1
      · obtain rfl : i = l0.length := by omega
        have hf1 := hf.out
        rw [List.drop_length, lines_Print.l0] at hf1
        obtain ⟨rfl, rfl⟩ : (⟨acc.toArray⟩ : ByteArray) = r1 ∧ (0 : Int) = r2 := by simpa using hf1
        have hs := hbel.out.size
        clear hf1 hf
        go_wp2_with fail
        refine (bld_String _ _ acc _ hB.out hs).mono ?_
        rintro e w2 ⟨rfl, hB3, hb3, hk3⟩
        have Hbel3 := Lib.hid (hbel.out.trans hb3)
        clear hB3 hb3 hk3 hB hbel
        go_wp2
        go_ret2
        exact ⟨rfl, Hbel3.out⟩
end Go.Proofs.YtoclolaljaiogaaDoor.PX
