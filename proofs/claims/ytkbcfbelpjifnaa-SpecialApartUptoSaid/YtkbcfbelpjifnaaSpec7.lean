/- special.Suffix. -/
import Derived.Test.YtkbcfbelpjifnaaSpec6
import Derived.Test.YtkbcfbelpjifnaaSpecSh
namespace Go.Proofs.Ytkbcfbelpjifnaa.Spec
open Go Go.RowKit Go.Proofs Go.Proofs.YtkbcfbelpjifnaaW.PrintWords Go.Proofs.Ytkbcfbelpjifnaa.PX Go.Proofs.Ytkbcfbelpjifnaa.Plain
set_option linter.unusedVariables false
set_option linter.unusedSimpArgs false

theorem let_ascii (c : Int) (h0 : 0 ≤ c) (h1 : c ≤ 255) (h : letB c = true) : c < 128 := by
  have hh : ∀ n : Fin 256, letB (n.val : Int) = true → (n.val : Int) < 128 := by decide +kernel
  have := hh ⟨c.toNat, by omega⟩
  rw [show ((⟨c.toNat, by omega⟩ : Fin 256).val : Int) = c by simp; omega] at this
  exact this h
theorem allLet_at (s : ByteArray) : ∀ (d i : Nat), allLet s d i = true → ∀ j, i ≤ j → j < i + d → letB (bt s (j : Int)) = true
  | 0, i, h, j, h1, h2 => by omega
  | d + 1, i, h, j, h1, h2 => by
    unfold allLet at h
    simp at h
    by_cases e : j = i
    · rw [e]; exact h.1
    · exact allLet_at s d (i + 1) h.2 j (by omega) (by omega)
/-- A name's bytes are ASCII. -/
theorem name_ascii {s : ByteArray} (h : isName s = true) : ∀ (j : Nat) b, s.data.toList[j]? = some b → b.toNat < 128 := by
  intro j b hb
  have hj : j < s.data.toList.length := (List.getElem?_eq_some_iff.1 hb).1
  rw [data_length] at hj
  unfold isName at h
  simp at h
  have hl := allLet_at s s.size 0 h.2 j (by omega) (by omega)
  have h2 := let_ascii _ (bt_range s (j : Int)).1 (bt_range s (j : Int)).2 hl
  rw [← rd_bytesOf] at h2
  unfold rd bytesOf at h2
  rw [show ((j : Int)).toNat = j by omega, List.getD_eq_getElem?_getD, List.getElem?_map, hb] at h2
  simp at h2
  omega
/-- Is a text a suffix? -/
def isSuf (s : ByteArray) : Bool := isName s && decide (1 < s.size) && decide (bt s 0 = 46) && !Lib.containsAny (s.extract 1 s.size).data.toList [46, 47]
set_option maxHeartbeats 2000000 in
set_option maxRecDepth 100000 in
theorem suffix_calls (s : ByteArray) (hs : s.size ≤ 4611686018427387904) (w : World) : Calls Try.prog 24 #[.string s] w fun e w' => e = .returned (.bool (isSuf s)) ∧ Below w.heap.size w w' := by
  have hc := check_calls s hs w
  cases hn : isName s with
  | false =>
    have e1 : isSuf s = false := by unfold isSuf; rw [hn]; rfl
    rw [e1]
    rw [hn] at hc
    go_enter Try.func24, Try.ntmps24
    go_wp2_with fail
    refine hc.mono ?_
    rintro e w2 ⟨rfl, hb⟩
    go_wp2
    go_ret
    exact ⟨rfl, hb.below⟩
  | true =>
    rw [hn] at hc
    by_cases h1 : 1 < s.size
    · have d1 : (1 : Int) < (s.size : Int) := by omega
      have d2 : 0 < s.size := by omega
      have hbt : bt s 0 = ((s[0]'d2).toNat : Int) := (bt_at s 0 (by simpa using d2)).symm
      by_cases h46 : ((s[0]'d2).toNat : Int) = 46
      · have hasc : ∀ (j : Nat) b, (s.extract 1 s.size).data.toList[j]? = some b → b.toNat < 128 := by
          intro j b hb
          refine name_ascii hn (j + 1) b ?_
          have hb2 : (List.take (s.size - 1) s.data.toList.tail)[j]? = some b := by
            rw [← hb]
            simp [ByteArray.data_extract]
          rw [List.getElem?_take] at hb2
          split at hb2
          · rw [List.getElem?_tail] at hb2
            exact hb2
          · cases hb2
        have hs64 : s.size ≤ 64 := by
          have hn' := hn
          unfold isName at hn'
          simp at hn'
          omega
        have hac : ∀ (j : Nat) b, (⟨#[46, 47]⟩ : ByteArray).data.toList[j]? = some b → b.toNat < 128 := by
          intro j b hb
          have := List.mem_of_getElem? hb
          simp at this
          rcases this with rfl | rfl <;> decide
        have hca := fun W => Try.strings_ContainsAny (zero_of_info (P := Try.prog) (n := 256) (by kernel_rfl)).1 (s.extract 1 s.size) ⟨#[46, 47]⟩ W (by simp; omega) (by decide) hasc hac
        have e1 : isSuf s = !Lib.containsAny (s.extract 1 s.size).data.toList (⟨#[46, 47]⟩ : ByteArray).data.toList := by unfold isSuf; simp [hn, h1, hbt, h46]
        generalize Lib.containsAny (s.extract 1 s.size).data.toList (⟨#[46, 47]⟩ : ByteArray).data.toList = q at hca e1
        clear hasc hac
        rw [e1]
        go_enter Try.func24, Try.ntmps24
        go_wp2_with fail
        refine hc.mono ?_
        rintro e w2 ⟨rfl, hb⟩
        go_wp2_with fail
        refine (hca w2).mono ?_
        rintro e w3 ⟨rfl, hb3⟩
        go_wp2
        go_ret
        exact ⟨rfl, below_t hb.below hb3⟩
      · have e1 : isSuf s = false := by unfold isSuf; simp [hbt, h46]
        rw [e1]
        go_enter Try.func24, Try.ntmps24
        go_wp2_with fail
        refine hc.mono ?_
        rintro e w2 ⟨rfl, hb⟩
        go_wp2
        go_ret
        exact ⟨rfl, hb.below⟩
    · have d1 : ¬ ((1 : Int) < (s.size : Int)) := by omega
      have e1 : isSuf s = false := by unfold isSuf; simp [h1]
      rw [e1]
      go_enter Try.func24, Try.ntmps24
      go_wp2_with fail
      refine hc.mono ?_
      rintro e w2 ⟨rfl, hb⟩
      go_wp2
      go_ret
      exact ⟨rfl, hb.below⟩
end Go.Proofs.Ytkbcfbelpjifnaa.Spec
