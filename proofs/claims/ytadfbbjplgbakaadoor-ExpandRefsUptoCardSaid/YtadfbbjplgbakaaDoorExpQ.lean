/- Plain: an escaped text becomes the text. -/
import Derived.Test.YtadfbbjplgbakaaDoorExpQb
import Derived.Test.YtadfbbjplgbakaaDoorExpEs
import Derived.Test.YtadfbbjplgbakaaDoorPXx0
namespace Go.Proofs.YtadfbbjplgbakaaDoor.Plain
open Go Go.RowKit Go.Proofs.YtadfbbjplgbakaaDoorW.PrintWords Go.Proofs.YtadfbbjplgbakaaDoor.PX Go.Proofs.YtadfbbjplgbakaaDoor.Exp
set_option linter.unusedVariables false

/-! ### an escaped text -/
theorem ahead_front (p r : List UInt8) (h : 36 ∉ p) : aheadB 36 (p ++ 36 :: r) = p := by
  unfold aheadB
  induction p with
  | nil => rfl
  | cons c t ih =>
    have hc : c ≠ 36 := fun e => h (by rw [e]; exact List.mem_cons_self ..)
    rw [List.cons_append, List.takeWhile_cons, if_pos (by simpa using hc), ih (fun hm => h (List.mem_cons_of_mem _ hm))]
theorem TX_last (E : Env) (u : List (List UInt8)) (n : Nat) (out l : List UInt8) (h : 36 ∉ l) (hl : (out ++ l).length ≤ 8192) : TX E u n out l = .ok (out ++ l) n := by
  rw [TX_eq]
  by_cases h0 : l = []
  · rw [if_pos h0, h0, List.append_nil]
  · rw [if_neg h0, ahead_all 36 l h, if_neg (by omega), if_pos (List.drop_length ..)]
theorem TX_esc (E : Env) (u : List (List UInt8)) : ∀ (d : Nat) (l : List UInt8) (n : Nat) (out : List UInt8), l.length ≤ d → (out ++ l).length ≤ 8192 → n + l.count 36 ≤ 4096 → TX E u n out (escL l) = .ok (out ++ l) (n + l.count 36)
  | 0, l, n, out, hd, hl, hn => by
    obtain rfl : l = [] := List.eq_nil_of_length_eq_zero (by omega)
    exact TX_last E u n out [] (by simp) hl
  | d + 1, l, n, out, hd, hl, hn => by
    by_cases hm : 36 ∈ l
    · have hcs := count_split l hm
      have hsp := split36 l hm
      have hes := escL_split l hm
      have hna := ahead_not 36 l
      obtain ⟨p, hp⟩ : ∃ p, aheadB 36 l = p := ⟨_, rfl⟩
      obtain ⟨r, hr⟩ : ∃ r, behindB 36 l = r := ⟨_, rfl⟩
      rw [hp, hr] at hsp hes
      rw [hr] at hcs
      rw [hp] at hna
      have hlen : l.length = p.length + 1 + r.length := by rw [hsp]; simp; omega
      have hol : (out ++ l).length = out.length + p.length + 1 + r.length := by rw [List.length_append, hlen]; omega
      have e1 : escL l = p ++ 36 :: (36 :: escL r) := by rw [hes]; simp
      have e2 : (escL l).drop p.length = 36 :: 36 :: escL r := by rw [e1, List.drop_left]
      have e3 : rdX (36 :: 36 :: escL r) = (⟨[36], false, [], [], 2⟩, true) := by
        unfold rdX
        exact if_pos (Or.inl rfl)
      have ha : aheadB 36 (escL l) = p := by rw [e1]; exact ahead_front _ _ hna
      rw [TX_eq, if_neg (by rw [e1]; simp), ha, if_neg (by rw [List.length_append]; omega), e2, if_neg (by simp), e3, if_neg (by decide), if_neg (by omega)]
      have e4 : stp E (fun u n l => TX E u n [] l) u (n + 1) ⟨[36], false, [], [], 2⟩ = .ok [36] (n + 1) := if_pos rfl
      simp only [e4, Res.then]
      rw [if_neg (by simp only [List.length_append, List.length_cons, List.length_nil]; omega)]
      have e5 : (36 :: 36 :: escL r).drop 2 = escL r := rfl
      rw [e5, TX_esc E u d r (n + 1) (out ++ p ++ [36]) (by omega) (by simp only [List.length_append, List.length_cons, List.length_nil]; omega) (by omega)]
      have e6 : out ++ p ++ [36] ++ r = out ++ l := by rw [hsp]; simp
      rw [e6, hcs]
      congr 1
      omega
    · rw [escL_none l hm, TX_last E u n out l hm hl, List.count_eq_zero.2 hm]; rfl
/-- Text at an escaped text. -/
theorem outT_esc (M : List Mac) (t : ByteArray) (h1 : t.size ≤ 8192) (h2 : (L t).count 36 ≤ 4096) : outT M 0 (B (escL (L t))) = (t, 0) := by
  have hz := size_L t
  have hle := escL_len (L t)
  have hs : (B (escL (L t))).size ≤ 65536 := by rw [size_L, L_B, hle]; omega
  have ha : askE 0 (B (escL (L t))) = 0 := by unfold askE; rw [if_pos rfl, if_pos hs]
  unfold outT
  rw [if_pos ha, L_B, TX_esc (envM M) [] (L t).length (L t) 0 [] (Nat.le_refl _) (by simp; omega) (by omega)]
  rfl

end Go.Proofs.YtadfbbjplgbakaaDoor.Plain
