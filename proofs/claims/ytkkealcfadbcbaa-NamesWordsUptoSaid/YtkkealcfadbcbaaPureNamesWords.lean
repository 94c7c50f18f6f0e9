/- For every text and every list, Words, Join and Unique of the package names are what the reference says of them, and the list stays as it is (a bulk of at most 1048576). -/
import Derived.Test.YtkkealcfadbcbaaNames1
import Derived.Test.YtkkealcfadbcbaaSwapP
import Derived.Test.YtkkealcfadbcbaaOpens
import Derived.Test.YtkkealcfadbcbaaPXx7
import Derived.Test.YtkkealcfadbcbaaPXx8
namespace Go.Proofs.Ytkkealcfadbcbaa.Pure
open Go.RowKit Go.Proofs.Ytkkealcfadbcbaa.PX Go.Proofs.YtkkealcfadbcbaaW.PrintWords Go.Proofs.Ytkkealcfadbcbaa.Plain Go.Proofs.Ytkkealcfadbcbaa.Opens

theorem runique_loop (l : List ByteArray) (hl : l.length < 8796093022208) : ∀ (d i : Nat) (acc : List ByteArray), i + d = l.length → acc.length ≤ i →
    Ev (fun k => smithyref03_Unique.l0 k acc l (l.length : Int) (i : Int)) (uniq acc (l.drop i))
  | 0, i, acc, hi, _ => by
    obtain rfl : i = l.length := by omega
    exact Ev.step (fun _ => rfl) (ev_neg (by omega) (ev_some (by simp [uniq])))
  | d + 1, i, acc, hi, ha => by
    have hlt : i < l.length := by omega
    rw [drop_cons hlt]
    refine Ev.step (fun _ => rfl) (ev_pos (by omega) (ev_pos (by omega) (ev_pos (by omega) (Ev.bind (has_ev acc _ (by omega)) ?_))))
    rw [rdOf_get hlt, wrap_id (by omega) (by omega)]
    by_cases hx : memB l[i] acc = true
    · refine ev_pos hx ?_
      rw [uniq, if_pos hx]
      exact runique_loop l hl d (i + 1) acc (by omega) (by omega)
    · refine ev_neg hx (ev_pos (by omega) ?_)
      rw [uniq, if_neg hx]
      exact runique_loop l hl d (i + 1) (acc ++ [l[i]]) (by omega) (by simp; omega)
theorem runique_ev (l : List ByteArray) (hl : l.length < 8796093022208) : Ev (fun k => smithyref03_Unique.f k l) (uniq [] l) := by
  have := runique_loop l hl l.length 0 [] (by omega) (by simp)
  rw [List.drop_zero] at this
  exact this
theorem mine_loop (l : List ByteArray) (hl : l.length ≤ 4611686018427387904) (n : Nat) (hn : n ≤ 4611686018427387904) : ∀ (d i : Nat) (b : List ByteArray), i + d = n → b.length = n →
    Ev (fun k => smithylaw03_NamesWords.l0 k l l b (n : Int) (i : Int)) true
  | 0, i, b, hi, hb => by
    obtain rfl : i = n := by omega
    exact Ev.step (fun _ => rfl) (ev_neg (by omega) (Ev.bind (texts_ev l l hl) (ev_pos (by simp) (Ev.bind small_ev (ev_some rfl)))))
  | d + 1, i, b, hi, hb => by
    refine Ev.step (fun _ => rfl) (ev_pos (by omega) (ev_pos (by omega) (ev_pos (by omega) ?_)))
    rw [wrap_id (by omega) (by omega)]
    exact mine_loop l hl n hn d (i + 1) _ (by omega) (by rw [List.length_set]; exact hb)
theorem NamesWords (a0 : ByteArray) (l1 : List ByteArray) (hB : bkS a0 + bkL bkS l1 ≤ 1048576) : ∃ k, smithylaw03_NamesWords.f k a0 l1 = some true := by
  have h1 : sumS l1 + 1 = bkL bkS l1 := rfl
  have h2 := sumS_len l1
  unfold bkS at hB
  rw [show bkL (fun s : ByteArray => s.size + 1) l1 = sumS l1 + 1 from rfl] at hB
  have ho : smithyplain_Own.f l1 = some l1 := by
    unfold smithyplain_Own.f
    rw [if_pos (by simp only [List.length_nil]; omega), List.nil_append]
  have hw := words_sum a0
  have hwl := sumS_len ((words (L a0)).map B)
  refine Ev.rounds (r := true) ?_
  refine ev_const ho (ev_const (words_some a0 (by omega)) (Ev.bind (unique_ev l1 (by omega)) (Ev.bind (rwords_ev a0 (by omega)) (Ev.bind (texts_ev _ _ (by omega)) (ev_pos (by simp) ?_)))))
  refine ev_const (join_some l1 (by omega)) (Ev.bind (rjoin_ev l1 (by omega)) (ev_pos rfl ?_))
  have hu := uniq_len l1 []
  simp only [List.length_nil, Nat.zero_add] at hu
  refine Ev.bind (runique_ev l1 (by omega)) (Ev.bind (texts_ev _ _ (by omega)) ?_)
  rw [show (!decide (uniq [] l1 = uniq [] l1)) = false by simp]
  exact Ev.step (f := fun k => smithylaw03_NamesWords.l0 k l1 l1 (uniq [] l1) ((uniq [] l1).length : Int) 0) (fun _ => rfl) (mine_loop l1 (by omega) _ (by omega) _ 0 _ (Nat.zero_add _) rfl)
end Go.Proofs.Ytkkealcfadbcbaa.Pure
