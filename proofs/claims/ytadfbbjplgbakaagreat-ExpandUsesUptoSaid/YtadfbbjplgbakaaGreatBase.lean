/- Plain lemmas on bytes, lists and rounds that this session's proofs share. No program in sight. -/
import Derived.Test.YtadfbbjplgbakaaGreatWWords
import Derived.Lib.Strings
import Derived.Lib.Join
import Derived.Lib.Bytealg
namespace Go.Proofs.YtadfbbjplgbakaaGreat.Plain
open Go.RowKit Go.Proofs.YtadfbbjplgbakaaGreatW.PrintWords

/-! ### rounds -/
theorem ev_pos {α : Type} {c : Prop} [Decidable c] {g f : Nat → Option α} {r : α} (h : c) (k : Ev g r) : Ev (fun n => if c then g n else f n) r := by
  obtain ⟨K, hK⟩ := k
  exact ⟨K, fun n hn => (if_pos h).trans (hK n hn)⟩
theorem ev_neg {α : Type} {c : Prop} [Decidable c] {g f : Nat → Option α} {r : α} (h : ¬ c) (k : Ev f r) : Ev (fun n => if c then g n else f n) r := by
  obtain ⟨K, hK⟩ := k
  exact ⟨K, fun n hn => (if_neg h).trans (hK n hn)⟩
theorem ev_const {α β : Type} {g : Option α} {f : Nat → α → Option β} {a : α} {r : β} (h : g = some a) (k : Ev (fun n => f n a) r) : Ev (fun n => g.bind (f n)) r := by
  subst h
  exact k
theorem ev_eq {α : Type} {g : Nat → Option α} {r q : α} (h : Ev g r) (e : r = q) : Ev g q := e ▸ h
theorem ev_some {α : Type} {r q : α} (e : r = q) : Ev (fun _ => some r) q := e ▸ Ev.now r
theorem ev_const_eq {α : Type} {g : Option α} {a : α} (h : g = some a) : Ev (fun _ => g) a := ⟨0, fun _ _ => h⟩
/-- Two ways, each comes to its own. -/
theorem ev_ite {α : Type} {c : Prop} [Decidable c] {g f : Nat → Option α} {r q : α} (h : c → Ev g r) (k : ¬ c → Ev f q) : Ev (fun n => if c then g n else f n) (if c then r else q) := by
  by_cases hc : c
  · rw [if_pos hc]; exact ev_pos hc (h hc)
  · rw [if_neg hc]; exact ev_neg hc (k hc)
/-- Two ways that come to one end. -/
theorem ev_ite2 {α : Type} {c : Prop} [Decidable c] {g f : Nat → Option α} {r : α} (h : c → Ev g r) (k : ¬ c → Ev f r) : Ev (fun n => if c then g n else f n) r := by
  by_cases hc : c
  · exact ev_pos hc (h hc)
  · exact ev_neg hc (k hc)

/-! ### numbers -/
theorem wrap_id {x : Int} (h1 : -9223372036854775808 ≤ x) (h2 : x ≤ 9223372036854775807) : wrap64 x = x := by
  unfold wrap64
  omega

/-! ### bytes -/
/-- A text's bytes. -/
def L (s : ByteArray) : List UInt8 := s.data.toList
/-- Bytes as a text. -/
abbrev B (l : List UInt8) : ByteArray := ⟨l.toArray⟩
theorem B_L (s : ByteArray) : B (L s) = s := rfl
theorem L_B (l : List UInt8) : L (B l) = l := rfl
theorem toList_L (s : ByteArray) : s.toList = L s := Lib.toList_data s
theorem size_L (s : ByteArray) : s.size = (L s).length := Lib.size_eq s
theorem L_inj {s t : ByteArray} (h : L s = L t) : s = t := by rw [← B_L s, ← B_L t, h]
theorem B_inj {l m : List UInt8} (h : B l = B m) : l = m := by rw [← L_B l, ← L_B m, h]
theorem L_append (s t : ByteArray) : L (s ++ t) = L s ++ L t := by
  show (s ++ t).data.toList = _
  rw [ByteArray.data_append]; simp [L]
theorem L_extract (s : ByteArray) (a b : Nat) : L (s.extract a b) = ((L s).drop a).take (b - a) := Lib.extract_data s a b
theorem extract_B (s : ByteArray) (a b : Nat) : s.extract a b = B (((L s).drop a).take (b - a)) := L_inj (L_extract s a b)
theorem append_B (l m : List UInt8) : B l ++ B m = B (l ++ m) := L_inj (L_append _ _)
theorem map_B_L (ws : List ByteArray) : (ws.map L).map B = ws := by induction ws with
  | nil => rfl
  | cons a t ih => simp only [List.map_cons, ih, B_L]
theorem map_L_B (ws : List (List UInt8)) : (ws.map B).map L = ws := by induction ws with
  | nil => rfl
  | cons a t ih => simp only [List.map_cons, ih, L_B]
/-- The byte at a place, as a number. -/
theorem bt_L (s : ByteArray) (i : Int) : bt s i = (((L s)[i.toNat]?).map (fun b => (b.toNat : Int))).getD 0 := by
  unfold bt
  split
  · rename_i h
    have h' : i.toNat < (L s).length := by rw [← size_L]; exact h
    rw [List.getElem?_eq_getElem h']
    rfl
  · rename_i h
    rw [List.getElem?_eq_none (by rw [← size_L]; omega)]
    rfl
theorem bt_at_L {s : ByteArray} {i : Nat} {b : UInt8} (h : (L s)[i]? = some b) : bt s (i : Int) = (b.toNat : Int) := by
  rw [bt_L, show ((i : Int)).toNat = i from rfl, h]; rfl
theorem u8_eq {a b : UInt8} : a.toNat = b.toNat ↔ a = b := ⟨fun h => UInt8.toNat_inj.1 h, fun h => h ▸ rfl⟩
theorem rdOf_at {α : Type} {d : α} {xs : List α} {i : Nat} {x : α} (h : xs[i]? = some x) : rdOf d xs (i : Int) = x := by
  unfold rdOf
  rw [show ((i : Int)).toNat = i from rfl, List.getD_eq_getElem?_getD, h]; rfl
theorem rd_at {xs : List Int} {i : Nat} {x : Int} (h : xs[i]? = some x) : rd xs (i : Int) = x := by
  unfold rd
  rw [show ((i : Int)).toNat = i from rfl, List.getD_eq_getElem?_getD, h]; rfl

end Go.Proofs.YtadfbbjplgbakaaGreat.Plain
