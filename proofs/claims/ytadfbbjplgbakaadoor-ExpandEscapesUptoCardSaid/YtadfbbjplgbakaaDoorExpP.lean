/- What a text becomes: references, and what they stand for, as lists of bytes. -/
import Derived.Test.YtadfbbjplgbakaaDoorBase
namespace Go.Proofs.YtadfbbjplgbakaaDoor.Plain
open Go.RowKit Go.Proofs.YtadfbbjplgbakaaDoorW.PrintWords

/-! ### a reference -/
/-- May a byte be an inner macro's name? -/
def innB (c : UInt8) : Bool := ([64, 60, 63, 42, 94] : List UInt8).contains c
/-- Is a name an inner macro's? -/
def innL : List UInt8 → Bool
  | [c] => innB c
  | [c, d] => innB c && (d == 68 || d == 70)
  | _ => false
/-- May a byte stand alone behind a $? -/
def oneB (c : UInt8) : Bool := (65 ≤ c.toNat && c.toNat ≤ 90) || (97 ≤ c.toNat && c.toNat ≤ 122) || (48 ≤ c.toNat && c.toNat ≤ 57) || c == 95 || innB c
/-- May a byte stand in a macro's name? -/
def namB (c : UInt8) : Bool := (65 ≤ c.toNat && c.toNat ≤ 90) || (97 ≤ c.toNat && c.toNat ≤ 122) || (48 ≤ c.toNat && c.toNat ≤ 57) || c == 95 || c == 46
/-- Is a text a macro's name? -/
def namL (l : List UInt8) : Bool := decide (0 < l.length) && decide (l.length ≤ 64) && l.all namB
structure Rf where
  name : List UInt8
  swap : Bool
  from_ : List UInt8
  to_ : List UInt8
  size : Nat
def Rf.none : Rf := ⟨[], false, [], [], 0⟩
/-- What stands ahead of a byte; all, if it is not there. -/
def aheadB (b : UInt8) (l : List UInt8) : List UInt8 := l.takeWhile (fun c => c != b)
/-- What stands behind the first of a byte; nothing, if it is not there. -/
def behindB (b : UInt8) (l : List UInt8) : List UInt8 := l.drop ((aheadB b l).length + 1)
/-- What is in a reference's brackets: n the reference's size. -/
def rdIn (inn : List UInt8) : Rf × Bool :=
  let nm := aheadB 58 inn
  let how := behindB 58 inn
  if inn.contains 58 = true then
    (if how.contains 61 = true ∧ how.contains 36 = false then (⟨nm, true, aheadB 61 how, behindB 61 how, inn.length + 3⟩, namL nm || innL nm) else (Rf.none, false))
  else (⟨nm, false, [], [], inn.length + 3⟩, namL nm || innL nm)
/-- The bracket that closes one; 0: it is none. -/
def shutB (c : UInt8) : UInt8 := if c = 40 then 41 else if c = 123 then 125 else 0
/-- The reference at the front of a text that begins with a $; false: there is none. -/
def rdX (l : List UInt8) : Rf × Bool :=
  match l with
  | _ :: c :: t =>
    if c = 36 ∨ oneB c = true then (⟨[c], false, [], [], 2⟩, true)
    else if c = 40 ∨ c = 123 then (if t.contains (shutB c) = true then rdIn (aheadB (shutB c) t) else (Rf.none, false))
    else (Rf.none, false)
  | _ => (Rf.none, false)

/-! ### what a text becomes -/
inductive Res where
  | ok (out : List UInt8) (n : Nat)
  | bad (c : Nat)
def Res.then : Res → (List UInt8 → Nat → Res) → Res
  | .ok o n, k => k o n
  | .bad c, _ => .bad c
/-- What the names stand for, and how ends are swapped. -/
structure Env where
  val : List UInt8 → List UInt8
  swap : List UInt8 → List UInt8 → List UInt8 → List UInt8
/-- What a reference stands for: rec, what a macro's value becomes. -/
def stp (E : Env) (rec : List (List UInt8) → Nat → List UInt8 → Res) (u : List (List UInt8)) (n : Nat) (r : Rf) : Res :=
  if r.name = [36] then .ok [36] n
  else Res.then (if innL r.name = true then .ok [] n else if r.name ∈ u then .bad 61 else rec (u ++ [r.name]) n (E.val r.name)) fun t m =>
    if r.swap = true then (if 8192 < (E.swap t r.from_ r.to_).length then .bad 41 else .ok (E.swap t r.from_ r.to_) m) else .ok t m
/-- What a text becomes, behind what is there: k bounds how deep it goes. -/
def tx (E : Env) : Nat → List (List UInt8) → Nat → List UInt8 → List UInt8 → Res
  | 0, _, _, _, _ => .bad 41
  | k + 1, u, n, out, l =>
    if l = [] then .ok out n
    else if 8192 < (out ++ aheadB 36 l).length then .bad 41
    else if l.drop (aheadB 36 l).length = [] then .ok (out ++ aheadB 36 l) n
    else if (rdX (l.drop (aheadB 36 l).length)).2 = false then .bad 60
    else if 4096 < n + 1 then .bad 41
    else Res.then (stp E (fun u n l => tx E k u n [] l) u (n + 1) (rdX (l.drop (aheadB 36 l).length)).1) fun t m =>
      if 8192 < (out ++ aheadB 36 l ++ t).length then .bad 41
      else tx E k u m (out ++ aheadB 36 l ++ t) ((l.drop (aheadB 36 l).length).drop (rdX (l.drop (aheadB 36 l).length)).1.size)
/-- A round of it. -/
theorem tx_succ (E : Env) (k : Nat) (u : List (List UInt8)) (n : Nat) (out l : List UInt8) : tx E (k + 1) u n out l =
    if l = [] then .ok out n
    else if 8192 < (out ++ aheadB 36 l).length then .bad 41
    else if l.drop (aheadB 36 l).length = [] then .ok (out ++ aheadB 36 l) n
    else if (rdX (l.drop (aheadB 36 l).length)).2 = false then .bad 60
    else if 4096 < n + 1 then .bad 41
    else Res.then (stp E (fun u n l => tx E k u n [] l) u (n + 1) (rdX (l.drop (aheadB 36 l).length)).1) fun t m =>
      if 8192 < (out ++ aheadB 36 l ++ t).length then .bad 41
      else tx E k u m (out ++ aheadB 36 l ++ t) ((l.drop (aheadB 36 l).length).drop (rdX (l.drop (aheadB 36 l).length)).1.size) := rfl
/-- What was told is told behind it too. -/
theorem then_ok {r : Res} {f : List UInt8 → Nat → Res} {o : List UInt8} {m : Nat} (h : Res.then r f = .ok o m) : ∃ t q, r = .ok t q ∧ f t q = .ok o m := by
  cases r with
  | ok t q => exact ⟨t, q, rfl, h⟩
  | bad c => cases h
/-- The count of references never falls. -/
theorem stp_n {E : Env} {rec : List (List UInt8) → Nat → List UInt8 → Res} {u : List (List UInt8)} {n : Nat} {r : Rf} {o : List UInt8} {m : Nat} (hr : ∀ u n l o m, rec u n l = .ok o m → n ≤ m) (h : stp E rec u n r = .ok o m) : n ≤ m := by
  unfold stp at h
  by_cases c1 : r.name = [36]
  · rw [if_pos c1] at h; cases h; exact Nat.le_refl _
  · rw [if_neg c1] at h
    obtain ⟨t, q, h1, h2⟩ := then_ok h
    have hq : n ≤ q := by
      by_cases c2 : innL r.name = true
      · rw [if_pos c2] at h1; cases h1; exact Nat.le_refl _
      · rw [if_neg c2] at h1
        by_cases c3 : r.name ∈ u
        · rw [if_pos c3] at h1; cases h1
        · rw [if_neg c3] at h1; exact hr _ _ _ _ _ h1
    by_cases c4 : r.swap = true
    · rw [if_pos c4] at h2
      by_cases c5 : 8192 < (E.swap t r.from_ r.to_).length
      · rw [if_pos c5] at h2; cases h2
      · rw [if_neg c5] at h2; cases h2; exact hq
    · rw [if_neg c4] at h2; cases h2; exact hq
theorem tx_n (E : Env) : ∀ (k : Nat) (u : List (List UInt8)) (n : Nat) (out l o : List UInt8) (m : Nat), tx E k u n out l = .ok o m → n ≤ m
  | 0, _, _, _, _, _, _, h => by cases h
  | k + 1, u, n, out, l, o, m, h => by
    rw [tx_succ] at h
    by_cases c1 : l = []
    · rw [if_pos c1] at h; cases h; exact Nat.le_refl _
    rw [if_neg c1] at h
    by_cases c2 : 8192 < (out ++ aheadB 36 l).length
    · rw [if_pos c2] at h; cases h
    rw [if_neg c2] at h
    by_cases c3 : l.drop (aheadB 36 l).length = []
    · rw [if_pos c3] at h; cases h; exact Nat.le_refl _
    rw [if_neg c3] at h
    by_cases c4 : (rdX (l.drop (aheadB 36 l).length)).2 = false
    · rw [if_pos c4] at h; cases h
    rw [if_neg c4] at h
    by_cases c5 : 4096 < n + 1
    · rw [if_pos c5] at h; cases h
    rw [if_neg c5] at h
    obtain ⟨t, q, h1, h2⟩ := then_ok h
    have hq := stp_n (fun u n l o m h => tx_n E k u n [] l o m h) h1
    by_cases c6 : 8192 < (out ++ aheadB 36 l ++ t).length
    · rw [if_pos c6] at h2; cases h2
    rw [if_neg c6] at h2
    have := tx_n E k _ _ _ _ _ _ h2
    omega
theorem tx_len (E : Env) : ∀ (k : Nat) (u : List (List UInt8)) (n : Nat) (out l o : List UInt8) (m : Nat), tx E k u n out l = .ok o m → out.length ≤ 8192 → o.length ≤ 8192
  | 0, _, _, _, _, _, _, h, _ => by cases h
  | k + 1, u, n, out, l, o, m, h, ho => by
    rw [tx_succ] at h
    by_cases c1 : l = []
    · rw [if_pos c1] at h; cases h; exact ho
    rw [if_neg c1] at h
    by_cases c2 : 8192 < (out ++ aheadB 36 l).length
    · rw [if_pos c2] at h; cases h
    rw [if_neg c2] at h
    by_cases c3 : l.drop (aheadB 36 l).length = []
    · rw [if_pos c3] at h; cases h; omega
    rw [if_neg c3] at h
    by_cases c4 : (rdX (l.drop (aheadB 36 l).length)).2 = false
    · rw [if_pos c4] at h; cases h
    rw [if_neg c4] at h
    by_cases c5 : 4096 < n + 1
    · rw [if_pos c5] at h; cases h
    rw [if_neg c5] at h
    obtain ⟨t, q, h1, h2⟩ := then_ok h
    by_cases c6 : 8192 < (out ++ aheadB 36 l ++ t).length
    · rw [if_pos c6] at h2; cases h2
    rw [if_neg c6] at h2
    exact tx_len E k _ _ _ _ _ _ h2 (by omega)
theorem stp_congr {E : Env} {rec rec' : List (List UInt8) → Nat → List UInt8 → Res} {u : List (List UInt8)} {n : Nat} {r : Rf} (h : rec (u ++ [r.name]) n (E.val r.name) = rec' (u ++ [r.name]) n (E.val r.name)) : stp E rec u n r = stp E rec' u n r := by
  unfold stp
  rw [h]
/-- One deeper changes nothing, once the references run out first. -/
theorem tx_deep (E : Env) : ∀ (k : Nat) (u : List (List UInt8)) (n : Nat) (out l : List UInt8), 4097 ≤ k + n → 0 < k → tx E (k + 1) u n out l = tx E k u n out l
  | 0, _, _, _, _, _, h => absurd h (Nat.lt_irrefl _)
  | k + 1, u, n, out, l, hk, _ => by
    rw [tx_succ, tx_succ E k]
    by_cases c5 : 4096 < n + 1
    · rw [if_pos c5, if_pos c5]
    · rw [if_neg c5, if_neg c5]
      have hr : stp E (fun u n l => tx E (k + 1) u n [] l) u (n + 1) (rdX (l.drop (aheadB 36 l).length)).1 = stp E (fun u n l => tx E k u n [] l) u (n + 1) (rdX (l.drop (aheadB 36 l).length)).1 :=
        stp_congr (tx_deep E k _ _ _ _ (by omega) (by omega))
      rw [hr]
      congr 4
      cases hs : stp E (fun u n l => tx E k u n [] l) u (n + 1) (rdX (l.drop (aheadB 36 l).length)).1 with
      | bad c => rfl
      | ok t q =>
        have hq := stp_n (fun u n l o m h => tx_n E k u n [] l o m h) hs
        simp only [Res.then]
        by_cases c6 : 8192 < (out ++ aheadB 36 l ++ t).length
        · rw [if_pos c6, if_pos c6]
        · rw [if_neg c6, if_neg c6]
          exact tx_deep E k _ _ _ _ (by omega) (by omega)
/-- What a text becomes, however deep. -/
def TX (E : Env) (u : List (List UInt8)) (n : Nat) (out l : List UInt8) : Res := tx E 4097 u n out l
theorem tx_eq (E : Env) (d k : Nat) (u : List (List UInt8)) (n : Nat) (out l : List UInt8) (hk : 4097 ≤ k + n) (h0 : 0 < k) : tx E (k + d) u n out l = tx E k u n out l := by
  induction d with
  | zero => rfl
  | succ d ih => rw [← Nat.add_assoc, tx_deep E (k + d) u n out l (by omega) (by omega), ih]
theorem tx_TX (E : Env) (k : Nat) (u : List (List UInt8)) (n : Nat) (out l : List UInt8) (hk : 4097 ≤ k + n) (h0 : 0 < k) : tx E k u n out l = TX E u n out l := by
  unfold TX
  by_cases h : k ≤ 4097
  · obtain ⟨d, hd⟩ : ∃ d, 4097 = k + d := ⟨4097 - k, by omega⟩
    rw [hd, tx_eq E d k u n out l hk h0]
  · obtain ⟨d, rfl⟩ : ∃ d, k = 4097 + d := ⟨k - 4097, by omega⟩
    exact tx_eq E d 4097 u n out l (by omega) (by omega)
/-- The law of it, without a bound. -/
theorem TX_eq (E : Env) (u : List (List UInt8)) (n : Nat) (out l : List UInt8) : TX E u n out l =
    if l = [] then .ok out n
    else if 8192 < (out ++ aheadB 36 l).length then .bad 41
    else if l.drop (aheadB 36 l).length = [] then .ok (out ++ aheadB 36 l) n
    else if (rdX (l.drop (aheadB 36 l).length)).2 = false then .bad 60
    else if 4096 < n + 1 then .bad 41
    else Res.then (stp E (fun u n l => TX E u n [] l) u (n + 1) (rdX (l.drop (aheadB 36 l).length)).1) fun t m =>
      if 8192 < (out ++ aheadB 36 l ++ t).length then .bad 41
      else TX E u m (out ++ aheadB 36 l ++ t) ((l.drop (aheadB 36 l).length).drop (rdX (l.drop (aheadB 36 l).length)).1.size) := by
  have h0 : TX E u n out l = tx E (4097 + 1) u n out l := (tx_TX E (4097 + 1) u n out l (by omega) (by omega)).symm
  rw [h0, tx_succ]
  rfl
end Go.Proofs.YtadfbbjplgbakaaDoor.Plain
