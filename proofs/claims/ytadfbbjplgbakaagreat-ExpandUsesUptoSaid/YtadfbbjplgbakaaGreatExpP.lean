/- What a text becomes: references, and what they stand for, as lists of bytes. -/
import Derived.Test.YtadfbbjplgbakaaGreatBase
import Derived.Lib.Strings
namespace Go.Proofs.YtadfbbjplgbakaaGreat.Plain
open Go.RowKit Go.Proofs.YtadfbbjplgbakaaGreatW.PrintWords

/-! ### a reference -/
/-- May a byte be an inner macro's name? -/
def innB (c : UInt8) : Bool := ([64, 60, 63, 42, 94] : List UInt8).contains c
/-- Is a name an inner macro's? -/
def innL : List UInt8 → Bool
  | [c] => innB c
  | [c, d] => innB c && (d == 68 || d == 70)
  | _ => false
/-- May a byte stand alone behind a $? -/
def oneB (c : UInt8) : Bool := (65 ≤ c.toNat && c.toNat ≤ 90) || (97 ≤ c.toNat && c.toNat ≤ 122) || (48 ≤ c.toNat && c.toNat ≤ 57) || c == 95 || innB c
/-- May a byte stand in a macro's name? -/
def namB (c : UInt8) : Bool := (65 ≤ c.toNat && c.toNat ≤ 90) || (97 ≤ c.toNat && c.toNat ≤ 122) || (48 ≤ c.toNat && c.toNat ≤ 57) || c == 95 || c == 46
/-- Is a text a macro's name? -/
def namL (l : List UInt8) : Bool := decide (0 < l.length) && decide (l.length ≤ 64) && l.all namB
structure Rf where
  name : List UInt8
  swap : Bool
  from_ : List UInt8
  to_ : List UInt8
  size : Nat
def Rf.none : Rf := ⟨[], false, [], [], 0⟩
/-- What stands ahead of a byte; all, if it is not there. -/
def aheadB (b : UInt8) (l : List UInt8) : List UInt8 := l.takeWhile (fun c => c != b)
/-- What stands behind the first of a byte; nothing, if it is not there. -/
def behindB (b : UInt8) (l : List UInt8) : List UInt8 := l.drop ((aheadB b l).length + 1)
/-- What is in a reference's brackets: n the reference's size. -/
def rdIn (inn : List UInt8) : Rf × Bool :=
  let nm := aheadB 58 inn
  let how := behindB 58 inn
  if inn.contains 58 = true then
    (if how.contains 61 = true ∧ how.contains 36 = false then (⟨nm, true, aheadB 61 how, behindB 61 how, inn.length + 3⟩, namL nm || innL nm) else (Rf.none, false))
  else (⟨nm, false, [], [], inn.length + 3⟩, namL nm || innL nm)
/-- The bracket that closes one; 0: it is none. -/
def shutB (c : UInt8) : UInt8 := if c = 40 then 41 else if c = 123 then 125 else 0
/-- The reference at the front of a text that begins with a $; false: there is none. -/
def rdX (l : List UInt8) : Rf × Bool :=
  match l with
  | _ :: c :: t =>
    if c = 36 ∨ oneB c = true then (⟨[c], false, [], [], 2⟩, true)
    else if c = 40 ∨ c = 123 then (if t.contains (shutB c) = true then rdIn (aheadB (shutB c) t) else (Rf.none, false))
    else (Rf.none, false)
  | _ => (Rf.none, false)

/-! ### what a text becomes -/
inductive Res where
  | ok (out : List UInt8) (n : Nat)
  | bad (c : Nat)
def Res.then : Res → (List UInt8 → Nat → Res) → Res
  | .ok o n, k => k o n
  | .bad c, _ => .bad c
/-- What the names stand for, and how ends are swapped. -/
structure Env where
  val : List UInt8 → List UInt8
  swap : List UInt8 → List UInt8 → List UInt8 → List UInt8
/-- What a reference stands for: rec, what a macro's value becomes. -/
def stp (E : Env) (rec : List (List UInt8) → Nat → List UInt8 → Res) (u : List (List UInt8)) (n : Nat) (r : Rf) : Res :=
  if r.name = [36] then .ok [36] n
  else Res.then (if innL r.name = true then .ok [] n else if r.name ∈ u then .bad 61 else rec (u ++ [r.name]) n (E.val r.name)) fun t m =>
    if r.swap = true then (if 8192 < (E.swap t r.from_ r.to_).length then .bad 41 else .ok (E.swap t r.from_ r.to_) m) else .ok t m
/-- What a text becomes, behind what is there: k bounds how deep it goes. -/
def tx (E : Env) : Nat → List (List UInt8) → Nat → List UInt8 → List UInt8 → Res
  | 0, _, _, _, _ => .bad 41
  | k + 1, u, n, out, l =>
    if l = [] then .ok out n
    else if 8192 < (out ++ aheadB 36 l).length then .bad 41
    else if l.drop (aheadB 36 l).length = [] then .ok (out ++ aheadB 36 l) n
    else if (rdX (l.drop (aheadB 36 l).length)).2 = false then .bad 60
    else if 4096 < n + 1 then .bad 41
    else Res.then (stp E (fun u n l => tx E k u n [] l) u (n + 1) (rdX (l.drop (aheadB 36 l).length)).1) fun t m =>
      if 8192 < (out ++ aheadB 36 l ++ t).length then .bad 41
      else tx E k u m (out ++ aheadB 36 l ++ t) ((l.drop (aheadB 36 l).length).drop (rdX (l.drop (aheadB 36 l).length)).1.size)
/-- A round of it. -/
theorem tx_succ (E : Env) (k : Nat) (u : List (List UInt8)) (n : Nat) (out l : List UInt8) : tx E (k + 1) u n out l =
    if l = [] then .ok out n
    else if 8192 < (out ++ aheadB 36 l).length then .bad 41
    else if l.drop (aheadB 36 l).length = [] then .ok (out ++ aheadB 36 l) n
    else if (rdX (l.drop (aheadB 36 l).length)).2 = false then .bad 60
    else if 4096 < n + 1 then .bad 41
    else Res.then (stp E (fun u n l => tx E k u n [] l) u (n + 1) (rdX (l.drop (aheadB 36 l).length)).1) fun t m =>
      if 8192 < (out ++ aheadB 36 l ++ t).length then .bad 41
      else tx E k u m (out ++ aheadB 36 l ++ t) ((l.drop (aheadB 36 l).length).drop (rdX (l.drop (aheadB 36 l).length)).1.size) := rfl
/-- What was told is told behind it too. -/
theorem then_ok {r : Res} {f : List UInt8 → Nat → Res} {o : List UInt8} {m : Nat} (h : Res.then r f = .ok o m) : ∃ t q, r = .ok t q ∧ f t q = .ok o m := by
  cases r with
  | ok t q => exact ⟨t, q, rfl, h⟩
  | bad c => cases h
/-- The count of references never falls. -/
theorem stp_n {E : Env} {rec : List (List UInt8) → Nat → List UInt8 → Res} {u : List (List UInt8)} {n : Nat} {r : Rf} {o : List UInt8} {m : Nat} (hr : ∀ u n l o m, rec u n l = .ok o m → n ≤ m) (h : stp E rec u n r = .ok o m) : n ≤ m := by
  unfold stp at h
  by_cases c1 : r.name = [36]
  · rw [if_pos c1] at h; cases h; exact Nat.le_refl _
  · rw [if_neg c1] at h
    obtain ⟨t, q, h1, h2⟩ := then_ok h
    have hq : n ≤ q := by
      by_cases c2 : innL r.name = true
      · rw [if_pos c2] at h1; cases h1; exact Nat.le_refl _
      · rw [if_neg c2] at h1
        by_cases c3 : r.name ∈ u
        · rw [if_pos c3] at h1; cases h1
        · rw [if_neg c3] at h1; exact hr _ _ _ _ _ h1
    by_cases c4 : r.swap = true
    · rw [if_pos c4] at h2
      by_cases c5 : 8192 < (E.swap t r.from_ r.to_).length
      · rw [if_pos c5] at h2; cases h2
      · rw [if_neg c5] at h2; cases h2; exact hq
    · rw [if_neg c4] at h2; cases h2; exact hq
theorem tx_n (E : Env) : ∀ (k : Nat) (u : List (List UInt8)) (n : Nat) (out l o : List UInt8) (m : Nat), tx E k u n out l = .ok o m → n ≤ m
  | 0, _, _, _, _, _, _, h => by cases h
  | k + 1, u, n, out, l, o, m, h => by
    rw [tx_succ] at h
    by_cases c1 : l = []
    · rw [if_pos c1] at h; cases h; exact Nat.le_refl _
    rw [if_neg c1] at h
    by_cases c2 : 8192 < (out ++ aheadB 36 l).length
    · rw [if_pos c2] at h; cases h
    rw [if_neg c2] at h
    by_cases c3 : l.drop (aheadB 36 l).length = []
    · rw [if_pos c3] at h; cases h; exact Nat.le_refl _
    rw [if_neg c3] at h
    by_cases c4 : (rdX (l.drop (aheadB 36 l).length)).2 = false
    · rw [if_pos c4] at h; cases h
    rw [if_neg c4] at h
    by_cases c5 : 4096 < n + 1
    · rw [if_pos c5] at h; cases h
    rw [if_neg c5] at h
    obtain ⟨t, q, h1, h2⟩ := then_ok h
    have hq := stp_n (fun u n l o m h => tx_n E k u n [] l o m h) h1
    by_cases c6 : 8192 < (out ++ aheadB 36 l ++ t).length
    · rw [if_pos c6] at h2; cases h2
    rw [if_neg c6] at h2
    have := tx_n E k _ _ _ _ _ _ h2
    omega
theorem tx_len (E : Env) : ∀ (k : Nat) (u : List (List UInt8)) (n : Nat) (out l o : List UInt8) (m : Nat), tx E k u n out l = .ok o m → out.length ≤ 8192 → o.length ≤ 8192
  | 0, _, _, _, _, _, _, h, _ => by cases h
  | k + 1, u, n, out, l, o, m, h, ho => by
    rw [tx_succ] at h
    by_cases c1 : l = []
    · rw [if_pos c1] at h; cases h; exact ho
    rw [if_neg c1] at h
    by_cases c2 : 8192 < (out ++ aheadB 36 l).length
    · rw [if_pos c2] at h; cases h
    rw [if_neg c2] at h
    by_cases c3 : l.drop (aheadB 36 l).length = []
    · rw [if_pos c3] at h; cases h; omega
    rw [if_neg c3] at h
    by_cases c4 : (rdX (l.drop (aheadB 36 l).length)).2 = false
    · rw [if_pos c4] at h; cases h
    rw [if_neg c4] at h
    by_cases c5 : 4096 < n + 1
    · rw [if_pos c5] at h; cases h
    rw [if_neg c5] at h
    obtain ⟨t, q, h1, h2⟩ := then_ok h
    by_cases c6 : 8192 < (out ++ aheadB 36 l ++ t).length
    · rw [if_pos c6] at h2; cases h2
    rw [if_neg c6] at h2
    exact tx_len E k _ _ _ _ _ _ h2 (by omega)
theorem stp_congr {E : Env} {rec rec' : List (List UInt8) → Nat → List UInt8 → Res} {u : List (List UInt8)} {n : Nat} {r : Rf} (h : rec (u ++ [r.name]) n (E.val r.name) = rec' (u ++ [r.name]) n (E.val r.name)) : stp E rec u n r = stp E rec' u n r := by
  unfold stp
  rw [h]
/-- One deeper changes nothing, once the references run out first. -/
theorem tx_deep (E : Env) : ∀ (k : Nat) (u : List (List UInt8)) (n : Nat) (out l : List UInt8), 4097 ≤ k + n → 0 < k → tx E (k + 1) u n out l = tx E k u n out l
  | 0, _, _, _, _, _, h => absurd h (Nat.lt_irrefl _)
  | k + 1, u, n, out, l, hk, _ => by
    rw [tx_succ, tx_succ E k]
    by_cases c5 : 4096 < n + 1
    · rw [if_pos c5, if_pos c5]
    · rw [if_neg c5, if_neg c5]
      have hr : stp E (fun u n l => tx E (k + 1) u n [] l) u (n + 1) (rdX (l.drop (aheadB 36 l).length)).1 = stp E (fun u n l => tx E k u n [] l) u (n + 1) (rdX (l.drop (aheadB 36 l).length)).1 :=
        stp_congr (tx_deep E k _ _ _ _ (by omega) (by omega))
      rw [hr]
      congr 4
      cases hs : stp E (fun u n l => tx E k u n [] l) u (n + 1) (rdX (l.drop (aheadB 36 l).length)).1 with
      | bad c => rfl
      | ok t q =>
        have hq := stp_n (fun u n l o m h => tx_n E k u n [] l o m h) hs
        simp only [Res.then]
        by_cases c6 : 8192 < (out ++ aheadB 36 l ++ t).length
        · rw [if_pos c6, if_pos c6]
        · rw [if_neg c6, if_neg c6]
          exact tx_deep E k _ _ _ _ (by omega) (by omega)
/-- What a text becomes, however deep. -/
def TX (E : Env) (u : List (List UInt8)) (n : Nat) (out l : List UInt8) : Res := tx E 4097 u n out l
theorem tx_eq (E : Env) (d k : Nat) (u : List (List UInt8)) (n : Nat) (out l : List UInt8) (hk : 4097 ≤ k + n) (h0 : 0 < k) : tx E (k + d) u n out l = tx E k u n out l := by
  induction d with
  | zero => rfl
  | succ d ih => rw [← Nat.add_assoc, tx_deep E (k + d) u n out l (by omega) (by omega), ih]
theorem tx_TX (E : Env) (k : Nat) (u : List (List UInt8)) (n : Nat) (out l : List UInt8) (hk : 4097 ≤ k + n) (h0 : 0 < k) : tx E k u n out l = TX E u n out l := by
  unfold TX
  by_cases h : k ≤ 4097
  · obtain ⟨d, hd⟩ : ∃ d, 4097 = k + d := ⟨4097 - k, by omega⟩
    rw [hd, tx_eq E d k u n out l hk h0]
  · obtain ⟨d, rfl⟩ : ∃ d, k = 4097 + d := ⟨k - 4097, by omega⟩
    exact tx_eq E d 4097 u n out l (by omega) (by omega)
/-- The law of it, without a bound. -/
theorem TX_eq (E : Env) (u : List (List UInt8)) (n : Nat) (out l : List UInt8) : TX E u n out l =
    if l = [] then .ok out n
    else if 8192 < (out ++ aheadB 36 l).length then .bad 41
    else if l.drop (aheadB 36 l).length = [] then .ok (out ++ aheadB 36 l) n
    else if (rdX (l.drop (aheadB 36 l).length)).2 = false then .bad 60
    else if 4096 < n + 1 then .bad 41
    else Res.then (stp E (fun u n l => TX E u n [] l) u (n + 1) (rdX (l.drop (aheadB 36 l).length)).1) fun t m =>
      if 8192 < (out ++ aheadB 36 l ++ t).length then .bad 41
      else TX E u m (out ++ aheadB 36 l ++ t) ((l.drop (aheadB 36 l).length).drop (rdX (l.drop (aheadB 36 l).length)).1.size) := by
  have h0 : TX E u n out l = tx E (4097 + 1) u n out l := (tx_TX E (4097 + 1) u n out l (by omega) (by omega)).symm
  rw [h0, tx_succ]
  rfl
end Go.Proofs.YtadfbbjplgbakaaGreat.Plain
namespace Go.Proofs.YtadfbbjplgbakaaGreat.Plain
open Go Go.RowKit Go.Proofs.YtadfbbjplgbakaaGreatW.PrintWords

theorem all_bytes {p : UInt8 → Prop} [DecidablePred p] (h : ∀ n : Fin 256, p (UInt8.ofNat n.val)) (c : UInt8) : p c := by
  have := h ⟨c.toNat, c.toNat_lt⟩
  rwa [UInt8.ofNat_toNat] at this
set_option maxRecDepth 100000 in
theorem inn_index (c : UInt8) : (decide (Lib.indexByte [64, 60, 63, 42, 94] c < 0)) = !(innB c) := all_bytes (p := fun c => (decide (Lib.indexByte [64, 60, 63, 42, 94] c < 0)) = !(innB c)) (by decide +kernel) c
theorem byte_back (c : UInt8) : ((c.toNat : Int).toNat).toUInt8 = c := by
  rw [Int.toNat_natCast]
  exact UInt8.ofNat_toNat
set_option maxRecDepth 100000 in
theorem nam_high (c : UInt8) : (decide (128 ≤ c.toNat) && namB c) = false := all_bytes (p := fun c => (decide (128 ≤ c.toNat) && namB c) = false) (by decide +kernel) c
theorem ahead_le (b : UInt8) (l : List UInt8) : (aheadB b l).length ≤ l.length := (List.takeWhile_sublist _).length_le
theorem ahead_eq (b : UInt8) : ∀ l : List UInt8, aheadB b l = l.take (aheadB b l).length
  | [] => rfl
  | c :: t => by
    unfold aheadB
    rw [List.takeWhile_cons]
    by_cases h : (c != b) = true
    · rw [if_pos h, List.length_cons, List.take_succ_cons]
      have := ahead_eq b t
      unfold aheadB at this
      rw [← this]
    · rw [if_neg h]; rfl
theorem ahead_not (b : UInt8) : ∀ l : List UInt8, b ∉ aheadB b l
  | [], h => by simp [aheadB] at h
  | c :: t, h => by
    unfold aheadB at h
    rw [List.takeWhile_cons] at h
    by_cases hc : (c != b) = true
    · rw [if_pos hc] at h
      rcases List.mem_cons.1 h with h | h
      · subst h; simp at hc
      · exact ahead_not b t h
    · rw [if_neg hc] at h; cases h
theorem ahead_all (b : UInt8) : ∀ l : List UInt8, b ∉ l → aheadB b l = l
  | [], _ => rfl
  | c :: t, h => by
    unfold aheadB
    rw [List.takeWhile_cons, if_pos (by simp; exact fun e => h (by rw [e]; exact List.mem_cons_self ..))]
    have := ahead_all b t (fun hm => h (List.mem_cons_of_mem _ hm))
    unfold aheadB at this
    rw [this]
theorem ahead_at (b : UInt8) : ∀ l : List UInt8, b ∈ l → l[(aheadB b l).length]? = some b
  | [], h => by cases h
  | c :: t, h => by
    unfold aheadB
    rw [List.takeWhile_cons]
    by_cases hc : (c != b) = true
    · rw [if_pos hc, List.length_cons, List.getElem?_cons_succ]
      rcases List.mem_cons.1 h with h | h
      · subst h; simp at hc
      · exact ahead_at b t h
    · rw [if_neg hc]
      have : c = b := by simpa using hc
      rw [this]; rfl
theorem behind_le (b : UInt8) (l : List UInt8) : (behindB b l).length ≤ l.length := by unfold behindB; rw [List.length_drop]; omega
theorem rdIn_fits (inn : List UInt8) (h : (rdIn inn).2 = true) : (rdIn inn).1.name.length ≤ inn.length ∧ (rdIn inn).1.from_.length ≤ inn.length ∧ (rdIn inn).1.to_.length ≤ inn.length ∧ (rdIn inn).1.size = inn.length + 3 := by
  have a1 := ahead_le 58 inn
  have a2 := behind_le 58 inn
  have a3 := ahead_le 61 (behindB 58 inn)
  have a4 := behind_le 61 (behindB 58 inn)
  unfold rdIn at h ⊢
  simp only at h ⊢
  by_cases c1 : inn.contains 58 = true
  · rw [if_pos c1] at h ⊢
    by_cases c2 : (behindB 58 inn).contains 61 = true ∧ (behindB 58 inn).contains 36 = false
    · rw [if_pos c2] at h ⊢
      exact ⟨a1, Nat.le_trans a3 a2, Nat.le_trans a4 a2, rfl⟩
    · rw [if_neg c2] at h; cases h
  · rw [if_neg c1] at h ⊢
    exact ⟨a1, Nat.zero_le _, Nat.zero_le _, rfl⟩
theorem rdX_fits (l : List UInt8) (h : (rdX l).2 = true) : (rdX l).1.name.length ≤ l.length ∧ (rdX l).1.from_.length ≤ l.length ∧ (rdX l).1.to_.length ≤ l.length ∧ 2 ≤ (rdX l).1.size ∧ (rdX l).1.size ≤ l.length := by
  rcases l with _ | ⟨x, _ | ⟨c, t⟩⟩
  · cases h
  · cases h
  · unfold rdX at h ⊢
    simp only at h ⊢
    by_cases c1 : c = 36 ∨ oneB c = true
    · rw [if_pos c1] at h ⊢
      simp only [List.length_cons, List.length_nil]
      omega
    · rw [if_neg c1] at h ⊢
      by_cases c2 : c = 40 ∨ c = 123
      · rw [if_pos c2] at h ⊢
        by_cases c3 : t.contains (shutB c) = true
        · rw [if_pos c3] at h ⊢
          obtain ⟨q1, q2, q3, q4⟩ := rdIn_fits _ h
          have hm : shutB c ∈ t := by simpa using c3
          have hlt := (List.getElem?_eq_some_iff.1 (ahead_at (shutB c) t hm)).1
          rw [q4]
          simp only [List.length_cons]
          omega
        · rw [if_neg c3] at h; cases h
      · rw [if_neg c2] at h; cases h
theorem ahead_drop (b : UInt8) (l : List UInt8) (h : l.drop (aheadB b l).length ≠ []) : (l.drop (aheadB b l).length).head? = some b := by
  have hm : b ∈ l := by
    cases hc : l.contains b with
    | true => simpa using hc
    | false =>
      exfalso; apply h
      rw [ahead_all b l (fun hm => by have : l.contains b = true := by simpa using hm
                                      rw [hc] at this; cases this)]
      exact List.drop_length ..
  rw [List.head?_drop]
  exact ahead_at b l hm
end Go.Proofs.YtadfbbjplgbakaaGreat.Plain
namespace Go.Proofs.YtadfbbjplgbakaaGreat.Plain
open Go.RowKit Go.Proofs.YtadfbbjplgbakaaGreatW.PrintWords
set_option linter.unusedVariables false

/-! ### names -/
/-- The names of a text's references (d bounds how many); false: one is none. -/
def nm : Nat → List UInt8 → List (List UInt8) × Bool
  | 0, _ => ([], true)
  | d + 1, l =>
    if l.drop (aheadB 36 l).length = [] then ([], true)
    else if (rdX (l.drop (aheadB 36 l).length)).2 = false then ([], false)
    else ((if (rdX (l.drop (aheadB 36 l).length)).1.name = [36] then [] else [(rdX (l.drop (aheadB 36 l).length)).1.name]) ++ (nm d ((l.drop (aheadB 36 l).length).drop (rdX (l.drop (aheadB 36 l).length)).1.size)).1, (nm d ((l.drop (aheadB 36 l).length).drop (rdX (l.drop (aheadB 36 l).length)).1.size)).2)
theorem nm_succ (d : Nat) (l : List UInt8) : nm (d + 1) l = if l.drop (aheadB 36 l).length = [] then ([], true)
    else if (rdX (l.drop (aheadB 36 l).length)).2 = false then ([], false)
    else ((if (rdX (l.drop (aheadB 36 l).length)).1.name = [36] then [] else [(rdX (l.drop (aheadB 36 l).length)).1.name]) ++ (nm d ((l.drop (aheadB 36 l).length).drop (rdX (l.drop (aheadB 36 l).length)).1.size)).1, (nm d ((l.drop (aheadB 36 l).length).drop (rdX (l.drop (aheadB 36 l).length)).1.size)).2) := rfl
theorem left_lt (l : List UInt8) (h : ¬ l.drop (aheadB 36 l).length = []) (k : (rdX (l.drop (aheadB 36 l).length)).2 = true) : ((l.drop (aheadB 36 l).length).drop (rdX (l.drop (aheadB 36 l).length)).1.size).length < l.length := by
  obtain ⟨_, _, _, z4, z5⟩ := rdX_fits _ k
  have h1 : 0 < (l.drop (aheadB 36 l).length).length := List.length_pos_iff.2 h
  have h2 := List.length_drop (i := (aheadB 36 l).length) (l := l)
  rw [List.length_drop]
  omega
theorem nm_deep : ∀ (d : Nat) (l : List UInt8), l.length < d → nm (d + 1) l = nm d l := by
  intro d
  induction d with
  | zero => intro l h; omega
  | succ d ih =>
    intro l h
    rw [nm_succ (d + 1) l, nm_succ d l]
    by_cases c1 : l.drop (aheadB 36 l).length = []
    · rw [if_pos c1, if_pos c1]
    rw [if_neg c1, if_neg c1]
    by_cases c2 : (rdX (l.drop (aheadB 36 l).length)).2 = false
    · rw [if_pos c2, if_pos c2]
    rw [if_neg c2, if_neg c2]
    have := left_lt l c1 (by simpa using c2)
    rw [ih _ (by omega)]
/-- The names of a text's references; false: one is none. -/
def NM (l : List UInt8) : List (List UInt8) × Bool := nm (l.length + 1) l
theorem nm_NM : ∀ (k : Nat) (l : List UInt8), l.length < k → nm k l = NM l := by
  intro k
  induction k with
  | zero => intro l h; omega
  | succ k ih =>
    intro l h
    by_cases c : l.length < k
    · rw [nm_deep k l c, ih l c]
    · have : l.length = k := by omega
      unfold NM; rw [this]
theorem NM_eq (l : List UInt8) : NM l = if l.drop (aheadB 36 l).length = [] then ([], true)
    else if (rdX (l.drop (aheadB 36 l).length)).2 = false then ([], false)
    else ((if (rdX (l.drop (aheadB 36 l).length)).1.name = [36] then [] else [(rdX (l.drop (aheadB 36 l).length)).1.name]) ++ (NM ((l.drop (aheadB 36 l).length).drop (rdX (l.drop (aheadB 36 l).length)).1.size)).1, (NM ((l.drop (aheadB 36 l).length).drop (rdX (l.drop (aheadB 36 l).length)).1.size)).2) := by
  have h0 : NM l = nm (l.length + 1) l := rfl
  rw [h0, nm_succ]
  by_cases c1 : l.drop (aheadB 36 l).length = []
  · rw [if_pos c1, if_pos c1]
  rw [if_neg c1, if_neg c1]
  by_cases c2 : (rdX (l.drop (aheadB 36 l).length)).2 = false
  · rw [if_pos c2, if_pos c2]
  rw [if_neg c2, if_neg c2, nm_NM _ _ (left_lt l c1 (by simpa using c2))]

/-! ### two texts -/
theorem ahead_app (b : UInt8) : ∀ (l r : List UInt8), b ∈ l → aheadB b (l ++ r) = aheadB b l
  | [], _, h => by cases h
  | c :: t, r, h => by
    unfold aheadB
    rw [List.cons_append, List.takeWhile_cons, List.takeWhile_cons]
    by_cases hc : (c != b) = true
    · rw [if_pos hc, if_pos hc]
      have : b ∈ t := by
        rcases List.mem_cons.1 h with h | h
        · subst h; simp at hc
        · exact h
      have ih := ahead_app b t r this
      unfold aheadB at ih
      rw [ih]
    · rw [if_neg hc, if_neg hc]
theorem ahead_app_no (b : UInt8) : ∀ (l r : List UInt8), b ∉ l → aheadB b (l ++ r) = l ++ aheadB b r
  | [], _, _ => rfl
  | c :: t, r, h => by
    have hc : c ≠ b := fun e => h (by rw [e]; exact List.mem_cons_self ..)
    have ih := ahead_app_no b t r (fun hm => h (List.mem_cons_of_mem _ hm))
    unfold aheadB at ih ⊢
    rw [List.cons_append, List.takeWhile_cons, if_pos (by simpa using hc), ih]
    rfl
theorem rdX_app (l r : List UInt8) (h : (rdX l).2 = true) : rdX (l ++ r) = rdX l := by
  rcases l with _ | ⟨x, _ | ⟨c, t⟩⟩
  · cases h
  · cases h
  · unfold rdX at h ⊢
    simp only [List.cons_append] at h ⊢
    by_cases c1 : c = 36 ∨ oneB c = true
    · rw [if_pos c1, if_pos c1]
    · rw [if_neg c1] at h
      rw [if_neg c1, if_neg c1]
      by_cases c2 : c = 40 ∨ c = 123
      · rw [if_pos c2] at h
        rw [if_pos c2, if_pos c2]
        by_cases c3 : t.contains (shutB c) = true
        · have hm : shutB c ∈ t := by simpa using c3
          rw [if_pos c3, if_pos (by simp [hm]), ahead_app _ _ _ hm]
        · rw [if_neg c3] at h; cases h
      · rw [if_neg c2] at h; cases h
theorem drop_app {l : List UInt8} (r : List UInt8) (n : Nat) (h : n ≤ l.length) : (l ++ r).drop n = l.drop n ++ r := List.drop_append_of_le_length h
/-- What two texts become, one behind the other. -/
theorem TX_app (E : Env) (u : List (List UInt8)) : ∀ (d : Nat) (a b : List UInt8) (n : Nat) (out : List UInt8), a.length ≤ d → (NM a).2 = true → TX E u n out (a ++ b) = Res.then (TX E u n out a) fun o m => TX E u m o b := by
  intro d
  induction d with
  | zero =>
    intro a b n out h _
    obtain rfl := List.eq_nil_of_length_eq_zero (by omega : a.length = 0)
    rw [TX_eq E u n out [], if_pos rfl, List.nil_append]
    rfl
  | succ d ih =>
    intro a b n out h hN
    by_cases h0 : a = []
    · subst h0
      rw [TX_eq E u n out [], if_pos rfl, List.nil_append]
      rfl
    have hab : ¬ a ++ b = [] := by simp [h0]
    rw [NM_eq] at hN
    by_cases hm : 36 ∈ a
    · have hlt := (List.getElem?_eq_some_iff.1 (ahead_at 36 a hm)).1
      have hne : ¬ a.drop (aheadB 36 a).length = [] := fun e => by
        have := congrArg List.length e
        rw [List.length_drop] at this
        simp at this
        omega
      rw [if_neg hne] at hN
      have hfit := left_lt a hne
      rw [TX_eq E u n out (a ++ b), TX_eq E u n out a, if_neg hab, if_neg h0, ahead_app 36 a b hm, drop_app b _ (by omega)]
      generalize aheadB 36 a = p at hlt hne hN hfit ⊢
      generalize a.drop p.length = l1 at hne hN hfit ⊢
      by_cases c1 : 8192 < (out ++ p).length
      · rw [if_pos c1, if_pos c1]; rfl
      rw [if_neg c1, if_neg c1, if_neg (by simp [hne]), if_neg hne]
      by_cases c2 : (rdX l1).2 = false
      · rw [if_pos c2] at hN; cases hN
      have c2' : (rdX l1).2 = true := by simpa using c2
      rw [if_neg c2] at hN
      rw [rdX_app l1 b c2', if_neg c2, if_neg c2]
      by_cases c3 : 4096 < n + 1
      · rw [if_pos c3, if_pos c3]; rfl
      rw [if_neg c3, if_neg c3]
      have hz := (rdX_fits l1 c2').2.2.2.2
      have hl := hfit c2'
      cases hs : stp E (fun u n l => TX E u n [] l) u (n + 1) (rdX l1).1 with
      | bad c => rfl
      | ok t q =>
        simp only [Res.then]
        by_cases c4 : 8192 < (out ++ p ++ t).length
        · rw [if_pos c4, if_pos c4]
        rw [if_neg c4, if_neg c4, drop_app b _ hz]
        exact ih _ b q _ (by omega) hN
    · rw [TX_eq E u n out (a ++ b), TX_eq E u n out a, if_neg hab, if_neg h0, ahead_all 36 a hm, ahead_app_no 36 a b hm, if_pos (List.drop_length ..)]
      by_cases c1 : 8192 < (out ++ a).length
      · rw [if_pos c1, if_pos (by simp at c1 ⊢; omega)]; rfl
      rw [if_neg c1]
      show _ = TX E u n (out ++ a) b
      rw [TX_eq E u n (out ++ a) b]
      have hd : (a ++ b).drop (a ++ aheadB 36 b).length = b.drop (aheadB 36 b).length := by
        rw [List.length_append, List.drop_append, List.drop_of_length_le (by omega), List.nil_append, Nat.add_sub_cancel_left]
      rw [hd, ← List.append_assoc]
      by_cases hb : b = []
      · subst hb
        rw [if_pos rfl]
        have : aheadB 36 ([] : List UInt8) = [] := rfl
        rw [this, List.append_nil, if_neg c1]
        rfl
      · rw [if_neg hb]

/-! ### less ahead of it -/
theorem stp_shift {E : Env} {rec : List (List UInt8) → Nat → List UInt8 → Res} {u : List (List UInt8)} {n k : Nat} {r : Rf} {o : List UInt8} {m : Nat}
    (hr : ∀ u n l o m, rec u (n + k) l = .ok o m → ∃ m', m = m' + k ∧ rec u n l = .ok o m') (h : stp E rec u (n + k) r = .ok o m) : ∃ m', m = m' + k ∧ stp E rec u n r = .ok o m' := by
  unfold stp at h ⊢
  by_cases c1 : r.name = [36]
  · rw [if_pos c1] at h ⊢; cases h; exact ⟨n, rfl, rfl⟩
  rw [if_neg c1] at h ⊢
  obtain ⟨t, q, h1, h2⟩ := then_ok h
  have hq : ∃ q', q = q' + k ∧ (if innL r.name = true then Res.ok [] n else if r.name ∈ u then .bad 61 else rec (u ++ [r.name]) n (E.val r.name)) = .ok t q' := by
    by_cases c2 : innL r.name = true
    · rw [if_pos c2] at h1 ⊢; cases h1; exact ⟨n, rfl, rfl⟩
    · rw [if_neg c2] at h1 ⊢
      by_cases c3 : r.name ∈ u
      · rw [if_pos c3] at h1; cases h1
      · rw [if_neg c3] at h1 ⊢; exact hr _ _ _ _ _ h1
  obtain ⟨q', rfl, hq'⟩ := hq
  rw [hq']
  simp only [Res.then]
  by_cases c4 : r.swap = true
  · rw [if_pos c4] at h2 ⊢
    by_cases c5 : 8192 < (E.swap t r.from_ r.to_).length
    · rw [if_pos c5] at h2; cases h2
    · rw [if_neg c5] at h2 ⊢; cases h2; exact ⟨q', rfl, rfl⟩
  · rw [if_neg c4] at h2 ⊢; cases h2; exact ⟨q', rfl, rfl⟩
/-- What is told behind something is told without it. -/
theorem tx_shift (E : Env) (k : Nat) : ∀ (K : Nat) (u : List (List UInt8)) (n : Nat) (p out l o : List UInt8) (m : Nat), tx E K u (n + k) (p ++ out) l = .ok o m → ∃ o' m', o = p ++ o' ∧ m = m' + k ∧ tx E K u n out l = .ok o' m' := by
  intro K
  induction K with
  | zero => intro u n p out l o m h; cases h
  | succ K ih =>
    intro u n p out l o m h
    rw [tx_succ] at h ⊢
    by_cases c1 : l = []
    · rw [if_pos c1] at h ⊢; cases h; exact ⟨out, n, rfl, rfl, rfl⟩
    rw [if_neg c1] at h ⊢
    generalize aheadB 36 l = a at h ⊢
    by_cases c2 : 8192 < (p ++ out ++ a).length
    · rw [if_pos c2] at h; cases h
    rw [if_neg c2] at h
    rw [if_neg (by simp at c2 ⊢; omega)]
    generalize l.drop a.length = l1 at h ⊢
    by_cases c3 : l1 = []
    · rw [if_pos c3] at h ⊢; cases h; exact ⟨out ++ a, n, by rw [List.append_assoc], rfl, rfl⟩
    rw [if_neg c3] at h ⊢
    by_cases c4 : (rdX l1).2 = false
    · rw [if_pos c4] at h; cases h
    rw [if_neg c4] at h ⊢
    by_cases c5 : 4096 < n + k + 1
    · rw [if_pos c5] at h; cases h
    rw [if_neg c5] at h
    rw [if_neg (by omega)]
    obtain ⟨t, q, h1, h2⟩ := then_ok h
    rw [show n + k + 1 = (n + 1) + k by omega] at h1
    obtain ⟨q', rfl, h3⟩ := stp_shift (fun u n l o m h => by
      obtain ⟨o', m', e1, e2, e3⟩ := ih u n [] [] l o m h
      exact ⟨m', e2, by rw [e1]; exact e3⟩) h1
    rw [h3]
    simp only [Res.then]
    by_cases c6 : 8192 < (p ++ out ++ a ++ t).length
    · rw [if_pos c6] at h2; cases h2
    rw [if_neg c6] at h2
    rw [if_neg (by simp at c6 ⊢; omega)]
    rw [show p ++ out ++ a ++ t = p ++ (out ++ a ++ t) by simp] at h2
    exact ih _ _ _ _ _ _ _ h2
/-- If two texts one behind the other become something, each becomes something. -/
theorem TX_parts (E : Env) (a b s : List UInt8) (m : Nat) (hN : (NM a).2 = true) (h : TX E [] 0 [] (a ++ b) = .ok s m) : ∃ t u m1 m2, TX E [] 0 [] a = .ok t m1 ∧ TX E [] 0 [] b = .ok u m2 ∧ s = t ++ u := by
  rw [TX_app E [] a.length a b 0 [] (Nat.le_refl _) hN] at h
  obtain ⟨t, q, h1, h2⟩ := then_ok h
  have h3 : tx E 4097 [] (0 + q) (t ++ []) b = .ok s m := by rw [Nat.zero_add, List.append_nil]; exact h2
  obtain ⟨o', m', e1, _, e3⟩ := tx_shift E q 4097 [] 0 t [] b s m h3
  exact ⟨t, o', q, m', h1, e3, e1⟩

/-! ### what it hangs on -/
theorem stp_same {E E' : Env} {rec rec' : List (List UInt8) → Nat → List UInt8 → Res} {u : List (List UInt8)} {n : Nat} {r : Rf} (hs : E.swap = E'.swap)
    (h : ¬ r.name = [36] → ¬ innL r.name = true → r.name ∉ u → rec (u ++ [r.name]) n (E.val r.name) = rec' (u ++ [r.name]) n (E'.val r.name)) : stp E rec u n r = stp E' rec' u n r := by
  unfold stp
  by_cases c1 : r.name = [36]
  · rw [if_pos c1, if_pos c1]
  rw [if_neg c1, if_neg c1, hs]
  by_cases c2 : innL r.name = true
  · rw [if_pos c2, if_pos c2]
  rw [if_neg c2, if_neg c2]
  by_cases c3 : r.name ∈ u
  · rw [if_pos c3, if_pos c3]
  rw [if_neg c3, if_neg c3, h c1 c2 c3]
theorem tx_same (E E' : Env) (S : List UInt8 → Prop) (hs : E.swap = E'.swap) (hv : ∀ y, S y → E.val y = E'.val y) (hc : ∀ y, S y → ∀ z ∈ (NM (E.val y)).1, S z) :
    ∀ (K : Nat) (u : List (List UInt8)) (n : Nat) (out l : List UInt8), (∀ y ∈ (NM l).1, S y) → tx E K u n out l = tx E' K u n out l := by
  intro K
  induction K with
  | zero => intro u n out l h; rfl
  | succ K ih =>
    intro u n out l h
    rw [tx_succ, tx_succ]
    rw [NM_eq] at h
    by_cases c1 : l = []
    · rw [if_pos c1, if_pos c1]
    rw [if_neg c1, if_neg c1]
    generalize aheadB 36 l = a at h ⊢
    generalize l.drop a.length = l1 at h ⊢
    by_cases c2 : 8192 < (out ++ a).length
    · rw [if_pos c2, if_pos c2]
    rw [if_neg c2, if_neg c2]
    by_cases c3 : l1 = []
    · rw [if_pos c3, if_pos c3]
    rw [if_neg c3] at h
    rw [if_neg c3, if_neg c3]
    by_cases c4 : (rdX l1).2 = false
    · rw [if_pos c4, if_pos c4]
    rw [if_neg c4] at h
    rw [if_neg c4, if_neg c4]
    by_cases c5 : 4096 < n + 1
    · rw [if_pos c5, if_pos c5]
    rw [if_neg c5, if_neg c5]
    have h1 : ¬ (rdX l1).1.name = [36] → S (rdX l1).1.name := fun hn => h _ (by rw [if_neg hn]; simp)
    have h2 : ∀ y ∈ (NM (l1.drop (rdX l1).1.size)).1, S y := fun y hy => h y (List.mem_append_right _ hy)
    have hst : stp E (fun u n l => tx E K u n [] l) u (n + 1) (rdX l1).1 = stp E' (fun u n l => tx E' K u n [] l) u (n + 1) (rdX l1).1 :=
      stp_same hs fun q1 q2 q3 => by
        have hS := h1 q1
        rw [← hv _ hS]
        exact ih _ _ _ _ (hc _ hS)
    rw [hst]
    congr 1
    funext t m
    rw [ih _ _ _ _ h2]

/-! ### loops -/
/-- What names reach. -/
inductive Rch (V : List UInt8 → List UInt8) (F : List (List UInt8)) : List UInt8 → Prop
  | base {y} : y ∈ F → Rch V F y
  | step {y z} : Rch V F y → z ∈ (NM (V y)).1 → Rch V F z
theorem Rch.trans {V : List UInt8 → List UInt8} {F G : List (List UInt8)} {y : List UInt8} (h : Rch V F y) (k : ∀ z ∈ F, Rch V G z) : Rch V G y := by
  induction h with
  | base h => exact k _ h
  | step _ hz ih => exact .step ih hz
/-- Where a text becomes something, each of its references is right, and each is expanded below it. -/
theorem tx_all (E : Env) : ∀ (K : Nat) (u : List (List UInt8)) (n : Nat) (out l o : List UInt8) (m : Nat), tx E K u n out l = .ok o m → (NM l).2 = true ∧ ∀ y ∈ (NM l).1, innL y = false → y ∉ u ∧ ∃ k n' o' m', k < K ∧ tx E k (u ++ [y]) n' [] (E.val y) = .ok o' m' := by
  intro K
  induction K with
  | zero => intro u n out l o m h; cases h
  | succ K ih =>
    intro u n out l o m h
    rw [tx_succ] at h
    rw [NM_eq]
    by_cases c1 : l = []
    · subst c1; exact ⟨rfl, fun y hy => by cases hy⟩
    rw [if_neg c1] at h
    generalize aheadB 36 l = a at h ⊢
    generalize l.drop a.length = l1 at h ⊢
    by_cases c2 : 8192 < (out ++ a).length
    · rw [if_pos c2] at h; cases h
    rw [if_neg c2] at h
    by_cases c3 : l1 = []
    · rw [if_pos c3]; exact ⟨rfl, fun y hy => by cases hy⟩
    rw [if_neg c3] at h ⊢
    by_cases c4 : (rdX l1).2 = false
    · rw [if_pos c4] at h; cases h
    rw [if_neg c4] at h ⊢
    by_cases c5 : 4096 < n + 1
    · rw [if_pos c5] at h; cases h
    rw [if_neg c5] at h
    obtain ⟨t, q, h1, h2⟩ := then_ok h
    by_cases c6 : 8192 < (out ++ a ++ t).length
    · rw [if_pos c6] at h2; cases h2
    rw [if_neg c6] at h2
    obtain ⟨i1, i2⟩ := ih _ _ _ _ _ _ h2
    refine ⟨i1, fun y hy hn => ?_⟩
    rcases List.mem_append.1 hy with hy | hy
    · by_cases c7 : (rdX l1).1.name = [36]
      · rw [if_pos c7] at hy; cases hy
      rw [if_neg c7] at hy
      obtain rfl : y = (rdX l1).1.name := by simpa using hy
      unfold stp at h1
      rw [if_neg c7] at h1
      obtain ⟨t2, q2, h3, _⟩ := then_ok h1
      rw [if_neg (by rw [hn]; decide)] at h3
      by_cases c8 : (rdX l1).1.name ∈ u
      · rw [if_pos c8] at h3; cases h3
      · rw [if_neg c8] at h3
        exact ⟨c8, K, _, _, _, Nat.lt_succ_self K, h3⟩
    · obtain ⟨j1, k, n', o', m', j2, j3⟩ := i2 y hy hn
      exact ⟨j1, k, n', o', m', Nat.lt_succ_of_lt j2, j3⟩
/-- Where a text becomes something, so does the value of all that it reaches; and what is under it is not reached. -/
theorem tx_reach (E : Env) (hi : ∀ y, innL y = true → (NM (E.val y)).1 = []) {y : List UInt8} {F : List (List UInt8)} (h : Rch E.val F y) : ∀ (u : List (List UInt8)), (∀ z ∈ F, innL z = false → z ∉ u ∧ ∃ k n' o' m', tx E k (u ++ [z]) n' [] (E.val z) = .ok o' m') → innL y = false → y ∉ u ∧ ∃ v k n' o' m', (∀ x ∈ u, x ∈ v) ∧ tx E k (v ++ [y]) n' [] (E.val y) = .ok o' m' := by
  induction h with
  | base h =>
    intro u hu hn
    obtain ⟨a, k, n', o', m', b⟩ := hu _ h hn
    exact ⟨a, u, k, n', o', m', fun x hx => hx, b⟩
  | @step y z hy hz ih =>
    intro u hu hn
    have hny : innL y = false := by
      cases hc : innL y with
      | false => rfl
      | true => rw [hi y hc] at hz; cases hz
    obtain ⟨_, v, k, n', o', m', hv, b⟩ := ih u hu hny
    obtain ⟨c, k2, n2, o2, m2, _, d⟩ := (tx_all E k _ _ _ _ _ _ b).2 z hz hn
    exact ⟨fun hm => c (List.mem_append_left _ (hv z hm)), v ++ [y], k2, n2, o2, m2, fun x hx => List.mem_append_left _ (hv x hx), d⟩
/-- A name that is reached from its own value becomes nothing. -/
theorem tx_loop (E : Env) (hi : ∀ y, innL y = true → (NM (E.val y)).1 = []) {y : List UInt8} (h : Rch E.val (NM (E.val y)).1 y) (hn : innL y = false) (u : List (List UInt8)) (k n : Nat) (o : List UInt8) (m : Nat) : tx E k (u ++ [y]) n [] (E.val y) ≠ .ok o m := by
  intro hk
  have h0 := (tx_all E k _ _ _ _ _ _ hk).2
  have := (tx_reach E hi h (u ++ [y]) (fun z hz hzn => by
    obtain ⟨a, k2, n2, o2, m2, _, b⟩ := h0 z hz hzn
    exact ⟨a, k2, n2, o2, m2, b⟩) hn).1
  exact this (by simp)
/-- A loop that is told is one: some name that is reached is reached from itself. -/
theorem tx_61 (E : Env) (F : List (List UInt8)) : ∀ (K : Nat) (u : List (List UInt8)) (n : Nat) (out l : List UInt8), 4097 ≤ K + n → tx E K u n out l = .bad 61 → (∀ x ∈ u, Rch E.val F x ∧ ∀ y ∈ (NM l).1, Rch E.val (NM (E.val x)).1 y) → (∀ y ∈ (NM l).1, Rch E.val F y) → ∃ y, Rch E.val F y ∧ Rch E.val (NM (E.val y)).1 y := by
  intro K
  induction K with
  | zero => intro u n out l _ h; cases h
  | succ K ih =>
    intro u n out l hK h hu hF
    rw [tx_succ] at h
    rw [NM_eq] at hu hF
    by_cases c1 : l = []
    · rw [if_pos c1] at h; cases h
    rw [if_neg c1] at h
    generalize aheadB 36 l = a at h hu hF ⊢
    generalize l.drop a.length = l1 at h hu hF ⊢
    by_cases c2 : 8192 < (out ++ a).length
    · rw [if_pos c2] at h; cases h
    rw [if_neg c2] at h
    by_cases c3 : l1 = []
    · rw [if_pos c3] at h; cases h
    rw [if_neg c3] at h hu hF
    by_cases c4 : (rdX l1).2 = false
    · rw [if_pos c4] at h; cases h
    rw [if_neg c4] at h hu hF
    by_cases c5 : 4096 < n + 1
    · rw [if_pos c5] at h; cases h
    rw [if_neg c5] at h
    cases hs : stp E (fun u n l => tx E K u n [] l) u (n + 1) (rdX l1).1 with
    | ok t q =>
      rw [hs] at h
      simp only [Res.then] at h
      by_cases c6 : 8192 < (out ++ a ++ t).length
      · rw [if_pos c6] at h; cases h
      rw [if_neg c6] at h
      have hq := stp_n (fun u n l o m h => tx_n E K u n [] l o m h) hs
      exact ih _ _ _ _ (by omega) h (fun x hx => ⟨(hu x hx).1, fun y hy => (hu x hx).2 y (List.mem_append_right _ hy)⟩) (fun y hy => hF y (List.mem_append_right _ hy))
    | bad c =>
      rw [hs] at h
      simp only [Res.then] at h
      obtain rfl : c = 61 := by injection h
      unfold stp at hs
      by_cases c7 : (rdX l1).1.name = [36]
      · rw [if_pos c7] at hs; cases hs
      rw [if_neg c7] at hs hu hF
      generalize (rdX l1).1.name = y at hs hu hF
      have hy : y ∈ [y] ++ (NM (l1.drop (rdX l1).1.size)).1 := by simp
      by_cases c2 : innL y = true
      · rw [if_pos c2] at hs
        simp only [Res.then] at hs
        by_cases c8 : (rdX l1).1.swap = true
        · rw [if_pos c8] at hs
          by_cases c9 : 8192 < (E.swap [] (rdX l1).1.from_ (rdX l1).1.to_).length
          · rw [if_pos c9] at hs; cases hs
          · rw [if_neg c9] at hs; cases hs
        · rw [if_neg c8] at hs; cases hs
      rw [if_neg c2] at hs
      by_cases c3 : y ∈ u
      · exact ⟨y, hF y hy, (hu y c3).2 y hy⟩
      · rw [if_neg c3] at hs
        simp only at hs
        cases hr : tx E K (u ++ [y]) (n + 1) [] (E.val y) with
        | ok t q =>
          rw [hr] at hs
          simp only [Res.then] at hs
          by_cases c8 : (rdX l1).1.swap = true
          · rw [if_pos c8] at hs
            by_cases c9 : 8192 < (E.swap t (rdX l1).1.from_ (rdX l1).1.to_).length
            · rw [if_pos c9] at hs; cases hs
            · rw [if_neg c9] at hs; cases hs
          · rw [if_neg c8] at hs; cases hs
        | bad c =>
          rw [hr] at hs
          simp only [Res.then] at hs
          obtain rfl : c = 61 := by injection hs
          refine ih _ _ _ _ (by omega) hr (fun x hx => ?_) (fun z hz => .step (hF y hy) hz)
          rcases List.mem_append.1 hx with hx | hx
          · exact ⟨(hu x hx).1, fun z hz => .step ((hu x hx).2 y hy) hz⟩
          · obtain rfl : x = y := by simpa using hx
            exact ⟨hF x hy, fun z hz => .base hz⟩
end Go.Proofs.YtadfbbjplgbakaaGreat.Plain
