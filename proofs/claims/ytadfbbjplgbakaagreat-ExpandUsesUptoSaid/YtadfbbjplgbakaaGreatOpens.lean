/- What a row's arguments read as, kind by kind: from the form's own reading to the printed contracts' words, with the bulk that it has. -/
import Derived.Test.YtadfbbjplgbakaaGreatRows
import Derived.Test.YtadfbbjplgbakaaGreatWWords
import Derived.ChangeArms
import Derived.SliceStrings
import Derived.SizedLaws
namespace Go.Proofs.YtadfbbjplgbakaaGreat.Opens
open Go.RowKit Go.Proofs.YtadfbbjplgbakaaGreatW.PrintWords

/-- A value of type t is read as one of kind d; bk: its bulk at the least; fit: what is known of it. -/
def Rdg (P : Program) {α : Type} (t : TypeId) (d : Kd α) (bk : α → Nat) (fit : α → Prop) : Prop :=
  ∀ (H : Type) (enc : TypeId × Value → H) (w : World) (base : Nat) (spare : Nat → Bool) (held : Bool) (fuel : Nat) (cs : List Value) (x : DataW H × List MemPlace),
    DataW.trod enc P w base spare held fuel t cs = some x → ∃ v : α, d.K w v cs ∧ fit v ∧ bk v ≤ Rows.uptoBulk x.1
section
variable {P : Program} {α β : Type} {t e : TypeId} {d : Kd α} {d' : Kd β} {bk : α → Nat} {bk' : β → Nat} {fit : α → Prop} {fit' : β → Prop}
theorem Rdg.weak (h : Rdg P t d bk fit) {bk2 : α → Nat} {fit2 : α → Prop} (hb : ∀ v, bk2 v ≤ bk v) (hf : ∀ v, fit v → fit2 v) : Rdg P t d bk2 fit2 := by
  intro H enc w base spare held fuel cs x hx
  obtain ⟨v, h1, h2, h3⟩ := h H enc w base spare held fuel cs x hx
  exact ⟨v, h1, hf v h2, Nat.le_trans (hb v) h3⟩
def bkS (s : ByteArray) : Nat := s.size + 1
def fitS (s : ByteArray) : Prop := s.size ≤ 9223372036854775807
theorem Rdg.string (ht : P.underlying t = some .string) : Rdg P t Kd.string bkS fitS := by
  intro H enc w base spare held fuel cs x hx
  obtain ⟨s, rfl, rfl, hs⟩ := DataW.trod_string ht hx
  refine ⟨s, rfl, hs, ?_⟩
  simp only [Rows.uptoBulk, bkS, Array.length_toList]
  exact Nat.le_refl _
def fitI (k : IntKind) (n : Int) : Prop := (Lit.int k n).wf = true
theorem Rdg.int {k : IntKind} (ht : P.underlying t = some (.int k)) : Rdg P t (Kd.int k) (fun _ => 1) (fitI k) := by
  intro H enc w base spare held fuel cs x hx
  obtain ⟨n, rfl, rfl, hn⟩ := DataW.trod_int ht hx
  exact ⟨n, rfl, hn, by simp [Rows.uptoBulk]⟩
theorem Rdg.bool (ht : P.underlying t = some .bool) : Rdg P t Kd.bool (fun _ => 1) (fun _ => True) := by
  intro H enc w base spare held fuel cs x hx
  obtain ⟨n, rfl, rfl⟩ := DataW.trod_bool ht hx
  exact ⟨n, rfl, trivial, by simp [Rows.uptoBulk]⟩
theorem add_add (a : Addr) (m j : Nat) : (a.add m).add j = a.add (m + j) := by
  unfold Addr.add
  by_cases hm : m = 0
  · subst hm; simp
  · by_cases hj : j = 0
    · subst hj; simp
    · simp [hm, hj, Nat.add_assoc]
theorem cells_at {w : World} {base n : Nat} {a : Addr} {cs : List Value} (h : w.cells? base a n = some cs) : cs.length = n ∧ ∀ i u, cs[i]? = some u → w.cell? (a.add i) = some u := by
  unfold World.cells? at h
  split at h
  · have hl : cs.length = n := by simpa using mapM_some_length h
    refine ⟨hl, fun i u hu => ?_⟩
    have hi : i < n := by rw [← hl]; exact (List.getElem?_eq_some_iff.1 hu).1
    have := mapM_some_get h i i (by simp [hi])
    rw [this]
    exact hu
  · cases h
theorem bulk_snoc {H : Type} : ∀ (l : List (DataW H)) (x : DataW H), Rows.uptoBulkAll (l ++ [x]) = Rows.uptoBulkAll l + Rows.uptoBulk x
  | [], x => by simp [Rows.uptoBulkAll]
  | y :: l, x => by simp only [List.cons_append, Rows.uptoBulkAll, bulk_snoc l x]; omega
/-- A list's bulk. -/
def bkL (bk : α → Nat) (l : List α) : Nat := (l.map bk).sum + 1
def fitL (fit : α → Prop) (l : List α) : Prop := (∀ v ∈ l, fit v) ∧ l.length ≤ 9223372036854775807
theorem Rdg.slice (ht : P.underlying t = some (.slice e)) (hc : P.cellsOf e = d.sz) (h : Rdg P e d bk fit) : Rdg P t (Kd.slice e d) (bkL bk) (fitL fit) := by
  intro H enc w base spare held fuel cs x hx
  rcases DataW.trod_slice ht hx with ⟨rfl, rfl⟩ | ⟨a, len, cap, elems, rest, n, _, rfl, rfl, hb, hl, hm, hlen, hel, _, _⟩
  · exact ⟨[], ⟨none, 0, rfl, Nat.le_refl _, rfl, by simp, fun h => absurd h (by simp)⟩, ⟨fun v hv => by simp at hv, by simp⟩, by simp [bkL, Rows.uptoBulk]⟩
  · have key : ∀ m, m ≤ len → ∃ l : List α, l.length = m ∧ (∀ v ∈ l, fit v) ∧ (l.map bk).sum ≤ Rows.uptoBulkAll ((elems.take m).map (·.1)) ∧
        ∀ j p, l[j]? = some p → ∃ c, c.length = d.sz ∧ d.K w p c ∧ ∀ i u, c[i]? = some u → w.cell? (a.add (j * d.sz + i)) = some u := by
      intro m
      induction m with
      | zero => intro _; exact ⟨[], rfl, fun v hv => by simp at hv, by simp, fun j p hj => by simp at hj⟩
      | succ m ih =>
        intro hm'
        obtain ⟨l, h1, h2, h3, h4⟩ := ih (by omega)
        have hlt : m < elems.length := by omega
        have hi := hel m (by omega)
        rw [List.getElem?_eq_getElem hlt, Option.bind_eq_some_iff] at hi
        obtain ⟨c, hc1, hc2⟩ := hi
        obtain ⟨v, hK, hf, hbk⟩ := h H enc w base spare held n c _ hc2
        obtain ⟨hcl, hca⟩ := cells_at hc1
        refine ⟨l ++ [v], by simp [h1], fun u hu => ?_, ?_, fun j p hj => ?_⟩
        · rcases List.mem_append.1 hu with hu | hu
          · exact h2 u hu
          · rw [List.mem_singleton.1 hu]; exact hf
        · rw [List.take_succ_eq_append_getElem hlt, List.map_append, List.map_append, List.sum_append]
          show _ ≤ Rows.uptoBulkAll (List.map (·.1) (List.take m elems) ++ [elems[m].1])
          rw [bulk_snoc]
          simp only [List.map_cons, List.map_nil, List.sum_cons, List.sum_nil]
          omega
        · rcases Nat.lt_or_ge j l.length with hjl | hjl
          · rw [List.getElem?_append_left hjl] at hj
            exact h4 j p hj
          · have hjm : j = l.length := by
              have := (List.getElem?_eq_some_iff.1 hj).1
              simp at this
              omega
            subst hjm
            have hp : v = p := by simpa using hj
            subst hp
            refine ⟨c, by rw [hcl, hc], hK, fun i u hu => ?_⟩
            have := hca i u hu
            rw [add_add, hc] at this
            rw [h1]
            exact this
    obtain ⟨l, h1, h2, h3, h4⟩ := key len (Nat.le_refl _)
    have hmx : len ≤ 9223372036854775807 := by unfold maxLen at hm; omega
    refine ⟨l, ⟨some a, cap, by rw [h1], by omega, rfl, by omega, fun _ => ⟨a, rfl, h4⟩⟩, ⟨h2, by omega⟩, ?_⟩
    rw [← hlen, List.take_length] at h3
    simp only [Rows.uptoBulk, bkL]
    omega

/-! ### structs: field by field -/
def RdgF (P : Program) (o : Nat) (fs : List Field) (d : Kd α) (bk : α → Nat) (fit : α → Prop) : Prop :=
  ∀ (H : Type) (enc : TypeId × Value → H) (w : World) (base : Nat) (spare : Nat → Bool) (held : Bool) (n : Nat) (cs : List Value) (xs : List (DataW H × List MemPlace)),
    xs.length = fs.length → cs.length = o + d.sz → (∀ (i : Nat) (f : Field), fs[i]? = some f → DataW.trod enc P w base spare held n f.type ((cs.drop f.offset).take (P.cellsOf f.type)) = xs[i]?) →
    ∃ v : α, d.K w v (cs.drop o) ∧ fit v ∧ bk v ≤ Rows.uptoBulkAll (xs.map (·.1))
theorem RdgF.last {o : Nat} {f : Field} (h : Rdg P f.type d bk fit) (ho : f.offset = o) (hc : P.cellsOf f.type = d.sz) : RdgF P o [f] d bk fit := by
  intro H enc w base spare held n cs xs hx hcl hf
  have h0 := hf 0 f rfl
  obtain ⟨x, rfl⟩ : ∃ x, xs = [x] := by
    match xs, hx with
    | [x], _ => exact ⟨x, rfl⟩
  obtain ⟨v, h1, h2, h3⟩ := h H enc w base spare held n _ x h0
  refine ⟨v, ?_, h2, by simpa [Rows.uptoBulkAll] using h3⟩
  rw [ho, hc, List.take_of_length_le (by rw [List.length_drop]; omega)] at h1
  exact h1
theorem RdgF.cons {o : Nat} {f : Field} {fs : List Field} (h : Rdg P f.type d bk fit) (ho : f.offset = o) (hc : P.cellsOf f.type = d.sz) (r : RdgF P (o + d.sz) fs d' bk' fit') :
    RdgF P o (f :: fs) (Kd.pair d d') (fun x => bk x.1 + bk' x.2) (fun x => fit x.1 ∧ fit' x.2) := by
  intro H enc w base spare held n cs xs hx hcl hf
  have h0 := hf 0 f rfl
  obtain ⟨x, ys, rfl⟩ : ∃ x ys, xs = x :: ys := by
    match xs, hx with
    | x :: ys, _ => exact ⟨x, ys, rfl⟩
  have hcl' : cs.length = o + (d.sz + d'.sz) := hcl
  obtain ⟨v, h1, h2, h3⟩ := h H enc w base spare held n _ x h0
  obtain ⟨u, k1, k2, k3⟩ := r H enc w base spare held n cs ys (by simpa using hx) (by omega) (fun i g hg => hf (i + 1) g hg)
  refine ⟨(v, u), ⟨_, _, ?_, h1, k1⟩, ⟨h2, k2⟩, ?_⟩
  · rw [ho, hc, ← List.drop_drop]
    exact (List.take_append_drop _ _).symm
  · simp only [List.map_cons, Rows.uptoBulkAll]
    omega
theorem Rdg.struct {fs : Array Field} (ht : P.underlying t = some (.struct fs)) (hc : P.cellsOf t = d.sz) (r : RdgF P 0 fs.toList d bk fit) : Rdg P t d (fun v => bk v + 1) fit := by
  intro H enc w base spare held fuel cs x hx
  obtain ⟨xs, n, rfl, rfl, hcl, hxs, hf⟩ := DataW.trod_struct ht hx
  obtain ⟨v, h1, h2, h3⟩ := r H enc w base spare held n cs xs (by simpa using hxs) (by omega) (fun i f hi => hf i f (by simpa using hi))
  refine ⟨v, by simpa using h1, h2, ?_⟩
  simp only [Rows.uptoBulk]
  omega
theorem Rdg.iso (h : Rdg P t d bk fit) (f : β → α) (g : α → β) (hg : ∀ x, f (g x) = x) : Rdg P t (Kd.iso d f) (fun y => bk (f y)) (fun y => fit (f y)) := by
  intro H enc w base spare held fuel cs x hx
  obtain ⟨v, h1, h2, h3⟩ := h H enc w base spare held fuel cs x hx
  refine ⟨g v, ?_, ?_, ?_⟩
  · show d.K w (f (g v)) cs
    rw [hg]; exact h1
  · show fit (f (g v))
    rw [hg]; exact h2
  · show bk (f (g v)) ≤ _
    rw [hg]; exact h3
end

/-! ### the arguments of a row -/
section
variable {H : Type} {enc : TypeId × Value → H} {P : Program} {w : World} {base : Nat} {spare : Nat → Bool} {held : Bool} {α : Type} {t e : TypeId} {d : Kd α} {bk : α → Nat} {fit : α → Prop} {v : Value} {x : DataW H} {ps : List MemPlace}
theorem open_op (h : Rdg P t d bk fit) (hd : DataW.Trod enc P w base spare held t v x ps) : ∃ u : α, d.K w u v.cells.toList ∧ fit u ∧ bk u ≤ Rows.uptoBulk x := by
  obtain ⟨fuel, hf⟩ := hd
  exact h H enc w base spare held fuel _ _ hf
/-- A slice argument. -/
theorem open_slice (h : Rdg P t (Kd.slice e d) (bkL bk) (fitL fit)) (hv : ∃ a n c, v = .slice a n c) (hd : DataW.Trod enc P w base spare held t v x ps) :
    ∃ (A : Option Addr) (c : Nat) (l : List α), v = .slice A l.length c ∧ l.length ≤ c ∧ d.C w A l.length l ∧ (∀ u ∈ l, fit u) ∧ bkL bk l ≤ Rows.uptoBulk x := by
  obtain ⟨l, ⟨A, c, hcs, hl, hC⟩, hf, hb⟩ := open_op h hd
  obtain ⟨a, n, c', rfl⟩ := hv
  simp [Value.cells] at hcs
  obtain ⟨rfl, rfl, rfl⟩ := hcs
  exact ⟨_, _, l, rfl, hl, hC, hf.1, hb⟩
end
/-- A slice of texts is no longer than its weight allows. -/
theorem sized_strs {H : Type} {enc : TypeId × Value → H} {P : Program} {W : World} {base : Nat} {spare : Nat → Bool} {held : Bool} {t e : TypeId} {a : Option Addr} {len cap : Nat} {d : DataW H} {ps : List MemPlace} {ts : List TypeId} {ds : List (DataW H)} {j : Nat}
    (hsz : (DataW.weightsEach P ts ds).all (· ≤ reachBytes) = true) (ht : ts[j]? = some t) (hd : ds[j]? = some d) (hu : P.underlying t = some (.slice e)) {B : Nat} (hB : P.bytesOf e = B)
    (h : DataW.Trod enc P W base spare held t (.slice a len cap) d ps) : len * B ≤ 140737488351232 := by
  obtain ⟨fuel, hf⟩ := h
  rcases DataW.trod_slice hu hf with ⟨hcs, _⟩ | ⟨x, l, c, elems, rest, n, _, hcs, hx, _, _, _, hlen, _, _, _⟩
  · simp [Value.cells] at hcs
    obtain ⟨rfl, rfl, rfl⟩ := hcs
    simp
  · simp [Value.cells] at hcs
    obtain ⟨rfl, rfl, rfl⟩ := hcs
    obtain ⟨hx, _⟩ := Prod.mk.inj hx
    subst hx
    have z := sized_slice hsz ht hd hu
    rw [hB] at z
    simp only [List.length_map] at z
    exact Nat.le_trans (Nat.mul_le_mul_right _ (by omega)) z
end Go.Proofs.YtadfbbjplgbakaaGreat.Opens
