/- special.rows: the table of the special targets. -/
import Derived.Test.YtkbcfbelpjifnaaSpec15
import Derived.MapKept
namespace Go.Proofs.Ytkbcfbelpjifnaa.Spec
open Go Go.RowKit Go.Proofs Go.Proofs.YtkbcfbelpjifnaaW.PrintWords Go.Proofs.Ytkbcfbelpjifnaa.PX Go.Proofs.Ytkbcfbelpjifnaa.Plain
set_option linter.unusedVariables false
set_option linter.unusedSimpArgs false

/-- A map whose keys are texts: its entries in the order in which they came. -/
def RowMap (w : World) (b : Nat) (kv : List (ByteArray × Value)) : Prop :=
  ∃ es clock, w.heap[b]? = some (.map es clock) ∧ es.toList.map (fun e => (e.key, e.val)) = kv.map (fun p => (Value.string p.1, p.2))
theorem RowMap.made (w : World) : RowMap (w.alloc (.map #[] 0)) w.heap.size [] := ⟨#[], 0, heap_alloc_new w _, rfl⟩
theorem RowMap.lt {w : World} {b : Nat} {kv : List (ByteArray × Value)} (h : RowMap w b kv) : b < w.heap.size := by
  obtain ⟨es, c, hb, _⟩ := h
  exact blk_lt hb
theorem RowMap.below {w w' : World} {b B : Nat} {kv : List (ByteArray × Value)} (h : RowMap w b kv) (hb : Below B w w') (hB : b < B) : RowMap w' b kv := by
  obtain ⟨es, c, h1, h2⟩ := h
  exact ⟨es, c, (hb.block b hB).trans h1, h2⟩
theorem RowMap.keys {es : Array MapEntry} {kv : List (ByteArray × Value)} (h : es.toList.map (fun e => (e.key, e.val)) = kv.map (fun p => (Value.string p.1, p.2))) : ∀ e ∈ es.toList, ∃ p ∈ kv, e.key = .string p.1 ∧ e.val = p.2 := by
  intro e he
  have h1 : (e.key, e.val) ∈ kv.map (fun p => (Value.string p.1, p.2)) := by rw [← h]; exact List.mem_map.2 ⟨e, he, rfl⟩
  obtain ⟨p, hp, e1⟩ := List.mem_map.1 h1
  injection e1 with e1 e2
  exact ⟨p, hp, e1.symm, e2.symm⟩
theorem RowMap.isKey {es : Array MapEntry} {kv : List (ByteArray × Value)} (h : es.toList.map (fun e => (e.key, e.val)) = kv.map (fun p => (Value.string p.1, p.2))) : ∀ e ∈ es.toList, MapKept.IsKey .string e.key := by
  intro e he
  obtain ⟨p, _, e1, _⟩ := RowMap.keys h e he
  rw [e1]; trivial
theorem RowMap.put {w : World} {b : Nat} {kv : List (ByteArray × Value)} (h : RowMap w b kv) {k : ByteArray} (hk : k ∉ kv.map (·.1)) (v : Value) :
    ∃ w', (Instr.mapUpdate 52 (.map (some b)) (.string k) v).run Try.prog w = .ok () w' ∧ RowMap w' b (kv ++ [(k, v)]) ∧ w.grownBy w' (some b) := by
  obtain ⟨es, c, hb, he⟩ := h
  have hm := Try.underlying52
  have hd := Try.underlying9
  have hik : MapKept.IsKey .string (Value.string k) := trivial
  have h1 : Instr.findNow .string (.string k) es.toList 0 = some none := by
    rcases MapKept.findNow_spec hik es.toList 0 (RowMap.isKey he) with ⟨h1, _⟩ | ⟨j, e, h1, h2, h3⟩
    · exact h1
    · obtain ⟨p, hp, e1, _⟩ := RowMap.keys he e (List.mem_of_getElem? h2)
      rw [e1] at h3
      injection h3 with h3
      exact absurd (List.mem_map.2 ⟨p, hp, h3⟩) hk
  refine ⟨{ w with heap := w.heap.setIfInBounds b (.map (es.push { key := .string k, val := v, born := c }) (c + 1)) }, ?_, ⟨_, _, (MapKept.heap_set hb).1, ?_⟩, ?_⟩
  · simp [Instr.mapUpdate, run_underlying hm, MapKept.run_getObj_map hb, MapKept.run_checkKey hd hik, MapKept.run_findKey hd h1, MapKept.run_setObj_map _ hb, Result.andThen]
  · simp [he]
  · exact ⟨rfl, rfl, rfl, by simp, fun i hi hne => (MapKept.heap_set hb).2 i (fun e => hne (by rw [e]))⟩
theorem RowMap.hit {w : World} {b : Nat} {kv : List (ByteArray × Value)} (h : RowMap w b kv) {k : ByteArray} {v : Value} (hk : (k, v) ∈ kv) (hu : ∀ v', (k, v') ∈ kv → v' = v) :
    (Instr.lookup 52 (.map (some b)) (.string k) true).run Try.prog w = .ok (.tuple #[v, .bool true]) w := by
  obtain ⟨es, c, hb, he⟩ := h
  have hm := Try.underlying52
  have hd := Try.underlying9
  have hik : MapKept.IsKey .string (Value.string k) := trivial
  rcases MapKept.findNow_spec hik es.toList 0 (RowMap.isKey he) with ⟨h1, h2⟩ | ⟨j, e, h1, h2, h3⟩
  · exfalso
    have h4 : (Value.string k, v) ∈ es.toList.map (fun e => (e.key, e.val)) := by rw [he]; exact List.mem_map.2 ⟨_, hk, rfl⟩
    obtain ⟨e, h5, h6⟩ := List.mem_map.1 h4
    injection h6 with h6 h7
    exact h2 e h5 h6
  · obtain ⟨p, hp, e1, e2⟩ := RowMap.keys he e (List.mem_of_getElem? h2)
    rw [e1] at h3
    injection h3 with h3
    have e3 : e.val = v := by rw [e2]; exact hu p.2 (by rw [← h3]; exact hp)
    rw [e3] at h1
    simp [Instr.lookup, run_underlying hm, MapKept.run_getObj_map hb, MapKept.run_checkKey hd hik, MapKept.run_findKey hd h1, Result.andThen]
theorem RowMap.miss {w : World} {b : Nat} {kv : List (ByteArray × Value)} (h : RowMap w b kv) {k : ByteArray} (hk : k ∉ kv.map (·.1)) :
    (Instr.lookup 52 (.map (some b)) (.string k) true).run Try.prog w = .ok (.tuple #[.agg #[.nilFunc], .bool false]) w := by
  obtain ⟨es, c, hb, he⟩ := h
  have hm := Try.underlying52
  have hd := Try.underlying9
  have hik : MapKept.IsKey .string (Value.string k) := trivial
  have hz : (zeroValue 57).run Try.prog w = .ok (.agg #[.nilFunc]) w := rfl
  rcases MapKept.findNow_spec hik es.toList 0 (RowMap.isKey he) with ⟨h1, h2⟩ | ⟨j, e, h1, h2, h3⟩
  · simp [Instr.lookup, run_underlying hm, MapKept.run_getObj_map hb, MapKept.run_checkKey hd hik, MapKept.run_findKey hd h1, Result.andThen, hz]
  · obtain ⟨p, hp, e1, _⟩ := RowMap.keys he e (List.mem_of_getElem? h2)
    rw [e1] at h3
    injection h3 with h3
    exact absurd (List.mem_map.2 ⟨p, hp, h3⟩) hk
end Go.Proofs.Ytkbcfbelpjifnaa.Spec
