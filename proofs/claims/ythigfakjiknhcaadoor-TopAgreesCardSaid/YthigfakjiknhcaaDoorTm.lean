/- A set of texts: a map from texts to true. -/
import Derived.Test.YthigfakjiknhcaaDoorTl
import Derived.Maps.OwnOps
namespace Go.Proofs.YthigfakjiknhcaaDoorT
open Go Go.Proofs Go.RowKit
set_option linter.unusedSimpArgs false
set_option linter.unusedVariables false
/-- a map that holds texts, each once -/
def MB (w : World) (b : Nat) (ks : List (List UInt8)) : Prop := ∃ es clock, w.heap[b]? = some (.map es clock) ∧ es.toList.map (fun e => (e.key, e.val)) = ks.map (fun s => (str s, Value.bool true)) ∧ ks.Nodup
theorem sba_beq (a b : List UInt8) : ((⟨a.toArray⟩ : ByteArray) == ⟨b.toArray⟩) = decide (a = b) := by
  rw [str_beq]
  by_cases h : a = b
  · rw [h]; simp
  · rw [decide_eq_false h]; simpa using h
theorem findNow_in (s : List UInt8) : ∀ (es : List MapEntry) (ks : List (List UInt8)) (i : Nat), es.map (fun e => (e.key, e.val)) = ks.map (fun s => (str s, Value.bool true)) →
    (s ∉ ks ∧ Instr.findNow .string (str s) es i = some none) ∨ (s ∈ ks ∧ ∃ j e, Instr.findNow .string (str s) es i = some (some (i + j, .bool true)) ∧ es[j]? = some e ∧ e.key = str s ∧ e.val = .bool true)
  | [], [], i, _ => Or.inl ⟨by simp, rfl⟩
  | [], k :: ks, i, h => by simp at h
  | e :: es, [], i, h => by simp at h
  | e :: es, k :: ks, i, h => by
    simp only [List.map_cons, List.cons.injEq, Prod.mk.injEq] at h
    obtain ⟨⟨hk, hv⟩, ht⟩ := h
    have hs : Instr.sameNow .string (str s) e.key = some (decide (s = k)) := by
      rw [hk]
      show some ((⟨s.toArray⟩ : ByteArray) == ⟨k.toArray⟩) = _
      rw [sba_beq]
    by_cases hsk : s = k
    · right
      refine ⟨by simp [hsk], 0, e, ?_, rfl, by rw [hk, hsk], hv⟩
      unfold Instr.findNow
      rw [hs, decide_eq_true hsk, hv]
      rfl
    · rcases findNow_in s es ks (i + 1) ht with ⟨h1, h2⟩ | ⟨h1, j, e', h2, h3, h4, h5⟩
      · left
        refine ⟨by simp [hsk, h1], ?_⟩
        unfold Instr.findNow
        rw [hs, decide_eq_false hsk]
        exact h2
      · right
        refine ⟨by simp [h1], j + 1, e', ?_, h3, h4, h5⟩
        unfold Instr.findNow
        rw [hs, decide_eq_false hsk]
        rw [show i + (j + 1) = i + 1 + j by omega]
        exact h2
theorem check_str (em : Bool) (s : List UInt8) (w : World) : (Instr.checkKey em 10000 9 (str s)).run Tryd.prog w = .ok () w := by
  exact MapKept.run_checkKey Tryd.underlying9 (by trivial) em 9999
theorem find_run (w : World) (s : List UInt8) {es : List MapEntry} {r : Option (Nat × Value)} (h : Instr.findNow .string (str s) es 0 = some r) : (Instr.findKey 9 (str s) es).run Tryd.prog w = .ok r w := by
  simp [Instr.findKey, run_underlying Tryd.underlying9, h]
theorem bits_str (s : List UInt8) : Instr.sameBits 10000 (str s) (str s) = true := by
  unfold Instr.sameBits
  show ((⟨s.toArray⟩ : ByteArray) == ⟨s.toArray⟩) = true
  rw [sba_beq]; simp
theorem keeps_str (s : List UInt8) (w : World) : (Instr.keyThatStays (str s) (str s)).run Tryd.prog w = .ok (str s) w := by
  simp [Instr.keyThatStays, bits_str]
/-- is a text held? -/
theorem look_any {w : World} {b : Nat} {ks : List (List UInt8)} (h : MB w b ks) (s : List UInt8) : (Instr.lookup 57 (.map (some b)) (str s) false).run Tryd.prog w = .ok (.bool (decide (s ∈ ks))) w := by
  obtain ⟨es, clock, hb, hm, hn⟩ := h
  have hz := Tryd.zeroValue4 w
  rcases findNow_in s es.toList ks 0 hm with ⟨h1, h2⟩ | ⟨h1, j, e, h2, h3, h4, h5⟩
  · rw [decide_eq_false h1]
    simp [Instr.lookup, run_underlying Tryd.underlying57, MapKept.run_getObj_map hb, check_str, find_run w s h2, hz, Result.andThen]
  · rw [decide_eq_true h1]
    simp [Instr.lookup, run_underlying Tryd.underlying57, MapKept.run_getObj_map hb, check_str, find_run w s h2, Result.andThen]
/-- a text put in -/
def put (ks : List (List UInt8)) (s : List UInt8) : List (List UInt8) := if s ∈ ks then ks else ks ++ [s]
theorem put_any {w : World} {b : Nat} {ks : List (List UInt8)} (h : MB w b ks) (s : List UInt8) : ∃ w', (Instr.mapUpdate 57 (.map (some b)) (str s) (.bool true)).run Tryd.prog w = .ok () w' ∧ MB w' b (put ks s) ∧ KB b w w' := by
  obtain ⟨es, clock, hb, hm, hn⟩ := h
  have hlt := (Array.getElem?_eq_some_iff.1 hb).1
  have kb : ∀ o : Obj, KB b w { w with heap := w.heap.setIfInBounds b o } := fun o => ⟨rfl, rfl, rfl, by simp, fun k hk hne => by
    show (w.heap.setIfInBounds b o)[k]? = _
    simp [Array.getElem?_setIfInBounds, Ne.symm hne]⟩
  rcases findNow_in s es.toList ks 0 hm with ⟨h1, h2⟩ | ⟨h1, j, e, h2, h3, h4, h5⟩
  · unfold put
    rw [if_neg h1]
    refine ⟨_, by simp [Instr.mapUpdate, run_underlying Tryd.underlying57, MapKept.run_getObj_map hb, check_str, find_run w s h2, MapKept.run_setObj_map _ hb, Result.andThen]; rfl, ?_, ?_⟩
    · refine ⟨es.push ⟨str s, .bool true, clock⟩, clock + 1, ?_, ?_, ?_⟩
      · show (w.heap.setIfInBounds b _)[b]? = _
        simp [hlt]
      · simp [hm]
      · rw [List.nodup_append]
        exact ⟨hn, by simp, by intro a ha c hc; simp at hc; subst hc; intro e; subst e; exact h1 ha⟩
    · exact kb _
  · unfold put
    rw [if_pos h1]
    have hj : es[j]? = some e := by simpa using h3
    refine ⟨{ w with heap := w.heap.setIfInBounds b (.map (es.modify j fun e => { e with key := str s, val := .bool true }) clock) }, by simp [Instr.mapUpdate, run_underlying Tryd.underlying57, MapKept.run_getObj_map hb, check_str, find_run w s h2, hj, h4, keeps_str, MapKept.run_setObj_map _ hb, Result.andThen], ⟨es.modify j fun e => { e with key := str s, val := .bool true }, clock, ?_, ?_, hn⟩, kb _⟩
    · show (w.heap.setIfInBounds b _)[b]? = _
      simp [hlt]
    · rw [← hm, Array.toList_modify]
      apply List.ext_getElem?
      intro i
      simp only [List.getElem?_map, List.getElem?_modify]
      by_cases hij : j = i
      · subst hij
        rw [h3]
        simp [h4, h5]
      · simp [hij]
end Go.Proofs.YthigfakjiknhcaaDoorT
