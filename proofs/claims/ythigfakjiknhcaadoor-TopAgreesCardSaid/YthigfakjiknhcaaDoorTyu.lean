/- The law's argument, opened. -/
import Derived.Test.YthigfakjiknhcaaDoorTyt
import Derived.Test.YthigfakjiknhcaaDoorTyta
import Derived.Test.YthigfakjiknhcaaDoorTytb
import Derived.Deep.Slices
import Derived.ChangeSame
import Derived.WideShapes
import Derived.ChangeShapes
namespace Go.Proofs.YthigfakjiknhcaaDoorT
open Go Go.Proofs Go.RowKit Go.ChangeShapes Go.WideShapes
set_option linter.unusedSimpArgs false
set_option linter.unusedVariables false
theorem top_any {w : World} {A : Option Addr} {N cap : Nat} {evs : List Ev} (hv : EvArg w A N cap evs) : Calls Tryd.prog 3 #[.slice A N cap] w fun e w' => e = .returned (.bool true) ∧ Below w.heap.size w w' := by
  cases A with
  | none =>
    obtain ⟨rfl, rfl⟩ := hv.nil rfl
    exact top_nil
  | some a =>
    by_cases h : N ≤ 40
    · exact top_small hv h
    · exact top_big hv (by omega)
theorem rows_of {P : Nat → Ev → Prop} : ∀ n : Nat, (∀ k, k < n → ∃ x, P k x) → ∃ l : List Ev, l.length = n ∧ ∀ k x, l[k]? = some x → P k x
  | 0, _ => ⟨[], rfl, fun k x h => by simp at h⟩
  | n + 1, h => by
    obtain ⟨l, h1, h2⟩ := rows_of n (fun k hk => h k (by omega))
    obtain ⟨x, hx⟩ := h n (by omega)
    refine ⟨l ++ [x], by simp [h1], fun k y hy => ?_⟩
    by_cases hk : k < l.length
    · rw [List.getElem?_append_left hk] at hy
      exact h2 k y hy
    · rw [List.getElem?_append_right (by omega)] at hy
      have h0 : k - l.length = 0 := by
        rcases Nat.eq_zero_or_pos (k - l.length) with h0 | h0
        · exact h0
        · rw [List.getElem?_eq_none (by simp; omega)] at hy; cases hy
      rw [h0] at hy
      have hy : x = y := by simpa using hy
      subst hy
      obtain rfl : k = n := by omega
      exact hx
section
variable {H : Type} {enc : TypeId × Value → H} {w : World} {held : Bool}
set_option maxRecDepth 1000000 in
theorem open_ev {n : Nat} {cs : List Value} {x : DataW H × List MemPlace} (h : DataW.trod enc Tryd.prog w 0 (fun _ => true) held n 26 cs = some x) :
    ∃ y : Ev, cs = [Value.int .i64 y.kind, .int .i64 y.i, .int .i64 y.u, str y.h, str y.a, str y.b] := by
  obtain ⟨xs, k, _, _, hlen, hxl, hf⟩ := DataW.trod_struct Tryd.underlying26 h
  have c26 : Tryd.prog.cellsOf 26 = 6 := by kernel_rfl
  have c3 : Tryd.prog.cellsOf 3 = 1 := by kernel_rfl
  have c9 : Tryd.prog.cellsOf 9 = 1 := by kernel_rfl
  rw [c26] at hlen
  match cs, hlen, xs, hxl with
  | [v0, v1, v2, v3, v4, v5], _, [y0, y1, y2, y3, y4, y5], _ =>
    have g0 := hf 0 _ rfl
    have g1 := hf 1 _ rfl
    have g2 := hf 2 _ rfl
    have g3 := hf 3 _ rfl
    have g4 := hf 4 _ rfl
    have g5 := hf 5 _ rfl
    simp only [c3, c9, List.drop_zero, List.drop_succ_cons, List.take_succ_cons, List.take_zero, List.getElem?_cons_zero, List.getElem?_cons_succ] at g0 g1 g2 g3 g4 g5
    obtain ⟨n0, e0, _⟩ := DataW.trod_int Tryd.underlying3 g0
    obtain ⟨n1, e1, _⟩ := DataW.trod_int Tryd.underlying3 g1
    obtain ⟨n2, e2, _⟩ := DataW.trod_int Tryd.underlying3 g2
    obtain ⟨s3, e3, _⟩ := DataW.trod_string Tryd.underlying9 g3
    obtain ⟨s4, e4, _⟩ := DataW.trod_string Tryd.underlying9 g4
    obtain ⟨s5, e5, _⟩ := DataW.trod_string Tryd.underlying9 g5
    obtain rfl := (List.cons.inj e0).1
    obtain rfl := (List.cons.inj e1).1
    obtain rfl := (List.cons.inj e2).1
    obtain rfl := (List.cons.inj e3).1
    obtain rfl := (List.cons.inj e4).1
    obtain rfl := (List.cons.inj e5).1
    have hs : ∀ s : ByteArray, Value.string s = str s.data.toList := fun s => by cases s; simp [str]
    exact ⟨⟨n0, n1, n2, s3.data.toList, s4.data.toList, s5.data.toList⟩, by rw [hs s3, hs s4, hs s5]⟩
set_option maxRecDepth 1000000 in
theorem open_events {base : Nat} {v : Value} {d : DataW H} {ps : List MemPlace} (ho : Value.okWide Tryd.prog w .any base 22 v) (h : DataW.Trod enc Tryd.prog w 0 (fun _ => true) held 22 v d ps) :
    ∃ A N cap evs, v = .slice A N cap ∧ EvArg w A N cap evs := by
  obtain ⟨fuel, hf⟩ := h
  have hv : v.cells.toList = [v] := by
    cases v with
    | agg cs =>
      exfalso
      have : Cell.okWide Tryd.prog w .any base 22 (.agg cs) := by
        unfold Value.okWide at ho
        rw [Tryd.underlying22] at ho
        exact ho
      simp only [Cell.okWide, Cell.ok, Tryd.underlying22] at this
    | _ => rfl
  rw [hv] at hf
  have c26 : Tryd.prog.cellsOf 26 = 6 := by kernel_rfl
  rcases Go.Deep.open_slice Tryd.underlying22 hf with ⟨hn, _⟩ | ⟨a, len, cap, m, n, D, Pl, hn, _, hl, hm, hmm, _, hx⟩
  · have hn : v = .slice none 0 0 := by simpa using hn
    exact ⟨none, 0, 0, [], hn, rfl, Nat.le_refl _, Nat.zero_le _, fun _ => ⟨rfl, rfl⟩, fun k x h => by simp at h⟩
  · have hn : v = .slice (some a) len cap := by simpa using hn
    have hmc : m = cap := by simpa using hmm
    obtain ⟨evs, h1, h2⟩ := rows_of (P := fun k x => a.block < w.heap.size ∧ ∀ i, i < 6 → w.cell? (a.add (k * 6 + i)) = [Value.int .i64 x.kind, .int .i64 x.i, .int .i64 x.u, str x.h, str x.a, str x.b][i]?) len (fun k hk => by
      obtain ⟨cs', g1, g2⟩ := hx k (by omega)
      rw [c26] at g1
      obtain ⟨_, g3, g4⟩ := World.cells?_some g1
      obtain ⟨y, rfl⟩ := open_ev g2
      have g5 : ∀ i, i < 6 → w.cell? (a.add (k * 6 + i)) = [Value.int .i64 y.kind, .int .i64 y.i, .int .i64 y.u, str y.h, str y.a, str y.b][i]? := fun i hi => by
        rw [← add_add']
        exact g4 i hi
      refine ⟨y, ?_, g5⟩
      have g6 := g5 0 (by omega)
      rcases Nat.lt_or_ge a.block w.heap.size with h3 | h3
      · exact h3
      · exfalso
        have hb : (a.add (k * 6 + 0)).block = a.block := by unfold Addr.add; split <;> rfl
        unfold World.cell? at g6
        rw [hb, Array.getElem?_eq_none h3] at g6
        cases g6)
    exact ⟨some a, len, cap, evs, hn, h1, hl, hm, fun h => (by cases h), fun k x hkx => ⟨a, rfl, h2 k x hkx⟩⟩
end
end Go.Proofs.YthigfakjiknhcaaDoorT
