/- A set copied; the store: New, Copy, Hear. -/
import Derived.Test.YthigfakjiknhcaaDoorTn
import Derived.Shelf.SlMaps.Clone
import Derived.Laws.Externs
namespace Go.Proofs.YthigfakjiknhcaaDoorT
open Go Go.Proofs Go.RowKit
set_option linter.unusedSimpArgs false
set_option linter.unusedVariables false
set_option maxHeartbeats 4000000 in
set_option maxRecDepth 1000000 in
theorem clone_any {w : World} {b : Nat} {ks : List (List UInt8)} (h : MB w b ks) : Calls Tryd.prog 30 #[.map (some b)] w fun e w' => e = .returned (.map (some w.heap.size)) ∧ MB w' w.heap.size ks ∧ Below w.heap.size w w' := by
  obtain ⟨es, clock, hb, hm, hn⟩ := h
  have hq := fun w => run_eql_map_nil_sl (P := Tryd.prog) w 57 _ _ (some b) Tryd.underlying57
  go_enter Tryd.func30, Tryd.ntmps30
  go_wp2
  rw [run_callFunc_extern Tryd.func51 (by kernel_rfl) (by kernel_rfl) (by kernel_rfl) (e := Extern.MapsClone.clone) (by kernel_rfl), run_maps_clone_sl w 57 hb]
  simp only [Result.andThen]
  rw [Oper.upon_value]
  go_wp2
  rw [run_typeAssert_map_sl _ 57 20 _ _ _ Tryd.underlying57]
  simp only [Result.andThen]
  rw [Oper.upon_value]
  go_wp2
  go_ret
  refine ⟨rfl, ⟨es, clock, ?_, hm, hn⟩, al_below _ _⟩
  show (w.heap.push _)[w.heap.size]? = _
  simp
/-- a store that holds texts -/
def SB (w : World) (b : Nat) (ks : List (List UInt8)) : Prop := ∃ m, w.heap[b]? = some (.cells #[.map (some m)] 59 (0, 0)) ∧ MB w m ks
theorem SB.below {w w' : World} {b : Nat} {ks : List (List UInt8)} (h : SB w b ks) (hb : Below w.heap.size w w') : SB w' b ks := by
  obtain ⟨m, h1, h2⟩ := h
  exact ⟨m, by rw [hb.block b (Array.getElem?_eq_some_iff.1 h1).1]; exact h1, h2.below hb⟩
theorem SB.drewN {w : World} {b : Nat} {ks : List (List UInt8)} (h : SB w b ks) (n : Nat) : SB (w.drewN n) b ks := h
theorem SB.kt {w w' : World} {b : Nat} {ks : List (List UInt8)} (h : SB w b ks) (k : KB b w w') : KT w w' := ⟨k.os, k.tape, k.output, k.size, fun i cs T fr hi ht => by
  have hlt := (Array.getElem?_eq_some_iff.1 hi).1
  by_cases e : i = b
  · subst e
    obtain ⟨m, hb, _⟩ := h
    rw [hb] at hi
    simp only [Option.some.injEq, Obj.cells.injEq] at hi
    obtain ⟨_, rfl, _⟩ := hi
    rcases ht with h | h | h <;> cases h
  · rw [k.block i hlt e]; exact hi⟩
theorem map_neq (m : Nat) (w : World) : (binOp .neq 57 (.map (some m)) (.map none)).run Tryd.prog w = .ok (.bool true) w := by
  have h := fun d => run_equalIn_map_nil_sl (P := Tryd.prog) w d 57 _ _ (some m) Tryd.underlying57
  simp only [binOp]
  simp [Op.equal, Op.maxDepth, h 9999]
set_option maxHeartbeats 4000000 in
set_option maxRecDepth 1000000 in
theorem ok_any {w : World} {b : Nat} {ks : List (List UInt8)} (h : SB w b ks) : Calls Tryd.prog 29 #[.pointer (some ⟨b, 0, none⟩)] w fun e w' => e = .returned (.bool true) ∧ w' = w := by
  obtain ⟨m, h1, h2⟩ := h
  have c0 := cell_at h1 0
  simp at c0
  have hq := map_neq m
  go_enter Tryd.func29, Tryd.ntmps29
  go_wp2
  go_ret
  exact ⟨rfl, rfl⟩
theorem new_sb (w : World) (m : Nat) {ks : List (List UInt8)} (h : MB w m ks) : SB (w.alloc (.cells #[.map (some m)] 59)) w.heap.size ks := by
  refine ⟨m, ?_, h.below (al_below _ _)⟩
  show (w.heap.push _)[w.heap.size]? = _
  simp
set_option maxHeartbeats 4000000 in
set_option maxRecDepth 1000000 in
theorem knew_any {w : World} : Calls Tryd.prog 10 #[] w fun e w' => (∃ b, e = .returned (.pointer (some ⟨b, 0, none⟩)) ∧ w.heap.size ≤ b ∧ SB w' b []) ∧ Below w.heap.size w w' := by
  have hmm := @run_makeMap Tryd.prog
  go_enter Tryd.func10, Tryd.ntmps10
  go_wp2
  go_ret
  have hm : MB (w.alloc (.map #[] 0)) w.heap.size [] := ⟨#[], 0, by show (w.heap.push _)[w.heap.size]? = _; simp, rfl, List.nodup_nil⟩
  have hn := new_sb _ _ hm
  rw [World.size_alloc] at hn
  exact ⟨⟨_, rfl, Nat.le_succ _, hn⟩, (al_below _ _).trans ((al_below _ _).mono (al_below _ _).size)⟩
set_option maxHeartbeats 4000000 in
set_option maxRecDepth 1000000 in
theorem copy_any {w : World} {b : Nat} {ks : List (List UInt8)} (h : SB w b ks) : Calls Tryd.prog 56 #[.pointer (some ⟨b, 0, none⟩)] w fun e w' => (∃ b', e = .returned (.pointer (some ⟨b', 0, none⟩)) ∧ w.heap.size ≤ b' ∧ SB w' b' ks) ∧ Below w.heap.size w w' := by
  have hok := ok_any h
  obtain ⟨m, h1, h2⟩ := h
  have c0 := cell_at h1 0
  simp at c0
  go_enter Tryd.func56, Tryd.ntmps56
  go_wp2_with (go_at_call 29; refine Calls.mono hok (fun e w1 hp => ?_); obtain ⟨rfl, rfl⟩ := hp)
  go_wp2_with (go_at_call 30; refine Calls.mono (clone_any h2) (fun e w2 hp => ?_); obtain ⟨rfl, m2, b2⟩ := hp)
  go_ret
  exact ⟨⟨_, rfl, b2.size, new_sb _ _ m2⟩, b2.trans ((al_below _ _).mono b2.size)⟩
/-- what Hear answers, and what is held then -/
def hear (ks : List (List UInt8)) (t : Option Tm) : Nat × List (List UInt8) :=
  match t with
  | none => (2, ks)
  | some t => if 500 < (splitS ks t).length then (5, ks) else (0, splitS ks t)
theorem SB.set {w : World} {b : Nat} {ks : List (List UInt8)} (h : SB w b ks) {m : Nat} {k2 : List (List UInt8)} (hm : MB w m k2) : SB (w.setCell ⟨b, 0, none⟩ (.map (some m))) b k2 ∧ KB b w (w.setCell ⟨b, 0, none⟩ (.map (some m))) := by
  obtain ⟨m0, h1, _⟩ := h
  have hne : m ≠ b := by
    intro e
    subst e
    obtain ⟨es, clock, g1, _⟩ := hm
    rw [h1] at g1
    cases g1
  obtain ⟨es, clock, g1, g2⟩ := hm
  refine ⟨⟨m, ?_, es, clock, ?_, g2⟩, rfl, rfl, rfl, by simp [World.setCell], fun k hk hb => Below.heap_setCell _ _ _ _ hb⟩
  · simp [World.setCell, Array.getElem?_modify, h1]
  · rw [Below.heap_setCell _ _ _ _ hne]; exact g1
end Go.Proofs.YthigfakjiknhcaaDoorT
