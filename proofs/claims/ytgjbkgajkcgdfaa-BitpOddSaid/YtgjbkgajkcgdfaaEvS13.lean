/- Operations that write. -/
import Derived.Test.YtgjbkgajkcgdfaaEvS12
namespace Go.Proofs.YtgjbkgajkcgdfaaE
open Go
set_option linter.unusedSimpArgs false
set_option linter.unusedVariables false
variable {P : Program} {w : World} {m : Nat → Option Nat} {I O : Nat → Prop} {ρ : Pl} {H Hb : List Blk} {p q v : V} {x y : Value} {news : List Blk}

theorem setCell_heap (w : World) (a : Addr) (v : Value) (k : Nat) (h : k ≠ a.block) : (w.setCell a v).heap[k]? = w.heap[k]? := by
  simp only [World.setCell, Array.getElem?_modify]
  rw [if_neg (by omega)]
theorem setCells_other (r : Nat) : ∀ (ys : List Value) (o : Nat) (w : World), (∀ k, k ≠ r → (w.setCells r o ys).heap[k]? = w.heap[k]?) ∧ (w.setCells r o ys).heap.size = w.heap.size ∧
    (w.setCells r o ys).os = w.os ∧ (w.setCells r o ys).tape = w.tape ∧ (w.setCells r o ys).output = w.output
  | [], o, w => ⟨fun _ _ => rfl, rfl, rfl, rfl, rfl⟩
  | y :: ys, o, w => by
    obtain ⟨h1, h2, h3, h4, h5⟩ := setCells_other r ys (o + 1) (w.setCell ⟨r, o, none⟩ y)
    exact ⟨fun k hk => (h1 k hk).trans (setCell_heap _ _ _ _ hk), h2.trans (by simp [World.setCell]), h3, h4, h5⟩
theorem setCells_same (r : Nat) : ∀ (ys : List Value) (o : Nat) (w : World) (cs : Array Value) (e : TypeId) (fr : Nat × Nat), w.heap[r]? = some (.cells cs e fr) →
    ∃ cs', (w.setCells r o ys).heap[r]? = some (.cells cs' e fr) ∧ cs'.size = cs.size ∧ ∀ j : Nat, cs'[j]? = if j < o then cs[j]? else if j < o + ys.length then (if j < cs.size then ys[j - o]? else none) else cs[j]?
  | [], o, w, cs, e, fr, h => ⟨cs, h, rfl, fun j => by simp only [List.length_nil, Nat.add_zero]; split <;> rfl⟩
  | y :: ys, o, w, cs, e, fr, h => by
    have h1 : (w.setCell ⟨r, o, none⟩ y).heap[r]? = some (.cells (cs.setIfInBounds o y) e fr) := by
      simp only [World.setCell, Array.getElem?_modify, if_true, h]; rfl
    obtain ⟨cs', g1, g2, g3⟩ := setCells_same r ys (o + 1) _ _ e fr h1
    refine ⟨cs', g1, by rw [g2]; simp, fun j => ?_⟩
    rw [g3]
    simp only [Array.size_setIfInBounds, List.length_cons]
    by_cases h1 : j < o
    · rw [if_pos (by omega), if_pos h1, Array.getElem?_setIfInBounds_ne (by omega)]
    · by_cases h2 : j = o
      · subst h2
        rw [if_pos (by omega), if_neg (by omega), if_pos (by omega)]
        by_cases h3 : j < cs.size
        · rw [if_pos h3, Array.getElem?_setIfInBounds_self_of_lt h3]; simp
        · rw [if_neg h3, Array.getElem?_eq_none (by simp; omega)]
      · rw [if_neg (by omega), if_neg h1]
        by_cases h3 : j < o + (ys.length + 1)
        · rw [if_pos (by omega), if_pos h3]
          by_cases h4 : j < cs.size
          · rw [if_pos h4, if_pos h4, show j - o = (j - (o + 1)) + 1 by omega]; simp
          · rw [if_neg h4, if_neg h4]
        · rw [if_neg (by omega), if_neg h3, Array.getElem?_setIfInBounds_ne (by omega)]

/-- a step that may write what is one's own; n: the numbers from n on may be placed by it -/
structure EG (n : Nat) (I O : Nat → Prop) (w : World) (ρ : Pl) (O' : Nat → Prop) (w' : World) (ρ' : Pl) : Prop where
  mono : Mono I w ρ I w' ρ'
  ext : Ext O w w'
  own : ∀ k, O k → O' k
  own' : ∀ k, O' k → O k ∨ w.heap.size ≤ k
  pl' : ∀ i r, ρ' i = some r → ρ i = some r ∨ (n ≤ i ∧ (O r ∨ w.heap.size ≤ r))

def EPost (m : Nat → Option Nat) (P : Program) (s : Sem Value) (n : Nat) (H' : List Blk) (I O : Nat → Prop) (w : World) (ρ : Pl) (v : V) : Prop :=
  ∃ z w' O' ρ', s.run P w = .ok z w' ∧ RelV m I w' ρ' v z ∧ HRel m I O' w' ρ' H' ∧ EG n I O w ρ O' w' ρ'

theorem live_set {b i : Nat} {bl : Blk} (h : live (H.set b bl) i) (hb : live H b) : live H i := by
  obtain ⟨c, h1, h2⟩ := h
  by_cases e : b = i
  · subst e; exact hb
  · rw [List.getElem?_set_ne e] at h1; exact ⟨c, h1, h2⟩

/-- a block of one's own is written -/
theorem write_block {b r : Nat} {bl bl' : Blk} {w' : World} (hH : HRel m I O w ρ H) (hb : H[b]? = some bl) (hl : bl ≠ .dead) (hr : ρ b = some r) (hO : O r) (hother : ∀ k, k ≠ r → w'.heap[k]? = w.heap[k]?) (hsize : w'.heap.size = w.heap.size)
    (h1 : w'.os = w.os) (h2 : w'.tape = w.tape) (h3 : w'.output = w.output) (hs : ∀ n, sizeOf? w r = some n → sizeOf? w' r = some n) (hnew : Mono I w ρ I w' ρ → BRel m I O w' ρ r bl') :
    HRel m I O w' ρ (H.set b bl') ∧ EG H.length I O w ρ O w' ρ := by
  have hI : ∀ k, I k → k ≠ r := fun k hk e => hH.dis k hk (e ▸ hO)
  have hc : ∀ k n, sizeOf? w k = some n → sizeOf? w' k = some n := fun k n hn => by
    by_cases e : k = r
    · subst e; exact hs n hn
    · unfold sizeOf? at *; rw [hother k e]; exact hn
  have hm : Mono I w ρ I w' ρ := ⟨fun _ h => h, fun _ _ h => h, fun k hk => hother k (hI k hk), hc⟩
  have hlb : live H b := ⟨bl, hb, hl⟩
  have hblt : b < H.length := (List.getElem?_eq_some_iff.1 hb).1
  refine ⟨⟨fun i j s hi hj li lj => hH.inj i j s hi hj (live_set li hlb) (live_set lj hlb), fun i s hi => ?_, fun i s hi => ?_, fun k hk => ?_, fun k hk => ?_, hH.dis⟩, hm, ⟨h1, h2, h3, by rw [hsize]; exact Nat.le_refl _, fun k _ hk => hother k (fun e => hk (e ▸ hO)), hc⟩, fun _ h => h, fun _ h => .inl h, fun _ _ h => .inl h⟩
  · by_cases e : i = b
    · subst e
      rw [hr] at hi; injection hi with hi; subst hi
      exact ⟨bl', by rw [List.getElem?_set_self hblt], hnew hm⟩
    · obtain ⟨b', g1, g2⟩ := hH.blk i s hi
      refine ⟨b', by rw [List.getElem?_set_ne (Ne.symm e)]; exact g1, ?_⟩
      by_cases hd : b' = .dead
      · subst hd; exact trivial
      · refine g2.mono hm (fun _ h => h) (hother s (fun es => ?_))
        subst es
        exact e (hH.inj i b s hi hr ⟨b', g1, hd⟩ hlb)
  · rw [hsize]; exact hH.lt i s hi
  · rw [hsize]; exact hH.own k hk
  · rw [hsize]; exact hH.imm k hk

theorem BRel.crel {r : Nat} {ro : Bool} {c : C} (h : BRel m I O w ρ r (.cells ro c)) : ∃ cs e fr, w.heap[r]? = some (.cells cs e fr) ∧ (∀ o, w.frozen? ⟨r, o, none⟩ = false) ∧ c.len ≤ cs.size ∧ CRel m I w ρ c (cs.toList.take c.len) := by
  obtain ⟨cs, e, fr, h1, h2, h3, h4, h5, _⟩ := h
  refine ⟨cs, e, fr, h1, h2, h3, by simp; omega, h4, fun j v x hv hx => h5 j v x hv ?_⟩
  rw [List.getElem?_take, if_pos (C.get_lt hv)] at hx
  simpa using hx

/-- cells of one's own written over: the content behind it -/
theorem write_cells {b r o : Nat} {c d c' : C} {ys : List Value} (hH : HRel m I O w ρ H) (hb : H[b]? = some (.cells false c)) (hr : ρ b = some r) (hp : c.put o d = some c') (hd : CRel m I w ρ d ys) :
    HRel m I O (w.setCells r o ys) ρ (H.set b (.cells false c')) ∧ EG H.length I O w ρ O (w.setCells r o ys) ρ ∧ (∀ j, j < ys.length → (w.cell? ⟨r, o + j, none⟩).isSome = true) ∧ (∀ j, w.frozen? ⟨r, j, none⟩ = false) := by
  have hB := hH.at hb hr
  obtain ⟨cs, e, fr, g1, g2, g3, g4⟩ := hB.crel
  have hO : O r := by
    obtain ⟨_, _, _, _, _, _, _, _, h, _⟩ := hB
    exact h rfl
  obtain ⟨cs', k1, k2, k3⟩ := setCells_same r ys o w cs e fr g1
  obtain ⟨s1, s2, s3, s4, s5⟩ := setCells_other r ys o w
  obtain ⟨hcr, hle⟩ := g4.put hp hd
  obtain ⟨_, hlen, _, _⟩ := C.get_put hp
  have hle' : o + ys.length ≤ c.len := by rw [← g4.1]; exact hle
  obtain ⟨q1, q2⟩ := write_block (bl' := .cells false c') hH hb (by simp) hr hO s1 s2 s3 s4 s5 (fun n hn => by
      simp only [sizeOf?, g1, Option.some.injEq] at hn
      simp only [sizeOf?, k1, k2, hn]) (fun hm => by
      refine ⟨cs', e, fr, k1, fun j => ?_, by rw [k2, hlen]; exact g3, hcr.2.1, fun j v x hv hx => ?_, fun _ => hO, fun e => by cases e⟩
      · rw [World.frozen?_setCells]; exact g2 j
      · refine hm.relC (hcr.2.2 j v x hv ?_)
        have hj : j < c.len := by rw [← hlen]; exact C.get_lt hv
        rw [get_put_list _ ys o j hle]
        rw [k3] at hx
        by_cases h1 : j < o
        · rw [if_pos h1] at hx ⊢
          rw [List.getElem?_take, if_pos hj]; simpa using hx
        · by_cases h2 : j < o + ys.length
          · rw [if_neg h1, if_pos h2, if_pos (by omega)] at hx
            rw [if_neg h1, if_pos h2]; exact hx
          · rw [if_neg h1, if_neg h2] at hx
            rw [if_neg h1, if_neg h2, List.getElem?_take, if_pos hj]; simpa using hx)
  refine ⟨q1, q2, fun j hj => ?_, g2⟩
  rw [cell?_of g1]
  rw [Array.getElem?_eq_getElem (show o + j < cs.size by omega)]; rfl

theorem oneCell_of (hv : v.isCell = true) (hx : RelV m I w ρ v x) : x.oneCell' = true := by
  cases hx <;> first | rfl | simp [V.isCell] at hv
theorem CRel.oneCell {c : C} {xs : List Value} (h : CRel m I w ρ c xs) : ∀ x ∈ xs, x.oneCell' = true := by
  intro x hx
  obtain ⟨j, hj, rfl⟩ := List.mem_iff_getElem.1 hx
  obtain ⟨v, hv⟩ := C.get_some (c := c) (j := j) (by rw [← h.1]; exact hj)
  exact oneCell_of (h.2.1 j v hv) (h.2.2 j v _ hv (List.getElem?_eq_getElem hj))

theorem C.set_put {c c' : C} {o : Nat} {u : V} (h : c.set o u = some c') (hu : u.isCell = true) : c.put o (C.one u) = some c' ∨ ∃ l, c = .imm l ∧ u.idf = true ∧ o < l.length ∧ c' = .imm (l.set o u) := by
  have setl : ∀ {α : Type} (l : List α) (o : Nat) (a : α), o < l.length → l.set o a = l.take o ++ [a] ++ l.drop (o + 1) := by
    intro α l o a ho
    rw [List.set_eq_take_append_cons_drop, if_pos ho]
    simp
  cases c with
  | ints k l =>
    cases u <;> simp only [C.set] at h <;> try (cases h; done)
    split at h <;> try (cases h; done)
    rename_i hc
    obtain ⟨rfl, hc⟩ := hc
    injection h with h; subst h
    left
    simp only [C.one, C.put, List.length_singleton]
    rw [if_pos ⟨trivial, by omega⟩, setl _ _ _ hc]
  | vals l =>
    simp only [C.set] at h
    split at h <;> try (cases h; done)
    rename_i hc
    injection h with h; subst h
    left
    have h1 : (C.one u).len = 1 := by cases u <;> first | rfl | simp [V.isCell] at hu
    have h2 : (C.one u).toL = [u] := by cases u <;> rfl
    simp only [C.put]
    rw [h1, h2, if_pos (by omega), setl _ _ _ hc.1]
  | imm l =>
    simp only [C.set] at h
    split at h <;> try (cases h; done)
    rename_i hc
    injection h with h; subst h
    exact .inr ⟨l, rfl, hc.2.2, hc.1, rfl⟩
end Go.Proofs.YtgjbkgajkcgdfaaE
