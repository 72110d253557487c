/- The machine's runs that the operations need. -/
import Derived.Test.YtgjbkgajkcgdfaaEvR
import Derived.Laws.Slices
import Derived.Laws.CopyRow
namespace Go.Proofs.YtgjbkgajkcgdfaaE
open Go
set_option linter.unusedSimpArgs false
set_option linter.unusedVariables false
variable {P : Program} {w : World}

theorem run_und {t : TypeId} {d : TypeDesc} (h : P.underlying t = some d) (w : World) : (underlying t).run P w = .ok d w := by
  simp [underlying, program, h, Sem.run, pure, bind, Sem.bind]
theorem run_tinfo {t : TypeId} {i : TypeInfo} (h : P.info? t = some i) (w : World) : (typeInfo t).run P w = .ok i w := by
  simp [typeInfo, program, h, Sem.run, pure, bind, Sem.bind]
theorem run_sz {t : TypeId} {i : TypeInfo} (h : P.info? t = some i) (w : World) : (sizeOf t).run P w = .ok i.size w := by
  simp [sizeOf, run_tinfo h, Sem.run]
theorem run_zero {t : TypeId} {i : TypeInfo} {z : Value} (h : P.info? t = some i) (hz : i.zero = some z) (w : World) : (zeroValue t).run P w = .ok z w := by
  simp [zeroValue, run_tinfo h, hz, Sem.run]
def isAggD : TypeDesc → Bool
  | .struct _ | .array _ _ => true
  | _ => false
theorem run_isAgg {t : TypeId} {d : TypeDesc} (h : P.underlying t = some d) (w : World) : (isAgg t).run P w = .ok (isAggD d) w := by
  cases d <;> simp [isAgg, run_und h, isAggD, Sem.run]
theorem add_mk (r o n : Nat) : (⟨r, o, none⟩ : Addr).add n = ⟨r, o + n, none⟩ := by unfold Addr.add; split <;> simp_all

theorem run_loadCellsFrom {r o : Nat} : ∀ (n i : Nat) (acc cs : List Value), cs.length = n → (∀ (j : Nat) (x : Value), cs[j]? = some x → w.cell? ⟨r, o + i + j, none⟩ = some x) →
    (loadCellsFrom ⟨r, o, none⟩ i n acc.toArray).run P w = .ok (acc ++ cs).toArray w
  | 0, i, acc, cs, hl, _ => by
    obtain rfl : cs = [] := List.length_eq_zero_iff.1 hl
    simp [loadCellsFrom, Sem.run, pure]
  | n + 1, i, acc, [], hl, _ => by simp at hl
  | n + 1, i, acc, x :: cs, hl, h => by
    have h0 : w.cell? ⟨r, o + i, none⟩ = some x := by simpa using h 0 x rfl
    have ih := run_loadCellsFrom n (i + 1) (acc ++ [x]) cs (by simpa using hl) (fun j y hj => by
      have := h (j + 1) y (by simpa using hj)
      rwa [show o + i + (j + 1) = o + (i + 1) + j by omega] at this)
    have hp : acc.toArray.push x = (acc ++ [x]).toArray := by simp
    simp only [loadCellsFrom, Sem.run_bind, add_mk, load, Sem.run, h0, Result.andThen_ok, hp, ih]
    simp
theorem run_loadCells {r o : Nat} {cs : List Value} (h : ∀ (j : Nat) (x : Value), cs[j]? = some x → w.cell? ⟨r, o + j, none⟩ = some x) :
    (loadCells ⟨r, o, none⟩ cs.length).run P w = .ok cs.toArray w := by
  have := run_loadCellsFrom (P := P) (w := w) (r := r) (o := o) cs.length 0 [] cs rfl (by simpa using h)
  simpa [loadCells] using this

theorem range_at {n j k : Nat} (h : (List.range n)[j]? = some k) : j < n ∧ j = k := by
  obtain ⟨h1, h2⟩ := List.getElem?_eq_some_iff.1 h
  simp at h1 h2
  exact ⟨h1, h2⟩
/-- cells read one by one, out of a content -/
theorem cells_of {m : Nat → Option Nat} {I : Nat → Prop} {ρ : Pl} {c : C} {r o : Nat} (h : ∀ j v, c.get j = some v → ∃ x, w.cell? ⟨r, o + j, none⟩ = some x ∧ RelV m I w (plC c ρ) v x) :
    ∃ cs : List Value, cs.length = c.len ∧ (∀ (j : Nat) (x : Value), cs[j]? = some x → w.cell? ⟨r, o + j, none⟩ = some x) ∧
      (∀ (j : Nat) (v : V) (x : Value), c.get j = some v → cs[j]? = some x → RelV m I w (plC c ρ) v x) := by
  refine ⟨(List.range c.len).map fun j => (w.cell? ⟨r, o + j, none⟩).getD undef, by simp, fun j x hj => ?_, fun j v x hv hj => ?_⟩
  · simp only [List.getElem?_map, Option.map_eq_some_iff] at hj
    obtain ⟨j', hj', hx⟩ := hj
    obtain ⟨hlt, rfl⟩ := range_at hj'
    obtain ⟨v, hv⟩ := C.get_some hlt
    obtain ⟨y, hy, _⟩ := h _ v hv
    rw [hy] at hx ⊢
    simp at hx; rw [hx]
  · simp only [List.getElem?_map, Option.map_eq_some_iff] at hj
    obtain ⟨j', hj', hx⟩ := hj
    obtain ⟨hlt, rfl⟩ := range_at hj'
    obtain ⟨y, hy, hr⟩ := h _ v hv
    rw [hy] at hx
    simp at hx; rwa [← hx]

theorem cell?_of {w : World} {r : Nat} {cs : Array Value} {e : TypeId} {fr : Nat × Nat} (h : w.heap[r]? = some (.cells cs e fr)) (j : Nat) : w.cell? ⟨r, j, none⟩ = cs[j]? := by
  unfold World.cell?; simp [h]
theorem BRel.cell {m : Nat → Option Nat} {I O : Nat → Prop} {ρ : Pl} {r : Nat} {ro : Bool} {c : C} (h : BRel m I O w ρ r (.cells ro c)) {j : Nat} {v : V} (hv : c.get j = some v) :
    v.isCell = true ∧ ∃ x, w.cell? ⟨r, j, none⟩ = some x ∧ RelV m I w (plC c ρ) v x := by
  obtain ⟨cs, e, fr, h1, _, h3, h4, h5, _⟩ := h
  have hlt : j < cs.size := Nat.lt_of_lt_of_le (C.get_lt hv) h3
  refine ⟨h4 j v hv, cs[j], ?_, h5 j v _ hv (Array.getElem?_eq_getElem hlt)⟩
  rw [cell?_of h1, Array.getElem?_eq_getElem hlt]
theorem HRel.at {m : Nat → Option Nat} {I O : Nat → Prop} {ρ : Pl} {H : List Blk} (h : HRel m I O w ρ H) {b r : Nat} {bl : Blk} (hb : H[b]? = some bl) (hr : ρ b = some r) : BRel m I O w ρ r bl := by
  obtain ⟨b', h1, h2⟩ := h.blk b r hr
  rw [hb] at h1
  injection h1 with h1
  rwa [h1]
theorem plC_to {m : Nat → Option Nat} {I : Nat → Prop} {ρ : Pl} {c : C} {v : V} {x : Value} (h : RelV m I w (plC c ρ) v x) : RelV m I w ρ v x := by
  unfold plC at h
  split at h
  · exact h.mono (fun _ h => h) (fun _ _ => rfl) (fun _ _ h => h) ρ (fun i r hi => by cases hi)
  · exact h
theorem noPl_to {m : Nat → Option Nat} {I : Nat → Prop} {ρ : Pl} {v : V} {x : Value} (h : RelV m I w noPl v x) : RelV m I w ρ v x :=
  h.mono (fun _ h => h) (fun _ _ => rfl) (fun _ _ h => h) ρ (fun i r hi => by cases hi)

/-- a content as an array, once its cells are known -/
theorem rel_asAgg {m : Nat → Option Nat} {I : Nat → Prop} {ρ : Pl} {k : Option IntKind} {c : C} {v : V} {cs : Array Value} (h : asAgg k c = some v) (hs : cs.size = c.len)
    (hc : ∀ j v, c.get j = some v → v.isCell = true) (hf : ∀ (j : Nat) (v : V) (x : Value), c.get j = some v → cs[j]? = some x → RelV m I w (plC c ρ) v x) : RelV m I w ρ v (.agg cs) := by
  have ints : ∀ (k : IntKind) (vs : List V) (l : List Int), C.toInts k vs = some l → vs = l.map (V.int k) := by
    intro k vs
    induction vs with
    | nil => intro l h; simp [C.toInts] at h; subst h; rfl
    | cons a vs ih =>
      intro l h
      cases a <;> simp only [C.toInts] at h <;> try (cases h)
      split at h
      · rename_i e; subst e
        simp only [Option.map_eq_some_iff] at h
        obtain ⟨l', h1, h2⟩ := h
        subst h2
        rw [ih l' h1]; rfl
      · cases h
  unfold asAgg at h
  split at h
  · injection h with h; subst h; exact .agg _ _ _ hs hc hf
  · split at h
    · rename_i k' l
      split at h
      · rename_i e; injection h with h; subst h; subst e; exact .agg _ _ _ hs hc hf
      · cases h
    · rename_i kk c2 hne
      simp only [Option.map_eq_some_iff] at h
      obtain ⟨l, h1, h2⟩ := h
      subst h2
      have he := ints _ _ _ h1
      have hg : ∀ j, (C.ints kk l).get j = c.get j := fun j => by rw [← C.get_toL c, he]; simp [C.get]
      refine .agg _ _ _ ?_ (fun j v hv => hc j v (by rw [← hg]; exact hv)) (fun j v x hv hx => ?_)
      · rw [hs, ← C.len_toL c, he]; simp [C.len]
      · have := hf j v x (by rw [← hg]; exact hv) hx
        exact plC_to this

end Go.Proofs.YtgjbkgajkcgdfaaE
