/- What a slice, or a text, has; bytes as text. -/
import Derived.Test.YtgjbkgajkcgdfaaEvS5
import Derived.Laws.BytesString
import Derived.Laws.BytesArg
import Derived.Laws.Append
namespace Go.Proofs.YtgjbkgajkcgdfaaE
open Go
set_option linter.unusedSimpArgs false
set_option linter.unusedVariables false
variable {P : Program} {w : World} {m : Nat → Option Nat} {I O : Nat → Prop} {ρ : Pl} {H Hb : List Blk} {p q v : V} {x y : Value} {news : List Blk}

/-- the machine's cells of a content -/
def CRel (m : Nat → Option Nat) (I : Nat → Prop) (w : World) (ρ : Pl) (c : C) (xs : List Value) : Prop :=
  xs.length = c.len ∧ (∀ j v, c.get j = some v → v.isCell = true) ∧ (∀ (j : Nat) (v : V) (x : Value), c.get j = some v → xs[j]? = some x → RelV m I w (plC c ρ) v x)

theorem src_sl (hp : ∀ (i : Nat) (b : Blk), H[i]? = some b → Hb[i]? = some b) (hH : HRel m I O w ρ Hb) {sz n : Nat} {c : C} (h : src H sz p = some (n, c)) (hx : RelV m I w ρ p x) (hs : ∀ s, p ≠ .str s) :
    c.len = n * sz ∧ ∃ A rc xs, x = .slice A n rc ∧ n ≤ rc ∧ CRel m I w ρ c xs ∧ (c.len = 0 ∨ ∃ r o, A = some ⟨r, o, none⟩ ∧ ∀ (j : Nat) (y : Value), xs[j]? = some y → w.cell? ⟨r, o + j, none⟩ = some y) := by
  cases hx <;> simp only [src] at h <;> try (cases h; done)
  · exact absurd rfl (hs _)
  · simp only [Option.some.injEq, Prod.mk.injEq] at h
    obtain ⟨rfl, rfl⟩ := h
    exact ⟨by simp [C.len], none, 0, [], rfl, Nat.le_refl _, ⟨rfl, fun j v h => by simp [C.get] at h, fun j v x h => by simp [C.get] at h⟩, .inl rfl⟩
  · rename_i A
    simp only [Option.some.injEq, Prod.mk.injEq] at h
    obtain ⟨rfl, rfl⟩ := h
    exact ⟨by simp [C.len], A, 0, [], rfl, Nat.le_refl _, ⟨rfl, fun j v h => by simp [C.get] at h, fun j v x h => by simp [C.get] at h⟩, .inl rfl⟩
  · rename_i b off sz' cap A hc
    split at h <;> try (cases h; done)
    split at h <;> try (cases h; done)
    rename_i ro c' hb hle
    simp only [Option.some.injEq, Prod.mk.injEq] at h
    obtain ⟨rfl, rfl⟩ := h
    have hl : (c'.sub off (0 * sz)).len = 0 := by rw [C.len_sub hle]; simp
    refine ⟨by rw [hl]; simp, A, 0, [], rfl, Nat.le_refl _, ⟨by rw [hl]; rfl, fun j v h => ?_, fun j v x h => ?_⟩, .inl hl⟩
    · have := C.get_lt h; omega
    · have := C.get_lt h; omega
  · rename_i b off len sz' cap r rc n' hh2 hh3 hh4 hh5 hh1
    split at h <;> try (cases h; done)
    split at h <;> try (cases h; done)
    rename_i ro c' hb hle
    simp only [Option.some.injEq, Prod.mk.injEq] at h
    obtain ⟨rfl, rfl⟩ := h
    have hB := hH.at (hp _ _ hb) hh1
    obtain ⟨xs, h1, h2, h3⟩ := cells_of (m := m) (I := I) (w := w) (ρ := ρ) (c := c'.sub off (len * sz)) (r := r) (o := off) (fun j v hv => by
      obtain ⟨hj, hg⟩ := C.get_sub hv
      obtain ⟨_, z, hz, hr⟩ := hB.cell hg
      exact ⟨z, hz, by rw [plC_sub]; exact hr⟩)
    exact ⟨C.len_sub hle, _, rc, xs, rfl, hh2, ⟨h1, fun j v hv => (hB.cell (C.get_sub hv).2).1, h3⟩, .inr ⟨r, off, rfl, h2⟩⟩
  · rename_i len c' A rc f hle hcc hf
    split at h <;> try (cases h; done)
    rename_i hcl
    simp only [Option.some.injEq, Prod.mk.injEq] at h
    obtain ⟨rfl, rfl⟩ := h
    by_cases h0 : c'.len = 0
    · refine ⟨hcl, A, rc, [], rfl, hle, ⟨by simp [h0], fun j v hv => ?_, fun j v x hv => ?_⟩, .inl h0⟩
      · have := C.get_lt hv; omega
      · have := C.get_lt hv; omega
    · obtain ⟨v0, hv0⟩ := C.get_some (c := c') (j := 0) (by omega)
      obtain ⟨_, r, o, hA, hI, _⟩ := hcc _ _ hv0
      subst hA
      have key : ∀ j v, c'.get j = some v → v.isCell = true ∧ w.cell? ⟨r, o + j, none⟩ = some (f j) := fun j v hv => by
        obtain ⟨h1, r', o', hA', _, h2⟩ := hcc _ _ hv
        simp only [Option.some.injEq, Addr.mk.injEq, and_true] at hA'
        obtain ⟨rfl, rfl⟩ := hA'
        exact ⟨h1, h2⟩
      obtain ⟨xs, h1, h2, h3⟩ := cells_of (m := m) (I := I) (w := w) (ρ := ρ) (c := c') (r := r) (o := o) (fun j v hv => ⟨f j, (key j v hv).2, (hf j v hv).mono (fun _ h => h) (fun _ _ => rfl) (fun _ _ h => h) _ (fun i r hi => by cases hi)⟩)
      exact ⟨hcl, _, rc, xs, rfl, hle, ⟨h1, fun j v hv => (key j v hv).1, h3⟩, .inr ⟨r, o, rfl, h2⟩⟩

theorem run_firstCells {A : Option Addr} {n rc sz : Nat} {xs : List Value} (hl : xs.length = n * sz) (h : xs.length = 0 ∨ ∃ r o, A = some ⟨r, o, none⟩ ∧ ∀ (j : Nat) (y : Value), xs[j]? = some y → w.cell? ⟨r, o + j, none⟩ = some y) :
    (Builtin.firstCells sz n (.slice A n rc)).run P w = .ok xs.toArray w := by
  rcases h with h | ⟨r, o, rfl, h⟩
  · obtain rfl : xs = [] := List.length_eq_zero_iff.1 h
    cases A
    · rfl
    · rename_i a
      have : n * sz = 0 := by rw [← hl]; rfl
      simp only [Builtin.firstCells, this]; rfl
  · simp only [Builtin.firstCells, ← hl]
    exact run_loadCells h

/-- of a slice, or a text, that is appended, or copied: how many elements, and their cells -/
theorem src_any (hp : ∀ (i : Nat) (b : Blk), H[i]? = some b → Hb[i]? = some b) (hH : HRel m I O w ρ Hb) {sz n : Nat} {c : C} (h : src H sz p = some (n, c)) (hx : RelV m I w ρ p x) :
    c.len = n * sz ∧ ∃ xs, CRel m I w ρ c xs ∧ (∀ (P : Program) (w : World), (Builtin.lenOf x).run P w = .ok n w) ∧ (∀ (P : Program) (w2 : World), w2.heap = w.heap → (Builtin.firstCells sz n x).run P w2 = .ok xs.toArray w2) ∧ (∀ k z, x ≠ .int k z) ∧
      (∀ (P : Program) (k : Nat), k ≤ n → (Builtin.firstCells sz k x).run P w = .ok (xs.take (k * sz)).toArray w) := by
  by_cases hs : ∃ s, p = .str s
  · obtain ⟨s, rfl⟩ := hs
    cases hx
    simp only [src] at h
    split at h <;> try (cases h; done)
    rename_i h1
    subst h1
    simp only [Option.some.injEq, Prod.mk.injEq] at h
    obtain ⟨rfl, rfl⟩ := h
    refine ⟨by simp [C.len], s.map fun b => .int .u8 (b.toNat : Int), ⟨by simp [C.len], fun j v hv => ?_, fun j v x hv hx => ?_⟩, fun P w => ?_, fun P w2 hw2 => ?_, by simp, fun P k hk => ?_⟩
    · simp only [C.get, Option.map_eq_some_iff] at hv
      obtain ⟨n, _, rfl⟩ := hv; rfl
    · simp only [C.get, List.getElem?_map, Option.map_eq_some_iff] at hv hx
      obtain ⟨n, ⟨b, hb, rfl⟩, rfl⟩ := hv
      obtain ⟨b', hb', rfl⟩ := hx
      rw [hb] at hb'; injection hb' with hb'; subst hb'
      exact .int _ _ _
    · simp [Builtin.lenOf, size_mk, pure, Sem.run]
    · have : (⟨s.toArray⟩ : ByteArray).extract 0 s.length = ⟨s.toArray⟩ := by
        apply ByteArray.ext
        apply Array.ext'
        simp [ByteArray.data_extract, Array.toList_extract, List.extract]
      simp [Builtin.firstCells, this, pure, Sem.run]
    · have : ((⟨s.toArray⟩ : ByteArray).extract 0 k).data = (s.take k).toArray := by
        apply Array.ext'
        simp [ByteArray.data_extract, Array.toList_extract, List.extract]
      simp [Builtin.firstCells, this, pure, Sem.run, List.map_take]
  · obtain ⟨h1, A, rc, xs, rfl, h2, h3, h4⟩ := src_sl hp hH h hx (fun s e => hs ⟨s, e⟩)
    refine ⟨h1, xs, h3, fun P w => rfl, fun P w2 hw2 => run_firstCells (by rw [h3.1, h1]) ?_, by simp, fun P k hk => ?_⟩
    · have hc : ∀ a, w2.cell? a = w.cell? a := fun a => by unfold World.cell?; rw [hw2]
      rw [h3.1]
      rcases h4 with h4 | ⟨r, o, e, h4⟩
      · exact .inl h4
      · exact .inr ⟨r, o, e, fun j y hy => by rw [hc]; exact h4 j y hy⟩
    · have hkl : (xs.take (k * sz)).length = k * sz := by
        have : k * sz ≤ n * sz := Nat.mul_le_mul_right _ hk
        rw [List.length_take, h3.1, h1]; omega
      have hfc : Builtin.firstCells sz k (.slice A n rc) = Builtin.firstCells sz k (.slice A k rc) := by cases A <;> rfl
      rw [hfc]
      refine run_firstCells hkl ?_
      rcases h4 with h4 | ⟨r, o, e, h4⟩
      · left; rw [List.length_take, h3.1, h4]; omega
      · right
        refine ⟨r, o, e, fun j y hy => h4 j y ?_⟩
        rw [List.getElem?_take] at hy
        split at hy
        · exact hy
        · cases hy

theorem sound_b2s {s d e : TypeId} (hs : P.underlying s = some (.slice e)) (he : P.underlying e = some (.int .u8)) (hd : P.underlying d = some .string) (hp : ∀ (i : Nat) (b : Blk), H[i]? = some b → Hb[i]? = some b) (hH : HRel m I O w ρ Hb)
    (hx : RelV m I w ρ p x) (h : evQ (.b2s (.c p)) [] H = some (v, news)) : news = [] ∧ ∃ z, (convert s d x).run P w = .ok z w ∧ RelV m I w ρ v z := by
  simp only [evQ, R.ev] at h
  split at h <;> try (cases h; done)
  rename_i hst
  have hns : ∀ s, p ≠ .str s := fun s e => by subst e; simp [isStr] at hst
  have conv : ∀ A n rc, (convert s d (.slice A n rc)).run P w = (Conv.bytesToString (.slice A n rc)).run P w := fun A n rc => by
    simp [convert, run_und hs, run_und hd, run_und he]
  split at h <;> try (cases h; done)
  · rename_i n l hsrc
    simp only [Option.some.injEq, Prod.mk.injEq] at h
    obtain ⟨rfl, rfl⟩ := h
    obtain ⟨h1, A, rc, xs, rfl, h2, ⟨h3, h4, h5⟩, h6⟩ := src_sl hp hH hsrc hx hns
    have hxs : xs = l.map (Value.int .u8) := by
      apply List.ext_getElem?
      intro j
      by_cases hj : j < l.length
      · have hj' : j < xs.length := by rw [h3]; exact hj
        have := h5 j (.int .u8 l[j]) xs[j] (by simp [C.get, hj]) (List.getElem?_eq_getElem hj')
        rw [List.getElem?_eq_getElem hj', List.getElem?_map, List.getElem?_eq_getElem hj]
        generalize xs[j] = z at this
        cases this; rfl
      · rw [List.getElem?_eq_none (by rw [h3]; simpa [C.len] using hj), List.getElem?_eq_none (by simpa using hj)]
    refine ⟨rfl, .string ⟨(l.map fun n => UInt8.ofNat n.toNat).toArray⟩, ?_, .str _ _⟩
    rw [conv]
    have hn : n = l.length := by simp [C.len] at h1; omega
    subst hn
    rcases h6 with h6 | ⟨r, o, rfl, h6⟩
    · have : l = [] := List.length_eq_zero_iff.1 (by simpa [C.len] using h6)
      subst this
      cases A
      · rfl
      · simp only [Conv.bytesToString, List.length_nil]; rfl
    · have hlc := run_loadCells (P := P) h6
      rw [hxs] at hlc
      rw [List.length_map] at hlc
      rw [run_bytesToString (P := P) w ⟨r, o, none⟩ l.length rc l hlc, foldl_push_bytes]
      simp [ByteArray.empty, ByteArray.emptyWithCapacity]
      rfl
  · rename_i n hsrc
    simp only [Option.some.injEq, Prod.mk.injEq] at h
    obtain ⟨rfl, rfl⟩ := h
    obtain ⟨h1, A, rc, xs, rfl, h2, _, _⟩ := src_sl hp hH hsrc hx hns
    have hn : n = 0 := by simp [C.len] at h1; omega
    subst hn
    refine ⟨rfl, .string ⟨([] : List UInt8).toArray⟩, ?_, .str _ _⟩
    rw [conv]
    cases A
    · rfl
    · simp only [Conv.bytesToString]; rfl
end Go.Proofs.YtgjbkgajkcgdfaaE
