/- Loads, addresses, parts, slicing. -/
import Derived.Test.YtgjbkgajkcgdfaaEvS3
namespace Go.Proofs.YtgjbkgajkcgdfaaE
open Go
set_option linter.unusedSimpArgs false
set_option linter.unusedVariables false
variable {P : Program} {w : World} {m : Nat → Option Nat} {I O : Nat → Prop} {ρ : Pl} {H Hb : List Blk} {p q v : V} {x y : Value} {news : List Blk}

/-- the cells behind a pointer -/
theorem ptr_cell (hp : ∀ (i : Nat) (b : Blk), H[i]? = some b → Hb[i]? = some b) (hH : HRel m I O w ρ Hb) {b r o : Nat} {ro : Bool} {c : C} {v : V} (hr : ρ b = some r) (hb : H[b]? = some (.cells ro c)) (hv : c.get o = some v) :
    v.isCell = true ∧ ∃ x, w.cell? ⟨r, o, none⟩ = some x ∧ RelV m I w (plC c ρ) v x := (hH.at (hp _ _ hb) hr).cell hv

theorem run_load {a : Addr} {z : Value} (h : w.cell? a = some z) : (load a).run P w = .ok z w := by simp only [load, Sem.run]; rw [h]
theorem run_loadVar_cell {t : TypeId} {d : TypeDesc} {a : Addr} {z : Value} (hd : P.underlying t = some d) (ha : isAggD d = false) (h : w.cell? a = some z) : (loadVar t a).run P w = .ok z w := by
  rw [loadVar, Sem.run_bind, run_isAgg hd, Result.andThen_ok, ha]
  simp only [Bool.false_eq_true, if_false]
  exact run_load h
theorem run_loadVar_agg {t : TypeId} {d : TypeDesc} {i : TypeInfo} {r o : Nat} {cs : List Value} (hd : P.underlying t = some d) (ha : isAggD d = true) (hi : P.info? t = some i) (hs : cs.length = i.size)
    (h : ∀ (j : Nat) (x : Value), cs[j]? = some x → w.cell? ⟨r, o + j, none⟩ = some x) : (loadVar t ⟨r, o, none⟩).run P w = .ok (.agg cs.toArray) w := by
  have := run_loadCells (P := P) h
  simp [loadVar, run_isAgg hd, ha, run_sz hi, ← hs, this, pure, Sem.run]

theorem sound_ldc {t : TypeId} {d : TypeDesc} (hd : P.underlying t = some d) (ha : isAggD d = false) (hp : ∀ (i : Nat) (b : Blk), H[i]? = some b → Hb[i]? = some b) (hH : HRel m I O w ρ Hb)
    (hx : RelV m I w ρ p x) (h : evQ (.ldc (.c p)) [] H = some (v, news)) : news = [] ∧ ∃ z, (Instr.loadAt t x).run P w = .ok z w ∧ RelV m I w ρ v z := by
  simp only [evQ, R.ev] at h
  cases hx <;> simp only [] at h <;> try (cases h; done)
  · rename_i b o r hr
    split at h
    · rename_i ro c hb
      simp only [Option.map_eq_some_iff, Prod.mk.injEq] at h
      obtain ⟨v', hv, rfl, rfl⟩ := h
      obtain ⟨_, z, hz, hrel⟩ := ptr_cell hp hH hr hb hv
      exact ⟨rfl, z, by simp [Instr.loadAt, Instr.sureAddr, run_loadVar_cell hd ha hz], plC_to hrel⟩
    · cases h
  · rename_i c r o f hI hc hf
    simp only [Option.map_eq_some_iff, Prod.mk.injEq] at h
    obtain ⟨v', hv, rfl, rfl⟩ := h
    have h1 := (hc 0 _ hv).2
    exact ⟨rfl, f 0, by simp [Instr.loadAt, Instr.sureAddr, run_loadVar_cell hd ha (show w.cell? ⟨r, o, none⟩ = some (f 0) by simpa using h1)], noPl_to (hf 0 _ hv)⟩

theorem part_agg {k : Option IntKind} {c : C} {o n : Nat} (h : partC o n true k c = some v) {r o' : Nat}
    (hc : ∀ j v, c.get j = some v → v.isCell = true ∧ ∃ x, w.cell? ⟨r, o' + j, none⟩ = some x ∧ RelV m I w (plC c ρ) v x) :
    ∃ cs : List Value, cs.length = n ∧ (∀ (j : Nat) (x : Value), cs[j]? = some x → w.cell? ⟨r, o' + o + j, none⟩ = some x) ∧ RelV m I w ρ v (.agg cs.toArray) := by
  simp only [partC, if_true] at h
  split at h
  · rename_i hle
    obtain ⟨cs, h1, h2, h3⟩ := cells_of (m := m) (I := I) (w := w) (ρ := ρ) (c := c.sub o n) (r := r) (o := o' + o) (fun j v hv => by
      obtain ⟨hj, hg⟩ := C.get_sub hv
      obtain ⟨_, z, hz, hr⟩ := hc _ _ hg
      exact ⟨z, by rw [Nat.add_assoc]; exact hz, by rw [plC_sub]; exact hr⟩)
    rw [C.len_sub hle] at h1
    refine ⟨cs, h1, h2, rel_asAgg h (by simp [h1, C.len_sub hle]) (fun j v hv => (hc _ _ (C.get_sub hv).2).1) (fun j v x hv hx => h3 j v x hv (by simpa using hx))⟩
  · cases h

theorem sound_lda {t : TypeId} {d : TypeDesc} {i : TypeInfo} {k : Option IntKind} (hd : P.underlying t = some d) (ha : isAggD d = true) (hi : P.info? t = some i)
    (hp : ∀ (i : Nat) (b : Blk), H[i]? = some b → Hb[i]? = some b) (hH : HRel m I O w ρ Hb)
    (hx : RelV m I w ρ p x) (h : evQ (.lda i.size k (.c p)) [] H = some (v, news)) : news = [] ∧ ∃ z, (Instr.loadAt t x).run P w = .ok z w ∧ RelV m I w ρ v z := by
  simp only [evQ, R.ev] at h
  cases hx <;> simp only [] at h <;> try (cases h; done)
  · rename_i b o r hr
    split at h
    · rename_i ro c hb
      simp only [Option.map_eq_some_iff, Prod.mk.injEq] at h
      obtain ⟨v', hv, rfl, rfl⟩ := h
      obtain ⟨cs, h1, h2, h3⟩ := part_agg (w := w) (m := m) (I := I) (ρ := ρ) (r := r) (o' := 0) hv (fun j v hj => by simpa using ptr_cell hp hH hr hb hj)
      exact ⟨rfl, _, by simp [Instr.loadAt, Instr.sureAddr]; exact run_loadVar_agg hd ha hi h1 (by simpa using h2), h3⟩
    · cases h
  · rename_i c r o f hI hc hf
    simp only [Option.map_eq_some_iff, Prod.mk.injEq] at h
    obtain ⟨v', hv, rfl, rfl⟩ := h
    obtain ⟨cs, h1, h2, h3⟩ := part_agg (w := w) (m := m) (I := I) (ρ := ρ) (r := r) (o' := o) hv (fun j v hj => ⟨(hc j v hj).1, f j, (hc j v hj).2, (hf j v hj).mono (fun _ h => h) (fun _ _ => rfl) (fun _ _ h => h) _ (fun i r hi => by cases hi)⟩)
    exact ⟨rfl, _, by simp [Instr.loadAt, Instr.sureAddr]; exact run_loadVar_agg hd ha hi h1 (by simpa using h2), h3⟩

theorem sound_nilc (hx : RelV m I w ρ p x) (h : evQ (.nilc (.c p)) [] H = some (v, news)) :
    news = [] ∧ v = p ∧ ((∃ a, x = .pointer (some a)) ∨ ∃ f cs, x = .func (.func f) #[] cs) := by
  simp only [evQ, R.ev] at h
  cases hx <;> simp only [Option.some.injEq, Prod.mk.injEq] at h <;> try (cases h; done)
  all_goals
    obtain ⟨rfl, rfl⟩ := h
    refine ⟨rfl, rfl, ?_⟩
    first | exact .inl ⟨_, rfl⟩ | exact .inr ⟨_, _, rfl⟩

theorem sound_fad {s : TypeId} {fs : Array Field} {k : Nat} {f : Field} {i : TypeInfo} (hd : P.underlying s = some (.struct fs)) (hf : fs[k]? = some f) (hi : P.info? f.type = some i) (hz : i.size ≠ 0)
    (hx : RelV m I w ρ p x) (h : evQ (.fad f.offset (.c p)) [] H = some (v, news)) : news = [] ∧ ∃ z, (Instr.fieldAt s x k).run P w = .ok z w ∧ RelV m I w ρ v z := by
  simp only [evQ, R.ev] at h
  cases hx <;> simp only [Option.some.injEq, Prod.mk.injEq] at h <;> try (cases h; done)
  · rename_i b o r hr
    obtain ⟨rfl, rfl⟩ := h
    exact ⟨rfl, _, by simp [Instr.fieldAt, run_und hd, hf, Instr.sureAddr, fieldPlace, run_sz hi, hz, pure, Sem.run, add_mk], .ptr _ _ _ _ hr⟩
  · rename_i c r o f' hI hc hff
    obtain ⟨rfl, rfl⟩ := h
    refine ⟨rfl, _, by simp [Instr.fieldAt, run_und hd, hf, Instr.sureAddr, fieldPlace, run_sz hi, hz, pure, Sem.run, add_mk], .rptr _ _ r (o + f.offset) (fun j => f' (f.offset + j)) hI (fun j v hj => ?_) (fun j v hj => ?_)⟩
    · rw [C.get_drop] at hj
      have := hc _ _ hj
      exact ⟨this.1, by rw [Nat.add_assoc]; exact this.2⟩
    · rw [C.get_drop] at hj
      exact hff _ _ hj
theorem run_asIntOf (k : IntKind) (n : Int) (w : World) : (asIntOf (.int k n)).run P w = .ok (k, n) w := rfl

theorem sound_iad {t e : TypeId} {i : TypeInfo} (hd : P.underlying t = some (.slice e)) (hi : P.info? e = some i)
    (hx : RelV m I w ρ p x) (hy : RelV m I w ρ q y) (h : evQ (.iad i.size (.c p) (.c q)) [] H = some (v, news)) : news = [] ∧ ∃ z, (Instr.indexAt t x y).run P w = .ok z w ∧ RelV m I w ρ v z := by
  simp only [evQ, R.ev] at h
  cases hy <;> simp only [] at h <;> try (cases h; done)
  rename_i k ix
  cases hx <;> simp only [] at h <;> try (cases h; done)
  · split at h
    · rename_i hc; exfalso; obtain ⟨h1, h2⟩ := hc; omega
    · cases h
  · rename_i b off len sz cap r rc n h2 h3 h4 h5 h1
    split at h
    · rename_i hc
      simp only [Option.some.injEq, Prod.mk.injEq] at h
      obtain ⟨rfl, rfl⟩ := h
      refine ⟨rfl, _, ?_, .ptr _ _ _ _ h1⟩
      simp [Instr.indexAt, run_asIntOf, run_und hd, hc, run_sz hi, add_mk, pure, Sem.run]
    · cases h
  · rename_i len c A rc f hle hcc hf
    split at h
    · rename_i hc
      simp only [Option.some.injEq, Prod.mk.injEq] at h
      obtain ⟨rfl, rfl⟩ := h
      obtain ⟨v0, hv0⟩ := C.get_some hc.2.2
      obtain ⟨_, r, o, hA, hI, _⟩ := hcc _ _ hv0
      subst hA
      refine ⟨rfl, .pointer (some ⟨r, o + ix.toNat * i.size, none⟩), ?_, .rptr _ _ r _ (fun j => f (ix.toNat * i.size + j)) hI (fun j v hj => ?_) (fun j v hj => ?_)⟩
      · simp [Instr.indexAt, run_asIntOf, run_und hd, hc.1, hc.2.1, run_sz hi, add_mk, pure, Sem.run]
      · rw [C.get_drop] at hj
        obtain ⟨h1, r', o', hA', _, h2⟩ := hcc _ _ hj
        simp only [Option.some.injEq, Addr.mk.injEq, and_true] at hA'
        obtain ⟨rfl, rfl⟩ := hA'
        exact ⟨h1, by rw [Nat.add_assoc]; exact h2⟩
      · rw [C.get_drop] at hj
        exact hf _ _ hj
    · cases h

theorem sound_iaa {t e : TypeId} {n : Nat} {i : TypeInfo} (hd : P.underlying t = some (.array n e)) (hi : P.info? e = some i)
    (hx : RelV m I w ρ p x) (hy : RelV m I w ρ q y) (h : evQ (.iaa n i.size (.c p) (.c q)) [] H = some (v, news)) : news = [] ∧ ∃ z, (Instr.indexAt t x y).run P w = .ok z w ∧ RelV m I w ρ v z := by
  simp only [evQ, R.ev] at h
  cases hy <;> simp only [] at h <;> try (cases h; done)
  rename_i k ix
  cases hx <;> simp only [] at h <;> try (cases h; done)
  · rename_i b o r hr
    split at h
    · rename_i hc
      simp only [Option.some.injEq, Prod.mk.injEq] at h
      obtain ⟨rfl, rfl⟩ := h
      refine ⟨rfl, _, ?_, .ptr _ _ _ _ hr⟩
      simp [Instr.indexAt, run_asIntOf, run_und hd, hc, run_sz hi, add_mk, pure, Sem.run, Instr.sureAddr]
    · cases h
  · rename_i c r o f hI hcc hf
    split at h
    · rename_i hc
      simp only [Option.some.injEq, Prod.mk.injEq] at h
      obtain ⟨rfl, rfl⟩ := h
      refine ⟨rfl, .pointer (some ⟨r, o + ix.toNat * i.size, none⟩), ?_, .rptr _ _ r _ (fun j => f (ix.toNat * i.size + j)) hI (fun j v hj => ?_) (fun j v hj => ?_)⟩
      · simp [Instr.indexAt, run_asIntOf, run_und hd, hc.1, hc.2, run_sz hi, add_mk, pure, Sem.run, Instr.sureAddr]
      · rw [C.get_drop] at hj
        obtain ⟨h1, h2⟩ := hcc _ _ hj
        exact ⟨h1, by rw [Nat.add_assoc]; exact h2⟩
      · rw [C.get_drop] at hj
        exact hf _ _ hj
    · cases h

/-- a part of a value -/
theorem sound_part {t : TypeId} {d : TypeDesc} {i : TypeInfo} {k : Option IntKind} {c : C} {cs : Array Value} {o : Nat} (hd : P.underlying t = some d) (hi : P.info? t = some i)
    (hs : cs.size = c.len) (hc : ∀ j v, c.get j = some v → v.isCell = true) (hf : ∀ (j : Nat) (v : V) (x : Value), c.get j = some v → cs[j]? = some x → RelV m I w (plC c ρ) v x)
    (h : partC o i.size (isAggD d) k c = some v) : ∃ z, (part t cs o).run P w = .ok z w ∧ RelV m I w ρ v z := by
  cases ha : isAggD d
  · simp only [partC, ha, Bool.false_eq_true, if_false] at h
    have hlt : o < cs.size := by rw [hs]; exact C.get_lt h
    refine ⟨cs[o], ?_, plC_to (hf _ _ _ h (Array.getElem?_eq_getElem hlt))⟩
    simp [part, run_isAgg hd, ha, Array.getElem?_eq_getElem hlt, pure, Sem.run]
  · simp only [partC, ha, if_true] at h
    split at h
    · rename_i hle
      refine ⟨.agg (cs.extract o (o + i.size)), ?_, rel_asAgg h ?_ (fun j v hj => hc _ _ (C.get_sub hj).2) (fun j v x hj hx => ?_)⟩
      · simp [part, run_isAgg hd, ha, run_sz hi, pure, Sem.run]
      · simp [C.len_sub hle]; omega
      · obtain ⟨hjn, hg⟩ := C.get_sub hj
        rw [plC_sub]
        refine hf _ _ _ hg ?_
        rw [Array.getElem?_extract] at hx
        split at hx
        · exact hx
        · cases hx
    · cases h

theorem sound_fld {s : TypeId} {fs : Array Field} {k : Nat} {kk : Option IntKind} {f : Field} {d : TypeDesc} {i : TypeInfo} (hd : P.underlying s = some (.struct fs)) (hf : fs[k]? = some f) (hd' : P.underlying f.type = some d) (hi : P.info? f.type = some i)
    (hx : RelV m I w ρ p x) (h : evQ (.fld f.offset i.size (isAggD d) kk (.c p)) [] H = some (v, news)) : news = [] ∧ ∃ z, (Instr.field s x k).run P w = .ok z w ∧ RelV m I w ρ v z := by
  simp only [evQ, R.ev] at h
  cases hx <;> simp only [] at h <;> try (cases h; done)
  rename_i c cs hs hc hff
  simp only [Option.map_eq_some_iff, Prod.mk.injEq] at h
  obtain ⟨v', hv, rfl, rfl⟩ := h
  obtain ⟨z, h1, h2⟩ := sound_part (P := P) hd' hi hs hc hff hv
  exact ⟨rfl, z, by simp [Instr.field, run_und hd, hf, Go.asAgg, h1, pure, Sem.run], h2⟩

theorem sound_ixa {t e : TypeId} {n : Nat} {kk : Option IntKind} {d : TypeDesc} {i : TypeInfo} (hd : P.underlying t = some (.array n e)) (hd' : P.underlying e = some d) (hi : P.info? e = some i)
    (hx : RelV m I w ρ p x) (hy : RelV m I w ρ q y) (h : evQ (.ixa n i.size (isAggD d) kk (.c p) (.c q)) [] H = some (v, news)) : news = [] ∧ ∃ z, (Instr.index t x y).run P w = .ok z w ∧ RelV m I w ρ v z := by
  simp only [evQ, R.ev] at h
  cases hy <;> simp only [] at h <;> try (cases h; done)
  rename_i k ix
  cases hx <;> simp only [] at h <;> try (cases h; done)
  rename_i c cs hs hc hff
  split at h
  · rename_i hb
    simp only [Option.map_eq_some_iff, Prod.mk.injEq] at h
    obtain ⟨v', hv, rfl, rfl⟩ := h
    obtain ⟨z, h1, h2⟩ := sound_part (P := P) hd' hi hs hc hff hv
    exact ⟨rfl, z, by simp [Instr.index, run_asIntOf, run_und hd, hb, run_sz hi, h1], h2⟩
  · cases h

theorem sound_ixs {t : TypeId} (hd : P.underlying t = some .string)
    (hx : RelV m I w ρ p x) (hy : RelV m I w ρ q y) (h : evQ (.ixs (.c p) (.c q)) [] H = some (v, news)) : news = [] ∧ ∃ z, (Instr.index t x y).run P w = .ok z w ∧ RelV m I w ρ v z := by
  simp only [evQ, R.ev] at h
  cases hy <;> simp only [] at h <;> try (cases h; done)
  rename_i k ix
  cases hx <;> simp only [] at h <;> try (cases h; done)
  rename_i s
  split at h
  · rename_i hb
    simp only [Option.map_eq_some_iff, Prod.mk.injEq] at h
    obtain ⟨u, hu, rfl, rfl⟩ := h
    refine ⟨rfl, _, ?_, .int _ _ _⟩
    obtain ⟨hlt, hg⟩ := List.getElem?_eq_some_iff.1 hu
    have hh : (⟨s.toArray⟩ : ByteArray)[ix.toNat]? = some u := by
      rw [getElem?_pos (⟨s.toArray⟩ : ByteArray) ix.toNat (by simpa [ByteArray.size] using hlt)]
      congr 1
    simp [Instr.index, run_asIntOf, run_und hd, hb, hh, pure, Sem.run]
  · cases h

theorem sound_ext {i : Nat} (hx : RelV m I w ρ p x) (h : evQ (.ext (.c p) i) [] H = some (v, news)) : news = [] ∧ ∃ z, (Instr.extract x i).run P w = .ok z w ∧ RelV m I w ρ v z := by
  simp only [evQ, R.ev] at h
  cases hx <;> simp only [] at h <;> try (cases h; done)
  rename_i l vs hs hf
  simp only [Option.map_eq_some_iff, Prod.mk.injEq] at h
  obtain ⟨v', hv, rfl, rfl⟩ := h
  have hlt : i < vs.size := by rw [hs]; exact (List.getElem?_eq_some_iff.1 hv).1
  exact ⟨rfl, vs[i], by simp [Instr.extract, Array.getElem?_eq_getElem hlt, pure, Sem.run], hf _ _ _ hv (Array.getElem?_eq_getElem hlt)⟩

theorem size_mk (s : List UInt8) : (⟨s.toArray⟩ : ByteArray).size = s.length := by show s.toArray.size = _; simp
theorem sound_len {t : TypeId} {ty : TypeId} {d : TypeDesc} {b : Bool} (hd : P.underlying t = some d) (ht : (d = .string ∧ b = true) ∨ ∃ e, d = .slice e ∧ b = false)
    (hx : RelV m I w ρ p x) (h : evQ (.len b (.c p)) [] H = some (v, news)) : news = [] ∧ ∃ z, (Builtin.len_ #[t] ty #[x]).run P w = .ok z w ∧ RelV m I w ρ v z := by
  rcases ht with ⟨rfl, rfl⟩ | ⟨e, rfl, rfl⟩
  · simp only [evQ, R.ev] at h
    cases hx <;> simp only [Option.some.injEq, Prod.mk.injEq] at h <;> try (cases h; done)
    obtain ⟨rfl, rfl⟩ := h
    exact ⟨rfl, _, by simp [Builtin.len_, run_und hd, goInt, pure, Sem.run, size_mk], .int _ _ _⟩
  · simp only [evQ, R.ev] at h
    cases hx <;> simp only [Option.some.injEq, Prod.mk.injEq] at h <;> try (cases h; done)
    all_goals
      obtain ⟨rfl, rfl⟩ := h
      exact ⟨rfl, _, by simp [Builtin.len_, run_und hd, goInt, pure, Sem.run], .int _ _ _⟩

theorem sound_lenc {t : TypeId} {ty : TypeId} {d : TypeDesc} {n : Nat} {e : TypeId} (hd : P.underlying t = some d) (ht : d = .array n e ∨ ∃ a, d = .pointer a ∧ P.underlying a = some (.array n e)) (x : Value) :
    ∃ z, (Builtin.len_ #[t] ty #[x]).run P w = .ok z w ∧ RelV m I w ρ (.int .i64 n) z := by
  rcases ht with rfl | ⟨a, rfl, ha⟩
  · exact ⟨_, by simp [Builtin.len_, run_und hd, goInt, pure, Sem.run], .int _ _ _⟩
  · exact ⟨_, by simp [Builtin.len_, run_und hd, run_und ha, goInt, pure, Sem.run], .int _ _ _⟩

theorem sound_mm (mx : Bool) : ∀ (vs : List V) (p v : V) (x : Value) (xs : List Value), mm mx p vs = some v → (∃ k n, p = .int k n) → RelV m I w ρ p x → xs.length = vs.length →
    (∀ (j : Nat) (a : V) (b : Value), vs[j]? = some a → xs[j]? = some b → RelV m I w ρ a b) →
    ∃ z, (xs.foldlM (if mx then Builtin.max2 else Builtin.min2) x).run P w = .ok z w ∧ RelV m I w ρ v z
  | [], p, v, x, xs, h, hp, hx, hl, hr => by
    obtain rfl : xs = [] := List.length_eq_zero_iff.1 (by simpa using hl)
    have : v = p := by cases p <;> simp [mm] at h <;> exact h.symm
    subst this
    exact ⟨x, by simp [pure, Sem.run], hx⟩
  | a :: vs, p, v, x, [], h, hp, hx, hl, hr => by simp at hl
  | a :: vs, p, v, x, b :: xs, h, ⟨k, n, hp⟩, hx, hl, hr => by
    subst hp
    cases a <;> simp only [mm] at h <;> try (cases h; done)
    rename_i k' n'
    split at h
    · rename_i hk
      subst hk
      have hb := hr 0 _ b rfl rfl
      cases hx; cases hb
      obtain ⟨z, hz, hrel⟩ := sound_mm mx vs _ v (.int k (if mx then (if n' > n then n' else n) else (if n' < n then n' else n))) xs h ⟨k, _, rfl⟩ (.int _ _ _) (by simpa using hl)
        (fun j a b h1 h2 => hr (j + 1) a b (by simpa using h1) (by simpa using h2))
      refine ⟨z, ?_, hrel⟩
      cases mx <;> simp only [List.foldlM_cons, Builtin.max2, Builtin.min2, Bool.false_eq_true, if_false, if_true, Sem.run_bind, Sem.run_pure, Result.andThen_ok] at hz ⊢ <;> exact hz
    · cases h

theorem sound_cvi {src dst : TypeId} {k ks : IntKind} (hs : P.underlying src = some (.int ks)) (hd : P.underlying dst = some (.int k)) (hx : RelV m I w ρ p x) (h : evQ (.cvi k (.c p)) [] H = some (v, news)) :
    news = [] ∧ ∃ z, (convert src dst x).run P w = .ok z w ∧ RelV m I w ρ v z := by
  simp only [evQ, R.ev] at h
  cases hx <;> simp only [Option.some.injEq, Prod.mk.injEq] at h <;> try (cases h; done)
  obtain ⟨rfl, rfl⟩ := h
  exact ⟨rfl, _, by simp [convert, run_und hs, run_und hd, Conv.intToInt, pure, Sem.run], .int _ _ _⟩

theorem sound_s2a {arr : TypeId} {n : Nat} {e : TypeId} (hd : P.underlying arr = some (.array n e)) (hx : RelV m I w ρ p x) (h : evQ (.s2a n (.c p)) [] H = some (v, news)) :
    news = [] ∧ ∃ z, (Instr.arrayAt arr x).run P w = .ok z w ∧ RelV m I w ρ v z := by
  simp only [evQ, R.ev] at h
  cases hx <;> simp only [] at h <;> try (cases h; done)
  · split at h
    · omega
    · cases h
  · rename_i b off len sz cap r rc n' h2 h3 h4 h5 h1
    split at h
    · rename_i hc
      simp only [Option.some.injEq, Prod.mk.injEq] at h
      obtain ⟨rfl, rfl⟩ := h
      exact ⟨rfl, _, by simp [Instr.arrayAt, run_und hd, show ¬ len < n by omega, pure, Sem.run], .ptr _ _ _ _ h1⟩
    · cases h
  · rename_i len c A rc f hle hcc hf
    split at h
    · rename_i hc
      simp only [Option.some.injEq, Prod.mk.injEq] at h
      obtain ⟨rfl, rfl⟩ := h
      obtain ⟨v0, hv0⟩ := C.get_some hc.2.2
      obtain ⟨_, r, o, hA, hI, _⟩ := hcc _ _ hv0
      subst hA
      refine ⟨rfl, _, by simp [Instr.arrayAt, run_und hd, show ¬ len < n by omega, pure, Sem.run], .rptr _ _ r o f hI (fun j v hj => ?_) hf⟩
      obtain ⟨h1, r', o', hA', _, h2⟩ := hcc _ _ hj
      simp only [Option.some.injEq, Addr.mk.injEq, and_true] at hA'
      obtain ⟨rfl, rfl⟩ := hA'
      exact ⟨h1, h2⟩
    · cases h
end Go.Proofs.YtgjbkgajkcgdfaaE
