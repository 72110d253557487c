/- Slicing; bytes as text. -/
import Derived.Test.YtgjbkgajkcgdfaaEvS4
namespace Go.Proofs.YtgjbkgajkcgdfaaE
open Go
set_option linter.unusedSimpArgs false
set_option linter.unusedVariables false
variable {P : Program} {w : World} {m : Nat → Option Nat} {I O : Nat → Prop} {ρ : Pl} {H Hb : List Blk} {p q v : V} {x y : Value} {news : List Blk}

def RelO (m : Nat → Option Nat) (I : Nat → Prop) (w : World) (ρ : Pl) : Option V → Option Value → Prop
  | none, none => True
  | some v, some x => RelV m I w ρ v x
  | _, _ => False

theorem sound_bnd {y y' n : Nat} {code : BoundsCode} (hx : RelV m I w ρ p x) (h : bnd p y = some n) (hy : y ≤ y') : (Instr.sliceBound x y' code).run P w = .ok n w ∧ n ≤ y := by
  cases hx <;> simp only [bnd] at h <;> try (cases h; done)
  rename_i k i
  split at h
  · rename_i hc
    injection h with h
    subst h
    have : 0 ≤ i ∧ i ≤ (y' : Int) := ⟨hc.1, by omega⟩
    refine ⟨?_, by omega⟩
    simp [Instr.sliceBound, run_asIntOf, this, pure, Sem.run]
  · cases h
theorem sound_bndO {d y y' n : Nat} {o : Option V} {o' : Option Value} {code : BoundsCode} (hx : RelO m I w ρ o o') (h : bndO d o y = some n) (hy : y ≤ y') :
    (o = none ∧ o' = none ∧ n = d) ∨ ∃ x, o' = some x ∧ (Instr.sliceBound x y' code).run P w = .ok n w ∧ n ≤ y := by
  cases o <;> cases o' <;> simp only [RelO] at hx
  · simp only [bndO, Option.some.injEq] at h; exact .inl ⟨rfl, rfl, h.symm⟩
  · simp only [bndO] at h; exact .inr ⟨_, rfl, sound_bnd hx h hy⟩

theorem sound_bnds {isS : Bool} {len rc : Nat} {cap : Option Nat} {lo hi mx : Option V} {lo' hi' mx' : Option Value} {l h : Nat} {mm : Option Nat} (hl : RelO m I w ρ lo lo') (hh : RelO m I w ρ hi hi') (hm : RelO m I w ρ mx mx')
    (hle : len ≤ rc) (hcap : ∀ c, cap = some c → c = rc) (hb : bnds len cap lo hi mx = some (l, h, mm)) :
    ∃ M, (Instr.sliceBounds isS len rc lo' hi' mx').run P w = .ok (l, h, M) w ∧ l ≤ h ∧ h ≤ M ∧ M ≤ rc ∧ (∀ c, mm = some c → c = M) ∧ (mm = none → cap = none ∧ M = rc) ∧ (cap = none → mx = none → h ≤ len) ∧ (cap = none → M ≤ len ∨ M = rc) := by
  have hc : cap.getD len ≤ rc := by
    cases cap with
    | none => simpa using hle
    | some c => simp [hcap c rfl]
  cases mx with
  | none =>
    cases mx' with
    | some x => simp [RelO] at hm
    | none =>
      simp only [bnds, Option.bind_eq_some_iff, Option.map_eq_some_iff, Prod.mk.injEq] at hb
      obtain ⟨h', hb1, l', hb2, rfl, rfl, rfl⟩ := hb
      have H1 := sound_bndO (P := P) (code := if isS then .sliceAcap else .sliceAlen) hh hb1 hc
      have hh' : h' ≤ rc ∧ (cap = none → h' ≤ len) := by
        rcases H1 with ⟨_, _, rfl⟩ | ⟨x, _, _, h2⟩
        · exact ⟨hle, fun _ => Nat.le_refl _⟩
        · exact ⟨by omega, fun e => by subst e; simpa using h2⟩
      have H2 := sound_bndO (P := P) (code := .sliceB) hl hb2 (Nat.le_refl _)
      have hl' : l' ≤ h' := by
        rcases H2 with ⟨_, _, rfl⟩ | ⟨x, _, _, h2⟩
        · omega
        · exact h2
      refine ⟨rc, ?_, hl', hh'.1, Nat.le_refl _, hcap, fun e => ⟨e, rfl⟩, fun e _ => hh'.2 e, fun _ => .inr rfl⟩
      rcases H1 with ⟨_, rfl, rfl⟩ | ⟨x, rfl, h1, _⟩ <;> rcases H2 with ⟨_, rfl, rfl⟩ | ⟨z, rfl, h2, _⟩ <;> simp [Instr.sliceBounds, *, pure, Sem.run]
  | some mv =>
    cases mx' with
    | none => simp [RelO] at hm
    | some mx' =>
      simp only [bnds, Option.bind_eq_some_iff, Option.map_eq_some_iff, Prod.mk.injEq] at hb
      obtain ⟨m', hb0, h', ⟨hv, rfl, hb1⟩, l', hb2, rfl, rfl, rfl⟩ := hb
      cases hi' with
      | none => simp [RelO] at hh
      | some hx =>
        obtain ⟨H0, h0⟩ := sound_bnd (P := P) (code := if isS then .slice3Acap else .slice3Alen) hm hb0 hc
        obtain ⟨H1, h1⟩ := sound_bnd (P := P) (code := .slice3B) hh hb1 (Nat.le_refl _)
        have H2 := sound_bndO (P := P) (code := .slice3C) hl hb2 (Nat.le_refl _)
        have hl' : l' ≤ h' := by
          rcases H2 with ⟨_, _, rfl⟩ | ⟨x, _, _, h2⟩
          · omega
          · exact h2
        refine ⟨m', ?_, hl', h1, by omega, (fun c e => by injection e with e; exact e.symm), (fun e => by cases e), (fun _ e => by cases e), fun e => .inl (by subst e; simpa using h0)⟩
        rcases H2 with ⟨_, rfl, rfl⟩ | ⟨z, rfl, h2, _⟩ <;> simp [Instr.sliceBounds, *, pure, Sem.run]

theorem add_some (r o n : Nat) (b : Bool) : (if b then some (⟨r, o, none⟩ : Addr) else some ((⟨r, o, none⟩ : Addr).add n)) = some ⟨r, if b then o else o + n, none⟩ := by
  cases b <;> simp [add_mk]

theorem sound_ssl {t : TypeId} (hd : P.underlying t = some .string) {lo hi : Option V} {lo' hi' : Option Value} (hx : RelV m I w ρ p x) (hl : RelO m I w ρ lo lo') (hh : RelO m I w ρ hi hi')
    (h : evQ (.ssl (.c p) (lo.map .c) (hi.map .c)) [] H = some (v, news)) : news = [] ∧ ∃ z, (Instr.sliceAt t x lo' hi' none).run P w = .ok z w ∧ RelV m I w ρ v z := by
  have e1 : ∀ o : Option V, (o.map R.c).map (R.ev []) = o := fun o => by cases o <;> rfl
  simp only [evQ, R.ev, e1] at h
  cases hx <;> simp only [] at h <;> try (cases h; done)
  rename_i s
  simp only [Option.map_eq_some_iff, Prod.mk.injEq] at h
  obtain ⟨⟨l, h', mm⟩, hb, hv, rfl⟩ := h
  obtain ⟨M, h1, h2, h3, h4, -⟩ := sound_bnds (P := P) (isS := false) (mx := none) (mx' := none) hl hh trivial (Nat.le_refl _) (fun c e => by cases e) hb
  simp only [] at hv
  subst hv
  refine ⟨rfl, .string ((⟨s.toArray⟩ : ByteArray).extract l h'), ?_, ?_⟩
  · simp [Instr.sliceAt, Instr.slice, run_und hd, size_mk, h1, pure, Sem.run]
  · have : (⟨s.toArray⟩ : ByteArray).extract l h' = ⟨((s.drop l).take (h' - l)).toArray⟩ := by
      apply ByteArray.ext
      apply Array.ext'
      simp [ByteArray.data_extract, Array.toList_extract, List.extract]
    rw [this]
    exact .str _ _

theorem sound_sls {t e : TypeId} {i : TypeInfo} (hd : P.underlying t = some (.slice e)) (hi' : P.info? e = some i) {lo hi mx : Option V} {lo' hi2 mx' : Option Value} (hx : RelV m I w ρ p x) (hl : RelO m I w ρ lo lo') (hh : RelO m I w ρ hi hi2) (hm : RelO m I w ρ mx mx')
    (h : evQ (.sls i.size (.c p) (lo.map .c) (hi.map .c) (mx.map .c)) [] H = some (v, news)) : news = [] ∧ ∃ z, (Instr.sliceAt t x lo' hi2 mx').run P w = .ok z w ∧ RelV m I w ρ v z := by
  have e1 : ∀ o : Option V, (o.map R.c).map (R.ev []) = o := fun o => by cases o <;> rfl
  simp only [evQ, R.ev, e1] at h
  cases hx <;> simp only [] at h <;> try (cases h; done)
  · -- nil
    simp only [Option.map_eq_some_iff, Prod.mk.injEq] at h
    obtain ⟨⟨l, h', mm⟩, hb, rfl, rfl⟩ := h
    obtain ⟨M, h1, h2, h3, h4, -⟩ := sound_bnds (P := P) (isS := true) hl hh hm (Nat.le_refl _) (fun c e => by injection e with e; exact e.symm) hb
    obtain rfl : M = 0 := by omega
    obtain rfl : h' = 0 := by omega
    obtain rfl : l = 0 := by omega
    exact ⟨rfl, _, by simp [Instr.sliceAt, Instr.slice, run_und hd, h1, run_sz hi', pure, Sem.run], .nils _⟩
  · rename_i A
    simp only [Option.map_eq_some_iff, Prod.mk.injEq] at h
    obtain ⟨⟨l, h', mm⟩, hb, rfl, rfl⟩ := h
    obtain ⟨M, h1, h2, h3, h4, -⟩ := sound_bnds (P := P) (isS := true) hl hh hm (Nat.le_refl _) (fun c e => by injection e with e; exact e.symm) hb
    obtain rfl : M = 0 := by omega
    obtain rfl : h' = 0 := by omega
    obtain rfl : l = 0 := by omega
    exact ⟨rfl, .slice A 0 0, by simp [Instr.sliceAt, Instr.slice, run_und hd, h1, run_sz hi', pure, Sem.run], .ez _ _⟩
  · rename_i b off sz cap A hc
    split at h
    · rename_i hsz
      subst hsz
      simp only [Option.map_eq_some_iff, Prod.mk.injEq] at h
      obtain ⟨⟨l, h', mm⟩, hb, hv, rfl⟩ := h
      obtain ⟨M, h1, h2, h3, h4, h5, h6, -⟩ := sound_bnds (P := P) (isS := true) hl hh hm (Nat.le_refl 0) hc hb
      obtain rfl : M = 0 := by omega
      obtain rfl : h' = 0 := by omega
      obtain rfl : l = 0 := by omega
      simp only [] at hv
      subst hv
      refine ⟨rfl, .slice A 0 0, by simp [Instr.sliceAt, Instr.slice, run_und hd, h1, run_sz hi', pure, Sem.run], .sl0 _ _ _ _ _ _ (fun c e => ?_)⟩
      simp only [Option.map_eq_some_iff] at e
      obtain ⟨c', hc', rfl⟩ := e
      rw [h5 c' hc']
    · cases h
  · rename_i b off len sz cap r rc n hh2 hh3 hh4 hh5 hh1
    split at h
    · rename_i hsz
      subst hsz
      simp only [Option.map_eq_some_iff, Prod.mk.injEq] at h
      obtain ⟨⟨l, h', mm⟩, hb, hv, rfl⟩ := h
      obtain ⟨M, h1, h2, h3, h4, h5, h6, -⟩ := sound_bnds (P := P) (isS := true) hl hh hm hh2 hh3 hb
      simp only [] at hv
      subst hv
      by_cases hM : M = l
      · subst hM
        obtain rfl : h' = M := by omega
        refine ⟨rfl, .slice (some ⟨r, off, none⟩) 0 0, by simp [Instr.sliceAt, Instr.slice, run_und hd, h1, run_sz hi', pure, Sem.run], ?_⟩
        rw [Nat.sub_self]
        refine .sl0 _ _ _ _ _ _ (fun c e => ?_)
        simp only [Option.map_eq_some_iff] at e
        obtain ⟨c', hc', rfl⟩ := e
        rw [h5 c' hc', Nat.sub_self]
      · refine ⟨rfl, .slice (some ⟨r, off + l * i.size, none⟩) (h' - l) (M - l), by simp [Instr.sliceAt, Instr.slice, run_und hd, h1, run_sz hi', hM, add_mk, pure, Sem.run], ?_⟩
        refine .sl1 _ _ _ _ _ _ r (M - l) n hh1 (by omega) (fun c e => ?_) hh4 ?_
        · simp only [Option.map_eq_some_iff] at e
          obtain ⟨c', hc', rfl⟩ := e
          rw [h5 c' hc']
        · have : l * i.size + (M - l) * i.size = M * i.size := by rw [← Nat.add_mul]; congr 1; omega
          have h7 : M * i.size ≤ rc * i.size := Nat.mul_le_mul_right _ h4
          omega
    · cases h
  · rename_i len c A rc f hle hcc hf
    simp only [Option.bind_eq_some_iff] at h
    obtain ⟨⟨l, h', mm⟩, hb, hv⟩ := h
    obtain ⟨M, h1, h2, h3, h4, h5, h6, h7, h8⟩ := sound_bnds (P := P) (isS := true) hl hh hm hle (fun c e => by cases e) hb
    simp only [] at hv
    split at hv
    · rename_i hmm
      simp only [Option.some.injEq, Prod.mk.injEq] at hv
      obtain ⟨rfl, rfl⟩ := hv
      obtain rfl : M = 0 := (h5 0 hmm).symm
      obtain rfl : h' = 0 := by omega
      obtain rfl : l = 0 := by omega
      exact ⟨rfl, .slice A 0 0, by simp [Instr.sliceAt, Instr.slice, run_und hd, h1, run_sz hi', pure, Sem.run], .ez _ _⟩
    · split at hv
      · rename_i hcl
        simp only [Option.some.injEq, Prod.mk.injEq] at hv
        obtain ⟨rfl, rfl⟩ := hv
        have hA : ∀ z : Option Addr, (Instr.sliceAt t (.slice A len rc) lo' hi2 mx').run P w = .ok (.slice (if M = l then A else A.map (·.add (l * i.size))) (h' - l) (M - l)) w := fun _ => by
          simp [Instr.sliceAt, Instr.slice, run_und hd, h1, run_sz hi', pure, Sem.run]
        refine ⟨rfl, _, hA none, .rs _ _ _ _ _ (fun j => f (l * i.size + j)) (by omega) (fun j v hj => ?_) (fun j v hj => ?_)⟩
        · obtain ⟨hjn, hg⟩ := C.get_sub hj
          have hM : ¬ M = l := by
            intro e
            have : h' - l = 0 := by omega
            rw [this] at hjn; simp at hjn
          obtain ⟨g1, r, o, hA', hI, g2⟩ := hcc _ _ hg
          exact ⟨g1, r, o + l * i.size, by rw [if_neg hM, hA']; simp [add_mk], hI, by rw [Nat.add_assoc]; exact g2⟩
        · exact hf _ _ (C.get_sub hj).2
      · cases hv

theorem sound_sla {t e : TypeId} {n : Nat} {i : TypeInfo} (hd : P.underlying t = some (.array n e)) (hi' : P.info? e = some i) {lo hi mx : Option V} {lo' hi2 mx' : Option Value} (hx : RelV m I w ρ p x)
    (hp : ∀ (i : Nat) (b : Blk), H[i]? = some b → Hb[i]? = some b) (hH : HRel m I O w ρ Hb) (hl : RelO m I w ρ lo lo') (hh : RelO m I w ρ hi hi2) (hm : RelO m I w ρ mx mx')
    (h : evQ (.sla n i.size (.c p) (lo.map .c) (hi.map .c) (mx.map .c)) [] H = some (v, news)) : news = [] ∧ ∃ z, (Instr.sliceAt t x lo' hi2 mx').run P w = .ok z w ∧ RelV m I w ρ v z := by
  have e1 : ∀ o : Option V, (o.map R.c).map (R.ev []) = o := fun o => by cases o <;> rfl
  simp only [evQ, R.ev, e1] at h
  cases hx <;> simp only [] at h <;> try (cases h; done)
  · rename_i b off r hr
    split at h <;> try (cases h; done)
    rename_i hfit
    simp only [Option.map_eq_some_iff, Prod.mk.injEq] at h
    obtain ⟨⟨l, h', mm⟩, hb, hv, rfl⟩ := h
    obtain ⟨M, h1, h2, h3, h4, h5, h6, -⟩ := sound_bnds (P := P) (isS := false) hl hh hm (Nat.le_refl n) (fun c e => by injection e with e; exact e.symm) hb
    obtain ⟨k, hk, hk2⟩ : ∃ k, sizeOf? w r = some k ∧ off + n * i.size ≤ k := by
      unfold fits at hfit
      split at hfit
      · rename_i ro c hbb
        obtain ⟨cs, e', fr, g1, _, g3, _⟩ := hH.at (hp _ _ hbb) hr
        refine ⟨cs.size, by simp [sizeOf?, g1], ?_⟩
        have : off + n * i.size ≤ c.len := by simpa using hfit
        omega
      · cases hfit
    simp only [] at hv
    subst hv
    by_cases hM : M = l
    · subst hM
      obtain rfl : h' = M := by omega
      refine ⟨rfl, .slice (some ⟨r, off, none⟩) 0 0, by simp [Instr.sliceAt, Instr.sureAddr, run_und hd, h1, run_sz hi', pure, Sem.run], ?_⟩
      rw [Nat.sub_self]
      refine .sl0 _ _ _ _ _ _ (fun c e => ?_)
      simp only [Option.map_eq_some_iff] at e
      obtain ⟨c', hc', rfl⟩ := e
      rw [h5 c' hc', Nat.sub_self]
    · refine ⟨rfl, .slice (some ⟨r, off + l * i.size, none⟩) (h' - l) (M - l), by simp [Instr.sliceAt, Instr.sureAddr, run_und hd, h1, run_sz hi', hM, add_mk, pure, Sem.run], ?_⟩
      refine .sl1 _ _ _ _ _ _ r (M - l) k hr (by omega) (fun c e => ?_) hk ?_
      · simp only [Option.map_eq_some_iff] at e
        obtain ⟨c', hc', rfl⟩ := e
        rw [h5 c' hc']
      · have : l * i.size + (M - l) * i.size = M * i.size := by rw [← Nat.add_mul]; congr 1; omega
        have h7 : M * i.size ≤ n * i.size := Nat.mul_le_mul_right _ h4
        omega
  · rename_i c r o f hI hcc hf
    simp only [Option.bind_eq_some_iff] at h
    obtain ⟨⟨l, h', mm⟩, hb, hv⟩ := h
    obtain ⟨M, h1, h2, h3, h4, h5, h6, -⟩ := sound_bnds (P := P) (isS := false) hl hh hm (Nat.le_refl n) (fun c e => by injection e with e; exact e.symm) hb
    simp only [] at hv
    split at hv
    · simp only [Option.some.injEq, Prod.mk.injEq] at hv
      obtain ⟨rfl, rfl⟩ := hv
      refine ⟨rfl, .slice (some ⟨r, if M = l then o else o + l * i.size, none⟩) (h' - l) (M - l), ?_, .rs _ _ _ _ _ (fun j => f (l * i.size + j)) (by omega) (fun j v hj => ?_) (fun j v hj => ?_)⟩
      · by_cases hM : M = l <;> simp [Instr.sliceAt, Instr.sureAddr, run_und hd, h1, run_sz hi', hM, add_mk, pure, Sem.run]
      · obtain ⟨hjn, hg⟩ := C.get_sub hj
        have hM : ¬ M = l := by
          intro e
          have : h' - l = 0 := by omega
          rw [this] at hjn; simp at hjn
        obtain ⟨g1, g2⟩ := hcc _ _ hg
        exact ⟨g1, r, o + l * i.size, by rw [if_neg hM], hI, by rw [Nat.add_assoc]; exact g2⟩
      · exact hf _ _ (C.get_sub hj).2
    · cases hv
end Go.Proofs.YtgjbkgajkcgdfaaE
