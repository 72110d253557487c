/- '==' beside numbers and texts. -/
import Derived.Test.YtgjbkgajkcgdfaaEvS2
import Derived.Laws.Small
namespace Go.Proofs.YtgjbkgajkcgdfaaE
open Go
set_option linter.unusedSimpArgs false
set_option linter.unusedVariables false
variable {P : Program} {w : World} {m : Nat → Option Nat} {I O : Nat → Prop} {ρ : Pl} {H : List Blk}

def tagD (P : Program) : Tag → TypeDesc → Bool
  | .b, .bool => true
  | .p, .pointer e => ((P.info? e).map (·.size != 0)).getD false
  | .s, .slice _ => true
  | .f, .func .. => true
  | _, _ => false

theorem run_shape (r : Nat) (w : World) : (shape r).run P w = .ok (w.shape? r) w := rfl
theorem run_frozen (a : Addr) (w : World) : (frozen a).run P w = .ok (w.frozen? a) w := rfl
theorem shape_of {r : Nat} {cs : Array Value} {e : TypeId} {fr : Nat × Nat} (h : w.heap[r]? = some (.cells cs e fr)) : w.shape? r = some (e, cs.size) := by
  unfold World.shape?; rw [h]
theorem run_stringish {a : Addr} {cs : Array Value} {e : TypeId} {fr : Nat × Nat} (h : w.heap[a.block]? = some (.cells cs e fr)) (hf : ∀ o, w.frozen? ⟨a.block, o, none⟩ = false) : (stringish a).run P w = .ok false w := by
  have ha : ∀ x : Addr, x.block = a.block → w.frozen? x = false := fun x hx => by
    have := hf x.off
    unfold World.frozen? at this ⊢
    rw [hx]; exact this
  unfold stringish
  rw [Sem.run_bind, run_frozen, Result.andThen_ok, ha a rfl]
  simp only [Bool.false_eq_true, if_false]
  rw [Sem.run_bind]
  simp only [Sem.run_pure, Result.andThen_ok, Sem.run_bind, run_shape, shape_of h]
  rw [run_frozen, ha ⟨a.block, cs.size, none⟩ rfl]
theorem run_sameAddr {a b : Addr} {cs cs' : Array Value} {e e' : TypeId} {fr fr' : Nat × Nat} (h : w.heap[a.block]? = some (.cells cs e fr)) (h' : w.heap[b.block]? = some (.cells cs' e' fr'))
    (hf : ∀ o, w.frozen? ⟨a.block, o, none⟩ = false) (hf' : ∀ o, w.frozen? ⟨b.block, o, none⟩ = false) : (sameAddr a b).run P w = .ok (a == b) w := by
  have ha : w.frozen? a = false := by
    have := hf a.off
    unfold World.frozen? at this ⊢
    exact this
  have key := run_stringish (P := P) h hf
  have keyb := run_stringish (P := P) h' hf'
  by_cases hbl : a.block = b.block
  · simp [sameAddr, hbl, pure, Sem.run]
  · have hne : (a == b) = false := by
      simp; exact fun e => hbl (by rw [e])
    have hv : ∀ x : Addr, (∃ c e f, w.heap[x.block]? = some (.cells c e f)) → (noView x).run P w = .ok () w := by
      rintro x ⟨c, e, f, hx⟩
      simp [noView, viewAt, run_shape, shape_of hx, pure, Sem.run]
    simp only [sameAddr, beq_eq_false_iff_ne.2 hbl, Bool.false_eq_true, if_false, Sem.run_bind, run_frozen, Result.andThen_ok, ha, Bool.false_and, hv a ⟨_, _, _, h⟩, hv b ⟨_, _, _, h'⟩, mayBeOne, key, keyb, run_shape, shape_of h, shape_of h']
    cases w.frozen? b <;> simp [Sem.run, pure, hne, hv a ⟨_, _, _, h⟩, hv b ⟨_, _, _, h'⟩]

theorem run_eqG {op : BinOp} {xt : TypeId} {xo yo : Operand} {x y : Value} (hx : ∀ c, x ≠ .agg c) (hn : x ≠ .nilIface) : (eqGuard op xt xo yo x y).run P w = .ok () w := by
  cases op <;> cases x <;> first | rfl | exact absurd rfl hn | exact absurd rfl (hx _)

theorem sound_eq {t : Tag} {p q : V} {x y : Value} {b : Bool} {xt : TypeId} {d : TypeDesc} (hd : P.underlying xt = some d) (ht : tagD P t d = true)
    {Hb : List Blk} (hp : ∀ (i : Nat) (b : Blk), H[i]? = some b → Hb[i]? = some b) (hH : HRel m I O w ρ Hb) (h : veq H t p q = some b) (hx : RelV m I w ρ p x) (hy : RelV m I w ρ q y) :
    (∀ c, x ≠ .agg c) ∧ x ≠ .nilIface ∧ (∀ k n, x ≠ .int k n) ∧ (∀ s, x ≠ .string s) ∧ (∀ k n, x ≠ .float k n) ∧ (∀ k n o, x ≠ .complex k n o) ∧ (Op.equal xt x y).run P w = .ok b w := by
  have und := run_und hd w
  have hE : Op.equal xt x y = Op.equalIn (9999 + 1) xt x y := rfl
  rw [hE]; clear hE
  generalize 9999 = dd
  cases t <;> cases d <;> simp only [tagD, Bool.false_eq_true] at ht <;> simp only [veq] at h
  · -- bools
    cases hx <;> cases hy <;> simp only [] at h <;> try (cases h; done)
    injection h with h; subst h
    refine ⟨by simp, by simp, by simp, by simp, by simp, by simp, ?_⟩
    simp [Op.equalIn, und, pure, Sem.run]
  · rename_i e
    cases hi : P.info? e with
    | none => rw [hi] at ht; simp at ht
    | some i =>
      rw [hi] at ht
      have hz : i.size ≠ 0 := by simpa using ht
      have hsz := run_sz hi w
      cases hx <;> cases hy <;> simp only [] at h <;> try (cases h; done)
      all_goals refine ⟨by simp, by simp, by simp, by simp, by simp, by simp, ?_⟩
      · injection h with h; subst h
        simp [Op.equalIn, und, pure, Sem.run]
      · injection h with h; subst h
        simp [Op.equalIn, und, pure, Sem.run]
      · injection h with h; subst h
        simp [Op.equalIn, und, pure, Sem.run]
      · injection h with h; subst h
        simp [Op.equalIn, und, pure, Sem.run]
      · rename_i b1 o1 r1 hr1 b2 o2 r2 hr2
        split at h
        · rename_i hc
          injection h with h; subst h
          simp only [Bool.and_eq_true] at hc
          obtain ⟨hc1, hc2⟩ := hc
          have get : ∀ b, isCells H b = true → ∃ ro c, H[b]? = some (.cells ro c) := by
            intro b hb
            unfold isCells at hb
            split at hb
            · rename_i ro c hbb; exact ⟨ro, c, hbb⟩
            · cases hb
          obtain ⟨ro1, c1, hb1⟩ := get _ hc1
          obtain ⟨ro2, c2, hb2⟩ := get _ hc2
          obtain ⟨cs1, e1, f1, g1, u1, _⟩ := hH.at (hp _ _ hb1) hr1
          obtain ⟨cs2, e2, f2, g2, u2, _⟩ := hH.at (hp _ _ hb2) hr2
          have hs := run_sameAddr (P := P) (a := ⟨r1, o1, none⟩) (b := ⟨r2, o2, none⟩) g1 g2 u1 u2
          have heq : ((⟨r1, o1, none⟩ : Addr) == ⟨r2, o2, none⟩) = (b1 == b2 && o1 == o2) := by
            rw [Bool.eq_iff_iff]
            simp only [beq_iff_eq, Addr.mk.injEq, Bool.and_eq_true, and_true]
            constructor
            · rintro ⟨e1, e2⟩
              subst e1; subst e2
              exact ⟨hH.inj _ _ _ hr1 hr2 ⟨_, hp _ _ hb1, by simp⟩ ⟨_, hp _ _ hb2, by simp⟩, rfl⟩
            · rintro ⟨e1, e2⟩
              subst e1; subst e2
              rw [hr1] at hr2
              injection hr2 with hr2
              exact ⟨hr2, rfl⟩
          simp [Op.equalIn, und, hsz, hz, hs, heq, pure, Sem.run]
        · cases h
      · injection h with h; subst h
        simp [Op.equalIn, und, pure, Sem.run]
  · cases hx <;> cases hy <;> simp only [] at h <;> try (cases h; done)
    all_goals refine ⟨by simp, by simp, by simp, by simp, by simp, by simp, ?_⟩
    · injection h with h; subst h
      simp [Op.equalIn, und, pure, Sem.run]
    · split at h
      · injection h with h; subst h
        simp [Op.equalIn, und, pure, Sem.run]
      · cases h
    · rename_i len c A rc f hle hc hf
      split at h
      · rename_i hl
        injection h with h; subst h
        obtain ⟨v, hv⟩ := C.get_some hl.2
        obtain ⟨_, r, o, hA, _⟩ := hc _ _ hv
        subst hA
        simp [Op.equalIn, und, pure, Sem.run]
      · cases h
  · cases hx <;> cases hy <;> simp only [] at h <;> try (cases h; done)
    all_goals refine ⟨by simp, by simp, by simp, by simp, by simp, by simp, ?_⟩
    all_goals
      injection h with h; subst h
      simp [Op.equalIn, und, pure, Sem.run]
end Go.Proofs.YtgjbkgajkcgdfaaE
