/- The machine's operations and the evaluator's, first part. -/
import Derived.Test.YtchoafdpckknmaaDoorEvR
import Derived.Laws.Slices
import Derived.Laws.CopyRow
import Derived.Laws.Strings
import Derived.Laws.Small
import Derived.Laws.BytesString
import Derived.Laws.BytesArg
import Derived.Laws.Append
namespace Go.Proofs.YtchoafdpckknmaaDoorE
section
open Go
set_option linter.unusedSimpArgs false
set_option linter.unusedVariables false
variable {P : Program} {w : World}

theorem run_und {t : TypeId} {d : TypeDesc} (h : P.underlying t = some d) (w : World) : (underlying t).run P w = .ok d w := by
 simp [underlying, program, h, Sem.run, pure, bind, Sem.bind]
theorem run_tinfo {t : TypeId} {i : TypeInfo} (h : P.info? t = some i) (w : World) : (typeInfo t).run P w = .ok i w := by
 simp [typeInfo, program, h, Sem.run, pure, bind, Sem.bind]
theorem run_sz {t : TypeId} {i : TypeInfo} (h : P.info? t = some i) (w : World) : (sizeOf t).run P w = .ok i.size w := by
 simp [sizeOf, run_tinfo h, Sem.run]
theorem run_zero {t : TypeId} {i : TypeInfo} {z : Value} (h : P.info? t = some i) (hz : i.zero = some z) (w : World) : (zeroValue t).run P w = .ok z w := by
 simp [zeroValue, run_tinfo h, hz, Sem.run]
def isAggD : TypeDesc → Bool
 | .struct _ | .array _ _ => true
 | _ => false
theorem run_isAgg {t : TypeId} {d : TypeDesc} (h : P.underlying t = some d) (w : World) : (isAgg t).run P w = .ok (isAggD d) w := by
 cases d <;> simp [isAgg, run_und h, isAggD, Sem.run]
theorem add_mk (r o n : Nat) : (⟨r, o, none⟩ : Addr).add n = ⟨r, o + n, none⟩ := by unfold Addr.add; split <;> simp_all

theorem run_loadCellsFrom {r o : Nat} : ∀ (n i : Nat) (acc cs : List Value), cs.length = n → (∀ (j : Nat) (x : Value), cs[j]? = some x → w.cell? ⟨r, o + i + j, none⟩ = some x) →
  (loadCellsFrom ⟨r, o, none⟩ i n acc.toArray).run P w = .ok (acc ++ cs).toArray w
 | 0, i, acc, cs, hl, _ => by
  obtain rfl : cs = [] := List.length_eq_zero_iff.1 hl
  simp [loadCellsFrom, Sem.run, pure]
 | n + 1, i, acc, [], hl, _ => by simp at hl
 | n + 1, i, acc, x :: cs, hl, h => by
  have h0 : w.cell? ⟨r, o + i, none⟩ = some x := by simpa using h 0 x rfl
  have ih := run_loadCellsFrom n (i + 1) (acc ++ [x]) cs (by simpa using hl) (fun j y hj => by
   have := h (j + 1) y (by simpa using hj)
   rwa [show o + i + (j + 1) = o + (i + 1) + j by omega] at this)
  have hp : acc.toArray.push x = (acc ++ [x]).toArray := by simp
  simp only [loadCellsFrom, Sem.run_bind, add_mk, load, Sem.run, h0, Result.andThen_ok, hp, ih]
  simp
theorem run_loadCells {r o : Nat} {cs : List Value} (h : ∀ (j : Nat) (x : Value), cs[j]? = some x → w.cell? ⟨r, o + j, none⟩ = some x) :
  (loadCells ⟨r, o, none⟩ cs.length).run P w = .ok cs.toArray w := by
 have := run_loadCellsFrom (P := P) (w := w) (r := r) (o := o) cs.length 0 [] cs rfl (by simpa using h)
 simpa [loadCells] using this

theorem range_at {n j k : Nat} (h : (List.range n)[j]? = some k) : j < n ∧ j = k := by
 obtain ⟨h1, h2⟩ := List.getElem?_eq_some_iff.1 h
 simp at h1 h2
 exact ⟨h1, h2⟩
/-- cells read one by one, out of a content -/
theorem cells_of {m : Nat → Option Nat} {I : Nat → Prop} {ρ : Pl} {c : C} {r o : Nat} (h : ∀ j v, c.get j = some v → ∃ x, w.cell? ⟨r, o + j, none⟩ = some x ∧ RelV m I w (plC c ρ) v x) :
  ∃ cs : List Value, cs.length = c.len ∧ (∀ (j : Nat) (x : Value), cs[j]? = some x → w.cell? ⟨r, o + j, none⟩ = some x) ∧
   (∀ (j : Nat) (v : V) (x : Value), c.get j = some v → cs[j]? = some x → RelV m I w (plC c ρ) v x) := by
 refine ⟨(List.range c.len).map fun j => (w.cell? ⟨r, o + j, none⟩).getD undef, by simp, fun j x hj => ?_, fun j v x hv hj => ?_⟩
 ·simp only [List.getElem?_map, Option.map_eq_some_iff] at hj
  obtain ⟨j', hj', hx⟩ := hj
  obtain ⟨hlt, rfl⟩ := range_at hj'
  obtain ⟨v, hv⟩ := C.get_some hlt
  obtain ⟨y, hy, _⟩ := h _ v hv
  rw [hy] at hx ⊢
  simp at hx; rw [hx]
 ·simp only [List.getElem?_map, Option.map_eq_some_iff] at hj
  obtain ⟨j', hj', hx⟩ := hj
  obtain ⟨hlt, rfl⟩ := range_at hj'
  obtain ⟨y, hy, hr⟩ := h _ v hv
  rw [hy] at hx
  simp at hx; rwa [← hx]

theorem cell?_of {w : World} {r : Nat} {cs : Array Value} {e : TypeId} {fr : Nat × Nat} (h : w.heap[r]? = some (.cells cs e fr)) (j : Nat) : w.cell? ⟨r, j, none⟩ = cs[j]? := by
 unfold World.cell?; simp [h]
theorem BRel.cell {m : Nat → Option Nat} {I O : Nat → Prop} {ρ : Pl} {r : Nat} {ro : Bool} {c : C} (h : BRel m I O w ρ r (.cells ro c)) {j : Nat} {v : V} (hv : c.get j = some v) :
  v.isCell = true ∧ ∃ x, w.cell? ⟨r, j, none⟩ = some x ∧ RelV m I w (plC c ρ) v x := by
 obtain ⟨cs, e, fr, h1, _, h3, h4, h5, _⟩ := h
 have hlt : j < cs.size := Nat.lt_of_lt_of_le (C.get_lt hv) h3
 refine ⟨h4 j v hv, cs[j], ?_, h5 j v _ hv (Array.getElem?_eq_getElem hlt)⟩
 rw [cell?_of h1, Array.getElem?_eq_getElem hlt]
theorem HRel.at {m : Nat → Option Nat} {I O : Nat → Prop} {ρ : Pl} {H : List Blk} (h : HRel m I O w ρ H) {b r : Nat} {bl : Blk} (hb : H[b]? = some bl) (hr : ρ b = some r) : BRel m I O w ρ r bl := by
 obtain ⟨b', h1, h2⟩ := h.blk b r hr
 rw [hb] at h1
 injection h1 with h1
 rwa [h1]
theorem plC_to {m : Nat → Option Nat} {I : Nat → Prop} {ρ : Pl} {c : C} {v : V} {x : Value} (h : RelV m I w (plC c ρ) v x) : RelV m I w ρ v x := by
 unfold plC at h
 split at h
 ·exact h.mono (fun _ h => h) (fun _ _ => rfl) (fun _ _ h => h) ρ (fun i r hi => by cases hi)
 ·exact h
theorem noPl_to {m : Nat → Option Nat} {I : Nat → Prop} {ρ : Pl} {v : V} {x : Value} (h : RelV m I w noPl v x) : RelV m I w ρ v x :=
 h.mono (fun _ h => h) (fun _ _ => rfl) (fun _ _ h => h) ρ (fun i r hi => by cases hi)

/-- a content as an array, once its cells are known -/
theorem rel_asAgg {m : Nat → Option Nat} {I : Nat → Prop} {ρ : Pl} {k : Option IntKind} {c : C} {v : V} {cs : Array Value} (h : asAgg k c = some v) (hs : cs.size = c.len)
  (hc : ∀ j v, c.get j = some v → v.isCell = true) (hf : ∀ (j : Nat) (v : V) (x : Value), c.get j = some v → cs[j]? = some x → RelV m I w (plC c ρ) v x) : RelV m I w ρ v (.agg cs) := by
 have ints : ∀ (k : IntKind) (vs : List V) (l : List Int), C.toInts k vs = some l → vs = l.map (V.int k) := by
  intro k vs
  induction vs with
  | nil => intro l h; simp [C.toInts] at h; subst h; rfl
  | cons a vs ih =>
   intro l h
   cases a <;> simp only [C.toInts] at h <;> try (cases h)
   split at h
   ·rename_i e; subst e
    simp only [Option.map_eq_some_iff] at h
    obtain ⟨l', h1, h2⟩ := h
    subst h2
    rw [ih l' h1]; rfl
   ·cases h
 unfold asAgg at h
 split at h
 ·injection h with h; subst h; exact .agg _ _ _ hs hc hf
 ·split at h
  ·rename_i k' l
   split at h
   ·rename_i e; injection h with h; subst h; subst e; exact .agg _ _ _ hs hc hf
   ·cases h
  ·rename_i kk c2 hne
   simp only [Option.map_eq_some_iff] at h
   obtain ⟨l, h1, h2⟩ := h
   subst h2
   have he := ints _ _ _ h1
   have hg : ∀ j, (C.ints kk l).get j = c.get j := fun j => by rw [← C.get_toL c, he]; simp [C.get]
   refine .agg _ _ _ ?_ (fun j v hv => hc j v (by rw [← hg]; exact hv)) (fun j v x hv hx => ?_)
   ·rw [hs, ← C.len_toL c, he]; simp [C.len]
   ·have := hf j v x (by rw [← hg]; exact hv) hx
    exact plC_to this
end

section
open Go
set_option linter.unusedSimpArgs false
set_option linter.unusedVariables false
variable {P : Program} {w : World} {m : Nat → Option Nat} {I O : Nat → Prop} {ρ : Pl} {H : List Blk}

theorem sound_int {op : BinOp} {k : IntKind} {a b : Int} {v : V} (h : vint op k a b = some v) (xt : TypeId) (ho : isShift op = false) :
  ∃ x, (binOp op xt (.int k a) (.int k b)).run P w = .ok x w ∧ RelV m I w ρ v x := by
 cases op <;> simp only [isShift, Bool.true_eq_false] at ho <;> simp only [vint] at h
 case quo =>
  split at h
  ·cases h
  ·rename_i hb; injection h with h; subst h; simp [binOp, Op.intDiv, hb, pure, Sem.run]; exact .int _ _ _
 case rem =>
  split at h
  ·cases h
  ·rename_i hb; injection h with h; subst h; simp [binOp, Op.intDiv, hb, pure, Sem.run]; exact .int _ _ _
 all_goals
  injection h with h; subst h
  simp [binOp, Op.intArith, Op.intBits, Op.intCmp, pure, Sem.run]
  first | exact .int _ _ _ | exact .bool _ _
theorem sound_shift {op : BinOp} {k k' : IntKind} {a b : Int} {v : V} (h : vshift op k a b = some v) (xt : TypeId) (ho : isShift op = true) :
  ∃ x, (binOp op xt (.int k a) (.int k' b)).run P w = .ok x w ∧ RelV m I w ρ v x := by
 unfold vshift at h
 split at h
 ·cases h
 ·rename_i hb
  cases op <;> simp only [isShift, Bool.false_eq_true] at ho <;> simp only [] at h
  all_goals
   injection h with h; subst h
   simp [binOp, Op.shift, hb, pure, Sem.run]
   exact .int _ _ _
theorem sound_str {op : BinOp} {a b : List UInt8} {v : V} (h : vstr op a b = some v) (xt : TypeId) :
  ∃ x, (binOp op xt (.string ⟨a.toArray⟩) (.string ⟨b.toArray⟩)).run P w = .ok x w ∧ RelV m I w ρ v x := by
 cases op <;> simp only [vstr] at h <;> try (cases h; done)
 case add =>
  split at h
  ·rename_i hl
   injection h with h; subst h
   have hl' : ¬ ((((⟨a.toArray⟩ : ByteArray).size + (⟨b.toArray⟩ : ByteArray).size : Nat) : Int) > IntKind.i64.max) := by
    show ¬ (((a.toArray.size + b.toArray.size : Nat) : Int) > _)
    simp only [List.size_toArray]
    have : (IntKind.i64.max : Int) = 2 ^ 63 - 1 := rfl
    rw [this]; omega
   have hap : (⟨a.toArray⟩ : ByteArray) ++ ⟨b.toArray⟩ = ⟨(a ++ b).toArray⟩ := by
    apply ByteArray.ext
    simp [ByteArray.data_append]
   have hr : (binOp .add xt (.string ⟨a.toArray⟩) (.string ⟨b.toArray⟩)).run P w = .ok (.string ⟨(a ++ b).toArray⟩) w := by
    simp only [binOp, Op.stringOp, if_neg hl', hap]; rfl
   exact ⟨_, hr, .str _ _⟩
  ·cases h
 all_goals
  injection h with h; subst h
  simp [binOp, Op.stringOp, pure, Sem.run, ByteArray.toList_mk]
  first | exact .bool _ _ | (rename_i h; done)
theorem sound_bin {op : BinOp} {p q v : V} {x y : Value} (h : vbin op p q = some v) (hx : RelV m I w ρ p x) (hy : RelV m I w ρ q y) (xt : TypeId) :
  ∃ z, (binOp op xt x y).run P w = .ok z w ∧ RelV m I w ρ v z := by
 cases hx <;> cases hy <;> simp only [vbin] at h <;> try (cases h; done)
 ·split at h
  ·rename_i ho; exact sound_shift h xt ho
  ·rename_i ho
   split at h
   ·rename_i e; subst e; exact sound_int h xt (by simpa using ho)
   ·cases h
 ·exact sound_str h xt
theorem sound_un {op : UnOp} {p v : V} {x : Value} (h : vun op p = some v) (hx : RelV m I w ρ p x) :
  ∃ z, (Op.unary op x).run P w = .ok z w ∧ RelV m I w ρ v z := by
 cases hx <;> simp only [vun] at h <;> try (cases h; done)
 ·cases op <;> simp only [] at h <;> try (cases h; done)
  all_goals
   simp only [vint] at h
   injection h with h; subst h
   simp only [Op.unary, Op.intArith, Op.intBits]
   exact ⟨_, rfl, .int _ _ _⟩
 ·cases op <;> simp only [] at h <;> try (cases h; done)
  injection h with h; subst h
  exact ⟨_, rfl, .bool _ _⟩
end

section
open Go
set_option linter.unusedSimpArgs false
set_option linter.unusedVariables false
variable {P : Program} {w : World} {m : Nat → Option Nat} {I O : Nat → Prop} {ρ : Pl} {H : List Blk}

def tagD (P : Program) : Tag → TypeDesc → Bool
 | .b, .bool => true
 | .p, .pointer e => ((P.info? e).map (·.size != 0)).getD false
 | .s, .slice _ => true
 | .f, .func .. => true
 | _, _ => false

theorem run_shape (r : Nat) (w : World) : (shape r).run P w = .ok (w.shape? r) w := rfl
theorem run_frozen (a : Addr) (w : World) : (frozen a).run P w = .ok (w.frozen? a) w := rfl
theorem shape_of {r : Nat} {cs : Array Value} {e : TypeId} {fr : Nat × Nat} (h : w.heap[r]? = some (.cells cs e fr)) : w.shape? r = some (e, cs.size) := by
 unfold World.shape?; rw [h]
theorem run_sameAddr {a b : Addr} (h : a.block = b.block) : (sameAddr a b).run P w = .ok (a == b) w := by
 simp [sameAddr, h, pure, Sem.run]

theorem run_eqG {op : BinOp} {xt : TypeId} {xo yo : Operand} {x y : Value} (hx : ∀ c, x ≠ .agg c) (hn : x ≠ .nilIface) : (eqGuard op xt xo yo x y).run P w = .ok () w := by
 cases op <;> cases x <;> first | rfl | exact absurd rfl hn | exact absurd rfl (hx _)

set_option maxHeartbeats 1000000 in
theorem sound_eq {t : Tag} {p q : V} {x y : Value} {b : Bool} {xt : TypeId} {d : TypeDesc} (hd : P.underlying xt = some d) (ht : tagD P t d = true)
  {Hb : List Blk} (hp : ∀ (i : Nat) (b : Blk), H[i]? = some b → Hb[i]? = some b) (hH : HRel m I O w ρ Hb) (h : veq H t p q = some b) (hx : RelV m I w ρ p x) (hy : RelV m I w ρ q y) :
  (∀ c, x ≠ .agg c) ∧ x ≠ .nilIface ∧ (∀ k n, x ≠ .int k n) ∧ (∀ s, x ≠ .string s) ∧ (∀ k n, x ≠ .float k n) ∧ (∀ k n o, x ≠ .complex k n o) ∧ (Op.equal xt x y).run P w = .ok b w := by
 have und := run_und hd w
 have hE : Op.equal xt x y = Op.equalIn (9999 + 1) xt x y := rfl
 rw [hE]; clear hE
 generalize 9999 = dd
 cases t <;> cases d <;> simp only [tagD, Bool.false_eq_true] at ht <;> simp only [veq] at h
 ·-- bools
  cases hx <;> cases hy <;> simp only [] at h <;> try (cases h; done)
  injection h with h; subst h
  refine ⟨by simp, by simp, by simp, by simp, by simp, by simp, ?_⟩
  simp [Op.equalIn, und, pure, Sem.run]
 ·rename_i e
  cases hi : P.info? e with
  | none => rw [hi] at ht; simp at ht
  | some i =>
   rw [hi] at ht
   have hz : i.size ≠ 0 := by simpa using ht
   have hsz := run_sz hi w
   cases hx <;> cases hy <;> simp only [] at h <;> try (cases h; done)
   all_goals refine ⟨by simp, by simp, by simp, by simp, by simp, by simp, ?_⟩
   ·injection h with h; subst h
    simp [Op.equalIn, und, pure, Sem.run]
   ·injection h with h; subst h
    simp [Op.equalIn, und, pure, Sem.run]
   ·injection h with h; subst h
    simp [Op.equalIn, und, pure, Sem.run]
   ·injection h with h; subst h
    simp [Op.equalIn, und, pure, Sem.run]
   ·rename_i b1 o1 r1 hr1 b2 o2 r2 hr2
    split at h
    ·rename_i hc
     injection h with h; subst h
     simp only [Bool.and_eq_true] at hc
     obtain ⟨hc1, hc2⟩ := hc
     have get : ∀ b, isCells H b = true → ∃ ro c, H[b]? = some (.cells ro c) := by
      intro b hb
      unfold isCells at hb
      split at hb
      ·rename_i ro c hbb; exact ⟨ro, c, hbb⟩
      ·cases hb
     have hs := run_sameAddr (P := P) (w := w) (a := ⟨r1, o1, none⟩) (b := ⟨r1, o2, none⟩) rfl
     obtain rfl : b1 = b2 := by simpa using hc2
     obtain rfl : r1 = r2 := by rw [hr1] at hr2; injection hr2
     have heq : ((⟨r1, o1, none⟩ : Addr) == ⟨r1, o2, none⟩) = (o1 == o2) := by
      rw [Bool.eq_iff_iff]
      simp only [beq_iff_eq, Addr.mk.injEq, and_true, true_and]
     simp [Op.equalIn, und, hsz, hz, hs, heq, pure, Sem.run]
    ·cases h
   ·injection h with h; subst h
    simp [Op.equalIn, und, pure, Sem.run]
 ·cases hx <;> cases hy <;> simp only [] at h <;> try (cases h; done)
  all_goals try obtain ⟨A, rc, f, rfl, hle, hcc, hf⟩ := RelV.tbRs_inv (by assumption)
  all_goals refine ⟨by simp, by simp, by simp, by simp, by simp, by simp, ?_⟩
  ·injection h with h; subst h
   simp [Op.equalIn, und, pure, Sem.run]
  ·injection h with h; subst h
   simp [Op.equalIn, und, pure, Sem.run]
  ·split at h
   ·injection h with h; subst h
    simp [Op.equalIn, und, pure, Sem.run]
   ·cases h
  ·rename_i len c A rc f hle hc hf hnl
   split at h
   ·rename_i hl
    injection h with h; subst h
    obtain ⟨v, hv⟩ := C.get_some hl.2
    obtain ⟨_, r, o, hA, _⟩ := hc _ _ hv
    subst hA
    simp [Op.equalIn, und, pure, Sem.run]
   ·cases h
  ·split at h
   ·rename_i s l h0 hl
    injection h with h; subst h
    have : 0 < (flat s l).length := by rw [flat_len]; exact Nat.mul_pos hl.1 hl.2
    obtain ⟨r, o, hA, _⟩ := hcc 0 _ (List.getElem?_eq_getElem this)
    subst hA
    simp [Op.equalIn, und, pure, Sem.run]
   ·cases h
 ·cases hx <;> cases hy <;> simp only [] at h <;> try (cases h; done)
  all_goals refine ⟨by simp, by simp, by simp, by simp, by simp, by simp, ?_⟩
  all_goals
   injection h with h; subst h
   simp [Op.equalIn, und, pure, Sem.run]
end

section
open Go
set_option linter.unusedSimpArgs false
set_option linter.unusedVariables false
variable {P : Program} {w : World} {m : Nat → Option Nat} {I O : Nat → Prop} {ρ : Pl} {H Hb : List Blk} {p q v : V} {x y : Value} {news : List Blk}

/-- the cells behind a pointer -/
theorem ptr_cell (hp : ∀ (i : Nat) (b : Blk), H[i]? = some b → Hb[i]? = some b) (hH : HRel m I O w ρ Hb) {b r o : Nat} {ro : Bool} {c : C} {v : V} (hr : ρ b = some r) (hb : H[b]? = some (.cells ro c)) (hv : c.get o = some v) :
  v.isCell = true ∧ ∃ x, w.cell? ⟨r, o, none⟩ = some x ∧ RelV m I w (plC c ρ) v x := (hH.at (hp _ _ hb) hr).cell hv

theorem run_load {a : Addr} {z : Value} (h : w.cell? a = some z) : (load a).run P w = .ok z w := by simp only [load, Sem.run]; rw [h]
theorem run_loadVar_cell {t : TypeId} {d : TypeDesc} {a : Addr} {z : Value} (hd : P.underlying t = some d) (ha : isAggD d = false) (h : w.cell? a = some z) : (loadVar t a).run P w = .ok z w := by
 rw [loadVar, Sem.run_bind, run_isAgg hd, Result.andThen_ok, ha]
 simp only [Bool.false_eq_true, if_false]
 exact run_load h
theorem run_loadVar_agg {t : TypeId} {d : TypeDesc} {i : TypeInfo} {r o : Nat} {cs : List Value} (hd : P.underlying t = some d) (ha : isAggD d = true) (hi : P.info? t = some i) (hs : cs.length = i.size)
  (h : ∀ (j : Nat) (x : Value), cs[j]? = some x → w.cell? ⟨r, o + j, none⟩ = some x) : (loadVar t ⟨r, o, none⟩).run P w = .ok (.agg cs.toArray) w := by
 have := run_loadCells (P := P) h
 simp [loadVar, run_isAgg hd, ha, run_sz hi, ← hs, this, pure, Sem.run]

theorem sound_ldc {t : TypeId} {d : TypeDesc} (hd : P.underlying t = some d) (ha : isAggD d = false) (hp : ∀ (i : Nat) (b : Blk), H[i]? = some b → Hb[i]? = some b) (hH : HRel m I O w ρ Hb)
  (hx : RelV m I w ρ p x) (h : evQ (.ldc (.c p)) [] H = some (v, news)) : news = [] ∧ ∃ z, (Instr.loadAt t x).run P w = .ok z w ∧ RelV m I w ρ v z := by
 simp only [evQ, R.ev] at h
 cases hx <;> simp only [] at h <;> try (cases h; done)
 ·rename_i b o r hr
  split at h
  ·rename_i ro c hb
   simp only [Option.map_eq_some_iff, Prod.mk.injEq] at h
   obtain ⟨v', hv, rfl, rfl⟩ := h
   obtain ⟨_, z, hz, hrel⟩ := ptr_cell hp hH hr hb hv
   exact ⟨rfl, z, by simp [Instr.loadAt, Instr.sureAddr, run_loadVar_cell hd ha hz], plC_to hrel⟩
  ·cases h
 ·rename_i c r o f hI hc hf
  simp only [Option.map_eq_some_iff, Prod.mk.injEq] at h
  obtain ⟨v', hv, rfl, rfl⟩ := h
  have h1 := (hc 0 _ hv).2
  exact ⟨rfl, f 0, by simp [Instr.loadAt, Instr.sureAddr, run_loadVar_cell hd ha (show w.cell? ⟨r, o, none⟩ = some (f 0) by simpa using h1)], noPl_to (hf 0 _ hv)⟩

theorem part_agg {k : Option IntKind} {c : C} {o n : Nat} (h : partC o n true k c = some v) {r o' : Nat}
  (hc : ∀ j v, c.get j = some v → v.isCell = true ∧ ∃ x, w.cell? ⟨r, o' + j, none⟩ = some x ∧ RelV m I w (plC c ρ) v x) :
  ∃ cs : List Value, cs.length = n ∧ (∀ (j : Nat) (x : Value), cs[j]? = some x → w.cell? ⟨r, o' + o + j, none⟩ = some x) ∧ RelV m I w ρ v (.agg cs.toArray) := by
 simp only [partC, if_true] at h
 split at h
 ·rename_i hle
  obtain ⟨cs, h1, h2, h3⟩ := cells_of (m := m) (I := I) (w := w) (ρ := ρ) (c := c.sub o n) (r := r) (o := o' + o) (fun j v hv => by
   obtain ⟨hj, hg⟩ := C.get_sub hv
   obtain ⟨_, z, hz, hr⟩ := hc _ _ hg
   exact ⟨z, by rw [Nat.add_assoc]; exact hz, by rw [plC_sub]; exact hr⟩)
  rw [C.len_sub hle] at h1
  refine ⟨cs, h1, h2, rel_asAgg h (by simp [h1, C.len_sub hle]) (fun j v hv => (hc _ _ (C.get_sub hv).2).1) (fun j v x hv hx => h3 j v x hv (by simpa using hx))⟩
 ·cases h

theorem sound_lda {t : TypeId} {d : TypeDesc} {i : TypeInfo} {k : Option IntKind} (hd : P.underlying t = some d) (ha : isAggD d = true) (hi : P.info? t = some i)
  (hp : ∀ (i : Nat) (b : Blk), H[i]? = some b → Hb[i]? = some b) (hH : HRel m I O w ρ Hb)
  (hx : RelV m I w ρ p x) (h : evQ (.lda i.size k (.c p)) [] H = some (v, news)) : news = [] ∧ ∃ z, (Instr.loadAt t x).run P w = .ok z w ∧ RelV m I w ρ v z := by
 simp only [evQ, R.ev] at h
 cases hx <;> simp only [] at h <;> try (cases h; done)
 ·rename_i b o r hr
  split at h
  ·rename_i ro c hb
   simp only [Option.map_eq_some_iff, Prod.mk.injEq] at h
   obtain ⟨v', hv, rfl, rfl⟩ := h
   obtain ⟨cs, h1, h2, h3⟩ := part_agg (w := w) (m := m) (I := I) (ρ := ρ) (r := r) (o' := 0) hv (fun j v hj => by simpa using ptr_cell hp hH hr hb hj)
   exact ⟨rfl, _, by simp [Instr.loadAt, Instr.sureAddr]; exact run_loadVar_agg hd ha hi h1 (by simpa using h2), h3⟩
  ·cases h
 ·rename_i c r o f hI hc hf
  simp only [Option.map_eq_some_iff, Prod.mk.injEq] at h
  obtain ⟨v', hv, rfl, rfl⟩ := h
  obtain ⟨cs, h1, h2, h3⟩ := part_agg (w := w) (m := m) (I := I) (ρ := ρ) (r := r) (o' := o) hv (fun j v hj => ⟨(hc j v hj).1, f j, (hc j v hj).2, (hf j v hj).mono (fun _ h => h) (fun _ _ => rfl) (fun _ _ h => h) _ (fun i r hi => by cases hi)⟩)
  exact ⟨rfl, _, by simp [Instr.loadAt, Instr.sureAddr]; exact run_loadVar_agg hd ha hi h1 (by simpa using h2), h3⟩

theorem sound_nilc (hx : RelV m I w ρ p x) (h : evQ (.nilc (.c p)) [] H = some (v, news)) :
  news = [] ∧ v = p ∧ ((∃ a, x = .pointer (some a)) ∨ ∃ f cs, x = .func (.func f) #[] cs) := by
 simp only [evQ, R.ev] at h
 cases hx <;> simp only [Option.some.injEq, Prod.mk.injEq] at h <;> try (cases h; done)
 all_goals
  obtain ⟨rfl, rfl⟩ := h
  refine ⟨rfl, rfl, ?_⟩
  first | exact .inl ⟨_, rfl⟩ | exact .inr ⟨_, _, rfl⟩

theorem sound_fad {s : TypeId} {fs : Array Field} {k : Nat} {f : Field} {i : TypeInfo} (hd : P.underlying s = some (.struct fs)) (hf : fs[k]? = some f) (hi : P.info? f.type = some i) (hz : i.size ≠ 0)
  (hx : RelV m I w ρ p x) (h : evQ (.fad f.offset (.c p)) [] H = some (v, news)) : news = [] ∧ ∃ z, (Instr.fieldAt s x k).run P w = .ok z w ∧ RelV m I w ρ v z := by
 simp only [evQ, R.ev] at h
 cases hx <;> simp only [Option.some.injEq, Prod.mk.injEq] at h <;> try (cases h; done)
 ·rename_i b o r hr
  obtain ⟨rfl, rfl⟩ := h
  exact ⟨rfl, _, by simp [Instr.fieldAt, run_und hd, hf, Instr.sureAddr, fieldPlace, run_sz hi, hz, pure, Sem.run, add_mk], .ptr _ _ _ _ hr⟩
 ·rename_i c r o f' hI hc hff
  obtain ⟨rfl, rfl⟩ := h
  refine ⟨rfl, _, by simp [Instr.fieldAt, run_und hd, hf, Instr.sureAddr, fieldPlace, run_sz hi, hz, pure, Sem.run, add_mk], .rptr _ _ r (o + f.offset) (fun j => f' (f.offset + j)) hI (fun j v hj => ?_) (fun j v hj => ?_)⟩
  ·rw [C.get_drop] at hj
   have := hc _ _ hj
   exact ⟨this.1, by rw [Nat.add_assoc]; exact this.2⟩
  ·rw [C.get_drop] at hj
   exact hff _ _ hj
theorem run_asIntOf (k : IntKind) (n : Int) (w : World) : (asIntOf (.int k n)).run P w = .ok (k, n) w := rfl

theorem sound_iad {t e : TypeId} {i : TypeInfo} (hd : P.underlying t = some (.slice e)) (hi : P.info? e = some i)
  (hx : RelV m I w ρ p x) (hy : RelV m I w ρ q y) (h : evQ (.iad i.size (.c p) (.c q)) [] H = some (v, news)) : news = [] ∧ ∃ z, (Instr.indexAt t x y).run P w = .ok z w ∧ RelV m I w ρ v z := by
 simp only [evQ, R.ev] at h
 cases hy <;> simp only [] at h <;> try (cases h; done)
 rename_i k ix
 cases hx <;> simp only [] at h <;> try (cases h; done)
 ·split at h
  ·rename_i hc; exfalso; obtain ⟨h1, h2⟩ := hc; omega
  ·cases h
 ·rename_i b off len sz cap r rc n h2 h3 h4 h5 h1
  split at h
  ·rename_i hc
   simp only [Option.some.injEq, Prod.mk.injEq] at h
   obtain ⟨rfl, rfl⟩ := h
   refine ⟨rfl, _, ?_, .ptr _ _ _ _ h1⟩
   simp [Instr.indexAt, run_asIntOf, run_und hd, hc, run_sz hi, add_mk, pure, Sem.run]
  ·cases h
 ·rename_i len c A rc f hle hcc hf hnl
  split at h
  ·rename_i hc
   simp only [Option.some.injEq, Prod.mk.injEq] at h
   obtain ⟨rfl, rfl⟩ := h
   obtain ⟨v0, hv0⟩ := C.get_some hc.2.2
   obtain ⟨_, r, o, hA, hI, _⟩ := hcc _ _ hv0
   subst hA
   refine ⟨rfl, .pointer (some ⟨r, o + ix.toNat * i.size, none⟩), ?_, .rptr _ _ r _ (fun j => f (ix.toNat * i.size + j)) hI (fun j v hj => ?_) (fun j v hj => ?_)⟩
   ·simp [Instr.indexAt, run_asIntOf, run_und hd, hc.1, hc.2.1, run_sz hi, add_mk, pure, Sem.run]
   ·rw [C.get_drop] at hj
    obtain ⟨h1, r', o', hA', _, h2⟩ := hcc _ _ hj
    simp only [Option.some.injEq, Addr.mk.injEq, and_true] at hA'
    obtain ⟨rfl, rfl⟩ := hA'
    exact ⟨h1, by rw [Nat.add_assoc]; exact h2⟩
   ·rw [C.get_drop] at hj
    exact hf _ _ hj
  ·cases h
 ·rename_i s l h0
  obtain ⟨A, rc, f, rfl, hle, hcc, hf, hnl⟩ := (RelV.tb ρ s l _ h0).tb_inv
  split at h <;> try (cases h; done)
  rename_i hsz
  simp only [Option.map_eq_some_iff, Prod.mk.injEq] at h
  obtain ⟨r0, hr0, rfl, rfl⟩ := h
  split at hr0 <;> try (cases hr0; done)
  rename_i h0i
  have hlt := (List.getElem?_eq_some_iff.1 hr0).1
  have get : ∀ j v, (C.imm (s.cells r0)).get j = some v → (flat s l)[ix.toNat * i.size + j]? = some v := fun j v hv => by
   have hv' : (s.cells r0)[j]? = some v := hv
   have hj := (List.getElem?_eq_some_iff.1 hv').1
   rw [cells_len] at hj
   rw [← hsz.1, flat_get s l hr0 hj]; exact hv'
  obtain ⟨v0, hv0⟩ := C.get_some (c := .imm (s.cells r0)) (j := 0) (by show 0 < (s.cells r0).length; rw [cells_len]; omega)
  obtain ⟨r, o, hA, hI, _⟩ := hcc _ _ (get _ _ hv0)
  subst hA
  refine ⟨rfl, .pointer (some ⟨r, o + ix.toNat * i.size, none⟩), ?_, .rptr _ _ r _ (fun j => f (ix.toNat * i.size + j)) hI (fun j v hj => ?_) (fun j v hj => ?_)⟩
  ·simp [Instr.indexAt, run_asIntOf, run_und hd, h0i, show ix < (l.length : Int) by omega, run_sz hi, add_mk, pure, Sem.run]
  ·have hg := get j v hj
   obtain ⟨r', o', hA', _, h2⟩ := hcc _ _ hg
   simp only [Option.some.injEq, Addr.mk.injEq, and_true] at hA'
   obtain ⟨rfl, rfl⟩ := hA'
   exact ⟨(flat_cell s l v (List.mem_of_getElem? hg)).1, by rw [Nat.add_assoc]; exact h2⟩
  ·exact hf _ _ (get j v hj)

theorem sound_iaa {t e : TypeId} {n : Nat} {i : TypeInfo} (hd : P.underlying t = some (.array n e)) (hi : P.info? e = some i)
  (hx : RelV m I w ρ p x) (hy : RelV m I w ρ q y) (h : evQ (.iaa n i.size (.c p) (.c q)) [] H = some (v, news)) : news = [] ∧ ∃ z, (Instr.indexAt t x y).run P w = .ok z w ∧ RelV m I w ρ v z := by
 simp only [evQ, R.ev] at h
 cases hy <;> simp only [] at h <;> try (cases h; done)
 rename_i k ix
 cases hx <;> simp only [] at h <;> try (cases h; done)
 ·rename_i b o r hr
  split at h
  ·rename_i hc
   simp only [Option.some.injEq, Prod.mk.injEq] at h
   obtain ⟨rfl, rfl⟩ := h
   refine ⟨rfl, _, ?_, .ptr _ _ _ _ hr⟩
   simp [Instr.indexAt, run_asIntOf, run_und hd, hc, run_sz hi, add_mk, pure, Sem.run, Instr.sureAddr]
  ·cases h
 ·rename_i c r o f hI hcc hf
  split at h
  ·rename_i hc
   simp only [Option.some.injEq, Prod.mk.injEq] at h
   obtain ⟨rfl, rfl⟩ := h
   refine ⟨rfl, .pointer (some ⟨r, o + ix.toNat * i.size, none⟩), ?_, .rptr _ _ r _ (fun j => f (ix.toNat * i.size + j)) hI (fun j v hj => ?_) (fun j v hj => ?_)⟩
   ·simp [Instr.indexAt, run_asIntOf, run_und hd, hc.1, hc.2, run_sz hi, add_mk, pure, Sem.run, Instr.sureAddr]
   ·rw [C.get_drop] at hj
    obtain ⟨h1, h2⟩ := hcc _ _ hj
    exact ⟨h1, by rw [Nat.add_assoc]; exact h2⟩
   ·rw [C.get_drop] at hj
    exact hf _ _ hj
  ·cases h

/-- a part of a value -/
theorem sound_part {t : TypeId} {d : TypeDesc} {i : TypeInfo} {k : Option IntKind} {c : C} {cs : Array Value} {o : Nat} (hd : P.underlying t = some d) (hi : P.info? t = some i)
  (hs : cs.size = c.len) (hc : ∀ j v, c.get j = some v → v.isCell = true) (hf : ∀ (j : Nat) (v : V) (x : Value), c.get j = some v → cs[j]? = some x → RelV m I w (plC c ρ) v x)
  (h : partC o i.size (isAggD d) k c = some v) : ∃ z, (part t cs o).run P w = .ok z w ∧ RelV m I w ρ v z := by
 cases ha : isAggD d
 ·simp only [partC, ha, Bool.false_eq_true, if_false] at h
  have hlt : o < cs.size := by rw [hs]; exact C.get_lt h
  refine ⟨cs[o], ?_, plC_to (hf _ _ _ h (Array.getElem?_eq_getElem hlt))⟩
  simp [part, run_isAgg hd, ha, Array.getElem?_eq_getElem hlt, pure, Sem.run]
 ·simp only [partC, ha, if_true] at h
  split at h
  ·rename_i hle
   refine ⟨.agg (cs.extract o (o + i.size)), ?_, rel_asAgg h ?_ (fun j v hj => hc _ _ (C.get_sub hj).2) (fun j v x hj hx => ?_)⟩
   ·simp [part, run_isAgg hd, ha, run_sz hi, pure, Sem.run]
   ·simp [C.len_sub hle]; omega
   ·obtain ⟨hjn, hg⟩ := C.get_sub hj
    rw [plC_sub]
    refine hf _ _ _ hg ?_
    rw [Array.getElem?_extract] at hx
    split at hx
    ·exact hx
    ·cases hx
  ·cases h

theorem sound_fld {s : TypeId} {fs : Array Field} {k : Nat} {kk : Option IntKind} {f : Field} {d : TypeDesc} {i : TypeInfo} (hd : P.underlying s = some (.struct fs)) (hf : fs[k]? = some f) (hd' : P.underlying f.type = some d) (hi : P.info? f.type = some i)
  (hx : RelV m I w ρ p x) (h : evQ (.fld f.offset i.size (isAggD d) kk (.c p)) [] H = some (v, news)) : news = [] ∧ ∃ z, (Instr.field s x k).run P w = .ok z w ∧ RelV m I w ρ v z := by
 simp only [evQ, R.ev] at h
 cases hx <;> simp only [] at h <;> try (cases h; done)
 rename_i c cs hs hc hff
 simp only [Option.map_eq_some_iff, Prod.mk.injEq] at h
 obtain ⟨v', hv, rfl, rfl⟩ := h
 obtain ⟨z, h1, h2⟩ := sound_part (P := P) hd' hi hs hc hff hv
 exact ⟨rfl, z, by simp [Instr.field, run_und hd, hf, Go.asAgg, h1, pure, Sem.run], h2⟩

theorem sound_ixa {t e : TypeId} {n : Nat} {kk : Option IntKind} {d : TypeDesc} {i : TypeInfo} (hd : P.underlying t = some (.array n e)) (hd' : P.underlying e = some d) (hi : P.info? e = some i)
  (hx : RelV m I w ρ p x) (hy : RelV m I w ρ q y) (h : evQ (.ixa n i.size (isAggD d) kk (.c p) (.c q)) [] H = some (v, news)) : news = [] ∧ ∃ z, (Instr.index t x y).run P w = .ok z w ∧ RelV m I w ρ v z := by
 simp only [evQ, R.ev] at h
 cases hy <;> simp only [] at h <;> try (cases h; done)
 rename_i k ix
 cases hx <;> simp only [] at h <;> try (cases h; done)
 rename_i c cs hs hc hff
 split at h
 ·rename_i hb
  simp only [Option.map_eq_some_iff, Prod.mk.injEq] at h
  obtain ⟨v', hv, rfl, rfl⟩ := h
  obtain ⟨z, h1, h2⟩ := sound_part (P := P) hd' hi hs hc hff hv
  exact ⟨rfl, z, by simp [Instr.index, run_asIntOf, run_und hd, hb, run_sz hi, h1], h2⟩
 ·cases h

theorem sound_ixs {t : TypeId} (hd : P.underlying t = some .string)
  (hx : RelV m I w ρ p x) (hy : RelV m I w ρ q y) (h : evQ (.ixs (.c p) (.c q)) [] H = some (v, news)) : news = [] ∧ ∃ z, (Instr.index t x y).run P w = .ok z w ∧ RelV m I w ρ v z := by
 simp only [evQ, R.ev] at h
 cases hy <;> simp only [] at h <;> try (cases h; done)
 rename_i k ix
 cases hx <;> simp only [] at h <;> try (cases h; done)
 rename_i s
 split at h
 ·rename_i hb
  simp only [Option.map_eq_some_iff, Prod.mk.injEq] at h
  obtain ⟨u, hu, rfl, rfl⟩ := h
  refine ⟨rfl, _, ?_, .int _ _ _⟩
  obtain ⟨hlt, hg⟩ := List.getElem?_eq_some_iff.1 hu
  have hh : (⟨s.toArray⟩ : ByteArray)[ix.toNat]? = some u := by
   rw [getElem?_pos (⟨s.toArray⟩ : ByteArray) ix.toNat (by simpa [ByteArray.size] using hlt)]
   congr 1
  simp [Instr.index, run_asIntOf, run_und hd, hb, hh, pure, Sem.run]
 ·cases h

theorem sound_ext {i : Nat} (hx : RelV m I w ρ p x) (h : evQ (.ext (.c p) i) [] H = some (v, news)) : news = [] ∧ ∃ z, (Instr.extract x i).run P w = .ok z w ∧ RelV m I w ρ v z := by
 simp only [evQ, R.ev] at h
 cases hx <;> simp only [] at h <;> try (cases h; done)
 rename_i l vs hs hf
 simp only [Option.map_eq_some_iff, Prod.mk.injEq] at h
 obtain ⟨v', hv, rfl, rfl⟩ := h
 have hlt : i < vs.size := by rw [hs]; exact (List.getElem?_eq_some_iff.1 hv).1
 exact ⟨rfl, vs[i], by simp [Instr.extract, Array.getElem?_eq_getElem hlt, pure, Sem.run], hf _ _ _ hv (Array.getElem?_eq_getElem hlt)⟩

theorem size_mk (s : List UInt8) : (⟨s.toArray⟩ : ByteArray).size = s.length := by show s.toArray.size = _; simp
theorem sound_len {t : TypeId} {ty : TypeId} {d : TypeDesc} {b : Bool} (hd : P.underlying t = some d) (ht : (d = .string ∧ b = true) ∨ ∃ e, d = .slice e ∧ b = false)
  (hx : RelV m I w ρ p x) (h : evQ (.len b (.c p)) [] H = some (v, news)) : news = [] ∧ ∃ z, (Builtin.len_ #[t] ty #[x]).run P w = .ok z w ∧ RelV m I w ρ v z := by
 rcases ht with ⟨rfl, rfl⟩ | ⟨e, rfl, rfl⟩
 ·simp only [evQ, R.ev] at h
  cases hx <;> simp only [Option.some.injEq, Prod.mk.injEq] at h <;> try (cases h; done)
  obtain ⟨rfl, rfl⟩ := h
  exact ⟨rfl, _, by simp [Builtin.len_, run_und hd, goInt, pure, Sem.run, size_mk], .int _ _ _⟩
 ·simp only [evQ, R.ev] at h
  cases hx <;> simp only [Option.some.injEq, Prod.mk.injEq] at h <;> try (cases h; done)
  all_goals try (obtain ⟨A, rc, f, rfl, _⟩ := RelV.tbRs_inv (by assumption))
  all_goals
   obtain ⟨rfl, rfl⟩ := h
   exact ⟨rfl, _, by simp [Builtin.len_, run_und hd, goInt, pure, Sem.run], .int _ _ _⟩

theorem sound_cap {t : TypeId} {ty : TypeId} {e : TypeId} (hd : P.underlying t = some (.slice e))
  (hx : RelV m I w ρ p x) (h : evQ (.cap (.c p)) [] H = some (v, news)) : news = [] ∧ ∃ z, (Builtin.cap_ #[t] ty #[x]).run P w = .ok z w ∧ RelV m I w ρ v z := by
 simp only [evQ, R.ev] at h
 cases hx <;> simp only [Option.some.injEq, Prod.mk.injEq, Option.map_eq_some_iff] at h <;> try (cases h; done)
 ·obtain ⟨rfl, rfl⟩ := h
  exact ⟨rfl, _, by simp [Builtin.cap_, run_und hd, goInt, pure, Sem.run], .int _ _ _⟩
 ·obtain ⟨rfl, rfl⟩ := h
  exact ⟨rfl, _, by simp [Builtin.cap_, run_und hd, goInt, pure, Sem.run], .int _ _ _⟩
 ·rename_i hc
  obtain ⟨c, hcc, rfl, rfl⟩ := h
  have := hc c hcc
  subst this
  exact ⟨rfl, _, by simp [Builtin.cap_, run_und hd, goInt, pure, Sem.run], .int _ _ _⟩
 ·rename_i _ _ h3 _ _ _
  obtain ⟨c, hcc, rfl, rfl⟩ := h
  have := h3 c hcc
  subst this
  exact ⟨rfl, _, by simp [Builtin.cap_, run_und hd, goInt, pure, Sem.run], .int _ _ _⟩
theorem sound_lenc {t : TypeId} {ty : TypeId} {d : TypeDesc} {n : Nat} {e : TypeId} (hd : P.underlying t = some d) (ht : d = .array n e ∨ ∃ a, d = .pointer a ∧ P.underlying a = some (.array n e)) (x : Value) :
  ∃ z, (Builtin.len_ #[t] ty #[x]).run P w = .ok z w ∧ RelV m I w ρ (.int .i64 n) z := by
 rcases ht with rfl | ⟨a, rfl, ha⟩
 ·exact ⟨_, by simp [Builtin.len_, run_und hd, goInt, pure, Sem.run], .int _ _ _⟩
 ·exact ⟨_, by simp [Builtin.len_, run_und hd, run_und ha, goInt, pure, Sem.run], .int _ _ _⟩

theorem sound_mm (mx : Bool) : ∀ (vs : List V) (p v : V) (x : Value) (xs : List Value), mm mx p vs = some v → (∃ k n, p = .int k n) → RelV m I w ρ p x → xs.length = vs.length →
  (∀ (j : Nat) (a : V) (b : Value), vs[j]? = some a → xs[j]? = some b → RelV m I w ρ a b) →
  ∃ z, (xs.foldlM (if mx then Builtin.max2 else Builtin.min2) x).run P w = .ok z w ∧ RelV m I w ρ v z
 | [], p, v, x, xs, h, hp, hx, hl, hr => by
  obtain rfl : xs = [] := List.length_eq_zero_iff.1 (by simpa using hl)
  have : v = p := by cases p <;> simp [mm] at h <;> exact h.symm
  subst this
  exact ⟨x, by simp [pure, Sem.run], hx⟩
 | a :: vs, p, v, x, [], h, hp, hx, hl, hr => by simp at hl
 | a :: vs, p, v, x, b :: xs, h, ⟨k, n, hp⟩, hx, hl, hr => by
  subst hp
  cases a <;> simp only [mm] at h <;> try (cases h; done)
  rename_i k' n'
  split at h
  ·rename_i hk
   subst hk
   have hb := hr 0 _ b rfl rfl
   cases hx; cases hb
   obtain ⟨z, hz, hrel⟩ := sound_mm mx vs _ v (.int k (if mx then (if n' > n then n' else n) else (if n' < n then n' else n))) xs h ⟨k, _, rfl⟩ (.int _ _ _) (by simpa using hl)
    (fun j a b h1 h2 => hr (j + 1) a b (by simpa using h1) (by simpa using h2))
   refine ⟨z, ?_, hrel⟩
   cases mx <;> simp only [List.foldlM_cons, Builtin.max2, Builtin.min2, Bool.false_eq_true, if_false, if_true, Sem.run_bind, Sem.run_pure, Result.andThen_ok] at hz ⊢ <;> exact hz
  ·cases h

theorem sound_cvi {src dst : TypeId} {k ks : IntKind} (hs : P.underlying src = some (.int ks)) (hd : P.underlying dst = some (.int k)) (hx : RelV m I w ρ p x) (h : evQ (.cvi k (.c p)) [] H = some (v, news)) :
  news = [] ∧ ∃ z, (convert src dst x).run P w = .ok z w ∧ RelV m I w ρ v z := by
 simp only [evQ, R.ev] at h
 cases hx <;> simp only [Option.some.injEq, Prod.mk.injEq] at h <;> try (cases h; done)
 obtain ⟨rfl, rfl⟩ := h
 exact ⟨rfl, _, by simp [convert, run_und hs, run_und hd, Conv.intToInt, pure, Sem.run], .int _ _ _⟩

theorem sound_s2a {arr : TypeId} {n : Nat} {e : TypeId} (hd : P.underlying arr = some (.array n e)) (hx : RelV m I w ρ p x) (h : evQ (.s2a n (.c p)) [] H = some (v, news)) :
  news = [] ∧ ∃ z, (Instr.arrayAt arr x).run P w = .ok z w ∧ RelV m I w ρ v z := by
 simp only [evQ, R.ev] at h
 cases hx <;> (try simp only [] at h) <;> try (cases h; done)
 ·split at h
  ·omega
  ·cases h
 ·rename_i b off len sz cap r rc n' h2 h3 h4 h5 h1
  split at h
  ·rename_i hc
   simp only [Option.some.injEq, Prod.mk.injEq] at h
   obtain ⟨rfl, rfl⟩ := h
   exact ⟨rfl, _, by simp [Instr.arrayAt, run_und hd, show ¬ len < n by omega, pure, Sem.run], .ptr _ _ _ _ h1⟩
  ·cases h
 ·rename_i len c A rc f hle hcc hf hnl
  split at h
  ·rename_i hc
   simp only [Option.some.injEq, Prod.mk.injEq] at h
   obtain ⟨rfl, rfl⟩ := h
   obtain ⟨v0, hv0⟩ := C.get_some hc.2.2
   obtain ⟨_, r, o, hA, hI, _⟩ := hcc _ _ hv0
   subst hA
   refine ⟨rfl, _, by simp [Instr.arrayAt, run_und hd, show ¬ len < n by omega, pure, Sem.run], .rptr _ _ r o f hI (fun j v hj => ?_) hf⟩
   obtain ⟨h1, r', o', hA', _, h2⟩ := hcc _ _ hj
   simp only [Option.some.injEq, Addr.mk.injEq, and_true] at hA'
   obtain ⟨rfl, rfl⟩ := hA'
   exact ⟨h1, h2⟩
  ·cases h
 ·rename_i s l h0
  obtain ⟨A, rc, f, rfl, hle, hcc, hf, hnl⟩ := (RelV.tb ρ s l _ h0).tb_inv
  cases s <;> (try simp only [] at h) <;> try (cases h; done)
  rename_i k
  split at h <;> try (cases h; done)
  rename_i hc
  simp only [Option.some.injEq, Prod.mk.injEq] at h
  obtain ⟨rfl, rfl⟩ := h
  have get : ∀ j v, (C.ints k l).get j = some v → (flat (.int k) l)[j]? = some v := fun j v hv => by rw [← tbC_get]; exact hv
  obtain ⟨v0, hv0⟩ := C.get_some (c := .ints k l) (j := 0) (by show 0 < List.length l; omega)
  obtain ⟨r, o, hA, hI, _⟩ := hcc _ _ (get _ _ hv0)
  subst hA
  refine ⟨rfl, _, by simp [Instr.arrayAt, run_und hd, show ¬ l.length < n by omega, pure, Sem.run], .rptr _ _ r o f hI (fun j v hj => ?_) (fun j v hj => hf _ _ (get j v hj))⟩
  obtain ⟨r', o', hA', _, h2⟩ := hcc _ _ (get j v hj)
  simp only [Option.some.injEq, Addr.mk.injEq, and_true] at hA'
  obtain ⟨rfl, rfl⟩ := hA'
  exact ⟨(flat_cell _ l v (List.mem_of_getElem? (get j v hj))).1, h2⟩
end

section
open Go
set_option linter.unusedSimpArgs false
set_option linter.unusedVariables false
variable {P : Program} {w : World} {m : Nat → Option Nat} {I O : Nat → Prop} {ρ : Pl} {H Hb : List Blk} {p q v : V} {x y : Value} {news : List Blk}

def RelO (m : Nat → Option Nat) (I : Nat → Prop) (w : World) (ρ : Pl) : Option V → Option Value → Prop
 | none, none => True
 | some v, some x => RelV m I w ρ v x
 | _, _ => False

theorem sound_bnd {y y' n : Nat} {code : BoundsCode} (hx : RelV m I w ρ p x) (h : bnd p y = some n) (hy : y ≤ y') : (Instr.sliceBound x y' code).run P w = .ok n w ∧ n ≤ y := by
 cases hx <;> simp only [bnd] at h <;> try (cases h; done)
 rename_i k i
 split at h
 ·rename_i hc
  injection h with h
  subst h
  have : 0 ≤ i ∧ i ≤ (y' : Int) := ⟨hc.1, by omega⟩
  refine ⟨?_, by omega⟩
  simp [Instr.sliceBound, run_asIntOf, this, pure, Sem.run]
 ·cases h
theorem sound_bndO {d y y' n : Nat} {o : Option V} {o' : Option Value} {code : BoundsCode} (hx : RelO m I w ρ o o') (h : bndO d o y = some n) (hy : y ≤ y') :
  (o = none ∧ o' = none ∧ n = d) ∨ ∃ x, o' = some x ∧ (Instr.sliceBound x y' code).run P w = .ok n w ∧ n ≤ y := by
 cases o <;> cases o' <;> simp only [RelO] at hx
 ·simp only [bndO, Option.some.injEq] at h; exact .inl ⟨rfl, rfl, h.symm⟩
 ·simp only [bndO] at h; exact .inr ⟨_, rfl, sound_bnd hx h hy⟩

theorem sound_bnds {isS : Bool} {len rc : Nat} {cap : Option Nat} {lo hi mx : Option V} {lo' hi' mx' : Option Value} {l h : Nat} {mm : Option Nat} (hl : RelO m I w ρ lo lo') (hh : RelO m I w ρ hi hi') (hm : RelO m I w ρ mx mx')
  (hle : len ≤ rc) (hcap : ∀ c, cap = some c → c = rc) (hb : bnds len cap lo hi mx = some (l, h, mm)) :
  ∃ M, (Instr.sliceBounds isS len rc lo' hi' mx').run P w = .ok (l, h, M) w ∧ l ≤ h ∧ h ≤ M ∧ M ≤ rc ∧ (∀ c, mm = some c → c = M) ∧ (mm = none → cap = none ∧ M = rc) ∧ (cap = none → mx = none → h ≤ len) ∧ (cap = none → M ≤ len ∨ M = rc) := by
 have hc : cap.getD len ≤ rc := by
  cases cap with
  | none => simpa using hle
  | some c => simp [hcap c rfl]
 cases mx with
 | none =>
  cases mx' with
  | some x => simp [RelO] at hm
  | none =>
   simp only [bnds, Option.bind_eq_some_iff, Option.map_eq_some_iff, Prod.mk.injEq] at hb
   obtain ⟨h', hb1, l', hb2, rfl, rfl, rfl⟩ := hb
   have H1 := sound_bndO (P := P) (code := if isS then .sliceAcap else .sliceAlen) hh hb1 hc
   have hh' : h' ≤ rc ∧ (cap = none → h' ≤ len) := by
    rcases H1 with ⟨_, _, rfl⟩ | ⟨x, _, _, h2⟩
    ·exact ⟨hle, fun _ => Nat.le_refl _⟩
    ·exact ⟨by omega, fun e => by subst e; simpa using h2⟩
   have H2 := sound_bndO (P := P) (code := .sliceB) hl hb2 (Nat.le_refl _)
   have hl' : l' ≤ h' := by
    rcases H2 with ⟨_, _, rfl⟩ | ⟨x, _, _, h2⟩
    ·omega
    ·exact h2
   refine ⟨rc, ?_, hl', hh'.1, Nat.le_refl _, hcap, fun e => ⟨e, rfl⟩, fun e _ => hh'.2 e, fun _ => .inr rfl⟩
   rcases H1 with ⟨_, rfl, rfl⟩ | ⟨x, rfl, h1, _⟩ <;> rcases H2 with ⟨_, rfl, rfl⟩ | ⟨z, rfl, h2, _⟩ <;> simp [Instr.sliceBounds, *, pure, Sem.run]
 | some mv =>
  cases mx' with
  | none => simp [RelO] at hm
  | some mx' =>
   simp only [bnds, Option.bind_eq_some_iff, Option.map_eq_some_iff, Prod.mk.injEq] at hb
   obtain ⟨m', hb0, h', ⟨hv, rfl, hb1⟩, l', hb2, rfl, rfl, rfl⟩ := hb
   cases hi' with
   | none => simp [RelO] at hh
   | some hx =>
    obtain ⟨H0, h0⟩ := sound_bnd (P := P) (code := if isS then .slice3Acap else .slice3Alen) hm hb0 hc
    obtain ⟨H1, h1⟩ := sound_bnd (P := P) (code := .slice3B) hh hb1 (Nat.le_refl _)
    have H2 := sound_bndO (P := P) (code := .slice3C) hl hb2 (Nat.le_refl _)
    have hl' : l' ≤ h' := by
     rcases H2 with ⟨_, _, rfl⟩ | ⟨x, _, _, h2⟩
     ·omega
     ·exact h2
    refine ⟨m', ?_, hl', h1, by omega, (fun c e => by injection e with e; exact e.symm), (fun e => by cases e), (fun _ e => by cases e), fun e => .inl (by subst e; simpa using h0)⟩
    rcases H2 with ⟨_, rfl, rfl⟩ | ⟨z, rfl, h2, _⟩ <;> simp [Instr.sliceBounds, *, pure, Sem.run]

theorem add_some (r o n : Nat) (b : Bool) : (if b then some (⟨r, o, none⟩ : Addr) else some ((⟨r, o, none⟩ : Addr).add n)) = some ⟨r, if b then o else o + n, none⟩ := by
 cases b <;> simp [add_mk]

theorem sound_ssl {t : TypeId} (hd : P.underlying t = some .string) {lo hi : Option V} {lo' hi' : Option Value} (hx : RelV m I w ρ p x) (hl : RelO m I w ρ lo lo') (hh : RelO m I w ρ hi hi')
  (h : evQ (.ssl (.c p) (lo.map .c) (hi.map .c)) [] H = some (v, news)) : news = [] ∧ ∃ z, (Instr.sliceAt t x lo' hi' none).run P w = .ok z w ∧ RelV m I w ρ v z := by
 have e1 : ∀ o : Option V, (o.map R.c).map (R.ev []) = o := fun o => by cases o <;> rfl
 simp only [evQ, R.ev, e1] at h
 cases hx <;> simp only [] at h <;> try (cases h; done)
 rename_i s
 simp only [Option.map_eq_some_iff, Prod.mk.injEq] at h
 obtain ⟨⟨l, h', mm⟩, hb, hv, rfl⟩ := h
 obtain ⟨M, h1, h2, h3, h4, -⟩ := sound_bnds (P := P) (isS := false) (mx := none) (mx' := none) hl hh trivial (Nat.le_refl _) (fun c e => by cases e) hb
 simp only [] at hv
 subst hv
 refine ⟨rfl, .string ((⟨s.toArray⟩ : ByteArray).extract l h'), ?_, ?_⟩
 ·simp [Instr.sliceAt, Instr.slice, run_und hd, size_mk, h1, pure, Sem.run]
 ·have : (⟨s.toArray⟩ : ByteArray).extract l h' = ⟨((s.drop l).take (h' - l)).toArray⟩ := by
   apply ByteArray.ext
   apply Array.ext'
   simp [ByteArray.data_extract, Array.toList_extract, List.extract]
  rw [this]
  exact .str _ _

theorem bnd_le {y n : Nat} {v : V} (h : bnd v y = some n) : n ≤ y := by
 cases v <;> simp only [bnd] at h <;> try (cases h; done)
 split at h <;> try (cases h; done)
 injection h with h; omega
theorem bnds_ends {len l h' : Nat} {mm : Option Nat} {lo hi : Option V} (h : bnds len none lo hi none = some (l, h', mm)) : (lo = none → l = 0) ∧ (hi = none → h' = len) := by
 simp only [bnds, Option.bind_eq_some_iff, Option.map_eq_some_iff, Prod.mk.injEq] at h
 obtain ⟨a, h1, b, h2, rfl, rfl, _⟩ := h
 refine ⟨fun e => ?_, fun e => ?_⟩
 ·subst e; simp only [bndO, Option.some.injEq] at h2; exact h2.symm
 ·subst e; simp only [bndO, Option.some.injEq] at h1; exact h1.symm
theorem bnds_le {len l h' : Nat} {mm : Option Nat} {lo hi : Option V} (h : bnds len none lo hi none = some (l, h', mm)) : l ≤ h' ∧ h' ≤ len := by
 simp only [bnds, Option.bind_eq_some_iff, Option.map_eq_some_iff, Prod.mk.injEq] at h
 obtain ⟨a, h1, b, h2, rfl, rfl, _⟩ := h
 constructor
 ·cases lo with
  | none => simp only [bndO, Option.some.injEq] at h2; omega
  | some v => exact bnd_le h2
 ·cases hi with
  | none => simp only [bndO, Option.some.injEq] at h1; first | omega | (simp at h1; omega)
  | some v => have := bnd_le h1; simpa using this
theorem sound_sls {t e : TypeId} {i : TypeInfo} (hd : P.underlying t = some (.slice e)) (hi' : P.info? e = some i) {lo hi mx : Option V} {lo' hi2 mx' : Option Value} (hx : RelV m I w ρ p x) (hl : RelO m I w ρ lo lo') (hh : RelO m I w ρ hi hi2) (hm : RelO m I w ρ mx mx')
  (h : evQ (.sls i.size (.c p) (lo.map .c) (hi.map .c) (mx.map .c)) [] H = some (v, news)) : news = [] ∧ ∃ z, (Instr.sliceAt t x lo' hi2 mx').run P w = .ok z w ∧ RelV m I w ρ v z := by
 have e1 : ∀ o : Option V, (o.map R.c).map (R.ev []) = o := fun o => by cases o <;> rfl
 simp only [evQ, R.ev, e1] at h
 cases hx <;> simp only [] at h <;> try (cases h; done)
 ·-- nil
  simp only [Option.map_eq_some_iff, Prod.mk.injEq] at h
  obtain ⟨⟨l, h', mm⟩, hb, rfl, rfl⟩ := h
  obtain ⟨M, h1, h2, h3, h4, -⟩ := sound_bnds (P := P) (isS := true) hl hh hm (Nat.le_refl _) (fun c e => by injection e with e; exact e.symm) hb
  obtain rfl : M = 0 := by omega
  obtain rfl : h' = 0 := by omega
  obtain rfl : l = 0 := by omega
  exact ⟨rfl, _, by simp [Instr.sliceAt, Instr.slice, run_und hd, h1, run_sz hi', pure, Sem.run], .nils _⟩
 ·rename_i A
  simp only [Option.map_eq_some_iff, Prod.mk.injEq] at h
  obtain ⟨⟨l, h', mm⟩, hb, rfl, rfl⟩ := h
  obtain ⟨M, h1, h2, h3, h4, -⟩ := sound_bnds (P := P) (isS := true) hl hh hm (Nat.le_refl _) (fun c e => by injection e with e; exact e.symm) hb
  obtain rfl : M = 0 := by omega
  obtain rfl : h' = 0 := by omega
  obtain rfl : l = 0 := by omega
  exact ⟨rfl, .slice A 0 0, by simp [Instr.sliceAt, Instr.slice, run_und hd, h1, run_sz hi', pure, Sem.run], .ez _ _⟩
 ·rename_i b off sz cap A hc
  split at h
  ·rename_i hsz
   subst hsz
   simp only [Option.map_eq_some_iff, Prod.mk.injEq] at h
   obtain ⟨⟨l, h', mm⟩, hb, hv, rfl⟩ := h
   obtain ⟨M, h1, h2, h3, h4, h5, h6, -⟩ := sound_bnds (P := P) (isS := true) hl hh hm (Nat.le_refl 0) hc hb
   obtain rfl : M = 0 := by omega
   obtain rfl : h' = 0 := by omega
   obtain rfl : l = 0 := by omega
   simp only [] at hv
   subst hv
   refine ⟨rfl, .slice A 0 0, by simp [Instr.sliceAt, Instr.slice, run_und hd, h1, run_sz hi', pure, Sem.run], .sl0 _ _ _ _ _ _ (fun c e => ?_)⟩
   simp only [Option.map_eq_some_iff] at e
   obtain ⟨c', hc', rfl⟩ := e
   rw [h5 c' hc']
  ·cases h
 ·rename_i b off len sz cap r rc n hh2 hh3 hh4 hh5 hh1
  split at h
  ·rename_i hsz
   subst hsz
   simp only [Option.map_eq_some_iff, Prod.mk.injEq] at h
   obtain ⟨⟨l, h', mm⟩, hb, hv, rfl⟩ := h
   obtain ⟨M, h1, h2, h3, h4, h5, h6, -⟩ := sound_bnds (P := P) (isS := true) hl hh hm hh2 hh3 hb
   simp only [] at hv
   subst hv
   by_cases hM : M = l
   ·subst hM
    obtain rfl : h' = M := by omega
    refine ⟨rfl, .slice (some ⟨r, off, none⟩) 0 0, by simp [Instr.sliceAt, Instr.slice, run_und hd, h1, run_sz hi', pure, Sem.run], ?_⟩
    rw [Nat.sub_self]
    refine .sl0 _ _ _ _ _ _ (fun c e => ?_)
    simp only [Option.map_eq_some_iff] at e
    obtain ⟨c', hc', rfl⟩ := e
    rw [h5 c' hc', Nat.sub_self]
   ·refine ⟨rfl, .slice (some ⟨r, off + l * i.size, none⟩) (h' - l) (M - l), by simp [Instr.sliceAt, Instr.slice, run_und hd, h1, run_sz hi', hM, add_mk, pure, Sem.run], ?_⟩
    refine .sl1 _ _ _ _ _ _ r (M - l) n hh1 (by omega) (fun c e => ?_) hh4 ?_
    ·simp only [Option.map_eq_some_iff] at e
     obtain ⟨c', hc', rfl⟩ := e
     rw [h5 c' hc']
    ·have : l * i.size + (M - l) * i.size = M * i.size := by rw [← Nat.add_mul]; congr 1; omega
     have h7 : M * i.size ≤ rc * i.size := Nat.mul_le_mul_right _ h4
     omega
  ·cases h
 ·rename_i len c A rc f hle hcc hf hnl
  simp only [Option.bind_eq_some_iff] at h
  obtain ⟨⟨l, h', mm⟩, hb, hv⟩ := h
  obtain ⟨M, h1, h2, h3, h4, h5, h6, h7, h8⟩ := sound_bnds (P := P) (isS := true) hl hh hm hle (fun c e => by cases e) hb
  simp only [] at hv
  split at hv
  ·rename_i hmm
   simp only [Option.some.injEq, Prod.mk.injEq] at hv
   obtain ⟨rfl, rfl⟩ := hv
   obtain rfl : M = 0 := (h5 0 hmm).symm
   obtain rfl : h' = 0 := by omega
   obtain rfl : l = 0 := by omega
   exact ⟨rfl, .slice A 0 0, by simp [Instr.sliceAt, Instr.slice, run_und hd, h1, run_sz hi', pure, Sem.run], .ez _ _⟩
  ·split at hv
   ·rename_i hcl
    simp only [Option.some.injEq, Prod.mk.injEq] at hv
    obtain ⟨rfl, rfl⟩ := hv
    have hA : ∀ z : Option Addr, (Instr.sliceAt t (.slice A len rc) lo' hi2 mx').run P w = .ok (.slice (if M = l then A else A.map (·.add (l * i.size))) (h' - l) (M - l)) w := fun _ => by
     simp [Instr.sliceAt, Instr.slice, run_und hd, h1, run_sz hi', pure, Sem.run]
    refine ⟨rfl, _, hA none, .rs _ _ _ _ _ (fun j => f (l * i.size + j)) (by omega) (fun j v hj => ?_) (fun j v hj => ?_) (fun hA => by
     split at hA
     ·omega
     ·have := hnl (by simpa using hA); omega)⟩
    ·obtain ⟨hjn, hg⟩ := C.get_sub hj
     have hM : ¬ M = l := by
      intro e
      have : h' - l = 0 := by omega
      rw [this] at hjn; simp at hjn
     obtain ⟨g1, r, o, hA', hI, g2⟩ := hcc _ _ hg
     exact ⟨g1, r, o + l * i.size, by rw [if_neg hM, hA']; simp [add_mk], hI, by rw [Nat.add_assoc]; exact g2⟩
    ·exact hf _ _ (C.get_sub hj).2
   ·cases hv
 ·rename_i s l0 h0
  obtain ⟨A, rc, f, rfl, hle, hcc, hf, hnl⟩ := (RelV.tb ρ s l0 _ h0).tb_inv
  split at h
  rotate_left
  ·simp only [Option.bind_eq_some_iff] at h
   obtain ⟨⟨l, h', mm⟩, hb, hv⟩ := h
   obtain ⟨M, h1, h2, h3, h4, h5, h6, h7, h8⟩ := sound_bnds (P := P) (isS := true) hl hh hm hle (fun c e => by cases e) hb
   simp only [] at hv
   split at hv <;> try (cases hv; done)
   rename_i hmm
   simp only [Option.some.injEq, Prod.mk.injEq] at hv
   obtain ⟨rfl, rfl⟩ := hv
   obtain rfl : M = 0 := (h5 0 hmm).symm
   obtain rfl : h' = 0 := by omega
   obtain rfl : l = 0 := by omega
   exact ⟨rfl, .slice A 0 0, by simp [Instr.sliceAt, Instr.slice, run_und hd, h1, run_sz hi', pure, Sem.run], .ez _ _⟩
  rename_i hsz
  simp only [Option.map_eq_some_iff, Prod.mk.injEq] at h
  obtain ⟨⟨l, h', mm⟩, hb, rfl, rfl⟩ := h
  have hmx : mx = none := by simpa using hsz.2
  subst hmx
  obtain ⟨M, h1, h2, h3, h4, h5, h6, h7, h8⟩ := sound_bnds (P := P) (isS := true) hl hh hm hle (fun c e => by cases e) hb
  obtain ⟨b1, b2⟩ := bnds_ends hb
  have hb' := bnds_le hb
  have hts : tsub l0 (lo.map R.c).isSome (hi.map R.c).isSome l h' = (l0.drop l).take (h' - l) := by
   cases lo <;> cases hi <;> simp only [Option.map_none, Option.map_some, Option.isSome_none, Option.isSome_some, tsub]
   ·rw [b1 rfl, b2 rfl]; simp
   ·rw [b1 rfl]; simp
   ·rw [b2 rfl, List.take_of_length_le (by simp)]
  show _ ∧ ∃ z, _ ∧ RelV m I w ρ (.tb s (tsub l0 (lo.map R.c).isSome (hi.map R.c).isSome l h')) z
  rw [hts]
  have hlen : ((l0.drop l).take (h' - l)).length = h' - l := by simp; omega
  have get : ∀ j v, (flat s ((l0.drop l).take (h' - l)))[j]? = some v → j < (h' - l) * i.size ∧ (flat s l0)[l * i.size + j]? = some v := fun j v hv => by
   rw [flat_take, flat_drop, hsz.1, List.getElem?_take] at hv
   split at hv
   ·rename_i hj; exact ⟨hj, by rw [← List.getElem?_drop]; exact hv⟩
   ·cases hv
  refine ⟨rfl, .slice (if M = l then A else A.map (·.add (l * i.size))) (h' - l) (M - l), ?_, .mk_tb (fun j => f (l * i.size + j)) hlen.symm (by omega) (fun j v hj => ?_) (fun j v hj => hf _ _ (get j v hj).2) (fun hA => by
    split at hA
    ·omega
    ·have := hnl (by simpa using hA); omega)⟩
  ·simp [Instr.sliceAt, Instr.slice, run_und hd, h1, run_sz hi', pure, Sem.run]
  ·obtain ⟨hjn, hg⟩ := get j v hj
   have hM : ¬ M = l := by
    intro e
    have : h' - l = 0 := by omega
    rw [this] at hjn; simp at hjn
   obtain ⟨r, o, hA', hI, g2⟩ := hcc _ _ hg
   exact ⟨r, o + l * i.size, by rw [if_neg hM, hA']; simp [add_mk], hI, by rw [Nat.add_assoc]; exact g2⟩

theorem sound_sla {t e : TypeId} {n : Nat} {i : TypeInfo} (hd : P.underlying t = some (.array n e)) (hi' : P.info? e = some i) {lo hi mx : Option V} {lo' hi2 mx' : Option Value} (hx : RelV m I w ρ p x)
  (hp : ∀ (i : Nat) (b : Blk), H[i]? = some b → Hb[i]? = some b) (hH : HRel m I O w ρ Hb) (hl : RelO m I w ρ lo lo') (hh : RelO m I w ρ hi hi2) (hm : RelO m I w ρ mx mx')
  (h : evQ (.sla n i.size (.c p) (lo.map .c) (hi.map .c) (mx.map .c)) [] H = some (v, news)) : news = [] ∧ ∃ z, (Instr.sliceAt t x lo' hi2 mx').run P w = .ok z w ∧ RelV m I w ρ v z := by
 have e1 : ∀ o : Option V, (o.map R.c).map (R.ev []) = o := fun o => by cases o <;> rfl
 simp only [evQ, R.ev, e1] at h
 cases hx <;> simp only [] at h <;> try (cases h; done)
 ·rename_i b off r hr
  split at h <;> try (cases h; done)
  rename_i hfit
  simp only [Option.map_eq_some_iff, Prod.mk.injEq] at h
  obtain ⟨⟨l, h', mm⟩, hb, hv, rfl⟩ := h
  obtain ⟨M, h1, h2, h3, h4, h5, h6, -⟩ := sound_bnds (P := P) (isS := false) hl hh hm (Nat.le_refl n) (fun c e => by injection e with e; exact e.symm) hb
  obtain ⟨k, hk, hk2⟩ : ∃ k, sizeOf? w r = some k ∧ off + n * i.size ≤ k := by
   unfold fits at hfit
   split at hfit
   ·rename_i ro c hbb
    obtain ⟨cs, e', fr, g1, _, g3, _⟩ := hH.at (hp _ _ hbb) hr
    refine ⟨cs.size, by simp [sizeOf?, g1], ?_⟩
    have : off + n * i.size ≤ c.len := by simpa using hfit
    omega
   ·cases hfit
  simp only [] at hv
  subst hv
  by_cases hM : M = l
  ·subst hM
   obtain rfl : h' = M := by omega
   refine ⟨rfl, .slice (some ⟨r, off, none⟩) 0 0, by simp [Instr.sliceAt, Instr.sureAddr, run_und hd, h1, run_sz hi', pure, Sem.run], ?_⟩
   rw [Nat.sub_self]
   refine .sl0 _ _ _ _ _ _ (fun c e => ?_)
   simp only [Option.map_eq_some_iff] at e
   obtain ⟨c', hc', rfl⟩ := e
   rw [h5 c' hc', Nat.sub_self]
  ·refine ⟨rfl, .slice (some ⟨r, off + l * i.size, none⟩) (h' - l) (M - l), by simp [Instr.sliceAt, Instr.sureAddr, run_und hd, h1, run_sz hi', hM, add_mk, pure, Sem.run], ?_⟩
   refine .sl1 _ _ _ _ _ _ r (M - l) k hr (by omega) (fun c e => ?_) hk ?_
   ·simp only [Option.map_eq_some_iff] at e
    obtain ⟨c', hc', rfl⟩ := e
    rw [h5 c' hc']
   ·have : l * i.size + (M - l) * i.size = M * i.size := by rw [← Nat.add_mul]; congr 1; omega
    have h7 : M * i.size ≤ n * i.size := Nat.mul_le_mul_right _ h4
    omega
 ·rename_i c r o f hI hcc hf
  simp only [Option.bind_eq_some_iff] at h
  obtain ⟨⟨l, h', mm⟩, hb, hv⟩ := h
  obtain ⟨M, h1, h2, h3, h4, h5, h6, -⟩ := sound_bnds (P := P) (isS := false) hl hh hm (Nat.le_refl n) (fun c e => by injection e with e; exact e.symm) hb
  simp only [] at hv
  split at hv
  ·simp only [Option.some.injEq, Prod.mk.injEq] at hv
   obtain ⟨rfl, rfl⟩ := hv
   refine ⟨rfl, .slice (some ⟨r, if M = l then o else o + l * i.size, none⟩) (h' - l) (M - l), ?_, .rs _ _ _ _ _ (fun j => f (l * i.size + j)) (by omega) (fun j v hj => ?_) (fun j v hj => ?_) (fun h => by cases h)⟩
   ·by_cases hM : M = l <;> simp [Instr.sliceAt, Instr.sureAddr, run_und hd, h1, run_sz hi', hM, add_mk, pure, Sem.run]
   ·obtain ⟨hjn, hg⟩ := C.get_sub hj
    have hM : ¬ M = l := by
     intro e
     have : h' - l = 0 := by omega
     rw [this] at hjn; simp at hjn
    obtain ⟨g1, g2⟩ := hcc _ _ hg
    exact ⟨g1, r, o + l * i.size, by rw [if_neg hM], hI, by rw [Nat.add_assoc]; exact g2⟩
   ·exact hf _ _ (C.get_sub hj).2
  ·cases hv
end

section
open Go
set_option linter.unusedSimpArgs false
set_option linter.unusedVariables false
variable {P : Program} {w : World} {m : Nat → Option Nat} {I O : Nat → Prop} {ρ : Pl} {H Hb : List Blk} {p q v : V} {x y : Value} {news : List Blk}

/-- the machine's cells of a content -/
def CRel (m : Nat → Option Nat) (I : Nat → Prop) (w : World) (ρ : Pl) (c : C) (xs : List Value) : Prop :=
 xs.length = c.len ∧ (∀ j v, c.get j = some v → v.isCell = true) ∧ (∀ (j : Nat) (v : V) (x : Value), c.get j = some v → xs[j]? = some x → RelV m I w (plC c ρ) v x)

theorem src_sl (hp : ∀ (i : Nat) (b : Blk), H[i]? = some b → Hb[i]? = some b) (hH : HRel m I O w ρ Hb) {sz n : Nat} {c : C} (h : src H sz p = some (n, c)) (hx : RelV m I w ρ p x) (hs : ∀ s, p ≠ .str s) :
  c.len = n * sz ∧ ∃ A rc xs, x = .slice A n rc ∧ n ≤ rc ∧ CRel m I w ρ c xs ∧ (c.len = 0 ∨ ∃ r o, A = some ⟨r, o, none⟩ ∧ ∀ (j : Nat) (y : Value), xs[j]? = some y → w.cell? ⟨r, o + j, none⟩ = some y) := by
 cases hx <;> simp only [src] at h <;> try (cases h; done)
 ·exact absurd rfl (hs _)
 ·simp only [Option.some.injEq, Prod.mk.injEq] at h
  obtain ⟨rfl, rfl⟩ := h
  exact ⟨by simp [C.len], none, 0, [], rfl, Nat.le_refl _, ⟨rfl, fun j v h => by simp [C.get] at h, fun j v x h => by simp [C.get] at h⟩, .inl rfl⟩
 ·rename_i A
  simp only [Option.some.injEq, Prod.mk.injEq] at h
  obtain ⟨rfl, rfl⟩ := h
  exact ⟨by simp [C.len], A, 0, [], rfl, Nat.le_refl _, ⟨rfl, fun j v h => by simp [C.get] at h, fun j v x h => by simp [C.get] at h⟩, .inl rfl⟩
 ·rename_i A rc
  simp only [Option.some.injEq, Prod.mk.injEq] at h
  obtain ⟨rfl, rfl⟩ := h
  exact ⟨by simp [C.len], some A, rc, [], rfl, Nat.zero_le _, ⟨rfl, fun j v h => by simp [C.get] at h, fun j v x h => by simp [C.get] at h⟩, .inl rfl⟩
 ·rename_i b off sz' cap A hc
  split at h <;> try (cases h; done)
  split at h <;> try (cases h; done)
  rename_i ro c' hb hle
  simp only [Option.some.injEq, Prod.mk.injEq] at h
  obtain ⟨rfl, rfl⟩ := h
  have hl : (c'.sub off (0 * sz)).len = 0 := by rw [C.len_sub hle]; simp
  refine ⟨by rw [hl]; simp, A, 0, [], rfl, Nat.le_refl _, ⟨by rw [hl]; rfl, fun j v h => ?_, fun j v x h => ?_⟩, .inl hl⟩
  ·have := C.get_lt h; omega
  ·have := C.get_lt h; omega
 ·rename_i b off len sz' cap r rc n' hh2 hh3 hh4 hh5 hh1
  split at h <;> try (cases h; done)
  split at h <;> try (cases h; done)
  rename_i ro c' hb hle
  simp only [Option.some.injEq, Prod.mk.injEq] at h
  obtain ⟨rfl, rfl⟩ := h
  have hB := hH.at (hp _ _ hb) hh1
  obtain ⟨xs, h1, h2, h3⟩ := cells_of (m := m) (I := I) (w := w) (ρ := ρ) (c := c'.sub off (len * sz)) (r := r) (o := off) (fun j v hv => by
   obtain ⟨hj, hg⟩ := C.get_sub hv
   obtain ⟨_, z, hz, hr⟩ := hB.cell hg
   exact ⟨z, hz, by rw [plC_sub]; exact hr⟩)
  exact ⟨C.len_sub hle, _, rc, xs, rfl, hh2, ⟨h1, fun j v hv => (hB.cell (C.get_sub hv).2).1, h3⟩, .inr ⟨r, off, rfl, h2⟩⟩
 ·rename_i len c' A rc f hle hcc hf hnl
  split at h <;> try (cases h; done)
  rename_i hcl
  simp only [Option.some.injEq, Prod.mk.injEq] at h
  obtain ⟨rfl, rfl⟩ := h
  by_cases h0 : c'.len = 0
  ·refine ⟨hcl, A, rc, [], rfl, hle, ⟨by simp [h0], fun j v hv => ?_, fun j v x hv => ?_⟩, .inl h0⟩
   ·have := C.get_lt hv; omega
   ·have := C.get_lt hv; omega
  ·obtain ⟨v0, hv0⟩ := C.get_some (c := c') (j := 0) (by omega)
   obtain ⟨_, r, o, hA, hI, _⟩ := hcc _ _ hv0
   subst hA
   have key : ∀ j v, c'.get j = some v → v.isCell = true ∧ w.cell? ⟨r, o + j, none⟩ = some (f j) := fun j v hv => by
    obtain ⟨h1, r', o', hA', _, h2⟩ := hcc _ _ hv
    simp only [Option.some.injEq, Addr.mk.injEq, and_true] at hA'
    obtain ⟨rfl, rfl⟩ := hA'
    exact ⟨h1, h2⟩
   obtain ⟨xs, h1, h2, h3⟩ := cells_of (m := m) (I := I) (w := w) (ρ := ρ) (c := c') (r := r) (o := o) (fun j v hv => ⟨f j, (key j v hv).2, (hf j v hv).mono (fun _ h => h) (fun _ _ => rfl) (fun _ _ h => h) _ (fun i r hi => by cases hi)⟩)
   exact ⟨hcl, _, rc, xs, rfl, hle, ⟨h1, fun j v hv => (key j v hv).1, h3⟩, .inr ⟨r, o, rfl, h2⟩⟩
 ·rename_i s l h0
  obtain ⟨A, rc, f, rfl, hle, hcc, hf, hnl⟩ := (RelV.tb ρ s l _ h0).tb_inv
  split at h <;> try (cases h; done)
  rename_i hsz
  have he : (l.length, tbC s l) = (n, c) := by cases s <;> simpa [tbC] using h
  simp only [Prod.mk.injEq] at he
  obtain ⟨rfl, rfl⟩ := he
  have hcl : (tbC s l).len = l.length * s.size := by
   have h1 := flat_len s l
   cases s <;> first | exact h1 | skip
   show List.length l = _; simp [Sh.size]
  rw [← hsz]
  by_cases h0 : (tbC s l).len = 0
  ·refine ⟨hcl, A, rc, [], rfl, hle, ⟨by simp [h0], fun j v hv => ?_, fun j v x hv => ?_⟩, .inl h0⟩
   ·have := C.get_lt hv; omega
   ·have := C.get_lt hv; omega
  ·obtain ⟨v0, hv0⟩ := C.get_some (c := tbC s l) (j := 0) (by omega)
   obtain ⟨r, o, hA, hI, _⟩ := hcc _ _ (by rw [← tbC_get]; exact hv0)
   subst hA
   have key : ∀ j v, (tbC s l).get j = some v → v.isCell = true ∧ w.cell? ⟨r, o + j, none⟩ = some (f j) := fun j v hv => by
    rw [tbC_get] at hv
    obtain ⟨r', o', hA', _, h2⟩ := hcc _ _ hv
    simp only [Option.some.injEq, Addr.mk.injEq, and_true] at hA'
    obtain ⟨rfl, rfl⟩ := hA'
    exact ⟨(flat_cell s l v (List.mem_of_getElem? hv)).1, h2⟩
   obtain ⟨xs, h1, h2, h3⟩ := cells_of (m := m) (I := I) (w := w) (ρ := ρ) (c := tbC s l) (r := r) (o := o) (fun j v hv => ⟨f j, (key j v hv).2, (hf j v (by rw [← tbC_get]; exact hv)).mono (fun _ h => h) (fun _ _ => rfl) (fun _ _ h => h) _ (fun i r hi => by cases hi)⟩)
   exact ⟨hcl, _, rc, xs, rfl, hle, ⟨h1, fun j v hv => (key j v hv).1, h3⟩, .inr ⟨r, o, rfl, h2⟩⟩

theorem run_firstCells {A : Option Addr} {n rc sz : Nat} {xs : List Value} (hl : xs.length = n * sz) (h : xs.length = 0 ∨ ∃ r o, A = some ⟨r, o, none⟩ ∧ ∀ (j : Nat) (y : Value), xs[j]? = some y → w.cell? ⟨r, o + j, none⟩ = some y) :
  (Builtin.firstCells sz n (.slice A n rc)).run P w = .ok xs.toArray w := by
 rcases h with h | ⟨r, o, rfl, h⟩
 ·obtain rfl : xs = [] := List.length_eq_zero_iff.1 h
  cases A
  ·rfl
  ·rename_i a
   have : n * sz = 0 := by rw [← hl]; rfl
   simp only [Builtin.firstCells, this]; rfl
 ·simp only [Builtin.firstCells, ← hl]
  exact run_loadCells h

/-- of a slice, or a text, that is appended, or copied: how many elements, and their cells -/
theorem src_any (hp : ∀ (i : Nat) (b : Blk), H[i]? = some b → Hb[i]? = some b) (hH : HRel m I O w ρ Hb) {sz n : Nat} {c : C} (h : src H sz p = some (n, c)) (hx : RelV m I w ρ p x) :
  c.len = n * sz ∧ ∃ xs, CRel m I w ρ c xs ∧ (∀ (P : Program) (w : World), (Builtin.lenOf x).run P w = .ok n w) ∧ (∀ (P : Program) (w2 : World), w2.heap = w.heap → (Builtin.firstCells sz n x).run P w2 = .ok xs.toArray w2) ∧ (∀ k z, x ≠ .int k z) ∧
   (∀ (P : Program) (k : Nat), k ≤ n → (Builtin.firstCells sz k x).run P w = .ok (xs.take (k * sz)).toArray w) := by
 by_cases hs : ∃ s, p = .str s
 ·obtain ⟨s, rfl⟩ := hs
  cases hx
  simp only [src] at h
  split at h <;> try (cases h; done)
  rename_i h1
  subst h1
  simp only [Option.some.injEq, Prod.mk.injEq] at h
  obtain ⟨rfl, rfl⟩ := h
  refine ⟨by simp [C.len], s.map fun b => .int .u8 (b.toNat : Int), ⟨by simp [C.len], fun j v hv => ?_, fun j v x hv hx => ?_⟩, fun P w => ?_, fun P w2 hw2 => ?_, by simp, fun P k hk => ?_⟩
  ·simp only [C.get, Option.map_eq_some_iff] at hv
   obtain ⟨n, _, rfl⟩ := hv; rfl
  ·simp only [C.get, List.getElem?_map, Option.map_eq_some_iff] at hv hx
   obtain ⟨n, ⟨b, hb, rfl⟩, rfl⟩ := hv
   obtain ⟨b', hb', rfl⟩ := hx
   rw [hb] at hb'; injection hb' with hb'; subst hb'
   exact .int _ _ _
  ·simp [Builtin.lenOf, size_mk, pure, Sem.run]
  ·have : (⟨s.toArray⟩ : ByteArray).extract 0 s.length = ⟨s.toArray⟩ := by
    apply ByteArray.ext
    apply Array.ext'
    simp [ByteArray.data_extract, Array.toList_extract, List.extract]
   simp [Builtin.firstCells, this, pure, Sem.run]
  ·have : ((⟨s.toArray⟩ : ByteArray).extract 0 k).data = (s.take k).toArray := by
    apply Array.ext'
    simp [ByteArray.data_extract, Array.toList_extract, List.extract]
   simp [Builtin.firstCells, this, pure, Sem.run, List.map_take]
 ·obtain ⟨h1, A, rc, xs, rfl, h2, h3, h4⟩ := src_sl hp hH h hx (fun s e => hs ⟨s, e⟩)
  refine ⟨h1, xs, h3, fun P w => rfl, fun P w2 hw2 => run_firstCells (by rw [h3.1, h1]) ?_, by simp, fun P k hk => ?_⟩
  ·have hc : ∀ a, w2.cell? a = w.cell? a := fun a => by unfold World.cell?; rw [hw2]
   rw [h3.1]
   rcases h4 with h4 | ⟨r, o, e, h4⟩
   ·exact .inl h4
   ·exact .inr ⟨r, o, e, fun j y hy => by rw [hc]; exact h4 j y hy⟩
  ·have hkl : (xs.take (k * sz)).length = k * sz := by
    have : k * sz ≤ n * sz := Nat.mul_le_mul_right _ hk
    rw [List.length_take, h3.1, h1]; omega
   have hfc : Builtin.firstCells sz k (.slice A n rc) = Builtin.firstCells sz k (.slice A k rc) := by cases A <;> rfl
   rw [hfc]
   refine run_firstCells hkl ?_
   rcases h4 with h4 | ⟨r, o, e, h4⟩
   ·left; rw [List.length_take, h3.1, h4]; omega
   ·right
    refine ⟨r, o, e, fun j y hy => h4 j y ?_⟩
    rw [List.getElem?_take] at hy
    split at hy
    ·exact hy
    ·cases hy

theorem sound_b2s {s d e : TypeId} (hs : P.underlying s = some (.slice e)) (he : P.underlying e = some (.int .u8)) (hd : P.underlying d = some .string) (hp : ∀ (i : Nat) (b : Blk), H[i]? = some b → Hb[i]? = some b) (hH : HRel m I O w ρ Hb)
  (hx : RelV m I w ρ p x) (h : evQ (.b2s (.c p)) [] H = some (v, news)) : news = [] ∧ ∃ z, (convert s d x).run P w = .ok z w ∧ RelV m I w ρ v z := by
 simp only [evQ, R.ev] at h
 split at h <;> try (cases h; done)
 rename_i hst
 have hns : ∀ s, p ≠ .str s := fun s e => by subst e; simp [isStr] at hst
 have conv : ∀ A n rc, (convert s d (.slice A n rc)).run P w = (Conv.bytesToString (.slice A n rc)).run P w := fun A n rc => by
  simp [convert, run_und hs, run_und hd, run_und he]
 split at h <;> try (cases h; done)
 ·rename_i n l hsrc
  simp only [Option.some.injEq, Prod.mk.injEq] at h
  obtain ⟨rfl, rfl⟩ := h
  obtain ⟨h1, A, rc, xs, rfl, h2, ⟨h3, h4, h5⟩, h6⟩ := src_sl hp hH hsrc hx hns
  have hxs : xs = l.map (Value.int .u8) := by
   apply List.ext_getElem?
   intro j
   by_cases hj : j < l.length
   ·have hj' : j < xs.length := by rw [h3]; exact hj
    have := h5 j (.int .u8 l[j]) xs[j] (by simp [C.get, hj]) (List.getElem?_eq_getElem hj')
    rw [List.getElem?_eq_getElem hj', List.getElem?_map, List.getElem?_eq_getElem hj]
    generalize xs[j] = z at this
    cases this; rfl
   ·rw [List.getElem?_eq_none (by rw [h3]; simpa [C.len] using hj), List.getElem?_eq_none (by simpa using hj)]
  refine ⟨rfl, .string ⟨(l.map fun n => UInt8.ofNat n.toNat).toArray⟩, ?_, .str _ _⟩
  rw [conv]
  have hn : n = l.length := by simp [C.len] at h1; omega
  subst hn
  rcases h6 with h6 | ⟨r, o, rfl, h6⟩
  ·have : l = [] := List.length_eq_zero_iff.1 (by simpa [C.len] using h6)
   subst this
   cases A
   ·rfl
   ·simp only [Conv.bytesToString, List.length_nil]; rfl
  ·have hlc := run_loadCells (P := P) h6
   rw [hxs] at hlc
   rw [List.length_map] at hlc
   rw [run_bytesToString (P := P) w ⟨r, o, none⟩ l.length rc l hlc, foldl_push_bytes]
   simp [ByteArray.empty, ByteArray.emptyWithCapacity]
   rfl
 ·rename_i n hsrc
  simp only [Option.some.injEq, Prod.mk.injEq] at h
  obtain ⟨rfl, rfl⟩ := h
  obtain ⟨h1, A, rc, xs, rfl, h2, _, _⟩ := src_sl hp hH hsrc hx hns
  have hn : n = 0 := by simp [C.len] at h1; omega
  subst hn
  refine ⟨rfl, .string ⟨([] : List UInt8).toArray⟩, ?_, .str _ _⟩
  rw [conv]
  cases A
  ·rfl
  ·simp only [Conv.bytesToString]; rfl
end

section
open Go
set_option linter.unusedSimpArgs false
set_option linter.unusedVariables false
variable {P : Program} {w : World} {m : Nat → Option Nat} {I O : Nat → Prop} {ρ : Pl} {H Hb : List Blk} {p q v : V} {x y : Value} {news : List Blk}

/-- a step that turns no block that was there; lo, hi: the numbers that may be placed by it -/
structure Grow (lo hi : Nat) (I O : Nat → Prop) (w : World) (ρ : Pl) (I' O' : Nat → Prop) (w' : World) (ρ' : Pl) : Prop where
 imm : ∀ k, I k → I' k
 imm' : ∀ k, I' k → I k ∨ w.heap.size ≤ k
 own : ∀ k, O k → O' k
 own' : ∀ k, O' k → O k ∨ w.heap.size ≤ k
 pl : ∀ i r, ρ i = some r → ρ' i = some r
 pl' : ∀ i r, ρ' i = some r → ρ i = some r ∨ (lo ≤ i ∧ i < hi ∧ w.heap.size ≤ r)
 size : w.heap.size ≤ w'.heap.size
 block : ∀ k, k < w.heap.size → w'.heap[k]? = w.heap[k]?
 os : w'.os = w.os
 tape : w'.tape = w.tape
 output : w'.output = w.output

theorem Grow.sizes {lo hi : Nat} {I' O' : Nat → Prop} {w' : World} {ρ' : Pl} (h : Grow lo hi I O w ρ I' O' w' ρ') : ∀ k n, sizeOf? w k = some n → sizeOf? w' k = some n := by
 intro k n hn
 have hk : k < w.heap.size := by
  rcases Nat.lt_or_ge k w.heap.size with h | h
  ·exact h
  ·simp [sizeOf?, Array.getElem?_eq_none h] at hn
 unfold sizeOf? at *
 rw [h.block k hk]; exact hn
theorem Grow.mono {lo hi : Nat} {I' O' : Nat → Prop} {w' : World} {ρ' : Pl} (h : Grow lo hi I O w ρ I' O' w' ρ') (hi' : ∀ k, I k → k < w.heap.size) : Mono I w ρ I' w' ρ' :=
 ⟨h.imm, h.pl, fun k hk => h.block k (hi' k hk), h.sizes⟩
theorem Grow.ext {lo hi : Nat} {I' O' : Nat → Prop} {w' : World} {ρ' : Pl} (h : Grow lo hi I O w ρ I' O' w' ρ') : Ext O w w' :=
 ⟨h.os, h.tape, h.output, h.size, fun k hk _ => h.block k hk, h.sizes⟩
theorem Grow.refl (lo hi : Nat) (I O : Nat → Prop) (w : World) (ρ : Pl) : Grow lo hi I O w ρ I O w ρ :=
 ⟨fun _ h => h, fun _ h => .inl h, fun _ h => h, fun _ h => .inl h, fun _ _ h => h, fun _ _ h => .inl h, Nat.le_refl _, fun _ _ => rfl, rfl, rfl, rfl⟩
theorem Grow.trans {lo hi : Nat} {I1 O1 I2 O2 : Nat → Prop} {w1 w2 : World} {ρ1 ρ2 : Pl} (h : Grow lo hi I O w ρ I1 O1 w1 ρ1) (h' : Grow lo hi I1 O1 w1 ρ1 I2 O2 w2 ρ2) : Grow lo hi I O w ρ I2 O2 w2 ρ2 :=
 ⟨fun k hk => h'.imm k (h.imm k hk),
  fun k hk => (h'.imm' k hk).elim (h.imm' k) (fun hk => .inr (Nat.le_trans h.size hk)),
  fun k hk => h'.own k (h.own k hk),
  fun k hk => (h'.own' k hk).elim (h.own' k) (fun hk => .inr (Nat.le_trans h.size hk)),
  fun i r hr => h'.pl i r (h.pl i r hr),
  fun i r hr => (h'.pl' i r hr).elim (h.pl' i r) (fun ⟨a, b, c⟩ => .inr ⟨a, b, Nat.le_trans h.size c⟩),
  Nat.le_trans h.size h'.size, fun k hk => (h'.block k (Nat.lt_of_lt_of_le hk h.size)).trans (h.block k hk),
  h'.os.trans h.os, h'.tape.trans h.tape, h'.output.trans h.output⟩
theorem Grow.widen {lo hi lo' hi' : Nat} {I' O' : Nat → Prop} {w' : World} {ρ' : Pl} (h : Grow lo hi I O w ρ I' O' w' ρ') (h1 : lo' ≤ lo) (h2 : hi ≤ hi') : Grow lo' hi' I O w ρ I' O' w' ρ' :=
 { h with pl' := fun i r hr => (h.pl' i r hr).imp id (fun ⟨a, b, c⟩ => ⟨Nat.le_trans h1 a, Nat.lt_of_lt_of_le b h2, c⟩) }

theorem BRel.mono {I' O' : Nat → Prop} {w' : World} {ρ' : Pl} {r : Nat} {b : Blk} (h : BRel m I O w ρ r b) (hm : Mono I w ρ I' w' ρ') (ho : ∀ k, O k → O' k) (hb : w'.heap[r]? = w.heap[r]?) : BRel m I' O' w' ρ' r b := by
 cases b with
 | dead => exact trivial
 | iter s pos => exact ⟨hb.trans h.1, ho _ h.2⟩
 | cells ro c =>
  obtain ⟨cs, e, fr, h1, h2, h3, h4, h5, h6, h7⟩ := h
  exact ⟨cs, e, fr, hb.trans h1, h2, h3, h4, fun j v x hv hx => hm.relC (h5 j v x hv hx), fun e => ho _ (h6 e), fun e => hm.imm _ (h7 e)⟩

/-- the placement with one more block -/
def plus (ρ : Pl) (i r : Nat) : Pl := fun j => if j = i then some r else ρ j

/-- a new block: b in the evaluator's heap, obj in the machine's -/
theorem grow_new {w' : World} {obj : Obj} {i : Nat} {b : Blk} (hw : w'.heap = w.heap.push obj) (h1 : w'.os = w.os) (h2 : w'.tape = w.tape) (h3 : w'.output = w.output) (hH : HRel m I O w ρ Hb) (hi : ρ i = none)
  (hb : Hb[i]? = some b)
  (hr : ∀ O' ρ', (∀ k, O k → O' k) → O' w.heap.size → Mono I w ρ I w' ρ' → BRel m I O' w' ρ' w.heap.size b) :
  HRel m I (fun k => O k ∨ k = w.heap.size) w' (plus ρ i w.heap.size) Hb ∧ Grow i (i + 1) I O w ρ I (fun k => O k ∨ k = w.heap.size) w' (plus ρ i w.heap.size) := by
 have hold : ∀ k, k < w.heap.size → w'.heap[k]? = w.heap[k]? := fun k hk => by rw [hw, Array.getElem?_push, if_neg (by omega)]
 have hg : Grow i (i + 1) I O w ρ I (fun k => O k ∨ k = w.heap.size) w' (plus ρ i w.heap.size) := by
  refine ⟨fun _ h => h, fun _ h => .inl h, fun _ h => .inl h, fun k h => h.imp id (fun e => by omega), fun j r hj => ?_, fun j r hj => ?_, by rw [hw]; simp, hold, h1, h2, h3⟩
  ·unfold plus; split
   ·rename_i e; subst e; rw [hi] at hj; cases hj
   ·exact hj
  ·unfold plus at hj; split at hj
   ·rename_i e; subst e; injection hj with hj; exact .inr ⟨Nat.le_refl _, Nat.lt_succ_self _, Nat.le_of_eq hj⟩
   ·exact .inl hj
 have hm := hg.mono hH.imm
 refine ⟨⟨fun a b r ha hb la lb => ?_, fun j r hj => ?_, fun j r hj => ?_, fun k hk => ?_, fun k hk => ?_, fun k hk => ?_, hH.tab.step hm.imm hm.block⟩, hg⟩
 ·unfold plus at ha hb
  split at ha <;> split at hb
  ·omega
  ·injection ha with ha; have := hH.lt _ _ hb; omega
  ·injection hb with hb; have := hH.lt _ _ ha; omega
  ·exact hH.inj a b r ha hb la lb
 ·unfold plus at hj; split at hj
  ·rename_i e; subst e; injection hj with hj; subst hj
   exact ⟨b, hb, hr _ _ (fun _ h => .inl h) (.inr rfl) hm⟩
  ·obtain ⟨b', g1, g2⟩ := hH.blk j r hj
   exact ⟨b', g1, g2.mono hm (fun _ h => .inl h) (hold _ (hH.lt _ _ hj))⟩
 ·unfold plus at hj; split at hj
  ·injection hj with hj; subst hj; rw [hw]; simp
  ·have := hH.lt _ _ hj; rw [hw]; simp; omega
 ·rw [hw]; simp
  rcases hk with hk | hk
  ·have := hH.own _ hk; omega
  ·omega
 ·have := hH.imm _ hk; rw [hw]; simp; omega
 ·rintro (h | h)
  ·exact hH.dis _ hk h
  ·have := hH.imm _ hk; omega

/-- a new block of cells -/
theorem new_cells {w' : World} {cs : Array Value} {e : TypeId} {c : C} {xs : List Value} (hw : w'.heap = w.heap.push (.cells cs e (0, 0))) {O' : Nat → Prop} {ρ' : Pl} (ho : O' w.heap.size) (hm : Mono I w ρ I w' ρ') (hc : CRel m I w ρ c xs)
  (hx : ∀ (j : Nat) (x : Value), xs[j]? = some x → cs[j]? = some x) : BRel m I O' w' ρ' w.heap.size (.cells false c) := by
 have hg : w'.heap[w.heap.size]? = some (.cells cs e (0, 0)) := by rw [hw]; simp
 refine ⟨cs, e, (0, 0), hg, .inl rfl, ?_, hc.2.1, fun j v x hv hxx => ?_, fun _ => ho, fun e => by cases e⟩
 ·rw [← hc.1]
  rcases Nat.lt_or_ge cs.size xs.length with hlt | hge
  ·have := hx cs.size xs[cs.size] (List.getElem?_eq_getElem hlt)
   simp at this
  ·exact hge
 ·have hlt : j < xs.length := by rw [hc.1]; exact C.get_lt hv
  have h1 := hx j xs[j] (List.getElem?_eq_getElem hlt)
  rw [h1] at hxx; injection hxx with hxx; subst hxx
  exact hm.relC (hc.2.2 j v _ hv (List.getElem?_eq_getElem hlt))

/-- what a quiet operation leaves -/
def QPost (m : Nat → Option Nat) (P : Program) (s : Sem Value) (lo n : Nat) (Hb : List Blk) (I O : Nat → Prop) (w : World) (ρ : Pl) (v : V) : Prop :=
 ∃ z w' I' O' ρ', s.run P w = .ok z w' ∧ RelV m I' w' ρ' v z ∧ HRel m I' O' w' ρ' Hb ∧ Grow lo (lo + n) I O w ρ I' O' w' ρ'

theorem QPost.same {s : Sem Value} {lo n : Nat} {z : Value} (hH : HRel m I O w ρ Hb) (h : s.run P w = .ok z w) (hr : RelV m I w ρ v z) : QPost m P s lo n Hb I O w ρ v :=
 ⟨z, w, I, O, ρ, h, hr, hH, .refl _ _ _ _ _ _⟩

/-- a pointer to a new block of cells -/
theorem QPost.new {s : Sem Value} {lo : Nat} {c : C} {xs : List Value} {cs : Array Value} {e : TypeId} {w' : World} {z : Value} (hH : HRel m I O w ρ Hb) (hw : w'.heap = w.heap.push (.cells cs e (0, 0))) (h1 : w'.os = w.os) (h2 : w'.tape = w.tape) (h3 : w'.output = w.output)
  (hb : Hb[lo]? = some (.cells false c)) (hn : ρ lo = none) (hc : CRel m I w ρ c xs) (hx : ∀ (j : Nat) (x : Value), xs[j]? = some x → cs[j]? = some x)
  (hs : s.run P w = .ok z w') (hv : ∀ ρ' : Pl, ρ' lo = some w.heap.size → sizeOf? w' w.heap.size = some cs.size → RelV m I w' ρ' v z) : QPost m P s lo 1 Hb I O w ρ v := by
 obtain ⟨g1, g2⟩ := grow_new hw h1 h2 h3 hH hn hb (fun O' ρ' ho hz hm => new_cells hw hz hm hc hx)
 refine ⟨z, w', I, _, _, hs, hv _ (by simp [plus]) ?_, g1, g2⟩
 simp [sizeOf?, hw]
end

section
open Go
set_option linter.unusedSimpArgs false
set_option linter.unusedVariables false
variable {P : Program} {w : World} {m : Nat → Option Nat} {I O : Nat → Prop} {ρ : Pl} {H Hb : List Blk} {p q v : V} {x y : Value} {news : List Blk}

/-! ### constants -/
def ofCell : Value → Option V
 | .int k n => some (.int k n)
 | .bool b => some (.bool b)
 | .string s => some (.str s.data.toList)
 | .pointer none => some .nilp
 | .slice none 0 0 => some .nils
 | .nilFunc => some .nilf
 | .nilIface => some .nili
 | _ => none
def allInts (k : IntKind) : List Value → Option (List Int)
 | [] => some []
 | .int k' n :: r => if k = k' then (allInts k r).map (n :: ·) else none
 | _ :: _ => none
def contentOf (l : List Value) : Option C :=
 match l with
 | [] => some (.imm [])
 | .int k n :: r =>
  match allInts k (.int k n :: r) with
  | some l => some (.ints k l)
  | none => (l.mapM ofCell).map .vals
 | l => (l.mapM ofCell).map .vals
def ofValue : Value → Option V
 | .agg cs => (contentOf cs.toList).map .agg
 | v => ofCell v

theorem ofCell_rel (h : ofCell x = some v) : v.isCell = true ∧ RelV m I w ρ v x := by
 unfold ofCell at h
 split at h <;> try (cases h; done)
 all_goals (injection h with h; subst h; refine ⟨rfl, ?_⟩)
 ·exact .int _ _ _
 ·exact .bool _ _
 ·exact .str _ _
 ·exact .nilp _
 ·exact .nils _
 ·exact .nilf _
 ·exact .nili _
theorem allInts_eq {k : IntKind} : ∀ {l : List Value} {r : List Int}, allInts k l = some r → l = r.map (Value.int k)
 | [], r, h => by simp [allInts] at h; subst h; rfl
 | x :: l, r, h => by
  cases x <;> simp only [allInts] at h <;> try (cases h; done)
  split at h
  ·rename_i e; subst e
   simp only [Option.map_eq_some_iff] at h
   obtain ⟨r', h1, h2⟩ := h
   subst h2
   rw [allInts_eq h1]; rfl
  ·cases h
theorem mapM_get {α β : Type} {f : α → Option β} : ∀ {l : List α} {r : List β}, l.mapM f = some r → r.length = l.length ∧ ∀ (j : Nat) (a : α) (b : β), l[j]? = some a → r[j]? = some b → f a = some b
 | [], r, h => by simp at h; subst h; exact ⟨rfl, fun j a b h => by simp at h⟩
 | x :: l, r, h => by
  simp only [List.mapM_cons, Option.bind_eq_bind, Option.bind_eq_some_iff, Option.pure_def, Option.some.injEq] at h
  obtain ⟨y, h1, r', h2, rfl⟩ := h
  obtain ⟨h3, h4⟩ := mapM_get h2
  refine ⟨by simp [h3], fun j a b ha hb => ?_⟩
  cases j with
  | zero => simp at ha hb; subst ha; subst hb; exact h1
  | succ j => exact h4 j a b (by simpa using ha) (by simpa using hb)
theorem ints_rel {k : IntKind} (l : List Int) : CRel m I w ρ (.ints k l) (l.map (Value.int k)) := by
 refine ⟨by simp [C.len], fun j v h => ?_, fun j v x h hx => ?_⟩
 ·simp only [C.get, Option.map_eq_some_iff] at h
  obtain ⟨n, _, rfl⟩ := h; rfl
 ·simp only [C.get, List.getElem?_map, Option.map_eq_some_iff] at h hx
  obtain ⟨n, hn, rfl⟩ := h
  obtain ⟨n', hn', rfl⟩ := hx
  rw [hn] at hn'; injection hn' with hn'; subst hn'
  exact .int _ _ _
theorem contentOf_rel {l : List Value} {c : C} (h : contentOf l = some c) : CRel m I w ρ c l := by
 have vals : ∀ c, (l.mapM ofCell).map C.vals = some c → CRel m I w ρ c l := by
  intro c h
  simp only [Option.map_eq_some_iff] at h
  obtain ⟨vs, h1, rfl⟩ := h
  obtain ⟨h2, h3⟩ := mapM_get h1
  refine ⟨h2.symm, fun j v hv => ?_, fun j v x hv hx => ?_⟩
  ·have hlt : j < l.length := by rw [← h2]; exact C.get_lt hv
   exact (ofCell_rel (m := m) (I := I) (w := w) (ρ := ρ) (h3 j l[j] v (List.getElem?_eq_getElem hlt) hv)).1
  ·exact (ofCell_rel (h3 j x v hx hv)).2
 unfold contentOf at h
 split at h
 ·injection h with h; subst h
  exact ⟨rfl, fun j v h => by simp [C.get] at h, fun j v x h => by simp [C.get] at h⟩
 ·rename_i k n r
  split at h
  ·rename_i l' h'
   injection h with h; subst h
   rw [allInts_eq h']
   exact ints_rel l'
  ·exact vals _ h
 ·exact vals _ h
theorem ofValue_rel (h : ofValue x = some v) : RelV m I w ρ v x := by
 unfold ofValue at h
 split at h
 ·rename_i cs
  simp only [Option.map_eq_some_iff] at h
  obtain ⟨c, h1, rfl⟩ := h
  obtain ⟨h2, h3, h4⟩ := contentOf_rel (m := m) (I := I) (w := w) (ρ := ρ) h1
  exact .agg _ _ _ (by simpa using h2) h3 (fun j v x hv hx => h4 j v x hv (by simpa using hx))
 ·exact (ofCell_rel h).2

/-! ### contents -/
theorem plC_imp {c d : C} (h : c.isImm = true → d.isImm = true) (hr : RelV m I w (plC d ρ) v x) : RelV m I w (plC c ρ) v x := by
 cases hc : c.isImm
 ·have : plC c ρ = ρ := by simp [plC, hc]
  rw [this]; exact plC_to hr
 ·have h1 : plC c ρ = noPl := by simp [plC, hc]
  have h2 : plC d ρ = noPl := by simp [plC, h hc]
  rw [h1]; rwa [h2] at hr
theorem get_put_list {α : Type} (l m : List α) (o j : Nat) (h : o + m.length ≤ l.length) :
  (l.take o ++ m ++ l.drop (o + m.length))[j]? = if j < o then l[j]? else if j < o + m.length then m[j - o]? else l[j]? := by
 have ht : (l.take o).length = o := by simp; omega
 split
 ·rename_i h1
  rw [List.append_assoc, List.getElem?_append_left (by omega), List.getElem?_take, if_pos h1]
 ·rename_i h1
  rw [List.append_assoc, List.getElem?_append_right (by omega), ht]
  split
  ·rename_i h2
   rw [List.getElem?_append_left (by omega)]
  ·rename_i h2
   rw [List.getElem?_append_right (by omega), List.getElem?_drop]
   congr 1; omega
theorem C.get_put {c d c' : C} {o : Nat} (h : c.put o d = some c') : o + d.len ≤ c.len ∧ c'.len = c.len ∧ (c'.isImm = true → c.isImm = true ∧ d.isImm = true) ∧
  ∀ j, c'.get j = if j < o then c.get j else if j < o + d.len then d.get (j - o) else c.get j := by
 have mapget : ∀ (k : IntKind) (l : List Int) (j : Nat), (l[j]?).map (V.int k) = (C.ints k l).get j := fun _ _ _ => rfl
 cases c with
 | ints k l =>
  cases d <;> simp only [C.put] at h <;> try (cases h; done)
  rename_i k' l'
  split at h <;> try (cases h; done)
  rename_i hc
  obtain ⟨rfl, hc⟩ := hc
  injection h with h; subst h
  refine ⟨hc, by simp [C.len]; omega, fun h => by simp [C.isImm] at h, fun j => ?_⟩
  show ((l.take o ++ l' ++ l.drop (o + l'.length))[j]?).map (V.int k) = if j < o then (l[j]?).map (V.int k) else if j < o + l'.length then (l'[j - o]?).map (V.int k) else (l[j]?).map (V.int k)
  rw [get_put_list l l' o j hc]
  by_cases h1 : j < o
  ·rw [if_pos h1, if_pos h1]
  ·by_cases h2 : j < o + l'.length
   ·rw [if_neg h1, if_neg h1, if_pos h2, if_pos h2]
   ·rw [if_neg h1, if_neg h1, if_neg h2, if_neg h2]
 | vals l =>
  simp only [C.put] at h
  split at h <;> try (cases h; done)
  rename_i hc
  injection h with h; subst h
  have hc' : o + d.toL.length ≤ l.length := by rw [C.len_toL]; exact hc
  have hl := C.len_toL d
  refine ⟨hc, by show (List.take o l ++ d.toL ++ List.drop (o + d.len) l).length = l.length; simp only [List.length_append, List.length_take, List.length_drop]; omega, fun h => by simp [C.isImm] at h, fun j => ?_⟩
  have := get_put_list l d.toL o j hc'
  rw [C.len_toL] at this
  show (List.take o l ++ d.toL ++ List.drop (o + d.len) l)[j]? = if j < o then l[j]? else if j < o + d.len then d.get (j - o) else l[j]?
  rw [this]
  repeat' split
  all_goals first | rfl | rw [C.get_toL]
 | imm l =>
  cases d <;> simp only [C.put] at h <;> try (cases h; done)
  rename_i l'
  split at h <;> try (cases h; done)
  rename_i hc
  injection h with h; subst h
  refine ⟨hc, by simp [C.len]; omega, fun _ => ⟨rfl, rfl⟩, fun j => ?_⟩
  exact get_put_list l l' o j hc
theorem CRel.put {c d c' : C} {o : Nat} {xs ys : List Value} (h : c.put o d = some c') (hc : CRel m I w ρ c xs) (hd : CRel m I w ρ d ys) :
  CRel m I w ρ c' (xs.take o ++ ys ++ xs.drop (o + ys.length)) ∧ o + ys.length ≤ xs.length := by
 obtain ⟨h1, h2, h3, h4⟩ := C.get_put h
 have hle : o + ys.length ≤ xs.length := by rw [hd.1, hc.1]; exact h1
 refine ⟨⟨?_, fun j v hv => ?_, fun j v x hv hx => ?_⟩, hle⟩
 ·rw [h2, ← hc.1]; simp; omega
 ·rw [h4] at hv
  split at hv
  ·exact hc.2.1 _ _ hv
  ·split at hv
   ·exact hd.2.1 _ _ hv
   ·exact hc.2.1 _ _ hv
 ·rw [h4] at hv
  rw [get_put_list xs ys o j hle, hd.1] at hx
  split at hv
  ·rename_i hj; rw [if_pos hj] at hx; exact plC_imp (fun e => (h3 e).1) (hc.2.2 _ _ _ hv hx)
  ·rename_i hj
   rw [if_neg hj] at hx
   split at hv
   ·rename_i hj2; rw [if_pos hj2] at hx; exact plC_imp (fun e => (h3 e).2) (hd.2.2 _ _ _ hv hx)
   ·rename_i hj2; rw [if_neg hj2] at hx; exact plC_imp (fun e => (h3 e).1) (hc.2.2 _ _ _ hv hx)
theorem CRel.of_vals {l : List V} {xs : List Value} (h : CRel m I w ρ (.vals l) xs) (hi : l.all V.idf = true) : CRel m I w ρ (.imm l) xs := by
 refine ⟨h.1, h.2.1, fun j v x hv hx => ?_⟩
 have := h.2.2 j v x hv hx
 exact this.idf (List.all_eq_true.1 hi v (List.mem_of_getElem? hv)) _
theorem CRel.tidied {c : C} {xs : List Value} (h : CRel m I w ρ c xs) : CRel m I w ρ (tidy c) xs := by
 cases c with
 | ints k l => exact h
 | imm l => exact h
 | vals l =>
  simp only [tidy]
  split
  ·rename_i hi; exact h.of_vals hi
  ·exact h
theorem tidy_len (c : C) : (tidy c).len = c.len := by
 cases c <;> simp only [tidy] <;> try rfl
 split <;> rfl
theorem CRel.one (hv : v.isCell = true) (hx : RelV m I w ρ v x) : CRel m I w ρ (C.one v) [x] := by
 have vals : CRel m I w ρ (.vals [v]) [x] := by
  refine ⟨rfl, fun j u h => ?_, fun j u z h hz => ?_⟩
  ·cases j with
   | zero => simp [C.get] at h; subst h; exact hv
   | succ j => simp [C.get] at h
  ·cases j with
   | zero => simp [C.get] at h hz; subst h; subst hz; exact hx
   | succ j => simp [C.get] at h
 cases v <;> first | exact vals | skip
 cases hx
 exact ints_rel [_]
theorem cellsC_rel {c : C} (h : v.cellsC = some c) (hx : RelV m I w ρ v x) : CRel m I w ρ c x.cells.toList := by
 cases hx <;> simp only [V.cellsC, Option.some.injEq] at h <;> try (cases h; done)
 case agg c' cs hs hc hf => subst h; exact ⟨by show cs.toList.length = _; simpa using hs, hc, fun j v x hv hx => hf j v x hv (by have : cs.toList[j]? = some x := hx; simpa using this)⟩
 case tb s l h0 =>
  subst h
  obtain ⟨A, rc, f, rfl, _⟩ := RelV.tbRs_inv h0
  exact CRel.one rfl (.tb _ _ _ _ h0)
 all_goals
  subst h
  refine CRel.one rfl ?_
  constructor <;> assumption
end
end Go.Proofs.YtchoafdpckknmaaDoorE
