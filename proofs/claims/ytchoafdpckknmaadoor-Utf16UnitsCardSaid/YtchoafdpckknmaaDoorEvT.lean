/- Every quiet operation, as the machine carries it out. -/
import Derived.Test.YtchoafdpckknmaaDoorEvP
import Derived.ChangeKeysEq
namespace Go.Proofs.YtchoafdpckknmaaDoorE
open Go
set_option linter.unusedSimpArgs false
set_option linter.unusedVariables false
variable {P : Program} {w : World} {m : Nat → Option Nat} {I O : Nat → Prop} {ρ : Pl} {H Hb : List Blk} {v : V} {news : List Blk} {e : Env} {a : Act}

/-- what an operation that computes, or makes, leaves -/
def QOut (m : Nat → Option Nat) (r : Result Next) (lo n : Nat) (Hb : List Blk) (I O : Nat → Prop) (w : World) (ρ : Pl) (v : V) : Prop :=
 ∃ z w' I' O' ρ', r = .ok (.value z) w' ∧ RelV m I' w' ρ' v z ∧ HRel m I' O' w' ρ' Hb ∧ Grow lo (lo + n) I O w ρ I' O' w' ρ'

theorem run_v {s : Sem Value} {z : Value} {w' : World} (h : s.run P w = .ok z w') : (do pure (Next.value (← s)) : Sem Next).run P w = .ok (.value z) w' := by
 simp [h, pure, Sem.run]
theorem QPost.out {s : Sem Value} {lo n : Nat} (h : QPost m P s lo n Hb I O w ρ v) : QOut m ((do pure (Next.value (← s)) : Sem Next).run P w) lo n Hb I O w ρ v := by
 obtain ⟨z, w', I', O', ρ', h1, h2⟩ := h
 exact ⟨z, w', I', O', ρ', run_v h1, h2⟩
theorem out_same {s : Sem Value} {lo : Nat} (hH : HRel m I O w ρ Hb) (h : news = [] ∧ ∃ z, s.run P w = .ok z w ∧ RelV m I w ρ v z) : QOut m ((do pure (Next.value (← s)) : Sem Next).run P w) lo news.length Hb I O w ρ v := by
 obtain ⟨rfl, z, h1, h2⟩ := h
 exact ⟨z, w, I, O, ρ, run_v h1, h2, hH, .refl _ _ _ _ _ _⟩
theorem out_val {lo : Nat} {z : Value} (hH : HRel m I O w ρ Hb) (hn : news = []) (h : RelV m I w ρ v z) : QOut m ((pure (Next.value z) : Sem Next).run P w) lo news.length Hb I O w ρ v := by
 subst hn
 exact ⟨z, w, I, O, ρ, rfl, h, hH, .refl _ _ _ _ _ _⟩

/-- the environment, at an operation's operands -/
def ORel (m : Nat → Option Nat) (I : Nat → Prop) (w : World) (ρ : Pl) (e : Env) (a : Act) (xs : List Operand) : Prop := ∀ x : Operand, x ∈ xs →
 match x with
 | .tmp t => RelV m I w ρ (look e t) (a.tmps.getD t undef)
 | .global g => ∀ t, tabs g = some t → RelV m I w ρ (.rptr (.ints t.1 t.2)) (.pointer (some ⟨g, 0, none⟩))
 | _ => True
theorem ORel.of {xs : List Operand} (he : ∀ t, RelV m I w ρ (look e t) (a.tmps.getD t undef)) (ht : VarOK I w) : ORel m I w ρ e a xs := fun x _ => by
 cases x with
 | tmp t => exact he t
 | global g => exact fun t h => ht.rel h
 | const v => exact True.intro
 | func f => exact True.intro
theorem refOf_rel {x : Operand} {r : R} {xs : List Operand} (h : refOf m x = some r) (he : ORel m I w ρ e a xs) (hx : x ∈ xs) : RelV m I w ρ (r.ev e) (a.eval x) := by
 cases x with
 | tmp t => simp only [refOf, Option.some.injEq] at h; subst h; exact he _ hx
 | const v =>
  simp only [refOf, Option.map_eq_some_iff] at h
  obtain ⟨v', h1, rfl⟩ := h
  exact ofValue_rel h1
 | func f =>
  simp only [refOf, Option.map_eq_some_iff] at h
  obtain ⟨g, h1, rfl⟩ := h
  exact .fn _ _ _ _ _ h1 rfl (fun j v x h => by simp at h)
 | global g =>
  simp only [refOf, Option.map_eq_some_iff] at h
  obtain ⟨t, h1, rfl⟩ := h
  exact he _ hx t h1
theorem zOf_spec {t : TypeId} {z : TypeInfo × Value × C} (h : zOf P t = some z) : P.info? t = some z.1 ∧ z.1.zero = some z.2.1 ∧ contentOf z.2.1.cells.toList = some z.2.2 ∧ z.2.1.cells.size = z.1.size := by
 simp only [zOf, Option.bind_eq_some_iff] at h
 obtain ⟨i, h1, zv, h2, c, h3, h4⟩ := h
 split at h4 <;> try (cases h4; done)
 rename_i hs
 injection h4 with h4; subst h4
 exact ⟨h1, h2, h3, hs⟩
theorem partsOf_rel {place : Nat → Option (Nat × Nat)} {xs : List Operand} (he : ORel m I w ρ e a xs) : ∀ {l : List (Nat × Operand)} {ps : List (Nat × Nat × R)}, partsOf m place l = some ps → (∀ p ∈ l, p.2 ∈ xs) →
  PRel m I w ρ place ps (l.map fun p => (p.1, a.eval p.2)) e
 | [], ps, h, _ => by simp only [partsOf, Option.some.injEq] at h; subst h; exact trivial
 | (i, x) :: l, ps, h, hx => by
  simp only [partsOf, Option.bind_eq_some_iff, Option.map_eq_some_iff] at h
  obtain ⟨on, h1, y, h2, l', h3, rfl⟩ := h
  exact ⟨h1, refOf_rel h2 he (hx (i, x) (by simp)), partsOf_rel he h3 (fun p hp => hx p (by simp [hp]))⟩
theorem optR_rel {x : Option Operand} {r : Option R} {xs : List Operand} (h : optR m x = some r) (he : ORel m I w ρ e a xs) (hx : ∀ y, x = some y → y ∈ xs) : RelO m I w ρ (r.map (R.ev e)) (x.map a.eval) := by
 cases x with
 | none => simp only [optR, Option.some.injEq] at h; subst h; exact trivial
 | some y =>
  simp only [optR, Option.map_eq_some_iff] at h
  obtain ⟨r', h1, rfl⟩ := h
  exact refOf_rel h1 he (hx y rfl)
theorem mapM_rel {xs : List Operand} (he : ORel m I w ρ e a xs) : ∀ {l : List Operand} {rs : List R}, l.mapM (refOf m) = some rs → (∀ x ∈ l, x ∈ xs) → rs.length = l.length ∧ ∀ (j : Nat) (p : V) (x : Value), (rs.map (R.ev e))[j]? = some p → (l.map a.eval)[j]? = some x → RelV m I w ρ p x := by
 intro l rs h hx
 obtain ⟨h1, h2⟩ := mapM_get h
 refine ⟨h1, fun j p x hp hxx => ?_⟩
 simp only [List.getElem?_map, Option.map_eq_some_iff] at hp hxx
 obtain ⟨r, hr, rfl⟩ := hp
 obtain ⟨y, hy, rfl⟩ := hxx
 exact refOf_rel (h2 j y r hy hr) he (hx y (List.mem_of_getElem? hy))

theorem opt_c (o : Option R) : ((o.map (R.ev e)).map R.c).map (R.ev []) = o.map (R.ev e) := by cases o <;> rfl

theorem eqItems_run {el : TypeId} {n : Nat} {k k' : IntKind} (he : P.underlying el = some (.int k)) {xs ys : List Int} (hx : xs.length = n) (hy : ys.length = n) (dd : Nat) : ∀ is : List Nat, (∀ i ∈ is, i < n) →
  (Op.eqItems (dd + 1) el 1 (xs.map (Value.int k')).toArray (ys.map (Value.int k')).toArray is).run P w = .ok (is.all fun i => xs.getD i 0 == ys.getD i 0) w
 | [], _ => rfl
 | i :: is, h => by
  have hi := h i (by simp)
  have px : (part el (xs.map (Value.int k')).toArray (i * 1)).run P w = .ok (.int k' (xs.getD i 0)) w := by
   rw [Nat.mul_one]
   have : (xs.map (Value.int k')).toArray[i]? = some (.int k' (xs.getD i 0)) := by
    simp [List.getElem?_eq_getElem (show i < xs.length by omega)]
   simp [part, run_isAgg he, isAggD, this, pure, Sem.run]
  have py : (part el (ys.map (Value.int k')).toArray (i * 1)).run P w = .ok (.int k' (ys.getD i 0)) w := by
   rw [Nat.mul_one]
   have : (ys.map (Value.int k')).toArray[i]? = some (.int k' (ys.getD i 0)) := by
    simp [List.getElem?_eq_getElem (show i < ys.length by omega)]
   simp [part, run_isAgg he, isAggD, this, pure, Sem.run]
  have pe : (Op.equalIn (dd + 1) el (.int k' (xs.getD i 0)) (.int k' (ys.getD i 0))).run P w = .ok (xs.getD i 0 == ys.getD i 0) w := by
   simp [Op.equalIn, run_und he, pure, Sem.run]
  simp only [Op.eqItems, Sem.run_bind, px, py, pe, Result.andThen_ok, List.all_cons]
  cases hb : (xs.getD i 0 == ys.getD i 0)
  ·simp [pure, Sem.run]
  ·simp only [Bool.not_true, Bool.false_eq_true, if_false, Bool.true_and]
   exact eqItems_run he hx hy dd is (fun j hj => h j (by simp [hj]))
theorem eqa_run {t el : TypeId} {n : Nat} {k : IntKind} {i : TypeInfo} (hd : P.underlying t = some (.array n el)) (he : P.underlying el = some (.int k)) (hi : P.info? el = some i) (h1 : i.size = 1) {xs ys : List Int} {k' : IntKind} (hx : xs.length = n) (hy : ys.length = n) (dd : Nat) :
  (Op.equalIn (dd + 1 + 1) t (.agg (xs.map (Value.int k')).toArray) (.agg (ys.map (Value.int k')).toArray)).run P w = .ok (xs == ys) w := by
 rw [run_equalIn_array w (dd + 1) _ _ hd hi]
 have hc : P.cellsOf el = 1 := by simp [Program.cellsOf, hi, h1]
 rw [hc, eqItems_run he hx hy dd (List.range n) (fun i hi => by simpa using hi)]
 congr 1
 rw [Bool.eq_iff_iff]
 simp only [List.all_eq_true, List.mem_range, beq_iff_eq]
 constructor
 ·intro h
  apply List.ext_getElem (by omega)
  intro j h1 h2
  have := h j (by omega)
  simpa [List.getElem?_eq_getElem h1, List.getElem?_eq_getElem h2] using this
 ·intro h j _; rw [h]
theorem fieldsInts_le : ∀ {fs : List Field} {o n : Nat}, fieldsInts P fs o = some n → o ≤ n
 | [], o, n, h => by simp only [fieldsInts, Option.some.injEq] at h; omega
 | f :: fs, o, n, h => by
  simp only [fieldsInts] at h
  split at h <;> try (cases h; done)
  split at h <;> try (cases h; done)
  ·have := fieldsInts_le h; omega
  ·split at h <;> try (cases h; done)
   split at h <;> try (cases h; done)
   have := fieldsInts_le h; omega
theorem part_ints {t : TypeId} {k k' : IntKind} (he : P.underlying t = some (.int k)) {xs : List Int} {o : Nat} (h : o < xs.length) : (part t (xs.map (Value.int k')).toArray o).run P w = .ok (.int k' xs[o]) w := by
 have : (xs.map (Value.int k')).toArray[o]? = some (.int k' xs[o]) := by simp [List.getElem?_eq_getElem h]
 simp [part, run_isAgg he, isAggD, this, pure, Sem.run]
theorem part_rowInts {t el : TypeId} {n : Nat} {k' : IntKind} {j : TypeInfo} (hd : P.underlying t = some (.array n el)) (hj : P.info? t = some j) (hn : j.size = n) {xs : List Int} {o : Nat} : (part t (xs.map (Value.int k')).toArray o).run P w = .ok (.agg (((xs.drop o).take n).map (Value.int k')).toArray) w := by
 have e : (xs.map (Value.int k')).toArray.extract o (o + n) = (((xs.drop o).take n).map (Value.int k')).toArray := by
  apply Array.ext'
  simp [List.map_take, List.map_drop, List.extract_eq_take_drop]
 simp only [part, Sem.run_bind, run_isAgg hd, Result.andThen_ok, isAggD, if_true, run_sz hj, hn, Sem.run_pure, e]
theorem fields_run {k' : IntKind} {xs ys : List Int} (dd : Nat) : ∀ {fs : List Field} {o n : Nat}, fieldsInts P fs o = some n → n ≤ xs.length → n ≤ ys.length →
  (Op.eqFields (dd + 1 + 1) (xs.map (Value.int k')).toArray (ys.map (Value.int k')).toArray fs).run P w = .ok ((xs.drop o).take (n - o) == (ys.drop o).take (n - o)) w
 | [], o, n, h, hx, hy => by
  simp only [fieldsInts, Option.some.injEq] at h
  subst h
  simp [Op.eqFields, pure, Sem.run]
 | f :: fs, o, n, h, hx, hy => by
  simp only [fieldsInts] at h
  split at h <;> try (cases h; done)
  rename_i hf
  simp only [not_or, ne_eq, Classical.not_not] at hf
  obtain ⟨hfo, hfn⟩ := hf
  split at h <;> try (cases h; done)
  ·rename_i k hk
   have hle := fieldsInts_le h
   have hox : o < xs.length := by omega
   have hoy : o < ys.length := by omega
   have ih := fields_run (k' := k') (xs := xs) (ys := ys) dd h hx hy
   simp only [Op.eqFields, hfn, ne_eq, not_false_eq_true, if_true, Sem.run_bind, hfo, part_ints hk hox, part_ints hk hoy, Result.andThen_ok, run_equalIn_int w _ f.type k' k _ _ hk]
   rw [List.drop_eq_getElem_cons hox, List.drop_eq_getElem_cons hoy, show n - o = (n - (o + 1)) + 1 by omega, List.take_succ_cons, List.take_succ_cons, List.cons_beq_cons]
   cases hb : (xs[o] == ys[o])
   ·simp [pure, Sem.run]
   ·simpa using ih
  ·rename_i n1 e hk
   split at h <;> try (cases h; done)
   rename_i k i j he hi hj
   split at h <;> try (cases h; done)
   rename_i hs
   have hle := fieldsInts_le h
   have ih := fields_run (k' := k') (xs := xs) (ys := ys) dd h hx hy
   have hlx : ((xs.drop o).take n1).length = n1 := by rw [List.length_take, List.length_drop]; omega
   have hly : ((ys.drop o).take n1).length = n1 := by rw [List.length_take, List.length_drop]; omega
   have hrun := eqa_run (P := P) (w := w) (k' := k') hk he hi hs.1 hlx hly dd
   simp only [Op.eqFields, hfn, ne_eq, not_false_eq_true, if_true, Sem.run_bind, hfo, part_rowInts hk hj hs.2, Result.andThen_ok, hrun]
   have ex : ∀ zs : List Int, (zs.drop o).take (n - o) = (zs.drop o).take n1 ++ (zs.drop (o + n1)).take (n - (o + n1)) := fun zs => by
    rw [show n - o = n1 + (n - (o + n1)) by omega, List.take_add, List.drop_drop]
   rw [ex xs, ex ys]
   have eb : ((xs.drop o).take n1 ++ (xs.drop (o + n1)).take (n - (o + n1)) == (ys.drop o).take n1 ++ (ys.drop (o + n1)).take (n - (o + n1))) = (((xs.drop o).take n1 == (ys.drop o).take n1) && ((xs.drop (o + n1)).take (n - (o + n1)) == (ys.drop (o + n1)).take (n - (o + n1)))) := by
    rw [Bool.eq_iff_iff]
    simp only [beq_iff_eq, Bool.and_eq_true]
    constructor
    ·intro h; exact List.append_inj h (by rw [hlx, hly])
    ·rintro ⟨h1, h2⟩; rw [h1, h2]
   rw [eb]
   cases hb : ((xs.drop o).take n1 == (ys.drop o).take n1)
   ·simp [pure, Sem.run]
   ·simpa using ih
theorem eqs_run {t : TypeId} {fs : Array Field} {n : Nat} {k' : IntKind} (hd : P.underlying t = some (.struct fs)) (hp : P.stoodInHeld t = false) (hf : fieldsInts P fs.toList 0 = some n) {xs ys : List Int} (hx : xs.length = n) (hy : ys.length = n) (dd : Nat) :
  (Op.equalIn (dd + 1 + 1 + 1) t (.agg (xs.map (Value.int k')).toArray) (.agg (ys.map (Value.int k')).toArray)).run P w = .ok (xs == ys) w := by
 have hfs : P.fieldsOf t = fs := by simp [Program.fieldsOf, hd]
 rw [run_equalIn_struct w (dd + 1 + 1) t _ _ (by rw [hfs]; exact hd) hp, hfs, fields_run dd hf (by omega) (by omega)]
 rw [List.drop_zero, List.drop_zero, Nat.sub_zero, List.take_of_length_le (by omega), List.take_of_length_le (by omega)]
theorem agg_ints {k : IntKind} {l : List Int} {x : Value} (h : RelV m I w ρ (.agg (.ints k l)) x) : x = .agg (l.map (Value.int k)).toArray := by
 cases h
 rename_i cs hs hc hf
 congr 1
 apply Array.ext'
 apply List.ext_getElem?
 intro j
 have hlen : cs.size = l.length := hs
 by_cases hj : j < l.length
 ·have hj' : j < cs.size := by omega
  have := hf j (.int k l[j]) cs[j] (by simp [C.get, hj]) (Array.getElem?_eq_getElem hj')
  rw [Array.getElem?_toList, Array.getElem?_eq_getElem hj']
  simp only [List.getElem?_map, List.getElem?_eq_getElem hj, Option.map_some]
  generalize cs[j] = z at this
  cases this; rfl
 ·rw [List.getElem?_eq_none (by simpa using by omega), List.getElem?_eq_none (by simpa using hj)]
end Go.Proofs.YtchoafdpckknmaaDoorE
