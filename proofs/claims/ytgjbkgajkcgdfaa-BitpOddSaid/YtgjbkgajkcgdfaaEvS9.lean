/- Operations that put together, or make, new blocks. -/
import Derived.Test.YtgjbkgajkcgdfaaEvS8
namespace Go.Proofs.YtgjbkgajkcgdfaaE
open Go
set_option linter.unusedSimpArgs false
set_option linter.unusedVariables false
variable {P : Program} {w : World} {m : Nat → Option Nat} {I O : Nat → Prop} {ρ : Pl} {H Hb : List Blk} {p q v : V} {x y : Value} {news : List Blk}

theorem run_mapM_list {α β : Type} {g : α → Sem β} {h : α → β} : ∀ {l : List α}, (∀ a ∈ l, (g a).run P w = .ok (h a) w) → (l.mapM g).run P w = .ok (l.map h) w
  | [], _ => by simp [pure, Sem.run]
  | a :: l, hl => by
    rw [List.mapM_cons, Sem.run_bind, hl a (by simp), Result.andThen_ok, Sem.run_bind, run_mapM_list (fun b hb => hl b (by simp [hb])), Result.andThen_ok]
    simp [pure, Sem.run]
theorem run_mapM_array {α β : Type} {g : α → Sem β} {h : α → β} {l : Array α} (hl : ∀ a ∈ l.toList, (g a).run P w = .ok (h a) w) : (l.mapM g).run P w = .ok (l.map h) w := by
  rw [Array.mapM_eq_mapM_toList, Sem.run_map, run_mapM_list hl, Result.andThen_ok]
  congr 1
  apply Array.ext'
  simp

/-- cells written over, one by one -/
theorem foldl_set_get : ∀ (ys : List Value) (k o : Nat) (xs : Array Value) (j : Nat), ((ys.zipIdx k).foldl (fun cs (cj : Value × Nat) => cs.setIfInBounds (o + cj.2) cj.1) xs)[j]? =
    if j < o + k then xs[j]? else if j < o + k + ys.length then (if j < xs.size then ys[j - (o + k)]? else none) else xs[j]?
  | [], k, o, xs, j => by
    simp only [List.zipIdx_nil, List.foldl_nil, List.length_nil, Nat.add_zero]
    split
    · rfl
    · rfl
  | y :: ys, k, o, xs, j => by
    simp only [List.zipIdx_cons, List.foldl_cons]
    rw [foldl_set_get ys (k + 1) o _ j]
    simp only [Array.size_setIfInBounds, List.length_cons]
    by_cases h1 : j < o + k
    · rw [if_pos (by omega), if_pos h1, Array.getElem?_setIfInBounds_ne (by omega)]
    · by_cases h2 : j = o + k
      · subst h2
        rw [if_pos (by omega), if_neg (by omega), if_pos (by omega)]
        by_cases h3 : o + k < xs.size
        · rw [if_pos h3, Array.getElem?_setIfInBounds_self_of_lt h3]; simp
        · rw [if_neg h3, Array.getElem?_eq_none (by simp; omega)]
      · rw [if_neg (by omega), if_neg h1]
        by_cases h3 : j < o + k + (ys.length + 1)
        · rw [if_pos (by omega), if_pos h3]
          by_cases h4 : j < xs.size
          · rw [if_pos h4, if_pos h4, show j - (o + k) = (j - (o + (k + 1))) + 1 by omega]; simp
          · rw [if_neg h4, if_neg h4]
        · rw [if_neg (by omega), if_neg h3, Array.getElem?_setIfInBounds_ne (by omega)]
theorem foldl_set_list (ys : List Value) (o : Nat) (xs : Array Value) (h : o + ys.length ≤ xs.size) :
    (ys.zipIdx.foldl (fun cs (cj : Value × Nat) => cs.setIfInBounds (o + cj.2) cj.1) xs).toList = xs.toList.take o ++ ys ++ xs.toList.drop (o + ys.length) := by
  apply List.ext_getElem?
  intro j
  rw [get_put_list xs.toList ys o j (by simpa using h)]
  have := foldl_set_get ys 0 o xs j
  simp only [Nat.add_zero] at this
  rw [Array.getElem?_toList, this]
  by_cases h1 : j < o
  · rw [if_pos h1, if_pos h1, Array.getElem?_toList]
  · by_cases h2 : j < o + ys.length
    · rw [if_neg h1, if_neg h1, if_pos h2, if_pos h2, if_pos (by omega)]
    · rw [if_neg h1, if_neg h1, if_neg h2, if_neg h2, Array.getElem?_toList]

/-- the parts of a value that is put together: what each is, and of what size -/
def PRel (m : Nat → Option Nat) (I : Nat → Prop) (w : World) (ρ : Pl) (place : Nat → Option (Nat × Nat)) : List (Nat × Nat × R) → List (Nat × Value) → Env → Prop
  | [], [], _ => True
  | (o, n, r) :: ps, (i, x) :: xs, e => place i = some (o, n) ∧ RelV m I w ρ (r.ev e) x ∧ PRel m I w ρ place ps xs e
  | _, _, _ => False
theorem fill_rel {place : Nat → Option (Nat × Nat)} {e : Env} : ∀ {ps : List (Nat × Nat × R)} {xs : List (Nat × Value)} {z c : C} {cs : Array Value}, PRel m I w ρ place ps xs e → putAll e z ps = some c → CRel m I w ρ z cs.toList →
    ∃ cs', Instr.fill place cs xs = some cs' ∧ CRel m I w ρ c cs'.toList
  | [], [], z, c, cs, _, h, hz => by
    simp only [putAll, Option.some.injEq] at h
    subst h
    exact ⟨cs, rfl, hz⟩
  | [], _ :: _, z, c, cs, hp, _, _ => by simp [PRel] at hp
  | _ :: _, [], z, c, cs, hp, _, _ => by obtain ⟨a, b, r⟩ := ‹Nat × Nat × R›; simp [PRel] at hp
  | (o, n, r) :: ps, (i, x) :: xs, z, c, cs, ⟨h1, h2, h3⟩, h, hz => by
    simp only [putAll, Option.bind_eq_some_iff] at h
    obtain ⟨d, hd, h⟩ := h
    split at h <;> try (cases h; done)
    rename_i hn
    simp only [Option.bind_eq_some_iff] at h
    obtain ⟨z', hz', h⟩ := h
    have hdr := cellsC_rel hd h2
    obtain ⟨hr, hle⟩ := hz.put hz' hdr
    have hxl : x.cells.size = n := by rw [← hn, ← hdr.1]; simp
    have hle' : o + x.cells.size ≤ cs.size := by simpa using hle
    have hf := foldl_set_list x.cells.toList o cs (by simpa using hle)
    have hE : (x.cells.zipIdx.foldl (fun cs (cj : Value × Nat) => cs.setIfInBounds (o + cj.2) cj.1) cs) = (x.cells.toList.zipIdx.foldl (fun cs (cj : Value × Nat) => cs.setIfInBounds (o + cj.2) cj.1) cs) := by
      rw [← Array.foldl_toList, Array.toList_zipIdx]
    obtain ⟨cs', g1, g2⟩ := fill_rel (cs := x.cells.toList.zipIdx.foldl (fun cs (cj : Value × Nat) => cs.setIfInBounds (o + cj.2) cj.1) cs) h3 h (by rw [hf]; exact hr)
    refine ⟨cs', ?_, g2⟩
    rw [Instr.fill, h1]
    simp only []
    rw [if_neg (by simp [hxl]; omega)]
    rw [← hE] at g1
    exact g1

/-- a type's zero, known -/
def ZRel (P : Program) (t : TypeId) (i : TypeInfo) (zv : Value) (z : C) : Prop := P.info? t = some i ∧ i.zero = some zv ∧ contentOf zv.cells.toList = some z

theorem sound_new {t : TypeId} {i : TypeInfo} {zv : Value} {z : C} (hz : ZRel P t i zv z) (hH : HRel m I O w ρ Hb) {lo : Nat} (hb : Hb[lo]? = some (.cells false z)) (hn : ρ lo = none) :
    QPost m P (Instr.alloc t true (.tuple #[])) lo 1 Hb I O w ρ (.ptr lo 0) := by
  refine QPost.new (w' := w.alloc (.cells zv.cells t)) (xs := zv.cells.toList) (cs := zv.cells) (e := t) (z := .pointer (some ⟨w.heap.size, 0, none⟩)) hH rfl rfl rfl rfl hb hn (contentOf_rel hz.2.2) (fun j x h => by simpa using h) ?_ (fun ρ' h1 h2 => .ptr _ _ _ _ h1)
  simp [Instr.alloc, run_zero hz.1 hz.2.1, newVar, newRow, newObj, Sem.run, pure]

theorem sound_box {t : TypeId} {c : C} (hc : v.cellsC = some c) (hx : RelV m I w ρ v x) (hH : HRel m I O w ρ Hb) {lo : Nat} (hb : Hb[lo]? = some (.cells false c)) (hn : ρ lo = none) :
    QPost m P (Instr.box t x) lo 1 Hb I O w ρ (.ptr lo 0) := by
  refine QPost.new (w' := w.alloc (.cells x.cells t)) (xs := x.cells.toList) (cs := x.cells) (e := t) (z := .pointer (some ⟨w.heap.size, 0, none⟩)) hH rfl rfl rfl rfl hb hn (cellsC_rel hc hx) (fun j x h => by simpa using h) ?_ (fun ρ' h1 h2 => .ptr _ _ _ _ h1)
  simp [Instr.box, newVar, newRow, newObj, Sem.run, pure]

theorem sound_build_struct {t : TypeId} {fs : Array Field} {g : Field → Nat × Nat} {i : TypeInfo} {zv : Value} {z c : C} {ps : List (Nat × Nat × R)} {xs : Array (Nat × Value)} {e : Env} (hd : P.underlying t = some (.struct fs)) (hz : ZRel P t i zv z)
    (hg : ∀ f ∈ fs.toList, ∃ j, P.info? f.type = some j ∧ g f = (f.offset, j.size)) (hp : PRel m I w ρ ((fs.map g)[·]?) ps xs.toList e) (h : putAll e z ps = some c) :
    ∃ cs, (Instr.build t xs).run P w = .ok (.agg cs) w ∧ RelV m I w ρ (.agg c) (.agg cs) := by
  obtain ⟨cs, h1, h2⟩ := fill_rel hp h (contentOf_rel hz.2.2)
  refine ⟨cs, ?_, .agg _ _ _ (by simpa using h2.1) h2.2.1 (fun j v x hv hx => h2.2.2 j v x hv (by simpa using hx))⟩
  have hm : (fs.mapM fun (f : Field) => (do pure (f.offset, ← sizeOf f.type) : Sem (Nat × Nat))).run P w = .ok (fs.map g) w := by
    refine run_mapM_array (fun f hf => ?_)
    obtain ⟨j, hj1, hj2⟩ := hg f hf
    simp [run_sz hj1, hj2, pure, Sem.run]
  simp only [Instr.build, Sem.run_bind, run_zero hz.1 hz.2.1, Result.andThen_ok, run_und hd, hm, h1]
  rfl
theorem sound_build_array {t el : TypeId} {n : Nat} {i j : TypeInfo} {zv : Value} {z c : C} {ps : List (Nat × Nat × R)} {xs : Array (Nat × Value)} {e : Env} (hd : P.underlying t = some (.array n el)) (hz : ZRel P t i zv z) (hj : P.info? el = some j)
    (hp : PRel m I w ρ (fun k => some (k * j.size, j.size)) ps xs.toList e) (h : putAll e z ps = some c) :
    ∃ cs, (Instr.build t xs).run P w = .ok (.agg cs) w ∧ RelV m I w ρ (.agg c) (.agg cs) := by
  obtain ⟨cs, h1, h2⟩ := fill_rel hp h (contentOf_rel hz.2.2)
  refine ⟨cs, ?_, .agg _ _ _ (by simpa using h2.1) h2.2.1 (fun j v x hv hx => h2.2.2 j v x hv (by simpa using hx))⟩
  simp only [Instr.build, Sem.run_bind, run_zero hz.1 hz.2.1, Result.andThen_ok, run_und hd, run_sz hj, h1]
  rfl

/-- the zero cells of a row -/
theorem rep_get {n k : Nat} {zs : Array Value} (hz : zs.size = k) (hk : 0 < k) : ((Array.range (n * k)).map (zs[· % zs.size]!)).toList = (List.replicate n zs.toList).flatten := by
  subst hz
  induction n with
  | zero => simp
  | succ n ih =>
    have hs : (n + 1) * zs.size = n * zs.size + zs.size := by rw [Nat.succ_mul]
    rw [List.replicate_succ', List.flatten_append, ← ih, hs]
    simp only [Array.toList_map, Array.toList_range, List.range_add, List.map_append, List.map_map]
    congr 1
    · simp
      apply List.ext_getElem
      · simp
      · intro j h1 h2
        simp only [List.length_map, List.length_range] at h1
        simp [Nat.mod_eq_of_lt h1, getElem!_pos, h1]
end Go.Proofs.YtgjbkgajkcgdfaaE
