/- The machine's operations and the evaluator's, second part. -/
import Derived.Test.YtchoafdpckknmaaDoorEvSa
import Derived.Lib.ConvBytes
namespace Go.Proofs.YtchoafdpckknmaaDoorE
section
open Go
set_option linter.unusedSimpArgs false
set_option linter.unusedVariables false
variable {P : Program} {w : World} {m : Nat → Option Nat} {I O : Nat → Prop} {ρ : Pl} {H Hb : List Blk} {p q v : V} {x y : Value} {news : List Blk}

theorem run_mapM_list {α β : Type} {g : α → Sem β} {h : α → β} : ∀ {l : List α}, (∀ a ∈ l, (g a).run P w = .ok (h a) w) → (l.mapM g).run P w = .ok (l.map h) w
 | [], _ => by simp [pure, Sem.run]
 | a :: l, hl => by
  rw [List.mapM_cons, Sem.run_bind, hl a (by simp), Result.andThen_ok, Sem.run_bind, run_mapM_list (fun b hb => hl b (by simp [hb])), Result.andThen_ok]
  simp [pure, Sem.run]
theorem run_mapM_array {α β : Type} {g : α → Sem β} {h : α → β} {l : Array α} (hl : ∀ a ∈ l.toList, (g a).run P w = .ok (h a) w) : (l.mapM g).run P w = .ok (l.map h) w := by
 rw [Array.mapM_eq_mapM_toList, Sem.run_map, run_mapM_list hl, Result.andThen_ok]
 congr 1
 apply Array.ext'
 simp

/-- cells written over, one by one -/
theorem foldl_set_get : ∀ (ys : List Value) (k o : Nat) (xs : Array Value) (j : Nat), ((ys.zipIdx k).foldl (fun cs (cj : Value × Nat) => cs.setIfInBounds (o + cj.2) cj.1) xs)[j]? =
  if j < o + k then xs[j]? else if j < o + k + ys.length then (if j < xs.size then ys[j - (o + k)]? else none) else xs[j]?
 | [], k, o, xs, j => by
  simp only [List.zipIdx_nil, List.foldl_nil, List.length_nil, Nat.add_zero]
  split
  ·rfl
  ·rfl
 | y :: ys, k, o, xs, j => by
  simp only [List.zipIdx_cons, List.foldl_cons]
  rw [foldl_set_get ys (k + 1) o _ j]
  simp only [Array.size_setIfInBounds, List.length_cons]
  by_cases h1 : j < o + k
  ·rw [if_pos (by omega), if_pos h1, Array.getElem?_setIfInBounds_ne (by omega)]
  ·by_cases h2 : j = o + k
   ·subst h2
    rw [if_pos (by omega), if_neg (by omega), if_pos (by omega)]
    by_cases h3 : o + k < xs.size
    ·rw [if_pos h3, Array.getElem?_setIfInBounds_self_of_lt h3]; simp
    ·rw [if_neg h3, Array.getElem?_eq_none (by simp; omega)]
   ·rw [if_neg (by omega), if_neg h1]
    by_cases h3 : j < o + k + (ys.length + 1)
    ·rw [if_pos (by omega), if_pos h3]
     by_cases h4 : j < xs.size
     ·rw [if_pos h4, if_pos h4, show j - (o + k) = (j - (o + (k + 1))) + 1 by omega]; simp
     ·rw [if_neg h4, if_neg h4]
    ·rw [if_neg (by omega), if_neg h3, Array.getElem?_setIfInBounds_ne (by omega)]
theorem foldl_set_list (ys : List Value) (o : Nat) (xs : Array Value) (h : o + ys.length ≤ xs.size) :
  (ys.zipIdx.foldl (fun cs (cj : Value × Nat) => cs.setIfInBounds (o + cj.2) cj.1) xs).toList = xs.toList.take o ++ ys ++ xs.toList.drop (o + ys.length) := by
 apply List.ext_getElem?
 intro j
 rw [get_put_list xs.toList ys o j (by simpa using h)]
 have := foldl_set_get ys 0 o xs j
 simp only [Nat.add_zero] at this
 rw [Array.getElem?_toList, this]
 by_cases h1 : j < o
 ·rw [if_pos h1, if_pos h1, Array.getElem?_toList]
 ·by_cases h2 : j < o + ys.length
  ·rw [if_neg h1, if_neg h1, if_pos h2, if_pos h2, if_pos (by omega)]
  ·rw [if_neg h1, if_neg h1, if_neg h2, if_neg h2, Array.getElem?_toList]

/-- the parts of a value that is put together: what each is, and of what size -/
def PRel (m : Nat → Option Nat) (I : Nat → Prop) (w : World) (ρ : Pl) (place : Nat → Option (Nat × Nat)) : List (Nat × Nat × R) → List (Nat × Value) → Env → Prop
 | [], [], _ => True
 | (o, n, r) :: ps, (i, x) :: xs, e => place i = some (o, n) ∧ RelV m I w ρ (r.ev e) x ∧ PRel m I w ρ place ps xs e
 | _, _, _ => False
theorem fill_rel {place : Nat → Option (Nat × Nat)} {e : Env} : ∀ {ps : List (Nat × Nat × R)} {xs : List (Nat × Value)} {z c : C} {cs : Array Value}, PRel m I w ρ place ps xs e → putAll e z ps = some c → CRel m I w ρ z cs.toList →
  ∃ cs', Instr.fill place cs xs = some cs' ∧ CRel m I w ρ c cs'.toList
 | [], [], z, c, cs, _, h, hz => by
  simp only [putAll, Option.some.injEq] at h
  subst h
  exact ⟨cs, rfl, hz⟩
 | [], _ :: _, z, c, cs, hp, _, _ => by simp [PRel] at hp
 | _ :: _, [], z, c, cs, hp, _, _ => by obtain ⟨a, b, r⟩ := ‹Nat × Nat × R›; simp [PRel] at hp
 | (o, n, r) :: ps, (i, x) :: xs, z, c, cs, ⟨h1, h2, h3⟩, h, hz => by
  simp only [putAll, Option.bind_eq_some_iff] at h
  obtain ⟨d, hd, h⟩ := h
  split at h <;> try (cases h; done)
  rename_i hn
  simp only [Option.bind_eq_some_iff] at h
  obtain ⟨z', hz', h⟩ := h
  have hdr := cellsC_rel hd h2
  obtain ⟨hr, hle⟩ := hz.put hz' hdr
  have hxl : x.cells.size = n := by rw [← hn, ← hdr.1]; simp
  have hle' : o + x.cells.size ≤ cs.size := by simpa using hle
  have hf := foldl_set_list x.cells.toList o cs (by simpa using hle)
  have hE : (x.cells.zipIdx.foldl (fun cs (cj : Value × Nat) => cs.setIfInBounds (o + cj.2) cj.1) cs) = (x.cells.toList.zipIdx.foldl (fun cs (cj : Value × Nat) => cs.setIfInBounds (o + cj.2) cj.1) cs) := by
   rw [← Array.foldl_toList, Array.toList_zipIdx]
  obtain ⟨cs', g1, g2⟩ := fill_rel (cs := x.cells.toList.zipIdx.foldl (fun cs (cj : Value × Nat) => cs.setIfInBounds (o + cj.2) cj.1) cs) h3 h (by rw [hf]; exact hr)
  refine ⟨cs', ?_, g2⟩
  rw [Instr.fill, h1]
  simp only []
  rw [if_neg (by simp [hxl]; omega)]
  rw [← hE] at g1
  exact g1

/-- a type's zero, known -/
def ZRel (P : Program) (t : TypeId) (i : TypeInfo) (zv : Value) (z : C) : Prop := P.info? t = some i ∧ i.zero = some zv ∧ contentOf zv.cells.toList = some z

theorem sound_new {t : TypeId} {i : TypeInfo} {zv : Value} {z : C} (hz : ZRel P t i zv z) (hH : HRel m I O w ρ Hb) {lo : Nat} (hb : Hb[lo]? = some (.cells false z)) (hn : ρ lo = none) :
  QPost m P (Instr.alloc t true (.tuple #[])) lo 1 Hb I O w ρ (.ptr lo 0) := by
 refine QPost.new (w' := w.alloc (.cells zv.cells t)) (xs := zv.cells.toList) (cs := zv.cells) (e := t) (z := .pointer (some ⟨w.heap.size, 0, none⟩)) hH rfl rfl rfl rfl hb hn (contentOf_rel hz.2.2) (fun j x h => by simpa using h) ?_ (fun ρ' h1 h2 => .ptr _ _ _ _ h1)
 simp [Instr.alloc, run_zero hz.1 hz.2.1, newVar, newRow, newObj, Sem.run, pure]

theorem sound_box {t : TypeId} {c : C} (hc : v.cellsC = some c) (hx : RelV m I w ρ v x) (hH : HRel m I O w ρ Hb) {lo : Nat} (hb : Hb[lo]? = some (.cells false c)) (hn : ρ lo = none) :
  QPost m P (Instr.box t x) lo 1 Hb I O w ρ (.ptr lo 0) := by
 refine QPost.new (w' := w.alloc (.cells x.cells t)) (xs := x.cells.toList) (cs := x.cells) (e := t) (z := .pointer (some ⟨w.heap.size, 0, none⟩)) hH rfl rfl rfl rfl hb hn (cellsC_rel hc hx) (fun j x h => by simpa using h) ?_ (fun ρ' h1 h2 => .ptr _ _ _ _ h1)
 simp [Instr.box, newVar, newRow, newObj, Sem.run, pure]

theorem sound_build_struct {t : TypeId} {fs : Array Field} {g : Field → Nat × Nat} {i : TypeInfo} {zv : Value} {z c : C} {ps : List (Nat × Nat × R)} {xs : Array (Nat × Value)} {e : Env} (hd : P.underlying t = some (.struct fs)) (hz : ZRel P t i zv z)
  (hg : ∀ f ∈ fs.toList, ∃ j, P.info? f.type = some j ∧ g f = (f.offset, j.size)) (hp : PRel m I w ρ ((fs.map g)[·]?) ps xs.toList e) (h : putAll e z ps = some c) :
  ∃ cs, (Instr.build t xs).run P w = .ok (.agg cs) w ∧ RelV m I w ρ (.agg c) (.agg cs) := by
 obtain ⟨cs, h1, h2⟩ := fill_rel hp h (contentOf_rel hz.2.2)
 refine ⟨cs, ?_, .agg _ _ _ (by simpa using h2.1) h2.2.1 (fun j v x hv hx => h2.2.2 j v x hv (by simpa using hx))⟩
 have hm : (fs.mapM fun (f : Field) => (do pure (f.offset, ← sizeOf f.type) : Sem (Nat × Nat))).run P w = .ok (fs.map g) w := by
  refine run_mapM_array (fun f hf => ?_)
  obtain ⟨j, hj1, hj2⟩ := hg f hf
  simp [run_sz hj1, hj2, pure, Sem.run]
 simp only [Instr.build, Sem.run_bind, run_zero hz.1 hz.2.1, Result.andThen_ok, run_und hd, hm, h1]
 rfl
theorem sound_build_array {t el : TypeId} {n : Nat} {i j : TypeInfo} {zv : Value} {z c : C} {ps : List (Nat × Nat × R)} {xs : Array (Nat × Value)} {e : Env} (hd : P.underlying t = some (.array n el)) (hz : ZRel P t i zv z) (hj : P.info? el = some j)
  (hp : PRel m I w ρ (fun k => some (k * j.size, j.size)) ps xs.toList e) (h : putAll e z ps = some c) :
  ∃ cs, (Instr.build t xs).run P w = .ok (.agg cs) w ∧ RelV m I w ρ (.agg c) (.agg cs) := by
 obtain ⟨cs, h1, h2⟩ := fill_rel hp h (contentOf_rel hz.2.2)
 refine ⟨cs, ?_, .agg _ _ _ (by simpa using h2.1) h2.2.1 (fun j v x hv hx => h2.2.2 j v x hv (by simpa using hx))⟩
 simp only [Instr.build, Sem.run_bind, run_zero hz.1 hz.2.1, Result.andThen_ok, run_und hd, run_sz hj, h1]
 rfl

/-- the zero cells of a row -/
theorem rep_get {n k : Nat} {zs : Array Value} (hz : zs.size = k) (hk : 0 < k) : ((Array.range (n * k)).map (zs[· % zs.size]!)).toList = (List.replicate n zs.toList).flatten := by
 subst hz
 induction n with
 | zero => simp
 | succ n ih =>
  have hs : (n + 1) * zs.size = n * zs.size + zs.size := by rw [Nat.succ_mul]
  rw [List.replicate_succ', List.flatten_append, ← ih, hs]
  simp only [Array.toList_map, Array.toList_range, List.range_add, List.map_append, List.map_map]
  congr 1
  ·simp
   apply List.ext_getElem
   ·simp
   ·intro j h1 h2
    simp only [List.length_map, List.length_range] at h1
    simp [Nat.mod_eq_of_lt h1, getElem!_pos, h1]
end

section
open Go
set_option linter.unusedSimpArgs false
set_option linter.unusedVariables false
variable {P : Program} {w : World} {m : Nat → Option Nat} {I O : Nat → Prop} {ρ : Pl} {H Hb : List Blk} {p q v : V} {x y : Value} {news : List Blk}

theorem C.rep_rel {c d : C} {n : Nat} {xs : List Value} (h : C.rep n c = some d) (hc : CRel m I w ρ c xs) : CRel m I w ρ d (List.replicate n xs).flatten := by
 have flat : ∀ (l : List V), CRel m I w ρ (.vals l) xs → CRel m I w ρ (.vals (List.replicate n l).flatten) (List.replicate n xs).flatten := by
  intro l hl
  clear h
  induction n with
  | zero => exact ⟨rfl, fun j v h => by simp [C.get] at h, fun j v x h => by simp [C.get] at h⟩
  | succ n ih =>
   refine ⟨by simp [C.len, List.length_flatten, hl.1], fun j v hv => ?_, fun j v x hv hx => ?_⟩
   ·simp only [C.get, List.replicate_succ, List.flatten_cons] at hv
    by_cases hj : j < l.length
    ·rw [List.getElem?_append_left hj] at hv; exact hl.2.1 _ _ hv
    ·rw [List.getElem?_append_right (by omega)] at hv
     exact ih.2.1 (j - l.length) v hv
   ·simp only [C.get, List.replicate_succ, List.flatten_cons] at hv hx
    have hlen : xs.length = l.length := hl.1
    by_cases hj : j < l.length
    ·rw [List.getElem?_append_left hj] at hv
     rw [List.getElem?_append_left (by omega)] at hx
     exact hl.2.2 _ _ _ hv hx
    ·rw [List.getElem?_append_right (by omega)] at hv
     rw [List.getElem?_append_right (by omega), hlen] at hx
     exact ih.2.2 _ _ _ hv hx
 have asInts : ∀ (k : IntKind) (l : List Int), CRel m I w ρ (.ints k l) xs → xs = l.map (Value.int k) := by
  intro k l hl
  apply List.ext_getElem?
  intro j
  have hlen : xs.length = l.length := hl.1
  by_cases hj : j < l.length
  ·have hj' : j < xs.length := by omega
   have := hl.2.2 j (.int k l[j]) xs[j] (by simp [C.get, hj]) (List.getElem?_eq_getElem hj')
   rw [List.getElem?_eq_getElem hj', List.getElem?_map, List.getElem?_eq_getElem hj]
   generalize xs[j] = z at this
   cases this; rfl
  ·rw [List.getElem?_eq_none (by omega), List.getElem?_eq_none (by simpa using hj)]
 cases c with
 | imm l => simp [C.rep] at h
 | vals l =>
  simp only [C.rep, Option.some.injEq] at h
  subst h
  exact flat l hc
 | ints k l =>
  have hx := asInts k l hc
  have key : (List.replicate n xs).flatten = ((List.replicate n l).flatten).map (Value.int k) := by
   rw [hx, List.map_flatten, List.map_replicate]
  have : d = .ints k (List.replicate n l).flatten := by
   unfold C.rep at h
   split at h
   ·rename_i x' heq
    injection heq with h1 h2
    subst h1; subst h2
    injection h with h
    rw [← h]
    congr 1
    induction n with
    | zero => rfl
    | succ n ih => simp [List.replicate_succ]
   ·rename_i _ heq
    injection heq with h1 h2
    subst h1; subst h2
    injection h with h; exact h.symm
   ·rename_i heq; cases heq
   ·cases h
  rw [this, key]
  exact ints_rel _

theorem run_range_zero {zv : Value} {c k : Nat} (hk : zv.cells.size = k) :
  ((Array.range (c * k)).map ((if c * k = 0 then (#[] : Array Value) else zv.cells)[· % (if c * k = 0 then (#[] : Array Value) else zv.cells).size]!)).toList = (List.replicate c zv.cells.toList).flatten := by
 by_cases h0 : c * k = 0
 ·rw [if_pos h0]
  rcases Nat.mul_eq_zero.1 h0 with h | h
  ·subst h; simp
  ·have : zv.cells.toList = [] := by apply List.length_eq_zero_iff.1; rw [Array.length_toList, hk, h]
   rw [this]
   simp [h]
 ·rw [if_neg h0]
  exact rep_get hk (Nat.pos_of_ne_zero (fun e => h0 (by rw [e]; simp)))

theorem sound_mks {t el : TypeId} {i : TypeInfo} {zv : Value} {z : C} (hd : P.underlying t = some (.slice el)) (hz : ZRel P el i zv z) (hs : zv.cells.size = i.size) (hx : RelV m I w ρ p x) (hy : RelV m I w ρ q y) (hH : HRel m I O w ρ Hb) {lo : Nat}
  (h : ∃ H : List Blk, H.length = lo ∧ evQ (.mks z i.size i.bytes (.c p) (.c q)) [] H = some (v, news)) (hb : ∀ j b, news[j]? = some b → Hb[lo + j]? = some b) (hn : ρ lo = none) :
  QPost m P (Instr.makeSlice t x y) lo news.length Hb I O w ρ v := by
 obtain ⟨H, hlo, h⟩ := h
 simp only [evQ, R.ev] at h
 cases hx <;> simp only [] at h <;> try (cases h; done)
 rename_i k l
 cases hy <;> simp only [] at h <;> try (cases h; done)
 rename_i k' c
 split at h <;> try (cases h; done)
 rename_i hc
 obtain ⟨h1, h2, h3, h4⟩ := hc
 simp only [Option.map_eq_some_iff, Prod.mk.injEq] at h
 obtain ⟨d, hd', hv, hn'⟩ := h
 subst hv; subst hn'
 have hrel := C.rep_rel (m := m) (I := I) (w := w) (ρ := ρ) hd' (contentOf_rel hz.2.2)
 have hw1 : IntKind.i64.wrap l = l := by simp [IntKind.wrap, IntKind.bits, IntKind.signed]; omega
 have hw2 : IntKind.i64.wrap c = c := by simp [IntKind.wrap, IntKind.bits, IntKind.signed]; omega
 have hlen := run_range_zero (zv := zv) (c := c.toNat) hs
 generalize hcs : (Array.range (c.toNat * i.size)).map ((if c.toNat * i.size = 0 then (#[] : Array Value) else zv.cells)[· % (if c.toNat * i.size = 0 then (#[] : Array Value) else zv.cells).size]!) = cs at hlen
 refine QPost.new (w' := w.alloc (.cells cs el)) (xs := (List.replicate c.toNat zv.cells.toList).flatten) (cs := cs) (e := el) (z := .slice (some ⟨w.heap.size, 0, none⟩) l.toNat c.toNat) hH rfl rfl rfl rfl (by simpa using hb 0 _ rfl) hn hrel (fun j x h => by rw [← hlen] at h; simpa using h) ?_ (fun ρ' h1 h2 => ?_)
 ·have hb1 : ¬ (c < 0) := by omega
  have hb2 : ¬ ((i.bytes : Int) * c > 2 ^ 48) := by rw [Int.mul_comm]; omega
  have hb3 : ¬ (l < 0) := by omega
  have hb4 : ¬ (l > c) := by omega
  have hb5 : ¬ (c.toNat * i.bytes > roomBytes) := by
   have h7 : ((c.toNat * i.bytes : Nat) : Int) = c * i.bytes := by simp [Int.toNat_of_nonneg (show 0 ≤ c by omega)]
   have h8 : roomBytes = 2 ^ 47 := rfl
   rw [h8]; omega
  simp only [Instr.makeSlice, Sem.run_bind, run_und hd, Result.andThen_ok, asInt, run_asIntOf, Sem.run_pure, run_tinfo hz.1, hw1, hw2, hb1, hb2, hb3, hb4, decide_false, Bool.or_self, Bool.false_eq_true, if_false, askRoom, hb5, run_sz hz.1]
  by_cases h0 : c.toNat * i.size = 0
  ·simp only [if_pos h0] at hcs ⊢
   simp only [Sem.run_bind, Sem.run_pure, Result.andThen_ok]
   rw [hcs]; rfl
  ·simp only [if_neg h0] at hcs ⊢
   simp only [Sem.run_bind, run_zero hz.1 hz.2.1, Sem.run_pure, Result.andThen_ok]
   rw [hcs]; rfl
 ·have hsz : cs.size = c.toNat * i.size := by
   rw [← hcs]; simp
  refine .sl1 _ _ _ _ _ _ w.heap.size c.toNat cs.size (by rw [hlo]; exact h1) (by omega) (fun c e => by injection e with e; exact e.symm) h2 (by rw [hsz]; omega)
end

section
open Go
set_option linter.unusedSimpArgs false
set_option linter.unusedVariables false
variable {P : Program} {w : World} {m : Nat → Option Nat} {I O : Nat → Prop} {ρ : Pl} {H Hb : List Blk} {p q v : V} {x y : Value} {news : List Blk}

theorem C.app_rel {c d e : C} {xs ys : List Value} (h : c.app d = some e) (hc : CRel m I w ρ c xs) (hd : CRel m I w ρ d ys) : CRel m I w ρ e (xs ++ ys) := by
 have key : ∀ e : C, e.len = c.len + d.len → (e.isImm = true → c.isImm = true ∧ d.isImm = true) → (∀ j, e.get j = if j < c.len then c.get j else d.get (j - c.len)) → CRel m I w ρ e (xs ++ ys) := by
  intro e h1 h2 h3
  refine ⟨by simp [h1, hc.1, hd.1], fun j v hv => ?_, fun j v x hv hx => ?_⟩
  ·rw [h3] at hv
   split at hv
   ·exact hc.2.1 _ _ hv
   ·exact hd.2.1 _ _ hv
  ·rw [h3] at hv
   split at hv
   ·rename_i hj
    rw [List.getElem?_append_left (by rw [hc.1]; exact hj)] at hx
    exact plC_imp (fun e => (h2 e).1) (hc.2.2 _ _ _ hv hx)
   ·rename_i hj
    rw [List.getElem?_append_right (by rw [hc.1]; omega), hc.1] at hx
    exact plC_imp (fun e => (h2 e).2) (hd.2.2 _ _ _ hv hx)
 have key' : ∀ {l l' : List V}, c = .imm l → CRel m I w ρ (.imm l') ys → CRel m I w ρ (.imm (l ++ l')) (xs ++ ys) := by
  intro l l' hcl hd'
  subst hcl
  have h1 : xs.length = l.length := hc.1
  refine ⟨by simp [C.len, hc.1, hd'.1], fun j v hv => ?_, fun j v x hv hx => ?_⟩
  ·simp only [C.get] at hv
   by_cases hj : j < l.length
   ·rw [List.getElem?_append_left hj] at hv; exact hc.2.1 _ _ hv
   ·rw [List.getElem?_append_right (by omega)] at hv; exact hd'.2.1 _ _ hv
  ·simp only [C.get] at hv
   by_cases hj : j < l.length
   ·rw [List.getElem?_append_left hj] at hv
    rw [List.getElem?_append_left (by omega)] at hx
    exact hc.2.2 _ _ _ hv hx
   ·rw [List.getElem?_append_right (by omega)] at hv
    rw [List.getElem?_append_right (by omega), h1] at hx
    exact hd'.2.2 _ _ _ hv hx
 have nilL : ∀ e : C, e.len = 0 → CRel m I w ρ e xs → xs = [] := fun e h1 h2 => List.length_eq_zero_iff.1 (by rw [h2.1, h1])
 have app_get : ∀ {α : Type} (l l' : List α) (j : Nat), (l ++ l')[j]? = if j < l.length then l[j]? else l'[j - l.length]? := by
  intro α l l' j
  split
  ·rename_i h; exact List.getElem?_append_left h
  ·rename_i h; exact List.getElem?_append_right (by omega)
 have nilR : d.len = 0 → ys = [] := fun h1 => List.length_eq_zero_iff.1 (by rw [hd.1, h1])
 cases c with
 | ints k l =>
  cases d with
  | ints k' l' =>
   simp only [C.app] at h
   split at h <;> try (cases h; done)
   rename_i e; subst e
   injection h with h; subst h
   refine key _ (by simp [C.len]) (fun h => by simp [C.isImm] at h) (fun j => ?_)
   show ((l ++ l')[j]?).map (V.int k) = if j < l.length then (l[j]?).map (V.int k) else (l'[j - l.length]?).map (V.int k)
   rw [app_get]; split <;> rfl
  | vals l' => simp [C.app] at h
  | imm l' =>
   cases l' with
   | nil =>
    simp only [C.app] at h
    injection h with h; subst h
    rw [nilR rfl, List.append_nil]; exact hc
   | cons a r => simp [C.app] at h
 | vals l =>
  simp only [C.app] at h
  injection h with h; subst h
  refine key _ (by simp [C.len, C.len_toL]) (fun h => by simp [C.isImm] at h) (fun j => ?_)
  show (l ++ d.toL)[j]? = if j < l.length then l[j]? else d.get (j - l.length)
  rw [app_get]; split
  ·rfl
  ·rw [C.get_toL]
 | imm l =>
  cases l with
  | nil =>
   simp only [C.app] at h
   injection h with h; subst h
   rw [nilL _ rfl hc]; exact hd
  | cons a r =>
   cases d with
   | ints k' l' => simp [C.app] at h
   | imm l' =>
    simp only [C.app] at h
    injection h with h; subst h
    refine key _ (by simp [C.len]; omega) (fun _ => ⟨rfl, rfl⟩) (fun j => ?_)
    show (a :: r ++ l')[j]? = if j < (a :: r).length then (a :: r)[j]? else l'[j - (a :: r).length]?
    rw [app_get]
   | vals l' =>
    simp only [C.app] at h
    split at h <;> try (cases h; done)
    rename_i hi
    injection h with h; subst h
    exact key' rfl (hd.of_vals hi)

def isIntD : TypeDesc → Bool
 | .int _ => true
 | _ => false

/-- append that must make room -/
theorem run_append_new {t u ty el : TypeId} {d : TypeDesc} {i : TypeInfo} {zv : Value} {A : Option Addr} {n rc k : Nat} {xs ys : List Value} (hd : P.underlying t = some (.slice el)) (hu : P.underlying u = some d) (hi' : isIntD d = false) (hi : P.info? el = some i) (hz : i.zero = some zv)
  (hlen : ∀ w, (Builtin.lenOf y).run P w = .ok k w) (hy : ∀ w2 : World, w2.heap = w.heap → (Builtin.firstCells i.size k y).run P w2 = .ok ys.toArray w2)
  (hx : ∀ w2 : World, w2.heap = w.heap → (Builtin.firstCells i.size n (.slice A n rc)).run P w2 = .ok xs.toArray w2)
  (hroom : rc < n + k) (hb1 : (n + k) * i.bytes ≤ 2 ^ 40) (hb2 : n + k ≤ 2 ^ 40) :
  ∃ (nc : Nat) (cs : Array Value) (w' : World), n + k ≤ nc ∧ cs.size = xs.length + ys.length + (nc - (n + k)) * zv.cells.size ∧ (∀ (j : Nat) (z : Value), (xs ++ ys)[j]? = some z → cs[j]? = some z) ∧ w'.heap = w.heap.push (.cells cs el (0, 0)) ∧ w'.os = w.os ∧ w'.tape = w.tape ∧ w'.output = w.output ∧
   (Builtin.append_ #[t, u] ty #[.slice A n rc, y]).run P w = .ok (.slice (some ⟨w.heap.size, 0, none⟩) (n + k) nc) w' := by
 have hfit := growslice_fits (need := n + k) (old := rc) (bytes := i.bytes) hroom (by omega)
 have hn : ¬ (n + k ≤ rc) := by omega
 have h63 : ¬ (((n + k : Nat) : Int) > IntKind.i64.max) := by
  have : (IntKind.i64.max : Int) = 2 ^ 63 - 1 := rfl
  rw [this]; omega
 have h48 : ¬ (Builtin.nextslicecap (n + k) rc * i.bytes > 2 ^ 48) := by omega
 let nc := (Question.appendCap (n + k) rc el).cut (w.tape w.drawn (.appendCap (n + k) rc el))
 have hnc : n + k ≤ nc := Nat.le_add_right _ _
 let cs := xs.toArray ++ ys.toArray ++ Builtin.zeroCells zv.cells (nc - (n + k))
 refine ⟨nc, cs, w.drew.alloc (.cells cs el), hnc, by simp [cs, Builtin.zeroCells]; omega, fun j z hj => ?_, rfl, rfl, rfl, rfl, ?_⟩
 ·have hlt : j < (xs ++ ys).length := (List.getElem?_eq_some_iff.1 hj).1
  rw [← Array.getElem?_toList]
  simp only [cs, Array.toList_append]
  rw [List.getElem?_append_left (by simpa using hlt)]
  simpa using hj
 ·have hdraw : (choose (.appendCap (n + k) rc el)).run P w = .ok nc w.drew := by
   simp [choose, Sem.run, Question.forced, nc]
  have hask : ∀ b (w : World), (askRoom b).run P w = .ok () w := fun b w => by
   unfold askRoom; split <;> rfl
  cases d <;> first | (exfalso; simp [isIntD] at hi'; done) | skip
  all_goals
   simp only [Builtin.append_, List.getElem?_toArray, List.getElem?_cons_zero, List.getElem?_cons_succ, Sem.run_bind, run_und hd, Result.andThen_ok, run_sz hi, run_und hu, Sem.run_pure]
   simp only [Bool.false_eq_true, if_false, hlen, Sem.run_bind, Result.andThen_ok, hn, if_false, h63, false_and, h48, run_tinfo hi]
   simp only [hdraw, Bool.not_false, if_true, Sem.run_bind, hask, Result.andThen_ok, hx w.drew rfl, hy w.drew rfl, run_tinfo hi, run_zero hi hz]
   rfl
end

section
open Go
set_option linter.unusedSimpArgs false
set_option linter.unusedVariables false
variable {P : Program} {w : World} {m : Nat → Option Nat} {I O : Nat → Prop} {ρ : Pl} {H Hb : List Blk} {p q v : V} {x y : Value} {news : List Blk}

theorem run_storeCells_nil (a : Addr) (w : World) : (storeCells a []).run P w = .ok () w := rfl

/-- what the machine's append does with what is appended: k elements, of the cells ys -/
structure AppOf (P : Program) (t u ty el : TypeId) (i : TypeInfo) (zv : Value) (w : World) (y : Value) (k : Nat) (ys : List Value) : Prop where
 new : ∀ (A : Option Addr) (n rc : Nat) (xs : List Value), (∀ w2 : World, w2.heap = w.heap → (Builtin.firstCells i.size n (.slice A n rc)).run P w2 = .ok xs.toArray w2) → rc < n + k → (n + k) * i.bytes ≤ 2 ^ 40 → n + k ≤ 2 ^ 40 →
  ∃ (nc : Nat) (cs : Array Value) (w' : World), n + k ≤ nc ∧ cs.size = xs.length + ys.length + (nc - (n + k)) * zv.cells.size ∧ (∀ (j : Nat) (z : Value), (xs ++ ys)[j]? = some z → cs[j]? = some z) ∧ w'.heap = w.heap.push (.cells cs el (0, 0)) ∧ w'.os = w.os ∧ w'.tape = w.tape ∧ w'.output = w.output ∧
   (Builtin.append_ #[t, u] ty #[.slice A n rc, y]).run P w = .ok (.slice (some ⟨w.heap.size, 0, none⟩) (n + k) nc) w'
 inn : ∀ (A : Option Addr) (n rc : Nat) (w' : World), n + k ≤ rc → (∀ r o, A = some ⟨r, o, none⟩ → (storeCells ⟨r, o + n * i.size, none⟩ ys).run P w = .ok () w') → ((A = none ∧ w' = w) ∨ (∃ r o, A = some ⟨r, o, none⟩) ∨ (ys = [] ∧ w' = w)) →
  (Builtin.append_ #[t, u] ty #[.slice A n rc, y]).run P w = .ok (.slice A (n + k) rc) w'
theorem run_append_in {t u ty el : TypeId} {d : TypeDesc} {i : TypeInfo} {A : Option Addr} {n rc k : Nat} {ys : List Value} (hd : P.underlying t = some (.slice el)) (hu : P.underlying u = some d) (hi' : isIntD d = false) (hi : P.info? el = some i)
  (hlen : ∀ w, (Builtin.lenOf y).run P w = .ok k w) (hy : (Builtin.firstCells i.size k y).run P w = .ok ys.toArray w) (hroom : n + k ≤ rc) {w' : World}
  (hst : ∀ r o, A = some ⟨r, o, none⟩ → (storeCells ⟨r, o + n * i.size, none⟩ ys).run P w = .ok () w') (hA : (A = none ∧ w' = w) ∨ (∃ r o, A = some ⟨r, o, none⟩) ∨ (ys = [] ∧ w' = w)) :
  (Builtin.append_ #[t, u] ty #[.slice A n rc, y]).run P w = .ok (.slice A (n + k) rc) w' := by
 cases d <;> first | (exfalso; simp [isIntD] at hi'; done) | skip
 all_goals
  simp only [Builtin.append_, List.getElem?_toArray, List.getElem?_cons_zero, List.getElem?_cons_succ, Sem.run_bind, run_und hd, Result.andThen_ok, run_sz hi, run_und hu, Sem.run_pure]
  simp only [Bool.false_eq_true, if_false, hlen, Sem.run_bind, Result.andThen_ok, hroom, if_true, Bool.not_false, hy]
  rcases hA with ⟨rfl, rfl⟩ | ⟨r, o, rfl⟩ | ⟨rfl, rfl⟩
  ·rfl
  ·simp only [Sem.run_bind, add_mk, hst r o rfl, Result.andThen_ok, Sem.run_pure]
  ·cases A <;> rfl
theorem appOf_src {t u ty el : TypeId} {d : TypeDesc} {i : TypeInfo} {zv : Value} {k : Nat} {ys : List Value} (hd : P.underlying t = some (.slice el)) (hu : P.underlying u = some d) (hi' : isIntD d = false) (hi : P.info? el = some i) (hz : i.zero = some zv)
  (hl : ∀ (P : Program) (w : World), (Builtin.lenOf y).run P w = .ok k w) (hf : ∀ (P : Program) (w2 : World), w2.heap = w.heap → (Builtin.firstCells i.size k y).run P w2 = .ok ys.toArray w2) : AppOf P t u ty el i zv w y k ys :=
 ⟨fun A n rc xs hx hr h1 h2 => run_append_new hd hu hi' hi hz (hl P) (fun w2 h2 => hf P w2 h2) hx hr h1 h2,
  fun A n rc w' hr hst hA => run_append_in hd hu hi' hi (hl P) (hf P w rfl) hr hst hA⟩
theorem zeroCells_eq (zv : Array Value) (n : Nat) : Builtin.zeroCells zv n = (Array.range (n * zv.size)).map (zv[· % zv.size]!) := rfl
/-- zeros appended -/
theorem appOf_zero {t u ty el : TypeId} {i : TypeInfo} {zv : Value} {kk k' : IntKind} {kv : Int} (hd : P.underlying t = some (.slice el)) (hu : P.underlying u = some (.int kk)) (hi : P.info? el = some i) (hz : i.zero = some zv) (hzs : zv.cells.size = i.size)
  (h0 : 0 ≤ kv) (hb1 : kv * i.bytes ≤ 2 ^ 40) (hb2 : kv ≤ 2 ^ 40) : AppOf P t u ty el i zv w (.int k' kv) kv.toNat (List.replicate kv.toNat zv.cells.toList).flatten := by
 have hw : IntKind.i64.wrap kv = kv := by simp [IntKind.wrap, IntKind.bits, IntKind.signed]; omega
 have hneg : ¬ (kv < 0) := by omega
 have hbig : ¬ (kv * (i.bytes : Int) > 2 ^ 48) := by omega
 have happ : ∀ w2 : World, (if kv.toNat * i.size = 0 then pure #[] else do pure (Builtin.zeroCells (← zeroValue el).cells kv.toNat) : Sem (Array Value)).run P w2 = .ok (List.replicate kv.toNat zv.cells.toList).flatten.toArray w2 := by
  intro w2
  have hr := run_range_zero (zv := zv) (c := kv.toNat) hzs
  by_cases h : kv.toNat * i.size = 0
  ·rw [if_pos h]
   rw [if_pos h] at hr
   have e : (List.replicate kv.toNat zv.cells.toList).flatten = [] := by rw [← hr, h]; simp
   rw [e]
   rfl
  ·rw [if_neg h]
   rw [if_neg h] at hr
   rw [← hr]
   simp only [Sem.run_bind, run_zero hi hz, Result.andThen_ok, zeroCells_eq, hzs]
   rfl
 have hlen : (List.replicate kv.toNat zv.cells.toList).flatten.length = kv.toNat * zv.cells.size := by simp [List.length_flatten]
 refine ⟨fun A n rc xs hx hroom h1 h2 => ?_, fun A n rc w' hroom hst hA => ?_⟩
 ·have hfit := growslice_fits (need := n + kv.toNat) (old := rc) (bytes := i.bytes) hroom (by omega)
  have hn : ¬ (n + kv.toNat ≤ rc) := by omega
  have h63 : ¬ (((n + kv.toNat : Nat) : Int) > IntKind.i64.max) := by
   have : (IntKind.i64.max : Int) = 2 ^ 63 - 1 := rfl
   rw [this]; omega
  have h48 : ¬ (Builtin.nextslicecap (n + kv.toNat) rc * i.bytes > 2 ^ 48) := by omega
  let nc := (Question.appendCap (n + kv.toNat) rc el).cut (w.tape w.drawn (.appendCap (n + kv.toNat) rc el))
  have hnc : n + kv.toNat ≤ nc := Nat.le_add_right _ _
  let ys := (List.replicate kv.toNat zv.cells.toList).flatten
  let cs := xs.toArray ++ ys.toArray ++ Builtin.zeroCells zv.cells (nc - (n + kv.toNat))
  refine ⟨nc, cs, w.drew.alloc (.cells cs el), hnc, by simp [cs, ys, Builtin.zeroCells]; omega, fun j z hj => ?_, rfl, rfl, rfl, rfl, ?_⟩
  ·have hlt : j < (xs ++ ys).length := (List.getElem?_eq_some_iff.1 hj).1
   rw [← Array.getElem?_toList]
   simp only [cs, Array.toList_append]
   rw [List.getElem?_append_left (by simpa using hlt)]
   simpa using hj
  ·have hdraw : (choose (.appendCap (n + kv.toNat) rc el)).run P w = .ok nc w.drew := by
    simp [choose, Sem.run, Question.forced, nc]
   have hask : ∀ b (w : World), (askRoom b).run P w = .ok () w := fun b w => by
    unfold askRoom; split <;> rfl
   simp only [Builtin.append_, List.getElem?_toArray, List.getElem?_cons_zero, List.getElem?_cons_succ, Sem.run_bind, run_und hd, Result.andThen_ok, run_sz hi, run_und hu, Sem.run_pure]
   simp only [if_true, asInt, run_asIntOf, Sem.run_bind, Sem.run_pure, Result.andThen_ok, hw, hneg, if_false, run_tinfo hi, hbig, hn, h63, false_and, h48]
   simp only [hdraw, Bool.not_true, Bool.false_eq_true, if_false, Sem.run_bind, hask, Result.andThen_ok, hx w.drew rfl, happ, run_tinfo hi, run_zero hi hz]
   rfl
 ·simp only [Builtin.append_, List.getElem?_toArray, List.getElem?_cons_zero, List.getElem?_cons_succ, Sem.run_bind, run_und hd, Result.andThen_ok, run_sz hi, run_und hu, Sem.run_pure]
  simp only [if_true, asInt, run_asIntOf, Sem.run_bind, Sem.run_pure, Result.andThen_ok, hw, hneg, if_false, run_tinfo hi, hbig, hroom]
  simp only [Bool.not_true, Bool.false_eq_true, if_false, happ, Sem.run_bind, Result.andThen_ok]
  rcases hA with ⟨rfl, rfl⟩ | ⟨r, o, rfl⟩ | ⟨h, rfl⟩
  ·rfl
  ·simp only [Sem.run_bind, add_mk, hst r o rfl, Result.andThen_ok, Sem.run_pure]
  ·rw [h]; cases A <;> rfl
theorem sound_appG {t u ty el : TypeId} {i : TypeInfo} {zv : Value} {k : Nat} {d' : C} {ys : List Value} (hA : AppOf P t u ty el i zv w y k ys) (hzs : zv.cells.size = i.size)
  (hp : ∀ (i : Nat) (b : Blk), H[i]? = some b → Hb[i]? = some b) (hH : HRel m I O w ρ Hb) (hx : RelV m I w ρ p x) (hs : src H i.size q = some (k, d')) (hlen : d'.len = k * i.size) (hys : CRel m I w ρ d' ys)
  (h : evQ (.app i.size i.bytes (.c p) (.c q)) [] H = some (v, news)) (hb : ∀ (j : Nat) (b : Blk), news[j]? = some b → Hb[H.length + j]? = some b) (hn : ρ H.length = none) :
  QPost m P (Builtin.append_ #[t, u] ty #[x, y]) H.length news.length Hb I O w ρ v := by
 simp only [evQ, R.ev, hs, Option.bind_some] at h
 have nilCase : ∀ A, x = .slice A 0 0 → v = .sl H.length 0 k none i.size → news = [.cells false d'] → k * i.bytes ≤ 2 ^ 40 → k ≤ 2 ^ 40 → QPost m P (Builtin.append_ #[t, u] ty #[x, y]) H.length news.length Hb I O w ρ v := by
  intro A hxA hv hnw hb1 hb2
  subst hxA; subst hv; subst hnw
  by_cases hk : k = 0
  ·subst hk
   have hyn : ys = [] := List.length_eq_zero_iff.1 (by rw [hys.1, hlen]; simp)
   refine ⟨.slice A 0 0, w, I, O, ρ, ?_, .sl0 _ _ _ _ _ _ (fun c e => by cases e), hH, .refl _ _ _ _ _ _⟩
   exact hA.inn A 0 0 w (Nat.le_refl _) (fun r o _ => by rw [hyn]; rfl) (.inr (.inr ⟨hyn, rfl⟩))
  ·obtain ⟨nc, cs, w', g1, g2, g3, g4, g5, g6, g7, g8⟩ := hA.new A 0 0 []
    (fun w2 h2 => run_firstCells (w := w2) (by simp) (.inl rfl)) (by omega) (by simpa using hb1) (by omega)
   rw [Nat.zero_add] at g8
   refine QPost.new hH g4 g5 g6 g7 (by simpa using hb 0 _ rfl) hn hys (by simpa using g3) g8 (fun ρ' h1 h2 => ?_)
   refine .sl1 _ _ _ _ _ _ w.heap.size nc cs.size h1 (by omega) (fun c e => by cases e) h2 ?_
   rw [g2, hzs, hys.1, hlen]
   simp only [List.length_nil, Nat.zero_add]
   rw [← Nat.add_mul]
   have : k + (nc - k) = nc := by omega
   rw [this]
   exact Nat.le_refl _
 cases hx <;> (try simp only [] at h) <;> try (cases h; done)
 ·split at h <;> try (cases h; done)
  rename_i hbd
  simp only [Option.some.injEq, Prod.mk.injEq] at h
  exact nilCase _ rfl h.1.symm h.2.symm hbd.1 hbd.2
 ·split at h <;> try (cases h; done)
  rename_i hbd
  simp only [Option.some.injEq, Prod.mk.injEq] at h
  exact nilCase _ rfl h.1.symm h.2.symm hbd.1 hbd.2
 ·rename_i b off sz cap A hc
  cases cap with
  | none => simp at h
  | some cap =>
   simp only [] at h
   split at h <;> try (cases h; done)
   rename_i hbd
   obtain ⟨rfl, hbd1, hbd2, hbd3⟩ := hbd
   simp only [Option.bind_eq_some_iff, Option.map_eq_some_iff, Prod.mk.injEq] at h
   obtain ⟨⟨k0, c0⟩, hs0, c1, hc1, hv, hnw⟩ := h
   subst hv; subst hnw
   obtain ⟨hlen0, xs, hxs, hl0, hf0, _, _⟩ := src_any hp hH hs0 (RelV.sl0 ρ b off i.size (some cap) A hc)
   have hk0 : k0 = 0 := by
    simp only [src] at hs0
    split at hs0 <;> try (cases hs0; done)
    split at hs0 <;> try (cases hs0; done)
    simp only [Option.some.injEq, Prod.mk.injEq] at hs0
    exact hs0.1.symm
   subst hk0
   have hcap := hc cap rfl
   obtain ⟨nc, cs, w', g1, g2, g3, g4, g5, g6, g7, g8⟩ := hA.new A 0 0 xs
    (fun w2 h2 => hf0 P w2 h2) (by omega) (by simpa using hbd2) (by omega)
   refine QPost.new hH g4 g5 g6 g7 (by simpa using hb 0 _ rfl) hn (C.app_rel hc1 hxs hys) g3 g8 (fun ρ' h1 h2 => ?_)
   refine .sl1 _ _ _ _ _ _ w.heap.size nc cs.size h1 (by omega) (fun c e => by cases e) h2 ?_
   rw [g2, hzs, hys.1, hlen, hxs.1, hlen0]
   have : 0 * i.size + k * i.size + (nc - (0 + k)) * i.size = nc * i.size := by rw [← Nat.add_mul, ← Nat.add_mul]; congr 1; omega
   omega
 ·rename_i b off len sz cap r rc n hh2 hh3 hh4 hh5 hh1
  cases cap with
  | none => simp at h
  | some cap =>
   simp only [] at h
   split at h <;> try (cases h; done)
   rename_i hbd
   obtain ⟨rfl, hbd1, hbd2, hbd3⟩ := hbd
   simp only [Option.bind_eq_some_iff, Option.map_eq_some_iff, Prod.mk.injEq] at h
   obtain ⟨⟨k0, c0⟩, hs0, c1, hc1, hv, hnw⟩ := h
   subst hv; subst hnw
   obtain ⟨hlen0, xs, hxs, hl0, hf0, _, _⟩ := src_any hp hH hs0 (RelV.sl1 ρ b off len i.size (some cap) r rc n hh1 hh2 hh3 hh4 hh5)
   have hk0 : k0 = len := by
    simp only [src] at hs0
    split at hs0 <;> try (cases hs0; done)
    split at hs0 <;> try (cases hs0; done)
    simp only [Option.some.injEq, Prod.mk.injEq] at hs0
    exact hs0.1.symm
   subst hk0
   have hcap := hh3 cap rfl
   obtain ⟨nc, cs, w', g1, g2, g3, g4, g5, g6, g7, g8⟩ := hA.new (some ⟨r, off, none⟩) k0 rc xs
    (fun w2 h2 => hf0 P w2 h2) (by omega) hbd2 (by omega)
   refine QPost.new hH g4 g5 g6 g7 (by simpa using hb 0 _ rfl) hn (C.app_rel hc1 hxs hys) g3 g8 (fun ρ' h1 h2 => ?_)
   refine .sl1 _ _ _ _ _ _ w.heap.size nc cs.size h1 (by omega) (fun c e => by cases e) h2 ?_
   rw [g2, hzs, hys.1, hlen, hxs.1, hlen0]
   have : k0 * i.size + k * i.size + (nc - (k0 + k)) * i.size = nc * i.size := by rw [← Nat.add_mul, ← Nat.add_mul]; congr 1; omega
   omega

theorem sound_app {t u ty el : TypeId} {d : TypeDesc} {i : TypeInfo} {zv : Value} (hd : P.underlying t = some (.slice el)) (hu : P.underlying u = some d) (hi' : isIntD d = false) (hi : P.info? el = some i) (hz : i.zero = some zv) (hzs : zv.cells.size = i.size)
  (hp : ∀ (i : Nat) (b : Blk), H[i]? = some b → Hb[i]? = some b) (hH : HRel m I O w ρ Hb) (hx : RelV m I w ρ p x) (hy : RelV m I w ρ q y)
  (h : evQ (.app i.size i.bytes (.c p) (.c q)) [] H = some (v, news)) (hb : ∀ (j : Nat) (b : Blk), news[j]? = some b → Hb[H.length + j]? = some b) (hn : ρ H.length = none) :
  QPost m P (Builtin.append_ #[t, u] ty #[x, y]) H.length news.length Hb I O w ρ v := by
 have h' := h
 simp only [evQ, R.ev, Option.bind_eq_some_iff] at h'
 obtain ⟨⟨k, d'⟩, hs, _⟩ := h'
 obtain ⟨hlen, ys, hys, hl, hf, _, _⟩ := src_any hp hH hs hy
 exact sound_appG (appOf_src hd hu hi' hi hz hl hf) hzs hp hH hx hs hlen hys h hb hn

theorem sound_bsl {t el : TypeId} {i : TypeInfo} {zv : Value} {len : Nat} {z : C} {ps : List (Nat × Nat × R)} {xs : Array (Nat × Value)} {e : Env} (hd : P.underlying t = some (.slice el)) (hi : P.info? el = some i) (hz : i.zero = some zv) (hzs : zv.cells.size = i.size)
  (hc : contentOf (List.replicate len zv.cells.toList).flatten = some z) (hH : HRel m I O w ρ Hb) (hp : PRel m I w ρ (fun k => some (k * i.size, i.size)) ps xs.toList e)
  (h : evQ (.bsl len i.size z ps) e H = some (v, news)) (hb : ∀ (j : Nat) (b : Blk), news[j]? = some b → Hb[H.length + j]? = some b) (hn : ρ H.length = none) :
  QPost m P (Instr.buildSlice t len xs) H.length news.length Hb I O w ρ v := by
 simp only [evQ, Option.bind_eq_some_iff] at h
 obtain ⟨c, hpa, h⟩ := h
 split at h <;> try (cases h; done)
 rename_i hbd
 obtain ⟨hbd1, hbd2⟩ := hbd
 simp only [Option.some.injEq, Prod.mk.injEq] at h
 obtain ⟨rfl, rfl⟩ := h
 have hr0 := run_range_zero (zv := zv) (c := len) hzs
 generalize hcs : (Array.range (len * i.size)).map ((if len * i.size = 0 then (#[] : Array Value) else zv.cells)[· % (if len * i.size = 0 then (#[] : Array Value) else zv.cells).size]!) = cs0 at hr0
 obtain ⟨cs, h1, h2⟩ := fill_rel (cs := cs0) hp hpa (by rw [hr0]; exact contentOf_rel hc)
 have h3 := CRel.tidied h2
 refine QPost.new (w' := w.alloc (.cells cs el)) (xs := cs.toList) (cs := cs) (e := el) (z := .slice (some ⟨w.heap.size, 0, none⟩) len len) hH rfl rfl rfl rfl (by simpa using hb 0 _ rfl) hn h3 (fun j x h => by simpa using h) ?_ (fun ρ' h4 h5 => ?_)
 ·have h24 : ¬ (len * i.size > 2 ^ 24) := by omega
  simp only [Instr.buildSlice, Sem.run_bind, run_und hd, Result.andThen_ok, run_sz hi, h24, if_false, Sem.run_pure]
  by_cases h0 : len * i.size = 0
  ·simp only [if_pos h0] at hcs ⊢
   simp only [Sem.run_bind, Sem.run_pure, Result.andThen_ok]
   rw [hcs, h1]; rfl
  ·simp only [if_neg h0] at hcs ⊢
   simp only [Sem.run_bind, run_zero hi hz, Sem.run_pure, Result.andThen_ok]
   rw [hcs, h1]; rfl
 ·refine .sl1 _ _ _ _ _ _ w.heap.size len cs.size h4 (Nat.le_refl _) (fun c e => by injection e with e; exact e.symm) h5 ?_
  have : cs.size = len * i.size := by rw [← hbd1, ← h2.1]; simp
  omega

theorem sound_rng {t : TypeId} (hd : P.underlying t = some .string) (hH : HRel m I O w ρ Hb) (hx : RelV m I w ρ p x)
  (h : evQ (.rng (.c p)) [] H = some (v, news)) (hb : ∀ (j : Nat) (b : Blk), news[j]? = some b → Hb[H.length + j]? = some b) (hn : ρ H.length = none) :
  QPost m P (Instr.range t x) H.length news.length Hb I O w ρ v := by
 simp only [evQ, R.ev] at h
 cases hx <;> simp only [] at h <;> try (cases h; done)
 rename_i s
 simp only [Option.some.injEq, Prod.mk.injEq] at h
 obtain ⟨rfl, rfl⟩ := h
 obtain ⟨g1, g2⟩ := grow_new (w' := w.alloc (.stringIter ⟨s.toArray⟩ 0)) (i := H.length) (b := .iter s 0) rfl rfl rfl rfl hH hn (by simpa using hb 0 _ rfl) (fun O' ρ' ho hz hm => ⟨by show (w.heap.push _)[w.heap.size]? = _; simp, hz⟩)
 refine ⟨.pointer (some ⟨w.heap.size, 0, none⟩), _, I, _, _, ?_, .ptr _ _ _ _ (by simp [plus]), g1, g2⟩
 simp only [Instr.range, Sem.run_bind, run_und hd, Result.andThen_ok, Sem.run_pure]
 rfl

theorem sound_s2b {s d e : TypeId} (hs : P.underlying s = some .string) (hd : P.underlying d = some (.slice e)) (he : P.underlying e = some (.int .u8)) (hH : HRel m I O w ρ Hb) (hx : RelV m I w ρ p x)
  (h : evQ (.s2b (.c p)) [] H = some (v, news)) : news = [] ∧ QPost m P (convert s d x) H.length 0 Hb I O w ρ v := by
 simp only [evQ, R.ev] at h
 cases hx <;> simp only [] at h <;> try (cases h; done)
 rename_i s'
 simp only [Option.some.injEq, Prod.mk.injEq] at h
 obtain ⟨rfl, rfl⟩ := h
 refine ⟨rfl, ?_⟩
 have hrun := Lib.run_convert_string_bytes (P := P) w s d e ⟨s'.toArray⟩ hs hd he
 have hsz : (⟨s'.toArray⟩ : ByteArray).size = s'.length := size_mk s'
 have hg : Grow H.length (H.length + 0) I O w ρ (fun k => I k ∨ k = w.heap.size) O (Lib.bytesWorld w e ⟨s'.toArray⟩) ρ := by
  refine ⟨fun _ h => .inl h, fun k h => h.imp id (fun e => by omega), fun _ h => h, fun _ h => .inl h, fun _ _ h => h, fun _ _ h => .inl h, by rw [Lib.bytesWorld_size]; omega, fun k hk => Lib.bytesWorld_at_old w e _ k hk, ?_, ?_, ?_⟩ <;>
   (unfold Lib.bytesWorld World.freeze; rw [if_neg (by omega)]; rfl)
 have hm := hg.mono hH.imm
 refine ⟨_, _, _, O, ρ, hrun, ?_, ⟨hH.inj, fun i r hr => ?_, fun i r hr => ?_, fun k hk => ?_, fun k hk => ?_, fun k hk => ?_, hH.tab.step hm.imm hm.block⟩, hg⟩
 ·rw [hsz]
  refine .tb _ _ _ _ ?_
  show RelV m _ _ _ (.rs (s'.map fun b => (b.toNat : Int)).length (.ints .u8 (s'.map fun b => (b.toNat : Int)))) _
  rw [List.length_map]
  refine .rs _ _ _ _ _ (fun j => .int .u8 (s'.getD j 0).toNat) (by simp [grownCap, Question.cut]) (fun j v hj => ?_) (fun j v hj => ?_) (fun h => by cases h)
  ·have hlt : j < s'.length := by have := C.get_lt hj; simpa [C.len] using this
   have hc := Lib.bytesWorld_cell w e ⟨s'.toArray⟩ j (by rw [hsz]; exact hlt)
   simp only [C.get, Option.map_eq_some_iff] at hj
   obtain ⟨n, _, rfl⟩ := hj
   exact ⟨rfl, w.heap.size, 0, rfl, .inr rfl, by simpa using hc⟩
  ·have hlt : j < s'.length := by have := C.get_lt hj; simpa [C.len] using this
   simp only [C.get, List.getElem?_map, Option.map_eq_some_iff] at hj
   obtain ⟨n, ⟨b, hb, rfl⟩, rfl⟩ := hj
   have : s'.getD j 0 = b := by rw [List.getD_eq_getElem?_getD, hb]; rfl
   rw [this]
   exact .int _ _ _
 ·obtain ⟨b, h1, h2⟩ := hH.blk i r hr
  exact ⟨b, h1, h2.mono hm (fun _ h => h) (hg.block _ (hH.lt i r hr))⟩
 ·have := hH.lt i r hr; rw [Lib.bytesWorld_size]; omega
 ·have := hH.own k hk; rw [Lib.bytesWorld_size]; omega
 ·rw [Lib.bytesWorld_size]
  rcases hk with hk | hk
  ·have := hH.imm k hk; omega
  ·omega
 ·rcases hk with hk | hk
  ·exact hH.dis k hk
  ·intro ho; have := hH.own k ho; omega
end

section
open Go
set_option linter.unusedSimpArgs false
set_option linter.unusedVariables false
variable {P : Program} {w : World} {m : Nat → Option Nat} {I O : Nat → Prop} {ρ : Pl} {H Hb : List Blk} {p q v : V} {x y : Value} {news : List Blk}

theorem setCell_heap (w : World) (a : Addr) (v : Value) (k : Nat) (h : k ≠ a.block) : (w.setCell a v).heap[k]? = w.heap[k]? := by
 simp only [World.setCell, Array.getElem?_modify]
 rw [if_neg (by omega)]
theorem setCells_other (r : Nat) : ∀ (ys : List Value) (o : Nat) (w : World), (∀ k, k ≠ r → (w.setCells r o ys).heap[k]? = w.heap[k]?) ∧ (w.setCells r o ys).heap.size = w.heap.size ∧
  (w.setCells r o ys).os = w.os ∧ (w.setCells r o ys).tape = w.tape ∧ (w.setCells r o ys).output = w.output
 | [], o, w => ⟨fun _ _ => rfl, rfl, rfl, rfl, rfl⟩
 | y :: ys, o, w => by
  obtain ⟨h1, h2, h3, h4, h5⟩ := setCells_other r ys (o + 1) (w.setCell ⟨r, o, none⟩ y)
  exact ⟨fun k hk => (h1 k hk).trans (setCell_heap _ _ _ _ hk), h2.trans (by simp [World.setCell]), h3, h4, h5⟩
theorem setCells_same (r : Nat) : ∀ (ys : List Value) (o : Nat) (w : World) (cs : Array Value) (e : TypeId) (fr : Nat × Nat), w.heap[r]? = some (.cells cs e fr) →
  ∃ cs', (w.setCells r o ys).heap[r]? = some (.cells cs' e fr) ∧ cs'.size = cs.size ∧ ∀ j : Nat, cs'[j]? = if j < o then cs[j]? else if j < o + ys.length then (if j < cs.size then ys[j - o]? else none) else cs[j]?
 | [], o, w, cs, e, fr, h => ⟨cs, h, rfl, fun j => by simp only [List.length_nil, Nat.add_zero]; split <;> rfl⟩
 | y :: ys, o, w, cs, e, fr, h => by
  have h1 : (w.setCell ⟨r, o, none⟩ y).heap[r]? = some (.cells (cs.setIfInBounds o y) e fr) := by
   simp only [World.setCell, Array.getElem?_modify, if_true, h]; rfl
  obtain ⟨cs', g1, g2, g3⟩ := setCells_same r ys (o + 1) _ _ e fr h1
  refine ⟨cs', g1, by rw [g2]; simp, fun j => ?_⟩
  rw [g3]
  simp only [Array.size_setIfInBounds, List.length_cons]
  by_cases h1 : j < o
  ·rw [if_pos (by omega), if_pos h1, Array.getElem?_setIfInBounds_ne (by omega)]
  ·by_cases h2 : j = o
   ·subst h2
    rw [if_pos (by omega), if_neg (by omega), if_pos (by omega)]
    by_cases h3 : j < cs.size
    ·rw [if_pos h3, Array.getElem?_setIfInBounds_self_of_lt h3]; simp
    ·rw [if_neg h3, Array.getElem?_eq_none (by simp; omega)]
   ·rw [if_neg (by omega), if_neg h1]
    by_cases h3 : j < o + (ys.length + 1)
    ·rw [if_pos (by omega), if_pos h3]
     by_cases h4 : j < cs.size
     ·rw [if_pos h4, if_pos h4, show j - o = (j - (o + 1)) + 1 by omega]; simp
     ·rw [if_neg h4, if_neg h4]
    ·rw [if_neg (by omega), if_neg h3, Array.getElem?_setIfInBounds_ne (by omega)]

/-- a step that may write what is one's own; n: the numbers from n on may be placed by it -/
structure EG (n : Nat) (I O : Nat → Prop) (w : World) (ρ : Pl) (O' : Nat → Prop) (w' : World) (ρ' : Pl) : Prop where
 mono : Mono I w ρ I w' ρ'
 ext : Ext O w w'
 own : ∀ k, O k → O' k
 own' : ∀ k, O' k → O k ∨ w.heap.size ≤ k
 pl' : ∀ i r, ρ' i = some r → ρ i = some r ∨ (n ≤ i ∧ (O r ∨ w.heap.size ≤ r))

def EPost (m : Nat → Option Nat) (P : Program) (s : Sem Value) (n : Nat) (H' : List Blk) (I O : Nat → Prop) (w : World) (ρ : Pl) (v : V) : Prop :=
 ∃ z w' O' ρ', s.run P w = .ok z w' ∧ RelV m I w' ρ' v z ∧ HRel m I O' w' ρ' H' ∧ EG n I O w ρ O' w' ρ'

theorem live_set {b i : Nat} {bl : Blk} (h : live (H.set b bl) i) (hb : live H b) : live H i := by
 obtain ⟨c, h1, h2⟩ := h
 by_cases e : b = i
 ·subst e; exact hb
 ·rw [List.getElem?_set_ne e] at h1; exact ⟨c, h1, h2⟩

/-- a block of one's own is written -/
theorem write_block {b r : Nat} {bl bl' : Blk} {w' : World} (hH : HRel m I O w ρ H) (hb : H[b]? = some bl) (hl : bl ≠ .dead) (hr : ρ b = some r) (hO : O r) (hother : ∀ k, k ≠ r → w'.heap[k]? = w.heap[k]?) (hsize : w'.heap.size = w.heap.size)
  (h1 : w'.os = w.os) (h2 : w'.tape = w.tape) (h3 : w'.output = w.output) (hs : ∀ n, sizeOf? w r = some n → sizeOf? w' r = some n) (hnew : Mono I w ρ I w' ρ → BRel m I O w' ρ r bl') :
  HRel m I O w' ρ (H.set b bl') ∧ EG H.length I O w ρ O w' ρ := by
 have hI : ∀ k, I k → k ≠ r := fun k hk e => hH.dis k hk (e ▸ hO)
 have hc : ∀ k n, sizeOf? w k = some n → sizeOf? w' k = some n := fun k n hn => by
  by_cases e : k = r
  ·subst e; exact hs n hn
  ·unfold sizeOf? at *; rw [hother k e]; exact hn
 have hm : Mono I w ρ I w' ρ := ⟨fun _ h => h, fun _ _ h => h, fun k hk => hother k (hI k hk), hc⟩
 have hlb : live H b := ⟨bl, hb, hl⟩
 have hblt : b < H.length := (List.getElem?_eq_some_iff.1 hb).1
 refine ⟨⟨fun i j s hi hj li lj => hH.inj i j s hi hj (live_set li hlb) (live_set lj hlb), fun i s hi => ?_, fun i s hi => ?_, fun k hk => ?_, fun k hk => ?_, hH.dis, hH.tab.step hm.imm hm.block⟩, hm, ⟨h1, h2, h3, by rw [hsize]; exact Nat.le_refl _, fun k _ hk => hother k (fun e => hk (e ▸ hO)), hc⟩, fun _ h => h, fun _ h => .inl h, fun _ _ h => .inl h⟩
 ·by_cases e : i = b
  ·subst e
   rw [hr] at hi; injection hi with hi; subst hi
   exact ⟨bl', by rw [List.getElem?_set_self hblt], hnew hm⟩
  ·obtain ⟨b', g1, g2⟩ := hH.blk i s hi
   refine ⟨b', by rw [List.getElem?_set_ne (Ne.symm e)]; exact g1, ?_⟩
   by_cases hd : b' = .dead
   ·subst hd; exact trivial
   ·refine g2.mono hm (fun _ h => h) (hother s (fun es => ?_))
    subst es
    exact e (hH.inj i b s hi hr ⟨b', g1, hd⟩ hlb)
 ·rw [hsize]; exact hH.lt i s hi
 ·rw [hsize]; exact hH.own k hk
 ·rw [hsize]; exact hH.imm k hk

theorem BRel.crel {r : Nat} {ro : Bool} {c : C} (h : BRel m I O w ρ r (.cells ro c)) : ∃ cs e fr, w.heap[r]? = some (.cells cs e fr) ∧ (fr.1 = fr.2 ∨ cs.size ≤ fr.1) ∧ c.len ≤ cs.size ∧ CRel m I w ρ c (cs.toList.take c.len) := by
 obtain ⟨cs, e, fr, h1, h2, h3, h4, h5, _⟩ := h
 refine ⟨cs, e, fr, h1, h2, h3, by simp; omega, h4, fun j v x hv hx => h5 j v x hv ?_⟩
 rw [List.getElem?_take, if_pos (C.get_lt hv)] at hx
 simpa using hx

/-- cells of one's own written over: the content behind it -/
theorem write_cells {b r o : Nat} {c d c' : C} {ys : List Value} (hH : HRel m I O w ρ H) (hb : H[b]? = some (.cells false c)) (hr : ρ b = some r) (hp : c.put o d = some c') (hd : CRel m I w ρ d ys) :
  HRel m I O (w.setCells r o ys) ρ (H.set b (.cells false c')) ∧ EG H.length I O w ρ O (w.setCells r o ys) ρ ∧ (∀ j, j < ys.length → (w.cell? ⟨r, o + j, none⟩).isSome = true) ∧ (∀ j, j < ys.length → w.frozen? ⟨r, o + j, none⟩ = false) := by
 have hB := hH.at hb hr
 obtain ⟨cs, e, fr, g1, g2, g3, g4⟩ := hB.crel
 have hO : O r := by
  obtain ⟨_, _, _, _, _, _, _, _, h, _⟩ := hB
  exact h rfl
 obtain ⟨cs', k1, k2, k3⟩ := setCells_same r ys o w cs e fr g1
 obtain ⟨s1, s2, s3, s4, s5⟩ := setCells_other r ys o w
 obtain ⟨hcr, hle⟩ := g4.put hp hd
 obtain ⟨_, hlen, _, _⟩ := C.get_put hp
 have hle' : o + ys.length ≤ c.len := by rw [← g4.1]; exact hle
 obtain ⟨q1, q2⟩ := write_block (bl' := .cells false c') hH hb (by simp) hr hO s1 s2 s3 s4 s5 (fun n hn => by
   simp only [sizeOf?, g1, Option.some.injEq] at hn
   simp only [sizeOf?, k1, k2, hn]) (fun hm => by
   refine ⟨cs', e, fr, k1, by rw [k2]; exact g2, by rw [k2, hlen]; exact g3, hcr.2.1, fun j v x hv hx => ?_, fun _ => hO, fun e => by cases e⟩
   ·refine hm.relC (hcr.2.2 j v x hv ?_)
    have hj : j < c.len := by rw [← hlen]; exact C.get_lt hv
    rw [get_put_list _ ys o j hle]
    rw [k3] at hx
    by_cases h1 : j < o
    ·rw [if_pos h1] at hx ⊢
     rw [List.getElem?_take, if_pos hj]; simpa using hx
    ·by_cases h2 : j < o + ys.length
     ·rw [if_neg h1, if_pos h2, if_pos (by omega)] at hx
      rw [if_neg h1, if_pos h2]; exact hx
     ·rw [if_neg h1, if_neg h2] at hx
      rw [if_neg h1, if_neg h2, List.getElem?_take, if_pos hj]; simpa using hx)
 refine ⟨q1, q2, fun j hj => ?_, fun j hj => fr_free g1 g2 _ (by omega)⟩
 rw [cell?_of g1]
 rw [Array.getElem?_eq_getElem (show o + j < cs.size by omega)]; rfl

theorem write_more {b r o n : Nat} {k : IntKind} {l m' : List Int} {ys : List Value} (hH : HRel m I O w ρ H) (hb : H[b]? = some (.cells false (.ints k l))) (hr : ρ b = some r) (ho : o ≤ l.length) (hd : CRel m I w ρ (.ints k m') ys) (hs : sizeOf? w r = some n) (hn : o + ys.length ≤ n) :
  HRel m I O (w.setCells r o ys) ρ (H.set b (.cells false (.ints k (l.take o ++ m')))) ∧ EG H.length I O w ρ O (w.setCells r o ys) ρ ∧ (∀ j, j < ys.length → (w.cell? ⟨r, o + j, none⟩).isSome = true) ∧ (∀ j, j < ys.length → w.frozen? ⟨r, o + j, none⟩ = false) := by
 have hB := hH.at hb hr
 obtain ⟨cs, e, fr, g1, g2, g3, g4⟩ := hB.crel
 have hO : O r := by
  obtain ⟨_, _, _, _, _, _, _, _, h, _⟩ := hB
  exact h rfl
 have hnc : cs.size = n := by simpa [sizeOf?, g1] using hs
 obtain ⟨cs', k1, k2, k3⟩ := setCells_same r ys o w cs e fr g1
 obtain ⟨s1, s2, s3, s4, s5⟩ := setCells_other r ys o w
 have hyl : ys.length = m'.length := hd.1
 have lt : (l.take o).length = o := by rw [List.length_take]; omega
 have hlen : (C.ints k (l.take o ++ m')).len = o + m'.length := by show (l.take o ++ m').length = _; rw [List.length_append, lt]
 obtain ⟨q1, q2⟩ := write_block (bl' := .cells false (.ints k (l.take o ++ m'))) hH hb (by simp) hr hO s1 s2 s3 s4 s5 (fun n hn => by
   simp only [sizeOf?, g1, Option.some.injEq] at hn
   simp only [sizeOf?, k1, k2, hn]) (fun hm => by
   refine ⟨cs', e, fr, k1, by rw [k2]; exact g2, by rw [k2, hlen]; omega, fun j v hv => ?_, fun j v x hv hx => ?_, fun _ => hO, fun e => by cases e⟩
   ·obtain ⟨z, _, rfl⟩ := Option.map_eq_some_iff.1 (show ((l.take o ++ m')[j]?).map (V.int k) = some v from hv)
    rfl
   ·have hv2 : ((l.take o ++ m')[j]?).map (V.int k) = some v := hv
    have hj : j < o + m'.length := by rw [← hlen]; exact C.get_lt hv
    rw [k3] at hx
    by_cases h1 : j < o
    ·rw [if_pos h1] at hx
     rw [List.getElem?_append_left (by omega), List.getElem?_take, if_pos h1] at hv2
     have e1 := g4.2.2 j v x hv2 (by
       rw [List.getElem?_take, if_pos (show j < (C.ints k l).len from (by show j < l.length; omega))]
       simpa using hx)
     exact hm.relC e1
    ·rw [if_neg h1, if_pos (by omega), if_pos (by omega)] at hx
     rw [List.getElem?_append_right (by omega), lt] at hv2
     exact hm.relC (hd.2.2 (j - o) v x hv2 hx))
 refine ⟨q1, q2, fun j hj => ?_, fun j hj => fr_free g1 g2 _ (by omega)⟩
 rw [cell?_of g1]
 rw [Array.getElem?_eq_getElem (show o + j < cs.size by omega)]; rfl
theorem C.puta_inv {c d c' : C} {o : Nat} (h : c.puta o d = some c') : c.put o d = some c' ∨ c.put o d = none ∧ ∃ k l m, c = .ints k l ∧ d = .ints k m ∧ o ≤ l.length ∧ c' = .ints k (l.take o ++ m) := by
 unfold C.puta at h
 split at h
 ·rename_i z hz; injection h with h; subst h; exact .inl hz
 ·rename_i hz
  split at h <;> try (cases h; done)
  split at h <;> try (cases h; done)
  rename_i hc
  obtain ⟨rfl, ho⟩ := hc
  injection h with h; subst h
  exact .inr ⟨hz, _, _, _, rfl, rfl, ho, rfl⟩

theorem oneCell_of (hv : v.isCell = true) (hx : RelV m I w ρ v x) : x.oneCell' = true := by
 cases hx <;> first | rfl | (obtain ⟨A, rc, f, rfl, _⟩ := RelV.tbRs_inv (by assumption); rfl) | simp [V.isCell] at hv
theorem CRel.oneCell {c : C} {xs : List Value} (h : CRel m I w ρ c xs) : ∀ x ∈ xs, x.oneCell' = true := by
 intro x hx
 obtain ⟨j, hj, rfl⟩ := List.mem_iff_getElem.1 hx
 obtain ⟨v, hv⟩ := C.get_some (c := c) (j := j) (by rw [← h.1]; exact hj)
 exact oneCell_of (h.2.1 j v hv) (h.2.2 j v _ hv (List.getElem?_eq_getElem hj))

theorem C.set_put {c c' : C} {o : Nat} {u : V} (h : c.set o u = some c') (hu : u.isCell = true) : c.put o (C.one u) = some c' ∨ ∃ l, c = .imm l ∧ u.idf = true ∧ o < l.length ∧ c' = .imm (l.set o u) := by
 have setl : ∀ {α : Type} (l : List α) (o : Nat) (a : α), o < l.length → l.set o a = l.take o ++ [a] ++ l.drop (o + 1) := by
  intro α l o a ho
  rw [List.set_eq_take_append_cons_drop, if_pos ho]
  simp
 cases c with
 | ints k l =>
  cases u <;> simp only [C.set] at h <;> try (cases h; done)
  split at h <;> try (cases h; done)
  rename_i hc
  obtain ⟨rfl, hc⟩ := hc
  injection h with h; subst h
  left
  simp only [C.one, C.put, List.length_singleton]
  rw [if_pos ⟨trivial, by omega⟩, setl _ _ _ hc]
 | vals l =>
  simp only [C.set] at h
  split at h <;> try (cases h; done)
  rename_i hc
  injection h with h; subst h
  left
  have h1 : (C.one u).len = 1 := by cases u <;> first | rfl | simp [V.isCell] at hu
  have h2 : (C.one u).toL = [u] := by cases u <;> rfl
  simp only [C.put]
  rw [h1, h2, if_pos (by omega), setl _ _ _ hc.1]
 | imm l =>
  simp only [C.set] at h
  split at h <;> try (cases h; done)
  rename_i hc
  injection h with h; subst h
  exact .inr ⟨l, rfl, hc.2.2, hc.1, rfl⟩
end

section
open Go
set_option linter.unusedSimpArgs false
set_option linter.unusedVariables false
variable {P : Program} {w : World} {m : Nat → Option Nat} {I O : Nat → Prop} {ρ : Pl} {H Hb : List Blk} {p q v : V} {x y : Value} {H' : List Blk}

theorem prefix_refl : ∀ (i : Nat) (b : Blk), H[i]? = some b → H[i]? = some b := fun _ _ h => h

theorem sound_stc {t : TypeId} {i : TypeInfo} (hi : P.info? t = some i) (hH : HRel m I O w ρ H) (hx : RelV m I w ρ p x) (hy : RelV m I w ρ q y) (h : evE (.stc i.size (.c p) (.c q)) [] H = some (v, H')) :
  v = .tup [] ∧ ∃ w' O' ρ', (Instr.storeAt t x y).run P w = .ok () w' ∧ HRel m I O' w' ρ' H' ∧ EG H.length I O w ρ O' w' ρ' := by
 simp only [evE, R.ev] at h
 cases hx <;> simp only [] at h <;> try (cases h; done)
 rename_i b o r hr
 split at h <;> try (cases h; done)
 rename_i c hb
 simp only [Option.bind_eq_some_iff] at h
 obtain ⟨d, hd, h⟩ := h
 split at h <;> try (cases h; done)
 rename_i hdn
 simp only [Option.map_eq_some_iff, Prod.mk.injEq] at h
 obtain ⟨c', hc', rfl, rfl⟩ := h
 have hdr := cellsC_rel hd hy
 obtain ⟨d', hp, hdr', hdl⟩ : ∃ d', c.put o d' = some c' ∧ CRel m I w ρ d' y.cells.toList ∧ d'.len = i.size := by
  change (if i.size = 1 ∧ q.isCell = true then c.set o q else c.put o d) = some c' at hc'
  by_cases h1 : i.size = 1 ∧ q.isCell = true
  ·rw [if_pos h1] at hc'
   have hone : d = C.one q := by
    have := h1.2
    cases q <;> simp [V.isCell] at this <;> simp [V.cellsC] at hd <;> exact hd.symm
   rcases C.set_put hc' h1.2 with hp | ⟨l, rfl, hidf, hlt, rfl⟩
   ·exact ⟨d, by rw [hone]; exact hp, hdr, hdn⟩
   ·refine ⟨.imm [q], ?_, ?_, by rw [h1.1]; rfl⟩
    ·simp only [C.put, List.length_singleton]
     rw [if_pos (by omega), List.set_eq_take_append_cons_drop, if_pos hlt]
     simp
    ·have hv : CRel m I w ρ (.vals [q]) y.cells.toList := by
      refine ⟨by rw [hdr.1, hdn, h1.1]; rfl, fun j v hv => ?_, fun j v x hv hx => ?_⟩
      ·cases j with
       | zero => simp [C.get] at hv; subst hv; exact h1.2
       | succ j => simp [C.get] at hv
      ·cases j with
       | zero =>
        simp [C.get] at hv; subst hv
        have : y.cells = #[y] := by
         have h2 := h1.2
         cases hy <;> first | rfl | (obtain ⟨A, rc, f, rfl, _⟩ := RelV.tbRs_inv (by assumption); rfl) | simp [V.isCell] at h2
        rw [this] at hx; simp at hx; subst hx; exact hy
       | succ j => simp [C.get] at hv
     exact hv.of_vals (by simp [hidf])
  ·rw [if_neg h1] at hc'
   exact ⟨d, hc', hdr, hdn⟩
 obtain ⟨q1, q2, q3, q4⟩ := write_cells hH hb hr hp hdr'
 refine ⟨rfl, _, O, ρ, ?_, q1, q2⟩
 have hsz : y.cells.size = i.size := by rw [← hdl, ← hdr'.1]; simp
 have := run_storeCells_cells (P := P) r o y.cells.toList 0 w (by simpa using q3) (fun j hj => q4 j hj) hdr'.oneCell
 simp only [Nat.add_zero] at this
 simp [Instr.storeAt, Instr.sureAddr, storeVar, run_sz hi, hsz, this]

theorem sound_cpy {t u ty el : TypeId} {i : TypeInfo} (hd : P.underlying t = some (.slice el)) (hi : P.info? el = some i) (hH : HRel m I O w ρ H) (hx : RelV m I w ρ p x) (hy : RelV m I w ρ q y) (h : evE (.cpy i.size (.c p) (.c q)) [] H = some (v, H')) :
  EPost m P (Builtin.copy_ #[t, u] ty #[x, y]) H.length H' I O w ρ v := by
 simp only [evE, R.ev, Option.bind_eq_some_iff] at h
 obtain ⟨⟨n, d⟩, hs, h⟩ := h
 simp only [] at h
 obtain ⟨hlen, ys, hys, hl, _, _, hf⟩ := src_any prefix_refl hH hs hy
 cases hx <;> simp only [] at h <;> try (cases h; done)
 ·rename_i b off sz cap A hc
  split at h <;> try (cases h; done)
  rename_i c hb
  split at h <;> try (cases h; done)
  rename_i hsz
  simp only [Option.map_eq_some_iff, Prod.mk.injEq] at h
  obtain ⟨c', hp, hv, hH'⟩ := h
  have hm0 : (if n ≤ 0 then n else 0) = 0 := by split <;> omega
  rw [hm0] at hp hv
  have hdz : (C.sub 0 (0 * i.size) d).len = 0 := by rw [C.len_sub (by omega)]; simp
  have hp : c.put off (d.sub 0 (0 * i.size)) = some c' := by
   rcases C.puta_inv hp with hp | ⟨hno, k, l, m0, rfl, e2, ho, rfl⟩
   ·exact hp
   ·rw [e2] at hdz hno
    have : m0 = [] := List.eq_nil_of_length_eq_zero hdz
    subst this
    exact absurd hno (by simp [C.put, ho])
  obtain ⟨g1, g2, g3, g4⟩ := C.get_put hp
  have hd0 : (C.sub 0 (0 * i.size) d).len = 0 := by rw [C.len_sub (by omega)]; simp
  have hsame : ∀ j, c'.get j = c.get j := fun j => by
   rw [g4, hd0]
   split
   ·rfl
   ·rw [if_neg (by omega)]
  subst hv; subst hH'
  refine ⟨.int .i64 0, w, O, ρ, ?_, .int _ _ _, ?_, ⟨Mono.refl _ _ _, Ext.refl _ _, fun _ h => h, fun _ h => .inl h, fun _ _ h => .inl h⟩⟩
  ·have hff := hf P 0 (Nat.zero_le _)
   simp only [Nat.zero_mul, List.take_zero] at hff
   have hm : Nat.min n 0 = 0 := Nat.min_zero n
   simp only [Builtin.copy_, List.getElem?_toArray, List.getElem?_cons_zero, List.getElem?_cons_succ, Sem.run_bind, run_und hd, Result.andThen_ok, hl, run_sz hi, hm, hff]
   cases A <;> rfl
  ·refine ⟨fun i j r hi hj li lj => hH.inj i j r hi hj (live_set li ⟨_, hb, by simp⟩) (live_set lj ⟨_, hb, by simp⟩), fun i r hi => ?_, hH.lt, hH.own, hH.imm, hH.dis, hH.tab⟩
   obtain ⟨b', k1, k2⟩ := hH.blk i r hi
   by_cases e : i = b
   ·subst e
    rw [hb] at k1; injection k1 with k1; subst k1
    refine ⟨_, List.getElem?_set_self (List.getElem?_eq_some_iff.1 hb).1, ?_⟩
    obtain ⟨cs, e, fr, q1, q2, q3, q4, q5, q6, q7⟩ := k2
    refine ⟨cs, e, fr, q1, q2, by rw [g2]; exact q3, fun j v hv => q4 j v (by rw [← hsame]; exact hv), fun j v x hv hx => ?_, q6, q7⟩
    exact plC_imp (fun e => (g3 e).1) (q5 j v x (by rw [← hsame]; exact hv) hx)
   ·exact ⟨b', by rw [List.getElem?_set_ne (Ne.symm e)]; exact k1, k2⟩
 ·rename_i b off len sz cap r rc n' hh2 hh3 hh4 hh5 hh1
  split at h <;> try (cases h; done)
  rename_i c hb
  split at h <;> try (cases h; done)
  rename_i hsz
  simp only [Option.map_eq_some_iff, Prod.mk.injEq] at h
  obtain ⟨c', hp, hv, hH'⟩ := h
  subst hv; subst hH'
  generalize hm : (if n ≤ len then n else len) = k at hp
  have hk : k ≤ n := by rw [← hm]; split <;> omega
  have hmin : Nat.min n len = k := by rw [← hm]; rfl
  have hkl : k * i.size ≤ d.len := by rw [hlen]; exact Nat.mul_le_mul_right _ hk
  have hd : CRel m I w ρ (d.sub 0 (k * i.size)) (ys.take (k * i.size)) := by
   refine ⟨by rw [C.len_sub (by omega), List.length_take, hys.1]; omega, fun j v hv => hys.2.1 _ _ (C.get_sub hv).2, fun j v x hv hx => ?_⟩
   obtain ⟨hj, hg⟩ := C.get_sub hv
   rw [plC_sub]
   rw [List.getElem?_take, if_pos hj] at hx
   exact hys.2.2 _ _ _ (by rw [Nat.zero_add] at hg; exact hg) hx
  obtain ⟨q1, q2, q3, q4⟩ : HRel m I O (w.setCells r off (ys.take (k * i.size))) ρ (H.set b (.cells false c')) ∧ EG H.length I O w ρ O (w.setCells r off (ys.take (k * i.size))) ρ ∧ (∀ j, j < (ys.take (k * i.size)).length → (w.cell? ⟨r, off + j, none⟩).isSome = true) ∧ (∀ j, j < (ys.take (k * i.size)).length → w.frozen? ⟨r, off + j, none⟩ = false) := by
   rcases C.puta_inv hp with hp | ⟨_, kk, l, m0, rfl, e2, ho, rfl⟩
   ·exact write_cells hH hb hh1 hp hd
   ·rw [e2] at hd
    refine write_more hH hb hh1 ho hd hh4 ?_
    have h1 : (ys.take (k * i.size)).length ≤ k * i.size := by rw [List.length_take]; omega
    have hkn : k ≤ len := by rw [← hm]; split <;> omega
    have h2 : k * i.size ≤ rc * i.size := Nat.mul_le_mul_right _ (Nat.le_trans hkn hh2)
    have h3 : sz = i.size := hsz.symm
    rw [h3] at hh5
    omega
  refine ⟨.int .i64 k, _, O, ρ, ?_, .int _ _ _, q1, q2⟩
  have := run_storeCells_cells (P := P) r off (ys.take (k * i.size)) 0 w (by simpa using q3) (fun j hj => q4 j hj) hd.oneCell
  simp only [Nat.add_zero] at this
  simp only [Builtin.copy_, List.getElem?_toArray, List.getElem?_cons_zero, List.getElem?_cons_succ, Sem.run_bind, run_und ‹P.underlying t = _›, Result.andThen_ok, hl, run_sz hi, hmin, hf P k hk, this]
  rfl

theorem sound_nxt {ty : TypeId} (hH : HRel m I O w ρ H) (hx : RelV m I w ρ p x) (h : evE (.nxt (.c p)) [] H = some (v, H')) : EPost m P (Instr.next x true ty) H.length H' I O w ρ v := by
 simp only [evE, R.ev] at h
 cases hx <;> simp only [] at h <;> try (cases h; done)
 rename_i b o r hr
 split at h <;> try (cases h; done)
 rename_i s pos hb
 split at h <;> try (cases h; done)
 rename_i ho0
 obtain rfl : o = 0 := by omega
 have hB := hH.at hb hr
 obtain ⟨hB1, hO⟩ := hB
 have hget : (getObj r).run P w = .ok (.stringIter ⟨s.toArray⟩ pos) w := by simp [getObj, Sem.run, hB1]
 split at h
 ·rename_i hlt
  simp only [Option.some.injEq, Prod.mk.injEq] at h
  obtain ⟨rfl, rfl⟩ := h
  have hrlt := hH.lt b r hr
  let w' : World := { w with heap := w.heap.setIfInBounds r (.stringIter ⟨s.toArray⟩ (pos + (Utf8.decode ⟨s.toArray⟩ pos).2)) }
  have hset : ∀ o, (setObj r o).run P w = .ok () { w with heap := w.heap.setIfInBounds r o } := fun o => by simp [setObj, Sem.run, hB1]
  obtain ⟨q1, q2⟩ := write_block (w' := w') (bl' := .iter s (pos + (Utf8.decode ⟨s.toArray⟩ pos).2)) hH hb (by simp) hr hO (fun k hk => by show (w.heap.setIfInBounds r _)[k]? = _; rw [Array.getElem?_setIfInBounds_ne (Ne.symm hk)]) (by show (w.heap.setIfInBounds r _).size = _; simp) rfl rfl rfl
   (fun n hn => by simp [sizeOf?, hB1] at hn) (fun hm => ⟨by show (w.heap.setIfInBounds r _)[r]? = _; rw [Array.getElem?_setIfInBounds_self_of_lt hrlt], hO⟩)
  refine ⟨.tuple #[.bool true, .int .i64 pos, .int .i32 (Utf8.decode ⟨s.toArray⟩ pos).1], w', O, ρ, ?_, ?_, q1, q2⟩
  ·have hlt' : pos < (⟨s.toArray⟩ : ByteArray).size := by rw [size_mk]; exact hlt
   simp only [Instr.next, Sem.run_bind, hget, Result.andThen_ok, hlt', if_true, hset]
   rfl
  ·refine .tup _ _ _ rfl (fun j v x hv hx => ?_)
   match j, hv, hx with
   | 0, hv, hx => simp at hv hx; subst hv; subst hx; exact .bool _ _
   | 1, hv, hx => simp at hv hx; subst hv; subst hx; exact .int _ _ _
   | 2, hv, hx => simp at hv hx; subst hv; subst hx; exact .int _ _ _
   | k + 3, hv, hx => simp at hv
 ·rename_i hlt
  simp only [Option.some.injEq, Prod.mk.injEq] at h
  obtain ⟨rfl, rfl⟩ := h
  refine ⟨.tuple #[.bool false], w, O, ρ, ?_, ?_, hH, ⟨Mono.refl _ _ _, Ext.refl _ _, fun _ h => h, fun _ h => .inl h, fun _ _ h => .inl h⟩⟩
  ·have hlt' : ¬ pos < (⟨s.toArray⟩ : ByteArray).size := by rw [size_mk]; exact hlt
   simp only [Instr.next, Sem.run_bind, hget, Result.andThen_ok, hlt', if_false]
   rfl
  ·refine .tup _ _ _ rfl (fun j v x hv hx => ?_)
   match j, hv, hx with
   | 0, hv, hx => simp at hv hx; subst hv; subst hx; exact .bool _ _
   | k + 1, hv, hx => simp at hv
end

section
open Go
set_option linter.unusedSimpArgs false
set_option linter.unusedVariables false
variable {P : Program} {w : World} {m : Nat → Option Nat} {I O : Nat → Prop} {ρ : Pl} {H Hb : List Blk} {p q v : V} {x y : Value} {H' : List Blk}

theorem HRel.dom (hH : HRel m I O w ρ H) {i r : Nat} (h : ρ i = some r) : i < H.length := by
 obtain ⟨b, h1, _⟩ := hH.blk i r h
 exact (List.getElem?_eq_some_iff.1 h1).1
theorem HRel.none (hH : HRel m I O w ρ H) {i : Nat} (h : H.length ≤ i) : ρ i = none := by
 cases hr : ρ i with
 | none => rfl
 | some r => have := hH.dom hr; omega

/-- a block is given up, and others stand behind -/
theorem kill (hH : HRel m I O w ρ H) (b : Nat) (more : List Blk) : HRel m I O w ρ (H.set b .dead ++ more) := by
 have hl : ∀ i r, ρ i = some r → live (H.set b .dead ++ more) i → live H i ∧ i ≠ b := by
  intro i r hr ⟨c, h1, h2⟩
  have hi := hH.dom hr
  rw [List.getElem?_append_left (by simpa using hi)] at h1
  by_cases e : b = i
  ·subst e; rw [List.getElem?_set_self hi] at h1; injection h1 with h1; exact absurd h1.symm h2
  ·rw [List.getElem?_set_ne e] at h1; exact ⟨⟨c, h1, h2⟩, Ne.symm e⟩
 refine ⟨fun i j r hi hj li lj => hH.inj i j r hi hj (hl i r hi li).1 (hl j r hj lj).1, fun i r hi => ?_, hH.lt, hH.own, hH.imm, hH.dis, hH.tab⟩
 obtain ⟨c, h1, h2⟩ := hH.blk i r hi
 have hlt := hH.dom hi
 by_cases e : b = i
 ·subst e
  exact ⟨.dead, by rw [List.getElem?_append_left (by simpa using hlt), List.getElem?_set_self hlt], trivial⟩
 ·exact ⟨c, by rw [List.getElem?_append_left (by simpa using hlt), List.getElem?_set_ne e]; exact h1, h2⟩

theorem sound_appEG {t u ty el : TypeId} {i : TypeInfo} {zv : Value} {k : Nat} {d' : C} {ys : List Value} (hA : AppOf P t u ty el i zv w y k ys) (hzs : zv.cells.size = i.size)
  (hH : HRel m I O w ρ H) (hx : RelV m I w ρ p x) (hs : src H i.size q = some (k, d')) (hlen : d'.len = k * i.size) (hys : CRel m I w ρ d' ys) (h : evE (.app i.size i.bytes (.c p) (.c q)) [] H = some (v, H')) :
  EPost m P (Builtin.append_ #[t, u] ty #[x, y]) H.length H' I O w ρ v := by
 simp only [evE, R.ev, hs, Option.bind_some] at h
 -- a new block, whatever stood in b
 have fresh : ∀ (A : Option Addr) (n rc : Nat) (xs : List Value) (c c' : C) (b : Nat), x = .slice A n rc → CRel m I w ρ c xs → c.len = n * i.size → (∀ w2 : World, w2.heap = w.heap → (Builtin.firstCells i.size n (.slice A n rc)).run P w2 = .ok xs.toArray w2) →
   rc < n + k → (n + k) * i.bytes ≤ 2 ^ 40 → n + k ≤ 2 ^ 40 → c.app d' = some c' → v = .sl H.length 0 (n + k) none i.size → H' = H.set b .dead ++ [.cells false c'] →
   EPost m P (Builtin.append_ #[t, u] ty #[x, y]) H.length H' I O w ρ v := by
  intro A n rc xs c c' b hxA hxs hcl hf0 hroom hb1 hb2 hca hv hH'
  subst hxA; subst hv; subst hH'
  obtain ⟨nc, cs, w', g1, g2, g3, g4, g5, g6, g7, g8⟩ := hA.new A n rc xs hf0 hroom hb1 hb2
  have hK := kill hH b [.cells false c']
  obtain ⟨q1, q2⟩ := grow_new (i := H.length) (b := .cells false c') g4 g5 g6 g7 hK (hH.none (Nat.le_refl _)) (by rw [List.getElem?_append_right (by simp)]; simp) (fun O' ρ' ho hz' hm => new_cells g4 hz' hm (C.app_rel hca hxs hys) g3)
  refine ⟨_, w', _, _, g8, ?_, q1, ⟨q2.mono hH.imm, q2.ext, q2.own, q2.own', fun i r hr => (q2.pl' i r hr).imp id (fun h => ⟨h.1, .inr h.2.2⟩)⟩⟩
  refine .sl1 _ _ _ _ _ _ w.heap.size nc cs.size (by simp [plus]) (by omega) (fun c e => by cases e) (by simp [sizeOf?, g4]) ?_
  rw [g2, hzs, hys.1, hlen, hxs.1, hcl]
  have : n * i.size + k * i.size + (nc - (n + k)) * i.size = nc * i.size := by rw [← Nat.add_mul, ← Nat.add_mul]; congr 1; omega
  omega
 have hyk : k = 0 → ys = [] := fun e => List.length_eq_zero_iff.1 (by rw [hys.1, hlen, e]; simp)
 cases hx <;> (try simp only [] at h) <;> try (cases h; done)
 ·-- no capacity at all
  rename_i b off sz cap A hc
  cases cap with
  | none =>
   simp only [] at h
   split at h <;> try (cases h; done)
   rename_i c hb
   split at h <;> try (cases h; done)
   rename_i hbd
   obtain ⟨rfl, rfl, hbd2, hbd3, hbd4⟩ := hbd
   simp only [Option.map_eq_some_iff, Prod.mk.injEq] at h
   obtain ⟨c', hca, hv, hH'⟩ := h
   have hc0 : CRel m I w ρ c [] := ⟨by rw [hbd2]; simp, fun j v hv => (by have := C.get_lt hv; rw [hbd2] at this; simp at this), fun j v x hv => (by have := C.get_lt hv; rw [hbd2] at this; simp at this)⟩
   by_cases hk : k = 0
   ·subst hk
    subst hv; subst hH'
    refine ⟨.slice A 0 0, w, O, ρ, ?_, .sl0 _ _ _ _ _ _ (fun c e => by cases e), kill hH b _, ⟨Mono.refl _ _ _, Ext.refl _ _, fun _ h => h, fun _ h => .inl h, fun _ _ h => .inl h⟩⟩
    exact hA.inn _ _ _ _ (Nat.le_refl _) (fun r o _ => by rw [hyk rfl]; rfl) (.inr (.inr ⟨hyk rfl, rfl⟩))
   ·exact fresh A 0 0 [] c c' b rfl hc0 hbd2 (fun w2 h2 => run_firstCells (w := w2) (by simp) (.inl rfl)) (by omega) hbd3 hbd4 hca hv.symm hH'.symm
  | some cap =>
   have hcap := hc cap rfl
   subst hcap
   simp only [] at h
   split at h <;> try (cases h; done)
   rename_i c hb
   split at h <;> try (cases h; done)
   rename_i hbd
   obtain ⟨rfl, hbd2⟩ := hbd
   simp only [Option.map_eq_some_iff, Prod.mk.injEq] at h
   obtain ⟨c', hp, hv, hH'⟩ := h
   have hk : k = 0 := by omega
   subst hk; subst hv; subst hH'
   obtain ⟨g1, g2, g3, g4⟩ := C.get_put hp
   have hd0 : d'.len = 0 := by rw [hlen]; simp
   have hsame : ∀ j, c'.get j = c.get j := fun j => by
    rw [g4, hd0]
    split
    ·rfl
    ·rw [if_neg (by omega)]
   refine ⟨.slice A 0 0, w, O, ρ, ?_, .sl0 _ _ _ _ _ _ (fun c e => by injection e with e; exact e.symm), ?_, ⟨Mono.refl _ _ _, Ext.refl _ _, fun _ h => h, fun _ h => .inl h, fun _ _ h => .inl h⟩⟩
   ·exact hA.inn _ _ _ _ (Nat.le_refl _) (fun r o _ => by rw [hyk rfl]; rfl) (.inr (.inr ⟨hyk rfl, rfl⟩))
   ·refine ⟨fun i j r hi hj li lj => hH.inj i j r hi hj (live_set li ⟨_, hb, by simp⟩) (live_set lj ⟨_, hb, by simp⟩), fun i r hi => ?_, hH.lt, hH.own, hH.imm, hH.dis, hH.tab⟩
    obtain ⟨b', k1, k2⟩ := hH.blk i r hi
    by_cases e : i = b
    ·subst e
     rw [hb] at k1; injection k1 with k1; subst k1
     refine ⟨_, List.getElem?_set_self (List.getElem?_eq_some_iff.1 hb).1, ?_⟩
     obtain ⟨cs, e, fr, q1, q2, q3, q4, q5, q6, q7⟩ := k2
     refine ⟨cs, e, fr, q1, q2, by rw [g2]; exact q3, fun j v hv => q4 j v (by rw [← hsame]; exact hv), fun j v x hv hx => ?_, q6, q7⟩
     exact plC_imp (fun e => (g3 e).1) (q5 j v x (by rw [← hsame]; exact hv) hx)
    ·exact ⟨b', by rw [List.getElem?_set_ne (Ne.symm e)]; exact k1, k2⟩
 ·rename_i b off len sz cap r rc n hh2 hh3 hh4 hh5 hh1
  cases cap with
  | none =>
   simp only [] at h
   split at h <;> try (cases h; done)
   rename_i c hb
   split at h <;> try (cases h; done)
   rename_i hbd
   obtain ⟨rfl, rfl, hbd2, hbd3, hbd4⟩ := hbd
   simp only [Option.map_eq_some_iff, Prod.mk.injEq] at h
   obtain ⟨c', hca, hv, hH'⟩ := h
   have hB := hH.at hb hh1
   obtain ⟨cs, e, fr, g1, g2, g3, g4⟩ := hB.crel
   have hO : O r := by
    obtain ⟨_, _, _, _, _, _, _, _, h, _⟩ := hB
    exact h rfl
   have hns : cs.size = n := by simpa [sizeOf?, g1] using hh4
   have hcell : ∀ (j : Nat) (z : Value), (cs.toList.take c.len)[j]? = some z → w.cell? ⟨r, 0 + j, none⟩ = some z := fun j z hj => by
    rw [Nat.zero_add, cell?_of g1]
    rw [List.getElem?_take] at hj
    split at hj
    ·simpa using hj
    ·cases hj
   by_cases hroom : len + k ≤ rc
   ·subst hv; subst hH'
    have hw := setCells_other r ys (len * i.size) w
    obtain ⟨s1, s2, s3, s4, s5⟩ := hw
    obtain ⟨cs', k1, k2, k3⟩ := setCells_same r ys (len * i.size) w cs e fr g1
    have hysl : ys.length = k * i.size := by rw [hys.1, hlen]
    have hfits : len * i.size + ys.length ≤ cs.size := by
     have h1 : (len + k) * i.size ≤ rc * i.size := Nat.mul_le_mul_right _ hroom
     rw [Nat.add_mul] at h1
     omega
    have hst : (storeCells ⟨r, 0 + len * i.size, none⟩ ys).run P w = .ok () (w.setCells r (len * i.size) ys) := by
     have := run_storeCells_cells (P := P) r (len * i.size) ys 0 w (fun j hj => by rw [Nat.add_zero, cell?_of g1, Array.getElem?_eq_getElem (by omega)]; rfl) (fun j hj => by rw [Nat.add_zero]; exact fr_free g1 g2 _ (by omega)) hys.oneCell
     simpa using this
    have hsz : ∀ k' n', sizeOf? w k' = some n' → sizeOf? (w.setCells r (len * i.size) ys) k' = some n' := fun k' n' hn' => by
     by_cases e : k' = r
     ·subst e
      simp only [sizeOf?, g1, Option.some.injEq] at hn'
      simp only [sizeOf?, k1, k2, hn']
     ·unfold sizeOf? at *; rw [s1 k' e]; exact hn'
    have hI : ∀ k', I k' → k' ≠ r := fun k' hk e => hH.dis k' hk (e ▸ hO)
    have hnone := hH.none (Nat.le_refl H.length)
    have hm : Mono I w ρ I (w.setCells r (len * i.size) ys) (plus ρ H.length r) := ⟨fun _ h => h, fun i r' hi => by
     unfold plus; split
     ·rename_i e; subst e; rw [hnone] at hi; cases hi
     ·exact hi, fun k' hk => s1 k' (hI k' hk), hsz⟩
    have hK := kill hH b [Blk.cells false c']
    have hblt : b < H.length := hH.dom hh1
    have hlive : ∀ i, i < H.length → live (H.set b .dead ++ [Blk.cells false c']) i → live H i ∧ i ≠ b := fun i hi ⟨c0, h1, h2⟩ => by
     rw [List.getElem?_append_left (by simpa using hi)] at h1
     by_cases e : b = i
     ·subst e; rw [List.getElem?_set_self hi] at h1; injection h1 with h1; exact absurd h1.symm h2
     ·rw [List.getElem?_set_ne e] at h1; exact ⟨⟨c0, h1, h2⟩, Ne.symm e⟩
    refine ⟨.slice (some ⟨r, 0, none⟩) (len + k) rc, _, O, plus ρ H.length r, ?_, ?_, ⟨fun i j s hi hj li lj => ?_, fun i s hi => ?_, fun i s hi => ?_, fun k' hk' => ?_, fun k' hk' => ?_, hH.dis, hH.tab.step hm.imm hm.block⟩, ⟨hm, ⟨s3, s4, s5, by rw [s2]; exact Nat.le_refl _, fun k' _ hk' => s1 k' (fun e => hk' (e ▸ hO)), hsz⟩, fun _ h => h, fun _ h => .inl h, fun i s hi => ?_⟩⟩
    ·exact hA.inn _ _ _ _ hroom (fun r' o' e => by
      simp only [Option.some.injEq, Addr.mk.injEq, and_true] at e
      obtain ⟨rfl, rfl⟩ := e
      exact hst) (.inr (.inl ⟨_, _, rfl⟩))
    ·exact .sl1 _ _ _ _ _ _ r rc n (by simp [plus]) hroom (fun c e => by cases e) (hsz _ _ hh4) hh5
    ·unfold plus at hi hj
     split at hi <;> split at hj
     ·omega
     ·rename_i e1 e2
      injection hi with hi; subst hi
      have hjl := hH.dom hj
      obtain ⟨l1, l2⟩ := hlive j hjl lj
      exact absurd (hH.inj j b r hj hh1 l1 ⟨_, hb, by simp⟩) l2
     ·rename_i e1 e2
      injection hj with hj; subst hj
      have hil := hH.dom hi
      obtain ⟨l1, l2⟩ := hlive i hil li
      exact absurd (hH.inj i b r hi hh1 l1 ⟨_, hb, by simp⟩) l2
     ·exact hK.inj i j s hi hj li lj
    ·unfold plus at hi
     split at hi
     ·rename_i e; subst e
      injection hi with hi; subst hi
      refine ⟨.cells false c', by rw [List.getElem?_append_right (by simp)]; simp, ?_⟩
      have hca' := C.app_rel hca g4 hys
      have hxl : (cs.toList.take c.len).length = len * i.size := by rw [g4.1, hbd2]
      refine ⟨cs', e, fr, k1, by rw [k2]; exact g2, ?_, hca'.2.1, fun j v x hv hx => ?_, fun _ => hO, fun e => by cases e⟩
      ·rw [k2, ← hca'.1, List.length_append, hxl]; exact hfits
      ·refine hm.relC (hca'.2.2 j v x hv ?_)
       have hj : j < len * i.size + ys.length := by have := C.get_lt hv; rw [← hca'.1, List.length_append, hxl] at this; exact this
       rw [k3] at hx
       by_cases h1 : j < len * i.size
       ·rw [if_pos h1] at hx
        rw [List.getElem?_append_left (by omega), List.getElem?_take, if_pos (by omega)]
        simpa using hx
       ·rw [if_neg h1, if_pos hj, if_pos (by omega)] at hx
        rw [List.getElem?_append_right (by omega), hxl]; exact hx
     ·obtain ⟨b', h1, h2⟩ := hK.blk i s hi
      refine ⟨b', h1, ?_⟩
      by_cases hdd : b' = .dead
      ·subst hdd; exact trivial
      ·refine h2.mono hm (fun _ h => h) (s1 s (fun es => ?_))
       subst es
       have hil := hH.dom hi
       obtain ⟨l1, l2⟩ := hlive i hil ⟨b', h1, hdd⟩
       exact l2 (hH.inj i b s hi hh1 l1 ⟨_, hb, by simp⟩)
    ·rw [s2]
     unfold plus at hi
     split at hi
     ·injection hi with hi; subst hi; exact hH.own _ hO
     ·exact hH.lt i s hi
    ·rw [s2]; exact hH.own k' hk'
    ·rw [s2]; exact hH.imm k' hk'
    ·unfold plus at hi
     split at hi
     ·rename_i e; injection hi with hi; subst hi; exact .inr ⟨by omega, .inl hO⟩
     ·exact .inl hi
   ·exact fresh (some ⟨r, 0, none⟩) len rc _ c c' b rfl g4 hbd2 (fun w2 h2 => run_firstCells (w := w2) (by rw [g4.1, hbd2]) (.inr ⟨r, 0, rfl, fun j z hj => by
     have := hcell j z hj
     unfold World.cell? at this ⊢; rw [h2]; exact this⟩)) (by omega) hbd3 hbd4 hca hv.symm hH'.symm
  | some cap =>
   have hcap := hh3 cap rfl
   subst hcap
   simp only [] at h
   split at h <;> try (cases h; done)
   rename_i c hb
   split at h <;> try (cases h; done)
   rename_i hbd
   obtain ⟨rfl, hbd2⟩ := hbd
   simp only [Option.map_eq_some_iff, Prod.mk.injEq] at h
   obtain ⟨c', hp, hv, hH'⟩ := h
   subst hv; subst hH'
   obtain ⟨q1, q2, q3, q4⟩ := write_cells hH hb hh1 hp hys
   refine ⟨.slice (some ⟨r, off, none⟩) (len + k) cap, _, O, ρ, ?_, ?_, q1, q2⟩
   ·refine hA.inn _ _ _ _ hbd2 (fun r' o' e => ?_) (.inr (.inl ⟨_, _, rfl⟩))
    simp only [Option.some.injEq, Addr.mk.injEq, and_true] at e
    obtain ⟨rfl, rfl⟩ := e
    have := run_storeCells_cells (P := P) r (off + len * i.size) ys 0 w (by simpa using q3) (fun j hj => q4 j hj) hys.oneCell
    simpa using this
   ·exact .sl1 _ _ _ _ _ _ r cap n hh1 hbd2 (fun c e => by injection e with e; exact e.symm) (q2.mono.cells _ _ hh4) hh5
theorem sound_appE {t u ty el : TypeId} {d : TypeDesc} {i : TypeInfo} {zv : Value} (hd : P.underlying t = some (.slice el)) (hu : P.underlying u = some d) (hi' : isIntD d = false) (hi : P.info? el = some i) (hz : i.zero = some zv) (hzs : zv.cells.size = i.size)
  (hH : HRel m I O w ρ H) (hx : RelV m I w ρ p x) (hy : RelV m I w ρ q y) (h : evE (.app i.size i.bytes (.c p) (.c q)) [] H = some (v, H')) :
  EPost m P (Builtin.append_ #[t, u] ty #[x, y]) H.length H' I O w ρ v := by
 have h' := h
 simp only [evE, R.ev, Option.bind_eq_some_iff] at h'
 obtain ⟨⟨k, d'⟩, hs, _⟩ := h'
 obtain ⟨hlen, ys, hys, hl, hf, _, _⟩ := src_any prefix_refl hH hs hy
 exact sound_appEG (appOf_src hd hu hi' hi hz hl hf) hzs hH hx hs hlen hys h
end
end Go.Proofs.YtchoafdpckknmaaDoorE
