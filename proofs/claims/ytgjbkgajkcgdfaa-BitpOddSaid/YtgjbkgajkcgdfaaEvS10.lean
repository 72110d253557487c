/- Slices that are made; append. -/
import Derived.Test.YtgjbkgajkcgdfaaEvS9
import Derived.Lib.ConvBytes
namespace Go.Proofs.YtgjbkgajkcgdfaaE
open Go
set_option linter.unusedSimpArgs false
set_option linter.unusedVariables false
variable {P : Program} {w : World} {m : Nat → Option Nat} {I O : Nat → Prop} {ρ : Pl} {H Hb : List Blk} {p q v : V} {x y : Value} {news : List Blk}

theorem C.rep_rel {c d : C} {n : Nat} {xs : List Value} (h : C.rep n c = some d) (hc : CRel m I w ρ c xs) : CRel m I w ρ d (List.replicate n xs).flatten := by
  have flat : ∀ (l : List V), CRel m I w ρ (.vals l) xs → CRel m I w ρ (.vals (List.replicate n l).flatten) (List.replicate n xs).flatten := by
    intro l hl
    clear h
    induction n with
    | zero => exact ⟨rfl, fun j v h => by simp [C.get] at h, fun j v x h => by simp [C.get] at h⟩
    | succ n ih =>
      refine ⟨by simp [C.len, List.length_flatten, hl.1], fun j v hv => ?_, fun j v x hv hx => ?_⟩
      · simp only [C.get, List.replicate_succ, List.flatten_cons] at hv
        by_cases hj : j < l.length
        · rw [List.getElem?_append_left hj] at hv; exact hl.2.1 _ _ hv
        · rw [List.getElem?_append_right (by omega)] at hv
          exact ih.2.1 (j - l.length) v hv
      · simp only [C.get, List.replicate_succ, List.flatten_cons] at hv hx
        have hlen : xs.length = l.length := hl.1
        by_cases hj : j < l.length
        · rw [List.getElem?_append_left hj] at hv
          rw [List.getElem?_append_left (by omega)] at hx
          exact hl.2.2 _ _ _ hv hx
        · rw [List.getElem?_append_right (by omega)] at hv
          rw [List.getElem?_append_right (by omega), hlen] at hx
          exact ih.2.2 _ _ _ hv hx
  have asInts : ∀ (k : IntKind) (l : List Int), CRel m I w ρ (.ints k l) xs → xs = l.map (Value.int k) := by
    intro k l hl
    apply List.ext_getElem?
    intro j
    have hlen : xs.length = l.length := hl.1
    by_cases hj : j < l.length
    · have hj' : j < xs.length := by omega
      have := hl.2.2 j (.int k l[j]) xs[j] (by simp [C.get, hj]) (List.getElem?_eq_getElem hj')
      rw [List.getElem?_eq_getElem hj', List.getElem?_map, List.getElem?_eq_getElem hj]
      generalize xs[j] = z at this
      cases this; rfl
    · rw [List.getElem?_eq_none (by omega), List.getElem?_eq_none (by simpa using hj)]
  cases c with
  | imm l => simp [C.rep] at h
  | vals l =>
    simp only [C.rep, Option.some.injEq] at h
    subst h
    exact flat l hc
  | ints k l =>
    have hx := asInts k l hc
    have key : (List.replicate n xs).flatten = ((List.replicate n l).flatten).map (Value.int k) := by
      rw [hx, List.map_flatten, List.map_replicate]
    have : d = .ints k (List.replicate n l).flatten := by
      unfold C.rep at h
      split at h
      · rename_i x' heq
        injection heq with h1 h2
        subst h1; subst h2
        injection h with h
        rw [← h]
        congr 1
        induction n with
        | zero => rfl
        | succ n ih => simp [List.replicate_succ]
      · rename_i _ heq
        injection heq with h1 h2
        subst h1; subst h2
        injection h with h; exact h.symm
      · rename_i heq; cases heq
      · cases h
    rw [this, key]
    exact ints_rel _

theorem run_range_zero {zv : Value} {c k : Nat} (hk : zv.cells.size = k) :
    ((Array.range (c * k)).map ((if c * k = 0 then (#[] : Array Value) else zv.cells)[· % (if c * k = 0 then (#[] : Array Value) else zv.cells).size]!)).toList = (List.replicate c zv.cells.toList).flatten := by
  by_cases h0 : c * k = 0
  · rw [if_pos h0]
    rcases Nat.mul_eq_zero.1 h0 with h | h
    · subst h; simp
    · have : zv.cells.toList = [] := by apply List.length_eq_zero_iff.1; rw [Array.length_toList, hk, h]
      rw [this]
      simp [h]
  · rw [if_neg h0]
    exact rep_get hk (Nat.pos_of_ne_zero (fun e => h0 (by rw [e]; simp)))

theorem sound_mks {t el : TypeId} {i : TypeInfo} {zv : Value} {z : C} (hd : P.underlying t = some (.slice el)) (hz : ZRel P el i zv z) (hs : zv.cells.size = i.size) (hx : RelV m I w ρ p x) (hy : RelV m I w ρ q y) (hH : HRel m I O w ρ Hb) {lo : Nat}
    (h : ∃ H : List Blk, H.length = lo ∧ evQ (.mks z i.size i.bytes (.c p) (.c q)) [] H = some (v, news)) (hb : ∀ j b, news[j]? = some b → Hb[lo + j]? = some b) (hn : ρ lo = none) :
    QPost m P (Instr.makeSlice t x y) lo news.length Hb I O w ρ v := by
  obtain ⟨H, hlo, h⟩ := h
  simp only [evQ, R.ev] at h
  cases hx <;> simp only [] at h <;> try (cases h; done)
  rename_i k l
  cases hy <;> simp only [] at h <;> try (cases h; done)
  rename_i k' c
  split at h <;> try (cases h; done)
  rename_i hc
  obtain ⟨h1, h2, h3, h4⟩ := hc
  simp only [Option.map_eq_some_iff, Prod.mk.injEq] at h
  obtain ⟨d, hd', hv, hn'⟩ := h
  subst hv; subst hn'
  have hrel := C.rep_rel (m := m) (I := I) (w := w) (ρ := ρ) hd' (contentOf_rel hz.2.2)
  have hw1 : IntKind.i64.wrap l = l := by simp [IntKind.wrap, IntKind.bits, IntKind.signed]; omega
  have hw2 : IntKind.i64.wrap c = c := by simp [IntKind.wrap, IntKind.bits, IntKind.signed]; omega
  have hlen := run_range_zero (zv := zv) (c := c.toNat) hs
  generalize hcs : (Array.range (c.toNat * i.size)).map ((if c.toNat * i.size = 0 then (#[] : Array Value) else zv.cells)[· % (if c.toNat * i.size = 0 then (#[] : Array Value) else zv.cells).size]!) = cs at hlen
  refine QPost.new (w' := w.alloc (.cells cs el)) (xs := (List.replicate c.toNat zv.cells.toList).flatten) (cs := cs) (e := el) (z := .slice (some ⟨w.heap.size, 0, none⟩) l.toNat c.toNat) hH rfl rfl rfl rfl (by simpa using hb 0 _ rfl) hn hrel (fun j x h => by rw [← hlen] at h; simpa using h) ?_ (fun ρ' h1 h2 => ?_)
  · have hb1 : ¬ (c < 0) := by omega
    have hb2 : ¬ ((i.bytes : Int) * c > 2 ^ 48) := by rw [Int.mul_comm]; omega
    have hb3 : ¬ (l < 0) := by omega
    have hb4 : ¬ (l > c) := by omega
    have hb5 : ¬ (c.toNat * i.bytes > roomBytes) := by
      have h7 : ((c.toNat * i.bytes : Nat) : Int) = c * i.bytes := by simp [Int.toNat_of_nonneg (show 0 ≤ c by omega)]
      have h8 : roomBytes = 2 ^ 47 := rfl
      rw [h8]; omega
    simp only [Instr.makeSlice, Sem.run_bind, run_und hd, Result.andThen_ok, asInt, run_asIntOf, Sem.run_pure, run_tinfo hz.1, hw1, hw2, hb1, hb2, hb3, hb4, decide_false, Bool.or_self, Bool.false_eq_true, if_false, askRoom, hb5, run_sz hz.1]
    by_cases h0 : c.toNat * i.size = 0
    · simp only [if_pos h0] at hcs ⊢
      simp only [Sem.run_bind, Sem.run_pure, Result.andThen_ok]
      rw [hcs]; rfl
    · simp only [if_neg h0] at hcs ⊢
      simp only [Sem.run_bind, run_zero hz.1 hz.2.1, Sem.run_pure, Result.andThen_ok]
      rw [hcs]; rfl
  · have hsz : cs.size = c.toNat * i.size := by
      rw [← hcs]; simp
    refine .sl1 _ _ _ _ _ _ w.heap.size c.toNat cs.size (by rw [hlo]; exact h1) (by omega) (fun c e => by injection e with e; exact e.symm) h2 (by rw [hsz]; omega)
end Go.Proofs.YtgjbkgajkcgdfaaE
