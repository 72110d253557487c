/- Stores, copies, appends in place, iterators. -/
import Derived.Test.YtgjbkgajkcgdfaaEvS13
namespace Go.Proofs.YtgjbkgajkcgdfaaE
open Go
set_option linter.unusedSimpArgs false
set_option linter.unusedVariables false
variable {P : Program} {w : World} {m : Nat → Option Nat} {I O : Nat → Prop} {ρ : Pl} {H Hb : List Blk} {p q v : V} {x y : Value} {H' : List Blk}

theorem prefix_refl : ∀ (i : Nat) (b : Blk), H[i]? = some b → H[i]? = some b := fun _ _ h => h

theorem sound_stc {t : TypeId} {i : TypeInfo} (hi : P.info? t = some i) (hH : HRel m I O w ρ H) (hx : RelV m I w ρ p x) (hy : RelV m I w ρ q y) (h : evE (.stc i.size (.c p) (.c q)) [] H = some (v, H')) :
    v = .tup [] ∧ ∃ w' O' ρ', (Instr.storeAt t x y).run P w = .ok () w' ∧ HRel m I O' w' ρ' H' ∧ EG H.length I O w ρ O' w' ρ' := by
  simp only [evE, R.ev] at h
  cases hx <;> simp only [] at h <;> try (cases h; done)
  rename_i b o r hr
  split at h <;> try (cases h; done)
  rename_i c hb
  simp only [Option.bind_eq_some_iff] at h
  obtain ⟨d, hd, h⟩ := h
  split at h <;> try (cases h; done)
  rename_i hdn
  simp only [Option.map_eq_some_iff, Prod.mk.injEq] at h
  obtain ⟨c', hc', rfl, rfl⟩ := h
  have hdr := cellsC_rel hd hy
  obtain ⟨d', hp, hdr', hdl⟩ : ∃ d', c.put o d' = some c' ∧ CRel m I w ρ d' y.cells.toList ∧ d'.len = i.size := by
    change (if i.size = 1 ∧ q.isCell = true then c.set o q else c.put o d) = some c' at hc'
    by_cases h1 : i.size = 1 ∧ q.isCell = true
    · rw [if_pos h1] at hc'
      have hone : d = C.one q := by
        have := h1.2
        cases q <;> simp [V.isCell] at this <;> simp [V.cellsC] at hd <;> exact hd.symm
      rcases C.set_put hc' h1.2 with hp | ⟨l, rfl, hidf, hlt, rfl⟩
      · exact ⟨d, by rw [hone]; exact hp, hdr, hdn⟩
      · refine ⟨.imm [q], ?_, ?_, by rw [h1.1]; rfl⟩
        · simp only [C.put, List.length_singleton]
          rw [if_pos (by omega), List.set_eq_take_append_cons_drop, if_pos hlt]
          simp
        · have hv : CRel m I w ρ (.vals [q]) y.cells.toList := by
            refine ⟨by rw [hdr.1, hdn, h1.1]; rfl, fun j v hv => ?_, fun j v x hv hx => ?_⟩
            · cases j with
              | zero => simp [C.get] at hv; subst hv; exact h1.2
              | succ j => simp [C.get] at hv
            · cases j with
              | zero =>
                simp [C.get] at hv; subst hv
                have : y.cells = #[y] := by
                  have h2 := h1.2
                  cases hy <;> first | rfl | simp [V.isCell] at h2
                rw [this] at hx; simp at hx; subst hx; exact hy
              | succ j => simp [C.get] at hv
          exact hv.of_vals (by simp [hidf])
    · rw [if_neg h1] at hc'
      exact ⟨d, hc', hdr, hdn⟩
  obtain ⟨q1, q2, q3, q4⟩ := write_cells hH hb hr hp hdr'
  refine ⟨rfl, _, O, ρ, ?_, q1, q2⟩
  have hsz : y.cells.size = i.size := by rw [← hdl, ← hdr'.1]; simp
  have := run_storeCells_cells (P := P) r o y.cells.toList 0 w (by simpa using q3) (fun j _ => q4 _) hdr'.oneCell
  simp only [Nat.add_zero] at this
  simp [Instr.storeAt, Instr.sureAddr, storeVar, run_sz hi, hsz, this]

theorem sound_cpy {t u ty el : TypeId} {i : TypeInfo} (hd : P.underlying t = some (.slice el)) (hi : P.info? el = some i) (hH : HRel m I O w ρ H) (hx : RelV m I w ρ p x) (hy : RelV m I w ρ q y) (h : evE (.cpy i.size (.c p) (.c q)) [] H = some (v, H')) :
    EPost m P (Builtin.copy_ #[t, u] ty #[x, y]) H.length H' I O w ρ v := by
  simp only [evE, R.ev, Option.bind_eq_some_iff] at h
  obtain ⟨⟨n, d⟩, hs, h⟩ := h
  simp only [] at h
  obtain ⟨hlen, ys, hys, hl, _, _, hf⟩ := src_any prefix_refl hH hs hy
  cases hx <;> simp only [] at h <;> try (cases h; done)
  · rename_i b off sz cap A hc
    split at h <;> try (cases h; done)
    rename_i c hb
    split at h <;> try (cases h; done)
    rename_i hsz
    simp only [Option.map_eq_some_iff, Prod.mk.injEq] at h
    obtain ⟨c', hp, hv, hH'⟩ := h
    have hm0 : (if n ≤ 0 then n else 0) = 0 := by split <;> omega
    rw [hm0] at hp hv
    obtain ⟨g1, g2, g3, g4⟩ := C.get_put hp
    have hd0 : (C.sub 0 (0 * i.size) d).len = 0 := by rw [C.len_sub (by omega)]; simp
    have hsame : ∀ j, c'.get j = c.get j := fun j => by
      rw [g4, hd0]
      split
      · rfl
      · rw [if_neg (by omega)]
    subst hv; subst hH'
    refine ⟨.int .i64 0, w, O, ρ, ?_, .int _ _ _, ?_, ⟨Mono.refl _ _ _, Ext.refl _ _, fun _ h => h, fun _ h => .inl h, fun _ _ h => .inl h⟩⟩
    · have hff := hf P 0 (Nat.zero_le _)
      simp only [Nat.zero_mul, List.take_zero] at hff
      have hm : Nat.min n 0 = 0 := Nat.min_zero n
      simp only [Builtin.copy_, List.getElem?_toArray, List.getElem?_cons_zero, List.getElem?_cons_succ, Sem.run_bind, run_und hd, Result.andThen_ok, hl, run_sz hi, hm, hff]
      cases A <;> rfl
    · refine ⟨fun i j r hi hj li lj => hH.inj i j r hi hj (live_set li ⟨_, hb, by simp⟩) (live_set lj ⟨_, hb, by simp⟩), fun i r hi => ?_, hH.lt, hH.own, hH.imm, hH.dis⟩
      obtain ⟨b', k1, k2⟩ := hH.blk i r hi
      by_cases e : i = b
      · subst e
        rw [hb] at k1; injection k1 with k1; subst k1
        refine ⟨_, List.getElem?_set_self (List.getElem?_eq_some_iff.1 hb).1, ?_⟩
        obtain ⟨cs, e, fr, q1, q2, q3, q4, q5, q6, q7⟩ := k2
        refine ⟨cs, e, fr, q1, q2, by rw [g2]; exact q3, fun j v hv => q4 j v (by rw [← hsame]; exact hv), fun j v x hv hx => ?_, q6, q7⟩
        exact plC_imp (fun e => (g3 e).1) (q5 j v x (by rw [← hsame]; exact hv) hx)
      · exact ⟨b', by rw [List.getElem?_set_ne (Ne.symm e)]; exact k1, k2⟩
  · rename_i b off len sz cap r rc n' hh2 hh3 hh4 hh5 hh1
    split at h <;> try (cases h; done)
    rename_i c hb
    split at h <;> try (cases h; done)
    rename_i hsz
    simp only [Option.map_eq_some_iff, Prod.mk.injEq] at h
    obtain ⟨c', hp, hv, hH'⟩ := h
    subst hv; subst hH'
    generalize hm : (if n ≤ len then n else len) = k at hp
    have hk : k ≤ n := by rw [← hm]; split <;> omega
    have hmin : Nat.min n len = k := by rw [← hm]; rfl
    have hkl : k * i.size ≤ d.len := by rw [hlen]; exact Nat.mul_le_mul_right _ hk
    have hd : CRel m I w ρ (d.sub 0 (k * i.size)) (ys.take (k * i.size)) := by
      refine ⟨by rw [C.len_sub (by omega), List.length_take, hys.1]; omega, fun j v hv => hys.2.1 _ _ (C.get_sub hv).2, fun j v x hv hx => ?_⟩
      obtain ⟨hj, hg⟩ := C.get_sub hv
      rw [plC_sub]
      rw [List.getElem?_take, if_pos hj] at hx
      exact hys.2.2 _ _ _ (by rw [Nat.zero_add] at hg; exact hg) hx
    obtain ⟨q1, q2, q3, q4⟩ := write_cells hH hb hh1 hp hd
    refine ⟨.int .i64 k, _, O, ρ, ?_, .int _ _ _, q1, q2⟩
    have := run_storeCells_cells (P := P) r off (ys.take (k * i.size)) 0 w (by simpa using q3) (fun j _ => q4 _) hd.oneCell
    simp only [Nat.add_zero] at this
    simp only [Builtin.copy_, List.getElem?_toArray, List.getElem?_cons_zero, List.getElem?_cons_succ, Sem.run_bind, run_und ‹P.underlying t = _›, Result.andThen_ok, hl, run_sz hi, hmin, hf P k hk, this]
    rfl

theorem sound_nxt {ty : TypeId} (hH : HRel m I O w ρ H) (hx : RelV m I w ρ p x) (h : evE (.nxt (.c p)) [] H = some (v, H')) : EPost m P (Instr.next x true ty) H.length H' I O w ρ v := by
  simp only [evE, R.ev] at h
  cases hx <;> simp only [] at h <;> try (cases h; done)
  rename_i b o r hr
  split at h <;> try (cases h; done)
  rename_i s pos hb
  split at h <;> try (cases h; done)
  rename_i ho0
  obtain rfl : o = 0 := by omega
  have hB := hH.at hb hr
  obtain ⟨hB1, hO⟩ := hB
  have hget : (getObj r).run P w = .ok (.stringIter ⟨s.toArray⟩ pos) w := by simp [getObj, Sem.run, hB1]
  split at h
  · rename_i hlt
    simp only [Option.some.injEq, Prod.mk.injEq] at h
    obtain ⟨rfl, rfl⟩ := h
    have hrlt := hH.lt b r hr
    let w' : World := { w with heap := w.heap.setIfInBounds r (.stringIter ⟨s.toArray⟩ (pos + (Utf8.decode ⟨s.toArray⟩ pos).2)) }
    have hset : ∀ o, (setObj r o).run P w = .ok () { w with heap := w.heap.setIfInBounds r o } := fun o => by simp [setObj, Sem.run, hB1]
    obtain ⟨q1, q2⟩ := write_block (w' := w') (bl' := .iter s (pos + (Utf8.decode ⟨s.toArray⟩ pos).2)) hH hb (by simp) hr hO (fun k hk => by show (w.heap.setIfInBounds r _)[k]? = _; rw [Array.getElem?_setIfInBounds_ne (Ne.symm hk)]) (by show (w.heap.setIfInBounds r _).size = _; simp) rfl rfl rfl
      (fun n hn => by simp [sizeOf?, hB1] at hn) (fun hm => ⟨by show (w.heap.setIfInBounds r _)[r]? = _; rw [Array.getElem?_setIfInBounds_self_of_lt hrlt], hO⟩)
    refine ⟨.tuple #[.bool true, .int .i64 pos, .int .i32 (Utf8.decode ⟨s.toArray⟩ pos).1], w', O, ρ, ?_, ?_, q1, q2⟩
    · have hlt' : pos < (⟨s.toArray⟩ : ByteArray).size := by rw [size_mk]; exact hlt
      simp only [Instr.next, Sem.run_bind, hget, Result.andThen_ok, hlt', if_true, hset]
      rfl
    · refine .tup _ _ _ rfl (fun j v x hv hx => ?_)
      match j, hv, hx with
      | 0, hv, hx => simp at hv hx; subst hv; subst hx; exact .bool _ _
      | 1, hv, hx => simp at hv hx; subst hv; subst hx; exact .int _ _ _
      | 2, hv, hx => simp at hv hx; subst hv; subst hx; exact .int _ _ _
      | k + 3, hv, hx => simp at hv
  · rename_i hlt
    simp only [Option.some.injEq, Prod.mk.injEq] at h
    obtain ⟨rfl, rfl⟩ := h
    refine ⟨.tuple #[.bool false], w, O, ρ, ?_, ?_, hH, ⟨Mono.refl _ _ _, Ext.refl _ _, fun _ h => h, fun _ h => .inl h, fun _ _ h => .inl h⟩⟩
    · have hlt' : ¬ pos < (⟨s.toArray⟩ : ByteArray).size := by rw [size_mk]; exact hlt
      simp only [Instr.next, Sem.run_bind, hget, Result.andThen_ok, hlt', if_false]
      rfl
    · refine .tup _ _ _ rfl (fun j v x hv hx => ?_)
      match j, hv, hx with
      | 0, hv, hx => simp at hv hx; subst hv; subst hx; exact .bool _ _
      | k + 1, hv, hx => simp at hv
end Go.Proofs.YtgjbkgajkcgdfaaE
