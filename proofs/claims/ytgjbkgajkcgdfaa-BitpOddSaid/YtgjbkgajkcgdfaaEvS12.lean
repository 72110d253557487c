/- Quiet operations that make a slice. -/
import Derived.Test.YtgjbkgajkcgdfaaEvS11
namespace Go.Proofs.YtgjbkgajkcgdfaaE
open Go
set_option linter.unusedSimpArgs false
set_option linter.unusedVariables false
variable {P : Program} {w : World} {m : Nat → Option Nat} {I O : Nat → Prop} {ρ : Pl} {H Hb : List Blk} {p q v : V} {x y : Value} {news : List Blk}

theorem run_storeCells_nil (a : Addr) (w : World) : (storeCells a []).run P w = .ok () w := rfl

theorem sound_app {t u ty el : TypeId} {d : TypeDesc} {i : TypeInfo} {zv : Value} (hd : P.underlying t = some (.slice el)) (hu : P.underlying u = some d) (hi' : isIntD d = false) (hi : P.info? el = some i) (hz : i.zero = some zv) (hzs : zv.cells.size = i.size)
    (hp : ∀ (i : Nat) (b : Blk), H[i]? = some b → Hb[i]? = some b) (hH : HRel m I O w ρ Hb) (hx : RelV m I w ρ p x) (hy : RelV m I w ρ q y)
    (h : evQ (.app i.size i.bytes (.c p) (.c q)) [] H = some (v, news)) (hb : ∀ (j : Nat) (b : Blk), news[j]? = some b → Hb[H.length + j]? = some b) (hn : ρ H.length = none) :
    QPost m P (Builtin.append_ #[t, u] ty #[x, y]) H.length news.length Hb I O w ρ v := by
  simp only [evQ, R.ev, Option.bind_eq_some_iff] at h
  obtain ⟨⟨k, d'⟩, hs, h⟩ := h
  simp only [] at h
  obtain ⟨hlen, ys, hys, hl, hf, _, _⟩ := src_any hp hH hs hy
  have nilCase : ∀ A, x = .slice A 0 0 → v = .sl H.length 0 k none i.size → news = [.cells false d'] → k * i.bytes ≤ 2 ^ 40 → k ≤ 2 ^ 40 → QPost m P (Builtin.append_ #[t, u] ty #[x, y]) H.length news.length Hb I O w ρ v := by
    intro A hA hv hnw hb1 hb2
    subst hA; subst hv; subst hnw
    by_cases hk : k = 0
    · subst hk
      have hyn : ys = [] := List.length_eq_zero_iff.1 (by rw [hys.1, hlen]; simp)
      refine ⟨.slice A 0 0, w, I, O, ρ, ?_, .sl0 _ _ _ _ _ _ (fun c e => by cases e), hH, .refl _ _ _ _ _ _⟩
      have hff := hf P w rfl
      rw [hyn] at hff
      cases d <;> first | (exfalso; simp [isIntD] at hi'; done) | skip
      all_goals
        simp only [Builtin.append_, List.getElem?_toArray, List.getElem?_cons_zero, List.getElem?_cons_succ, Sem.run_bind, run_und hd, Result.andThen_ok, run_sz hi, run_und hu, Sem.run_pure]
        simp only [Bool.false_eq_true, if_false, hl, Sem.run_bind, Result.andThen_ok, Nat.add_zero, Nat.le_refl, if_true, Bool.not_false, hff]
        cases A <;> rfl
    · obtain ⟨nc, cs, w', g1, g2, g3, g4, g5, g6, g7, g8⟩ := run_append_new (P := P) (w := w) (ty := ty) (A := A) (n := 0) (rc := 0) (xs := []) hd hu hi' hi hz (hl P) (fun w2 h2 => hf P w2 h2)
        (fun w2 h2 => run_firstCells (w := w2) (by simp) (.inl rfl)) (by omega) (by simpa using hb1) (by omega)
      rw [Nat.zero_add] at g8
      refine QPost.new hH g4 g5 g6 g7 (by simpa using hb 0 _ rfl) hn hys (by simpa using g3) g8 (fun ρ' h1 h2 => ?_)
      refine .sl1 _ _ _ _ _ _ w.heap.size nc cs.size h1 (by omega) (fun c e => by cases e) h2 ?_
      rw [g2, hzs, hys.1, hlen]
      simp only [List.length_nil, Nat.zero_add]
      rw [← Nat.add_mul]
      have : k + (nc - k) = nc := by omega
      rw [this]
      exact Nat.le_refl _
  cases hx <;> (try simp only [] at h) <;> try (cases h; done)
  · split at h <;> try (cases h; done)
    rename_i hbd
    simp only [Option.some.injEq, Prod.mk.injEq] at h
    exact nilCase _ rfl h.1.symm h.2.symm hbd.1 hbd.2
  · split at h <;> try (cases h; done)
    rename_i hbd
    simp only [Option.some.injEq, Prod.mk.injEq] at h
    exact nilCase _ rfl h.1.symm h.2.symm hbd.1 hbd.2
  · rename_i b off sz cap A hc
    cases cap with
    | none => simp at h
    | some cap =>
      simp only [] at h
      split at h <;> try (cases h; done)
      rename_i hbd
      obtain ⟨rfl, hbd1, hbd2, hbd3⟩ := hbd
      simp only [Option.bind_eq_some_iff, Option.map_eq_some_iff, Prod.mk.injEq] at h
      obtain ⟨⟨k0, c0⟩, hs0, c1, hc1, hv, hnw⟩ := h
      subst hv; subst hnw
      obtain ⟨hlen0, xs, hxs, hl0, hf0, _, _⟩ := src_any hp hH hs0 (RelV.sl0 ρ b off i.size (some cap) A hc)
      have hk0 : k0 = 0 := by
        simp only [src] at hs0
        split at hs0 <;> try (cases hs0; done)
        split at hs0 <;> try (cases hs0; done)
        simp only [Option.some.injEq, Prod.mk.injEq] at hs0
        exact hs0.1.symm
      subst hk0
      have hcap := hc cap rfl
      obtain ⟨nc, cs, w', g1, g2, g3, g4, g5, g6, g7, g8⟩ := run_append_new (P := P) (w := w) (ty := ty) (A := A) (n := 0) (rc := 0) (xs := xs) hd hu hi' hi hz (hl P) (fun w2 h2 => hf P w2 h2)
        (fun w2 h2 => hf0 P w2 h2) (by omega) (by simpa using hbd2) (by omega)
      refine QPost.new hH g4 g5 g6 g7 (by simpa using hb 0 _ rfl) hn (C.app_rel hc1 hxs hys) g3 g8 (fun ρ' h1 h2 => ?_)
      refine .sl1 _ _ _ _ _ _ w.heap.size nc cs.size h1 (by omega) (fun c e => by cases e) h2 ?_
      rw [g2, hzs, hys.1, hlen, hxs.1, hlen0]
      have : 0 * i.size + k * i.size + (nc - (0 + k)) * i.size = nc * i.size := by rw [← Nat.add_mul, ← Nat.add_mul]; congr 1; omega
      omega
  · rename_i b off len sz cap r rc n hh2 hh3 hh4 hh5 hh1
    cases cap with
    | none => simp at h
    | some cap =>
      simp only [] at h
      split at h <;> try (cases h; done)
      rename_i hbd
      obtain ⟨rfl, hbd1, hbd2, hbd3⟩ := hbd
      simp only [Option.bind_eq_some_iff, Option.map_eq_some_iff, Prod.mk.injEq] at h
      obtain ⟨⟨k0, c0⟩, hs0, c1, hc1, hv, hnw⟩ := h
      subst hv; subst hnw
      obtain ⟨hlen0, xs, hxs, hl0, hf0, _, _⟩ := src_any hp hH hs0 (RelV.sl1 ρ b off len i.size (some cap) r rc n hh1 hh2 hh3 hh4 hh5)
      have hk0 : k0 = len := by
        simp only [src] at hs0
        split at hs0 <;> try (cases hs0; done)
        split at hs0 <;> try (cases hs0; done)
        simp only [Option.some.injEq, Prod.mk.injEq] at hs0
        exact hs0.1.symm
      subst hk0
      have hcap := hh3 cap rfl
      obtain ⟨nc, cs, w', g1, g2, g3, g4, g5, g6, g7, g8⟩ := run_append_new (P := P) (w := w) (ty := ty) (A := some ⟨r, off, none⟩) (n := k0) (rc := rc) (xs := xs) hd hu hi' hi hz (hl P) (fun w2 h2 => hf P w2 h2)
        (fun w2 h2 => hf0 P w2 h2) (by omega) hbd2 (by omega)
      refine QPost.new hH g4 g5 g6 g7 (by simpa using hb 0 _ rfl) hn (C.app_rel hc1 hxs hys) g3 g8 (fun ρ' h1 h2 => ?_)
      refine .sl1 _ _ _ _ _ _ w.heap.size nc cs.size h1 (by omega) (fun c e => by cases e) h2 ?_
      rw [g2, hzs, hys.1, hlen, hxs.1, hlen0]
      have : k0 * i.size + k * i.size + (nc - (k0 + k)) * i.size = nc * i.size := by rw [← Nat.add_mul, ← Nat.add_mul]; congr 1; omega
      omega

theorem sound_bsl {t el : TypeId} {i : TypeInfo} {zv : Value} {len : Nat} {z : C} {ps : List (Nat × Nat × R)} {xs : Array (Nat × Value)} {e : Env} (hd : P.underlying t = some (.slice el)) (hi : P.info? el = some i) (hz : i.zero = some zv) (hzs : zv.cells.size = i.size)
    (hc : contentOf (List.replicate len zv.cells.toList).flatten = some z) (hH : HRel m I O w ρ Hb) (hp : PRel m I w ρ (fun k => some (k * i.size, i.size)) ps xs.toList e)
    (h : evQ (.bsl len i.size z ps) e H = some (v, news)) (hb : ∀ (j : Nat) (b : Blk), news[j]? = some b → Hb[H.length + j]? = some b) (hn : ρ H.length = none) :
    QPost m P (Instr.buildSlice t len xs) H.length news.length Hb I O w ρ v := by
  simp only [evQ, Option.bind_eq_some_iff] at h
  obtain ⟨c, hpa, h⟩ := h
  split at h <;> try (cases h; done)
  rename_i hbd
  obtain ⟨hbd1, hbd2⟩ := hbd
  simp only [Option.some.injEq, Prod.mk.injEq] at h
  obtain ⟨rfl, rfl⟩ := h
  have hr0 := run_range_zero (zv := zv) (c := len) hzs
  generalize hcs : (Array.range (len * i.size)).map ((if len * i.size = 0 then (#[] : Array Value) else zv.cells)[· % (if len * i.size = 0 then (#[] : Array Value) else zv.cells).size]!) = cs0 at hr0
  obtain ⟨cs, h1, h2⟩ := fill_rel (cs := cs0) hp hpa (by rw [hr0]; exact contentOf_rel hc)
  have h3 := CRel.tidied h2
  refine QPost.new (w' := w.alloc (.cells cs el)) (xs := cs.toList) (cs := cs) (e := el) (z := .slice (some ⟨w.heap.size, 0, none⟩) len len) hH rfl rfl rfl rfl (by simpa using hb 0 _ rfl) hn h3 (fun j x h => by simpa using h) ?_ (fun ρ' h4 h5 => ?_)
  · have h24 : ¬ (len * i.size > 2 ^ 24) := by omega
    simp only [Instr.buildSlice, Sem.run_bind, run_und hd, Result.andThen_ok, run_sz hi, h24, if_false, Sem.run_pure]
    by_cases h0 : len * i.size = 0
    · simp only [if_pos h0] at hcs ⊢
      simp only [Sem.run_bind, Sem.run_pure, Result.andThen_ok]
      rw [hcs, h1]; rfl
    · simp only [if_neg h0] at hcs ⊢
      simp only [Sem.run_bind, run_zero hi hz, Sem.run_pure, Result.andThen_ok]
      rw [hcs, h1]; rfl
  · refine .sl1 _ _ _ _ _ _ w.heap.size len cs.size h4 (Nat.le_refl _) (fun c e => by injection e with e; exact e.symm) h5 ?_
    have : cs.size = len * i.size := by rw [← hbd1, ← h2.1]; simp
    omega

theorem sound_rng {t : TypeId} (hd : P.underlying t = some .string) (hH : HRel m I O w ρ Hb) (hx : RelV m I w ρ p x)
    (h : evQ (.rng (.c p)) [] H = some (v, news)) (hb : ∀ (j : Nat) (b : Blk), news[j]? = some b → Hb[H.length + j]? = some b) (hn : ρ H.length = none) :
    QPost m P (Instr.range t x) H.length news.length Hb I O w ρ v := by
  simp only [evQ, R.ev] at h
  cases hx <;> simp only [] at h <;> try (cases h; done)
  rename_i s
  simp only [Option.some.injEq, Prod.mk.injEq] at h
  obtain ⟨rfl, rfl⟩ := h
  obtain ⟨g1, g2⟩ := grow_new (w' := w.alloc (.stringIter ⟨s.toArray⟩ 0)) (i := H.length) (b := .iter s 0) rfl rfl rfl rfl hH hn (by simpa using hb 0 _ rfl) (fun O' ρ' ho hz hm => ⟨by show (w.heap.push _)[w.heap.size]? = _; simp, hz⟩)
  refine ⟨.pointer (some ⟨w.heap.size, 0, none⟩), _, I, _, _, ?_, .ptr _ _ _ _ (by simp [plus]), g1, g2⟩
  simp only [Instr.range, Sem.run_bind, run_und hd, Result.andThen_ok, Sem.run_pure]
  rfl

theorem sound_s2b {s d e : TypeId} (hs : P.underlying s = some .string) (hd : P.underlying d = some (.slice e)) (he : P.underlying e = some (.int .u8)) (hH : HRel m I O w ρ Hb) (hx : RelV m I w ρ p x)
    (h : evQ (.s2b (.c p)) [] H = some (v, news)) : news = [] ∧ QPost m P (convert s d x) H.length 0 Hb I O w ρ v := by
  simp only [evQ, R.ev] at h
  cases hx <;> simp only [] at h <;> try (cases h; done)
  rename_i s'
  simp only [Option.some.injEq, Prod.mk.injEq] at h
  obtain ⟨rfl, rfl⟩ := h
  refine ⟨rfl, ?_⟩
  have hrun := Lib.run_convert_string_bytes (P := P) w s d e ⟨s'.toArray⟩ hs hd he
  have hsz : (⟨s'.toArray⟩ : ByteArray).size = s'.length := size_mk s'
  have hg : Grow H.length (H.length + 0) I O w ρ (fun k => I k ∨ k = w.heap.size) O (Lib.bytesWorld w e ⟨s'.toArray⟩) ρ := by
    refine ⟨fun _ h => .inl h, fun k h => h.imp id (fun e => by omega), fun _ h => h, fun _ h => .inl h, fun _ _ h => h, fun _ _ h => .inl h, by rw [Lib.bytesWorld_size]; omega, fun k hk => Lib.bytesWorld_at_old w e _ k hk, ?_, ?_, ?_⟩ <;>
      (unfold Lib.bytesWorld World.freeze; rw [if_neg (by omega)]; rfl)
  have hm := hg.mono hH.imm
  refine ⟨_, _, _, O, ρ, hrun, ?_, ⟨hH.inj, fun i r hr => ?_, fun i r hr => ?_, fun k hk => ?_, fun k hk => ?_, fun k hk => ?_⟩, hg⟩
  · rw [hsz]
    refine .rs _ _ _ _ _ (fun j => .int .u8 (s'.getD j 0).toNat) (by simp [grownCap, Question.cut]) (fun j v hj => ?_) (fun j v hj => ?_)
    · have hlt : j < s'.length := by have := C.get_lt hj; simpa [C.len] using this
      have hc := Lib.bytesWorld_cell w e ⟨s'.toArray⟩ j (by rw [hsz]; exact hlt)
      simp only [C.get, Option.map_eq_some_iff] at hj
      obtain ⟨n, _, rfl⟩ := hj
      exact ⟨rfl, w.heap.size, 0, rfl, .inr rfl, by simpa using hc⟩
    · have hlt : j < s'.length := by have := C.get_lt hj; simpa [C.len] using this
      simp only [C.get, List.getElem?_map, Option.map_eq_some_iff] at hj
      obtain ⟨n, ⟨b, hb, rfl⟩, rfl⟩ := hj
      have : s'.getD j 0 = b := by rw [List.getD_eq_getElem?_getD, hb]; rfl
      rw [this]
      exact .int _ _ _
  · obtain ⟨b, h1, h2⟩ := hH.blk i r hr
    exact ⟨b, h1, h2.mono hm (fun _ h => h) (hg.block _ (hH.lt i r hr))⟩
  · have := hH.lt i r hr; rw [Lib.bytesWorld_size]; omega
  · have := hH.own k hk; rw [Lib.bytesWorld_size]; omega
  · rw [Lib.bytesWorld_size]
    rcases hk with hk | hk
    · have := hH.imm k hk; omega
    · omega
  · rcases hk with hk | hk
    · exact hH.dis k hk
    · intro ho; have := hH.own k ho; omega
end Go.Proofs.YtgjbkgajkcgdfaaE
