/- append that turns what was there; clear. -/
import Derived.Test.YtgjbkgajkcgdfaaEvS14
namespace Go.Proofs.YtgjbkgajkcgdfaaE
open Go
set_option linter.unusedSimpArgs false
set_option linter.unusedVariables false
variable {P : Program} {w : World} {m : Nat → Option Nat} {I O : Nat → Prop} {ρ : Pl} {H Hb : List Blk} {p q v : V} {x y : Value} {H' : List Blk}

theorem HRel.dom (hH : HRel m I O w ρ H) {i r : Nat} (h : ρ i = some r) : i < H.length := by
  obtain ⟨b, h1, _⟩ := hH.blk i r h
  exact (List.getElem?_eq_some_iff.1 h1).1
theorem HRel.none (hH : HRel m I O w ρ H) {i : Nat} (h : H.length ≤ i) : ρ i = none := by
  cases hr : ρ i with
  | none => rfl
  | some r => have := hH.dom hr; omega

/-- a block is given up, and others stand behind -/
theorem kill (hH : HRel m I O w ρ H) (b : Nat) (more : List Blk) : HRel m I O w ρ (H.set b .dead ++ more) := by
  have hl : ∀ i r, ρ i = some r → live (H.set b .dead ++ more) i → live H i ∧ i ≠ b := by
    intro i r hr ⟨c, h1, h2⟩
    have hi := hH.dom hr
    rw [List.getElem?_append_left (by simpa using hi)] at h1
    by_cases e : b = i
    · subst e; rw [List.getElem?_set_self hi] at h1; injection h1 with h1; exact absurd h1.symm h2
    · rw [List.getElem?_set_ne e] at h1; exact ⟨⟨c, h1, h2⟩, Ne.symm e⟩
  refine ⟨fun i j r hi hj li lj => hH.inj i j r hi hj (hl i r hi li).1 (hl j r hj lj).1, fun i r hi => ?_, hH.lt, hH.own, hH.imm, hH.dis⟩
  obtain ⟨c, h1, h2⟩ := hH.blk i r hi
  have hlt := hH.dom hi
  by_cases e : b = i
  · subst e
    exact ⟨.dead, by rw [List.getElem?_append_left (by simpa using hlt), List.getElem?_set_self hlt], trivial⟩
  · exact ⟨c, by rw [List.getElem?_append_left (by simpa using hlt), List.getElem?_set_ne e]; exact h1, h2⟩

theorem run_append_in {t u ty el : TypeId} {d : TypeDesc} {i : TypeInfo} {A : Option Addr} {n rc k : Nat} {ys : List Value} (hd : P.underlying t = some (.slice el)) (hu : P.underlying u = some d) (hi' : isIntD d = false) (hi : P.info? el = some i)
    (hlen : ∀ w, (Builtin.lenOf y).run P w = .ok k w) (hy : (Builtin.firstCells i.size k y).run P w = .ok ys.toArray w) (hroom : n + k ≤ rc) {w' : World}
    (hst : ∀ r o, A = some ⟨r, o, none⟩ → (storeCells ⟨r, o + n * i.size, none⟩ ys).run P w = .ok () w') (hA : (A = none ∧ w' = w) ∨ (∃ r o, A = some ⟨r, o, none⟩) ∨ (ys = [] ∧ w' = w)) :
    (Builtin.append_ #[t, u] ty #[.slice A n rc, y]).run P w = .ok (.slice A (n + k) rc) w' := by
  cases d <;> first | (exfalso; simp [isIntD] at hi'; done) | skip
  all_goals
    simp only [Builtin.append_, List.getElem?_toArray, List.getElem?_cons_zero, List.getElem?_cons_succ, Sem.run_bind, run_und hd, Result.andThen_ok, run_sz hi, run_und hu, Sem.run_pure]
    simp only [Bool.false_eq_true, if_false, hlen, Sem.run_bind, Result.andThen_ok, hroom, if_true, Bool.not_false, hy]
    rcases hA with ⟨rfl, rfl⟩ | ⟨r, o, rfl⟩ | ⟨rfl, rfl⟩
    · rfl
    · simp only [Sem.run_bind, add_mk, hst r o rfl, Result.andThen_ok, Sem.run_pure]
    · cases A <;> rfl

theorem sound_appE {t u ty el : TypeId} {d : TypeDesc} {i : TypeInfo} {zv : Value} (hd : P.underlying t = some (.slice el)) (hu : P.underlying u = some d) (hi' : isIntD d = false) (hi : P.info? el = some i) (hz : i.zero = some zv) (hzs : zv.cells.size = i.size)
    (hH : HRel m I O w ρ H) (hx : RelV m I w ρ p x) (hy : RelV m I w ρ q y) (h : evE (.app i.size i.bytes (.c p) (.c q)) [] H = some (v, H')) :
    EPost m P (Builtin.append_ #[t, u] ty #[x, y]) H.length H' I O w ρ v := by
  simp only [evE, R.ev, Option.bind_eq_some_iff] at h
  obtain ⟨⟨k, d'⟩, hs, h⟩ := h
  simp only [] at h
  obtain ⟨hlen, ys, hys, hl, hf, _, _⟩ := src_any prefix_refl hH hs hy
  -- a new block, whatever stood in b
  have fresh : ∀ (A : Option Addr) (n rc : Nat) (xs : List Value) (c c' : C) (b : Nat), x = .slice A n rc → CRel m I w ρ c xs → c.len = n * i.size → (∀ w2 : World, w2.heap = w.heap → (Builtin.firstCells i.size n (.slice A n rc)).run P w2 = .ok xs.toArray w2) →
      rc < n + k → (n + k) * i.bytes ≤ 2 ^ 40 → n + k ≤ 2 ^ 40 → c.app d' = some c' → v = .sl H.length 0 (n + k) none i.size → H' = H.set b .dead ++ [.cells false c'] →
      EPost m P (Builtin.append_ #[t, u] ty #[x, y]) H.length H' I O w ρ v := by
    intro A n rc xs c c' b hxA hxs hcl hf0 hroom hb1 hb2 hca hv hH'
    subst hxA; subst hv; subst hH'
    obtain ⟨nc, cs, w', g1, g2, g3, g4, g5, g6, g7, g8⟩ := run_append_new (P := P) (w := w) (ty := ty) (A := A) (n := n) (rc := rc) (xs := xs) hd hu hi' hi hz (hl P) (fun w2 h2 => hf P w2 h2) hf0 hroom hb1 hb2
    have hK := kill hH b [.cells false c']
    obtain ⟨q1, q2⟩ := grow_new (i := H.length) (b := .cells false c') g4 g5 g6 g7 hK (hH.none (Nat.le_refl _)) (by rw [List.getElem?_append_right (by simp)]; simp) (fun O' ρ' ho hz' hm => new_cells g4 hz' hm (C.app_rel hca hxs hys) g3)
    refine ⟨_, w', _, _, g8, ?_, q1, ⟨q2.mono hH.imm, q2.ext, q2.own, q2.own', fun i r hr => (q2.pl' i r hr).imp id (fun h => ⟨h.1, .inr h.2.2⟩)⟩⟩
    refine .sl1 _ _ _ _ _ _ w.heap.size nc cs.size (by simp [plus]) (by omega) (fun c e => by cases e) (by simp [sizeOf?, g4]) ?_
    rw [g2, hzs, hys.1, hlen, hxs.1, hcl]
    have : n * i.size + k * i.size + (nc - (n + k)) * i.size = nc * i.size := by rw [← Nat.add_mul, ← Nat.add_mul]; congr 1; omega
    omega
  have hyk : k = 0 → ys = [] := fun e => List.length_eq_zero_iff.1 (by rw [hys.1, hlen, e]; simp)
  cases hx <;> (try simp only [] at h) <;> try (cases h; done)
  · -- no capacity at all
    rename_i b off sz cap A hc
    cases cap with
    | none =>
      simp only [] at h
      split at h <;> try (cases h; done)
      rename_i c hb
      split at h <;> try (cases h; done)
      rename_i hbd
      obtain ⟨rfl, rfl, hbd2, hbd3, hbd4⟩ := hbd
      simp only [Option.map_eq_some_iff, Prod.mk.injEq] at h
      obtain ⟨c', hca, hv, hH'⟩ := h
      have hc0 : CRel m I w ρ c [] := ⟨by rw [hbd2]; simp, fun j v hv => (by have := C.get_lt hv; rw [hbd2] at this; simp at this), fun j v x hv => (by have := C.get_lt hv; rw [hbd2] at this; simp at this)⟩
      by_cases hk : k = 0
      · subst hk
        subst hv; subst hH'
        refine ⟨.slice A 0 0, w, O, ρ, ?_, .sl0 _ _ _ _ _ _ (fun c e => by cases e), kill hH b _, ⟨Mono.refl _ _ _, Ext.refl _ _, fun _ h => h, fun _ h => .inl h, fun _ _ h => .inl h⟩⟩
        exact run_append_in hd hu hi' hi (hl P) (hf P w rfl) (Nat.le_refl _) (fun r o _ => by rw [hyk rfl]; rfl) (.inr (.inr ⟨hyk rfl, rfl⟩))
      · exact fresh A 0 0 [] c c' b rfl hc0 hbd2 (fun w2 h2 => run_firstCells (w := w2) (by simp) (.inl rfl)) (by omega) hbd3 hbd4 hca hv.symm hH'.symm
    | some cap =>
      have hcap := hc cap rfl
      subst hcap
      simp only [] at h
      split at h <;> try (cases h; done)
      rename_i c hb
      split at h <;> try (cases h; done)
      rename_i hbd
      obtain ⟨rfl, hbd2⟩ := hbd
      simp only [Option.map_eq_some_iff, Prod.mk.injEq] at h
      obtain ⟨c', hp, hv, hH'⟩ := h
      have hk : k = 0 := by omega
      subst hk; subst hv; subst hH'
      obtain ⟨g1, g2, g3, g4⟩ := C.get_put hp
      have hd0 : d'.len = 0 := by rw [hlen]; simp
      have hsame : ∀ j, c'.get j = c.get j := fun j => by
        rw [g4, hd0]
        split
        · rfl
        · rw [if_neg (by omega)]
      refine ⟨.slice A 0 0, w, O, ρ, ?_, .sl0 _ _ _ _ _ _ (fun c e => by injection e with e; exact e.symm), ?_, ⟨Mono.refl _ _ _, Ext.refl _ _, fun _ h => h, fun _ h => .inl h, fun _ _ h => .inl h⟩⟩
      · exact run_append_in hd hu hi' hi (hl P) (hf P w rfl) (Nat.le_refl _) (fun r o _ => by rw [hyk rfl]; rfl) (.inr (.inr ⟨hyk rfl, rfl⟩))
      · refine ⟨fun i j r hi hj li lj => hH.inj i j r hi hj (live_set li ⟨_, hb, by simp⟩) (live_set lj ⟨_, hb, by simp⟩), fun i r hi => ?_, hH.lt, hH.own, hH.imm, hH.dis⟩
        obtain ⟨b', k1, k2⟩ := hH.blk i r hi
        by_cases e : i = b
        · subst e
          rw [hb] at k1; injection k1 with k1; subst k1
          refine ⟨_, List.getElem?_set_self (List.getElem?_eq_some_iff.1 hb).1, ?_⟩
          obtain ⟨cs, e, fr, q1, q2, q3, q4, q5, q6, q7⟩ := k2
          refine ⟨cs, e, fr, q1, q2, by rw [g2]; exact q3, fun j v hv => q4 j v (by rw [← hsame]; exact hv), fun j v x hv hx => ?_, q6, q7⟩
          exact plC_imp (fun e => (g3 e).1) (q5 j v x (by rw [← hsame]; exact hv) hx)
        · exact ⟨b', by rw [List.getElem?_set_ne (Ne.symm e)]; exact k1, k2⟩
  · rename_i b off len sz cap r rc n hh2 hh3 hh4 hh5 hh1
    cases cap with
    | none =>
      simp only [] at h
      split at h <;> try (cases h; done)
      rename_i c hb
      split at h <;> try (cases h; done)
      rename_i hbd
      obtain ⟨rfl, rfl, hbd2, hbd3, hbd4⟩ := hbd
      simp only [Option.map_eq_some_iff, Prod.mk.injEq] at h
      obtain ⟨c', hca, hv, hH'⟩ := h
      have hB := hH.at hb hh1
      obtain ⟨cs, e, fr, g1, g2, g3, g4⟩ := hB.crel
      have hO : O r := by
        obtain ⟨_, _, _, _, _, _, _, _, h, _⟩ := hB
        exact h rfl
      have hns : cs.size = n := by simpa [sizeOf?, g1] using hh4
      have hcell : ∀ (j : Nat) (z : Value), (cs.toList.take c.len)[j]? = some z → w.cell? ⟨r, 0 + j, none⟩ = some z := fun j z hj => by
        rw [Nat.zero_add, cell?_of g1]
        rw [List.getElem?_take] at hj
        split at hj
        · simpa using hj
        · cases hj
      by_cases hroom : len + k ≤ rc
      · subst hv; subst hH'
        have hw := setCells_other r ys (len * i.size) w
        obtain ⟨s1, s2, s3, s4, s5⟩ := hw
        obtain ⟨cs', k1, k2, k3⟩ := setCells_same r ys (len * i.size) w cs e fr g1
        have hysl : ys.length = k * i.size := by rw [hys.1, hlen]
        have hfits : len * i.size + ys.length ≤ cs.size := by
          have h1 : (len + k) * i.size ≤ rc * i.size := Nat.mul_le_mul_right _ hroom
          rw [Nat.add_mul] at h1
          omega
        have hst : (storeCells ⟨r, 0 + len * i.size, none⟩ ys).run P w = .ok () (w.setCells r (len * i.size) ys) := by
          have := run_storeCells_cells (P := P) r (len * i.size) ys 0 w (fun j hj => by rw [Nat.add_zero, cell?_of g1, Array.getElem?_eq_getElem (by omega)]; rfl) (fun j _ => g2 _) hys.oneCell
          simpa using this
        have hsz : ∀ k' n', sizeOf? w k' = some n' → sizeOf? (w.setCells r (len * i.size) ys) k' = some n' := fun k' n' hn' => by
          by_cases e : k' = r
          · subst e
            simp only [sizeOf?, g1, Option.some.injEq] at hn'
            simp only [sizeOf?, k1, k2, hn']
          · unfold sizeOf? at *; rw [s1 k' e]; exact hn'
        have hI : ∀ k', I k' → k' ≠ r := fun k' hk e => hH.dis k' hk (e ▸ hO)
        have hnone := hH.none (Nat.le_refl H.length)
        have hm : Mono I w ρ I (w.setCells r (len * i.size) ys) (plus ρ H.length r) := ⟨fun _ h => h, fun i r' hi => by
          unfold plus; split
          · rename_i e; subst e; rw [hnone] at hi; cases hi
          · exact hi, fun k' hk => s1 k' (hI k' hk), hsz⟩
        have hK := kill hH b [Blk.cells false c']
        have hblt : b < H.length := hH.dom hh1
        have hlive : ∀ i, i < H.length → live (H.set b .dead ++ [Blk.cells false c']) i → live H i ∧ i ≠ b := fun i hi ⟨c0, h1, h2⟩ => by
          rw [List.getElem?_append_left (by simpa using hi)] at h1
          by_cases e : b = i
          · subst e; rw [List.getElem?_set_self hi] at h1; injection h1 with h1; exact absurd h1.symm h2
          · rw [List.getElem?_set_ne e] at h1; exact ⟨⟨c0, h1, h2⟩, Ne.symm e⟩
        refine ⟨.slice (some ⟨r, 0, none⟩) (len + k) rc, _, O, plus ρ H.length r, ?_, ?_, ⟨fun i j s hi hj li lj => ?_, fun i s hi => ?_, fun i s hi => ?_, fun k' hk' => ?_, fun k' hk' => ?_, hH.dis⟩, ⟨hm, ⟨s3, s4, s5, by rw [s2]; exact Nat.le_refl _, fun k' _ hk' => s1 k' (fun e => hk' (e ▸ hO)), hsz⟩, fun _ h => h, fun _ h => .inl h, fun i s hi => ?_⟩⟩
        · exact run_append_in hd hu hi' hi (hl P) (hf P w rfl) hroom (fun r' o' e => by
            simp only [Option.some.injEq, Addr.mk.injEq, and_true] at e
            obtain ⟨rfl, rfl⟩ := e
            exact hst) (.inr (.inl ⟨_, _, rfl⟩))
        · exact .sl1 _ _ _ _ _ _ r rc n (by simp [plus]) hroom (fun c e => by cases e) (hsz _ _ hh4) hh5
        · unfold plus at hi hj
          split at hi <;> split at hj
          · omega
          · rename_i e1 e2
            injection hi with hi; subst hi
            have hjl := hH.dom hj
            obtain ⟨l1, l2⟩ := hlive j hjl lj
            exact absurd (hH.inj j b r hj hh1 l1 ⟨_, hb, by simp⟩) l2
          · rename_i e1 e2
            injection hj with hj; subst hj
            have hil := hH.dom hi
            obtain ⟨l1, l2⟩ := hlive i hil li
            exact absurd (hH.inj i b r hi hh1 l1 ⟨_, hb, by simp⟩) l2
          · exact hK.inj i j s hi hj li lj
        · unfold plus at hi
          split at hi
          · rename_i e; subst e
            injection hi with hi; subst hi
            refine ⟨.cells false c', by rw [List.getElem?_append_right (by simp)]; simp, ?_⟩
            have hca' := C.app_rel hca g4 hys
            have hxl : (cs.toList.take c.len).length = len * i.size := by rw [g4.1, hbd2]
            refine ⟨cs', e, fr, k1, fun j => by rw [World.frozen?_setCells]; exact g2 j, ?_, hca'.2.1, fun j v x hv hx => ?_, fun _ => hO, fun e => by cases e⟩
            · rw [k2, ← hca'.1, List.length_append, hxl]; exact hfits
            · refine hm.relC (hca'.2.2 j v x hv ?_)
              have hj : j < len * i.size + ys.length := by have := C.get_lt hv; rw [← hca'.1, List.length_append, hxl] at this; exact this
              rw [k3] at hx
              by_cases h1 : j < len * i.size
              · rw [if_pos h1] at hx
                rw [List.getElem?_append_left (by omega), List.getElem?_take, if_pos (by omega)]
                simpa using hx
              · rw [if_neg h1, if_pos hj, if_pos (by omega)] at hx
                rw [List.getElem?_append_right (by omega), hxl]; exact hx
          · obtain ⟨b', h1, h2⟩ := hK.blk i s hi
            refine ⟨b', h1, ?_⟩
            by_cases hdd : b' = .dead
            · subst hdd; exact trivial
            · refine h2.mono hm (fun _ h => h) (s1 s (fun es => ?_))
              subst es
              have hil := hH.dom hi
              obtain ⟨l1, l2⟩ := hlive i hil ⟨b', h1, hdd⟩
              exact l2 (hH.inj i b s hi hh1 l1 ⟨_, hb, by simp⟩)
        · rw [s2]
          unfold plus at hi
          split at hi
          · injection hi with hi; subst hi; exact hH.own _ hO
          · exact hH.lt i s hi
        · rw [s2]; exact hH.own k' hk'
        · rw [s2]; exact hH.imm k' hk'
        · unfold plus at hi
          split at hi
          · rename_i e; injection hi with hi; subst hi; exact .inr ⟨by omega, .inl hO⟩
          · exact .inl hi
      · exact fresh (some ⟨r, 0, none⟩) len rc _ c c' b rfl g4 hbd2 (fun w2 h2 => run_firstCells (w := w2) (by rw [g4.1, hbd2]) (.inr ⟨r, 0, rfl, fun j z hj => by
          have := hcell j z hj
          unfold World.cell? at this ⊢; rw [h2]; exact this⟩)) (by omega) hbd3 hbd4 hca hv.symm hH'.symm
    | some cap =>
      have hcap := hh3 cap rfl
      subst hcap
      simp only [] at h
      split at h <;> try (cases h; done)
      rename_i c hb
      split at h <;> try (cases h; done)
      rename_i hbd
      obtain ⟨rfl, hbd2⟩ := hbd
      simp only [Option.map_eq_some_iff, Prod.mk.injEq] at h
      obtain ⟨c', hp, hv, hH'⟩ := h
      subst hv; subst hH'
      obtain ⟨q1, q2, q3, q4⟩ := write_cells hH hb hh1 hp hys
      refine ⟨.slice (some ⟨r, off, none⟩) (len + k) cap, _, O, ρ, ?_, ?_, q1, q2⟩
      · refine run_append_in hd hu hi' hi (hl P) (hf P w rfl) hbd2 (fun r' o' e => ?_) (.inr (.inl ⟨_, _, rfl⟩))
        simp only [Option.some.injEq, Addr.mk.injEq, and_true] at e
        obtain ⟨rfl, rfl⟩ := e
        have := run_storeCells_cells (P := P) r (off + len * i.size) ys 0 w (by simpa using q3) (fun j _ => q4 _) hys.oneCell
        simpa using this
      · exact .sl1 _ _ _ _ _ _ r cap n hh1 hbd2 (fun c e => by injection e with e; exact e.symm) (q2.mono.cells _ _ hh4) hh5
end Go.Proofs.YtgjbkgajkcgdfaaE
