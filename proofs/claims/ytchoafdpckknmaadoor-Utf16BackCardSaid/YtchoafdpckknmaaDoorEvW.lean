/- Every quiet operation. -/
import Derived.Test.YtchoafdpckknmaaDoorEvU
namespace Go.Proofs.YtchoafdpckknmaaDoorE
open Go
set_option linter.unusedSimpArgs false
set_option linter.unusedVariables false
variable {P : Program} {w : World} {m : Nat → Option Nat} {I O : Nat → Prop} {ρ : Pl} {H Hb : List Blk} {v : V} {news : List Blk} {e : Env} {a : Act}

theorem places_spec {fs : Array Field} {pl : List (Nat × Nat)} (h : places P fs.toList = some pl) : ∃ g : Field → Nat × Nat, (∀ f ∈ fs.toList, ∃ j, P.info? f.type = some j ∧ g f = (f.offset, j.size)) ∧ ∀ i : Nat, (fs.map g)[i]? = pl[i]? := by
 obtain ⟨h1, h2⟩ := mapM_get h
 refine ⟨fun f => (f.offset, ((P.info? f.type).map (·.size)).getD 0), fun f hf => ?_, fun i => ?_⟩
 ·obtain ⟨j, hj, rfl⟩ := List.mem_iff_getElem.1 hf
  have hj' : j < pl.length := by omega
  have := h2 j _ pl[j] (List.getElem?_eq_getElem hj) (List.getElem?_eq_getElem hj')
  simp only [Option.map_eq_some_iff] at this
  obtain ⟨i, hi, _⟩ := this
  exact ⟨i, hi, by show (_, ((P.info? fs.toList[j].type).map (·.size)).getD 0) = _; rw [hi]; rfl⟩
 ·by_cases hi : i < fs.toList.length
  ·have hi' : i < pl.length := by omega
   have := h2 i _ pl[i] (List.getElem?_eq_getElem hi) (List.getElem?_eq_getElem hi')
   simp only [Option.map_eq_some_iff] at this
   obtain ⟨j, hj, he⟩ := this
   have hs : i < fs.size := by simpa using hi
   rw [List.getElem?_eq_getElem hi', Array.getElem?_map, Array.getElem?_eq_getElem hs]
   simp only [Array.getElem_toList] at hj he
   simp [hj, ← he]
  ·rw [List.getElem?_eq_none (by omega), Array.getElem?_eq_none (by simpa using hi)]

def notCall : Go.Op → Bool
 | .call { callee := .value _, .. } => false
 | _ => true

theorem tagOf_spec {d : TypeDesc} {t : Tag} (h : tagOf P d = some t) : tagD P t d = true := by
 unfold tagOf at h
 repeat' split at h
 all_goals first | (injection h with h; subst h; assumption) | (cases h; done)

set_option maxHeartbeats 1000000 in
theorem quiet_op {o : Oper} {oc : EOp} (hnc : notCall o.op = true) (hc : compO P m o.op = some oc) (he : ORel m I w ρ e a o.op.operands.toList) (hp : ∀ (i : Nat) (b : Blk), H[i]? = some b → Hb[i]? = some b) (hH : HRel m I O w ρ Hb)
  (h : evQ oc e H = some (v, news)) (hb : ∀ (j : Nat) (b : Blk), news[j]? = some b → Hb[H.length + j]? = some b) (hn : ∀ j, j < news.length → ρ (H.length + j) = none) :
  QOut m ((execOp a.eval o).run P w) H.length news.length Hb I O w ρ v := by
 obtain ⟨dst, op, type, pos, after, guard⟩ := o
 simp only [] at hnc hc he
 cases op <;> simp only [compO] at hc <;> try (cases hc; done)
 case panic x => injection hc with hc; subst hc; cases h
 case makeInterface t x => injection hc with hc; subst hc; cases h
 case move x =>
  simp only [Option.map_eq_some_iff] at hc
  obtain ⟨r, h1, rfl⟩ := hc
  simp only [evQ, Option.some.injEq, Prod.mk.injEq] at h
  obtain ⟨rfl, rfl⟩ := h
  exact out_val hH rfl (refOf_rel h1 he (by simp [Op.operands]))
 case assign x =>
  simp only [Option.map_eq_some_iff] at hc
  obtain ⟨r, h1, rfl⟩ := hc
  simp only [evQ, Option.some.injEq, Prod.mk.injEq] at h
  obtain ⟨rfl, rfl⟩ := h
  exact out_val hH rfl (refOf_rel h1 he (by simp [Op.operands]))
 case pick c x y =>
  simp only [Option.map_eq_some_iff, Option.bind_eq_some_iff] at hc
  obtain ⟨rc, h1, rx, h2, ry, h3, rfl⟩ := hc
  have hcr := refOf_rel h1 he (by simp [Op.operands])
  have hxr := refOf_rel h2 he (by simp [Op.operands])
  have hyr := refOf_rel h3 he (by simp [Op.operands])
  simp only [evQ] at h
  generalize rc.ev e = p at h hcr
  show QOut m ((do pure (Next.value (if ← asBool (a.eval c) then a.eval x else a.eval y)) : Sem Next).run P w) _ _ _ _ _ _ _ _
  generalize a.eval c = cv at hcr ⊢
  cases hcr <;> (try simp only [] at h) <;> try (cases h; done)
  rename_i t
  cases t <;> simp only [Option.some.injEq, Prod.mk.injEq] at h
  ·obtain ⟨rfl, rfl⟩ := h
   simp only [asBool, Sem.run_bind, Sem.run_pure, Result.andThen_ok]
   exact out_val (P := P) hH rfl hyr
  ·obtain ⟨rfl, rfl⟩ := h
   simp only [asBool, Sem.run_bind, Sem.run_pure, Result.andThen_ok]
   exact out_val (P := P) hH rfl hxr
 case alloc t =>
  simp only [Option.map_eq_some_iff] at hc
  obtain ⟨z, hz, rfl⟩ := hc
  obtain ⟨z1, z2, z3, z4⟩ := zOf_spec hz
  simp only [evQ, Option.some.injEq, Prod.mk.injEq] at h
  obtain ⟨rfl, rfl⟩ := h
  exact (sound_new ⟨z1, z2, z3⟩ hH (by simpa using hb 0 _ rfl) (by simpa using hn 0 (by simp))).out
 case box t x =>
  simp only [Option.map_eq_some_iff] at hc
  obtain ⟨r, h1, rfl⟩ := hc
  have hxr := refOf_rel h1 he (by simp [Op.operands])
  simp only [evQ] at h
  have key : ∀ c, (r.ev e).cellsC = some c → v = .ptr H.length 0 → news = [.cells false c] → QOut m ((execOp a.eval ⟨dst, .box t x, type, pos, after, guard⟩).run P w) H.length news.length Hb I O w ρ v := by
   intro c hcc hv hnw
   subst hv; subst hnw
   exact (sound_box hcc hxr hH (by simpa using hb 0 _ rfl) (by simpa using hn 0 (by simp))).out
  split at h
  ·rename_i c hr
   simp only [Option.some.injEq, Prod.mk.injEq] at h
   exact key c (by rw [hr]; rfl) h.1.symm h.2.symm
  ·rename_i hr
   split at h <;> try (cases h; done)
   rename_i hcell
   simp only [Option.some.injEq, Prod.mk.injEq] at h
   refine key (C.one (r.ev e)) ?_ h.1.symm h.2.symm
   generalize r.ev e = p at hcell hr
   cases p <;> first | rfl | (simp [V.isCell] at hcell; done) | (exact absurd rfl (hr _))
 case build t ps =>
  split at hc <;> try (cases hc; done)
  ·rename_i fs hd
   simp only [Option.map_eq_some_iff, Option.bind_eq_some_iff] at hc
   obtain ⟨z, hz, pl, hpl, l, hl, rfl⟩ := hc
   obtain ⟨z1, z2, z3, z4⟩ := zOf_spec hz
   obtain ⟨g, hg1, hg2⟩ := places_spec hpl
   simp only [evQ, Option.map_eq_some_iff, Prod.mk.injEq] at h
   obtain ⟨c, hpa, rfl, rfl⟩ := h
   have hpr := partsOf_rel (xs := (Op.build t ps).operands.toList) he hl (fun p hp => by simp [Op.operands]; exact ⟨p.1, by simpa using hp⟩)
   have hpr' : PRel m I w ρ ((fs.map g)[·]?) l (ps.map fun (i, x) => (i, a.eval x)).toList e := by
    have : (fun i : Nat => (fs.map g)[i]?) = (fun i : Nat => pl[i]?) := funext hg2
    rw [this, Array.toList_map]; exact hpr
   obtain ⟨cs, k1, k2⟩ := sound_build_struct hd ⟨z1, z2, z3⟩ hg1 hpr' hpa
   exact out_same hH ⟨rfl, _, k1, k2⟩
  ·rename_i n el hd
   simp only [Option.map_eq_some_iff, Option.bind_eq_some_iff] at hc
   obtain ⟨z, hz, j, hj, l, hl, rfl⟩ := hc
   obtain ⟨z1, z2, z3, z4⟩ := zOf_spec hz
   simp only [evQ, Option.map_eq_some_iff, Prod.mk.injEq] at h
   obtain ⟨c, hpa, rfl, rfl⟩ := h
   have hpr := partsOf_rel (xs := (Op.build t ps).operands.toList) he hl (fun p hp => by simp [Op.operands]; exact ⟨p.1, by simpa using hp⟩)
   have hpr' : PRel m I w ρ (fun k => some (k * j.size, j.size)) l (ps.map fun (i, x) => (i, a.eval x)).toList e := by
    rw [Array.toList_map]; exact hpr
   obtain ⟨cs, k1, k2⟩ := sound_build_array hd ⟨z1, z2, z3⟩ hj hpr' hpa
   exact out_same hH ⟨rfl, _, k1, k2⟩
 case buildSlice t len ps =>
  split at hc <;> try (cases hc; done)
  rename_i el hd
  simp only [Option.map_eq_some_iff, Option.bind_eq_some_iff] at hc
  obtain ⟨z, hz, c, hcc, l, hl, rfl⟩ := hc
  obtain ⟨z1, z2, z3, z4⟩ := zOf_spec hz
  have hpr := partsOf_rel (xs := (Op.buildSlice t len ps).operands.toList) he hl (fun p hp => by simp [Op.operands]; exact ⟨p.1, by simpa using hp⟩)
  have hpr' : PRel m I w ρ (fun k => some (k * z.1.size, z.1.size)) l (ps.map fun (i, x) => (i, a.eval x)).toList e := by
   rw [Array.toList_map]; exact hpr
  have hn1 : 0 < news.length := by
   simp only [evQ, Option.bind_eq_some_iff] at h
   obtain ⟨c, _, h⟩ := h
   split at h <;> try (cases h; done)
   simp only [Option.some.injEq, Prod.mk.injEq] at h
   rw [← h.2]; simp
  exact (sound_bsl hd z1 z2 z4 hcc hH hpr' h hb (by simpa using hn 0 hn1)).out
 case load t x =>
  split at hc <;> try (cases hc; done)
  rename_i d hd
  split at hc
  ·rename_i hagg
   simp only [Option.map_eq_some_iff, Option.bind_eq_some_iff] at hc
   obtain ⟨i, hi, r, h1, rfl⟩ := hc
   exact out_same hH (sound_lda (H := H) hd hagg hi hp hH (refOf_rel h1 he (by simp [Op.operands])) h)
  ·rename_i hagg
   simp only [Option.map_eq_some_iff] at hc
   obtain ⟨r, h1, rfl⟩ := hc
   exact out_same hH (sound_ldc (H := H) hd (by simpa using hagg) hp hH (refOf_rel h1 he (by simp [Op.operands])) h)
 case store t x y =>
  simp only [Option.map_eq_some_iff, Option.bind_eq_some_iff] at hc
  obtain ⟨_, _, _, _, _, _, rfl⟩ := hc
  simp [evQ] at h
 case nilCheck x =>
  simp only [Option.map_eq_some_iff] at hc
  obtain ⟨r, h1, rfl⟩ := hc
  have hxr := refOf_rel h1 he (by simp [Op.operands])
  obtain ⟨rfl, rfl, hx⟩ := sound_nilc (H := H) hxr h
  have hrun : (execOp a.eval ⟨dst, .nilCheck x, type, pos, after, guard⟩).run P w = .ok (.value (a.eval x)) w := by
   rcases hx with ⟨ad, hx⟩ | ⟨f, cs, hx⟩ <;> simp [execOp, hx, pure, Sem.run]
  rw [hrun]
  exact out_val (P := P) hH rfl hxr
 case binOp op t x y yt =>
  simp only [Option.bind_eq_some_iff] at hc
  obtain ⟨ra, h1, rb, h2, hc⟩ := hc
  have hxr := refOf_rel h1 he (by simp [Op.operands])
  have hyr := refOf_rel h2 he (by simp [Op.operands])
  have bin : oc = .bin op ra rb → QOut m ((execOp a.eval ⟨dst, .binOp op t x y yt, type, pos, after, guard⟩).run P w) H.length news.length Hb I O w ρ v := by
   intro hoc; subst hoc
   simp only [evQ, Option.map_eq_some_iff, Prod.mk.injEq] at h
   obtain ⟨v', hv, rfl, rfl⟩ := h
   obtain ⟨z, k1, k2⟩ := sound_bin (P := P) (w := w) hv hxr hyr t
   refine out_same (s := do eqGuard op t x y (a.eval x) (a.eval y); binOp op t (a.eval x) (a.eval y)) hH ⟨rfl, z, run_binG ?_ k1, k2⟩
   have hne : (∀ c, a.eval x ≠ .agg c) ∧ a.eval x ≠ .nilIface := by
    generalize ra.ev e = p at hxr hv
    generalize a.eval x = X at hxr
    cases hxr <;> first | (simp [vbin] at hv; done) | (exact ⟨fun c => by simp, by simp⟩)
   exact run_eqG hne.1 hne.2
  split at hc
  ·rename_i hop
   simp only [Option.bind_eq_some_iff] at hc
   obtain ⟨d, hd, hc⟩ := hc
   split at hc
   ·injection hc with hc; exact bin hc.symm
   ·injection hc with hc; exact bin hc.symm
   ·split at hc
    ·rename_i tg htg
     injection hc with hc; subst hc
     simp only [evQ, Option.map_eq_some_iff, Prod.mk.injEq] at h
     obtain ⟨b, hv, rfl, rfl⟩ := h
     obtain ⟨n1, n2, n3, n4, n5, n6, k1⟩ := sound_eq (P := P) (w := w) hd (tagOf_spec htg) hp hH hv hxr hyr
     have hg := run_eqG (P := P) (w := w) (op := op) (xt := t) (xo := x) (yo := y) (y := a.eval y) n1 n2
     have hbin : (binOp op t (a.eval x) (a.eval y)).run P w = .ok (.bool (if decide (op = .neq) then !b else b)) w := by
      rcases hop with rfl | rfl
      ·have : binOp .eql t (a.eval x) (a.eval y) = (do pure (.bool (← Op.equal t (a.eval x) (a.eval y)))) := by
        generalize a.eval x = X at n1 n2 n3 n4 n5 n6
        generalize a.eval y = Y
        unfold binOp
        split <;> first | rfl | (exact absurd rfl (n3 _ _)) | (exact absurd rfl (n4 _)) | (exact absurd rfl (n5 _ _)) | (exact absurd rfl (n6 _ _ _)) | (simp_all; done)
       rw [this]
       simp [k1, pure, Sem.run]
      ·have : binOp .neq t (a.eval x) (a.eval y) = (do pure (.bool (!(← Op.equal t (a.eval x) (a.eval y))))) := by
        generalize a.eval x = X at n1 n2 n3 n4 n5 n6
        generalize a.eval y = Y
        unfold binOp
        split <;> first | rfl | (exact absurd rfl (n3 _ _)) | (exact absurd rfl (n4 _)) | (exact absurd rfl (n5 _ _)) | (exact absurd rfl (n6 _ _ _)) | (simp_all; done)
       rw [this]
       simp [k1, pure, Sem.run]
     exact out_same (s := do eqGuard op t x y (a.eval x) (a.eval y); binOp op t (a.eval x) (a.eval y)) hH ⟨rfl, _, run_binG hg hbin, .bool _ _⟩
    ·split at hc <;> try (cases hc; done)
     rename_i hgt
     simp only [Option.map_eq_some_iff] at hc
     obtain ⟨n, hn', rfl⟩ := hc
     simp only [evQ] at h
     generalize ra.ev e = p at hxr h
     generalize rb.ev e = q at hyr h
     split at h <;> try (cases h; done)
     rename_i k1 l1 k2 l2
     split at h <;> try (cases h; done)
     rename_i hl
     obtain ⟨rfl, hl1, hl2⟩ := hl
     simp only [Option.some.injEq, Prod.mk.injEq] at h
     obtain ⟨rfl, rfl⟩ := h
     have ex := agg_ints hxr
     have ey := agg_ints hyr
     have hrun : (Op.equalIn 10000 t (.agg (l1.map (Value.int k1)).toArray) (.agg (l2.map (Value.int k1)).toArray)).run P w = .ok (l1 == l2) w := by
      unfold intsOr at hn'
      split at hn'
      ·rename_i n1 hi
       injection hn' with hn'; subst hn'
       unfold intsOf at hi
       split at hi <;> try (cases hi; done)
       rename_i n' el
       split at hi <;> try (cases hi; done)
       rename_i k i hel hi0
       split at hi <;> try (cases hi; done)
       rename_i hi1
       injection hi with hi; subst hi
       exact eqa_run (P := P) (w := w) (k' := k1) hd hel hi0 hi1 hl1 hl2 9998
      ·unfold structInts at hn'
       split at hn' <;> try (cases hn'; done)
       split at hn' <;> try (cases hn'; done)
       rename_i hp
       exact eqs_run (P := P) (w := w) (k' := k1) hd (by simpa using hp) hn' hl1 hl2 9997
     have hg : (eqGuard op t x y (a.eval x) (a.eval y)).run P w = .ok () w := by
      rw [ex, ey]; exact run_eqGuard_agg w op t x y _ _ (by simpa using hgt)
     have hbin : (binOp op t (a.eval x) (a.eval y)).run P w = .ok (.bool (if decide (op = .neq) then !(l1 == l2) else l1 == l2)) w := by
      rw [ex, ey]
      rcases hop with rfl | rfl
      ·rw [run_eql_struct, hrun]; rfl
      ·rw [run_neq_struct, hrun]; rfl
     exact out_same (s := do eqGuard op t x y (a.eval x) (a.eval y); binOp op t (a.eval x) (a.eval y)) hH ⟨rfl, _, run_binG hg hbin, .bool _ _⟩
  ·injection hc with hc; exact bin hc.symm
 case unOp op t x =>
  simp only [Option.map_eq_some_iff] at hc
  obtain ⟨r, h1, rfl⟩ := hc
  have hxr := refOf_rel h1 he (by simp [Op.operands])
  simp only [evQ, Option.map_eq_some_iff, Prod.mk.injEq] at h
  obtain ⟨v', hv, rfl, rfl⟩ := h
  exact out_same hH ⟨rfl, sound_un hv hxr⟩
 case convert s d x =>
  split at hc <;> try (cases hc; done)
  ·rename_i ks k hs hd
   simp only [Option.map_eq_some_iff] at hc
   obtain ⟨r, h1, rfl⟩ := hc
   exact out_same hH (sound_cvi (H := H) hs hd (refOf_rel h1 he (by simp [Op.operands])) h)
  ·rename_i el hs hd
   split at hc <;> try (cases hc; done)
   rename_i hel
   simp only [Option.map_eq_some_iff] at hc
   obtain ⟨r, h1, rfl⟩ := hc
   obtain ⟨rfl, hq⟩ := sound_s2b (H := H) (Hb := Hb) (P := P) hs hd hel hH (refOf_rel h1 he (by simp [Op.operands])) h
   exact hq.out
  ·rename_i el hs hd
   split at hc <;> try (cases hc; done)
   rename_i hel
   simp only [Option.map_eq_some_iff] at hc
   obtain ⟨r, h1, rfl⟩ := hc
   exact out_same hH (sound_b2s (H := H) hs hel hd hp hH (refOf_rel h1 he (by simp [Op.operands])) h)
  ·split at hc <;> try (cases hc; done)
   split at hc <;> try (cases hc; done)
   simp only [Option.map_eq_some_iff] at hc
   obtain ⟨r, h1, rfl⟩ := hc
   simp [evQ] at h
 case sliceToArrayPointer t x =>
  split at hc <;> try (cases hc; done)
  rename_i n el hd
  simp only [Option.map_eq_some_iff] at hc
  obtain ⟨r, h1, rfl⟩ := hc
  exact out_same hH (sound_s2a (H := H) hd (refOf_rel h1 he (by simp [Op.operands])) h)
 case makeFunc fn first caps =>
  cases fn <;> simp only [compO] at hc <;> try (cases hc; done)
  rename_i f
  split at hc <;> try (cases hc; done)
  rename_i hfe
  simp only [Option.map_eq_some_iff, Option.bind_eq_some_iff] at hc
  obtain ⟨g, hg, rs, hrs, rfl⟩ := hc
  simp only [evQ, Option.some.injEq, Prod.mk.injEq] at h
  obtain ⟨rfl, rfl⟩ := h
  obtain ⟨k1, k2⟩ := mapM_rel (xs := (Op.makeFunc (.func f) first caps).operands.toList) he hrs (fun x hx => by simp [Op.operands]; exact .inr (by simpa using hx))
  have hf0 : first = #[] := by simpa using hfe
  subst hf0
  refine out_same (s := Instr.makeFunc (.func f) ((#[] : Array Operand).map a.eval) (caps.map a.eval)) hH ⟨rfl, .func (.func f) #[] (caps.map a.eval), by simp [Instr.makeFunc, pure, Sem.run], .fn _ _ _ _ _ hg ?_ (fun j p x hp hx => k2 j p x hp ?_)⟩
  ·simpa using k1.symm
  ·rw [← Array.getElem?_toList] at hx; simpa using hx
 case makeSlice t l c =>
  split at hc <;> try (cases hc; done)
  rename_i el hd
  simp only [Option.map_eq_some_iff, Option.bind_eq_some_iff] at hc
  obtain ⟨z, hz, ra, h1, rb, h2, rfl⟩ := hc
  obtain ⟨z1, z2, z3, z4⟩ := zOf_spec hz
  have hn1 : 0 < news.length := by
   simp only [evQ] at h
   split at h <;> try (cases h; done)
   split at h <;> try (cases h; done)
   split at h <;> try (cases h; done)
   simp only [Option.map_eq_some_iff, Prod.mk.injEq] at h
   obtain ⟨_, _, _, h⟩ := h
   rw [← h]; simp
  exact (sound_mks hd ⟨z1, z2, z3⟩ z4 (refOf_rel h1 he (by simp [Op.operands])) (refOf_rel h2 he (by simp [Op.operands])) hH ⟨H, rfl, h⟩ hb (by simpa using hn 0 hn1)).out
 case slice t x lo hi mx =>
  simp only [Option.bind_eq_some_iff] at hc
  obtain ⟨r, h1, l, h2, k, h3, k', h4, hc⟩ := hc
  have hxr := refOf_rel h1 he (by simp [Op.operands])
  have hlr := optR_rel h2 he (fun y hy => by subst hy; simp [Op.operands])
  have hhr := optR_rel h3 he (fun y hy => by subst hy; simp [Op.operands])
  have hmr := optR_rel h4 he (fun y hy => by subst hy; simp [Op.operands])
  split at hc <;> try (cases hc; done)
  ·rename_i hd
   split at hc <;> try (cases hc; done)
   rename_i hmx
   have : mx = none := by simpa using hmx
   subst this
   injection hc with hc; subst hc
   refine out_same (s := Instr.sliceAt t (a.eval x) (lo.map a.eval) (hi.map a.eval) none) hH (sound_ssl (H := H) hd hxr hlr hhr ?_)
   simp only [evQ, opt_c, Option.isSome_map, Option.isNone_map] at h ⊢
   exact h
  ·rename_i el hd
   simp only [Option.map_eq_some_iff] at hc
   obtain ⟨i, hi', rfl⟩ := hc
   refine out_same hH (sound_sls (H := H) hd hi' hxr hlr hhr hmr ?_)
   simp only [evQ, opt_c, Option.isSome_map, Option.isNone_map] at h ⊢
   exact h
  ·rename_i n el hd
   simp only [Option.map_eq_some_iff] at hc
   obtain ⟨i, hi', rfl⟩ := hc
   refine out_same hH (sound_sla (H := H) hd hi' hxr hp hH hlr hhr hmr ?_)
   simp only [evQ, opt_c, Option.isSome_map, Option.isNone_map] at h ⊢
   exact h
 case fieldAddr s x k =>
  split at hc <;> try (cases hc; done)
  rename_i fs hd
  simp only [Option.bind_eq_some_iff] at hc
  obtain ⟨f, hf, i, hi, hc⟩ := hc
  split at hc <;> try (cases hc; done)
  rename_i hz
  simp only [Option.map_eq_some_iff] at hc
  obtain ⟨r, h1, rfl⟩ := hc
  exact out_same hH (sound_fad (H := H) hd hf hi hz (refOf_rel h1 he (by simp [Op.operands])) h)
 case field s x k =>
  split at hc <;> try (cases hc; done)
  rename_i fs hd
  simp only [Option.bind_eq_some_iff, Option.map_eq_some_iff] at hc
  obtain ⟨f, hf, d, hd', i, hi, r, h1, rfl⟩ := hc
  exact out_same hH (sound_fld (H := H) hd hf hd' hi (refOf_rel h1 he (by simp [Op.operands])) h)
 case indexAddr t x i =>
  split at hc <;> try (cases hc; done)
  ·rename_i el hd
   simp only [Option.bind_eq_some_iff, Option.map_eq_some_iff] at hc
   obtain ⟨j, hj, ra, h1, rb, h2, rfl⟩ := hc
   exact out_same hH (sound_iad (H := H) hd hj (refOf_rel h1 he (by simp [Op.operands])) (refOf_rel h2 he (by simp [Op.operands])) h)
  ·rename_i n el hd
   simp only [Option.bind_eq_some_iff, Option.map_eq_some_iff] at hc
   obtain ⟨j, hj, ra, h1, rb, h2, rfl⟩ := hc
   exact out_same hH (sound_iaa (H := H) hd hj (refOf_rel h1 he (by simp [Op.operands])) (refOf_rel h2 he (by simp [Op.operands])) h)
 case index t x i =>
  split at hc <;> try (cases hc; done)
  ·rename_i hd
   simp only [Option.bind_eq_some_iff, Option.map_eq_some_iff] at hc
   obtain ⟨ra, h1, rb, h2, rfl⟩ := hc
   exact out_same hH (sound_ixs (H := H) hd (refOf_rel h1 he (by simp [Op.operands])) (refOf_rel h2 he (by simp [Op.operands])) h)
  ·rename_i n el hd
   simp only [Option.bind_eq_some_iff, Option.map_eq_some_iff] at hc
   obtain ⟨d, hd', j, hj, ra, h1, rb, h2, rfl⟩ := hc
   exact out_same hH (sound_ixa (H := H) hd hd' hj (refOf_rel h1 he (by simp [Op.operands])) (refOf_rel h2 he (by simp [Op.operands])) h)
 case range t x =>
  split at hc <;> try (cases hc; done)
  rename_i hd
  simp only [Option.map_eq_some_iff] at hc
  obtain ⟨r, h1, rfl⟩ := hc
  have hn1 : 0 < news.length := by
   simp only [evQ] at h
   split at h <;> try (cases h; done)
   simp only [Option.some.injEq, Prod.mk.injEq] at h
   rw [← h.2]; simp
  exact (sound_rng hd hH (refOf_rel h1 he (by simp [Op.operands])) h hb (by simpa using hn 0 hn1)).out
 case next x b =>
  cases b <;> simp only [compO] at hc <;> try (cases hc; done)
  simp only [Option.map_eq_some_iff] at hc
  obtain ⟨_, _, rfl⟩ := hc
  simp [evQ] at h
 case extract x i =>
  simp only [Option.map_eq_some_iff] at hc
  obtain ⟨r, h1, rfl⟩ := hc
  exact out_same hH (sound_ext (H := H) (refOf_rel h1 he (by simp [Op.operands])) h)
 case call c =>
  obtain ⟨callee, args, ts⟩ := c
  cases callee <;> simp only [] at hc <;> try (cases hc; done)
  ·simp [notCall] at hnc
  ·rename_i b
   have : (execOp a.eval ⟨dst, .call ⟨.builtin b, args, ts⟩, type, pos, after, guard⟩).run P w = (builtin b ts type (args.map fun | .const _ => true | _ => false) (args.map a.eval)).run P w := by
    simp only [execOp, resolve, Sem.run_bind, Sem.run_pure, Result.andThen_ok, invoke]
    rfl
   rw [this]
   exact quiet_builtin hc (fun t ht => he t (by simpa [Op.operands, Call.operands] using ht)) hp hH h hb hn
end Go.Proofs.YtchoafdpckknmaaDoorE
