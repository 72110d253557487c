/- Operations and calls, quiet and not. -/
import Derived.Test.YtgjbkgajkcgdfaaEvN
namespace Go.Proofs.YtgjbkgajkcgdfaaE
open Go
set_option linter.unusedSimpArgs false
set_option linter.unusedVariables false
variable {P : Program} {w : World} {m : Nat → Option Nat} {I O : Nat → Prop} {ρ : Pl} {H H' Hb : List Blk} {v : V} {e : Env} {a : Act} {call : CallF} {own : Nat → Bool}

structure Parts (call : CallF) (own : Nat → Bool) (g : Nat) (all : List V) (H H' : List Blk) (v : V) (q : Bool) where
  L : List Nat
  FL : List Nat
  ys : List V
  zs : List V
  Hc : List Blk
  Hc' : List Blk
  r : V
  HbN : List Blk
  fr : Bool
  nodup : L.Nodup
  apart : ∀ i, i ∈ FL → i ∉ L
  lt : ∀ i, i ∈ L → i < H.length
  lent : (ys = all) ∨ all.mapM (lend H FL deep) = some ys
  args : ys.mapM (ren (idx L) deep) = some zs
  heap : (L.mapM fun i => (H[i]?).bind (renB (idx L) deep)) = some Hc
  run : call g zs Hc = some (r, Hc')
  len : L.length ≤ Hc'.length
  res : ren (backN L H.length) deep r = some v
  back : Hc'.mapM (renB (backN L H.length) deep) = some HbN
  fr1 : fr = false → hasRs deep r = false
  fr2 : fr = false → Hc'.any hasRsB = false
  quiet : q = true → L = [] ∧ fr = false ∧ H' = H ++ HbN
  loud : q = false → H' = putBack (if fr then freeze FL H else H) (L.zip (HbN.take L.length)) ++ HbN.drop L.length

theorem callEv_parts {f : V} {xs : List V} {q : Bool} (h : callEv call own f xs H = some (v, H', q)) : ∃ g caps, f = .fn g caps ∧ Nonempty (Parts call own g (xs ++ caps) H H' v q) := by
  cases f <;> try (cases h; done)
  rename_i g caps
  refine ⟨g, caps, rfl, ?_⟩
  simp only [callEv, Option.bind_eq_some_iff] at h
  generalize (if own g = true then xs ++ caps else (xs ++ caps).filter byId) = kp at h
  generalize hL : reach H far kp [] = L at h
  have hnd : L.Nodup := by rw [← hL]; exact (reach_spec far kp [] List.nodup_nil).1
  generalize hFL : (reach H far (xs ++ caps) []).filter (fun i => !L.contains i) = FL at h
  obtain ⟨zs, ⟨ys, h1, h2⟩, Hc, h3, ⟨r, Hc'⟩, h4, h5⟩ := h
  simp only [] at h5
  split at h5 <;> try (cases h5; done)
  rename_i hlen
  simp only [Option.bind_eq_some_iff, Option.map_eq_some_iff] at h5
  obtain ⟨r', h6, HbN, h7, h8⟩ := h5
  have hlt : ∀ i, i ∈ L → i < H.length := by
    intro i hi
    obtain ⟨k, hk⟩ := List.mem_iff_getElem?.1 hi
    obtain ⟨q1, q2⟩ := mapM_get h3
    have hkl : k < L.length := (List.getElem?_eq_some_iff.1 hk).1
    have := q2 k i Hc[k] hk (List.getElem?_eq_getElem (by omega))
    simp only [Option.bind_eq_some_iff] at this
    obtain ⟨b, hb, _⟩ := this
    exact (List.getElem?_eq_some_iff.1 hb).1
  have hap : ∀ i, i ∈ FL → i ∉ L := by
    intro i hi
    rw [← hFL] at hi
    simp only [List.mem_filter, Bool.not_eq_true', List.contains_eq_mem, decide_eq_false_iff_not] at hi
    exact hi.2
  have hys : ys = xs ++ caps ∨ (xs ++ caps).mapM (lend H FL deep) = some ys := by
    split at h1
    · injection h1 with h1; exact .inl h1.symm
    · exact .inr h1
  split at h8
  · rename_i hc
    simp only [Prod.mk.injEq] at h8
    obtain ⟨rfl, rfl, rfl⟩ := h8
    simp only [Bool.and_eq_true, Bool.not_eq_true', Bool.or_eq_false_iff, List.isEmpty_iff] at hc
    exact ⟨⟨L, FL, ys, zs, Hc, Hc', r, HbN, false, hnd, hap, hlt, hys, h2, h3, h4, by omega, h6, h7, fun _ => hc.2.1, fun _ => hc.2.2, fun _ => ⟨hc.1, rfl, rfl⟩, fun h => (by cases h)⟩⟩
  · simp only [Prod.mk.injEq] at h8
    obtain ⟨rfl, rfl, rfl⟩ := h8
    refine ⟨⟨L, FL, ys, zs, Hc, Hc', r, HbN, hasRs deep r || Hc'.any hasRsB, hnd, hap, hlt, hys, h2, h3, h4, by omega, h6, h7, fun h => ?_, fun h => ?_, fun h => (by cases h), fun _ => rfl⟩⟩
    · simp only [Bool.or_eq_false_iff] at h; exact h.1
    · simp only [Bool.or_eq_false_iff] at h; exact h.2

theorem Parts.after {g f : Nat} {all : List V} {q : Bool} (p : Parts call own g all H H' v q) (hcall : CallSnd P m call) (hm : m f = some g) (hp : ∀ (i : Nat) (b : Blk), H[i]? = some b → Hb[i]? = some b) (hH : HRel m I O w ρ Hb) {xs : Array Value} (hx : RelVs m I w ρ all xs.toList) :
    Body P f ∧ Calls P f xs w (fun e w' => ∃ x I' O' ρ', e = .returned x ∧ RelV m I' w' ρ' p.r x ∧ After p.L I O w ρ H Hb p.Hc p.FL m I' O' w' ρ' p.Hc') := by
  obtain ⟨k1, k2⟩ := call_heap hp hH p.apart p.nodup p.heap
  have hy : RelVs m (lentI I ρ H p.FL) w ρ p.ys xs.toList := by
    rcases p.lent with h | h
    · rw [h]; exact ⟨hx.1, fun j v x hv hx' => (hx.2 j v x hv hx').toI (fun _ h => .inl h)⟩
    · exact hx.mapM_lend hp hH h
  have hz : RelVs m (lentI I ρ H p.FL) w (plL p.L ρ) p.zs xs.toList := hy.mapM_ren (fun b b' r h hr => plL_idx b b' r h hr) p.args
  obtain ⟨c1, c2⟩ := hcall f g p.zs p.Hc p.Hc' p.r hm p.run _ _ w _ xs hz k1
  refine ⟨c1, Calls.mono c2 (fun e w' he => ?_)⟩
  obtain ⟨x, I', O', ρ', h1, h2, h3, h4⟩ := he
  rw [k2] at h4
  exact ⟨x, I', O', ρ', h1, h2, h3, h4⟩

theorem Parts.live {g : Nat} {all : List V} {q : Bool} (p : Parts call own g all H H' v q) (hp : ∀ (i : Nat) (b : Blk), H[i]? = some b → Hb[i]? = some b) : ∀ j, live p.Hc j → ∃ i, p.L[j]? = some i ∧ live Hb i := by
  intro j ⟨b, hb, hd⟩
  obtain ⟨i, h1, h2⟩ := mapM_get' p.heap hb
  simp only [Option.bind_eq_some_iff] at h2
  obtain ⟨b0, h3, h4⟩ := h2
  exact ⟨i, h1, b0, hp _ _ h3, fun e => hd ((renB_dead h4).2 e)⟩

theorem call_op {o : Oper} {oc : EOp} (hn : notCall o.op = false) (hc : compO P m o.op = some oc) : ∃ dst fo xs ats ty pos af gu g l, o = ⟨dst, .call ⟨.value fo, xs, ats⟩, ty, pos, af, gu⟩ ∧ oc = .call g l ∧ refOf m fo = some g ∧ xs.toList.mapM (refOf m) = some l := by
  obtain ⟨dst, op, ty, pos, af, gu⟩ := o
  simp only [] at hn hc
  cases op <;> simp only [notCall] at hn <;> try (cases hn; done)
  rename_i c
  obtain ⟨callee, xs, ats⟩ := c
  cases callee <;> simp only [] at hn <;> try (cases hn; done)
  rename_i fo
  simp only [compO, Option.bind_eq_some_iff, Option.map_eq_some_iff] at hc
  obtain ⟨g, h1, l, h2, rfl⟩ := hc
  exact ⟨dst, fo, xs, ats, ty, pos, af, gu, g, l, rfl, rfl, h1, h2⟩
theorem notCall_op {o : Oper} {oc : EOp} (hn : notCall o.op = true) (hc : compO P m o.op = some oc) : ∀ g l, oc ≠ .call g l := by
  intro g l e
  subst e
  obtain ⟨dst, op, ty, pos, af, gu⟩ := o
  simp only [] at hn hc
  cases op
  case binOp op t x y yt =>
    simp only [compO, Option.bind_eq_some_iff] at hc
    obtain ⟨_, _, _, _, hc⟩ := hc
    split at hc
    · simp only [Option.bind_eq_some_iff] at hc
      obtain ⟨d, _, hc⟩ := hc
      split at hc
      · cases hc
      · cases hc
      · split at hc
        · cases hc
        · split at hc
          · cases hc
          · simp [Option.map_eq_some_iff] at hc
    · cases hc
  case call c =>
    obtain ⟨callee, xs, ats⟩ := c
    cases callee
    · simp [notCall] at hn
    · cases hc
    · simp only [compO, compBuiltin] at hc
      (repeat' split at hc) <;> (try simp only [Option.bind_eq_some_iff, Option.map_eq_some_iff] at hc) <;> (try (cases hc; done)) <;> grind [Option.map_eq_some_iff]
  all_goals simp only [compO, compBuiltin] at hc <;> (repeat' split at hc) <;> (try simp only [Option.bind_eq_some_iff, Option.map_eq_some_iff] at hc) <;> (try (cases hc; done)) <;> (try (simp [notCall] at hn; done)) <;> grind [Option.map_eq_some_iff]

/-- a quiet operation, in whatever order -/
theorem op_quiet {o : Oper} {oc : EOp} (hcall : CallSnd P m call) (hc : compO P m o.op = some oc) (he : ORel m I w ρ e a o.op.operands.toList) (hH : HRel m I O w ρ Hb)
    (h : evOp call own oc e H = some (v, H', true)) (hp : ∀ (i : Nat) (b : Blk), H'[i]? = some b → Hb[i]? = some b) (hn : ∀ i, H.length ≤ i → i < H'.length → ρ i = none) :
    Goes P o a w (fun x w' => ∃ I' O' ρ', RelV m I' w' ρ' v x ∧ HRel m I' O' w' ρ' Hb ∧ Grow H.length H'.length I O w ρ I' O' w' ρ') := by
  by_cases hnc : notCall o.op = true
  · have hncc := notCall_op hnc hc
    have hq : ∃ news, evQ oc e H = some (v, news) ∧ H' = H ++ news := by
      have h' : (match evQ oc e H with | some (v, news) => some (v, H ++ news, true) | none => (evE oc e H).map fun (v, H) => (v, H, false)) = some (v, H', true) := by
        cases oc <;> first | exact h | exact absurd rfl (hncc _ _)
      cases hq : evQ oc e H with
      | none => rw [hq] at h'; simp at h'
      | some r =>
        obtain ⟨v1, n1⟩ := r
        rw [hq] at h'
        simp only [Option.some.injEq, Prod.mk.injEq, and_true] at h'
        obtain ⟨rfl, rfl⟩ := h'
        exact ⟨n1, rfl, rfl⟩
    obtain ⟨news, h1, rfl⟩ := hq
    have hq := quiet_op hnc hc he (fun i b hb => hp i b (by rw [List.getElem?_append_left (List.getElem?_eq_some_iff.1 hb).1]; exact hb)) hH h1
      (fun j b hb => hp _ b (by rw [List.getElem?_append_right (by omega)]; simpa using hb)) (fun j hj => hn _ (by omega) (by simp; omega))
    obtain ⟨z, w', I', O', ρ', q1, q2, q3, q4⟩ := hq
    exact goes_value q1 ⟨I', O', ρ', q2, q3, by rw [List.length_append]; exact q4⟩
  · obtain ⟨dst, fo, xs, ats, ty, pos, af, gu, g, l, rfl, rfl, h1, h2⟩ := call_op (by simpa using hnc) hc
    have hc' : callEv call own (g.ev e) (l.map (R.ev e)) H = some (v, H', true) := h
    obtain ⟨gf, caps, hfv, ⟨p⟩⟩ := callEv_parts hc'
    have hfo := refOf_rel h1 he (operands_call fo (.inl rfl))
    rw [hfv] at hfo
    generalize hF : a.eval fo = F at hfo
    cases hfo with
    | fn _ _ f _ cs hm hs hf =>
      have hp0 : ∀ (i : Nat) (b : Blk), H[i]? = some b → Hb[i]? = some b := fun i b hb => hp i b (by
        obtain ⟨_, _, e⟩ := p.quiet rfl
        rw [e, List.getElem?_append_left (List.getElem?_eq_some_iff.1 hb).1]; exact hb)
      obtain ⟨k1, k2⟩ := p.after hcall hm hp0 hH (call_args h2 he hs hf)
      refine goes_call hF k1 (Calls.mono k2 (fun e w' he => ?_))
      obtain ⟨x, I', O', ρ', rfl, r1, r2⟩ := he
      refine ⟨x, rfl, ?_⟩
      have hlive := p.live hp0
      obtain ⟨L, FL, ys, zs, Hc, Hc', r, HbN, fr, nodup, apart, lt, lent, args, heap, run, len, res, back, fr1, fr2, quiet, loud⟩ := p
      simp only [] at r1 r2 hp hn hlive
      obtain ⟨hL, hfr, hH'⟩ := quiet rfl
      subst hL hfr hH'
      have hHc : Hc = [] := by simpa using heap.symm
      have hq := r2.quiet hp0 hH (fr2 rfl) back hHc (fun j b hb => hp _ b (by rw [List.getElem?_append_right (by omega)]; simpa using hb)) (fun j hj => hn _ (by omega) (by simp; omega))
      have hl := (mapM_get back).1
      exact ⟨_, _, _, r2.val rfl (n := HbN.length) (by simp [hl]) (by simp) fr1 res r1, hq.1, by rw [List.length_append]; exact hq.2⟩
end Go.Proofs.YtgjbkgajkcgdfaaE
