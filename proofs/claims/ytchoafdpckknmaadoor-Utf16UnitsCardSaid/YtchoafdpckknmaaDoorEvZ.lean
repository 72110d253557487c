/- Functions. -/
import Derived.Test.YtchoafdpckknmaaDoorEvY
namespace Go.Proofs.YtchoafdpckknmaaDoorE
open Go
set_option linter.unusedSimpArgs false
set_option linter.unusedVariables false
variable {P : Program} {w : World} {m : Nat → Option Nat} {I O : Nat → Prop} {ρ : Pl} {H H' Hb : List Blk} {v : V} {e e' : Env} {a : Act} {call : CallF} {own : Nat → Mode} {n0 nt : Nat} {Q : Exit → Act → World → Prop}

inductive ResOK (P : Program) : ResultVar → Res → Prop
 | tmp (t : Nat) : ResOK P (.tmp t) (.tmp t)
 | cell (t ty n : Nat) (agg : Bool) (k : Option IntKind) (d : TypeDesc) (i : TypeInfo) (h1 : P.underlying ty = some d) (h2 : isAggD d = agg) (h3 : P.info? ty = some i) (h4 : i.size = n) : ResOK P (.cell t ty) (.cell t n agg k)

/-- code that does at least what other code does -/
def Refines (k k' : K) : Prop := ∀ (call : CallF) (own : Nat → Mode) (n0 n : Nat) (s : St) (r : Ex) (s1 : St), ev call own n0 n k' s = some (r, s1) → (r = .norm ∨ r = .ret) → ∃ n', ev call own n0 n' k s = some (r, s1)
theorem Refines.refl (k : K) : Refines k k := fun _ _ _ n _ _ _ h _ => ⟨n, h⟩
structure FunOK (P : Program) (m : Nat → Option Nat) (pf : Func) (fn : Fun) : Prop where
 nt : pf.ntmps = fn.ntmps
 res : All2 (ResOK P) pf.results.toList fn.res
 name : pf.name ≠ "runtime.NumGoroutine"
 body : ∃ c k, pf.body = some c ∧ Comp P m pf.ntmps c k ∧ Refines k fn.body

def Link (P : Program) (m : Nat → Option Nat) (F : Nat → Option Fun) : Prop := ∀ f g fn, m f = some g → F g = some fn → ∃ pf, P.funcs[f]? = some pf ∧ FunOK P m pf fn

def XSnd (P : Program) (m : Nat → Option Nat) (F : Nat → Option Fun) (X : Nat → List V → Option (V × List Blk)) : Prop :=
 ∀ (f g : Nat) (xs : List V) (H' : List Blk) (r : V), m f = some g → F g = none → X g xs = some (r, H') →
  ∀ (I O : Nat → Prop) (w : World) (ρ : Pl) (ys : Array Value), RelVs m I w ρ xs ys.toList → HRel m I O w ρ [] →
   CallRuns P f ys w (fun e w' => ∃ x I' O' ρ', e = .returned x ∧ RelV m I' w' ρ' r x ∧ HRel m I' O' w' ρ' H' ∧ CG 0 I O w ρ [] I' O' w' ρ' H')

def resRun (tmps : Array Value) : ResultVar → Sem Value
 | .tmp t => pure (tmps.getD t undef)
 | .cell b t => do loadVar t (← asAddr (tmps.getD b undef))

theorem run_res {rv : ResultVar} {rs : Res} {v : V} (h : ResOK P rv rs) (hS : SRel m nt n0 I O w ρ e H a) (hv : resOf e H rs = some v) :
  ∃ x, (resRun a.tmps rv).run P w = .ok x w ∧ RelV m I w ρ v x := by
 cases h with
 | tmp t =>
  simp only [resOf, Option.some.injEq] at hv
  subst hv
  exact ⟨_, rfl, hS.env t⟩
 | cell t ty n agg k d i h1 h2 h3 h4 =>
  simp only [resOf] at hv
  have hr := hS.env t
  have hrun : resRun a.tmps (.cell t ty) = (do loadVar ty (← asAddr (a.tmps.getD t undef)) : Sem Value) := rfl
  rw [hrun]
  cases hl : look e t with
  | ptr b o =>
   rw [hl] at hv hr
   generalize a.tmps.getD t undef = y at hr ⊢
   cases hr with
   | ptr _ _ _ r hr =>
    simp only [] at hv
    split at hv
    ·rename_i ro c hb
     cases agg with
     | false =>
      simp only [partC, Bool.false_eq_true, if_false] at hv
      obtain ⟨_, z, hz, hrel⟩ := ptr_cell prefix_refl hS.heap hr hb hv
      exact ⟨z, by simp [asAddr, run_loadVar_cell h1 h2 hz], plC_to hrel⟩
     | true =>
      obtain ⟨cs, q1, q2, q3⟩ := part_agg (w := w) (m := m) (I := I) (ρ := ρ) (r := r) (o' := 0) (h4 ▸ hv : partC o i.size true k c = some v) (fun j v hj => by simpa using ptr_cell prefix_refl hS.heap hr hb hj)
      exact ⟨_, by simp [asAddr]; exact run_loadVar_agg h1 h2 h3 q1 (by simpa using q2), q3⟩
    ·cases hv
  | _ => rw [hl] at hv; cases hv

theorem run_reslist (hS : SRel m nt n0 I O w ρ e H a) : ∀ {l : List ResultVar} {r : List Res} {vs : List V}, All2 (ResOK P) l r → r.mapM (resOf e H) = some vs →
  ∃ xs : List Value, (l.mapM (resRun a.tmps)).run P w = .ok xs w ∧ xs.length = vs.length ∧ ∀ (j : Nat) (v : V) (x : Value), vs[j]? = some v → xs[j]? = some x → RelV m I w ρ v x
 | _, _, vs, .nil, h => by
  simp at h; subst h
  exact ⟨[], rfl, rfl, fun j v x hv => by simp at hv⟩
 | _, _, vs, @All2.cons _ _ _ rv rs l r h1 h2, h => by
  simp only [List.mapM_cons, Option.bind_eq_bind, Option.bind_eq_some_iff, Option.pure_def, Option.some.injEq] at h
  obtain ⟨v, h3, vs', h4, rfl⟩ := h
  obtain ⟨x, g1, g2⟩ := run_res h1 hS h3
  obtain ⟨xs, k1, k2, k3⟩ := run_reslist hS h2 h4
  refine ⟨x :: xs, ?_, by simp [k2], fun j u y hu hy => ?_⟩
  ·simp only [List.mapM_cons, Sem.run_bind, g1, Result.andThen_ok, k1]; rfl
  ·cases j with
   | zero => simp at hu hy; subst hu; subst hy; exact g2
   | succ j => exact k3 j u y (by simpa using hu) (by simpa using hy)

theorem run_results {pf : Func} {fn : Fun} {vs : List V} (h : All2 (ResOK P) pf.results.toList fn.res) (hS : SRel m nt n0 I O w ρ e H a) (hv : fn.res.mapM (resOf e H) = some vs) :
  ∃ x, (results pf a.tmps).run P w = .ok x w ∧ RelV m I w ρ (one1 vs) x := by
 obtain ⟨xs, h1, h2, h3⟩ := run_reslist hS h hv
 have hrun : (results pf a.tmps).run P w = .ok (if h : xs.toArray.size = 1 then xs.toArray[0] else .tuple xs.toArray) w := by
  have hres : results pf a.tmps = (do let vs ← pf.results.mapM (resRun a.tmps); pure (if h : vs.size = 1 then vs[0] else .tuple vs) : Sem Value) := rfl
  rw [hres]
  have : (pf.results.mapM (resRun a.tmps)).run P w = .ok xs.toArray w := by
   rw [Array.mapM_eq_mapM_toList]
   simp [h1, pure, Sem.run]
  simp only [Sem.run_bind, this, Result.andThen_ok]
  rfl
 refine ⟨_, hrun, ?_⟩
 have tup : RelV m I w ρ (.tup vs) (.tuple xs.toArray) := .tup _ _ _ (by simpa using h2) (fun j v x hv hx => h3 j v x hv (by simpa using hx))
 clear hrun h1
 rcases vs with _ | ⟨v, _ | ⟨v', vs⟩⟩ <;> rcases xs with _ | ⟨x, _ | ⟨x', xs⟩⟩ <;> (try (simp at h2; done))
 ·exact tup
 ·exact h3 0 v x rfl rfl
 ·simpa [one1] using tup

theorem fin_rel {fn : Fun} {n : Nat} {v r : V} {H2 H' : List Blk} {I' O' : Nat → Prop} {w' : World} {ρ2 : Pl} {x : Value} (h : fin fn n v H2 = some (r, H')) (hv : RelV m I' w' ρ2 v x) (hH : HRel m I' O' w' ρ2 H2) (hcg : CG n I O w ρ H I' O' w' ρ2 H2) :
  ∃ I2 O2 ρ3, RelV m I2 w' ρ3 r x ∧ HRel m I2 O2 w' ρ3 H' ∧ CG n I O w ρ H I2 O2 w' ρ3 H' := by
 unfold fin at h
 split at h
 ·simp only [Option.some.injEq, Prod.mk.injEq] at h
  obtain ⟨rfl, rfl⟩ := h
  exact ⟨I', O', ρ2, hv, hH, hcg⟩
 ·rename_i S _
  split at h <;> try (cases h; done)
  rename_i hn
  subst hn
  simp only [Option.map_eq_some_iff, Prod.mk.injEq] at h
  obtain ⟨z, h1, rfl, rfl⟩ := h
  refine ⟨lentI I' ρ2 H2 (List.range H2.length), fun _ => False, noPl, toT_rel (fun _ _ h => h) hH h1 hv, ⟨fun i j r h => (by cases h), fun i r h => (by cases h), fun i r h => (by cases h), fun k h => h.elim, fun k hk => ?_, fun k _ h => h, hH.tab.step (fun _ h => .inl h) (fun _ _ => rfl)⟩, ⟨fun k hk => .inl (hcg.imm k hk), hcg.ext, fun k hk => ?_, fun k h => h.elim, fun i hi => (by omega), fun i r h => (by cases h), Nat.zero_le _, fun j hj => (by omega)⟩⟩
  ·rcases hk with hk | ⟨i, ro, c, _, h3, _⟩
   ·exact hH.imm k hk
   ·exact hH.lt i k h3
  ·rcases hk with hk | ⟨i, ro, c, _, h3, h4⟩
   ·exact hcg.imm' k hk
   ·obtain ⟨cs, e, fr, _, _, _, _, _, q6, q7⟩ := hH.at h4 h3
    cases ro with
    | true => exact hcg.imm' k (q7 rfl)
    | false => exact .inr (hcg.own' k (q6 rfl))

theorem evF_sound {F : Nat → Option Fun} {X : Nat → List V → Option (V × List Blk)} (hm : P.follows .mixedOrders = true) (hL : Link P m F) (hX : XSnd P m F X) : ∀ n, CallSnd P m (evF F X n) := by
 intro n
 induction n with
 | zero => intro f g xs H H' r _ h; simp [evF] at h
 | succ n ih =>
  intro f g xs H H' r hf h I O w ρ ys hxs hH
  simp only [evF] at h
  cases hg : F g with
  | none =>
   rw [hg] at h
   simp only [] at h
   split at h
   ·rename_i he
    have : H = [] := by simpa using he
    subst this
    exact hX f g xs H' r hf hg h I O w ρ ys hxs hH
   ·cases h
  | some fn =>
   rw [hg] at h
   simp only [] at h
   split at h <;> try (cases h; done)
   rename_i hlen
   obtain ⟨pf, hpf, ok⟩ := hL f g fn hf hg
   obtain ⟨c, k, hc, hcomp, href⟩ := ok.body
   refine .inl ⟨⟨pf, hpf, by simp [hc], ok.name⟩, ?_⟩
   -- the evaluator's run
   have main : ∀ (r1 : Ex) (e1 : Env) (H1 : List Blk), ev (evF F X n) (modeOf F) H.length n fn.body (env0 fn xs, H) = some (r1, e1, H1) → (r1 = .norm ∨ r1 = .ret) →
     ((fn.res.mapM (resOf e1 H1)).bind fun rs => (compact H.length [one1 rs] H1).bind fun (vs, H2) => vs.head?.bind fun v => fin fn H.length v H2) = some (r, H') →
     Calls P f ys w (fun e w' => ∃ x I' O' ρ', e = .returned x ∧ RelV m I' w' ρ' r x ∧ HRel m I' O' w' ρ' H' ∧ CG H.length I O w ρ H I' O' w' ρ' H') := by
    intro r1 e1 H1 h1 hr1 h2
    simp only [Option.bind_eq_some_iff] at h2
    obtain ⟨rs, h3, ⟨vs, H2⟩, h4, v, h5, h6⟩ := h2
    obtain ⟨n', h1⟩ := href _ _ _ _ _ _ _ h1 hr1
    have hsnd := (ev_sound (nt := pf.ntmps) hm ih n' k _ r1 (e1, H1) h1).1 c hcomp
    have hys : ys.size = xs.length := by simpa using hxs.1
    refine calls_of_wp hpf hc (hsnd I O w ρ _ ⟨fun j t v hj => ?_, hH, Nat.le_refl _, ?_, rfl⟩ _ (fun I' O' w' ρ' a' hS hcg => ?_))
    ·simp only [env0, List.getElem?_map, Option.map_eq_some_iff, Prod.mk.injEq] at hj
     obtain ⟨t', _, rfl, rfl⟩ := hj
     show RelV m I w ρ _ ((ys ++ Array.replicate (pf.ntmps - ys.size) undef).getD t' undef)
     rw [Array.getD_eq_getD_getElem?, List.getD_eq_getElem?_getD]
     rcases Nat.lt_or_ge t' xs.length with ht | ht
     ·rw [List.getElem?_eq_getElem ht, Array.getElem?_append_left (by omega), Array.getElem?_eq_getElem (by omega)]
      exact hxs.2 t' _ _ (List.getElem?_eq_getElem ht) (by simp)
     ·rw [List.getElem?_eq_none ht, Array.getElem?_append_right (by omega), Array.getElem?_replicate]
      split <;> exact rel_undef
    ·show (ys ++ Array.replicate (pf.ntmps - ys.size) undef).size = pf.ntmps
     simp
     have := ok.nt
     omega
    ·have done : a'.defers = [] ∧ ∃ y, (results pf a'.tmps).run P w' = .ok y w' ∧ ∃ x I' O' ρ', (Ending.returned y) = .returned x ∧ RelV m I' w' ρ' r x ∧ HRel m I' O' w' ρ' H' ∧ CG H.length I O w ρ H I' O' w' ρ' H' := by
      refine ⟨hS.defers, ?_⟩
      obtain ⟨x, hx1, hx2⟩ := run_results ok.res hS.srel h3
      obtain ⟨ρ2, k1, k2, k3, k4, k5, k6, k7⟩ := compact_rel (xs := [x]) h4 hS.heap rfl (fun j v y hv hy => by
       cases j with
       | zero => simp at hv hy; subst hv; subst hy; exact hx2
       | succ j => simp at hv)
      have hvr : RelV m I' w' ρ2 v x := ?_
      ·obtain ⟨I3, O3, ρ3, g1, g2, g3⟩ := fin_rel h6 hvr k1 (hcg.trans ⟨fun _ h => h, .refl _ _, fun _ h => .inl h, fun _ h => .inl h, k2, fun i r hr hi => .inr (.inr (k6 i r hr hi)), k3, k7⟩)
       exact ⟨x, hx1, x, I3, O3, ρ3, rfl, g1, g2, g3⟩
      cases vs with
      | nil => simp at h5
      | cons v0 vs =>
       simp only [List.head?_cons, Option.some.injEq] at h5
       subst h5
       exact k5 0 _ x rfl rfl
     rcases hr1 with rfl | rfl
     ·exact done
     ·exact done
   split at h
   ·rename_i e1 H1 h1; exact main _ _ _ h1 (.inl rfl) h
   ·rename_i e1 H1 h1; exact main _ _ _ h1 (.inr rfl) h
   ·cases h
end Go.Proofs.YtchoafdpckknmaaDoorE
