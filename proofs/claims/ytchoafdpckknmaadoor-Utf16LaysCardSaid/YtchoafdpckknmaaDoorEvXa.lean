/- Stretches of operations. -/
import Derived.Test.YtchoafdpckknmaaDoorEvCa
namespace Go.Proofs.YtchoafdpckknmaaDoorE
section
open Go
set_option linter.unusedSimpArgs false
set_option linter.unusedVariables false
variable {P : Program} {w : World} {m : Nat → Option Nat} {I O : Nat → Prop} {ρ : Pl} {H H' Hb : List Blk} {v : V} {e e' : Env} {a : Act} {call : CallF} {own : Nat → Mode} {n0 nt : Nat} {Q : Exit → Act → World → Prop}

def ERel (m : Nat → Option Nat) (I : Nat → Prop) (w : World) (ρ : Pl) (e : Env) (a : Act) : Prop := ∀ t, RelV m I w ρ (look e t) (a.tmps.getD t undef)
structure SRel (m : Nat → Option Nat) (nt n0 : Nat) (I O : Nat → Prop) (w : World) (ρ : Pl) (e : Env) (H : List Blk) (a : Act) : Prop where
 env : ERel m I w ρ e a
 heap : HRel m I O w ρ H
 len : n0 ≤ H.length
 size : a.tmps.size = nt
 defers : a.defers = []

theorem GS.cg {I' O' : Nat → Prop} {w' : World} {ρ' : Pl} (h : GS H.length I O w ρ I' O' w' ρ') (al : Alive H H') (hn : n0 ≤ H.length) (hH : HRel m I O w ρ H) : CG n0 I O w ρ H I' O' w' ρ' H' := by
 refine ⟨h.mono.imm, h.ext, h.imm', h.own', fun i hi => ?_, fun i r hr hi => ?_, Nat.le_trans hn al.1, fun j hj hl => al.2 j (by omega) hl⟩
 ·cases hr : ρ i with
  | some r => exact h.mono.pl i r hr
  | none =>
   cases hr' : ρ' i with
   | none => rfl
   | some r =>
    rcases h.pl' i r hr' with h1 | ⟨h1, _⟩
    ·rw [hr] at h1; cases h1
    ·omega
 ·rcases h.pl' i r hr with h1 | ⟨_, h1⟩
  ·exact .inr (.inr ⟨i, hi, h1⟩)
  ·exact h1.elim .inl (fun h => .inr (.inl h))
theorem CG.refl (hn : n0 ≤ H.length) : CG n0 I O w ρ H I O w ρ H :=
 ⟨fun _ h => h, .refl _ _, fun _ h => .inl h, fun _ h => .inl h, fun _ _ => rfl, fun i r hr hi => .inr (.inr ⟨i, hi, hr⟩), hn, fun _ _ h => h⟩
theorem CG.trans {I1 O1 I2 O2 : Nat → Prop} {w1 w2 : World} {ρ1 ρ2 : Pl} {H1 H2 : List Blk} (h : CG n0 I O w ρ H I1 O1 w1 ρ1 H1) (h' : CG n0 I1 O1 w1 ρ1 H1 I2 O2 w2 ρ2 H2) : CG n0 I O w ρ H I2 O2 w2 ρ2 H2 := by
 have back : ∀ k, O1 k ∨ w1.heap.size ≤ k → O k ∨ w.heap.size ≤ k := fun k hk => by
  rcases hk with hk | hk
  ·exact h.own' k hk
  ·exact .inr (Nat.le_trans h.ext.size hk)
 refine ⟨fun k hk => h'.imm k (h.imm k hk), h.ext.trans h'.ext (fun k hk hlt => ?_), fun k hk => ?_, fun k hk => back k (h'.own' k hk), fun i hi => (h'.pl i hi).trans (h.pl i hi), fun i r hr hi => ?_, h'.len, fun j hj hl => h.live j hj (h'.live j hj hl)⟩
 ·rcases h.own' k hk with h1 | h1
  ·exact h1
  ·omega
 ·rcases h'.imm' k hk with h1 | h1
  ·exact h.imm' k h1
  ·exact .inr (back k h1)
 ·rcases h'.pl' i r hr hi with h1 | h1 | ⟨i', h1, h2⟩
  ·exact (back r (.inl h1)).elim .inl (fun h => .inr (.inl h))
  ·exact (back r (.inr h1)).elim .inl (fun h => .inr (.inl h))
  ·exact h.pl' i' r h2 h1

def GuardOK (ops : Array Oper) : Option (Nat × Bool) → Option (Nat × Bool) → Prop
 | none, none => True
 | some (g, want), some (s, want') => want' = want ∧ (ops[g]?).bind (·.dst) = some s
 | _, _ => False
theorem refn_op {oc oc' : EOp} {r : V × List Blk × Bool} (h : oc' = oc ∨ oc' = refnO oc) (hn : ∀ x, oc ≠ .cvs x) (hr : evOp call own oc' e H = some r) : evOp call own oc e H = some r := by
 rcases h with rfl | rfl
 ·exact hr
 ·cases oc <;> first | exact hr | skip
  ·rename_i x
   simp only [refnO, evOp, evQ, evE] at hr ⊢
   cases hx : x.ev e <;> rw [hx] at hr <;> first | exact hr | (simp at hr)
  ·rename_i n k x
   simp only [refnO, evOp, evQ, evE] at hr ⊢
   cases hx : x.ev e <;> rw [hx] at hr <;> first | exact hr | (simp at hr)
  ·rename_i n sz x lo hi mx
   simp only [refnO, evOp, evQ, evE] at hr ⊢
   cases hx : x.ev e <;> rw [hx] at hr <;> first | exact hr | (simp at hr)
  ·exact absurd rfl (hn _)

/-- what a quiet operation leaves -/
structure QG (lo hi : Nat) (I O : Nat → Prop) (w : World) (ρ : Pl) (I' O' : Nat → Prop) (w' : World) (ρ' : Pl) : Prop where
 mono : Mono I w ρ I' w' ρ'
 ext : Ext O w w'
 imm' : ∀ k, I' k → I k ∨ w.heap.size ≤ k
 own' : ∀ k, O' k → O k ∨ w.heap.size ≤ k
 pl' : ∀ i r, ρ' i = some r → ρ i = some r ∨ (lo ≤ i ∧ i < hi ∧ w.heap.size ≤ r)
theorem QG.gs {n k : Nat} {I' O' : Nat → Prop} {w' : World} {ρ' : Pl} (h : QG n k I O w ρ I' O' w' ρ') : GS n I O w ρ I' O' w' ρ' :=
 ⟨h.mono, h.ext, fun k hk => (h.imm' k hk).elim .inl (fun h => .inr (.inr h)), h.own', fun i r hr => (h.pl' i r hr).elim .inl (fun h => .inr ⟨h.1, .inr h.2.2⟩)⟩
theorem op_cvm {o : Oper} {x : R} {q : Bool} (hc : compO P m o.op = some (.cvs x)) (he : ORel m I w ρ e a o.op.operands.toList) (hH : HRel m I O w ρ Hb)
  (h : evOp call own (.cvm x) e H = some (v, H', q)) (hp : ∀ (i : Nat) (b : Blk), H[i]? = some b → Hb[i]? = some b) :
  q = true ∧ H' = H ∧ Goes P o a w (fun x w' => ∃ I' O' ρ', RelV m I' w' ρ' v x ∧ HRel m I' O' w' ρ' Hb ∧ QG H.length H'.length I O w ρ I' O' w' ρ') := by
 obtain ⟨dst, op, ty, pos, af, gu⟩ := o
 have hcv : ∃ s d y, op = .convert s d y := by
  simp only [] at hc
  cases op
  case convert s d y => exact ⟨s, d, y, rfl⟩
  case binOp op t x y yt =>
   exfalso
   simp only [compO, Option.bind_eq_some_iff] at hc
   obtain ⟨_, _, _, _, hc⟩ := hc
   split at hc
   ·simp only [Option.bind_eq_some_iff] at hc
    obtain ⟨d, _, hc⟩ := hc
    split at hc
    ·cases hc
    ·cases hc
    ·split at hc
     ·cases hc
     ·split at hc
      ·cases hc
      ·simp [Option.map_eq_some_iff] at hc
   ·cases hc
  case call c =>
   exfalso
   obtain ⟨callee, xs, ats⟩ := c
   cases callee
   ·simp only [compO] at hc
    (repeat' split at hc) <;> (try simp only [Option.bind_eq_some_iff, Option.map_eq_some_iff] at hc) <;> (try (cases hc; done)) <;> grind [Option.map_eq_some_iff]
   ·cases hc
   ·simp only [compO, compBuiltin] at hc
    (repeat' split at hc) <;> (try simp only [Option.bind_eq_some_iff, Option.map_eq_some_iff] at hc) <;> (try (cases hc; done)) <;> grind [Option.map_eq_some_iff]
  all_goals exfalso
  all_goals simp only [compO, compBuiltin] at hc <;> (repeat' split at hc) <;> (try simp only [Option.bind_eq_some_iff, Option.map_eq_some_iff] at hc) <;> (try (cases hc; done)) <;> grind [Option.map_eq_some_iff]
 obtain ⟨s, d, y, rfl⟩ := hcv
 obtain ⟨el, rfl, hs, hel, h1⟩ := cvs_parts (dst := dst) (ty := ty) (pos := pos) (af := af) (gu := gu) hc
 have hx := refOf_rel h1 he (by simp [Op.operands])
 have hE : ∃ news, evQ (.cvm x) e H = some (v, news) ∧ H' = H ++ news ∧ q = true := by
  have h' : (match evQ (.cvm x) e H with | some (v, news) => some (v, H ++ news, true) | none => (evE (.cvm x) e H).map fun (v, H) => (v, H, false)) = some (v, H', q) := h
  cases hq : evQ (.cvm x) e H with
  | none => rw [hq] at h'; simp [evE] at h'
  | some r =>
   obtain ⟨v1, n1⟩ := r
   rw [hq] at h'
   simp only [Option.some.injEq, Prod.mk.injEq] at h'
   obtain ⟨rfl, rfl, rfl⟩ := h'
   exact ⟨n1, rfl, rfl, rfl⟩
 obtain ⟨news, hE, rfl, rfl⟩ := hE
 obtain ⟨rfl, z, w', hrun, r1, r2, r3⟩ := sound_cvm hs hel hp hH hx hE
 refine ⟨rfl, by simp, goes_value (w' := w') ?_ ⟨I, O, ρ, r1, r2, ⟨r3.mono, r3.ext, fun k hk => .inl hk, r3.own', fun i r hr => .inl hr⟩⟩⟩
 show (do let v ← convert s s (a.eval y); pure (Next.value v) : Sem Next).run P w = _
 rw [Sem.run_bind, hrun]; rfl
theorem op_q {o : Oper} {oc oc' : EOp} (hr : oc' = oc ∨ oc' = refnO oc) (hcall : CallSnd P m call) (hc : compO P m o.op = some oc) (he : ORel m I w ρ e a o.op.operands.toList) (hH : HRel m I O w ρ Hb)
  (h : evOp call own oc' e H = some (v, H', true)) (hp : ∀ (i : Nat) (b : Blk), H'[i]? = some b → Hb[i]? = some b) (hn : ∀ i, H.length ≤ i → i < H'.length → ρ i = none) :
  Goes P o a w (fun x w' => ∃ I' O' ρ', RelV m I' w' ρ' v x ∧ HRel m I' O' w' ρ' Hb ∧ QG H.length H'.length I O w ρ I' O' w' ρ') := by
 by_cases hv : ∃ x, oc = .cvs x ∧ oc' = .cvm x
 ·obtain ⟨x, rfl, rfl⟩ := hv
  obtain ⟨news, hnews⟩ := evOp_prefix h
  exact (op_cvm hc he hH h (fun i b hb => hp i b (by rw [hnews, List.getElem?_append_left (List.getElem?_eq_some_iff.1 hb).1]; exact hb))).2.2
 ·have h2 : evOp call own oc e H = some (v, H', true) := by
   by_cases hcv : ∃ x, oc = .cvs x
   ·obtain ⟨x, rfl⟩ := hcv
    rcases hr with rfl | rfl
    ·exact h
    ·exact absurd ⟨x, rfl, rfl⟩ hv
   ·exact refn_op hr (fun x e => hcv ⟨x, e⟩) h
  exact (op_quiet hcall hc he hH h2 hp hn).mono (fun x w' ⟨I', O', ρ', h1, h2, h3⟩ => ⟨I', O', ρ', h1, h2, h3.mono hH.imm, h3.ext, h3.imm', h3.own', h3.pl'⟩)
theorem op_a {o : Oper} {oc oc' : EOp} {q : Bool} (hr : oc' = oc ∨ oc' = refnO oc) (hcall : CallSnd P m call) (hc : compO P m o.op = some oc) (he : ORel m I w ρ e a o.op.operands.toList) (hH : HRel m I O w ρ H)
  (h : evOp call own oc' e H = some (v, H', q)) : Goes P o a w (Left m I O w ρ H H' v) := by
 by_cases hv : ∃ x, oc = .cvs x ∧ oc' = .cvm x
 ·obtain ⟨x, rfl, rfl⟩ := hv
  obtain ⟨_, rfl, h3⟩ := op_cvm hc he hH h (fun _ _ h => h)
  exact h3.mono (fun x w' ⟨I', O', ρ', h1, h2, h3⟩ => ⟨I', O', ρ', h1, h2, h3.gs, ⟨Nat.le_refl _, fun _ _ h => h⟩⟩)
 ·refine op_any (q := q) (own := own) hcall hc he hH ?_
  by_cases hcv : ∃ x, oc = .cvs x
  ·obtain ⟨x, rfl⟩ := hcv
   rcases hr with rfl | rfl
   ·exact h
   ·exact absurd ⟨x, rfl, rfl⟩ hv
  ·exact refn_op hr (fun x e => hcv ⟨x, e⟩) h
structure OpOK (P : Program) (m : Nat → Option Nat) (nt : Nat) (ops : Array Oper) (o : Oper) (k : Op) : Prop where
 op : ∃ oc, compO P m o.op = some oc ∧ (k.o = oc ∨ k.o = refnO oc)
 dst : k.dst = o.dst
 lt : ∀ d, o.dst = some d → d < nt
 guard : GuardOK ops o.guard k.guard

theorem wants_wanted {ops : Array Oper} {o : Oper} {k : Op} {b : Bool} (hk : OpOK P m nt ops o k) (hs : ∀ s want, k.guard = some (s, want) → RelV m I w ρ (look e s) (a.tmps.getD s undef)) (h : wants e k.guard = some b) : Region.wanted o (yielded ops a.tmps) = b := by
 have hg := hk.guard
 unfold Region.wanted
 cases ho : o.guard with
 | none =>
  cases hkg : k.guard with
  | none => rw [hkg] at h; simp only [wants, Option.some.injEq] at h; exact h
  | some p => rw [ho, hkg] at hg; exact hg.elim
 | some p =>
  obtain ⟨g, want⟩ := p
  cases hkg : k.guard with
  | none => rw [ho, hkg] at hg; exact hg.elim
  | some p' =>
   obtain ⟨s, want'⟩ := p'
   rw [ho, hkg] at hg
   obtain ⟨rfl, hd⟩ := hg
   have hr := hs s want' hkg
   rw [hkg] at h
   simp only [wants] at h
   simp only [yielded, hd, Option.bind_some]
   cases hl : look e s with
   | bool t =>
    rw [hl] at h hr
    simp only [Option.some.injEq] at h
    generalize hx : a.tmps.getD s undef = x at hr
    cases hr
    rw [Array.getD_eq_getD_getElem?] at hx
    cases ht : a.tmps[s]? with
    | none => rw [ht] at hx; cases hx
    | some y =>
     rw [ht] at hx
     simp only [Option.getD_some] at hx
     subst hx
     rw [← h]; simp
   | tup l =>
    rw [hl] at h hr
    cases l with
    | cons _ _ => cases h
    | nil =>
     simp only [Option.some.injEq] at h
     subst h
     generalize hx : a.tmps.getD s undef = x at hr
     cases hr
     rw [Array.getD_eq_getD_getElem?] at hx
     cases ht : a.tmps[s]? with
     | none => rfl
     | some y =>
      rw [ht] at hx
      simp only [Option.getD_some] at hx
      subst hx
      rfl
   | _ => rw [hl] at h; cases h

theorem put_get {d : Option Tmp} {x : Value} {t : Nat} (hd : ∀ k, d = some k → k < a.tmps.size) : (a.put d x).tmps.getD t undef = if d = some t then x else a.tmps.getD t undef := by
 cases d with
 | none => simp [Act.put]
 | some d =>
  have := hd d rfl
  simp only [Act.put, Array.getD_eq_getD_getElem?, Array.getElem?_setIfInBounds, Option.some.injEq]
  by_cases e : d = t
  ·subst e; simp [this]
  ·simp [e]
theorem put_size {d : Option Tmp} {x : Value} : (a.put d x).tmps.size = a.tmps.size := by cases d <;> simp [Act.put]
theorem put_defers {d : Option Tmp} {x : Value} : (a.put d x).defers = a.defers := by cases d <;> simp [Act.put]
theorem look_push {d : Option Nat} {t : Nat} : look (push d v e) t = if d = some t then v else look e t := by
 cases d with
 | none => simp [push]
 | some d => simp only [push, look, Option.some.injEq]
theorem ERel.push {d : Option Tmp} {x : Value} (h : ERel m I w ρ e a) (hd : ∀ k, d = some k → k < a.tmps.size) (hx : RelV m I w ρ v x) : ERel m I w ρ (push d v e) (a.put d x) := by
 intro t
 rw [put_get hd, look_push]
 split
 ·exact hx
 ·exact h t
theorem rel_undef : RelV m I w ρ (.tup []) undef := .tup _ _ _ rfl (fun j v x h => by simp at h)

inductive All2 {α β : Type} (R : α → β → Prop) : List α → List β → Prop
 | nil : All2 R [] []
 | cons {a b l r} : R a b → All2 R l r → All2 R (a :: l) (b :: r)

theorem seq_region {ops : Array Oper} {bar : Nat → Bool} (hcall : CallSnd P m call) : ∀ {l : List Oper} {kl : List Op} (i : Nat) {e : Env} {H : List Blk} {I O : Nat → Prop} {w : World} {ρ : Pl} {a : Act}, All2 (OpOK P m nt ops) l kl →
  evOps call own bar i kl e H = some (e', H') → SRel m nt n0 I O w ρ e H a → (∀ I' O' w' ρ' a', SRel m nt n0 I' O' w' ρ' e' H' a' → CG n0 I O w ρ H I' O' w' ρ' H' → Q .normal a' w') → wpList P ops Q l a w := by
 intro l
 induction l with
 | nil =>
  intro kl i e H I O w ρ a hl h hS hQ
  cases hl
  simp only [evOps, Option.some.injEq, Prod.mk.injEq] at h
  obtain ⟨rfl, rfl⟩ := h
  exact hQ _ _ _ _ _ hS (.refl hS.len)
 | cons o l ih =>
  intro kl i e H I O w ρ a hl h hS hQ
  cases hl with
  | @cons _ k _ kl hk hl =>
   unfold wpList
   simp only [evOps] at h
   cases hw : wants e k.guard with
   | none => rw [hw] at h; cases h
   | some b =>
    have hwant := wants_wanted hk (fun s _ _ => hS.env s) hw
    rw [hwant]
    cases b with
    | true =>
     rw [hw] at h
     simp only [] at h
     cases hop : evOp call own k.o e H with
     | none => rw [hop] at h; cases h
     | some r =>
      obtain ⟨v, H1, q⟩ := r
      rw [hop] at h
      simp only [] at h
      split at h <;> try (cases h; done)
      rw [if_pos rfl]
      refine .inl (op_a hk.op.choose_spec.2 hcall hk.op.choose_spec.1 (.of (fun t => hS.env t) hS.heap.tab) hS.heap hop _ _ (fun x w1 hL => ?_))
      obtain ⟨I1, O1, ρ1, h1, h2, h3, h4⟩ := hL
      have hd : ∀ d, o.dst = some d → d < a.tmps.size := fun d hd => by rw [hS.size]; exact hk.lt d hd
      have hcg := h3.cg h4 hS.len hS.heap
      rw [hk.dst] at h
      refine ih (i + 1) hl h ⟨?_, h2, Nat.le_trans hS.len h4.1, by rw [put_size]; exact hS.size, by rw [put_defers]; exact hS.defers⟩ (fun I' O' w' ρ' a' hS' hc' => hQ _ _ _ _ _ hS' (hcg.trans hc'))
      exact ERel.push (fun t => h3.mono.rel (hS.env t)) hd h1
    | false =>
     rw [hw] at h
     simp only [] at h
     rw [if_neg (by simp)]
     rw [hk.dst] at h
     have hd : ∀ d, o.dst = some d → d < a.tmps.size := fun d hd => by rw [hS.size]; exact hk.lt d hd
     exact ih (i + 1) hl h ⟨hS.env.push hd rel_undef, hS.heap, hS.len, by rw [put_size]; exact hS.size, by rw [put_defers]; exact hS.defers⟩ hQ
end

section
open Go
set_option linter.unusedSimpArgs false
set_option linter.unusedVariables false
variable {P : Program} {w : World} {m : Nat → Option Nat} {I O : Nat → Prop} {ρ : Pl} {H H' Hb : List Blk} {v : V} {e e' : Env} {a : Act} {call : CallF} {own : Nat → Mode} {n0 nt : Nat} {Q : Exit → Act → World → Prop}

structure Trace (call : CallF) (own : Nat → Mode) (bar : Nat → Bool) (i0 : Nat) (ops : List Op) (e : Env) (H : List Blk) (e' : Env) (H' : List Blk) where
 E : Nat → Env
 HH : Nat → List Blk
 vv : Nat → V
 ww : Nat → Bool
 qq : Nat → Bool
 e0 : E 0 = e
 h0 : HH 0 = H
 eN : E ops.length = e'
 hN : HH ops.length = H'
 want : ∀ (j : Nat) (o : Op), ops[j]? = some o → wants (E j) o.guard = some (ww j)
 env : ∀ (j : Nat) (o : Op), ops[j]? = some o → E (j + 1) = push o.dst (vv j) (E j)
 run : ∀ (j : Nat) (o : Op), ops[j]? = some o → ww j = true → evOp call own o.o (E j) (HH j) = some (vv j, HH (j + 1), qq j)
 idle : ∀ (j : Nat) (o : Op), ops[j]? = some o → ww j = false → vv j = .tup [] ∧ HH (j + 1) = HH j ∧ qq j = true
 bars : ∀ (j : Nat) (o : Op), ops[j]? = some o → qq j = false → bar (i0 + j) = true

theorem trace {bar : Nat → Bool} : ∀ {ops : List Op} {i0 : Nat} {e : Env} {H : List Blk}, evOps call own bar i0 ops e H = some (e', H') → Nonempty (Trace call own bar i0 ops e H e' H')
 | [], i0, e, H, h => by
  simp only [evOps, Option.some.injEq, Prod.mk.injEq] at h
  obtain ⟨rfl, rfl⟩ := h
  exact ⟨⟨fun _ => e, fun _ => H, fun _ => .undef, fun _ => true, fun _ => true, rfl, rfl, rfl, rfl, by simp, by simp, by simp, by simp, by simp⟩⟩
 | o :: ops, i0, e, H, h => by
  simp only [evOps] at h
  have mk : ∀ (v : V) (H1 : List Blk) (q b : Bool), wants e o.guard = some b → (b = true → evOp call own o.o e H = some (v, H1, q)) → (b = false → v = .tup [] ∧ H1 = H ∧ q = true) → (q = false → bar i0 = true) →
    evOps call own bar (i0 + 1) ops (push o.dst v e) H1 = some (e', H') → Nonempty (Trace call own bar i0 (o :: ops) e H e' H') := by
   intro v H1 q b h1 h2 h3 h4 h5
   obtain ⟨t⟩ := trace h5
   refine ⟨⟨fun j => match j with | 0 => e | j + 1 => t.E j, fun j => match j with | 0 => H | j + 1 => t.HH j, fun j => match j with | 0 => v | j + 1 => t.vv j, fun j => match j with | 0 => b | j + 1 => t.ww j, fun j => match j with | 0 => q | j + 1 => t.qq j,
    rfl, rfl, t.eN, t.hN, fun j k hk => ?_, fun j k hk => ?_, fun j k hk => ?_, fun j k hk => ?_, fun j k hk => ?_⟩⟩
   ·cases j with
    | zero => simp only [List.getElem?_cons_zero, Option.some.injEq] at hk; subst hk; exact h1
    | succ j => exact t.want j k (by simpa using hk)
   ·cases j with
    | zero => simp only [List.getElem?_cons_zero, Option.some.injEq] at hk; subst hk; exact t.e0
    | succ j => exact t.env j k (by simpa using hk)
   ·cases j with
    | zero => simp only [List.getElem?_cons_zero, Option.some.injEq] at hk; subst hk; intro hb; show _ = some (v, t.HH 0, q); rw [t.h0]; exact h2 hb
    | succ j => exact t.run j k (by simpa using hk)
   ·cases j with
    | zero => simp only [List.getElem?_cons_zero, Option.some.injEq] at hk; subst hk; intro hb; show v = _ ∧ t.HH 0 = H ∧ q = true; rw [t.h0]; exact h3 hb
    | succ j => exact t.idle j k (by simpa using hk)
   ·cases j with
    | zero => exact h4
    | succ j => intro hq; have := t.bars j k (by simpa using hk) hq; rwa [show i0 + 1 + j = i0 + (j + 1) by omega] at this
  cases hw : wants e o.guard with
  | none => rw [hw] at h; cases h
  | some b =>
   cases b with
   | false =>
    rw [hw] at h
    exact mk _ _ true false hw (by simp) (fun _ => ⟨rfl, rfl, rfl⟩) (by simp) h
   | true =>
    rw [hw] at h
    simp only [] at h
    cases hop : evOp call own o.o e H with
    | none => rw [hop] at h; cases h
    | some r =>
     obtain ⟨v, H1, q⟩ := r
     rw [hop] at h
     simp only [] at h
     split at h <;> try (cases h; done)
     rename_i hq
     exact mk v H1 q true hw (fun _ => hop) (by simp) (fun e => by subst e; simpa using hq) h

/-! ### who comes ahead of whom -/
theorem ancs_len : ∀ (ops : List Op) (acc : List (List Nat)), (ancs ops acc).length = acc.length + ops.length
 | [], acc => by simp [ancs]
 | o :: ops, acc => by simp [ancs, ancs_len ops]; omega
theorem ancs_head : ∀ (ops : List Op) (acc : List (List Nat)) (j : Nat), j < acc.length → (ancs ops acc)[j]? = acc[j]?
 | [], acc, j, h => by simp [ancs]
 | o :: ops, acc, j, h => by
  simp only [ancs]
  rw [ancs_head ops _ j (by simp; omega), List.getElem?_append_left h]
theorem ancs_get : ∀ (ops : List Op) (acc : List (List Nat)) (j : Nat) (o : Op), ops[j]? = some o → ∃ pre : List (List Nat), (∀ k : Nat, k < acc.length + j → pre[k]? = (ancs ops acc)[k]?) ∧ (∀ k, acc.length + j ≤ k → pre[k]? = none) ∧ (ancs ops acc)[acc.length + j]? = some (un [] (o.wait ++ o.wait.flatMap fun i => pre.getD i []))
 | [], acc, j, o, h => by simp at h
 | p :: ops, acc, 0, o, h => by
  simp only [List.getElem?_cons_zero, Option.some.injEq] at h
  subst h
  refine ⟨acc, fun k hk => ?_, fun k hk => by simp; omega, ?_⟩
  ·simp only [ancs]
   rw [ancs_head ops _ k (by simp; omega), List.getElem?_append_left (by omega)]
  ·simp only [ancs, Nat.add_zero]
   rw [ancs_head ops _ _ (by simp), List.getElem?_append_right (Nat.le_refl _)]
   simp
 | p :: ops, acc, j + 1, o, h => by
  simp only [ancs]
  obtain ⟨pre, h1, h2, h3⟩ := ancs_get ops (acc ++ [un [] (p.wait ++ p.wait.flatMap fun j => acc.getD j [])]) j o (by simpa using h)
  simp only [List.length_append, List.length_cons, List.length_nil, Nat.zero_add] at h1 h2 h3
  exact ⟨pre, fun k hk => h1 k (by omega), fun k hk => h2 k (by omega), by rw [show acc.length + (j + 1) = acc.length + 1 + j by omega]; exact h3⟩

theorem ancs_spec {ops : List Op} {j i : Nat} (hi : i ∈ (ancs ops []).getD j []) : ∃ o, ops[j]? = some o ∧ (i ∈ o.wait ∨ ∃ k, k ∈ o.wait ∧ k < j ∧ i ∈ (ancs ops []).getD k []) := by
 rw [List.getD_eq_getElem?_getD] at hi
 cases hA : (ancs ops [])[j]? with
 | none => rw [hA] at hi; simp at hi
 | some l =>
  have hj : j < ops.length := by have := (List.getElem?_eq_some_iff.1 hA).1; rw [ancs_len] at this; simpa using this
  obtain ⟨pre, h1, h2, h3⟩ := ancs_get ops [] j ops[j] (List.getElem?_eq_getElem hj)
  simp only [List.length_nil, Nat.zero_add] at h1 h2 h3
  rw [h3] at hi
  simp only [Option.getD_some, mem_un, List.not_mem_nil, false_or, List.mem_append, List.mem_flatMap] at hi
  refine ⟨ops[j], List.getElem?_eq_getElem hj, ?_⟩
  rcases hi with hi | ⟨k, hk, hi⟩
  ·exact .inl hi
  ·rw [List.getD_eq_getElem?_getD] at hi
   rcases Nat.lt_or_ge k j with hkj | hkj
   ·rw [h1 k hkj] at hi
    exact .inr ⟨k, hk, hkj, by rw [List.getD_eq_getElem?_getD]; exact hi⟩
   ·rw [h2 k hkj] at hi; simp at hi
theorem ancs_closed {ops : List Op} {S : Nat → Prop} (hS : ∀ (j : Nat) (o : Op), ops[j]? = some o → S j → ∀ x, x ∈ o.wait → S x) : ∀ (j i : Nat), (∀ o, ops[j]? = some o → ∀ x, x ∈ o.wait → S x) → i ∈ (ancs ops []).getD j [] → S i := by
 intro j
 induction j using Nat.strongRecOn with
 | _ j ih =>
  intro i hw hi
  obtain ⟨o, ho, h⟩ := ancs_spec hi
  rcases h with h | ⟨k, hk, hkj, h⟩
  ·exact hw o ho i h
  ·exact ih k hkj i (fun o' ho' => hS k o' ho' (hw o ho k hk)) h

/-! ### a slot's value -/
def dstAt (ops : List Op) (j : Nat) : Option Nat := (ops[j]?).bind (·.dst)
def slotAt (ops : List Op) (e : Env) (vv : Nat → V) (S : Nat → Bool) : Nat → Nat → V
 | 0, t => look e t
 | j + 1, t => if S j = true ∧ dstAt ops j = some t then vv j else slotAt ops e vv S j t
theorem slotAt_congr {ops : List Op} {vv : Nat → V} {S S' : Nat → Bool} {t : Nat} : ∀ {n : Nat}, (∀ j, j < n → dstAt ops j = some t → S j = S' j) → slotAt ops e vv S n t = slotAt ops e vv S' n t
 | 0, _ => rfl
 | n + 1, h => by
  simp only [slotAt]
  rw [slotAt_congr (n := n) (fun j hj => h j (by omega))]
  by_cases hd : dstAt ops n = some t
  ·rw [h n (by omega) hd]
  ·simp [hd]
theorem slotAt_cut {e : Env} {ops : List Op} {vv : Nat → V} {S : Nat → Bool} {t i : Nat} : ∀ {n : Nat}, i ≤ n → (∀ j, i ≤ j → j < n → dstAt ops j = some t → S j = false) → slotAt ops e vv S n t = slotAt ops e vv S i t
 | 0, hi, _ => by simp [show i = 0 by omega]
 | n + 1, hi, h => by
  rcases Nat.lt_or_ge n i with hn | hn
  ·rw [show i = n + 1 by omega]
  ·simp only [slotAt]
   have ih : slotAt ops e vv S n t = slotAt ops e vv S i t := slotAt_cut (n := n) hn (fun j h1 h2 => h j h1 (by omega))
   by_cases hd : dstAt ops n = some t
   ·rw [h n hn (by omega) hd]; simp [ih]
   ·simp [hd, ih]
theorem slotAt_last {ops : List Op} {vv : Nat → V} {S : Nat → Bool} {t i n : Nat} (hi : i < n) (hS : S i = true) (hd : dstAt ops i = some t) (h : ∀ j, i < j → j < n → dstAt ops j = some t → S j = false) : slotAt ops e vv S n t = vv i := by
 rw [slotAt_cut (i := i + 1) hi (fun j h1 h2 => h j (by omega) h2)]
 simp [slotAt, hS, hd]
theorem Trace.look {bar : Nat → Bool} {ops : List Op} {i0 : Nat} (t : Trace call own bar i0 ops e H e' H') {u : Nat} : ∀ {n : Nat}, n ≤ ops.length → Go.Proofs.YtchoafdpckknmaaDoorE.look (t.E n) u = slotAt ops e t.vv (fun _ => true) n u
 | 0, _ => by rw [t.e0]; rfl
 | n + 1, h => by
  have ho : ops[n]? = some ops[n] := List.getElem?_eq_getElem (by omega)
  rw [t.env n _ ho, look_push, t.look (n := n) (by omega)]
  simp [slotAt, dstAt, ho]
/-- quiet operations only append -/
theorem Trace.pref {bar : Nat → Bool} {ops : List Op} {i0 : Nat} (t : Trace call own bar i0 ops e H e' H') {i : Nat} : ∀ {k : Nat}, i ≤ k → k ≤ ops.length → (∀ j, i ≤ j → j < k → t.qq j = true) → ∃ news, t.HH k = t.HH i ++ news
 | 0, hi, _, _ => ⟨[], by simp [show i = 0 by omega]⟩
 | k + 1, hi, hk, h => by
  rcases Nat.lt_or_ge k i with hn | hn
  ·exact ⟨[], by simp [show i = k + 1 by omega]⟩
  ·obtain ⟨news, h1⟩ := t.pref (k := k) hn (by omega) (fun j h1 h2 => h j h1 (by omega))
   have ho : ops[k]? = some ops[k] := List.getElem?_eq_getElem (by omega)
   cases hw : t.ww k with
   | true =>
    have := t.run k _ ho hw
    rw [h k hn (by omega)] at this
    obtain ⟨n2, h2⟩ := evOp_prefix this
    exact ⟨news ++ n2, by rw [h2, h1, List.append_assoc]⟩
   | false => exact ⟨news, by rw [(t.idle k _ ho hw).2.1, h1]⟩
end

section
open Go
set_option linter.unusedSimpArgs false
set_option linter.unusedVariables false
variable {P : Program} {w : World} {m : Nat → Option Nat} {I O : Nat → Prop} {ρ : Pl} {H H' Hb : List Blk} {v : V} {e e' : Env} {a : Act} {call : CallF} {own : Nat → Mode} {n0 nt : Nat} {Q : Exit → Act → World → Prop}

theorem All2.length {α β : Type} {R : α → β → Prop} : ∀ {l : List α} {r : List β}, All2 R l r → l.length = r.length
 | _, _, .nil => rfl
 | _, _, .cons _ h => by simp [h.length]
theorem All2.get {α β : Type} {R : α → β → Prop} : ∀ {l : List α} {r : List β}, All2 R l r → ∀ {j : Nat} {a : α}, l[j]? = some a → ∃ b, r[j]? = some b ∧ R a b
 | _, _, .nil, j, a, h => by simp at h
 | _, _, .cons hr h, 0, a, ha => by simp at ha; subst ha; exact ⟨_, rfl, hr⟩
 | _, _, .cons hr h, j + 1, a, ha => by simpa using h.get (by simpa using ha)

theorem RelV.sameHeap {w' : World} {x : Value} (hw : w'.heap = w.heap) (h : RelV m I w ρ v x) : RelV m I w' ρ v x :=
 h.mono (fun _ h => h) (fun _ _ => by rw [hw]) (fun k n hn => by unfold sizeOf? at *; rw [hw]; exact hn) ρ (fun _ _ h => h)
theorem HRel.sameHeap {w' : World} (hw : w'.heap = w.heap) (h : HRel m I O w ρ H) : HRel m I O w' ρ H := by
 refine ⟨h.inj, fun i r hi => ?_, fun i r hi => by rw [hw]; exact h.lt i r hi, fun k hk => by rw [hw]; exact h.own k hk, fun k hk => by rw [hw]; exact h.imm k hk, h.dis, h.tab.step (fun _ h => h) (fun _ _ => by rw [hw])⟩
 obtain ⟨b, hb, hB⟩ := h.blk i r hi
 refine ⟨b, hb, hB.mono ⟨fun _ h => h, fun _ _ h => h, fun _ _ => by rw [hw], fun k n hn => by unfold sizeOf? at *; rw [hw]; exact hn⟩ (fun _ h => h) (by rw [hw])⟩

structure RegOK (P : Program) (m : Nat → Option Nat) (nt : Nat) (ops : Array Oper) (kl : List Op) : Prop where
 all : All2 (OpOK P m nt ops) ops.toList kl
 wait : ∀ (j : Nat) (o : Oper) (k : Op), ops[j]? = some o → kl[j]? = some k → ∀ x, (∃ ed, ed ∈ o.after ∧ Region.binds .any ed = true ∧ ed.on = x) ↔ x ∈ k.wait
 early : ∀ (j : Nat) (k : Op), kl[j]? = some k → ∀ x, x ∈ k.wait → x < j
 order : ∀ (i j : Nat) (o o' : Oper), i < j → ops[i]? = some o → ops[j]? = some o' → i ∈ (ancs kl []).getD j [] ∨ Oper.apart ops o o' = true

theorem evOp_len {oc : EOp} {q : Bool} (h : evOp call own oc e H = some (v, H', q)) : H.length ≤ H'.length := by
 cases q with
 | true => obtain ⟨news, rfl⟩ := evOp_prefix h; simp
 | false =>
  cases oc
  case call f xs =>
   have h' : callEv call own (f.ev e) (xs.map (R.ev e)) H = some (v, H', false) := h
   obtain ⟨_, _, _, ⟨p⟩⟩ := callEv_parts h'
   rw [p.loud rfl, List.length_append, putBack_len]
   split <;> simp [freeze_len]
  case apz sz bytes z rx rn =>
   have h' : apzN sz bytes z (rx.ev e) (rn.ev e) e H = some (v, H', false) := h
   unfold apzN at h'
   split at h' <;> try (cases h'; done)
   split at h' <;> try (cases h'; done)
   split at h'
   ·simp at h'
   ·simp at h'
   ·simp only [Option.bind_eq_some_iff] at h'
    obtain ⟨d, _, h'⟩ := h'
    exact (evE_alive (evN_false h')).1
  all_goals (
   simp only [evOp] at h
   split at h
   ·simp at h
   ·simp only [Option.map_eq_some_iff, Prod.mk.injEq, and_true] at h
    obtain ⟨⟨v1, H1⟩, h1, rfl, rfl⟩ := h
    exact (evE_alive h1).1)
theorem Trace.len {bar : Nat → Bool} {ops : List Op} {i0 : Nat} (t : Trace call own bar i0 ops e H e' H') {i : Nat} : ∀ {k : Nat}, i ≤ k → k ≤ ops.length → (t.HH i).length ≤ (t.HH k).length
 | 0, hi, _ => by simp [show i = 0 by omega]
 | k + 1, hi, hk => by
  rcases Nat.lt_or_ge k i with hn | hn
  ·simp [show i = k + 1 by omega]
  ·have ih := t.len (k := k) hn (by omega)
   have ho : ops[k]? = some ops[k] := List.getElem?_eq_getElem (by omega)
   cases hw : t.ww k with
   | true => exact Nat.le_trans ih (evOp_len (t.run k _ ho hw))
   | false => rw [(t.idle k _ ho hw).2.1]; exact ih

theorem barrier_spec {ops : List Op} {A : List (List Nat)} {j : Nat} (h : barrier ops A j = true) : (∀ i, i < j → pures ops i = false → i ∈ A.getD j []) ∧ ∀ k, j < k → k < A.length → pures ops k = false → j ∈ A.getD k [] := by
 simp only [barrier, Bool.and_eq_true, List.all_eq_true, List.mem_range, Bool.or_eq_true, decide_eq_true_eq, List.contains_eq_mem] at h
 refine ⟨fun i hi hp => ?_, fun k h1 h2 hp => ?_⟩
 ·rcases h.1 i hi with h3 | h3
  ·exact h3
  ·rw [hp] at h3; cases h3
 ·rcases h.2 k h2 with (h3 | h3) | h3
  ·omega
  ·exact h3
  ·rw [hp] at h3; cases h3

theorem pure_same {o : EOp} {H2 : List Blk} (hp : pureO o = true) : evQ o e H = evQ o e H2 := by
 cases o
 case len s x => cases s <;> rfl
 all_goals first | rfl | cases hp
theorem pure_evE {o : EOp} (hp : pureO o = true) : evE o e H = none := by
 cases o <;> first | rfl | cases hp
theorem pure_nil {o : EOp} {news : List Blk} (hp : pureO o = true) (h : evQ o e H = some (v, news)) : news = [] := by
 cases o <;> first | cases hp | skip
 all_goals (try simp only [evQ] at h) <;> (repeat' split at h) <;> (try simp only [Option.map_eq_some_iff, Option.bind_eq_some_iff, Prod.mk.injEq, Option.some.injEq] at h) <;> grind
theorem pure_op {o : EOp} {q : Bool} {H2 : List Blk} (hp : pureO o = true) (h : evOp call own o e H = some (v, H', q)) : q = true ∧ H' = H ∧ evOp call own o e H2 = some (v, H2, true) := by
 have hnc : ∀ f l, o ≠ .call f l := fun f l e => by subst e; cases hp
 have hd : ∀ H, evOp call own o e H = (match evQ o e H with | some (v, news) => some (v, H ++ news, true) | none => (evE o e H).map fun (v, H) => (v, H, false)) := by
  intro H; cases o <;> first | rfl | exact absurd rfl (hnc _ _) | cases hp
 rw [hd] at h
 cases hq : evQ o e H with
 | none => rw [hq, pure_evE hp] at h; cases h
 | some r =>
  obtain ⟨v1, n1⟩ := r
  have := pure_nil hp hq
  subst this
  rw [hq] at h
  simp only [Option.some.injEq, Prod.mk.injEq] at h
  obtain ⟨rfl, rfl, rfl⟩ := h
  refine ⟨rfl, by simp, ?_⟩
  rw [hd, ← pure_same (H := H) hp, hq]
  simp
theorem Trace.still {bar : Nat → Bool} {ops : List Op} {i0 : Nat} (t : Trace call own bar i0 ops e H e' H') {i : Nat} : ∀ {k : Nat}, i ≤ k → k ≤ ops.length → (∀ j, i ≤ j → j < k → pures ops j = true) → t.HH k = t.HH i
 | 0, hi, _, _ => by simp [show i = 0 by omega]
 | k + 1, hi, hk, h => by
  rcases Nat.lt_or_ge k i with hn | hn
  ·simp [show i = k + 1 by omega]
  ·have ih := t.still (k := k) hn (by omega) (fun j h1 h2 => h j h1 (by omega))
   have ho : ops[k]? = some ops[k] := List.getElem?_eq_getElem (by omega)
   cases hw : t.ww k with
   | true =>
    have hp := h k hn (by omega)
    simp only [pures, ho, Option.map_some, Option.getD_some] at hp
    rw [← ih]; exact (pure_op (H2 := H) hp (t.run k _ ho hw)).2.1
   | false => rw [(t.idle k _ ho hw).2.1]; exact ih
theorem Trace.pure_quiet {bar : Nat → Bool} {ops : List Op} {i0 : Nat} (t : Trace call own bar i0 ops e H e' H') {j : Nat} (hj : j < ops.length) (hq : t.qq j = false) : pures ops j = false := by
 have ho : ops[j]? = some ops[j] := List.getElem?_eq_getElem hj
 cases hp : pures ops j with
 | false => rfl
 | true =>
  simp only [pures, ho, Option.map_some, Option.getD_some] at hp
  cases hw : t.ww j with
  | true => have := (pure_op (H2 := H) hp (t.run j _ ho hw)).1; rw [hq] at this; cases this
  | false => have := (t.idle j _ ho hw).2.2; rw [hq] at this; cases this

abbrev ins (listed : Array Bool) (j : Nat) : Bool := listed.getD j false

structure DInv {kl : List Op} {bar : Nat → Bool} (t : Trace call own bar 0 kl e H e' H') (m : Nat → Option Nat) (nt n0 : Nat) (I O : Nat → Prop) (w : World) (ρ : Pl) (listed : Array Bool) (a' : Act) (w' : World) (k : Nat) (I' O' : Nat → Prop) (ρ' : Pl) : Prop where
 size : listed.size = kl.length
 closed : ∀ (j : Nat) (o : Op), kl[j]? = some o → ins listed j = true → ∀ x, x ∈ o.wait → ins listed x = true
 le : k ≤ kl.length
 before : ∀ j, ins listed j = true → pures kl j = false → j < k
 loud : ∀ j, j < k → t.qq j = false → ins listed j = true
 heap : HRel m I' O' w' ρ' (t.HH k)
 open_ : ∀ j, j < k → ins listed j = false → ∀ i, (t.HH j).length ≤ i → i < (t.HH (j + 1)).length → ρ' i = none
 env : ∀ u, RelV m I' w' ρ' (slotAt kl e t.vv (ins listed) kl.length u) (a'.tmps.getD u undef)
 cg : CG n0 I O w ρ H I' O' w' ρ' (t.HH k)
 base : n0 ≤ H.length
 tsize : a'.tmps.size = nt
 defers : a'.defers = []

theorem ins_set {listed : Array Bool} {i j : Nat} (hi : i < listed.size) : ins (listed.setIfInBounds i true) j = if i = j then true else ins listed j := by
 simp only [ins, Array.getD_eq_getD_getElem?, Array.getElem?_setIfInBounds]
 by_cases e : i = j
 ·subst e; simp [hi]
 ·simp [e]

theorem ready_spec {ops : Array Oper} {listed : Array Bool} {i : Nat} (h : i ∈ Region.ready .any ops listed) : ∃ o, ops[i]? = some o ∧ listed.getD i true = false ∧ ∀ ed, ed ∈ o.after → Region.binds .any ed = true → ins listed ed.on = true := by
 simp only [Region.ready, List.mem_filter, List.mem_range, Bool.and_eq_true, Bool.not_eq_true'] at h
 obtain ⟨h1, h2, h3⟩ := h
 have ho : ops[i]? = some ops[i] := Array.getElem?_eq_getElem h1
 rw [ho] at h3
 simp only [Option.map_some, Option.getD_some, Array.all_eq_true_iff_forall_mem, Bool.or_eq_true, Bool.not_eq_true'] at h3
 refine ⟨ops[i], ho, h2, fun ed he hb => ?_⟩
 rcases h3 ed he with h | h
 ·rw [hb] at h; cases h
 ·exact h
theorem ready_none {ops : Array Oper} {listed : Array Bool} (hs : listed.size = ops.size) (h : Region.ready .any ops listed = []) (he : ∀ (j : Nat) (o : Oper), ops[j]? = some o → ∀ ed, ed ∈ o.after → Region.binds .any ed = true → ed.on < j) : ∀ j, j < ops.size → ins listed j = true := by
 intro j
 induction j using Nat.strongRecOn with
 | _ j ih =>
  intro hj
  cases hl : ins listed j with
  | true => rfl
  | false =>
   have ho : ops[j]? = some ops[j] := Array.getElem?_eq_getElem hj
   have : j ∈ Region.ready .any ops listed := by
    simp only [Region.ready, List.mem_filter, List.mem_range, Bool.and_eq_true, Bool.not_eq_true']
    refine ⟨hj, ?_, ?_⟩
    ·simp only [ins, Array.getD_eq_getD_getElem?] at hl ⊢
     rw [Array.getElem?_eq_getElem (by omega)] at hl ⊢
     exact hl
    ·rw [ho]
     simp only [Option.map_some, Option.getD_some, Array.all_eq_true_iff_forall_mem, Bool.or_eq_true, Bool.not_eq_true']
     intro ed hed
     cases hb : Region.binds .any ed with
     | false => exact .inl rfl
     | true =>
      have := he j _ ho ed hed hb
      exact .inr (ih _ this (by omega))
   rw [h] at this
   simp at this

variable {ops : Array Oper} {kl : List Op}
theorem DInv.done (ht : RegOK P m nt ops kl) {t : Trace call own (barrier kl (ancs kl [])) 0 kl e H e' H'} {listed : Array Bool} {a' : Act} {w' : World} {k : Nat} {I' O' : Nat → Prop} {ρ' : Pl} (h : DInv t m nt n0 I O w ρ listed a' w' k I' O' ρ')
  (hall : ∀ j, j < kl.length → ins listed j = true) : SRel m nt n0 I' O' w' ρ' e' H' a' ∧ CG n0 I O w ρ H I' O' w' ρ' H' := by
 have hk : t.HH kl.length = t.HH k := t.still h.le (Nat.le_refl _) (fun j h1 h2 => by
  cases hp : pures kl j with
  | true => rfl
  | false => have := h.before j (hall j h2) hp; omega)
 have hc := h.cg
 have hh := h.heap
 rw [← hk, t.hN] at hc hh
 refine ⟨⟨fun u => ?_, hh, hc.len, h.tsize, h.defers⟩, hc⟩
 have := h.env u
 rw [slotAt_congr (S' := fun _ => true) (fun j hj _ => hall j hj), ← t.look (Nat.le_refl _), t.eN] at this
 exact this

theorem DInv.step (ht : RegOK P m nt ops kl) (hcall : CallSnd P m call) {t : Trace call own (barrier kl (ancs kl [])) 0 kl e H e' H'} {listed : Array Bool} {a' : Act} {w' : World} {k : Nat} {I' O' : Nat → Prop} {ρ' : Pl} (h : DInv t m nt n0 I O w ρ listed a' w' k I' O' ρ')
  {i : Nat} (hr : i ∈ Region.ready .any ops listed) {K : Act → World → Prop}
  (hK : ∀ a' w' k I' O' ρ', DInv t m nt n0 I O w ρ (listed.setIfInBounds i true) a' w' k I' O' ρ' → K a' w') : wpOp P ops Q i K a' w' := by
 obtain ⟨o, ho, hun, hready⟩ := ready_spec hr
 have hoL : ops.toList[i]? = some o := by simpa using ho
 obtain ⟨ko, hko, hk⟩ := ht.all.get hoL
 have hi : i < kl.length := (List.getElem?_eq_some_iff.1 hko).1
 have hil : i < listed.size := by rw [h.size]; exact hi
 have hun' : ins listed i = false := by
  simp only [ins, Array.getD_eq_getD_getElem?] at hun ⊢
  rw [Array.getElem?_eq_getElem hil] at hun ⊢
  exact hun
 have hwait : ∀ x, x ∈ ko.wait → ins listed x = true := by
  intro x hx
  obtain ⟨ed, h1, h2, rfl⟩ := (ht.wait i o ko ho hko x).2 hx
  exact hready ed h1 h2
 have anc : ∀ x, x ∈ (ancs kl []).getD i [] → ins listed x = true := fun x hx =>
  ancs_closed (S := fun x => ins listed x = true) h.closed i x (fun o' ho' => by rw [hko] at ho'; injection ho' with e; subst e; exact hwait) hx
 have desc : ∀ j, i ∈ (ancs kl []).getD j [] → ins listed j = false := by
  intro j hj
  cases hl : ins listed j with
  | false => rfl
  | true =>
   have := ancs_closed (S := fun x => ins listed x = true) h.closed j i (fun o' ho' => h.closed j o' ho' hl) hj
   rw [hun'] at this; cases this
 have hAlen : (ancs kl []).length = kl.length := by rw [ancs_len]; simp
 -- the slots that it touches
 have hdst : ∀ j oj, ops[j]? = some oj → dstAt kl j = oj.dst := by
  intro j oj hoj
  obtain ⟨kj, hkj, hkk⟩ := ht.all.get (by simpa using hoj : ops.toList[j]? = some oj)
  simp [dstAt, hkj, hkk.dst]
 have touch : ∀ u, (u ∈ o.looksAt ops ∨ o.dst = some u) → ∀ j, j < kl.length → j ≠ i → dstAt kl j = some u → ins listed j = decide (j < i) := by
  intro u hu j hj hne hd
  have hjo : j < ops.size := by rw [← Array.length_toList, ht.all.length]; exact hj
  have hoj : ops[j]? = some ops[j] := Array.getElem?_eq_getElem hjo
  rw [hdst j _ hoj] at hd
  rcases Nat.lt_or_ge j i with hlt | hge
  ·simp only [hlt, decide_true]
   rcases ht.order j i _ _ hlt hoj ho with h1 | h1
   ·exact anc j h1
   ·exfalso
    obtain ⟨p1, p2, p3⟩ := Oper.apart_spec h1
    rcases hu with hu | hu
    ·exact p1 u hd hu
    ·exact p2 u hd hu
  ·have hlt : i < j := by omega
   simp only [show ¬ j < i by omega, decide_false]
   rcases ht.order i j _ _ hlt ho hoj with h1 | h1
   ·exact desc j h1
   ·exfalso
    obtain ⟨p1, p2, p3⟩ := Oper.apart_spec h1
    rcases hu with hu | hu
    ·exact p3 u hd hu
    ·exact p2 u hu hd
 have hslot : ∀ u, u ∈ o.looksAt ops → slotAt kl e t.vv (ins listed) kl.length u = look (t.E i) u := by
  intro u hu
  rw [t.look (Nat.le_of_lt hi)]
  rw [slotAt_cut (i := i) (Nat.le_of_lt hi) (fun j h1 h2 hd => ?_)]
  ·exact slotAt_congr (fun j hj hd => by rw [touch u (.inl hu) j (by omega) (by omega) hd]; simp [hj])
  ·rcases Nat.eq_or_lt_of_le h1 with e1 | e1
   ·rw [← e1]; exact hun'
   ·rw [touch u (.inl hu) j h2 (by omega) hd]; simp; omega
 have hrel : ∀ u, u ∈ o.looksAt ops → RelV m I' w' ρ' (look (t.E i) u) (a'.tmps.getD u undef) := fun u hu => by
  rw [← hslot u hu]; exact h.env u
 have hops : ORel m I' w' ρ' (t.E i) a' o.op.operands.toList := by
  intro x hx
  cases x with
  | tmp u =>
   refine hrel u ?_
   simp only [Oper.looksAt, List.mem_append, List.mem_filterMap]
   exact .inl ⟨.tmp u, hx, rfl⟩
  | global g => exact fun t ht => h.heap.tab.rel ht
  | const v => exact True.intro
  | func f => exact True.intro
 have hwant := wants_wanted (e := t.E i) (ρ := ρ') (I := I') (a := a') hk (fun s want hs => hrel s (by
  have hg := hk.guard
  rw [hs] at hg
  cases hog : o.guard with
  | none => rw [hog] at hg; exact hg.elim
  | some p =>
   obtain ⟨g, want'⟩ := p
   rw [hog] at hg
   simp only [Oper.looksAt, List.mem_append, hog]
   exact .inr (by rw [hg.2]; simp))) (t.want i ko hko)
 have hd : ∀ d, o.dst = some d → d < a'.tmps.size := fun d hd => by rw [h.tsize]; exact hk.lt d hd
 -- the invariant behind it
 have hSet : ∀ j, ins (listed.setIfInBounds i true) j = if i = j then true else ins listed j := fun j => ins_set hil
 have hclosed : ∀ (j : Nat) (o : Op), kl[j]? = some o → ins (listed.setIfInBounds i true) j = true → ∀ x, x ∈ o.wait → ins (listed.setIfInBounds i true) x = true := by
  intro j oj hoj hj x hx
  rw [hSet] at hj ⊢
  split
  ·rfl
  ·split at hj
   ·rename_i e1; subst e1; rw [hko] at hoj; injection hoj with e2; subst e2; exact hwait x hx
   ·exact h.closed j oj hoj hj x hx
 have henv : ∀ {I1 : Nat → Prop} {w1 : World} {ρ1 : Pl} {x : Value}, Mono I' w' ρ' I1 w1 ρ1 → RelV m I1 w1 ρ1 (t.vv i) x → ∀ u, RelV m I1 w1 ρ1 (slotAt kl e t.vv (ins (listed.setIfInBounds i true)) kl.length u) ((a'.put o.dst x).tmps.getD u undef) := by
  intro I1 w1 ρ1 x hm hx u
  rw [put_get hd]
  split
  ·rename_i hu
   rw [slotAt_last hi (by rw [hSet]; simp) (by rw [hdst i o ho]; exact hu) (fun j h1 h2 hdj => by
    rw [hSet, if_neg (by omega), touch u (.inr hu) j h2 (by omega) hdj]; simp; omega)]
   exact hx
  ·rename_i hu
   rw [slotAt_congr (S' := ins listed) (fun j hj hdj => by
    rw [hSet]
    split
    ·rename_i e1; subst e1; rw [hdst i o ho] at hdj; exact absurd hdj hu
    ·rfl)]
   exact hm.rel (h.env u)
 unfold wpOp
 rw [ho]
 simp only []
 rw [hwant]
 cases hpi : pures kl i with
 | true =>
  have hbef : ∀ j, ins (listed.setIfInBounds i true) j = true → pures kl j = false → j < k := fun j hj hp => by
   rw [hSet] at hj
   split at hj
   ·rename_i e1; subst e1; rw [hpi] at hp; cases hp
   ·exact h.before j hj hp
  have hloud : ∀ j, j < k → t.qq j = false → ins (listed.setIfInBounds i true) j = true := fun j hj hqj => by
   rw [hSet]
   split
   ·rfl
   ·exact h.loud j hj hqj
  have hp : pureO ko.o = true := by simpa only [pures, hko, Option.map_some, Option.getD_some] using hpi
  cases hw : t.ww i with
  | false =>
   rw [if_neg (by simp)]
   obtain ⟨hv, hH, hq⟩ := t.idle i ko hko hw
   refine hK _ _ k I' O' ρ' ⟨by simp [h.size], hclosed, h.le, hbef, hloud, h.heap, fun j hj hjl i' h1 h2 => ?_, henv (.refl _ _ _) (by rw [hv]; exact rel_undef), h.cg, h.base, by rw [put_size]; exact h.tsize, by rw [put_defers]; exact h.defers⟩
   rw [hSet] at hjl
   split at hjl
   ·cases hjl
   ·exact h.open_ j hj hjl i' h1 h2
  | true =>
   rw [if_pos rfl]
   refine .inl ?_
   have hop := (pure_op (H2 := t.HH k) hp (t.run i ko hko hw)).2.2
   refine op_q hk.op.choose_spec.2 hcall hk.op.choose_spec.1 hops h.heap hop prefix_refl (fun i' h1 h2 => by omega) _ _ (fun x w1 hL => ?_)
   obtain ⟨I1, O1, ρ1, r1, r2, r3⟩ := hL
   have hmono := r3.mono
   have hsame : ∀ i' r, ρ1 i' = some r → ρ' i' = some r := fun i' r hr => by
    rcases r3.pl' i' r hr with h1 | ⟨h1, h2, _⟩
    ·exact h1
    ·omega
   have hcg : CG n0 I' O' w' ρ' (t.HH k) I1 O1 w1 ρ1 (t.HH k) :=
    GS.cg r3.gs (.refl _) h.cg.len h.heap
   refine hK _ _ k I1 O1 ρ1 ⟨by simp [h.size], hclosed, h.le, hbef, hloud, r2, fun j hj hjl i' h1 h2 => ?_, henv hmono r1, h.cg.trans hcg, h.base, by rw [put_size]; exact h.tsize, by rw [put_defers]; exact h.defers⟩
   rw [hSet] at hjl
   split at hjl
   ·cases hjl
   ·have h0 := h.open_ j hj hjl i' h1 h2
    cases hr' : ρ1 i' with
    | none => rfl
    | some r => rw [hsame i' r hr'] at h0; cases h0
 | false =>
 cases hw : t.ww i with
 | false =>
  rw [if_neg (by simp)]
  obtain ⟨hv, hH, hq⟩ := t.idle i ko hko hw
  have hkk : ∀ j, k ≤ j → j < i → t.qq j = true := by
   intro j h1 h2
   cases hqj : t.qq j with
   | true => rfl
   | false =>
    have hb := t.bars j kl[j] (List.getElem?_eq_getElem (by omega)) hqj
    rw [Nat.zero_add] at hb
    have := anc j ((barrier_spec hb).2 i h2 (by omega) hpi)
    have := h.before j this (t.pure_quiet (by omega) hqj)
    omega
  obtain ⟨k', hk1, hk2, hk3, hk4, hk5⟩ : ∃ k', k' ≤ kl.length ∧ i < k' ∧ k ≤ k' ∧ (∃ news, t.HH k' = t.HH k ++ news) ∧ (∀ j, k ≤ j → j < k' → t.qq j = true) := by
   rcases Nat.lt_or_ge i k with hik | hik
   ·exact ⟨k, h.le, hik, Nat.le_refl _, ⟨[], by simp⟩, fun j h1 h2 => by omega⟩
   ·have hall : ∀ j, k ≤ j → j < i + 1 → t.qq j = true := fun j h1 h2 => by
     rcases Nat.eq_or_lt_of_le (Nat.le_of_lt_succ h2) with e1 | e1
     ·subst e1; exact hq
     ·exact hkk j h1 e1
    exact ⟨i + 1, hi, by omega, by omega, t.pref (by omega) hi hall, hall⟩
  obtain ⟨news, hnews⟩ := hk4
  have hp : ∀ (i : Nat) (b : Blk), (t.HH k)[i]? = some b → (t.HH k')[i]? = some b := fun i b hb => by rw [hnews, List.getElem?_append_left (List.getElem?_eq_some_iff.1 hb).1]; exact hb
  have hcg : CG n0 I' O' w' ρ' (t.HH k) I' O' w' ρ' (t.HH k') := by
   have h1 := (GS.cg (H' := t.HH k') ⟨.refl _ _ _, .refl _ _, fun _ h => .inl h, fun _ h => .inl h, fun _ _ h => .inl h⟩ (by rw [hnews]; exact alive_append _ _) h.cg.len h.heap)
   exact h1
  refine hK _ _ k' I' O' ρ' ⟨by simp [h.size], hclosed, hk1, fun j hj hpj => ?_, fun j hj hqj => ?_, h.heap.grow hp, fun j hj hjl i' h1 h2 => ?_, henv (.refl _ _ _) (by rw [hv]; exact rel_undef), h.cg.trans hcg, h.base, by rw [put_size]; exact h.tsize, by rw [put_defers]; exact h.defers⟩
  ·rw [hSet] at hj
   split at hj
   ·omega
   ·have := h.before j hj hpj; omega
  ·rw [hSet]
   split
   ·rfl
   ·rcases Nat.lt_or_ge j k with hjk | hjk
    ·exact h.loud j hjk hqj
    ·rw [hk5 j hjk hj] at hqj; cases hqj
  ·rw [hSet] at hjl
   split at hjl
   ·cases hjl
   ·rcases Nat.lt_or_ge j k with hjk | hjk
    ·exact h.open_ j hjk hjl i' h1 h2
    ·refine h.heap.none ?_
     obtain ⟨n2, hn2⟩ := t.pref (i := k) (k := j) hjk (by omega) (fun j' h1 h2 => hk5 j' h1 (by omega))
     have : (t.HH j).length = (t.HH k).length + n2.length := by rw [hn2]; simp
     omega
 | true =>
  rw [if_pos rfl]
  refine .inl ?_
  have hop := t.run i ko hko hw
  cases hq : t.qq i with
  | true =>
   rw [hq] at hop
   -- the quiet ones between
   have hup : ∀ j, i < j → j < k → t.qq j = true := by
    intro j h1 h2
    cases hqj : t.qq j with
    | true => rfl
    | false =>
     have hl := h.loud j h2 hqj
     have hjl : j < kl.length := by have := h.le; omega
     have hb := t.bars j kl[j] (List.getElem?_eq_getElem hjl) hqj
     rw [Nat.zero_add] at hb
     have := desc j ((barrier_spec hb).1 i h1 hpi)
     rw [hl] at this; cases this
   have hkk : ∀ j, k ≤ j → j < i → t.qq j = true := by
    intro j h1 h2
    cases hqj : t.qq j with
    | true => rfl
    | false =>
     have hb := t.bars j kl[j] (List.getElem?_eq_getElem (by omega)) hqj
     rw [Nat.zero_add] at hb
     have := anc j ((barrier_spec hb).2 i h2 (by omega) hpi)
     have := h.before j this (t.pure_quiet (by omega) hqj)
     omega
   obtain ⟨k', hk1, hk2, hk3, hk4, hk5, hk6⟩ : ∃ k', k' ≤ kl.length ∧ i < k' ∧ k ≤ k' ∧ (∃ news, t.HH k' = t.HH k ++ news) ∧ (∀ j, k ≤ j → j < k' → t.qq j = true) ∧ (∃ news, t.HH k' = t.HH (i + 1) ++ news) := by
    rcases Nat.lt_or_ge i k with hik | hik
    ·exact ⟨k, h.le, hik, Nat.le_refl _, ⟨[], by simp⟩, fun j h1 h2 => by omega, t.pref (by omega) h.le (fun j h1 h2 => hup j (by omega) h2)⟩
    ·have hall : ∀ j, k ≤ j → j < i + 1 → t.qq j = true := fun j h1 h2 => by
      rcases Nat.eq_or_lt_of_le (Nat.le_of_lt_succ h2) with e1 | e1
      ·subst e1; exact hq
      ·exact hkk j h1 e1
     exact ⟨i + 1, hi, by omega, by omega, t.pref (by omega) hi hall, hall, [], by simp⟩
   obtain ⟨news, hnews⟩ := hk4
   obtain ⟨news2, hnews2⟩ := hk6
   obtain ⟨news1, hnews1⟩ := evOp_prefix hop
   have hp : ∀ (i : Nat) (b : Blk), (t.HH k)[i]? = some b → (t.HH k')[i]? = some b := fun i b hb => by rw [hnews, List.getElem?_append_left (List.getElem?_eq_some_iff.1 hb).1]; exact hb
   have hp2 : ∀ (j : Nat) (b : Blk), (t.HH (i + 1))[j]? = some b → (t.HH k')[j]? = some b := fun j b hb => by rw [hnews2, List.getElem?_append_left (List.getElem?_eq_some_iff.1 hb).1]; exact hb
   have hheap := h.heap.grow hp
   have hopen : ∀ j, j < k' → ins listed j = false → ∀ i', (t.HH j).length ≤ i' → i' < (t.HH (j + 1)).length → ρ' i' = none := by
    intro j hj hjl i' h1 h2
    rcases Nat.lt_or_ge j k with hjk | hjk
    ·exact h.open_ j hjk hjl i' h1 h2
    ·refine h.heap.none ?_
     obtain ⟨n2, hn2⟩ := t.pref (i := k) (k := j) hjk (by omega) (fun j' h1 h2 => hk5 j' h1 (by omega))
     have : (t.HH j).length = (t.HH k).length + n2.length := by rw [hn2]; simp
     omega
   refine op_q hk.op.choose_spec.2 hcall hk.op.choose_spec.1 hops hheap hop hp2 (fun i' h1 h2 => hopen i hk2 hun' i' h1 h2) _ _ (fun x w1 hL => ?_)
   obtain ⟨I1, O1, ρ1, r1, r2, r3⟩ := hL
   have hmono := r3.mono
   have hlenk : (t.HH (i + 1)).length ≤ (t.HH k').length := by rw [hnews2]; simp
   have hcg : CG n0 I' O' w' ρ' (t.HH k) I1 O1 w1 ρ1 (t.HH k') := by
    have hn : n0 ≤ (t.HH k).length := h.cg.len
    refine ⟨hmono.imm, r3.ext, fun k hk => (r3.imm' k hk).elim .inl (fun h => .inr (.inr h)), r3.own', fun i' hi' => ?_, fun i' r hr hi' => ?_, by rw [hnews]; simp; omega, fun j hj hl => (alive_append _ news).2 j (by omega) (by rw [← hnews]; exact hl)⟩
    ·have hcgl : i' < (t.HH i).length := by
      have := t.len (i := 0) (k := i) (by omega) (by omega)
      rw [t.h0] at this
      have := h.base
      omega
     cases hr : ρ' i' with
     | some r => exact hmono.pl i' r hr
     | none =>
      cases hr' : ρ1 i' with
      | none => rfl
      | some r =>
       rcases r3.pl' i' r hr' with h1 | ⟨h1, h2, _⟩
       ·rw [hr] at h1; cases h1
       ·omega
    ·rcases r3.pl' i' r hr with h1 | ⟨_, _, h1⟩
     ·exact .inr (.inr ⟨i', hi', h1⟩)
     ·exact .inr (.inl h1)
   refine hK _ _ k' I1 O1 ρ1 ⟨by simp [h.size], hclosed, hk1, fun j hj hpj => ?_, fun j hj hqj => ?_, r2, fun j hj hjl i' h1 h2 => ?_, henv hmono r1, h.cg.trans hcg, h.base, by rw [put_size]; exact h.tsize, by rw [put_defers]; exact h.defers⟩
   ·rw [hSet] at hj
    split at hj
    ·omega
    ·have := h.before j hj hpj; omega
   ·rw [hSet]
    split
    ·rfl
    ·rcases Nat.lt_or_ge j k with hjk | hjk
     ·exact h.loud j hjk hqj
     ·rw [hk5 j hjk hj] at hqj; cases hqj
   ·rw [hSet] at hjl
    split at hjl
    ·cases hjl
    ·rename_i hne
     have h0 := hopen j hj hjl i' h1 h2
     cases hr' : ρ1 i' with
     | none => rfl
     | some r =>
      exfalso
      rcases r3.pl' i' r hr' with h3 | ⟨h3, h4, _⟩
      ·rw [h0] at h3; cases h3
      ·rcases Nat.lt_trichotomy j i with e1 | e1 | e1
       ·have := t.len (i := j + 1) (k := i) (by omega) (by omega); omega
       ·exact hne e1.symm
       ·have := t.len (i := i + 1) (k := j) (by omega) (by omega); omega
  | false =>
   rw [hq] at hop
   have hb := t.bars i ko hko hq
   rw [Nat.zero_add] at hb
   obtain ⟨hb1, hb2⟩ := barrier_spec hb
   have hki : k ≤ i := by
    rcases Nat.lt_or_ge i k with h1 | h1
    ·have := h.loud i h1 hq; rw [hun'] at this; cases this
    ·exact h1
   have hstill : t.HH i = t.HH k := t.still hki (Nat.le_of_lt hi) (fun j h1 h2 => by
    cases hp : pures kl j with
    | true => rfl
    | false => have := h.before j (anc j (hb1 j h2 hp)) hp; omega)
   rw [hstill] at hop
   refine op_a hk.op.choose_spec.2 hcall hk.op.choose_spec.1 hops h.heap hop _ _ (fun x w1 hL => ?_)
   obtain ⟨I1, O1, ρ1, r1, r2, r3, r4⟩ := hL
   refine hK _ _ (i + 1) I1 O1 ρ1 ⟨by simp [h.size], hclosed, hi, fun j hj hpj => ?_, fun j hj hqj => ?_, r2, fun j hj hjl i' h1 h2 => ?_, henv r3.mono r1, h.cg.trans (r3.cg r4 h.cg.len h.heap), h.base, by rw [put_size]; exact h.tsize, by rw [put_defers]; exact h.defers⟩
   ·rw [hSet] at hj
    split at hj
    ·omega
    ·have := h.before j hj hpj; omega
   ·rw [hSet]
    split
    ·rfl
    ·rename_i hne
     have hji : j < i := by omega
     exact anc j (hb1 j hji (t.pure_quiet (by omega) hqj))
   ·rw [hSet] at hjl
    split at hjl
    ·cases hjl
    ·rename_i hne
     have hji : j < i := by omega
     cases hp : pures kl j with
     | false => have := anc j (hb1 j hji hp); rw [hjl] at this; cases this
     | true =>
      have := t.still (i := j) (k := j + 1) (by omega) (by omega) (fun j' h1 h2 => by rw [show j' = j by omega]; exact hp)
      rw [this] at h2; omega
end

section
open Go
set_option linter.unusedSimpArgs false
set_option linter.unusedVariables false
variable {P : Program} {w : World} {m : Nat → Option Nat} {I O : Nat → Prop} {ρ : Pl} {H H' Hb : List Blk} {v : V} {e e' : Env} {a : Act} {call : CallF} {own : Nat → Mode} {n0 nt : Nat} {Q : Exit → Act → World → Prop} {ops : Array Oper} {kl : List Op}

def cnt (listed : Array Bool) (n : Nat) : Nat := ((List.range n).filter fun j => !ins listed j).length
theorem cnt_set {listed : Array Bool} {n i : Nat} (hs : listed.size = n) (hi : i < n) (hl : ins listed i = false) : cnt (listed.setIfInBounds i true) n < cnt listed n := by
 unfold cnt
 have : ((List.range n).filter fun j => !ins (listed.setIfInBounds i true) j) = ((List.range n).filter fun j => !ins listed j).filter fun j => !decide (i = j) := by
  rw [List.filter_filter]
  refine List.filter_congr (fun j _ => ?_)
  rw [ins_set (by omega)]
  by_cases e : i = j <;> simp [e]
 rw [this]
 refine List.length_filter_lt_length_iff_exists.2 ⟨i, ?_, by simp⟩
 rw [List.mem_filter]
 exact ⟨by simpa using hi, by rw [hl]; rfl⟩

theorem any_walk (ht : RegOK P m nt ops kl) (hcall : CallSnd P m call) {t : Trace call own (barrier kl (ancs kl [])) 0 kl e H e' H'}
  (hQ : ∀ I' O' w' ρ' a', SRel m nt n0 I' O' w' ρ' e' H' a' → CG n0 I O w ρ H I' O' w' ρ' H' → Q .normal a' w') :
  ∀ (fuel : Nat) (listed : Array Bool) (a' : Act) (w' : World) (k : Nat) (I' O' : Nat → Prop) (ρ' : Pl), cnt listed kl.length ≤ fuel → DInv t m nt n0 I O w ρ listed a' w' k I' O' ρ' → wpAny P .any ops Q fuel listed a' w' := by
 have hsz : ops.size = kl.length := by rw [← Array.length_toList, ht.all.length]
 have fin : ∀ (listed : Array Bool) (a' : Act) (w' : World) (k : Nat) (I' O' : Nat → Prop) (ρ' : Pl), DInv t m nt n0 I O w ρ listed a' w' k I' O' ρ' → (∀ j, j < kl.length → ins listed j = true) → Q .normal a' w' := by
  intro listed a' w' k I' O' ρ' h hall
  obtain ⟨h1, h2⟩ := h.done ht hall
  exact hQ _ _ _ _ _ h1 h2
 have none : ∀ (listed : Array Bool), listed.size = kl.length → Region.ready .any ops listed = [] → ∀ j, j < kl.length → ins listed j = true := by
  intro listed hs hr j hj
  refine ready_none (by omega) hr (fun j o ho ed he hb => ?_) j (by omega)
  obtain ⟨ko, hko, _⟩ := ht.all.get (by simpa using ho : ops.toList[j]? = some o)
  exact ht.early j ko hko _ ((ht.wait j o ko ho hko ed.on).1 ⟨ed, he, hb, rfl⟩)
 intro fuel
 induction fuel with
 | zero =>
  intro listed a' w' k I' O' ρ' hc h
  have hall : ∀ j, j < kl.length → ins listed j = true := by
   intro j hj
   cases hl : ins listed j with
   | true => rfl
   | false =>
    have : j ∈ (List.range kl.length).filter fun j => !ins listed j := by
     rw [List.mem_filter]
     exact ⟨by simpa using hj, by rw [hl]; rfl⟩
    have := List.length_pos_of_mem this
    unfold cnt at hc; omega
  refine ⟨?_, fin _ _ _ _ _ _ _ h hall⟩
  cases hr : Region.ready .any ops listed with
  | nil => rfl
  | cons i r =>
   obtain ⟨o, ho, hun, _⟩ := ready_spec (ops := ops) (listed := listed) (i := i) (by rw [hr]; simp)
   have hi : i < kl.length := by rw [← hsz]; exact (Array.getElem?_eq_some_iff.1 ho).1
   have := hall i hi
   simp only [ins, Array.getD_eq_getD_getElem?] at hun this
   rw [Array.getElem?_eq_getElem (by rw [h.size]; exact hi)] at hun this
   simp only [Option.getD_some] at hun this
   rw [hun] at this; cases this
 | succ fuel ih =>
  intro listed a' w' k I' O' ρ' hc h
  refine ⟨fun hr => fin _ _ _ _ _ _ _ h (none listed h.size hr), fun i hi => ?_⟩
  refine h.step ht hcall hi (fun a1 w1 k1 I1 O1 ρ1 h1 => ih _ _ _ _ _ _ _ ?_ h1)
  obtain ⟨o, ho, hun, _⟩ := ready_spec hi
  have hik : i < kl.length := by rw [← hsz]; exact (Array.getElem?_eq_some_iff.1 ho).1
  have hl : ins listed i = false := by
   simp only [ins, Array.getD_eq_getD_getElem?] at hun ⊢
   rw [Array.getElem?_eq_getElem (by rw [h.size]; exact hik)] at hun ⊢
   exact hun
  have := cnt_set h.size hik hl
  omega

theorem any_region {id : Nat} (hm : P.follows .mixedOrders = true) (ht : RegOK P m nt ops kl) (hcall : CallSnd P m call) (h : evOps call own (barrier kl (ancs kl [])) 0 kl e H = some (e', H')) (hS : SRel m nt n0 I O w ρ e H a)
  (hQ : ∀ I' O' w' ρ' a', SRel m nt n0 I' O' w' ρ' e' H' a' → CG n0 I O w ρ H I' O' w' ρ' H' → Q .normal a' w') : (Code.region id ops true).wp P Q a w := by
 obtain ⟨t⟩ := trace h
 have hsz : ops.size = kl.length := by rw [← Array.length_toList, ht.all.length]
 refine wp_region_any hm (any_walk ht hcall (t := t) hQ _ _ _ _ 0 I O ρ ?_ ?_)
 ·unfold cnt
  rw [hsz]
  exact Nat.le_trans (List.length_filter_le _ _) (by simp)
 ·have hf : ∀ j, ins (Array.replicate ops.size false) j = false := by
   intro j
   simp only [ins, Array.getD_eq_getD_getElem?, Array.getElem?_replicate]
   split <;> rfl
  refine ⟨by simp [hsz], fun j o _ hj => (by rw [hf] at hj; cases hj), Nat.zero_le _, fun j hj => (by rw [hf] at hj; cases hj), fun j hj => (by omega), ?_, fun j hj => (by omega), fun u => ?_, ?_, hS.len, hS.size, hS.defers⟩
  ·rw [t.h0]; exact HRel.sameHeap (w := w) rfl hS.heap
  ·rw [slotAt_cut (i := 0) (Nat.zero_le _) (fun j _ _ _ => hf j)]
   exact RelV.sameHeap (w := w) rfl (hS.env u)
  ·rw [t.h0]
   exact ⟨fun _ h => h, ⟨rfl, rfl, rfl, Nat.le_refl _, fun _ _ _ => rfl, fun _ _ h => h⟩, fun _ h => .inl h, fun _ h => .inl h, fun _ _ => rfl, fun i r hr hi => .inr (.inr ⟨i, hi, hr⟩), hS.len, fun _ _ h => h⟩
end
end Go.Proofs.YtchoafdpckknmaaDoorE
