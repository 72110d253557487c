/- Stretches of operations, in order. -/
import Derived.Test.YtgjbkgajkcgdfaaEvQ
namespace Go.Proofs.YtgjbkgajkcgdfaaE
open Go
set_option linter.unusedSimpArgs false
set_option linter.unusedVariables false
variable {P : Program} {w : World} {m : Nat → Option Nat} {I O : Nat → Prop} {ρ : Pl} {H H' Hb : List Blk} {v : V} {e e' : Env} {a : Act} {call : CallF} {own : Nat → Bool} {n0 nt : Nat} {Q : Exit → Act → World → Prop}

def ERel (m : Nat → Option Nat) (I : Nat → Prop) (w : World) (ρ : Pl) (e : Env) (a : Act) : Prop := ∀ t, RelV m I w ρ (look e t) (a.tmps.getD t undef)
structure SRel (m : Nat → Option Nat) (nt n0 : Nat) (I O : Nat → Prop) (w : World) (ρ : Pl) (e : Env) (H : List Blk) (a : Act) : Prop where
  env : ERel m I w ρ e a
  heap : HRel m I O w ρ H
  len : n0 ≤ H.length
  size : a.tmps.size = nt
  defers : a.defers = []

theorem GS.cg {I' O' : Nat → Prop} {w' : World} {ρ' : Pl} (h : GS H.length I O w ρ I' O' w' ρ') (al : Alive H H') (hn : n0 ≤ H.length) (hH : HRel m I O w ρ H) : CG n0 I O w ρ H I' O' w' ρ' H' := by
  refine ⟨h.mono.imm, h.ext, h.imm', h.own', fun i hi => ?_, fun i r hr hi => ?_, Nat.le_trans hn al.1, fun j hj hl => al.2 j (by omega) hl⟩
  · cases hr : ρ i with
    | some r => exact h.mono.pl i r hr
    | none =>
      cases hr' : ρ' i with
      | none => rfl
      | some r =>
        rcases h.pl' i r hr' with h1 | ⟨h1, _⟩
        · rw [hr] at h1; cases h1
        · omega
  · rcases h.pl' i r hr with h1 | ⟨_, h1⟩
    · exact .inr (.inr ⟨i, hi, h1⟩)
    · exact h1.elim .inl (fun h => .inr (.inl h))
theorem CG.refl (hn : n0 ≤ H.length) : CG n0 I O w ρ H I O w ρ H :=
  ⟨fun _ h => h, .refl _ _, fun _ h => .inl h, fun _ h => .inl h, fun _ _ => rfl, fun i r hr hi => .inr (.inr ⟨i, hi, hr⟩), hn, fun _ _ h => h⟩
theorem CG.trans {I1 O1 I2 O2 : Nat → Prop} {w1 w2 : World} {ρ1 ρ2 : Pl} {H1 H2 : List Blk} (h : CG n0 I O w ρ H I1 O1 w1 ρ1 H1) (h' : CG n0 I1 O1 w1 ρ1 H1 I2 O2 w2 ρ2 H2) : CG n0 I O w ρ H I2 O2 w2 ρ2 H2 := by
  have back : ∀ k, O1 k ∨ w1.heap.size ≤ k → O k ∨ w.heap.size ≤ k := fun k hk => by
    rcases hk with hk | hk
    · exact h.own' k hk
    · exact .inr (Nat.le_trans h.ext.size hk)
  refine ⟨fun k hk => h'.imm k (h.imm k hk), h.ext.trans h'.ext (fun k hk hlt => ?_), fun k hk => ?_, fun k hk => back k (h'.own' k hk), fun i hi => (h'.pl i hi).trans (h.pl i hi), fun i r hr hi => ?_, h'.len, fun j hj hl => h.live j hj (h'.live j hj hl)⟩
  · rcases h.own' k hk with h1 | h1
    · exact h1
    · omega
  · rcases h'.imm' k hk with h1 | h1
    · exact h.imm' k h1
    · exact .inr (back k h1)
  · rcases h'.pl' i r hr hi with h1 | h1 | ⟨i', h1, h2⟩
    · exact (back r (.inl h1)).elim .inl (fun h => .inr (.inl h))
    · exact (back r (.inr h1)).elim .inl (fun h => .inr (.inl h))
    · exact h.pl' i' r h2 h1

def GuardOK (ops : Array Oper) : Option (Nat × Bool) → Option (Nat × Bool) → Prop
  | none, none => True
  | some (g, want), some (s, want') => want' = want ∧ (ops[g]?).bind (·.dst) = some s
  | _, _ => False
structure OpOK (P : Program) (m : Nat → Option Nat) (nt : Nat) (ops : Array Oper) (o : Oper) (k : Op) : Prop where
  op : compO P m o.op = some k.o
  dst : k.dst = o.dst
  lt : ∀ d, o.dst = some d → d < nt
  guard : GuardOK ops o.guard k.guard

theorem wants_wanted {ops : Array Oper} {o : Oper} {k : Op} {b : Bool} (hk : OpOK P m nt ops o k) (hs : ∀ s want, k.guard = some (s, want) → RelV m I w ρ (look e s) (a.tmps.getD s undef)) (h : wants e k.guard = some b) : Region.wanted o (yielded ops a.tmps) = b := by
  have hg := hk.guard
  unfold Region.wanted
  cases ho : o.guard with
  | none =>
    cases hkg : k.guard with
    | none => rw [hkg] at h; simp only [wants, Option.some.injEq] at h; exact h
    | some p => rw [ho, hkg] at hg; exact hg.elim
  | some p =>
    obtain ⟨g, want⟩ := p
    cases hkg : k.guard with
    | none => rw [ho, hkg] at hg; exact hg.elim
    | some p' =>
      obtain ⟨s, want'⟩ := p'
      rw [ho, hkg] at hg
      obtain ⟨rfl, hd⟩ := hg
      have hr := hs s want' hkg
      rw [hkg] at h
      simp only [wants] at h
      simp only [yielded, hd, Option.bind_some]
      cases hl : look e s with
      | bool t =>
        rw [hl] at h hr
        simp only [Option.some.injEq] at h
        generalize hx : a.tmps.getD s undef = x at hr
        cases hr
        rw [Array.getD_eq_getD_getElem?] at hx
        cases ht : a.tmps[s]? with
        | none => rw [ht] at hx; cases hx
        | some y =>
          rw [ht] at hx
          simp only [Option.getD_some] at hx
          subst hx
          rw [← h]; simp
      | tup l =>
        rw [hl] at h hr
        cases l with
        | cons _ _ => cases h
        | nil =>
          simp only [Option.some.injEq] at h
          subst h
          generalize hx : a.tmps.getD s undef = x at hr
          cases hr
          rw [Array.getD_eq_getD_getElem?] at hx
          cases ht : a.tmps[s]? with
          | none => rfl
          | some y =>
            rw [ht] at hx
            simp only [Option.getD_some] at hx
            subst hx
            rfl
      | _ => rw [hl] at h; cases h

theorem put_get {d : Option Tmp} {x : Value} {t : Nat} (hd : ∀ k, d = some k → k < a.tmps.size) : (a.put d x).tmps.getD t undef = if d = some t then x else a.tmps.getD t undef := by
  cases d with
  | none => simp [Act.put]
  | some d =>
    have := hd d rfl
    simp only [Act.put, Array.getD_eq_getD_getElem?, Array.getElem?_setIfInBounds, Option.some.injEq]
    by_cases e : d = t
    · subst e; simp [this]
    · simp [e]
theorem put_size {d : Option Tmp} {x : Value} : (a.put d x).tmps.size = a.tmps.size := by cases d <;> simp [Act.put]
theorem put_defers {d : Option Tmp} {x : Value} : (a.put d x).defers = a.defers := by cases d <;> simp [Act.put]
theorem look_push {d : Option Nat} {t : Nat} : look (push d v e) t = if d = some t then v else look e t := by
  cases d with
  | none => simp [push]
  | some d => simp only [push, look, Option.some.injEq]
theorem ERel.push {d : Option Tmp} {x : Value} (h : ERel m I w ρ e a) (hd : ∀ k, d = some k → k < a.tmps.size) (hx : RelV m I w ρ v x) : ERel m I w ρ (push d v e) (a.put d x) := by
  intro t
  rw [put_get hd, look_push]
  split
  · exact hx
  · exact h t
theorem rel_undef : RelV m I w ρ (.tup []) undef := .tup _ _ _ rfl (fun j v x h => by simp at h)

inductive All2 {α β : Type} (R : α → β → Prop) : List α → List β → Prop
  | nil : All2 R [] []
  | cons {a b l r} : R a b → All2 R l r → All2 R (a :: l) (b :: r)

theorem seq_region {ops : Array Oper} {bar : Nat → Bool} (hcall : CallSnd P m call) : ∀ {l : List Oper} {kl : List Op} (i : Nat) {e : Env} {H : List Blk} {I O : Nat → Prop} {w : World} {ρ : Pl} {a : Act}, All2 (OpOK P m nt ops) l kl →
    evOps call own bar i kl e H = some (e', H') → SRel m nt n0 I O w ρ e H a → (∀ I' O' w' ρ' a', SRel m nt n0 I' O' w' ρ' e' H' a' → CG n0 I O w ρ H I' O' w' ρ' H' → Q .normal a' w') → wpList P ops Q l a w := by
  intro l
  induction l with
  | nil =>
    intro kl i e H I O w ρ a hl h hS hQ
    cases hl
    simp only [evOps, Option.some.injEq, Prod.mk.injEq] at h
    obtain ⟨rfl, rfl⟩ := h
    exact hQ _ _ _ _ _ hS (.refl hS.len)
  | cons o l ih =>
    intro kl i e H I O w ρ a hl h hS hQ
    cases hl with
    | @cons _ k _ kl hk hl =>
      unfold wpList
      simp only [evOps] at h
      cases hw : wants e k.guard with
      | none => rw [hw] at h; cases h
      | some b =>
        have hwant := wants_wanted hk (fun s _ _ => hS.env s) hw
        rw [hwant]
        cases b with
        | true =>
          rw [hw] at h
          simp only [] at h
          cases hop : evOp call own k.o e H with
          | none => rw [hop] at h; cases h
          | some r =>
            obtain ⟨v, H1, q⟩ := r
            rw [hop] at h
            simp only [] at h
            split at h <;> try (cases h; done)
            rw [if_pos rfl]
            refine .inl (op_any hcall hk.op (fun t _ => hS.env t) hS.heap hop _ _ (fun x w1 hL => ?_))
            obtain ⟨I1, O1, ρ1, h1, h2, h3, h4⟩ := hL
            have hd : ∀ d, o.dst = some d → d < a.tmps.size := fun d hd => by rw [hS.size]; exact hk.lt d hd
            have hcg := h3.cg h4 hS.len hS.heap
            rw [hk.dst] at h
            refine ih (i + 1) hl h ⟨?_, h2, Nat.le_trans hS.len h4.1, by rw [put_size]; exact hS.size, by rw [put_defers]; exact hS.defers⟩ (fun I' O' w' ρ' a' hS' hc' => hQ _ _ _ _ _ hS' (hcg.trans hc'))
            exact ERel.push (fun t => h3.mono.rel (hS.env t)) hd h1
        | false =>
          rw [hw] at h
          simp only [] at h
          rw [if_neg (by simp)]
          rw [hk.dst] at h
          have hd : ∀ d, o.dst = some d → d < a.tmps.size := fun d hd => by rw [hS.size]; exact hk.lt d hd
          exact ih (i + 1) hl h ⟨hS.env.push hd rel_undef, hS.heap, hS.len, by rw [put_size]; exact hS.size, by rw [put_defers]; exact hS.defers⟩ hQ
end Go.Proofs.YtgjbkgajkcgdfaaE
