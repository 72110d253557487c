/- Stretches of operations in any order. -/
import Derived.Test.YtgjbkgajkcgdfaaEvX1
namespace Go.Proofs.YtgjbkgajkcgdfaaE
open Go
set_option linter.unusedSimpArgs false
set_option linter.unusedVariables false
variable {P : Program} {w : World} {m : Nat → Option Nat} {I O : Nat → Prop} {ρ : Pl} {H H' Hb : List Blk} {v : V} {e e' : Env} {a : Act} {call : CallF} {own : Nat → Bool} {n0 nt : Nat} {Q : Exit → Act → World → Prop}

structure Trace (call : CallF) (own : Nat → Bool) (bar : Nat → Bool) (i0 : Nat) (ops : List Op) (e : Env) (H : List Blk) (e' : Env) (H' : List Blk) where
  E : Nat → Env
  HH : Nat → List Blk
  vv : Nat → V
  ww : Nat → Bool
  qq : Nat → Bool
  e0 : E 0 = e
  h0 : HH 0 = H
  eN : E ops.length = e'
  hN : HH ops.length = H'
  want : ∀ (j : Nat) (o : Op), ops[j]? = some o → wants (E j) o.guard = some (ww j)
  env : ∀ (j : Nat) (o : Op), ops[j]? = some o → E (j + 1) = push o.dst (vv j) (E j)
  run : ∀ (j : Nat) (o : Op), ops[j]? = some o → ww j = true → evOp call own o.o (E j) (HH j) = some (vv j, HH (j + 1), qq j)
  idle : ∀ (j : Nat) (o : Op), ops[j]? = some o → ww j = false → vv j = .tup [] ∧ HH (j + 1) = HH j ∧ qq j = true
  bars : ∀ (j : Nat) (o : Op), ops[j]? = some o → qq j = false → bar (i0 + j) = true

theorem trace {bar : Nat → Bool} : ∀ {ops : List Op} {i0 : Nat} {e : Env} {H : List Blk}, evOps call own bar i0 ops e H = some (e', H') → Nonempty (Trace call own bar i0 ops e H e' H')
  | [], i0, e, H, h => by
    simp only [evOps, Option.some.injEq, Prod.mk.injEq] at h
    obtain ⟨rfl, rfl⟩ := h
    exact ⟨⟨fun _ => e, fun _ => H, fun _ => .undef, fun _ => true, fun _ => true, rfl, rfl, rfl, rfl, by simp, by simp, by simp, by simp, by simp⟩⟩
  | o :: ops, i0, e, H, h => by
    simp only [evOps] at h
    have mk : ∀ (v : V) (H1 : List Blk) (q b : Bool), wants e o.guard = some b → (b = true → evOp call own o.o e H = some (v, H1, q)) → (b = false → v = .tup [] ∧ H1 = H ∧ q = true) → (q = false → bar i0 = true) →
        evOps call own bar (i0 + 1) ops (push o.dst v e) H1 = some (e', H') → Nonempty (Trace call own bar i0 (o :: ops) e H e' H') := by
      intro v H1 q b h1 h2 h3 h4 h5
      obtain ⟨t⟩ := trace h5
      refine ⟨⟨fun j => match j with | 0 => e | j + 1 => t.E j, fun j => match j with | 0 => H | j + 1 => t.HH j, fun j => match j with | 0 => v | j + 1 => t.vv j, fun j => match j with | 0 => b | j + 1 => t.ww j, fun j => match j with | 0 => q | j + 1 => t.qq j,
        rfl, rfl, t.eN, t.hN, fun j k hk => ?_, fun j k hk => ?_, fun j k hk => ?_, fun j k hk => ?_, fun j k hk => ?_⟩⟩
      · cases j with
        | zero => simp only [List.getElem?_cons_zero, Option.some.injEq] at hk; subst hk; exact h1
        | succ j => exact t.want j k (by simpa using hk)
      · cases j with
        | zero => simp only [List.getElem?_cons_zero, Option.some.injEq] at hk; subst hk; exact t.e0
        | succ j => exact t.env j k (by simpa using hk)
      · cases j with
        | zero => simp only [List.getElem?_cons_zero, Option.some.injEq] at hk; subst hk; intro hb; show _ = some (v, t.HH 0, q); rw [t.h0]; exact h2 hb
        | succ j => exact t.run j k (by simpa using hk)
      · cases j with
        | zero => simp only [List.getElem?_cons_zero, Option.some.injEq] at hk; subst hk; intro hb; show v = _ ∧ t.HH 0 = H ∧ q = true; rw [t.h0]; exact h3 hb
        | succ j => exact t.idle j k (by simpa using hk)
      · cases j with
        | zero => exact h4
        | succ j => intro hq; have := t.bars j k (by simpa using hk) hq; rwa [show i0 + 1 + j = i0 + (j + 1) by omega] at this
    cases hw : wants e o.guard with
    | none => rw [hw] at h; cases h
    | some b =>
      cases b with
      | false =>
        rw [hw] at h
        exact mk _ _ true false hw (by simp) (fun _ => ⟨rfl, rfl, rfl⟩) (by simp) h
      | true =>
        rw [hw] at h
        simp only [] at h
        cases hop : evOp call own o.o e H with
        | none => rw [hop] at h; cases h
        | some r =>
          obtain ⟨v, H1, q⟩ := r
          rw [hop] at h
          simp only [] at h
          split at h <;> try (cases h; done)
          rename_i hq
          exact mk v H1 q true hw (fun _ => hop) (by simp) (fun e => by subst e; simpa using hq) h

/-! ### who comes ahead of whom -/
theorem ancs_len : ∀ (ops : List Op) (acc : List (List Nat)), (ancs ops acc).length = acc.length + ops.length
  | [], acc => by simp [ancs]
  | o :: ops, acc => by simp [ancs, ancs_len ops]; omega
theorem ancs_head : ∀ (ops : List Op) (acc : List (List Nat)) (j : Nat), j < acc.length → (ancs ops acc)[j]? = acc[j]?
  | [], acc, j, h => by simp [ancs]
  | o :: ops, acc, j, h => by
    simp only [ancs]
    rw [ancs_head ops _ j (by simp; omega), List.getElem?_append_left h]
theorem ancs_get : ∀ (ops : List Op) (acc : List (List Nat)) (j : Nat) (o : Op), ops[j]? = some o → ∃ pre : List (List Nat), (∀ k : Nat, k < acc.length + j → pre[k]? = (ancs ops acc)[k]?) ∧ (∀ k, acc.length + j ≤ k → pre[k]? = none) ∧ (ancs ops acc)[acc.length + j]? = some (un [] (o.wait ++ o.wait.flatMap fun i => pre.getD i []))
  | [], acc, j, o, h => by simp at h
  | p :: ops, acc, 0, o, h => by
    simp only [List.getElem?_cons_zero, Option.some.injEq] at h
    subst h
    refine ⟨acc, fun k hk => ?_, fun k hk => by simp; omega, ?_⟩
    · simp only [ancs]
      rw [ancs_head ops _ k (by simp; omega), List.getElem?_append_left (by omega)]
    · simp only [ancs, Nat.add_zero]
      rw [ancs_head ops _ _ (by simp), List.getElem?_append_right (Nat.le_refl _)]
      simp
  | p :: ops, acc, j + 1, o, h => by
    simp only [ancs]
    obtain ⟨pre, h1, h2, h3⟩ := ancs_get ops (acc ++ [un [] (p.wait ++ p.wait.flatMap fun j => acc.getD j [])]) j o (by simpa using h)
    simp only [List.length_append, List.length_cons, List.length_nil, Nat.zero_add] at h1 h2 h3
    exact ⟨pre, fun k hk => h1 k (by omega), fun k hk => h2 k (by omega), by rw [show acc.length + (j + 1) = acc.length + 1 + j by omega]; exact h3⟩

theorem ancs_spec {ops : List Op} {j i : Nat} (hi : i ∈ (ancs ops []).getD j []) : ∃ o, ops[j]? = some o ∧ (i ∈ o.wait ∨ ∃ k, k ∈ o.wait ∧ k < j ∧ i ∈ (ancs ops []).getD k []) := by
  rw [List.getD_eq_getElem?_getD] at hi
  cases hA : (ancs ops [])[j]? with
  | none => rw [hA] at hi; simp at hi
  | some l =>
    have hj : j < ops.length := by have := (List.getElem?_eq_some_iff.1 hA).1; rw [ancs_len] at this; simpa using this
    obtain ⟨pre, h1, h2, h3⟩ := ancs_get ops [] j ops[j] (List.getElem?_eq_getElem hj)
    simp only [List.length_nil, Nat.zero_add] at h1 h2 h3
    rw [h3] at hi
    simp only [Option.getD_some, mem_un, List.not_mem_nil, false_or, List.mem_append, List.mem_flatMap] at hi
    refine ⟨ops[j], List.getElem?_eq_getElem hj, ?_⟩
    rcases hi with hi | ⟨k, hk, hi⟩
    · exact .inl hi
    · rw [List.getD_eq_getElem?_getD] at hi
      rcases Nat.lt_or_ge k j with hkj | hkj
      · rw [h1 k hkj] at hi
        exact .inr ⟨k, hk, hkj, by rw [List.getD_eq_getElem?_getD]; exact hi⟩
      · rw [h2 k hkj] at hi; simp at hi
theorem ancs_closed {ops : List Op} {S : Nat → Prop} (hS : ∀ (j : Nat) (o : Op), ops[j]? = some o → S j → ∀ x, x ∈ o.wait → S x) : ∀ (j i : Nat), (∀ o, ops[j]? = some o → ∀ x, x ∈ o.wait → S x) → i ∈ (ancs ops []).getD j [] → S i := by
  intro j
  induction j using Nat.strongRecOn with
  | _ j ih =>
    intro i hw hi
    obtain ⟨o, ho, h⟩ := ancs_spec hi
    rcases h with h | ⟨k, hk, hkj, h⟩
    · exact hw o ho i h
    · exact ih k hkj i (fun o' ho' => hS k o' ho' (hw o ho k hk)) h

/-! ### a slot's value -/
def dstAt (ops : List Op) (j : Nat) : Option Nat := (ops[j]?).bind (·.dst)
def slotAt (ops : List Op) (e : Env) (vv : Nat → V) (S : Nat → Bool) : Nat → Nat → V
  | 0, t => look e t
  | j + 1, t => if S j = true ∧ dstAt ops j = some t then vv j else slotAt ops e vv S j t
theorem slotAt_congr {ops : List Op} {vv : Nat → V} {S S' : Nat → Bool} {t : Nat} : ∀ {n : Nat}, (∀ j, j < n → dstAt ops j = some t → S j = S' j) → slotAt ops e vv S n t = slotAt ops e vv S' n t
  | 0, _ => rfl
  | n + 1, h => by
    simp only [slotAt]
    rw [slotAt_congr (n := n) (fun j hj => h j (by omega))]
    by_cases hd : dstAt ops n = some t
    · rw [h n (by omega) hd]
    · simp [hd]
theorem slotAt_cut {e : Env} {ops : List Op} {vv : Nat → V} {S : Nat → Bool} {t i : Nat} : ∀ {n : Nat}, i ≤ n → (∀ j, i ≤ j → j < n → dstAt ops j = some t → S j = false) → slotAt ops e vv S n t = slotAt ops e vv S i t
  | 0, hi, _ => by simp [show i = 0 by omega]
  | n + 1, hi, h => by
    rcases Nat.lt_or_ge n i with hn | hn
    · rw [show i = n + 1 by omega]
    · simp only [slotAt]
      have ih : slotAt ops e vv S n t = slotAt ops e vv S i t := slotAt_cut (n := n) hn (fun j h1 h2 => h j h1 (by omega))
      by_cases hd : dstAt ops n = some t
      · rw [h n hn (by omega) hd]; simp [ih]
      · simp [hd, ih]
theorem slotAt_last {ops : List Op} {vv : Nat → V} {S : Nat → Bool} {t i n : Nat} (hi : i < n) (hS : S i = true) (hd : dstAt ops i = some t) (h : ∀ j, i < j → j < n → dstAt ops j = some t → S j = false) : slotAt ops e vv S n t = vv i := by
  rw [slotAt_cut (i := i + 1) hi (fun j h1 h2 => h j (by omega) h2)]
  simp [slotAt, hS, hd]
theorem Trace.look {bar : Nat → Bool} {ops : List Op} {i0 : Nat} (t : Trace call own bar i0 ops e H e' H') {u : Nat} : ∀ {n : Nat}, n ≤ ops.length → Go.Proofs.YtgjbkgajkcgdfaaE.look (t.E n) u = slotAt ops e t.vv (fun _ => true) n u
  | 0, _ => by rw [t.e0]; rfl
  | n + 1, h => by
    have ho : ops[n]? = some ops[n] := List.getElem?_eq_getElem (by omega)
    rw [t.env n _ ho, look_push, t.look (n := n) (by omega)]
    simp [slotAt, dstAt, ho]
/-- quiet operations only append -/
theorem Trace.pref {bar : Nat → Bool} {ops : List Op} {i0 : Nat} (t : Trace call own bar i0 ops e H e' H') {i : Nat} : ∀ {k : Nat}, i ≤ k → k ≤ ops.length → (∀ j, i ≤ j → j < k → t.qq j = true) → ∃ news, t.HH k = t.HH i ++ news
  | 0, hi, _, _ => ⟨[], by simp [show i = 0 by omega]⟩
  | k + 1, hi, hk, h => by
    rcases Nat.lt_or_ge k i with hn | hn
    · exact ⟨[], by simp [show i = k + 1 by omega]⟩
    · obtain ⟨news, h1⟩ := t.pref (k := k) hn (by omega) (fun j h1 h2 => h j h1 (by omega))
      have ho : ops[k]? = some ops[k] := List.getElem?_eq_getElem (by omega)
      cases hw : t.ww k with
      | true =>
        have := t.run k _ ho hw
        rw [h k hn (by omega)] at this
        obtain ⟨n2, h2⟩ := evOp_prefix this
        exact ⟨news ++ n2, by rw [h2, h1, List.append_assoc]⟩
      | false => exact ⟨news, by rw [(t.idle k _ ho hw).2.1, h1]⟩
end Go.Proofs.YtgjbkgajkcgdfaaE
