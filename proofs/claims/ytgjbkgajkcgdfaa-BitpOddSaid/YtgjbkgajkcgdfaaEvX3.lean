/- Stretches of operations in any order: the walk. -/
import Derived.Test.YtgjbkgajkcgdfaaEvX2
namespace Go.Proofs.YtgjbkgajkcgdfaaE
open Go
set_option linter.unusedSimpArgs false
set_option linter.unusedVariables false
variable {P : Program} {w : World} {m : Nat → Option Nat} {I O : Nat → Prop} {ρ : Pl} {H H' Hb : List Blk} {v : V} {e e' : Env} {a : Act} {call : CallF} {own : Nat → Bool} {n0 nt : Nat} {Q : Exit → Act → World → Prop}

theorem All2.length {α β : Type} {R : α → β → Prop} : ∀ {l : List α} {r : List β}, All2 R l r → l.length = r.length
  | _, _, .nil => rfl
  | _, _, .cons _ h => by simp [h.length]
theorem All2.get {α β : Type} {R : α → β → Prop} : ∀ {l : List α} {r : List β}, All2 R l r → ∀ {j : Nat} {a : α}, l[j]? = some a → ∃ b, r[j]? = some b ∧ R a b
  | _, _, .nil, j, a, h => by simp at h
  | _, _, .cons hr h, 0, a, ha => by simp at ha; subst ha; exact ⟨_, rfl, hr⟩
  | _, _, .cons hr h, j + 1, a, ha => by simpa using h.get (by simpa using ha)

theorem RelV.sameHeap {w' : World} {x : Value} (hw : w'.heap = w.heap) (h : RelV m I w ρ v x) : RelV m I w' ρ v x :=
  h.mono (fun _ h => h) (fun _ _ => by rw [hw]) (fun k n hn => by unfold sizeOf? at *; rw [hw]; exact hn) ρ (fun _ _ h => h)
theorem HRel.sameHeap {w' : World} (hw : w'.heap = w.heap) (h : HRel m I O w ρ H) : HRel m I O w' ρ H := by
  refine ⟨h.inj, fun i r hi => ?_, fun i r hi => by rw [hw]; exact h.lt i r hi, fun k hk => by rw [hw]; exact h.own k hk, fun k hk => by rw [hw]; exact h.imm k hk, h.dis⟩
  obtain ⟨b, hb, hB⟩ := h.blk i r hi
  refine ⟨b, hb, hB.mono ⟨fun _ h => h, fun _ _ h => h, fun _ _ => by rw [hw], fun k n hn => by unfold sizeOf? at *; rw [hw]; exact hn⟩ (fun _ h => h) (by rw [hw])⟩

structure RegOK (P : Program) (m : Nat → Option Nat) (nt : Nat) (ops : Array Oper) (kl : List Op) : Prop where
  all : All2 (OpOK P m nt ops) ops.toList kl
  wait : ∀ (j : Nat) (o : Oper) (k : Op), ops[j]? = some o → kl[j]? = some k → ∀ x, (∃ ed, ed ∈ o.after ∧ Region.binds .any ed = true ∧ ed.on = x) ↔ x ∈ k.wait
  early : ∀ (j : Nat) (k : Op), kl[j]? = some k → ∀ x, x ∈ k.wait → x < j
  order : ∀ (i j : Nat) (o o' : Oper), i < j → ops[i]? = some o → ops[j]? = some o' → i ∈ (ancs kl []).getD j [] ∨ Oper.apart ops o o' = true

theorem evOp_len {oc : EOp} {q : Bool} (h : evOp call own oc e H = some (v, H', q)) : H.length ≤ H'.length := by
  cases q with
  | true => obtain ⟨news, rfl⟩ := evOp_prefix h; simp
  | false =>
    cases oc
    case call f xs =>
      have h' : callEv call own (f.ev e) (xs.map (R.ev e)) H = some (v, H', false) := h
      obtain ⟨_, _, _, ⟨p⟩⟩ := callEv_parts h'
      rw [p.loud rfl, List.length_append, putBack_len]
      split <;> simp [freeze_len]
    all_goals (
      simp only [evOp] at h
      split at h
      · simp at h
      · simp only [Option.map_eq_some_iff, Prod.mk.injEq, and_true] at h
        obtain ⟨⟨v1, H1⟩, h1, rfl, rfl⟩ := h
        exact (evE_alive h1).1)
theorem Trace.len {bar : Nat → Bool} {ops : List Op} {i0 : Nat} (t : Trace call own bar i0 ops e H e' H') {i : Nat} : ∀ {k : Nat}, i ≤ k → k ≤ ops.length → (t.HH i).length ≤ (t.HH k).length
  | 0, hi, _ => by simp [show i = 0 by omega]
  | k + 1, hi, hk => by
    rcases Nat.lt_or_ge k i with hn | hn
    · simp [show i = k + 1 by omega]
    · have ih := t.len (k := k) hn (by omega)
      have ho : ops[k]? = some ops[k] := List.getElem?_eq_getElem (by omega)
      cases hw : t.ww k with
      | true => exact Nat.le_trans ih (evOp_len (t.run k _ ho hw))
      | false => rw [(t.idle k _ ho hw).2.1]; exact ih

theorem barrier_spec {ops : List Op} {A : List (List Nat)} {j : Nat} (h : barrier ops A j = true) : (∀ i, i < j → pures ops i = false → i ∈ A.getD j []) ∧ ∀ k, j < k → k < A.length → pures ops k = false → j ∈ A.getD k [] := by
  simp only [barrier, Bool.and_eq_true, List.all_eq_true, List.mem_range, Bool.or_eq_true, decide_eq_true_eq, List.contains_eq_mem] at h
  refine ⟨fun i hi hp => ?_, fun k h1 h2 hp => ?_⟩
  · rcases h.1 i hi with h3 | h3
    · exact h3
    · rw [hp] at h3; cases h3
  · rcases h.2 k h2 with (h3 | h3) | h3
    · omega
    · exact h3
    · rw [hp] at h3; cases h3

theorem pure_same {o : EOp} {H2 : List Blk} (hp : pureO o = true) : evQ o e H = evQ o e H2 := by
  cases o
  case len s x => cases s <;> rfl
  all_goals first | rfl | cases hp
theorem pure_evE {o : EOp} (hp : pureO o = true) : evE o e H = none := by
  cases o <;> first | rfl | cases hp
theorem pure_nil {o : EOp} {news : List Blk} (hp : pureO o = true) (h : evQ o e H = some (v, news)) : news = [] := by
  cases o <;> first | cases hp | skip
  all_goals (try simp only [evQ] at h) <;> (repeat' split at h) <;> (try simp only [Option.map_eq_some_iff, Option.bind_eq_some_iff, Prod.mk.injEq, Option.some.injEq] at h) <;> grind
theorem pure_op {o : EOp} {q : Bool} {H2 : List Blk} (hp : pureO o = true) (h : evOp call own o e H = some (v, H', q)) : q = true ∧ H' = H ∧ evOp call own o e H2 = some (v, H2, true) := by
  have hnc : ∀ f l, o ≠ .call f l := fun f l e => by subst e; cases hp
  have hd : ∀ H, evOp call own o e H = (match evQ o e H with | some (v, news) => some (v, H ++ news, true) | none => (evE o e H).map fun (v, H) => (v, H, false)) := by
    intro H; cases o <;> first | rfl | exact absurd rfl (hnc _ _)
  rw [hd] at h
  cases hq : evQ o e H with
  | none => rw [hq, pure_evE hp] at h; cases h
  | some r =>
    obtain ⟨v1, n1⟩ := r
    have := pure_nil hp hq
    subst this
    rw [hq] at h
    simp only [Option.some.injEq, Prod.mk.injEq] at h
    obtain ⟨rfl, rfl, rfl⟩ := h
    refine ⟨rfl, by simp, ?_⟩
    rw [hd, ← pure_same (H := H) hp, hq]
    simp
theorem Trace.still {bar : Nat → Bool} {ops : List Op} {i0 : Nat} (t : Trace call own bar i0 ops e H e' H') {i : Nat} : ∀ {k : Nat}, i ≤ k → k ≤ ops.length → (∀ j, i ≤ j → j < k → pures ops j = true) → t.HH k = t.HH i
  | 0, hi, _, _ => by simp [show i = 0 by omega]
  | k + 1, hi, hk, h => by
    rcases Nat.lt_or_ge k i with hn | hn
    · simp [show i = k + 1 by omega]
    · have ih := t.still (k := k) hn (by omega) (fun j h1 h2 => h j h1 (by omega))
      have ho : ops[k]? = some ops[k] := List.getElem?_eq_getElem (by omega)
      cases hw : t.ww k with
      | true =>
        have hp := h k hn (by omega)
        simp only [pures, ho, Option.map_some, Option.getD_some] at hp
        rw [← ih]; exact (pure_op (H2 := H) hp (t.run k _ ho hw)).2.1
      | false => rw [(t.idle k _ ho hw).2.1]; exact ih
theorem Trace.pure_quiet {bar : Nat → Bool} {ops : List Op} {i0 : Nat} (t : Trace call own bar i0 ops e H e' H') {j : Nat} (hj : j < ops.length) (hq : t.qq j = false) : pures ops j = false := by
  have ho : ops[j]? = some ops[j] := List.getElem?_eq_getElem hj
  cases hp : pures ops j with
  | false => rfl
  | true =>
    simp only [pures, ho, Option.map_some, Option.getD_some] at hp
    cases hw : t.ww j with
    | true => have := (pure_op (H2 := H) hp (t.run j _ ho hw)).1; rw [hq] at this; cases this
    | false => have := (t.idle j _ ho hw).2.2; rw [hq] at this; cases this

abbrev ins (listed : Array Bool) (j : Nat) : Bool := listed.getD j false

structure DInv {kl : List Op} {bar : Nat → Bool} (t : Trace call own bar 0 kl e H e' H') (m : Nat → Option Nat) (nt n0 : Nat) (I O : Nat → Prop) (w : World) (ρ : Pl) (listed : Array Bool) (a' : Act) (w' : World) (k : Nat) (I' O' : Nat → Prop) (ρ' : Pl) : Prop where
  size : listed.size = kl.length
  closed : ∀ (j : Nat) (o : Op), kl[j]? = some o → ins listed j = true → ∀ x, x ∈ o.wait → ins listed x = true
  le : k ≤ kl.length
  before : ∀ j, ins listed j = true → pures kl j = false → j < k
  loud : ∀ j, j < k → t.qq j = false → ins listed j = true
  heap : HRel m I' O' w' ρ' (t.HH k)
  open_ : ∀ j, j < k → ins listed j = false → ∀ i, (t.HH j).length ≤ i → i < (t.HH (j + 1)).length → ρ' i = none
  env : ∀ u, RelV m I' w' ρ' (slotAt kl e t.vv (ins listed) kl.length u) (a'.tmps.getD u undef)
  cg : CG n0 I O w ρ H I' O' w' ρ' (t.HH k)
  base : n0 ≤ H.length
  tsize : a'.tmps.size = nt
  defers : a'.defers = []

theorem ins_set {listed : Array Bool} {i j : Nat} (hi : i < listed.size) : ins (listed.setIfInBounds i true) j = if i = j then true else ins listed j := by
  simp only [ins, Array.getD_eq_getD_getElem?, Array.getElem?_setIfInBounds]
  by_cases e : i = j
  · subst e; simp [hi]
  · simp [e]

theorem ready_spec {ops : Array Oper} {listed : Array Bool} {i : Nat} (h : i ∈ Region.ready .any ops listed) : ∃ o, ops[i]? = some o ∧ listed.getD i true = false ∧ ∀ ed, ed ∈ o.after → Region.binds .any ed = true → ins listed ed.on = true := by
  simp only [Region.ready, List.mem_filter, List.mem_range, Bool.and_eq_true, Bool.not_eq_true'] at h
  obtain ⟨h1, h2, h3⟩ := h
  have ho : ops[i]? = some ops[i] := Array.getElem?_eq_getElem h1
  rw [ho] at h3
  simp only [Option.map_some, Option.getD_some, Array.all_eq_true_iff_forall_mem, Bool.or_eq_true, Bool.not_eq_true'] at h3
  refine ⟨ops[i], ho, h2, fun ed he hb => ?_⟩
  rcases h3 ed he with h | h
  · rw [hb] at h; cases h
  · exact h
theorem ready_none {ops : Array Oper} {listed : Array Bool} (hs : listed.size = ops.size) (h : Region.ready .any ops listed = []) (he : ∀ (j : Nat) (o : Oper), ops[j]? = some o → ∀ ed, ed ∈ o.after → Region.binds .any ed = true → ed.on < j) : ∀ j, j < ops.size → ins listed j = true := by
  intro j
  induction j using Nat.strongRecOn with
  | _ j ih =>
    intro hj
    cases hl : ins listed j with
    | true => rfl
    | false =>
      have ho : ops[j]? = some ops[j] := Array.getElem?_eq_getElem hj
      have : j ∈ Region.ready .any ops listed := by
        simp only [Region.ready, List.mem_filter, List.mem_range, Bool.and_eq_true, Bool.not_eq_true']
        refine ⟨hj, ?_, ?_⟩
        · simp only [ins, Array.getD_eq_getD_getElem?] at hl ⊢
          rw [Array.getElem?_eq_getElem (by omega)] at hl ⊢
          exact hl
        · rw [ho]
          simp only [Option.map_some, Option.getD_some, Array.all_eq_true_iff_forall_mem, Bool.or_eq_true, Bool.not_eq_true']
          intro ed hed
          cases hb : Region.binds .any ed with
          | false => exact .inl rfl
          | true =>
            have := he j _ ho ed hed hb
            exact .inr (ih _ this (by omega))
      rw [h] at this
      simp at this

variable {ops : Array Oper} {kl : List Op}
theorem DInv.done (ht : RegOK P m nt ops kl) {t : Trace call own (barrier kl (ancs kl [])) 0 kl e H e' H'} {listed : Array Bool} {a' : Act} {w' : World} {k : Nat} {I' O' : Nat → Prop} {ρ' : Pl} (h : DInv t m nt n0 I O w ρ listed a' w' k I' O' ρ')
    (hall : ∀ j, j < kl.length → ins listed j = true) : SRel m nt n0 I' O' w' ρ' e' H' a' ∧ CG n0 I O w ρ H I' O' w' ρ' H' := by
  have hk : t.HH kl.length = t.HH k := t.still h.le (Nat.le_refl _) (fun j h1 h2 => by
    cases hp : pures kl j with
    | true => rfl
    | false => have := h.before j (hall j h2) hp; omega)
  have hc := h.cg
  have hh := h.heap
  rw [← hk, t.hN] at hc hh
  refine ⟨⟨fun u => ?_, hh, hc.len, h.tsize, h.defers⟩, hc⟩
  have := h.env u
  rw [slotAt_congr (S' := fun _ => true) (fun j hj _ => hall j hj), ← t.look (Nat.le_refl _), t.eN] at this
  exact this

theorem DInv.step (ht : RegOK P m nt ops kl) (hcall : CallSnd P m call) {t : Trace call own (barrier kl (ancs kl [])) 0 kl e H e' H'} {listed : Array Bool} {a' : Act} {w' : World} {k : Nat} {I' O' : Nat → Prop} {ρ' : Pl} (h : DInv t m nt n0 I O w ρ listed a' w' k I' O' ρ')
    {i : Nat} (hr : i ∈ Region.ready .any ops listed) {K : Act → World → Prop}
    (hK : ∀ a' w' k I' O' ρ', DInv t m nt n0 I O w ρ (listed.setIfInBounds i true) a' w' k I' O' ρ' → K a' w') : wpOp P ops Q i K a' w' := by
  obtain ⟨o, ho, hun, hready⟩ := ready_spec hr
  have hoL : ops.toList[i]? = some o := by simpa using ho
  obtain ⟨ko, hko, hk⟩ := ht.all.get hoL
  have hi : i < kl.length := (List.getElem?_eq_some_iff.1 hko).1
  have hil : i < listed.size := by rw [h.size]; exact hi
  have hun' : ins listed i = false := by
    simp only [ins, Array.getD_eq_getD_getElem?] at hun ⊢
    rw [Array.getElem?_eq_getElem hil] at hun ⊢
    exact hun
  have hwait : ∀ x, x ∈ ko.wait → ins listed x = true := by
    intro x hx
    obtain ⟨ed, h1, h2, rfl⟩ := (ht.wait i o ko ho hko x).2 hx
    exact hready ed h1 h2
  have anc : ∀ x, x ∈ (ancs kl []).getD i [] → ins listed x = true := fun x hx =>
    ancs_closed (S := fun x => ins listed x = true) h.closed i x (fun o' ho' => by rw [hko] at ho'; injection ho' with e; subst e; exact hwait) hx
  have desc : ∀ j, i ∈ (ancs kl []).getD j [] → ins listed j = false := by
    intro j hj
    cases hl : ins listed j with
    | false => rfl
    | true =>
      have := ancs_closed (S := fun x => ins listed x = true) h.closed j i (fun o' ho' => h.closed j o' ho' hl) hj
      rw [hun'] at this; cases this
  have hAlen : (ancs kl []).length = kl.length := by rw [ancs_len]; simp
  -- the slots that it touches
  have hdst : ∀ j oj, ops[j]? = some oj → dstAt kl j = oj.dst := by
    intro j oj hoj
    obtain ⟨kj, hkj, hkk⟩ := ht.all.get (by simpa using hoj : ops.toList[j]? = some oj)
    simp [dstAt, hkj, hkk.dst]
  have touch : ∀ u, (u ∈ o.looksAt ops ∨ o.dst = some u) → ∀ j, j < kl.length → j ≠ i → dstAt kl j = some u → ins listed j = decide (j < i) := by
    intro u hu j hj hne hd
    have hjo : j < ops.size := by rw [← Array.length_toList, ht.all.length]; exact hj
    have hoj : ops[j]? = some ops[j] := Array.getElem?_eq_getElem hjo
    rw [hdst j _ hoj] at hd
    rcases Nat.lt_or_ge j i with hlt | hge
    · simp only [hlt, decide_true]
      rcases ht.order j i _ _ hlt hoj ho with h1 | h1
      · exact anc j h1
      · exfalso
        obtain ⟨p1, p2, p3⟩ := Oper.apart_spec h1
        rcases hu with hu | hu
        · exact p1 u hd hu
        · exact p2 u hd hu
    · have hlt : i < j := by omega
      simp only [show ¬ j < i by omega, decide_false]
      rcases ht.order i j _ _ hlt ho hoj with h1 | h1
      · exact desc j h1
      · exfalso
        obtain ⟨p1, p2, p3⟩ := Oper.apart_spec h1
        rcases hu with hu | hu
        · exact p3 u hd hu
        · exact p2 u hu hd
  have hslot : ∀ u, u ∈ o.looksAt ops → slotAt kl e t.vv (ins listed) kl.length u = look (t.E i) u := by
    intro u hu
    rw [t.look (Nat.le_of_lt hi)]
    rw [slotAt_cut (i := i) (Nat.le_of_lt hi) (fun j h1 h2 hd => ?_)]
    · exact slotAt_congr (fun j hj hd => by rw [touch u (.inl hu) j (by omega) (by omega) hd]; simp [hj])
    · rcases Nat.eq_or_lt_of_le h1 with e1 | e1
      · rw [← e1]; exact hun'
      · rw [touch u (.inl hu) j h2 (by omega) hd]; simp; omega
  have hrel : ∀ u, u ∈ o.looksAt ops → RelV m I' w' ρ' (look (t.E i) u) (a'.tmps.getD u undef) := fun u hu => by
    rw [← hslot u hu]; exact h.env u
  have hops : ORel m I' w' ρ' (t.E i) a' o.op.operands.toList := by
    intro u hu
    refine hrel u ?_
    simp only [Oper.looksAt, List.mem_append, List.mem_filterMap]
    exact .inl ⟨.tmp u, hu, rfl⟩
  have hwant := wants_wanted (e := t.E i) (ρ := ρ') (I := I') (a := a') hk (fun s want hs => hrel s (by
    have hg := hk.guard
    rw [hs] at hg
    cases hog : o.guard with
    | none => rw [hog] at hg; exact hg.elim
    | some p =>
      obtain ⟨g, want'⟩ := p
      rw [hog] at hg
      simp only [Oper.looksAt, List.mem_append, hog]
      exact .inr (by rw [hg.2]; simp))) (t.want i ko hko)
  have hd : ∀ d, o.dst = some d → d < a'.tmps.size := fun d hd => by rw [h.tsize]; exact hk.lt d hd
  -- the invariant behind it
  have hSet : ∀ j, ins (listed.setIfInBounds i true) j = if i = j then true else ins listed j := fun j => ins_set hil
  have hclosed : ∀ (j : Nat) (o : Op), kl[j]? = some o → ins (listed.setIfInBounds i true) j = true → ∀ x, x ∈ o.wait → ins (listed.setIfInBounds i true) x = true := by
    intro j oj hoj hj x hx
    rw [hSet] at hj ⊢
    split
    · rfl
    · split at hj
      · rename_i e1; subst e1; rw [hko] at hoj; injection hoj with e2; subst e2; exact hwait x hx
      · exact h.closed j oj hoj hj x hx
  have henv : ∀ {I1 : Nat → Prop} {w1 : World} {ρ1 : Pl} {x : Value}, Mono I' w' ρ' I1 w1 ρ1 → RelV m I1 w1 ρ1 (t.vv i) x → ∀ u, RelV m I1 w1 ρ1 (slotAt kl e t.vv (ins (listed.setIfInBounds i true)) kl.length u) ((a'.put o.dst x).tmps.getD u undef) := by
    intro I1 w1 ρ1 x hm hx u
    rw [put_get hd]
    split
    · rename_i hu
      rw [slotAt_last hi (by rw [hSet]; simp) (by rw [hdst i o ho]; exact hu) (fun j h1 h2 hdj => by
        rw [hSet, if_neg (by omega), touch u (.inr hu) j h2 (by omega) hdj]; simp; omega)]
      exact hx
    · rename_i hu
      rw [slotAt_congr (S' := ins listed) (fun j hj hdj => by
        rw [hSet]
        split
        · rename_i e1; subst e1; rw [hdst i o ho] at hdj; exact absurd hdj hu
        · rfl)]
      exact hm.rel (h.env u)
  unfold wpOp
  rw [ho]
  simp only []
  rw [hwant]
  cases hpi : pures kl i with
  | true =>
    have hbef : ∀ j, ins (listed.setIfInBounds i true) j = true → pures kl j = false → j < k := fun j hj hp => by
      rw [hSet] at hj
      split at hj
      · rename_i e1; subst e1; rw [hpi] at hp; cases hp
      · exact h.before j hj hp
    have hloud : ∀ j, j < k → t.qq j = false → ins (listed.setIfInBounds i true) j = true := fun j hj hqj => by
      rw [hSet]
      split
      · rfl
      · exact h.loud j hj hqj
    have hp : pureO ko.o = true := by simpa only [pures, hko, Option.map_some, Option.getD_some] using hpi
    cases hw : t.ww i with
    | false =>
      rw [if_neg (by simp)]
      obtain ⟨hv, hH, hq⟩ := t.idle i ko hko hw
      refine hK _ _ k I' O' ρ' ⟨by simp [h.size], hclosed, h.le, hbef, hloud, h.heap, fun j hj hjl i' h1 h2 => ?_, henv (.refl _ _ _) (by rw [hv]; exact rel_undef), h.cg, h.base, by rw [put_size]; exact h.tsize, by rw [put_defers]; exact h.defers⟩
      rw [hSet] at hjl
      split at hjl
      · cases hjl
      · exact h.open_ j hj hjl i' h1 h2
    | true =>
      rw [if_pos rfl]
      refine .inl ?_
      have hop := (pure_op (H2 := t.HH k) hp (t.run i ko hko hw)).2.2
      refine op_quiet hcall hk.op hops h.heap hop prefix_refl (fun i' h1 h2 => by omega) _ _ (fun x w1 hL => ?_)
      obtain ⟨I1, O1, ρ1, r1, r2, r3⟩ := hL
      have hmono := r3.mono h.heap.imm
      have hsame : ∀ i' r, ρ1 i' = some r → ρ' i' = some r := fun i' r hr => by
        rcases r3.pl' i' r hr with h1 | ⟨h1, h2, _⟩
        · exact h1
        · omega
      have hcg : CG n0 I' O' w' ρ' (t.HH k) I1 O1 w1 ρ1 (t.HH k) :=
        GS.cg (r3.gs h.heap.imm) (.refl _) h.cg.len h.heap
      refine hK _ _ k I1 O1 ρ1 ⟨by simp [h.size], hclosed, h.le, hbef, hloud, r2, fun j hj hjl i' h1 h2 => ?_, henv hmono r1, h.cg.trans hcg, h.base, by rw [put_size]; exact h.tsize, by rw [put_defers]; exact h.defers⟩
      rw [hSet] at hjl
      split at hjl
      · cases hjl
      · have h0 := h.open_ j hj hjl i' h1 h2
        cases hr' : ρ1 i' with
        | none => rfl
        | some r => rw [hsame i' r hr'] at h0; cases h0
  | false =>
  cases hw : t.ww i with
  | false =>
    rw [if_neg (by simp)]
    obtain ⟨hv, hH, hq⟩ := t.idle i ko hko hw
    have hkk : ∀ j, k ≤ j → j < i → t.qq j = true := by
      intro j h1 h2
      cases hqj : t.qq j with
      | true => rfl
      | false =>
        have hb := t.bars j kl[j] (List.getElem?_eq_getElem (by omega)) hqj
        rw [Nat.zero_add] at hb
        have := anc j ((barrier_spec hb).2 i h2 (by omega) hpi)
        have := h.before j this (t.pure_quiet (by omega) hqj)
        omega
    obtain ⟨k', hk1, hk2, hk3, hk4, hk5⟩ : ∃ k', k' ≤ kl.length ∧ i < k' ∧ k ≤ k' ∧ (∃ news, t.HH k' = t.HH k ++ news) ∧ (∀ j, k ≤ j → j < k' → t.qq j = true) := by
      rcases Nat.lt_or_ge i k with hik | hik
      · exact ⟨k, h.le, hik, Nat.le_refl _, ⟨[], by simp⟩, fun j h1 h2 => by omega⟩
      · have hall : ∀ j, k ≤ j → j < i + 1 → t.qq j = true := fun j h1 h2 => by
          rcases Nat.eq_or_lt_of_le (Nat.le_of_lt_succ h2) with e1 | e1
          · subst e1; exact hq
          · exact hkk j h1 e1
        exact ⟨i + 1, hi, by omega, by omega, t.pref (by omega) hi hall, hall⟩
    obtain ⟨news, hnews⟩ := hk4
    have hp : ∀ (i : Nat) (b : Blk), (t.HH k)[i]? = some b → (t.HH k')[i]? = some b := fun i b hb => by rw [hnews, List.getElem?_append_left (List.getElem?_eq_some_iff.1 hb).1]; exact hb
    have hcg : CG n0 I' O' w' ρ' (t.HH k) I' O' w' ρ' (t.HH k') := by
      have h1 := (GS.cg (H' := t.HH k') ⟨.refl _ _ _, .refl _ _, fun _ h => .inl h, fun _ h => .inl h, fun _ _ h => .inl h⟩ (by rw [hnews]; exact alive_append _ _) h.cg.len h.heap)
      exact h1
    refine hK _ _ k' I' O' ρ' ⟨by simp [h.size], hclosed, hk1, fun j hj hpj => ?_, fun j hj hqj => ?_, h.heap.grow hp, fun j hj hjl i' h1 h2 => ?_, henv (.refl _ _ _) (by rw [hv]; exact rel_undef), h.cg.trans hcg, h.base, by rw [put_size]; exact h.tsize, by rw [put_defers]; exact h.defers⟩
    · rw [hSet] at hj
      split at hj
      · omega
      · have := h.before j hj hpj; omega
    · rw [hSet]
      split
      · rfl
      · rcases Nat.lt_or_ge j k with hjk | hjk
        · exact h.loud j hjk hqj
        · rw [hk5 j hjk hj] at hqj; cases hqj
    · rw [hSet] at hjl
      split at hjl
      · cases hjl
      · rcases Nat.lt_or_ge j k with hjk | hjk
        · exact h.open_ j hjk hjl i' h1 h2
        · refine h.heap.none ?_
          obtain ⟨n2, hn2⟩ := t.pref (i := k) (k := j) hjk (by omega) (fun j' h1 h2 => hk5 j' h1 (by omega))
          have : (t.HH j).length = (t.HH k).length + n2.length := by rw [hn2]; simp
          omega
  | true =>
    rw [if_pos rfl]
    refine .inl ?_
    have hop := t.run i ko hko hw
    cases hq : t.qq i with
    | true =>
      rw [hq] at hop
      -- the quiet ones between
      have hup : ∀ j, i < j → j < k → t.qq j = true := by
        intro j h1 h2
        cases hqj : t.qq j with
        | true => rfl
        | false =>
          have hl := h.loud j h2 hqj
          have hjl : j < kl.length := by have := h.le; omega
          have hb := t.bars j kl[j] (List.getElem?_eq_getElem hjl) hqj
          rw [Nat.zero_add] at hb
          have := desc j ((barrier_spec hb).1 i h1 hpi)
          rw [hl] at this; cases this
      have hkk : ∀ j, k ≤ j → j < i → t.qq j = true := by
        intro j h1 h2
        cases hqj : t.qq j with
        | true => rfl
        | false =>
          have hb := t.bars j kl[j] (List.getElem?_eq_getElem (by omega)) hqj
          rw [Nat.zero_add] at hb
          have := anc j ((barrier_spec hb).2 i h2 (by omega) hpi)
          have := h.before j this (t.pure_quiet (by omega) hqj)
          omega
      obtain ⟨k', hk1, hk2, hk3, hk4, hk5, hk6⟩ : ∃ k', k' ≤ kl.length ∧ i < k' ∧ k ≤ k' ∧ (∃ news, t.HH k' = t.HH k ++ news) ∧ (∀ j, k ≤ j → j < k' → t.qq j = true) ∧ (∃ news, t.HH k' = t.HH (i + 1) ++ news) := by
        rcases Nat.lt_or_ge i k with hik | hik
        · exact ⟨k, h.le, hik, Nat.le_refl _, ⟨[], by simp⟩, fun j h1 h2 => by omega, t.pref (by omega) h.le (fun j h1 h2 => hup j (by omega) h2)⟩
        · have hall : ∀ j, k ≤ j → j < i + 1 → t.qq j = true := fun j h1 h2 => by
            rcases Nat.eq_or_lt_of_le (Nat.le_of_lt_succ h2) with e1 | e1
            · subst e1; exact hq
            · exact hkk j h1 e1
          exact ⟨i + 1, hi, by omega, by omega, t.pref (by omega) hi hall, hall, [], by simp⟩
      obtain ⟨news, hnews⟩ := hk4
      obtain ⟨news2, hnews2⟩ := hk6
      obtain ⟨news1, hnews1⟩ := evOp_prefix hop
      have hp : ∀ (i : Nat) (b : Blk), (t.HH k)[i]? = some b → (t.HH k')[i]? = some b := fun i b hb => by rw [hnews, List.getElem?_append_left (List.getElem?_eq_some_iff.1 hb).1]; exact hb
      have hp2 : ∀ (j : Nat) (b : Blk), (t.HH (i + 1))[j]? = some b → (t.HH k')[j]? = some b := fun j b hb => by rw [hnews2, List.getElem?_append_left (List.getElem?_eq_some_iff.1 hb).1]; exact hb
      have hheap := h.heap.grow hp
      have hopen : ∀ j, j < k' → ins listed j = false → ∀ i', (t.HH j).length ≤ i' → i' < (t.HH (j + 1)).length → ρ' i' = none := by
        intro j hj hjl i' h1 h2
        rcases Nat.lt_or_ge j k with hjk | hjk
        · exact h.open_ j hjk hjl i' h1 h2
        · refine h.heap.none ?_
          obtain ⟨n2, hn2⟩ := t.pref (i := k) (k := j) hjk (by omega) (fun j' h1 h2 => hk5 j' h1 (by omega))
          have : (t.HH j).length = (t.HH k).length + n2.length := by rw [hn2]; simp
          omega
      refine op_quiet hcall hk.op hops hheap hop hp2 (fun i' h1 h2 => hopen i hk2 hun' i' h1 h2) _ _ (fun x w1 hL => ?_)
      obtain ⟨I1, O1, ρ1, r1, r2, r3⟩ := hL
      have hmono := r3.mono h.heap.imm
      have hlenk : (t.HH (i + 1)).length ≤ (t.HH k').length := by rw [hnews2]; simp
      have hcg : CG n0 I' O' w' ρ' (t.HH k) I1 O1 w1 ρ1 (t.HH k') := by
        have hn : n0 ≤ (t.HH k).length := h.cg.len
        refine ⟨hmono.imm, r3.ext, fun k hk => (r3.imm' k hk).elim .inl (fun h => .inr (.inr h)), r3.own', fun i' hi' => ?_, fun i' r hr hi' => ?_, by rw [hnews]; simp; omega, fun j hj hl => (alive_append _ news).2 j (by omega) (by rw [← hnews]; exact hl)⟩
        · have hcgl : i' < (t.HH i).length := by
            have := t.len (i := 0) (k := i) (by omega) (by omega)
            rw [t.h0] at this
            have := h.base
            omega
          cases hr : ρ' i' with
          | some r => exact hmono.pl i' r hr
          | none =>
            cases hr' : ρ1 i' with
            | none => rfl
            | some r =>
              rcases r3.pl' i' r hr' with h1 | ⟨h1, h2, _⟩
              · rw [hr] at h1; cases h1
              · omega
        · rcases r3.pl' i' r hr with h1 | ⟨_, _, h1⟩
          · exact .inr (.inr ⟨i', hi', h1⟩)
          · exact .inr (.inl h1)
      refine hK _ _ k' I1 O1 ρ1 ⟨by simp [h.size], hclosed, hk1, fun j hj hpj => ?_, fun j hj hqj => ?_, r2, fun j hj hjl i' h1 h2 => ?_, henv hmono r1, h.cg.trans hcg, h.base, by rw [put_size]; exact h.tsize, by rw [put_defers]; exact h.defers⟩
      · rw [hSet] at hj
        split at hj
        · omega
        · have := h.before j hj hpj; omega
      · rw [hSet]
        split
        · rfl
        · rcases Nat.lt_or_ge j k with hjk | hjk
          · exact h.loud j hjk hqj
          · rw [hk5 j hjk hj] at hqj; cases hqj
      · rw [hSet] at hjl
        split at hjl
        · cases hjl
        · rename_i hne
          have h0 := hopen j hj hjl i' h1 h2
          cases hr' : ρ1 i' with
          | none => rfl
          | some r =>
            exfalso
            rcases r3.pl' i' r hr' with h3 | ⟨h3, h4, _⟩
            · rw [h0] at h3; cases h3
            · rcases Nat.lt_trichotomy j i with e1 | e1 | e1
              · have := t.len (i := j + 1) (k := i) (by omega) (by omega); omega
              · exact hne e1.symm
              · have := t.len (i := i + 1) (k := j) (by omega) (by omega); omega
    | false =>
      rw [hq] at hop
      have hb := t.bars i ko hko hq
      rw [Nat.zero_add] at hb
      obtain ⟨hb1, hb2⟩ := barrier_spec hb
      have hki : k ≤ i := by
        rcases Nat.lt_or_ge i k with h1 | h1
        · have := h.loud i h1 hq; rw [hun'] at this; cases this
        · exact h1
      have hstill : t.HH i = t.HH k := t.still hki (Nat.le_of_lt hi) (fun j h1 h2 => by
        cases hp : pures kl j with
        | true => rfl
        | false => have := h.before j (anc j (hb1 j h2 hp)) hp; omega)
      rw [hstill] at hop
      refine op_any hcall hk.op hops h.heap hop _ _ (fun x w1 hL => ?_)
      obtain ⟨I1, O1, ρ1, r1, r2, r3, r4⟩ := hL
      refine hK _ _ (i + 1) I1 O1 ρ1 ⟨by simp [h.size], hclosed, hi, fun j hj hpj => ?_, fun j hj hqj => ?_, r2, fun j hj hjl i' h1 h2 => ?_, henv r3.mono r1, h.cg.trans (r3.cg r4 h.cg.len h.heap), h.base, by rw [put_size]; exact h.tsize, by rw [put_defers]; exact h.defers⟩
      · rw [hSet] at hj
        split at hj
        · omega
        · have := h.before j hj hpj; omega
      · rw [hSet]
        split
        · rfl
        · rename_i hne
          have hji : j < i := by omega
          exact anc j (hb1 j hji (t.pure_quiet (by omega) hqj))
      · rw [hSet] at hjl
        split at hjl
        · cases hjl
        · rename_i hne
          have hji : j < i := by omega
          cases hp : pures kl j with
          | false => have := anc j (hb1 j hji hp); rw [hjl] at this; cases this
          | true =>
            have := t.still (i := j) (k := j + 1) (by omega) (by omega) (fun j' h1 h2 => by rw [show j' = j by omega]; exact hp)
            rw [this] at h2; omega
end Go.Proofs.YtgjbkgajkcgdfaaE
