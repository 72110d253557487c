/- Any operation, the heap behind it. -/
import Derived.Test.YtgjbkgajkcgdfaaEvO
namespace Go.Proofs.YtgjbkgajkcgdfaaE
open Go
set_option linter.unusedSimpArgs false
set_option linter.unusedVariables false
variable {P : Program} {w : World} {m : Nat → Option Nat} {I O : Nat → Prop} {ρ : Pl} {H H' Hb : List Blk} {v : V} {e : Env} {a : Act} {call : CallF} {own : Nat → Bool}

theorem evOp_prefix {oc : EOp} (h : evOp call own oc e H = some (v, H', true)) : ∃ news, H' = H ++ news := by
  cases oc
  case call f xs =>
    have h' : callEv call own (f.ev e) (xs.map (R.ev e)) H = some (v, H', true) := h
    obtain ⟨_, _, _, ⟨p⟩⟩ := callEv_parts h'
    exact ⟨_, (p.quiet rfl).2.2⟩
  all_goals (
    simp only [evOp] at h
    split at h
    · simp only [Option.some.injEq, Prod.mk.injEq, and_true] at h
      exact ⟨_, h.2.symm⟩
    · simp at h)

theorem Alive.refl (H : List Blk) : Alive H H := ⟨Nat.le_refl _, fun _ _ h => h⟩
theorem Alive.trans {H1 H2 H3 : List Blk} (h : Alive H1 H2) (h' : Alive H2 H3) : Alive H1 H3 :=
  ⟨Nat.le_trans h.1 h'.1, fun j hj hl => h.2 j hj (h'.2 j (Nat.lt_of_lt_of_le hj h.1) hl)⟩
theorem alive_append (H n : List Blk) : Alive H (H ++ n) :=
  ⟨by simp, fun j hj ⟨b, hb, hd⟩ => ⟨b, by rwa [List.getElem?_append_left hj] at hb, hd⟩⟩
theorem alive_set {b : Nat} {bl bl' : Blk} (hb : H[b]? = some bl) (hd : bl ≠ .dead) : Alive H (H.set b bl') :=
  ⟨by simp, fun j hj hl => live_set hl ⟨bl, hb, hd⟩⟩

theorem evE_alive {oc : EOp} (h : evE oc e H = some (v, H')) : Alive H H' := by
  cases oc <;> simp only [evE] at h <;> try (cases h; done)
  case stc n x y =>
    split at h <;> try (cases h; done)
    split at h <;> try (cases h; done)
    rename_i hb
    simp only [Option.bind_eq_some_iff] at h
    obtain ⟨d, _, h⟩ := h
    split at h <;> try (cases h; done)
    simp only [Option.map_eq_some_iff, Prod.mk.injEq] at h
    obtain ⟨_, _, _, rfl⟩ := h
    exact alive_set hb (by simp)
  case app sz bytes x y =>
    simp only [Option.bind_eq_some_iff] at h
    obtain ⟨⟨n, d⟩, _, h⟩ := h
    simp only [] at h
    split at h <;> try (cases h; done)
    · split at h <;> try (cases h; done)
      rename_i hb
      split at h <;> try (cases h; done)
      simp only [Option.map_eq_some_iff, Prod.mk.injEq] at h
      obtain ⟨_, _, _, rfl⟩ := h
      exact (alive_set hb (by simp)).trans (alive_append _ _)
    · split at h <;> try (cases h; done)
      rename_i hb
      split at h <;> try (cases h; done)
      simp only [Option.map_eq_some_iff, Prod.mk.injEq] at h
      obtain ⟨_, _, _, rfl⟩ := h
      exact alive_set hb (by simp)
  case cpy sz x y =>
    simp only [Option.bind_eq_some_iff] at h
    obtain ⟨⟨n, d⟩, _, h⟩ := h
    simp only [] at h
    split at h <;> try (cases h; done)
    split at h <;> try (cases h; done)
    rename_i hb
    split at h <;> try (cases h; done)
    simp only [Option.map_eq_some_iff, Prod.mk.injEq] at h
    obtain ⟨_, _, _, rfl⟩ := h
    exact alive_set hb (by simp)
  case clr sz z x =>
    split at h <;> try (cases h; done)
    split at h <;> try (cases h; done)
    rename_i hb
    split at h <;> try (cases h; done)
    simp only [Option.bind_eq_some_iff] at h
    obtain ⟨d, _, h⟩ := h
    split at h <;> try (cases h; done)
    simp only [Option.map_eq_some_iff, Prod.mk.injEq] at h
    obtain ⟨_, _, _, rfl⟩ := h
    exact alive_set hb (by simp)
  case nxt x =>
    split at h <;> try (cases h; done)
    split at h <;> try (cases h; done)
    rename_i hb
    split at h <;> try (cases h; done)
    split at h
    · simp only [Option.some.injEq, Prod.mk.injEq] at h
      obtain ⟨_, rfl⟩ := h
      exact alive_set hb (by simp)
    · simp only [Option.some.injEq, Prod.mk.injEq] at h
      obtain ⟨_, rfl⟩ := h
      exact .refl _

theorem HRel.grow (hH : HRel m I O w ρ H) (hp : ∀ (i : Nat) (b : Blk), H[i]? = some b → Hb[i]? = some b) : HRel m I O w ρ Hb := by
  have back : ∀ i r, ρ i = some r → live Hb i → live H i := fun i r hr ⟨b, hb, hd⟩ => by
    obtain ⟨b', hb', _⟩ := hH.blk i r hr
    have := hp i b' hb'
    rw [hb] at this; injection this with this; subst this
    exact ⟨b, hb', hd⟩
  exact ⟨fun i j r hi hj li lj => hH.inj i j r hi hj (back i r hi li) (back j r hj lj), fun i r hi => by obtain ⟨b, hb, hB⟩ := hH.blk i r hi; exact ⟨b, hp i b hb, hB⟩, hH.lt, hH.own, hH.imm, hH.dis⟩

/-- what an operation leaves -/
def Left (m : Nat → Option Nat) (I O : Nat → Prop) (w : World) (ρ : Pl) (H H' : List Blk) (v : V) (x : Value) (w' : World) : Prop :=
  ∃ I' O' ρ', RelV m I' w' ρ' v x ∧ HRel m I' O' w' ρ' H' ∧ GS H.length I O w ρ I' O' w' ρ' ∧ Alive H H'

theorem op_any {o : Oper} {oc : EOp} {q : Bool} (hcall : CallSnd P m call) (hc : compO P m o.op = some oc) (he : ORel m I w ρ e a o.op.operands.toList) (hH : HRel m I O w ρ H)
    (h : evOp call own oc e H = some (v, H', q)) : Goes P o a w (Left m I O w ρ H H' v) := by
  cases q with
  | true =>
    obtain ⟨news, rfl⟩ := evOp_prefix h
    have hp : ∀ (i : Nat) (b : Blk), H[i]? = some b → (H ++ news)[i]? = some b := fun i b hb => by rw [List.getElem?_append_left (List.getElem?_eq_some_iff.1 hb).1]; exact hb
    refine (op_quiet hcall hc he (hH.grow hp) h prefix_refl (fun i hi _ => hH.none hi)).mono (fun x w' ⟨I', O', ρ', h1, h2, h3⟩ => ?_)
    exact ⟨I', O', ρ', h1, h2, h3.gs hH.imm, alive_append _ _⟩
  | false =>
    by_cases hnc : notCall o.op = true
    · have hncc := notCall_op hnc hc
      have h' : (match evQ oc e H with | some (v, news) => some (v, H ++ news, true) | none => (evE oc e H).map fun (v, H) => (v, H, false)) = some (v, H', false) := by
        cases oc <;> first | exact h | exact absurd rfl (hncc _ _)
      have hE : evE oc e H = some (v, H') := by
        cases hq : evQ oc e H with
        | some r => rw [hq] at h'; simp at h'
        | none =>
          rw [hq] at h'
          simp only [Option.map_eq_some_iff, Prod.mk.injEq, and_true] at h'
          obtain ⟨⟨v1, H1⟩, h1, rfl, rfl⟩ := h'
          exact h1
      obtain ⟨z, w', O', ρ', q1, q2, q3, q4⟩ := eff_op hnc hc he hH hE
      have hR : Left m I O w ρ H H' v z w' := ⟨I, O', ρ', q2, q3, q4.gs, evE_alive hE⟩
      rcases q1 with q1 | ⟨q1, rfl⟩
      · exact goes_value q1 hR
      · exact goes_skip q1 hR
    · obtain ⟨dst, fo, xs, ats, ty, pos, af, gu, g, l, rfl, rfl, h1, h2⟩ := call_op (by simpa using hnc) hc
      have hc' : callEv call own (g.ev e) (l.map (R.ev e)) H = some (v, H', false) := h
      obtain ⟨gf, caps, hfv, ⟨p⟩⟩ := callEv_parts hc'
      have hfo := refOf_rel h1 he (operands_call fo (.inl rfl))
      rw [hfv] at hfo
      generalize hF : a.eval fo = F at hfo
      cases hfo with
      | fn _ _ f _ cs hm hs hf =>
        obtain ⟨k1, k2⟩ := p.after hcall hm prefix_refl hH (call_args h2 he hs hf)
        refine goes_call hF k1 (Calls.mono k2 (fun e w' he => ?_))
        obtain ⟨x, I', O', ρ', rfl, r1, r2⟩ := he
        refine ⟨x, rfl, ?_⟩
        have hlive := p.live (Hb := H) prefix_refl
        have hlen := (mapM_get p.heap).1
        have hl := (mapM_get p.back).1
        have hge := p.len
        rw [p.loud rfl]
        obtain ⟨g1, g2, g3⟩ := r2.gen hH p.nodup p.lt p.apart p.fr2 p.back p.len hlive hlen
        exact ⟨_, _, _, r2.val rfl (n := p.HbN.length - p.L.length) (by omega) p.lt p.fr1 p.res r1, g1, g2, g3⟩
end Go.Proofs.YtgjbkgajkcgdfaaE
