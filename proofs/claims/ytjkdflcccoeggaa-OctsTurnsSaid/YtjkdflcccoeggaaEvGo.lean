/- A function whose whole is a scope with one label that is jumped back to. -/
import Derived.Test.YtjkdflcccoeggaaEvP4
namespace Go.Proofs.YtjkdflcccoeggaaE
open Go
set_option linter.unusedSimpArgs false
set_option linter.unusedVariables false
variable {F : Nat → Option Fun} {X : Nat → List V → Option (V × List Blk)} {tab : Nat → Option Ent} {n0 : Nat}

theorem runs_seq_inv {a b : K} {s s' : St} {r : Ex} (h : Runs F X n0 (.seq a b) s r s') : (∃ s1, Runs F X n0 a s .norm s1 ∧ Runs F X n0 b s1 r s') ∨ (r ≠ .norm ∧ Runs F X n0 a s r s') := by
  obtain ⟨n, h⟩ := h
  cases n with
  | zero => simp [ev] at h
  | succ n =>
    simp only [ev] at h
    split at h
    · rename_i s1 h1
      exact .inl ⟨s1, ⟨n + 1, ev_mono (evF_mono (Nat.le_refl _)) (Nat.le_succ _) h1⟩ , ⟨n + 1, ev_mono (evF_mono (Nat.le_refl _)) (Nat.le_succ _) h⟩⟩
    · rename_i hn
      refine .inr ⟨fun e => ?_, ⟨n + 1, ev_mono (evF_mono (Nat.le_refl _)) (Nat.le_succ _) h⟩⟩
      subst e
      exact hn _ h
theorem runs_region_inv {ops : List Op} {d : Bool} {s s' : St} {r : Ex} (h : Runs F X n0 (.region ops d) s r s') : r = .norm := by
  obtain ⟨n, h⟩ := h
  cases n with
  | zero => simp [ev] at h
  | succ n =>
    simp only [ev, Option.map_eq_some_iff, Prod.mk.injEq] at h
    obtain ⟨_, _, h, _⟩ := h
    exact h.symm
/-- what goes on behind a jump back -/
def gotoK {α : Type} (l : Nat) (P : Ps) (pl : P.T → Option α) : Ex → St → Option α := fun r s =>
  match r with
  | .goto i => if i = l then (match P.dec s with | some v => pl v | none => none) else none
  | _ => none
theorem gotoK_some {α : Type} {l : Nat} {P : Ps} {pl : P.T → Option α} {r : Ex} {s : St} {a : α} (h : gotoK l P pl r s = some a) : ∃ v, r = .goto l ∧ s = P.st v ∧ pl v = some a := by
  cases r <;> simp only [gotoK] at h <;> try (cases h; done)
  split at h <;> try (cases h; done)
  rename_i i e
  subst e
  split at h <;> try (cases h; done)
  rename_i v hv
  exact ⟨v, rfl, P.exact hv, h⟩
theorem goto_ans {g : Nat} {fn : Fun} {R : Sh} {raw : RawF R.T} {LP : LoopF R.T} {args : List V} {fu : Nat} {z : R.T} {Rg Xk rest : K} {l : Nat} {P : Ps} {pL : Nat → P.T → Option R.T} (hT : TabOK F X tab) (hO : RawOK F X raw) (hF : F g = some fn) (hR : fn.rsh = some R) (hlen : args.length ≤ fn.ntmps)
    (hb : fn.body = .seq Rg (.scope Xk)) (hg : ∃ ops d, Rg = .region ops d) (hf : findK Xk l = some rest)
    (hL1 : LoopOK F X 0 (retc fn.res R) LP (lps rest)) (hL2 : LoopOK F X 0 (retc fn.res R) LP (lps (.seq Rg Xk)))
    (h0 : ∀ v, pL 0 v = none) (hS : ∀ n v, evc tab raw LP (retc fn.res R) (modeOf F) 0 fu rest (P.st v) (gotoK l P (pL n)) = pL (n + 1) v)
    (N : Nat) (h : evc tab raw LP (retc fn.res R) (modeOf F) 0 fu (.seq Rg Xk) (env0 fn args, []) (gotoK l P (pL N)) = some z) : Ans F X g args [] (R.enc z) [] := by
  have fin' : ∀ (s : St), Runs F X 0 fn.body (env0 fn args, []) .ret s → retc fn.res R s = some z → Ans F X g args [] (R.enc z) [] := by
    intro s hrun hz
    obtain ⟨e1, H1⟩ := s
    obtain ⟨l, h1, h2⟩ := resultsc_spec hz
    simp only [List.nil_append] at h2
    split at h2 <;> try (cases h2; done)
    rename_i p hp
    obtain ⟨vs, H2⟩ := p
    have hlen1 : vs.length = 1 := by
      simp only [compact, Option.bind_eq_some_iff, Option.map_eq_some_iff, Prod.mk.injEq] at hp
      obtain ⟨vs', q1, _, _, rfl, _⟩ := hp
      simpa using (mapM_get q1).1
    match vs, hlen1 with
    | [v], _ =>
      simp only [] at h2
      obtain ⟨x, h3, h4⟩ := (toTc_spec R).1 _ _ _ h2
      injection h4 with h4; subst h4
      refine ans_of hF hlen (H := []) hrun (.inr rfl) h1 hp ?_
      simp only [fin, hR, List.length_nil, if_true, h3, Option.map_some]
  have main : ∀ (n : Nat) (v : P.T), pL n v = some z → ∃ s', Runs F X 0 (.rsm rest Xk) (P.st v) .ret s' ∧ retc fn.res R s' = some z := by
    intro n
    induction n with
    | zero => intro v h; rw [h0] at h; cases h
    | succ n ih =>
      intro v h
      rw [← hS] at h
      rcases evc_spec hT hO fu rest _ _ _ hL1 h with ⟨r, s', hr, h1, h2⟩ | ⟨s', h1, h2⟩
      · obtain ⟨v', rfl, rfl, h3⟩ := gotoK_some h2
        obtain ⟨s2, h4, h5⟩ := ih v' h3
        exact ⟨s2, runs_rsm_goto h1 hf h4, h5⟩
      · exact ⟨s', runs_rsm h1 (by simp), h2⟩
  obtain ⟨ops, d, rfl⟩ := hg
  have go : ∀ {r : Ex} {s' : St}, r ≠ .norm → Runs F X 0 (.seq (.region ops d) Xk) (env0 fn args, []) r s' → ∃ s1, Runs F X 0 (.region ops d) (env0 fn args, []) .norm s1 ∧ Runs F X 0 Xk s1 r s' := by
    intro r s' hr h
    rcases runs_seq_inv h with h | ⟨_, h⟩
    · exact h
    · exact absurd (runs_region_inv h) hr
  rcases evc_spec hT hO fu (.seq (.region ops d) Xk) _ _ _ hL2 h with ⟨r, s', hr, h1, h2⟩ | ⟨s', h1, h2⟩
  · obtain ⟨v', rfl, rfl, h3⟩ := gotoK_some h2
    obtain ⟨s2, h4, h5⟩ := main N v' h3
    obtain ⟨s1, h6, h7⟩ := go (by simp) h1
    exact fin' s2 (by rw [hb]; exact runs_seq h6 (runs_scope (runs_rsm_goto h7 hf h4))) h5
  · obtain ⟨s1, h6, h7⟩ := go (by simp) h1
    exact fin' s' (by rw [hb]; exact runs_seq h6 (runs_scope (runs_rsm h7 (by simp)))) h2
def headOf : K → K
  | .seq a _ => a
  | _ => .skip
def scopeOf : K → K
  | .seq _ (.scope b) => b
  | _ => .skip
end Go.Proofs.YtjkdflcccoeggaaE
