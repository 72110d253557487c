/- An end more. -/
import Derived.Test.YthigfakjiknhcaaDoorTx
namespace Go.Proofs.YthigfakjiknhcaaDoorT
open Go Go.Proofs Go.RowKit
set_option linter.unusedSimpArgs false
set_option linter.unusedVariables false
/-- every block but some stands -/
structure KS (S : Nat → Prop) (w w' : World) : Prop where
  os : w'.os = w.os
  tape : w'.tape = w.tape
  output : w'.output = w.output
  size : w.heap.size ≤ w'.heap.size
  block : ∀ k, k < w.heap.size → ¬ S k → w'.heap[k]? = w.heap[k]?
section
variable {S : Nat → Prop} {w w' : World}
theorem KS.at (k : KS S w w') {i : Nat} {o : Obj} (hi : w.heap[i]? = some o) (hne : ¬ S i) : w'.heap[i]? = some o := by
  rw [k.block i (Array.getElem?_eq_some_iff.1 hi).1 hne]; exact hi
theorem KS.kt (k : KS S w w') (h : ∀ i cs T fr, S i → w.heap[i]? = some (.cells cs T fr) → ¬ TB T) : KT w w' := ⟨k.os, k.tape, k.output, k.size, fun i cs T fr hi ht => k.at hi fun hs => h i cs T fr hs hi ht⟩
theorem EB.ks {p : Nat} {e : EndP} (h : EB w p e) (k : KS S w w') (kt : KT w w') (hne : ¬ S p) : EB w' p e := by
  obtain ⟨vh, vn, vo, vr, h0, h1, h2, h3, h4⟩ := h
  exact ⟨vh, vn, vo, vr, k.at h0 hne, h1.mono kt, h2.mono kt, h3.mono kt, h4.mono kt⟩
theorem PS.ks {n0 : Nat} {v : Value} {ps : List Nat} (h : PS n0 w v ps) (k : KS S w w') (hne : ∀ g, v.ownBlock = some g → ¬ S g) : PS n0 w' v ps := by
  refine ⟨h.1, ?_⟩
  rcases h.2 with hn | ⟨g, cap, cur, rfl, hb, hgg, rest⟩
  · exact .inl hn
  · exact .inr ⟨g, cap, cur, rfl, hb, k.at hgg (hne g rfl), rest⟩
theorem SB.ks {kb : Nat} {ks : List (List UInt8)} (h : SB w kb ks) (k : KS S w w') (hne : ∀ i o, S i → w.heap[i]? = some o → ∃ cs T fr, o = .cells cs T fr ∧ T ≠ 59) : SB w' kb ks := by
  obtain ⟨m, h1, es, clock, h2, h3⟩ := h
  refine ⟨m, k.at h1 ?_, es, clock, k.at h2 ?_, h3⟩
  · intro hs
    obtain ⟨cs, T, fr, e, hT⟩ := hne _ _ hs h1
    cases e
    exact hT rfl
  · intro hs
    obtain ⟨cs, T, fr, e, hT⟩ := hne _ _ hs h2
    cases e
end
theorem EL.snoc {w : World} {ps : List Nat} {es : List EndP} {p : Nat} {e : EndP} (h : EL w ps es) (he : EB w p e) : EL w (ps ++ [p]) (es ++ [e]) := by
  refine ⟨by simp [h.1], fun i q f hq hf => ?_⟩
  rcases Nat.lt_or_ge i ps.length with hlt | hge
  · rw [List.getElem?_append_left hlt] at hq
    rw [List.getElem?_append_left (by rw [← h.1]; exact hlt)] at hf
    exact h.2 i q f hq hf
  · have hi : i = ps.length := by
      have := (List.getElem?_eq_some_iff.1 hq).1
      simp at this
      omega
    subst hi
    rw [List.getElem?_append_right (Nat.le_refl _)] at hq
    rw [h.1, List.getElem?_append_right (Nat.le_refl _)] at hf
    simp at hq hf
    subst hq; subst hf
    exact he
/-- the blocks that an append and the store behind it turn -/
theorem app_ks {w w' : World} {b j : Nat} {v v' : Value} (hg : w.grownBy w' v.ownBlock) : KS (fun i => i = b ∨ v.ownBlock = some i) w (w'.setCell ⟨b, j, none⟩ v') :=
  ⟨hg.os, hg.tape, hg.output, by simp [World.setCell]; exact hg.size, fun i hi hn => by
    rw [Below.heap_setCell _ _ _ _ (fun e => hn (Or.inl e))]
    exact hg.block i hi (fun e => hn (Or.inr e.symm))⟩
theorem app_kind {n0 : Nat} {w : World} {b kb : Nat} {vs vr v : Value} {ps pr pv : List Nat} {σ : St} (h : WX n0 w b kb vs vr ps pr σ) (hv : PS n0 w v pv) : ∀ i o, (i = b ∨ v.ownBlock = some i) → w.heap[i]? = some o → ∃ cs T fr, o = .cells cs T fr ∧ (T = 42 ∨ T = 67) := by
  intro i o hs ho
  rcases hs with rfl | hs
  · rw [h.blk] at ho
    cases ho
    exact ⟨_, _, _, rfl, Or.inl rfl⟩
  · obtain ⟨cur, h0⟩ := hv.blk hs
    rw [h0] at ho
    cases ho
    exact ⟨_, _, _, rfl, Or.inr rfl⟩
theorem app_nodup {ps pr : List Nat} {q : Nat} (h : (ps ++ pr).Nodup) (hq : q ∉ ps ++ pr) : (ps ++ (pr ++ [q])).Nodup ∧ (ps ++ [q] ++ pr).Nodup := by
  constructor
  · rw [← List.append_assoc, List.nodup_append]
    exact ⟨h, by simp, fun a ha c hc e => by simp at hc; subst hc; subst e; exact hq ha⟩
  · have hp : (ps ++ [q] ++ pr).Perm (q :: (ps ++ pr)) := by
      rw [List.append_assoc]
      exact List.perm_middle
    rw [hp.nodup_iff]
    exact List.nodup_cons.2 ⟨hq, h⟩
/-- a run more -/
theorem WX.appR {n0 : Nat} {w w' : World} {b kb : Nat} {vs vr : Value} {ps pr : List Nat} {σ : St} (h : WX n0 w b kb vs vr ps pr σ) {q : Nat} {e : EndP} (he : EB w q e) (hq : q ∉ ps ++ pr) (hqn : n0 ≤ q)
    {g cap H : Nat} (hown : w'.ownsRow n0 67 1 (.slice (some ⟨g, 0, none⟩) (pr.length + 1) cap) (pr.length + 1) ((pr.map fun p => Value.pointer (some ⟨p, 0, none⟩)) ++ [.pointer (some ⟨q, 0, none⟩)])) (hg : w.grownBy w' vr.ownBlock) (hat : vr.ownBlock = some g ∨ g = H) (hH : w.heap.size = H) :
    WX n0 (w'.setCell ⟨b, 2, none⟩ (.slice (some ⟨g, 0, none⟩) (pr.length + 1) cap)) b kb vs (.slice (some ⟨g, 0, none⟩) (pr.length + 1) cap) ps (pr ++ [q]) { σ with r := σ.r ++ [e] } ∧ BQ n0 w (w'.setCell ⟨b, 2, none⟩ (.slice (some ⟨g, 0, none⟩) (pr.length + 1) cap)) := by
  have ks := app_ks (b := b) (j := 2) (v' := .slice (some ⟨g, 0, none⟩) (pr.length + 1) cap) hg
  have kd := app_kind h h.r
  have kt : KT w (w'.setCell ⟨b, 2, none⟩ (.slice (some ⟨g, 0, none⟩) (pr.length + 1) cap)) := ks.kt fun i cs T fr hs hi => by
    obtain ⟨cs', T', fr', e, hT⟩ := kd i _ hs hi
    cases e
    intro ht
    rcases hT with rfl | rfl <;> rcases ht with h | h | h <;> cases h
  have e70 : ∀ p e, EB w p e → ¬ (p = b ∨ vr.ownBlock = some p) := fun p e he hs => by
    obtain ⟨_, _, _, _, h0, _⟩ := he
    obtain ⟨cs', T', fr', e, hT⟩ := kd p _ hs h0
    cases e
    rcases hT with h | h <;> cases h
  have el : ∀ ps es, EL w ps es → EL (w'.setCell ⟨b, 2, none⟩ (.slice (some ⟨g, 0, none⟩) (pr.length + 1) cap)) ps es := fun ps es h => ⟨h.1, fun i p e hp he => (h.2 i p e hp he).ks ks kt (e70 _ _ (h.2 i p e hp he))⟩
  have hgb : g ≠ b := by
    intro e
    subst e
    rcases hat with ha | ha
    · obtain ⟨cur, h0⟩ := h.r.blk ha
      rw [h.blk] at h0
      cases h0
    · have := h.lt; omega
  have hvb : ∀ i, vr.ownBlock = some i → n0 ≤ i := fun i hi => (World.ownsRow.lt h.r i hi).1
  have hb' : w'.heap[b]? = w.heap[b]? := hg.block b h.lt (fun e => by
    obtain ⟨cur, h0⟩ := h.r.blk e.symm
    rw [h.blk] at h0
    cases h0)
  refine ⟨⟨?_, h.st.ks ks (fun i o hs ho => ?_), h.s.ks ks ?_, ?_, el _ _ h.se, EL.snoc (el _ _ h.re) (he.ks ks kt (e70 _ _ he)), (app_nodup h.nd hq).1, ?_, h.lb, ?_, Nat.le_trans h.ln ks.size⟩, ⟨⟨ks.os, ks.tape, ks.output, ks.size, fun i hi => ?_⟩, fun i cs fr hi => ks.at hi fun hs => ?_⟩⟩
  · have hb := h.blk
    rw [← hb'] at hb
    simp [World.setCell, Array.getElem?_modify, hb]
  · obtain ⟨cs, T, fr, e, hT⟩ := kd i o hs ho
    exact ⟨cs, T, fr, e, by rcases hT with rfl | rfl <;> decide⟩
  · intro a ha hs
    rcases hs with rfl | hs
    · obtain ⟨cur, h0⟩ := h.s.blk ha
      rw [h.blk] at h0
      cases h0
    · exact h.ne a ha hs
  · have hk : World.grownBy w' (w'.setCell ⟨b, 2, none⟩ (.slice (some ⟨g, 0, none⟩) (pr.length + 1) cap)) (some b) := ⟨rfl, rfl, rfl, by simp [World.setCell], fun i hi hn => Below.heap_setCell _ _ _ _ (fun e => hn (by rw [e]))⟩
    have := World.ownsRow.kept hown hk (Or.inr (fun e => by simp [Value.ownBlock] at e; exact hgb e))
    unfold PS
    simpa using this
  · intro a ha hs
    simp [Value.ownBlock] at hs
    subst hs
    rcases hat with hv | hv
    · exact h.ne _ ha hv
    · have := (World.ownsRow.lt h.s _ ha).2
      omega
  · intro p hp
    simp only [List.mem_append, List.mem_singleton] at hp
    rcases hp with hp | hp | rfl
    · exact h.lp p (by simp [hp])
    · exact h.lp p (by simp [hp])
    · exact hqn
  · refine ks.block i (by have := h.ln; omega) ?_
    rintro (rfl | hs)
    · have := h.lb; omega
    · have := hvb i hs; omega
  · obtain ⟨cs', T', fr', e, hT⟩ := kd i _ hs hi
    cases e
    rcases hT with h | h <;> cases h
/-- a session more -/
theorem WX.appS {n0 : Nat} {w w' : World} {b kb : Nat} {vs vr : Value} {ps pr : List Nat} {σ : St} (h : WX n0 w b kb vs vr ps pr σ) {q : Nat} {e : EndP} (he : EB w q e) (hq : q ∉ ps ++ pr) (hqn : n0 ≤ q)
    {g cap H : Nat} (hown : w'.ownsRow n0 67 1 (.slice (some ⟨g, 0, none⟩) (ps.length + 1) cap) (ps.length + 1) ((ps.map fun p => Value.pointer (some ⟨p, 0, none⟩)) ++ [.pointer (some ⟨q, 0, none⟩)])) (hg : w.grownBy w' vs.ownBlock) (hat : vs.ownBlock = some g ∨ g = H) (hH : w.heap.size = H) :
    WX n0 (w'.setCell ⟨b, 1, none⟩ (.slice (some ⟨g, 0, none⟩) (ps.length + 1) cap)) b kb (.slice (some ⟨g, 0, none⟩) (ps.length + 1) cap) vr (ps ++ [q]) pr { σ with s := σ.s ++ [e] } ∧ BQ n0 w (w'.setCell ⟨b, 1, none⟩ (.slice (some ⟨g, 0, none⟩) (ps.length + 1) cap)) := by
  have ks := app_ks (b := b) (j := 1) (v' := .slice (some ⟨g, 0, none⟩) (ps.length + 1) cap) hg
  have kd := app_kind h h.s
  have kt : KT w (w'.setCell ⟨b, 1, none⟩ (.slice (some ⟨g, 0, none⟩) (ps.length + 1) cap)) := ks.kt fun i cs T fr hs hi => by
    obtain ⟨cs', T', fr', e, hT⟩ := kd i _ hs hi
    cases e
    intro ht
    rcases hT with rfl | rfl <;> rcases ht with h | h | h <;> cases h
  have e70 : ∀ p e, EB w p e → ¬ (p = b ∨ vs.ownBlock = some p) := fun p e he hs => by
    obtain ⟨_, _, _, _, h0, _⟩ := he
    obtain ⟨cs', T', fr', e, hT⟩ := kd p _ hs h0
    cases e
    rcases hT with h | h <;> cases h
  have el : ∀ ps' es, EL w ps' es → EL (w'.setCell ⟨b, 1, none⟩ (.slice (some ⟨g, 0, none⟩) (ps.length + 1) cap)) ps' es := fun ps es h => ⟨h.1, fun i p e hp he => (h.2 i p e hp he).ks ks kt (e70 _ _ (h.2 i p e hp he))⟩
  have hgb : g ≠ b := by
    intro e
    subst e
    rcases hat with ha | ha
    · obtain ⟨cur, h0⟩ := h.s.blk ha
      rw [h.blk] at h0
      cases h0
    · have := h.lt; omega
  have hvb : ∀ i, vs.ownBlock = some i → n0 ≤ i := fun i hi => (World.ownsRow.lt h.s i hi).1
  have hb' : w'.heap[b]? = w.heap[b]? := hg.block b h.lt (fun e => by
    obtain ⟨cur, h0⟩ := h.s.blk e.symm
    rw [h.blk] at h0
    cases h0)
  refine ⟨⟨?_, h.st.ks ks (fun i o hs ho => ?_), ?_, h.r.ks ks ?_, EL.snoc (el _ _ h.se) (he.ks ks kt (e70 _ _ he)), el _ _ h.re, (app_nodup h.nd hq).2, ?_, h.lb, ?_, Nat.le_trans h.ln ks.size⟩, ⟨⟨ks.os, ks.tape, ks.output, ks.size, fun i hi => ?_⟩, fun i cs fr hi => ks.at hi fun hs => ?_⟩⟩
  · have hb := h.blk
    rw [← hb'] at hb
    simp [World.setCell, Array.getElem?_modify, hb]
  · obtain ⟨cs, T, fr, e, hT⟩ := kd i o hs ho
    exact ⟨cs, T, fr, e, by rcases hT with rfl | rfl <;> decide⟩
  · have hk : World.grownBy w' (w'.setCell ⟨b, 1, none⟩ (.slice (some ⟨g, 0, none⟩) (ps.length + 1) cap)) (some b) := ⟨rfl, rfl, rfl, by simp [World.setCell], fun i hi hn => Below.heap_setCell _ _ _ _ (fun e => hn (by rw [e]))⟩
    have := World.ownsRow.kept hown hk (Or.inr (fun e => by simp [Value.ownBlock] at e; exact hgb e))
    unfold PS
    simpa using this
  · intro a ha hs
    rcases hs with rfl | hs
    · obtain ⟨cur, h0⟩ := h.r.blk ha
      rw [h.blk] at h0
      cases h0
    · exact h.ne a hs ha
  · intro a ha hs
    simp [Value.ownBlock] at ha
    subst ha
    rcases hat with hv | hv
    · exact h.ne _ hv hs
    · have := (World.ownsRow.lt h.r _ hs).2
      omega
  · intro p hp
    simp only [List.mem_append, List.mem_singleton] at hp
    rcases hp with (hp | rfl) | hp
    · exact h.lp p (by simp [hp])
    · exact hqn
    · exact h.lp p (by simp [hp])
  · refine ks.block i (by have := h.ln; omega) ?_
    rintro (rfl | hs)
    · have := h.lb; omega
    · have := hvb i hs; omega
  · obtain ⟨cs', T', fr', e, hT⟩ := kd i _ hs hi
    cases e
    rcases hT with h | h <;> cases h
end Go.Proofs.YthigfakjiknhcaaDoorT
