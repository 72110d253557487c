/- The world as it lies; say. -/
import Derived.Test.YthigfakjiknhcaaDoorTt
import Derived.Deep.AppendLies
namespace Go.Proofs.YthigfakjiknhcaaDoorT
open Go Go.Proofs Go.RowKit
set_option linter.unusedSimpArgs false
set_option linter.unusedVariables false
/-- the world, plain -/
structure St where
  ks : List (List UInt8)
  s : List EndP
  r : List EndP
  lk : Nat → Bool
/-- a slice of the call's own that holds pointers -/
def PS (n0 : Nat) (w : World) (v : Value) (ps : List Nat) : Prop := w.ownsRow n0 67 1 v ps.length (ps.map fun p => Value.pointer (some ⟨p, 0, none⟩))
/-- ends where pointers point -/
def EL (w : World) (ps : List Nat) (es : List EndP) : Prop := ps.length = es.length ∧ ∀ (i p : Nat) (e : EndP), ps[i]? = some p → es[i]? = some e → EB w p e
structure WX (n0 : Nat) (w : World) (b kb : Nat) (vs vr : Value) (ps pr : List Nat) (σ : St) : Prop where
  blk : w.heap[b]? = some (.cells #[.pointer (some ⟨kb, 0, none⟩), vs, vr, .bool (σ.lk 0), .bool (σ.lk 1), .bool (σ.lk 2), .bool (σ.lk 3)] 42 (0, 0))
  st : SB w kb σ.ks
  s : PS n0 w vs ps
  r : PS n0 w vr pr
  se : EL w ps σ.s
  re : EL w pr σ.r
  nd : (ps ++ pr).Nodup
  ne : ∀ g, vs.ownBlock = some g → vr.ownBlock ≠ some g
  lb : n0 ≤ b
  lp : ∀ p ∈ ps ++ pr, n0 ≤ p
  ln : n0 ≤ w.heap.size
theorem EB.below {w w' : World} {p : Nat} {e : EndP} (h : EB w p e) (hb : Below w.heap.size w w') : EB w' p e := by
  obtain ⟨vh, vn, vo, vr, h0, h1, h2, h3, h4⟩ := h
  exact ⟨vh, vn, vo, vr, by rw [hb.block p (Array.getElem?_eq_some_iff.1 h0).1]; exact h0, h1.below hb, h2.below hb, h3.below hb, h4.below hb⟩
theorem EL.below {w w' : World} {ps : List Nat} {es : List EndP} (h : EL w ps es) (hb : Below w.heap.size w w') : EL w' ps es := ⟨h.1, fun i p e hp he => (h.2 i p e hp he).below hb⟩
theorem grown_of_below {w w' : World} (hb : Below w.heap.size w w') : w.grownBy w' none := ⟨hb.os, hb.tape, hb.output, hb.size, fun k hk _ => hb.block k hk⟩
theorem PS.below {n0 : Nat} {w w' : World} {v : Value} {ps : List Nat} (h : PS n0 w v ps) (hb : Below w.heap.size w w') : PS n0 w' v ps := World.ownsRow.kept h (grown_of_below hb) (by cases v.ownBlock <;> simp)
theorem WX.below {n0 : Nat} {w w' : World} {b kb : Nat} {vs vr : Value} {ps pr : List Nat} {σ : St} (h : WX n0 w b kb vs vr ps pr σ) (hb : Below w.heap.size w w') : WX n0 w' b kb vs vr ps pr σ :=
  ⟨by rw [hb.block b (Array.getElem?_eq_some_iff.1 h.blk).1]; exact h.blk, h.st.below hb, h.s.below hb, h.r.below hb, h.se.below hb, h.re.below hb, h.nd, h.ne, h.lb, h.lp, Nat.le_trans h.ln hb.size⟩
theorem WX.lt {n0 : Nat} {w : World} {b kb : Nat} {vs vr : Value} {ps pr : List Nat} {σ : St} (h : WX n0 w b kb vs vr ps pr σ) : b < w.heap.size := (Array.getElem?_eq_some_iff.1 h.blk).1
/-- blocks of other types than the world's stand where only the world's block turns -/
theorem KB.at {b : Nat} {w w' : World} (k : KB b w w') {i : Nat} {o : Obj} (hi : w.heap[i]? = some o) (hne : i ≠ b) : w'.heap[i]? = some o := by
  rw [k.block i (Array.getElem?_eq_some_iff.1 hi).1 hne]; exact hi
theorem KB.kt {b : Nat} {w w' : World} {cs : Array Value} {T : TypeId} {fr : Nat × Nat} (hb : w.heap[b]? = some (.cells cs T fr)) (hT : ¬ TB T) (k : KB b w w') : KT w w' := ⟨k.os, k.tape, k.output, k.size, fun i cs' T' fr' hi ht => by
  by_cases e : i = b
  · subst e
    rw [hb] at hi
    cases hi
    exact absurd ht hT
  · exact k.at hi e⟩
theorem EB.kb {b : Nat} {w w' : World} {p : Nat} {e : EndP} (h : EB w p e) (k : KB b w w') (kt : KT w w') (hne : p ≠ b) : EB w' p e := by
  obtain ⟨vh, vn, vo, vr, h0, h1, h2, h3, h4⟩ := h
  exact ⟨vh, vn, vo, vr, k.at h0 hne, h1.mono kt, h2.mono kt, h3.mono kt, h4.mono kt⟩
theorem PS.kb {n0 b : Nat} {w w' : World} {v : Value} {ps : List Nat} (h : PS n0 w v ps) (k : KB b w w') (hne : ∀ g, v.ownBlock = some g → g ≠ b) : PS n0 w' v ps :=
  World.ownsRow.kept (row := some b) h ⟨k.os, k.tape, k.output, k.size, fun i hi hn => k.block i hi (fun e => hn (by rw [e]))⟩ (by
    cases hv : v.ownBlock with
    | none => exact Or.inl rfl
    | some g => exact Or.inr (fun e => hne g hv (by cases e; rfl)))
theorem PS.blk {n0 : Nat} {w : World} {v : Value} {ps : List Nat} (h : PS n0 w v ps) {g : Nat} (hg : v.ownBlock = some g) : ∃ cur, w.heap[g]? = some (.cells cur 67 (0, 0)) := by
  rcases h.2 with ⟨rfl, _⟩ | ⟨g', cap, cur, rfl, _, h1, _⟩
  · simp [Value.ownBlock] at hg
  · simp [Value.ownBlock] at hg
    subst hg
    exact ⟨cur, h1⟩
theorem SB.kb {b : Nat} {w w' : World} {kb : Nat} {ks : List (List UInt8)} (h : SB w kb ks) (k : KB b w w') (hne : kb ≠ b) (hm : ∀ es c, w.heap[b]? ≠ some (.map es c)) : SB w' kb ks := by
  obtain ⟨m, h1, es, clock, h2, h3⟩ := h
  exact ⟨m, k.at h1 hne, es, clock, k.at h2 (fun e => by subst e; exact hm _ _ h2), h3⟩
/-- all but the world's own block and the store -/
structure WXr (n0 : Nat) (w : World) (b : Nat) (vs vr : Value) (ps pr : List Nat) (σ : St) : Prop where
  s : PS n0 w vs ps
  r : PS n0 w vr pr
  se : EL w ps σ.s
  re : EL w pr σ.r
theorem WX.kb {n0 : Nat} {w w' : World} {b kb : Nat} {vs vr : Value} {ps pr : List Nat} {σ : St} (h : WX n0 w b kb vs vr ps pr σ) (k : KB b w w') : WXr n0 w' b vs vr ps pr σ := by
  have kt : KT w w' := k.kt h.blk (by intro h; rcases h with h | h | h <;> cases h)
  have e70 : ∀ p e, EB w p e → p ≠ b := fun p e he hh => by
    subst hh
    obtain ⟨_, _, _, _, h0, _⟩ := he
    have := h.blk
    rw [h0] at this
    cases this
  have e67 : ∀ v ps, PS n0 w v ps → ∀ g, v.ownBlock = some g → g ≠ b := fun v ps hp g hg hh => by
    subst hh
    obtain ⟨cur, h0⟩ := hp.blk hg
    have := h.blk
    rw [h0] at this
    cases this
  exact ⟨h.s.kb k (e67 _ _ h.s), h.r.kb k (e67 _ _ h.r), ⟨h.se.1, fun i p e hp he => (h.se.2 i p e hp he).kb k kt (e70 _ _ (h.se.2 i p e hp he))⟩, ⟨h.re.1, fun i p e hp he => (h.re.2 i p e hp he).kb k kt (e70 _ _ (h.re.2 i p e hp he))⟩⟩
/-- what is held when all is said; none: it is not said -/
def sayO (ks : List (List UInt8)) : List (Option Tm) → Option (List (List UInt8))
  | [] => some ks
  | t :: ts => if (hear ks t).1 = 0 then sayO (hear ks t).2 ts else none
end Go.Proofs.YthigfakjiknhcaaDoorT
