/- The law of a range over SplitSeq: the body keeps its own relation. -/
import Derived.Test.YthigfakjiknhcaaDoorTym
namespace Go.Proofs.YthigfakjiknhcaaDoorT
open Go Go.Proofs Go.RowKit Go.Shelf
set_option linter.unusedSimpArgs false
set_option linter.unusedVariables false
def rpost (b : Nat) (s : List UInt8) (I : List (List UInt8) → World → Prop) (xs : List (List UInt8)) (W : World) : Exit → Act → World → Prop
  | .normal, _, W' => KeepsOthers W W' ∧ SQ W' b s ∧ I xs W'
  | .ret, _, _ => False
  | .exit _, _, _ => False
  | .goto _, _, _ => False
  | .panic _, _, _ => False
  | .outgrown, _, _ => False
theorem SQ.put {w : World} {b : Nat} {s : List UInt8} (h : SQ w b s) {l : Nat} {L : Loop} (hl : w.heap[l]? = some (.loop L)) (o : Obj) : SQ (w.putObj l o) b s := by
  have n0 : b ≠ l := fun e => by subst e; rw [h.1] at hl; cases hl
  have n1 : b + 1 ≠ l := fun e => by subst e; rw [h.2.1] at hl; cases hl
  have n2 : b + 2 ≠ l := fun e => by subst e; rw [h.2.2] at hl; cases hl
  exact ⟨(World.putObj_heap_other n0).trans h.1, (World.putObj_heap_other n1).trans h.2.1, (World.putObj_heap_other n2).trans h.2.2⟩
theorem SQ.alloc {w : World} {b : Nat} {s : List UInt8} (h : SQ w b s) (o : Obj) : SQ (w.alloc o) b s :=
  ⟨(Below.heap_alloc _ _ _ (Array.getElem?_eq_some_iff.1 h.1).1).trans h.1, (Below.heap_alloc _ _ _ (Array.getElem?_eq_some_iff.1 h.2.1).1).trans h.2.1, (Below.heap_alloc _ _ _ (Array.getElem?_eq_some_iff.1 h.2.2).1).trans h.2.2⟩
section
variable {F : Fence} {n : Nat} {P : Program}
theorem range_law {g : Operand} {ps : Array Tmp} {assign body : Code} {Q : Exit → Act → World → Prop} {a : Act} {w : World}
    (hro : F.round = none) (h1 : 1 ≤ n) {gf : Nat} {lb : Array Value} (hg : a.eval g = .func (.func gf) #[] lb) (hFg : F.fn gf) (eg : ∀ args w, (callFunc gf args).run P w = .ok (.enter gf args) w) (hps : ps.size = 1)
    (b : Nat) (S0 : List UInt8) (xs : List (List UInt8)) (hS : SQ w b S0)
    (hit : ∀ (l : Nat) (J : List (List UInt8) → World → Prop) (W : World), (∀ pre W v, J pre W → J pre (W.setCell ⟨b, 0, none⟩ v)) →
      (∀ pre p W s, pre ++ [p] <+: xs → J pre W → SQ W b s → YieldAt F (n - 1 - 1) P l #[str p] W fun e W' => e = .returned (.bool true) ∧ J (pre ++ [p]) W' ∧ SQ W' b s) →
      SQ W b S0 → J [] W → CallsIn F (n - 1) P gf (#[.func (.yield l) #[] #[]] ++ lb) W fun e W' => (∃ v, e = .returned v) ∧ J xs W')
    (I : List (List UInt8) → World → Prop) (hIa : ∀ pre W o, I pre W → I pre (W.alloc o)) (hIp : ∀ pre W l L o', w.heap.size ≤ l → I pre W → W.heap[l]? = some (.loop L) → I pre (W.putObj l o'))
    (hIs : ∀ pre W v, I pre W → I pre (W.setCell ⟨b, 0, none⟩ v)) (h0 : I [] w) (a₁ : List UInt8 → Act)
    (hassign : ∀ (l : Nat) (p : List UInt8) (W : World) (K : Act → World → Prop), K (a₁ p) W →
      assign.wpIn (F.inRound l) (n - 1 - 1) P (Exit.then K (fun _ _ _ => False)) { tmps := (ps.zip #[str p]).foldl (fun t (p, v) => t.setIfInBounds p v) a.tmps, defers := [] } W)
    (hbody : ∀ (l : Nat) (pre : List (List UInt8)) (p : List UInt8) (W : World) (s : List UInt8), pre ++ [p] <+: xs → I pre W → SQ W b s → body.wpIn (F.inRound l) (n - 1 - 1) P (rpost b s I (pre ++ [p]) W) (a₁ p) W)
    (hdone : ∀ (D : Nat) (W : World), w.heap.size ≤ D → I xs W → W.heap[D]? = some (.deferred (some [])) → Q .normal { a with defers := { target := .collected D, args := #[] } :: a.defers } W) :
    (Code.rangeFunc g ps assign body).wpIn F n P Q a w := by
  refine wpIn_rangeFunc fun fn hfn => ?_
  rw [hro]
  obtain ⟨D, hD⟩ : ∃ D, D = w.heap.size := ⟨_, rfl⟩
  obtain ⟨mk, hmk⟩ : ∃ mk : LoopState → Loop, mk = fun st => { state := st, pending := none, fn, tmps := a.tmps, params := ps, assign, body, defers := D } := ⟨_, rfl⟩
  have henter := run_enterLoop_outer (P := P) (w := w) fn a.tmps ps assign body
  rw [← hD] at henter
  rw [show ({ state := .ready, pending := none, fn, tmps := a.tmps, params := ps, assign, body, defers := D } : Loop) = mk .ready by rw [hmk]] at henter
  have hd0 : ((w.alloc (.deferred (some []))).alloc (.loop (mk .ready))).heap[D]? = some (.deferred (some [])) := by
    rw [hD]; exact (Below.heap_alloc _ _ _ (by simp)).trans (World.alloc_heap_new w _)
  have hl0 : ((w.alloc (.deferred (some []))).alloc (.loop (mk .ready))).heap[D + 1]? = some (.loop (mk .ready)) := by
    have := World.alloc_heap_new (w.alloc (.deferred (some []))) (.loop (mk .ready))
    rwa [World.size_alloc, ← hD] at this
  have hi0 := hIa [] _ (.loop (mk .ready)) (hIa [] w (.deferred (some [])) h0)
  have hs0 := (hS.alloc (.deferred (some []))).alloc (.loop (mk .ready))
  generalize (w.alloc (.deferred (some []))).alloc (.loop (mk .ready)) = W0 at *
  refine ⟨D + 1, [{ target := .collected D, args := #[] }], W0, { target := .fn (.func gf) lb, args := #[.func (.yield (D + 1)) #[] #[]] }, W0, gf, #[.func (.yield (D + 1)) #[] #[]] ++ lb, W0, henter, ?_, ?_, ?_, fun _ => h1, ?_⟩
  · simp only [resolve, hg]
    simp [go_sem]
  · intro f' hf'
    simp [Target.leads] at hf'
    subst hf'
    exact hFg
  · simp [invoke, go_sem, eg]
  · refine (hit (D + 1) (fun pre W => I pre W ∧ W.heap[D + 1]? = some (.loop (mk .ready)) ∧ W.heap[D]? = some (.deferred (some []))) W0 ?_ ?_ hs0 ⟨hi0, hl0, hd0⟩).mono ?_
    · rintro pre W v ⟨i1, i2, i3⟩
      have k := KeepsOthers.setCell W ⟨b, 0, none⟩ v
      exact ⟨hIs _ _ _ i1, k.same _ _ i2 rfl, k.same _ _ i3 rfl⟩
    · rintro pre p W s hpre ⟨i1, i2, i3⟩ hsq
      have hlt : D + 1 < W.heap.size := (Array.getElem?_eq_some_iff.1 i2).1
      have hy := run_yield (P := P) (args := #[str p]) i2 (by rw [hmk]; exact hps.symm)
      rw [hmk] at hy
      refine ⟨fn, _, assign, body, hy, roundIn_of_wpIn hfn (hassign _ p W _ ?_)⟩
      refine ⟨_, run_beginRound i2 (by rw [hmk]), ?_⟩
      rw [show ({ mk .ready with state := .busy } : Loop) = mk .busy by rw [hmk]]
      have j2 : (W.putObj (D + 1) (.loop (mk .busy))).heap[D + 1]? = some (.loop (mk .busy)) := World.putObj_heap_same hlt
      have j3 : (W.putObj (D + 1) (.loop (mk .busy))).heap[D]? = some (.deferred (some [])) := (World.putObj_heap_other (by omega)).trans i3
      refine wpIn_mono (hbody _ pre p _ s hpre (hIp _ _ _ _ _ (by omega) i1 i2) (hsq.put i2 _)) ?_
      rintro e a3 W3 hq
      cases e with
      | normal =>
        obtain ⟨q1, q2, q3⟩ := hq
        have r2 := q1.same _ _ j2 rfl
        have r3 := q1.same _ _ j3 rfl
        refine ⟨_, _, run_endRound none r2, rfl, ⟨hIp _ _ _ _ _ (by omega) q3 r2, ?_, ?_⟩, q2.put r2 _⟩
        · rw [World.putObj_heap_same (Array.getElem?_eq_some_iff.1 r2).1, hmk]; rfl
        · exact (World.putObj_heap_other (by omega)).trans r3
      | ret => exact hq.elim
      | exit id => exact hq.elim
      | goto t => exact hq.elim
      | panic c => exact hq.elim
      | outgrown => exact hq.elim
    · rintro e W2 ⟨⟨v, rfl⟩, i1, i2, i3⟩
      have hend : (Instr.endLoop (D + 1)).run P W2 = .ok none (W2.putObj (D + 1) (.loop (mk .exhausted))) := by
        have := run_endLoop (P := P) i2 (by rw [hmk]; simp)
        rw [hmk] at this ⊢
        exact this
      exact ⟨none, _, hend, hdone D _ (by omega) (hIp _ _ _ _ _ (by omega) i1 i2) ((World.putObj_heap_other (by omega)).trans i3)⟩
end
end Go.Proofs.YthigfakjiknhcaaDoorT
