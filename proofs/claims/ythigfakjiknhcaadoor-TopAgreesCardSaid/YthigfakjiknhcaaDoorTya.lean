/- An end turned; what the events' walks share. -/
import Derived.Test.YthigfakjiknhcaaDoorTy
namespace Go.Proofs.YthigfakjiknhcaaDoorT
open Go Go.Proofs Go.RowKit
set_option linter.unusedSimpArgs false
set_option linter.unusedVariables false
theorem EB.kb70 {w w' : World} {p : Nat} {e : EndP} (h : EB w p e) (k : KB p w w') : KT w w' := by
  obtain ⟨_, _, _, _, h0, _⟩ := h
  exact k.kt h0 (by intro h; rcases h with h | h | h <;> cases h)
theorem EB.q70 {w w' : World} {p : Nat} {e : EndP} (h : EB w p e) (k : KB p w w') : K29 w w' := by
  obtain ⟨_, _, _, _, h0, _⟩ := h
  exact k.q29 h0 (by decide)
theorem nodup_get {l : List Nat} (h : l.Nodup) {i j p : Nat} (hi : l[i]? = some p) (hj : l[j]? = some p) : i = j := by
  exact (List.getElem?_inj (List.getElem?_eq_some_iff.1 hi).1 h).1 (hi.trans hj.symm)
/-- only an end's block turns -/
theorem WX.other {n0 : Nat} {w w' : World} {b kb : Nat} {vs vr : Value} {ps pr : List Nat} {σ : St} (h : WX n0 w b kb vs vr ps pr σ) {p : Nat} {e : EndP} (he : EB w p e) (k : KB p w w') :
    w'.heap[b]? = w.heap[b]? ∧ SB w' kb σ.ks ∧ PS n0 w' vs ps ∧ PS n0 w' vr pr := by
  obtain ⟨_, _, _, _, h0, _⟩ := he
  have hb : b ≠ p := fun hh => by subst hh; have := h.blk; rw [h0] at this; cases this
  have hk : kb ≠ p := fun hh => by subst hh; obtain ⟨m, h1, _⟩ := h.st; rw [h0] at h1; cases h1
  have e67 : ∀ v ps, PS n0 w v ps → ∀ g, v.ownBlock = some g → g ≠ p := fun v ps hp g hg hh => by
    subst hh
    obtain ⟨cur, h1⟩ := hp.blk hg
    rw [h0] at h1
    cases h1
  exact ⟨k.block b h.lt hb, h.st.kb k hk (fun es c hh => by rw [h0] at hh; cases hh), h.s.kb k (e67 _ _ h.s), h.r.kb k (e67 _ _ h.r)⟩
theorem EL.keep {w w' : World} {ps : List Nat} {es : List EndP} (h : EL w ps es) {p : Nat} (k : KB p w w') (kt : KT w w') (hp : p ∉ ps) : EL w' ps es :=
  ⟨h.1, fun i q e hq he => (h.2 i q e hq he).kb k kt (fun hh => hp (by subst hh; exact List.mem_of_getElem? hq))⟩
theorem EL.set {w w' : World} {ps : List Nat} {es : List EndP} (h : EL w ps es) {p i : Nat} (hi : ps[i]? = some p) (hn : ps.Nodup) (k : KB p w w') (kt : KT w w') {e : EndP} (he : EB w' p e) : EL w' ps (es.set i e) := by
  refine ⟨by simp [h.1], fun j q f hq hf => ?_⟩
  by_cases hij : i = j
  · subst hij
    rw [hi] at hq
    cases hq
    rw [List.getElem?_set] at hf
    simp only [if_true] at hf
    split at hf
    · cases hf; exact he
    · cases hf
  · rw [List.getElem?_set, if_neg hij] at hf
    exact (h.2 j q f hq hf).kb k kt (fun hh => by subst hh; exact hij (nodup_get hn hi hq))
theorem WX.endR {n0 : Nat} {w w' : World} {b kb : Nat} {vs vr : Value} {ps pr : List Nat} {σ : St} (h : WX n0 w b kb vs vr ps pr σ) {i p : Nat} (hi : pr[i]? = some p) {e e' : EndP} (he : EB w p e) (k : KB p w w') (he' : EB w' p e') :
    WX n0 w' b kb vs vr ps pr { σ with r := σ.r.set i e' } ∧ BQ n0 w w' := by
  obtain ⟨q1, q2, q3, q4⟩ := h.other he k
  have kt := he.kb70 k
  have hn := List.nodup_append.1 h.nd
  have hp : p ∉ ps := fun hm => hn.2.2 p hm p (List.mem_of_getElem? hi) rfl
  exact ⟨⟨by rw [q1]; exact h.blk, q2, q3, q4, h.se.keep k kt hp, h.re.set hi hn.2.1 k kt he', h.nd, h.ne, h.lb, h.lp, Nat.le_trans h.ln k.size⟩,
    ⟨k.below_of (h.lp p (by simp [List.mem_of_getElem? hi])) h.ln, he.q70 k⟩⟩
theorem WX.endS {n0 : Nat} {w w' : World} {b kb : Nat} {vs vr : Value} {ps pr : List Nat} {σ : St} (h : WX n0 w b kb vs vr ps pr σ) {i p : Nat} (hi : ps[i]? = some p) {e e' : EndP} (he : EB w p e) (k : KB p w w') (he' : EB w' p e') :
    WX n0 w' b kb vs vr ps pr { σ with s := σ.s.set i e' } ∧ BQ n0 w w' := by
  obtain ⟨q1, q2, q3, q4⟩ := h.other he k
  have kt := he.kb70 k
  have hn := List.nodup_append.1 h.nd
  have hp : p ∉ pr := fun hm => hn.2.2 p (List.mem_of_getElem? hi) p hm rfl
  exact ⟨⟨by rw [q1]; exact h.blk, q2, q3, q4, h.se.set hi hn.1 k kt he', h.re.keep k kt hp, h.nd, h.ne, h.lb, h.lp, Nat.le_trans h.ln k.size⟩,
    ⟨k.below_of (h.lp p (by simp [List.mem_of_getElem? hi])) h.ln, he.q70 k⟩⟩
/-- the end at a place -/
def nth (es : List EndP) (k : Nat) : EndP := es.getD k ⟨0, 0, none, none, none, none⟩
theorem nth_get {es : List EndP} {k : Nat} {e : EndP} (h : es[k]? = some e) : nth es k = e := by simp [nth, h]
theorem inO_some {es : List EndP} {i : Int} {st k : Nat} (h : inO es i st = some k) : ∃ e, es[k]? = some e ∧ e.st = st ∧ i = k := by
  unfold inO at h
  split at h
  · rename_i h0
    split at h
    · rename_i e he
      split at h
      · rename_i hs
        cases h
        exact ⟨e, he, hs, by omega⟩
      · cases h
    · cases h
  · cases h
structure St.ok (σ : St) : Prop where
  s : ∀ e ∈ σ.s, e.ok
  r : ∀ e ∈ σ.r, e.ok
  ls : σ.s.length ≤ 6
  lr : σ.r.length ≤ 6
theorem knownB_some {ks : List (List UInt8)} {s : List UInt8} (h : knownB ks s = true) : ∃ t, (parse s).1 = some t ∧ knB ks t = true := by
  unfold knownB at h
  rw [Bool.and_eq_true] at h
  cases hp : (parse s).1 with
  | none => rw [hp] at h; cases h.2
  | some t => rw [hp] at h; exact ⟨t, rfl, h.2⟩
/-- the event's own copy -/
def XB (w : World) (E : Nat) (cs : Array Value) : Prop := w.heap[E]? = some (.cells cs 29 (0, 0))
theorem XB.below {w w' : World} {E : Nat} {cs : Array Value} (h : XB w E cs) (hb : Below w.heap.size w w') : XB w' E cs := by
  unfold XB at *
  rw [hb.block E (Array.getElem?_eq_some_iff.1 h).1]; exact h
theorem XB.cell {w : World} {E : Nat} {cs : Array Value} (h : XB w E cs) (j : Nat) : w.cell? ⟨E, j, none⟩ = cs[j]? := cell_at h j
/-- in, where the place is told -/
theorem in_yes {n0 : Nat} {w : World} {v : Value} {ps : List Nat} {es : List EndP} (h : PS n0 w v ps) (he : EL w ps es) (hlen : ps.length ≤ 1000) {i : Int} {st k p : Nat} (hk : inO es i st = some k) (hp : ps[k]? = some p) :
    Calls Tryd.prog 37 #[v, .int .i64 i, .int .i64 (st : Nat)] w fun e w' => e = .returned (.tuple #[.pointer (some ⟨p, 0, none⟩), .bool true]) ∧ w' = w :=
  (in_any h he hlen i st).mono fun e w' hq => by
    obtain ⟨hq, rfl⟩ := hq
    rcases hq with ⟨k', p', h1, h2, rfl⟩ | ⟨h1, _⟩
    · rw [hk] at h1; cases h1
      rw [hp] at h2; cases h2
      exact ⟨rfl, rfl⟩
    · rw [hk] at h1; cases h1
theorem in_no {n0 : Nat} {w : World} {v : Value} {ps : List Nat} {es : List EndP} (h : PS n0 w v ps) (he : EL w ps es) (hlen : ps.length ≤ 1000) {i : Int} {st : Nat} (hk : inO es i st = none) :
    Calls Tryd.prog 37 #[v, .int .i64 i, .int .i64 (st : Nat)] w fun e w' => e = .returned (.tuple #[.pointer none, .bool false]) ∧ w' = w :=
  (in_any h he hlen i st).mono fun e w' hq => by
    obtain ⟨hq, rfl⟩ := hq
    rcases hq with ⟨k', p', h1, h2, rfl⟩ | ⟨h1, rfl⟩
    · rw [hk] at h1; cases h1
    · exact ⟨rfl, rfl⟩
end Go.Proofs.YthigfakjiknhcaaDoorT
