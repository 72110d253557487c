/- What the law's function keeps. -/
import Derived.Test.YthigfakjiknhcaaDoorTysb
import Derived.Deep.OwnRows
namespace Go.Proofs.YthigfakjiknhcaaDoorT
open Go Go.Proofs Go.RowKit
set_option linter.unusedSimpArgs false
set_option linter.unusedVariables false
structure EvArg (w : World) (A : Option Addr) (N cap : Nat) (evs : List Ev) : Prop where
  len : evs.length = N
  nc : N ≤ cap
  cm : cap ≤ maxLen
  nil : A = none → N = 0 ∧ cap = 0
  cell : ∀ k x, evs[k]? = some x → ∃ a, A = some a ∧ a.block < w.heap.size ∧ ∀ i, i < 6 → w.cell? (a.add (k * 6 + i)) = [Value.int .i64 x.kind, .int .i64 x.i, .int .i64 x.u, str x.h, str x.a, str x.b][i]?
theorem add_add' (a : Addr) (i j : Nat) : (a.add i).add j = a.add (i + j) := by
  unfold Addr.add
  by_cases hi : i = 0 <;> by_cases hj : j = 0 <;> simp [hi, hj, Nat.add_assoc]
theorem info4 : (Tryd.prog.info? 4).map (fun i => (i.zero, i.size, i.bytes)) = some (some (.bool false), 1, 1) := by kernel_rfl
theorem made_false (n : Nat) : madeCells #[Value.bool false] n = ((List.replicate n false).map Value.bool).toArray := by
  apply Array.ext
  · simp [madeCells]
  · intro i h1 h2
    simp [madeCells, Nat.mod_one]
/-- the row of marks -/
def UBk (w : World) (u : Nat) (bs : List Bool) : Prop := w.heap[u]? = some (.cells (bs.map Value.bool).toArray 4 (0, 0))
def UR (σ : St) (j : Nat) (bs : List Bool) : Prop := bs.length = σ.r.length ∧ ∀ i : Nat, bs[i]? = some true → ∃ (j' : Nat) (s r : EndP), j' < j ∧ σ.s[j']? = some s ∧ σ.r[i]? = some r ∧ txO r.n = txO s.n
def Qm (σ : St) (s : EndP) (i : Nat) : Prop := ∃ r : EndP, σ.r[i]? = some r ∧ r.st = 2 ∧ r.u = s.u ∧ txO r.h = txO s.h ∧ txO r.n = txO s.n
theorem UBk.below {w w' : World} {u : Nat} {bs : List Bool} (h : UBk w u bs) (hb : Below w.heap.size w w') : UBk w' u bs := by
  unfold UBk at *
  rw [hb.block u (Array.getElem?_eq_some_iff.1 h).1]; exact h
theorem UBk.cell {w : World} {u : Nat} {bs : List Bool} (h : UBk w u bs) (i : Nat) : w.cell? ⟨u, i, none⟩ = (bs[i]?).map Value.bool := by
  rw [cell_at h i, List.getElem?_toArray, List.getElem?_map]
theorem UBk.free {w : World} {u : Nat} {bs : List Bool} (h : UBk w u bs) (i : Nat) : w.frozen? ⟨u, i, none⟩ = false := by
  unfold UBk at h
  simp [World.frozen?, h]
theorem UBk.set {w : World} {u : Nat} {bs : List Bool} (h : UBk w u bs) (i : Nat) : UBk (w.setCell ⟨u, i, none⟩ (.bool true)) u (bs.set i true) := by
  unfold UBk at *
  simp [World.setCell, Array.getElem?_modify, h, List.map_set]
theorem UBk.kt {w w' : World} {u : Nat} {bs : List Bool} (h : UBk w u bs) (k : KB u w w') : KT w w' := KB.kt h (by intro h; rcases h with h | h | h <;> cases h) k
theorem WW.kbU {n0 : Nat} {w w' : World} {b u : Nat} {σ : St} {bs : List Bool} (h : WW n0 w b σ) (hu : UBk w u bs) (k : KB u w w') : WW n0 w' b σ := by
  obtain ⟨kb, vs, vr, ps, pr, h⟩ := h
  have kt := hu.kt k
  unfold UBk at hu
  generalize (bs.map Value.bool).toArray = cs at hu
  have hb : b ≠ u := fun e => by subst e; have := h.blk; rw [hu] at this; cases this
  have hk : kb ≠ u := fun e => by subst e; obtain ⟨m, h1, _⟩ := h.st; rw [hu] at h1; cases h1
  have hp : ∀ v ps, PS n0 w v ps → ∀ g, v.ownBlock = some g → g ≠ u := fun v ps hp g hg e => by
    subst e
    obtain ⟨cur, h1⟩ := hp.blk hg
    rw [hu] at h1
    cases h1
  have he : ∀ ps es, EL w ps es → EL w' ps es := fun ps es hel => ⟨hel.1, fun i p e hpp he => (hel.2 i p e hpp he).kb k kt (fun hh => by
    subst hh
    obtain ⟨_, _, _, _, h0, _⟩ := hel.2 i p e hpp he
    rw [hu] at h0
    cases h0)⟩
  exact ⟨kb, vs, vr, ps, pr, k.at h.blk hb, h.st.kb k hk (fun es c e => by rw [hu] at e; cases e), h.s.kb k (hp _ _ h.s), h.r.kb k (hp _ _ h.r), he _ _ h.se, he _ _ h.re, h.nd, h.ne, h.lb, h.lp, Nat.le_trans h.ln k.size⟩
theorem EndsAt.kbU {n1 : Nat} {w w' : World} {v : Value} {es : List EndP} {u : Nat} {bs : List Bool} (h : EndsAt n1 w v es) (hu : UBk w u bs) (k : KB u w w') : EndsAt n1 w' v es := by
  refine World.ownsRow.kept (row := some u) h ⟨k.os, k.tape, k.output, k.size, fun i hi hn => k.block i hi (fun e => hn (by rw [e]))⟩ ?_
  rcases h.2 with ⟨rfl, _⟩ | ⟨g, cap, cur, rfl, _, h1, _⟩
  · exact Or.inl rfl
  · refine Or.inr fun e => ?_
    have e : some g = some u := e
    cases e
    unfold UBk at hu
    generalize (bs.map Value.bool).toArray = cs at hu
    rw [hu] at h1
    cases h1
theorem EndsAt.below {n1 : Nat} {w w' : World} {v : Value} {es : List EndP} (h : EndsAt n1 w v es) (hb : Below w.heap.size w w') : EndsAt n1 w' v es := own_below h hb
/-- an end's copy -/
def CP (w : World) (c : Nat) (e : EndP) : Prop := w.heap[c]? = some (.cells #[.int .i64 (e.st : Nat), .int .i64 (e.u : Nat), str (txO e.h), str (txO e.n)] 34 (0, 0))
theorem CP.below {w w' : World} {c : Nat} {e : EndP} (h : CP w c e) (hb : Below w.heap.size w w') : CP w' c e := by
  unfold CP at *
  rw [hb.block c (Array.getElem?_eq_some_iff.1 h).1]; exact h
theorem CP.kbU {w w' : World} {c u : Nat} {e : EndP} {bs : List Bool} (h : CP w c e) (hu : UBk w u bs) (k : KB u w w') : CP w' c e := by
  unfold CP UBk at *
  generalize (bs.map Value.bool).toArray = cs at hu
  exact k.at h (fun hh => by subst hh; rw [hu] at h; cases h)
theorem CP.cells {w : World} {c : Nat} {e : EndP} (h : CP w c e) : w.cell? ⟨c, 0, none⟩ = some (.int .i64 (e.st : Nat)) ∧ w.cell? ⟨c, 1, none⟩ = some (.int .i64 (e.u : Nat)) ∧ w.cell? ⟨c, 2, none⟩ = some (str (txO e.h)) ∧ w.cell? ⟨c, 3, none⟩ = some (str (txO e.n)) :=
  ⟨cell_at h 0, cell_at h 1, cell_at h 2, cell_at h 3⟩
theorem UR.mono {σ : St} {j j' : Nat} {bs : List Bool} (h : UR σ j bs) (hj : j ≤ j') : UR σ j' bs := ⟨h.1, fun i hi => by
  obtain ⟨a, s, r, h1, h2⟩ := h.2 i hi
  exact ⟨a, s, r, by omega, h2⟩⟩
theorem UR.set {σ : St} {j i : Nat} {bs : List Bool} {s r : EndP} (h : UR σ j bs) (hs : σ.s[j]? = some s) (hr : σ.r[i]? = some r) (hn : txO r.n = txO s.n) : UR σ (j + 1) (bs.set i true) := ⟨by simpa using h.1, fun i' hi => by
  by_cases hii : i = i'
  · subst hii
    exact ⟨j, s, r, by omega, hs, hr, hn⟩
  · rw [List.getElem?_set, if_neg hii] at hi
    obtain ⟨a, s, r, h1, h2⟩ := h.2 i' hi
    exact ⟨a, s, r, by omega, h2⟩⟩
/-- a marked run isn't this session's -/
theorem UR.not {σ : St} (hI : Inv σ) {j i : Nat} {bs : List Bool} {s : EndP} (h : UR σ j bs) (hs : σ.s[j]? = some s) (hi : bs[i]? = some true) : ¬ Qm σ s i := fun ⟨r, h1, _, _, _, h5⟩ => by
  obtain ⟨j', s', r', h6, h7, h8, h9⟩ := h.2 i hi
  rw [h1] at h8
  cases h8
  have := hI.nonce h7 hs (by rw [← h9, h5])
  omega
/-- a session that delivers has its run -/
theorem met_run {σ : St} (hI : Inv σ) {j : Nat} {s : EndP} (hs : σ.s[j]? = some s) (h2 : s.st = 2) (hl : σ.lk s.u = false) : ∃ i, i < σ.r.length ∧ Qm σ s i := by
  rcases hI.ag s (List.mem_of_getElem? hs) h2 with h | ⟨e', h1, h3, h4, h5, h6⟩
  · rw [hl] at h; cases h
  · obtain ⟨i, hi⟩ := List.mem_iff_getElem?.1 h1
    exact ⟨i, (List.getElem?_eq_some_iff.1 hi).1, e', hi, h3, h4, by rw [h5], by rw [h6]⟩
end Go.Proofs.YthigfakjiknhcaaDoorT
