/- New blocks. -/
import Derived.Test.YtgjbkgajkcgdfaaEvS6
namespace Go.Proofs.YtgjbkgajkcgdfaaE
open Go
set_option linter.unusedSimpArgs false
set_option linter.unusedVariables false
variable {P : Program} {w : World} {m : Nat → Option Nat} {I O : Nat → Prop} {ρ : Pl} {H Hb : List Blk} {p q v : V} {x y : Value} {news : List Blk}

/-- a step that turns no block that was there; lo, hi: the numbers that may be placed by it -/
structure Grow (lo hi : Nat) (I O : Nat → Prop) (w : World) (ρ : Pl) (I' O' : Nat → Prop) (w' : World) (ρ' : Pl) : Prop where
  imm : ∀ k, I k → I' k
  imm' : ∀ k, I' k → I k ∨ w.heap.size ≤ k
  own : ∀ k, O k → O' k
  own' : ∀ k, O' k → O k ∨ w.heap.size ≤ k
  pl : ∀ i r, ρ i = some r → ρ' i = some r
  pl' : ∀ i r, ρ' i = some r → ρ i = some r ∨ (lo ≤ i ∧ i < hi ∧ w.heap.size ≤ r)
  size : w.heap.size ≤ w'.heap.size
  block : ∀ k, k < w.heap.size → w'.heap[k]? = w.heap[k]?
  os : w'.os = w.os
  tape : w'.tape = w.tape
  output : w'.output = w.output

theorem Grow.sizes {lo hi : Nat} {I' O' : Nat → Prop} {w' : World} {ρ' : Pl} (h : Grow lo hi I O w ρ I' O' w' ρ') : ∀ k n, sizeOf? w k = some n → sizeOf? w' k = some n := by
  intro k n hn
  have hk : k < w.heap.size := by
    rcases Nat.lt_or_ge k w.heap.size with h | h
    · exact h
    · simp [sizeOf?, Array.getElem?_eq_none h] at hn
  unfold sizeOf? at *
  rw [h.block k hk]; exact hn
theorem Grow.mono {lo hi : Nat} {I' O' : Nat → Prop} {w' : World} {ρ' : Pl} (h : Grow lo hi I O w ρ I' O' w' ρ') (hi' : ∀ k, I k → k < w.heap.size) : Mono I w ρ I' w' ρ' :=
  ⟨h.imm, h.pl, fun k hk => h.block k (hi' k hk), h.sizes⟩
theorem Grow.ext {lo hi : Nat} {I' O' : Nat → Prop} {w' : World} {ρ' : Pl} (h : Grow lo hi I O w ρ I' O' w' ρ') : Ext O w w' :=
  ⟨h.os, h.tape, h.output, h.size, fun k hk _ => h.block k hk, h.sizes⟩
theorem Grow.refl (lo hi : Nat) (I O : Nat → Prop) (w : World) (ρ : Pl) : Grow lo hi I O w ρ I O w ρ :=
  ⟨fun _ h => h, fun _ h => .inl h, fun _ h => h, fun _ h => .inl h, fun _ _ h => h, fun _ _ h => .inl h, Nat.le_refl _, fun _ _ => rfl, rfl, rfl, rfl⟩
theorem Grow.trans {lo hi : Nat} {I1 O1 I2 O2 : Nat → Prop} {w1 w2 : World} {ρ1 ρ2 : Pl} (h : Grow lo hi I O w ρ I1 O1 w1 ρ1) (h' : Grow lo hi I1 O1 w1 ρ1 I2 O2 w2 ρ2) : Grow lo hi I O w ρ I2 O2 w2 ρ2 :=
  ⟨fun k hk => h'.imm k (h.imm k hk),
   fun k hk => (h'.imm' k hk).elim (h.imm' k) (fun hk => .inr (Nat.le_trans h.size hk)),
   fun k hk => h'.own k (h.own k hk),
   fun k hk => (h'.own' k hk).elim (h.own' k) (fun hk => .inr (Nat.le_trans h.size hk)),
   fun i r hr => h'.pl i r (h.pl i r hr),
   fun i r hr => (h'.pl' i r hr).elim (h.pl' i r) (fun ⟨a, b, c⟩ => .inr ⟨a, b, Nat.le_trans h.size c⟩),
   Nat.le_trans h.size h'.size, fun k hk => (h'.block k (Nat.lt_of_lt_of_le hk h.size)).trans (h.block k hk),
   h'.os.trans h.os, h'.tape.trans h.tape, h'.output.trans h.output⟩
theorem Grow.widen {lo hi lo' hi' : Nat} {I' O' : Nat → Prop} {w' : World} {ρ' : Pl} (h : Grow lo hi I O w ρ I' O' w' ρ') (h1 : lo' ≤ lo) (h2 : hi ≤ hi') : Grow lo' hi' I O w ρ I' O' w' ρ' :=
  { h with pl' := fun i r hr => (h.pl' i r hr).imp id (fun ⟨a, b, c⟩ => ⟨Nat.le_trans h1 a, Nat.lt_of_lt_of_le b h2, c⟩) }

theorem BRel.mono {I' O' : Nat → Prop} {w' : World} {ρ' : Pl} {r : Nat} {b : Blk} (h : BRel m I O w ρ r b) (hm : Mono I w ρ I' w' ρ') (ho : ∀ k, O k → O' k) (hb : w'.heap[r]? = w.heap[r]?) : BRel m I' O' w' ρ' r b := by
  cases b with
  | dead => exact trivial
  | iter s pos => exact ⟨hb.trans h.1, ho _ h.2⟩
  | cells ro c =>
    obtain ⟨cs, e, fr, h1, h2, h3, h4, h5, h6, h7⟩ := h
    exact ⟨cs, e, fr, hb.trans h1, fun o => (frozen?_same (a := ⟨r, o, none⟩) hb).trans (h2 o), h3, h4, fun j v x hv hx => hm.relC (h5 j v x hv hx), fun e => ho _ (h6 e), fun e => hm.imm _ (h7 e)⟩

/-- the placement with one more block -/
def plus (ρ : Pl) (i r : Nat) : Pl := fun j => if j = i then some r else ρ j

/-- a new block: b in the evaluator's heap, obj in the machine's -/
theorem grow_new {w' : World} {obj : Obj} {i : Nat} {b : Blk} (hw : w'.heap = w.heap.push obj) (h1 : w'.os = w.os) (h2 : w'.tape = w.tape) (h3 : w'.output = w.output) (hH : HRel m I O w ρ Hb) (hi : ρ i = none)
    (hb : Hb[i]? = some b)
    (hr : ∀ O' ρ', (∀ k, O k → O' k) → O' w.heap.size → Mono I w ρ I w' ρ' → BRel m I O' w' ρ' w.heap.size b) :
    HRel m I (fun k => O k ∨ k = w.heap.size) w' (plus ρ i w.heap.size) Hb ∧ Grow i (i + 1) I O w ρ I (fun k => O k ∨ k = w.heap.size) w' (plus ρ i w.heap.size) := by
  have hold : ∀ k, k < w.heap.size → w'.heap[k]? = w.heap[k]? := fun k hk => by rw [hw, Array.getElem?_push, if_neg (by omega)]
  have hg : Grow i (i + 1) I O w ρ I (fun k => O k ∨ k = w.heap.size) w' (plus ρ i w.heap.size) := by
    refine ⟨fun _ h => h, fun _ h => .inl h, fun _ h => .inl h, fun k h => h.imp id (fun e => by omega), fun j r hj => ?_, fun j r hj => ?_, by rw [hw]; simp, hold, h1, h2, h3⟩
    · unfold plus; split
      · rename_i e; subst e; rw [hi] at hj; cases hj
      · exact hj
    · unfold plus at hj; split at hj
      · rename_i e; subst e; injection hj with hj; exact .inr ⟨Nat.le_refl _, Nat.lt_succ_self _, Nat.le_of_eq hj⟩
      · exact .inl hj
  have hm := hg.mono hH.imm
  refine ⟨⟨fun a b r ha hb la lb => ?_, fun j r hj => ?_, fun j r hj => ?_, fun k hk => ?_, fun k hk => ?_, fun k hk => ?_⟩, hg⟩
  · unfold plus at ha hb
    split at ha <;> split at hb
    · omega
    · injection ha with ha; have := hH.lt _ _ hb; omega
    · injection hb with hb; have := hH.lt _ _ ha; omega
    · exact hH.inj a b r ha hb la lb
  · unfold plus at hj; split at hj
    · rename_i e; subst e; injection hj with hj; subst hj
      exact ⟨b, hb, hr _ _ (fun _ h => .inl h) (.inr rfl) hm⟩
    · obtain ⟨b', g1, g2⟩ := hH.blk j r hj
      exact ⟨b', g1, g2.mono hm (fun _ h => .inl h) (hold _ (hH.lt _ _ hj))⟩
  · unfold plus at hj; split at hj
    · injection hj with hj; subst hj; rw [hw]; simp
    · have := hH.lt _ _ hj; rw [hw]; simp; omega
  · rw [hw]; simp
    rcases hk with hk | hk
    · have := hH.own _ hk; omega
    · omega
  · have := hH.imm _ hk; rw [hw]; simp; omega
  · rintro (h | h)
    · exact hH.dis _ hk h
    · have := hH.imm _ hk; omega

/-- a new block of cells -/
theorem new_cells {w' : World} {cs : Array Value} {e : TypeId} {c : C} {xs : List Value} (hw : w'.heap = w.heap.push (.cells cs e (0, 0))) {O' : Nat → Prop} {ρ' : Pl} (ho : O' w.heap.size) (hm : Mono I w ρ I w' ρ') (hc : CRel m I w ρ c xs)
    (hx : ∀ (j : Nat) (x : Value), xs[j]? = some x → cs[j]? = some x) : BRel m I O' w' ρ' w.heap.size (.cells false c) := by
  have hg : w'.heap[w.heap.size]? = some (.cells cs e (0, 0)) := by rw [hw]; simp
  refine ⟨cs, e, (0, 0), hg, fun o => by simp [World.frozen?, hg], ?_, hc.2.1, fun j v x hv hxx => ?_, fun _ => ho, fun e => by cases e⟩
  · rw [← hc.1]
    rcases Nat.lt_or_ge cs.size xs.length with hlt | hge
    · have := hx cs.size xs[cs.size] (List.getElem?_eq_getElem hlt)
      simp at this
    · exact hge
  · have hlt : j < xs.length := by rw [hc.1]; exact C.get_lt hv
    have h1 := hx j xs[j] (List.getElem?_eq_getElem hlt)
    rw [h1] at hxx; injection hxx with hxx; subst hxx
    exact hm.relC (hc.2.2 j v _ hv (List.getElem?_eq_getElem hlt))

/-- what a quiet operation leaves -/
def QPost (m : Nat → Option Nat) (P : Program) (s : Sem Value) (lo n : Nat) (Hb : List Blk) (I O : Nat → Prop) (w : World) (ρ : Pl) (v : V) : Prop :=
  ∃ z w' I' O' ρ', s.run P w = .ok z w' ∧ RelV m I' w' ρ' v z ∧ HRel m I' O' w' ρ' Hb ∧ Grow lo (lo + n) I O w ρ I' O' w' ρ'

theorem QPost.same {s : Sem Value} {lo n : Nat} {z : Value} (hH : HRel m I O w ρ Hb) (h : s.run P w = .ok z w) (hr : RelV m I w ρ v z) : QPost m P s lo n Hb I O w ρ v :=
  ⟨z, w, I, O, ρ, h, hr, hH, .refl _ _ _ _ _ _⟩

/-- a pointer to a new block of cells -/
theorem QPost.new {s : Sem Value} {lo : Nat} {c : C} {xs : List Value} {cs : Array Value} {e : TypeId} {w' : World} {z : Value} (hH : HRel m I O w ρ Hb) (hw : w'.heap = w.heap.push (.cells cs e (0, 0))) (h1 : w'.os = w.os) (h2 : w'.tape = w.tape) (h3 : w'.output = w.output)
    (hb : Hb[lo]? = some (.cells false c)) (hn : ρ lo = none) (hc : CRel m I w ρ c xs) (hx : ∀ (j : Nat) (x : Value), xs[j]? = some x → cs[j]? = some x)
    (hs : s.run P w = .ok z w') (hv : ∀ ρ' : Pl, ρ' lo = some w.heap.size → sizeOf? w' w.heap.size = some cs.size → RelV m I w' ρ' v z) : QPost m P s lo 1 Hb I O w ρ v := by
  obtain ⟨g1, g2⟩ := grow_new hw h1 h2 h3 hH hn hb (fun O' ρ' ho hz hm => new_cells hw hz hm hc hx)
  refine ⟨z, w', I, _, _, hs, hv _ (by simp [plus]) ?_, g1, g2⟩
  simp [sizeOf?, hw]
end Go.Proofs.YtgjbkgajkcgdfaaE
