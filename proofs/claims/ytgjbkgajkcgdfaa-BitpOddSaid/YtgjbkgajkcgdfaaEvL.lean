/- What a call does. -/
import Derived.Test.YtgjbkgajkcgdfaaEvK
namespace Go.Proofs.YtgjbkgajkcgdfaaE
open Go
set_option linter.unusedSimpArgs false
set_option linter.unusedVariables false
variable {P : Program} {w : World} {m : Nat → Option Nat} {I O : Nat → Prop} {ρ : Pl} {H Hb : List Blk} {v : V} {e : Env} {a : Act} {call : CallF}

theorem mapM_mono {α β : Type} {f g : α → Option β} (hfg : ∀ a b, f a = some b → g a = some b) : ∀ {l : List α} {r : List β}, l.mapM f = some r → l.mapM g = some r
  | [], r, h => by simpa using h
  | a :: l, r, h => by
    simp only [List.mapM_cons, Option.pure_def, Option.bind_eq_bind, Option.bind_eq_some_iff] at h ⊢
    obtain ⟨b, h1, r', h2, h3⟩ := h
    exact ⟨b, hfg _ _ h1, r', mapM_mono hfg h2, h3⟩

/-- what the callee may turn: the blocks that it is handed -/
def callO (O : Nat → Prop) (ρ : Pl) (H : List Blk) (L : List Nat) : Nat → Prop := fun k => O k ∧ ∃ i, i ∈ L ∧ ρ i = some k ∧ live H i
abbrev callI (I : Nat → Prop) (ρ : Pl) (H : List Blk) (L : List Nat) : Nat → Prop := lentI I ρ H L

theorem callO_dis {FL L : List Nat} (hp : ∀ (i : Nat) (b : Blk), H[i]? = some b → Hb[i]? = some b) (hH : HRel m I O w ρ Hb) (hFL : ∀ i, i ∈ FL → i ∉ L) : ∀ k, lentI I ρ H FL k → ¬ callO O ρ Hb L k := by
  intro k h1 h2
  obtain ⟨hO, i, hi, hr, hl⟩ := h2
  rcases h1 with h1 | ⟨i2, ro, c, h3, h4, h5⟩
  · exact hH.dis k h1 hO
  · have hl2 : live Hb i2 := ⟨_, hp _ _ h5, by simp⟩
    have := hH.inj i i2 k hr h4 hl hl2
    subst this
    exact hFL i h3 hi

theorem call_heap {FL L : List Nat} {Hc : List Blk} {n : Nat} (hp : ∀ (i : Nat) (b : Blk), H[i]? = some b → Hb[i]? = some b) (hH : HRel m I O w ρ Hb) (hFL : ∀ i, i ∈ FL → i ∉ L) (hL : L.Nodup)
    (h3 : (L.mapM fun i => (H[i]?).bind (renB (idx L) n)) = some Hc) :
    HRel m (lentI I ρ H FL) (callO O ρ Hb L) w (plL L ρ) Hc ∧ Hc.length = L.length := by
  have h3' : (L.mapM fun i => (Hb[i]?).bind (renB (idx L) n)) = some Hc := mapM_mono (fun a b hab => by
    simp only [Option.bind_eq_some_iff] at hab ⊢
    obtain ⟨c, h1, h2⟩ := hab
    exact ⟨c, hp _ _ h1, h2⟩) h3
  obtain ⟨k1, k2⟩ := hH.renum hL h3'
  refine ⟨⟨k1.inj, fun i r hr => ?_, k1.lt, fun k h => hH.own k h.1, fun k h => ?_, callO_dis hp hH hFL⟩, k2⟩
  · obtain ⟨b, hb, hB⟩ := k1.blk i r hr
    refine ⟨b, hb, hB.weaken (fun k h => .inl h) (fun hd hO => ⟨hO, ?_⟩)⟩
    simp only [plL, Option.bind_eq_some_iff] at hr
    obtain ⟨i2, g1, g2⟩ := hr
    obtain ⟨a', q1, q2⟩ := mapM_get' h3' hb
    rw [g1] at q1; injection q1 with q1; subst q1
    simp only [Option.bind_eq_some_iff] at q2
    obtain ⟨b0, q3, q4⟩ := q2
    exact ⟨i2, List.mem_of_getElem? g1, g2, b0, q3, fun e => hd ((renB_dead q4).2 e)⟩
  · rcases h with h | ⟨i2, ro, c, h3, h4, h5⟩
    · exact hH.imm k h
    · exact hH.lt _ _ h4

/-- the placement behind a call -/
def plB (ρ ρc : Pl) (lo n nL : Nat) : Pl := fun i => if lo ≤ i ∧ i < lo + n then ρc (nL + (i - lo)) else ρ i
def backN (L : List Nat) (lo : Nat) : Nat → Option Nat := fun j => if j < L.length then L[j]? else some (lo + (j - L.length))

structure After (L : List Nat) (I O : Nat → Prop) (w : World) (ρ : Pl) (H Hb Hc : List Blk) (FL : List Nat) (m : Nat → Option Nat) (I' O' : Nat → Prop) (w' : World) (ρ' : Pl) (Hc' : List Blk) : Prop where
  rel : HRel m I' O' w' ρ' Hc'
  cg : CG L.length (lentI I ρ H FL) (callO O ρ Hb L) w (plL L ρ) Hc I' O' w' ρ' Hc'

variable {L FL : List Nat} {Hc Hc' HbN : List Blk} {I' O' : Nat → Prop} {w' : World} {ρ' : Pl}

theorem After.new (h : After L I O w ρ H Hb Hc FL m I' O' w' ρ' Hc') {i r : Nat} (hi : L.length ≤ i) (hr : ρ' i = some r) : callO O ρ Hb L r ∨ w.heap.size ≤ r := by
  rcases h.cg.pl' i r hr hi with h1 | h1 | ⟨i', h1, h2⟩
  · exact .inl h1
  · exact .inr h1
  · simp only [plL, Option.bind_eq_some_iff] at h2
    obtain ⟨a, h3, _⟩ := h2
    have := (List.getElem?_eq_some_iff.1 h3).1
    omega

theorem After.back (h : After L I O w ρ H Hb Hc FL m I' O' w' ρ' Hc') {lo n : Nat} (hlo : H.length = lo) (hn : Hc'.length = L.length + n)
    (hbL : ∀ i, i ∈ L → i < lo) : ∀ b b' r, backN L lo b = some b' → ρ' b = some r → plB ρ ρ' lo n L.length b' = some r := by
  intro b b' r h1 h2
  unfold backN at h1
  split at h1
  · rename_i hb
    have hlt := hbL b' (List.mem_of_getElem? h1)
    rw [h.cg.pl b hb] at h2
    simp only [plL, h1, Option.bind_some] at h2
    have : ¬ (lo ≤ b' ∧ b' < lo + n) := by omega
    simp [plB, this, h2]
  · rename_i hb
    injection h1 with h1; subst h1
    have hd := h.rel.dom h2
    have hc : lo ≤ lo + (b - L.length) ∧ lo + (b - L.length) < lo + n := by omega
    have e : L.length + (lo + (b - L.length) - lo) = b := by omega
    simp only [plB, hc, and_self, if_true, e]; exact h2

/-- a block of the callee's: immutable only if it was, or if it is new or was handed over -/
theorem After.imm (h : After L I O w ρ H Hb Hc FL m I' O' w' ρ' Hc') (hp : ∀ (i : Nat) (b : Blk), H[i]? = some b → Hb[i]? = some b) (hH : HRel m I O w ρ Hb) (hFL : ∀ i, i ∈ FL → i ∉ L)
    (hcl : ∀ j, live Hc j → ∃ i, L[j]? = some i ∧ live Hb i) {i r : Nat} (hr : ρ' i = some r) (hl : live Hc' i) (hI : I' r) : I r ∨ (I' r ∧ (callO O ρ Hb L r ∨ w.heap.size ≤ r)) := by
  rcases Nat.lt_or_ge i L.length with hi | hi
  · rcases h.cg.imm' r hI with (h1 | ⟨i2, ro, c, g1, g2, g3⟩) | h1 | h1
    · exact .inl h1
    · exfalso
      obtain ⟨i3, q1, q2⟩ := hcl i (h.cg.live i hi hl)
      rw [h.cg.pl i hi] at hr
      simp only [plL, q1, Option.bind_some] at hr
      have := hH.inj i3 i2 r hr g2 q2 ⟨_, hp _ _ g3, by simp⟩
      subst this
      exact hFL i3 g1 (List.mem_of_getElem? q1)
    · exact .inr ⟨hI, .inl h1⟩
    · exact .inr ⟨hI, .inr h1⟩
  · exact .inr ⟨hI, h.new hi hr⟩

/-- what is immutable behind a call -/
def retI (fr : Bool) (I Ic' Oc : Nat → Prop) (sz : Nat) : Nat → Prop := fun k => I k ∨ (Ic' k ∧ (Oc k ∨ sz ≤ k)) ∨ (fr = true ∧ Ic' k)
def retO (fr : Bool) (O Oc Ic' Oc' : Nat → Prop) : Nat → Prop := fun k => Oc' k ∨ (O k ∧ ¬ Oc k ∧ ¬ (fr = true ∧ Ic' k))

theorem After.brel (h : After L I O w ρ H Hb Hc FL m I' O' w' ρ' Hc') (hp : ∀ (i : Nat) (b : Blk), H[i]? = some b → Hb[i]? = some b) (hH : HRel m I O w ρ Hb) (hFL : ∀ i, i ∈ FL → i ∉ L)
    (hcl : ∀ j, live Hc j → ∃ i, L[j]? = some i ∧ live Hb i) {lo n : Nat} (hlo : H.length = lo) (hn : Hc'.length = L.length + n) (hbL : ∀ i, i ∈ L → i < lo)
    {fr : Bool} (hfr : fr = false → Hc'.any hasRsB = false) {j r : Nat} {b b' : Blk} {d : Nat} (hr : ρ' j = some r) (hb : Hc'[j]? = some b) (hb' : renB (backN L lo) d b = some b') :
    BRel m (retI fr I I' (callO O ρ Hb L) w.heap.size) (retO fr O (callO O ρ Hb L) I' O') w' (plB ρ ρ' lo n L.length) r b' := by
  refine renB_rel (h.back hlo hn hbL) hb' ?_
  have hB := h.rel.at hb hr
  by_cases hd : b = .dead
  · subst hd; exact trivial
  cases fr with
  | true => exact hB.weaken (fun k h => .inr (.inr ⟨rfl, h⟩)) (fun _ h => .inl h)
  | false =>
    refine noRsB (by simpa using (List.any_eq_false.1 (hfr rfl)) b (List.mem_of_getElem? hb)) hB (fun hI => ?_) (fun h => .inl h)
    rcases h.imm hp hH hFL hcl hr ⟨b, hb, hd⟩ hI with h1 | h1
    · exact .inl h1
    · exact .inr (.inl h1)

theorem After.val (h : After L I O w ρ H Hb Hc FL m I' O' w' ρ' Hc') {lo n : Nat} (hlo : H.length = lo) (hn : Hc'.length = L.length + n) (hbL : ∀ i, i ∈ L → i < lo)
    {fr : Bool} {r r' : V} {x : Value} (hfr : fr = false → hasRs deep r = false) (hr : ren (backN L lo) deep r = some r') (hx : RelV m I' w' ρ' r x) :
    RelV m (retI fr I I' (callO O ρ Hb L) w.heap.size) w' (plB ρ ρ' lo n L.length) r' x := by
  refine ren_rel (h.back hlo hn hbL) hr ?_
  cases fr with
  | true => exact hx.toI (fun k h => .inr (.inr ⟨rfl, h⟩))
  | false => exact noRs (hfr rfl) hx

theorem After.retDis (h : After L I O w ρ H Hb Hc FL m I' O' w' ρ' Hc') (hH : HRel m I O w ρ Hb) {fr : Bool} : ∀ k, retI fr I I' (callO O ρ Hb L) w.heap.size k → ¬ retO fr O (callO O ρ Hb L) I' O' k := by
  intro k h1 h2
  rcases h1 with h1 | ⟨h1, h3⟩ | ⟨h1, h3⟩
  · rcases h2 with h2 | ⟨h2, _⟩
    · rcases h.cg.own' k h2 with h3 | h3
      · exact hH.dis k h1 h3.1
      · have := hH.imm k h1; omega
    · exact hH.dis k h1 h2
  · rcases h2 with h2 | ⟨h2, h4, _⟩
    · exact h.rel.dis k h1 h2
    · rcases h3 with h3 | h3
      · exact h4 h3
      · have := hH.own k h2; omega
  · rcases h2 with h2 | ⟨h2, _, h4⟩
    · exact h.rel.dis k h3 h2
    · exact h4 ⟨h1, h3⟩
theorem After.retI' (h : After L I O w ρ H Hb Hc FL m I' O' w' ρ' Hc') (hp : ∀ (i : Nat) (b : Blk), H[i]? = some b → Hb[i]? = some b) (hH : HRel m I O w ρ Hb) {fr : Bool} : ∀ k, retI fr I I' (callO O ρ Hb L) w.heap.size k → I k ∨ O k ∨ w.heap.size ≤ k := by
  have main : ∀ k, I' k → I k ∨ O k ∨ w.heap.size ≤ k := by
    intro k hk
    rcases h.cg.imm' k hk with (h1 | ⟨i2, ro, c, g1, g2, g3⟩) | h1 | h1
    · exact .inl h1
    · obtain ⟨cs, e, f, q1, q2, q3, q4, q5, q6, q7⟩ := hH.at (hp _ _ g3) g2
      cases ro with
      | true => exact .inl (q7 rfl)
      | false => exact .inr (.inl (q6 rfl))
    · exact .inr (.inl h1.1)
    · exact .inr (.inr h1)
  intro k hk
  rcases hk with h1 | ⟨h1, _⟩ | ⟨_, h1⟩
  · exact .inl h1
  · exact main k h1
  · exact main k h1
theorem After.retO' (h : After L I O w ρ H Hb Hc FL m I' O' w' ρ' Hc') {fr : Bool} : ∀ k, retO fr O (callO O ρ Hb L) I' O' k → O k ∨ w.heap.size ≤ k := by
  intro k hk
  rcases hk with h1 | ⟨h1, _⟩
  · exact (h.cg.own' k h1).imp (fun h => h.1) id
  · exact .inl h1
theorem After.ext (h : After L I O w ρ H Hb Hc FL m I' O' w' ρ' Hc') : Ext O w w' := h.cg.ext.mono (fun k h => h.1)
theorem After.mono (h : After L I O w ρ H Hb Hc FL m I' O' w' ρ' Hc') (hH : HRel m I O w ρ Hb) {lo n : Nat} (hnone : ∀ i, lo ≤ i → i < lo + n → ρ i = none) {fr : Bool} :
    Mono I w ρ (retI fr I I' (callO O ρ Hb L) w.heap.size) w' (plB ρ ρ' lo n L.length) :=
  ⟨fun k h => .inl h, fun i r hr => by
     have : ¬ (lo ≤ i ∧ i < lo + n) := fun hc => by rw [hnone i hc.1 hc.2] at hr; cases hr
     simp [plB, this, hr],
   fun k hk => h.cg.ext.block k (hH.imm k hk) (fun hO => hH.dis k hk hO.1), h.cg.ext.cells⟩
theorem After.own_lt (h : After L I O w ρ H Hb Hc FL m I' O' w' ρ' Hc') (hH : HRel m I O w ρ Hb) {fr : Bool} : ∀ k, retO fr O (callO O ρ Hb L) I' O' k → k < w'.heap.size := by
  intro k hk
  rcases hk with h1 | ⟨h1, _⟩
  · exact h.rel.own k h1
  · exact Nat.lt_of_lt_of_le (hH.own k h1) h.cg.ext.size
theorem After.imm_lt (h : After L I O w ρ H Hb Hc FL m I' O' w' ρ' Hc') (hH : HRel m I O w ρ Hb) {fr : Bool} : ∀ k, retI fr I I' (callO O ρ Hb L) w.heap.size k → k < w'.heap.size := by
  intro k hk
  rcases hk with h1 | ⟨h1, _⟩ | ⟨_, h1⟩
  · exact Nat.lt_of_lt_of_le (hH.imm k h1) h.cg.ext.size
  · exact h.rel.imm k h1
  · exact h.rel.imm k h1
end Go.Proofs.YtgjbkgajkcgdfaaE
