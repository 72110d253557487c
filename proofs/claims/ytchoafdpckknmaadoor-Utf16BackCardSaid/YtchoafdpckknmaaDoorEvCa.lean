/- Calls and operations. -/
import Derived.Test.YtchoafdpckknmaaDoorEvTy
namespace Go.Proofs.YtchoafdpckknmaaDoorE
section
open Go
set_option linter.unusedSimpArgs false
set_option linter.unusedVariables false
variable {P : Program} {w : World} {m : Nat → Option Nat} {I O : Nat → Prop} {ρ : Pl} {H Hb : List Blk} {v : V} {e : Env} {a : Act}

/-- a step that may write, and freeze -/
structure GS (n : Nat) (I O : Nat → Prop) (w : World) (ρ : Pl) (I' O' : Nat → Prop) (w' : World) (ρ' : Pl) : Prop where
 mono : Mono I w ρ I' w' ρ'
 ext : Ext O w w'
 imm' : ∀ k, I' k → I k ∨ O k ∨ w.heap.size ≤ k
 own' : ∀ k, O' k → O k ∨ w.heap.size ≤ k
 pl' : ∀ i r, ρ' i = some r → ρ i = some r ∨ (n ≤ i ∧ (O r ∨ w.heap.size ≤ r))
/-- a whole call, or a stretch of code, over n blocks that stay -/
structure CG (n : Nat) (I O : Nat → Prop) (w : World) (ρ : Pl) (H : List Blk) (I' O' : Nat → Prop) (w' : World) (ρ' : Pl) (H' : List Blk) : Prop where
 imm : ∀ k, I k → I' k
 ext : Ext O w w'
 imm' : ∀ k, I' k → I k ∨ O k ∨ w.heap.size ≤ k
 own' : ∀ k, O' k → O k ∨ w.heap.size ≤ k
 pl : ∀ i, i < n → ρ' i = ρ i
 pl' : ∀ i r, ρ' i = some r → n ≤ i → O r ∨ w.heap.size ≤ r ∨ ∃ i', n ≤ i' ∧ ρ i' = some r
 len : n ≤ H'.length
 live : ∀ j, j < n → live H' j → live H j

def Body (P : Program) (f : FuncId) : Prop := ∃ fn, P.funcs[f]? = some fn ∧ fn.body.isSome = true ∧ fn.name ≠ "runtime.NumGoroutine"


/-- what a call comes to: a function with a text, or one that the model answers for at once -/
def CallRuns (P : Program) (f : FuncId) (ys : Array Value) (w : World) (Q : Ending → World → Prop) : Prop :=
 (Body P f ∧ Calls P f ys w Q) ∨ ∃ x w', (callFunc f ys).run P w = .ok (.value x) w' ∧ Q (.returned x) w'
theorem CallRuns.mono {P : Program} {f : FuncId} {ys : Array Value} {w : World} {Q Q' : Ending → World → Prop} (h : CallRuns P f ys w Q) (hq : ∀ e w', Q e w' → Q' e w') : CallRuns P f ys w Q' := by
 rcases h with ⟨h1, h2⟩ | ⟨x, w', h1, h2⟩
 ·exact .inl ⟨h1, Calls.mono h2 hq⟩
 ·exact .inr ⟨x, w', h1, hq _ _ h2⟩
def CallSnd (P : Program) (m : Nat → Option Nat) (call : CallF) : Prop :=
 ∀ (f g : Nat) (xs : List V) (H H' : List Blk) (r : V), m f = some g → call g xs H = some (r, H') →
  ∀ (I O : Nat → Prop) (w : World) (ρ : Pl) (ys : Array Value), RelVs m I w ρ xs ys.toList → HRel m I O w ρ H →
   CallRuns P f ys w (fun e w' => ∃ x I' O' ρ', e = .returned x ∧ RelV m I' w' ρ' r x ∧ HRel m I' O' w' ρ' H' ∧ CG H.length I O w ρ H I' O' w' ρ' H')

theorem RelVs.mapM_ren {g : Nat → Option Nat} {ρ' : Pl} {n : Nat} {xs xs' : List V} {ys : List Value} (h : RelVs m I w ρ xs ys) (hg : ∀ b b' r, g b = some b' → ρ b = some r → ρ' b' = some r) (hm : xs.mapM (ren g n) = some xs') : RelVs m I w ρ' xs' ys := by
 obtain ⟨h1, h2⟩ := mapM_get hm
 refine ⟨by rw [h.1, h1], fun j v x hv hx => ?_⟩
 obtain ⟨a, ha1, ha2⟩ := mapM_get' hm hv
 exact ren_rel hg ha2 (h.2 j a x ha1 hx)
theorem RelVs.mapM_lend {FL : List Nat} {n : Nat} {xs xs' : List V} {ys : List Value} (h : RelVs m I w ρ xs ys) (hp : ∀ (i : Nat) (b : Blk), H[i]? = some b → Hb[i]? = some b) (hH : HRel m I O w ρ Hb) (hm : xs.mapM (lend H FL n) = some xs') : RelVs m (lentI I ρ H FL) w ρ xs' ys := by
 obtain ⟨h1, h2⟩ := mapM_get hm
 refine ⟨by rw [h.1, h1], fun j v x hv hx => ?_⟩
 obtain ⟨a, ha1, ha2⟩ := mapM_get' hm hv
 exact lend_rel hp hH ha2 (h.2 j a x ha1 hx)

/-- where nothing immutable stands, the immutable blocks play no part -/
theorem noRs {I1 I2 : Nat → Prop} : ∀ {n : Nat} {v : V} {x : Value} {ρ : Pl}, hasRs n v = false → RelV m I1 w ρ v x → RelV m I2 w ρ v x := by
 intro n
 induction n with
 | zero => intro v x ρ h; simp [hasRs] at h
 | succ n ih =>
  intro v x ρ h hx
  cases hx with
  | rptr => simp [hasRs] at h
  | rs => simp [hasRs] at h
  | tb => simp [hasRs] at h
  | fn ρ g f caps cs hm hs hf =>
   simp only [hasRs, List.any_eq_false] at h
   exact .fn _ _ _ _ _ hm hs (fun j v x hv hx => ih (by simpa using h v (List.mem_of_getElem? hv)) (hf j v x hv hx))
  | tup ρ l vs hs hf =>
   simp only [hasRs, List.any_eq_false] at h
   exact .tup _ _ _ hs (fun j v x hv hx => ih (by simpa using h v (List.mem_of_getElem? hv)) (hf j v x hv hx))
  | agg ρ c cs hs hc hf =>
   cases c with
   | ints k l =>
    refine .agg _ _ _ hs hc (fun j v x hv hx => ?_)
    have h1 := hf j v x hv hx
    have hv' := hv
    simp only [C.get, Option.map_eq_some_iff] at hv'
    obtain ⟨_, _, rfl⟩ := hv'
    cases h1; exact .int _ _ _
   | vals l =>
    simp only [hasRs, List.any_eq_false] at h
    exact .agg _ _ _ hs hc (fun j v x hv hx => ih (by simpa using h v (List.mem_of_getElem? hv)) (hf j v x hv hx))
   | imm l => simp [hasRs] at h
  | int => exact .int _ _ _
  | bool => exact .bool _ _
  | str => exact .str _ _
  | nilp => exact .nilp _
  | ptr ρ b off r hh => exact .ptr _ _ _ _ hh
  | nils => exact .nils _
  | ez => exact .ez _ _
  | en => exact .en _ _ _
  | sl0 ρ b off sz cap A hh => exact .sl0 _ _ _ _ _ _ hh
  | sl1 ρ b off len sz cap r rc k h1 h2 h3 h4 h5 => exact .sl1 _ _ _ _ _ _ _ _ _ h1 h2 h3 h4 h5
  | nilf => exact .nilf _
  | nili => exact .nili _
  | undef => exact .undef _ _
theorem noRsB {I1 I2 O1 O2 : Nat → Prop} {r : Nat} {b : Blk} (h : hasRsB b = false) (hb : BRel m I1 O1 w ρ r b) (hI : I1 r → I2 r) (hO : O1 r → O2 r) : BRel m I2 O2 w ρ r b := by
 cases b with
 | dead => exact trivial
 | iter s p => exact ⟨hb.1, hO hb.2⟩
 | cells ro c =>
  obtain ⟨cs, e, fr, h1, h2, h3, h4, h5, h6, h7⟩ := hb
  refine ⟨cs, e, fr, h1, h2, h3, h4, fun j v x hv hx => ?_, fun e => hO (h6 e), fun e => hI (h7 e)⟩
  have hr := h5 j v x hv hx
  cases c with
  | ints k l =>
   have hv' := hv
   simp only [C.get, Option.map_eq_some_iff] at hv'
   obtain ⟨_, _, rfl⟩ := hv'
   cases hr; exact .int _ _ _
  | vals l =>
   simp only [hasRsB, List.any_eq_false] at h
   exact noRs (by simpa using h v (List.mem_of_getElem? hv)) hr
  | imm l =>
   simp only [hasRsB, Bool.not_eq_false'] at h
   have : l = [] := by simpa using h
   subst this; simp [C.get] at hv

theorem BRel.weaken {I1 I2 O1 O2 : Nat → Prop} {r : Nat} {b : Blk} (hb : BRel m I1 O1 w ρ r b) (hI : ∀ k, I1 k → I2 k) (hO : b ≠ .dead → O1 r → O2 r) : BRel m I2 O2 w ρ r b := by
 cases b with
 | dead => exact trivial
 | iter s p => exact ⟨hb.1, hO (by simp) hb.2⟩
 | cells ro c =>
  obtain ⟨cs, e, fr, h1, h2, h3, h4, h5, h6, h7⟩ := hb
  exact ⟨cs, e, fr, h1, h2, h3, h4, fun j v x hv hx => (h5 j v x hv hx).toI hI, fun e => hO (by simp) (h6 e), fun e => hI _ (h7 e)⟩

theorem freeze_get (L : List Nat) (H : List Blk) (i : Nat) : (freeze L H)[i]? = (H[i]?).map fun b => if L.contains i then match b with | .cells _ c => .cells true c | b => b else b := by
 unfold freeze
 rw [List.getElem?_map, List.getElem?_zipIdx]
 cases H[i]? <;> simp <;> rfl
theorem freeze_len (L : List Nat) (H : List Blk) : (freeze L H).length = H.length := by simp [freeze]
theorem putBack_get : ∀ (l : List (Nat × Blk)) (H : List Blk), (l.map (·.1)).Nodup → (∀ p ∈ l, p.1 < H.length) → ∀ i, (putBack H l)[i]? = match l.find? (fun p => p.1 == i) with | some p => some p.2 | none => H[i]?
 | [], H, _, _, i => rfl
 | (k, b) :: l, H, hn, hl, i => by
  simp only [List.map_cons, List.nodup_cons] at hn
  have ih := putBack_get l (H.set k b) hn.2 (fun p hp => by simpa using hl p (by simp [hp])) i
  simp only [putBack, ih, List.find?_cons]
  by_cases e : k = i
  ·subst e
   have hnone : l.find? (fun p => p.1 == k) = none := by
    rw [List.find?_eq_none]
    intro p hp
    simp only [beq_iff_eq]
    intro he
    exact hn.1 (by rw [← he]; exact List.mem_map_of_mem hp)
   rw [hnone]
   simp [List.getElem?_set_self (hl (k, b) (by simp))]
  ·have : (k == i) = false := by simpa using e
   rw [this]
   cases l.find? (fun p => p.1 == i) with
   | some p => rfl
   | none => simp only [List.getElem?_set_ne e]
theorem putBack_len : ∀ (l : List (Nat × Blk)) (H : List Blk), (putBack H l).length = H.length
 | [], H => rfl
 | (k, b) :: l, H => by simp [putBack, putBack_len l]
end

section
open Go
set_option linter.unusedSimpArgs false
set_option linter.unusedVariables false
variable {P : Program} {w : World} {m : Nat → Option Nat} {I O : Nat → Prop} {ρ : Pl} {H Hb : List Blk} {v : V} {e : Env} {a : Act} {call : CallF}

theorem mapM_mono {α β : Type} {f g : α → Option β} (hfg : ∀ a b, f a = some b → g a = some b) : ∀ {l : List α} {r : List β}, l.mapM f = some r → l.mapM g = some r
 | [], r, h => by simpa using h
 | a :: l, r, h => by
  simp only [List.mapM_cons, Option.pure_def, Option.bind_eq_bind, Option.bind_eq_some_iff] at h ⊢
  obtain ⟨b, h1, r', h2, h3⟩ := h
  exact ⟨b, hfg _ _ h1, r', mapM_mono hfg h2, h3⟩

/-- what the callee may turn: the blocks that it is handed -/
def callO (O : Nat → Prop) (ρ : Pl) (H : List Blk) (L : List Nat) : Nat → Prop := fun k => O k ∧ ∃ i, i ∈ L ∧ ρ i = some k ∧ live H i
abbrev callI (I : Nat → Prop) (ρ : Pl) (H : List Blk) (L : List Nat) : Nat → Prop := lentI I ρ H L

theorem callO_dis {FL L : List Nat} (hp : ∀ (i : Nat) (b : Blk), H[i]? = some b → Hb[i]? = some b) (hH : HRel m I O w ρ Hb) (hFL : ∀ i, i ∈ FL → i ∉ L) : ∀ k, lentI I ρ H FL k → ¬ callO O ρ Hb L k := by
 intro k h1 h2
 obtain ⟨hO, i, hi, hr, hl⟩ := h2
 rcases h1 with h1 | ⟨i2, ro, c, h3, h4, h5⟩
 ·exact hH.dis k h1 hO
 ·have hl2 : live Hb i2 := ⟨_, hp _ _ h5, by simp⟩
  have := hH.inj i i2 k hr h4 hl hl2
  subst this
  exact hFL i h3 hi

theorem call_heap {FL L : List Nat} {Hc : List Blk} {n : Nat} (hp : ∀ (i : Nat) (b : Blk), H[i]? = some b → Hb[i]? = some b) (hH : HRel m I O w ρ Hb) (hFL : ∀ i, i ∈ FL → i ∉ L) (hL : L.Nodup)
  (h3 : (L.mapM fun i => (H[i]?).bind (renB (idx L) n)) = some Hc) :
  HRel m (lentI I ρ H FL) (callO O ρ Hb L) w (plL L ρ) Hc ∧ Hc.length = L.length := by
 have h3' : (L.mapM fun i => (Hb[i]?).bind (renB (idx L) n)) = some Hc := mapM_mono (fun a b hab => by
  simp only [Option.bind_eq_some_iff] at hab ⊢
  obtain ⟨c, h1, h2⟩ := hab
  exact ⟨c, hp _ _ h1, h2⟩) h3
 obtain ⟨k1, k2⟩ := hH.renum hL h3'
 refine ⟨⟨k1.inj, fun i r hr => ?_, k1.lt, fun k h => hH.own k h.1, fun k h => ?_, callO_dis hp hH hFL, hH.tab.step (fun k h => .inl h) (fun _ _ => rfl)⟩, k2⟩
 ·obtain ⟨b, hb, hB⟩ := k1.blk i r hr
  refine ⟨b, hb, hB.weaken (fun k h => .inl h) (fun hd hO => ⟨hO, ?_⟩)⟩
  simp only [plL, Option.bind_eq_some_iff] at hr
  obtain ⟨i2, g1, g2⟩ := hr
  obtain ⟨a', q1, q2⟩ := mapM_get' h3' hb
  rw [g1] at q1; injection q1 with q1; subst q1
  simp only [Option.bind_eq_some_iff] at q2
  obtain ⟨b0, q3, q4⟩ := q2
  exact ⟨i2, List.mem_of_getElem? g1, g2, b0, q3, fun e => hd ((renB_dead q4).2 e)⟩
 ·rcases h with h | ⟨i2, ro, c, h3, h4, h5⟩
  ·exact hH.imm k h
  ·exact hH.lt _ _ h4

/-- the placement behind a call -/
def plB (ρ ρc : Pl) (lo n nL : Nat) : Pl := fun i => if lo ≤ i ∧ i < lo + n then ρc (nL + (i - lo)) else ρ i
def backN (L : List Nat) (lo : Nat) : Nat → Option Nat := fun j => if j < L.length then L[j]? else some (lo + (j - L.length))

structure After (L : List Nat) (I O : Nat → Prop) (w : World) (ρ : Pl) (H Hb Hc : List Blk) (FL : List Nat) (m : Nat → Option Nat) (I' O' : Nat → Prop) (w' : World) (ρ' : Pl) (Hc' : List Blk) : Prop where
 rel : HRel m I' O' w' ρ' Hc'
 cg : CG L.length (lentI I ρ H FL) (callO O ρ Hb L) w (plL L ρ) Hc I' O' w' ρ' Hc'

variable {L FL : List Nat} {Hc Hc' HbN : List Blk} {I' O' : Nat → Prop} {w' : World} {ρ' : Pl}

theorem After.new (h : After L I O w ρ H Hb Hc FL m I' O' w' ρ' Hc') {i r : Nat} (hi : L.length ≤ i) (hr : ρ' i = some r) : callO O ρ Hb L r ∨ w.heap.size ≤ r := by
 rcases h.cg.pl' i r hr hi with h1 | h1 | ⟨i', h1, h2⟩
 ·exact .inl h1
 ·exact .inr h1
 ·simp only [plL, Option.bind_eq_some_iff] at h2
  obtain ⟨a, h3, _⟩ := h2
  have := (List.getElem?_eq_some_iff.1 h3).1
  omega

theorem After.back (h : After L I O w ρ H Hb Hc FL m I' O' w' ρ' Hc') {lo n : Nat} (hlo : H.length = lo) (hn : Hc'.length = L.length + n)
  (hbL : ∀ i, i ∈ L → i < lo) : ∀ b b' r, backN L lo b = some b' → ρ' b = some r → plB ρ ρ' lo n L.length b' = some r := by
 intro b b' r h1 h2
 unfold backN at h1
 split at h1
 ·rename_i hb
  have hlt := hbL b' (List.mem_of_getElem? h1)
  rw [h.cg.pl b hb] at h2
  simp only [plL, h1, Option.bind_some] at h2
  have : ¬ (lo ≤ b' ∧ b' < lo + n) := by omega
  simp [plB, this, h2]
 ·rename_i hb
  injection h1 with h1; subst h1
  have hd := h.rel.dom h2
  have hc : lo ≤ lo + (b - L.length) ∧ lo + (b - L.length) < lo + n := by omega
  have e : L.length + (lo + (b - L.length) - lo) = b := by omega
  simp only [plB, hc, and_self, if_true, e]; exact h2

/-- a block of the callee's: immutable only if it was, or if it is new or was handed over -/
theorem After.imm (h : After L I O w ρ H Hb Hc FL m I' O' w' ρ' Hc') (hp : ∀ (i : Nat) (b : Blk), H[i]? = some b → Hb[i]? = some b) (hH : HRel m I O w ρ Hb) (hFL : ∀ i, i ∈ FL → i ∉ L)
  (hcl : ∀ j, live Hc j → ∃ i, L[j]? = some i ∧ live Hb i) {i r : Nat} (hr : ρ' i = some r) (hl : live Hc' i) (hI : I' r) : I r ∨ (I' r ∧ (callO O ρ Hb L r ∨ w.heap.size ≤ r)) := by
 rcases Nat.lt_or_ge i L.length with hi | hi
 ·rcases h.cg.imm' r hI with (h1 | ⟨i2, ro, c, g1, g2, g3⟩) | h1 | h1
  ·exact .inl h1
  ·exfalso
   obtain ⟨i3, q1, q2⟩ := hcl i (h.cg.live i hi hl)
   rw [h.cg.pl i hi] at hr
   simp only [plL, q1, Option.bind_some] at hr
   have := hH.inj i3 i2 r hr g2 q2 ⟨_, hp _ _ g3, by simp⟩
   subst this
   exact hFL i3 g1 (List.mem_of_getElem? q1)
  ·exact .inr ⟨hI, .inl h1⟩
  ·exact .inr ⟨hI, .inr h1⟩
 ·exact .inr ⟨hI, h.new hi hr⟩

/-- what is immutable behind a call -/
def retI (fr : Bool) (I Ic' Oc : Nat → Prop) (sz : Nat) : Nat → Prop := fun k => I k ∨ (Ic' k ∧ (Oc k ∨ sz ≤ k)) ∨ (fr = true ∧ Ic' k)
def retO (fr : Bool) (O Oc Ic' Oc' : Nat → Prop) : Nat → Prop := fun k => Oc' k ∨ (O k ∧ ¬ Oc k ∧ ¬ (fr = true ∧ Ic' k))

theorem After.brel (h : After L I O w ρ H Hb Hc FL m I' O' w' ρ' Hc') (hp : ∀ (i : Nat) (b : Blk), H[i]? = some b → Hb[i]? = some b) (hH : HRel m I O w ρ Hb) (hFL : ∀ i, i ∈ FL → i ∉ L)
  (hcl : ∀ j, live Hc j → ∃ i, L[j]? = some i ∧ live Hb i) {lo n : Nat} (hlo : H.length = lo) (hn : Hc'.length = L.length + n) (hbL : ∀ i, i ∈ L → i < lo)
  {fr : Bool} (hfr : fr = false → Hc'.any hasRsB = false) {j r : Nat} {b b' : Blk} {d : Nat} (hr : ρ' j = some r) (hb : Hc'[j]? = some b) (hb' : renB (backN L lo) d b = some b') :
  BRel m (retI fr I I' (callO O ρ Hb L) w.heap.size) (retO fr O (callO O ρ Hb L) I' O') w' (plB ρ ρ' lo n L.length) r b' := by
 refine renB_rel (h.back hlo hn hbL) hb' ?_
 have hB := h.rel.at hb hr
 by_cases hd : b = .dead
 ·subst hd; exact trivial
 cases fr with
 | true => exact hB.weaken (fun k h => .inr (.inr ⟨rfl, h⟩)) (fun _ h => .inl h)
 | false =>
  refine noRsB (by simpa using (List.any_eq_false.1 (hfr rfl)) b (List.mem_of_getElem? hb)) hB (fun hI => ?_) (fun h => .inl h)
  rcases h.imm hp hH hFL hcl hr ⟨b, hb, hd⟩ hI with h1 | h1
  ·exact .inl h1
  ·exact .inr (.inl h1)

theorem After.val (h : After L I O w ρ H Hb Hc FL m I' O' w' ρ' Hc') {lo n : Nat} (hlo : H.length = lo) (hn : Hc'.length = L.length + n) (hbL : ∀ i, i ∈ L → i < lo)
  {fr : Bool} {r r' : V} {x : Value} (hfr : fr = false → hasRs deep r = false ∨ FL = []) (hr : ren (backN L lo) deep r = some r') (hx : RelV m I' w' ρ' r x) :
  RelV m (retI fr I I' (callO O ρ Hb L) w.heap.size) w' (plB ρ ρ' lo n L.length) r' x := by
 refine ren_rel (h.back hlo hn hbL) hr ?_
 cases fr with
 | true => exact hx.toI (fun k h => .inr (.inr ⟨rfl, h⟩))
 | false =>
  rcases hfr rfl with hf | hf
  ·exact noRs hf hx
  ·refine hx.toI (fun k hk => ?_)
   rcases h.cg.imm' k hk with (h1 | ⟨i2, ro, c, g1, _⟩) | h1 | h1
   ·exact .inl h1
   ·rw [hf] at g1; simp at g1
   ·exact .inr (.inl ⟨hk, .inl h1⟩)
   ·exact .inr (.inl ⟨hk, .inr h1⟩)

theorem After.retDis (h : After L I O w ρ H Hb Hc FL m I' O' w' ρ' Hc') (hH : HRel m I O w ρ Hb) {fr : Bool} : ∀ k, retI fr I I' (callO O ρ Hb L) w.heap.size k → ¬ retO fr O (callO O ρ Hb L) I' O' k := by
 intro k h1 h2
 rcases h1 with h1 | ⟨h1, h3⟩ | ⟨h1, h3⟩
 ·rcases h2 with h2 | ⟨h2, _⟩
  ·rcases h.cg.own' k h2 with h3 | h3
   ·exact hH.dis k h1 h3.1
   ·have := hH.imm k h1; omega
  ·exact hH.dis k h1 h2
 ·rcases h2 with h2 | ⟨h2, h4, _⟩
  ·exact h.rel.dis k h1 h2
  ·rcases h3 with h3 | h3
   ·exact h4 h3
   ·have := hH.own k h2; omega
 ·rcases h2 with h2 | ⟨h2, _, h4⟩
  ·exact h.rel.dis k h3 h2
  ·exact h4 ⟨h1, h3⟩
theorem After.retI' (h : After L I O w ρ H Hb Hc FL m I' O' w' ρ' Hc') (hp : ∀ (i : Nat) (b : Blk), H[i]? = some b → Hb[i]? = some b) (hH : HRel m I O w ρ Hb) {fr : Bool} : ∀ k, retI fr I I' (callO O ρ Hb L) w.heap.size k → I k ∨ O k ∨ w.heap.size ≤ k := by
 have main : ∀ k, I' k → I k ∨ O k ∨ w.heap.size ≤ k := by
  intro k hk
  rcases h.cg.imm' k hk with (h1 | ⟨i2, ro, c, g1, g2, g3⟩) | h1 | h1
  ·exact .inl h1
  ·obtain ⟨cs, e, f, q1, q2, q3, q4, q5, q6, q7⟩ := hH.at (hp _ _ g3) g2
   cases ro with
   | true => exact .inl (q7 rfl)
   | false => exact .inr (.inl (q6 rfl))
  ·exact .inr (.inl h1.1)
  ·exact .inr (.inr h1)
 intro k hk
 rcases hk with h1 | ⟨h1, _⟩ | ⟨_, h1⟩
 ·exact .inl h1
 ·exact main k h1
 ·exact main k h1
theorem After.retO' (h : After L I O w ρ H Hb Hc FL m I' O' w' ρ' Hc') {fr : Bool} : ∀ k, retO fr O (callO O ρ Hb L) I' O' k → O k ∨ w.heap.size ≤ k := by
 intro k hk
 rcases hk with h1 | ⟨h1, _⟩
 ·exact (h.cg.own' k h1).imp (fun h => h.1) id
 ·exact .inl h1
theorem After.ext (h : After L I O w ρ H Hb Hc FL m I' O' w' ρ' Hc') : Ext O w w' := h.cg.ext.mono (fun k h => h.1)
theorem After.mono (h : After L I O w ρ H Hb Hc FL m I' O' w' ρ' Hc') (hH : HRel m I O w ρ Hb) {lo n : Nat} (hnone : ∀ i, lo ≤ i → i < lo + n → ρ i = none) {fr : Bool} :
  Mono I w ρ (retI fr I I' (callO O ρ Hb L) w.heap.size) w' (plB ρ ρ' lo n L.length) :=
 ⟨fun k h => .inl h, fun i r hr => by
   have : ¬ (lo ≤ i ∧ i < lo + n) := fun hc => by rw [hnone i hc.1 hc.2] at hr; cases hr
   simp [plB, this, hr],
  fun k hk => h.cg.ext.block k (hH.imm k hk) (fun hO => hH.dis k hk hO.1), h.cg.ext.cells⟩
theorem After.own_lt (h : After L I O w ρ H Hb Hc FL m I' O' w' ρ' Hc') (hH : HRel m I O w ρ Hb) {fr : Bool} : ∀ k, retO fr O (callO O ρ Hb L) I' O' k → k < w'.heap.size := by
 intro k hk
 rcases hk with h1 | ⟨h1, _⟩
 ·exact h.rel.own k h1
 ·exact Nat.lt_of_lt_of_le (hH.own k h1) h.cg.ext.size
theorem After.imm_lt (h : After L I O w ρ H Hb Hc FL m I' O' w' ρ' Hc') (hH : HRel m I O w ρ Hb) {fr : Bool} : ∀ k, retI fr I I' (callO O ρ Hb L) w.heap.size k → k < w'.heap.size := by
 intro k hk
 rcases hk with h1 | ⟨h1, _⟩ | ⟨_, h1⟩
 ·exact Nat.lt_of_lt_of_le (hH.imm k h1) h.cg.ext.size
 ·exact h.rel.imm k h1
 ·exact h.rel.imm k h1
end

section
open Go
set_option linter.unusedSimpArgs false
set_option linter.unusedVariables false
variable {P : Program} {w : World} {m : Nat → Option Nat} {I O : Nat → Prop} {ρ : Pl} {H Hb : List Blk} {v : V} {e : Env} {a : Act} {call : CallF}
variable {L FL : List Nat} {Hc Hc' HbN : List Blk} {I' O' : Nat → Prop} {w' : World} {ρ' : Pl}

theorem callO_nil : ∀ k, ¬ callO O ρ Hb [] k := fun k h => by
 obtain ⟨_, i, hi, _⟩ := h
 simp at hi

theorem After.quiet (h : After [] I O w ρ H Hb Hc FL m I' O' w' ρ' Hc') (hp : ∀ (i : Nat) (b : Blk), H[i]? = some b → Hb[i]? = some b) (hH : HRel m I O w ρ Hb)
  (hfr : Hc'.any hasRsB = false) {d : Nat} (hm : Hc'.mapM (renB (backN [] H.length) d) = some HbN) (hHc : Hc = [])
  (hnew : ∀ (j : Nat) (b : Blk), HbN[j]? = some b → Hb[H.length + j]? = some b) (hnone : ∀ j, j < HbN.length → ρ (H.length + j) = none) :
  HRel m (retI false I I' (callO O ρ Hb []) w.heap.size) (retO false O (callO O ρ Hb []) I' O') w' (plB ρ ρ' H.length HbN.length 0) Hb ∧
   Grow H.length (H.length + HbN.length) I O w ρ (retI false I I' (callO O ρ Hb []) w.heap.size) (retO false O (callO O ρ Hb []) I' O') w' (plB ρ ρ' H.length HbN.length 0) := by
 obtain ⟨hl1, hl2⟩ := mapM_get hm
 have hn : Hc'.length = ([] : List Nat).length + HbN.length := by simp [hl1]
 have hnone' : ∀ i, H.length ≤ i → i < H.length + HbN.length → ρ i = none := fun i h1 h2 => by
  have := hnone (i - H.length) (by omega)
  rwa [show H.length + (i - H.length) = i by omega] at this
 have hcl : ∀ j, live Hc j → ∃ i, ([] : List Nat)[j]? = some i ∧ live Hb i := fun j hj => by
  obtain ⟨b, hb, _⟩ := hj; subst hHc; simp at hb
 have hFL : ∀ i, i ∈ FL → i ∉ ([] : List Nat) := fun i _ => by simp
 have hmono := h.mono hH hnone' (fr := false)
 have old : ∀ k, k < w.heap.size → w'.heap[k]? = w.heap[k]? := fun k hk => h.cg.ext.block k hk (callO_nil k)
 have own : ∀ k, O k → retO false O (callO O ρ Hb []) I' O' k := fun k hk => .inr ⟨hk, callO_nil k, by simp⟩
 refine ⟨⟨fun i j r hi hj li lj => ?_, fun i r hi => ?_, fun i r hi => ?_, h.own_lt hH, h.imm_lt hH, h.retDis hH, hH.tab.step hmono.imm hmono.block⟩, ?_⟩
 ·unfold plB at hi hj
  split at hi <;> split at hj
  ·rename_i c1 c2
   obtain ⟨b1, e1, d1⟩ := li
   obtain ⟨b2, e2, d2⟩ := lj
   have key : ∀ i (b : Blk), (H.length ≤ i ∧ i < H.length + HbN.length) → Hb[i]? = some b → b ≠ .dead → live Hc' (([] : List Nat).length + (i - H.length)) := by
    intro i b hc hb hd
    obtain ⟨b', hb'⟩ : ∃ b', HbN[i - H.length]? = some b' := ⟨_, List.getElem?_eq_getElem (by omega)⟩
    have := hnew _ _ hb'
    rw [show H.length + (i - H.length) = i by omega, hb] at this
    injection this with this; subst this
    obtain ⟨b0, g1, g2⟩ := mapM_get' hm hb'
    exact ⟨b0, by simpa using g1, fun e => hd ((renB_dead g2).2 e)⟩
   have := h.rel.inj _ _ r hi hj (key i b1 c1 e1 d1) (key j b2 c2 e2 d2)
   simp at this; omega
  ·have h1 := h.new (by simp) hi
   have h2 := hH.lt _ _ hj
   rcases h1 with h1 | h1
   ·exact absurd h1 (callO_nil r)
   ·omega
  ·have h1 := h.new (by simp) hj
   have h2 := hH.lt _ _ hi
   rcases h1 with h1 | h1
   ·exact absurd h1 (callO_nil r)
   ·omega
  ·exact hH.inj i j r hi hj li lj
 ·unfold plB at hi
  split at hi
  ·rename_i c1
   obtain ⟨b', hb'⟩ : ∃ b', HbN[i - H.length]? = some b' := ⟨_, List.getElem?_eq_getElem (by omega)⟩
   have e1 := hnew _ _ hb'
   rw [show H.length + (i - H.length) = i by omega] at e1
   obtain ⟨b0, g1, g2⟩ := mapM_get' hm hb'
   exact ⟨b', e1, h.brel hp hH hFL hcl rfl hn (by simp) (fun _ => hfr) hi (by simpa using g1) g2⟩
  ·obtain ⟨b, hb, hB⟩ := hH.blk i r hi
   exact ⟨b, hb, hB.mono hmono own (old r (hH.lt _ _ hi))⟩
 ·unfold plB at hi
  split at hi
  ·exact h.rel.lt _ _ hi
  ·exact Nat.lt_of_lt_of_le (hH.lt _ _ hi) h.cg.ext.size
 ·refine ⟨fun k hk => .inl hk, fun k hk => ?_, own, h.retO', hmono.pl, fun i r hi => ?_, h.cg.ext.size, old, h.cg.ext.os, h.cg.ext.tape, h.cg.ext.output⟩
  ·rcases hk with h1 | ⟨h1, h2 | h2⟩ | ⟨h1, _⟩
   ·exact .inl h1
   ·exact absurd h2 (callO_nil k)
   ·exact .inr h2
   ·cases h1
  ·unfold plB at hi
   split at hi
   ·rename_i c1
    rcases h.new (by simp) hi with h1 | h1
    ·exact absurd h1 (callO_nil r)
    ·exact .inr ⟨c1.1, c1.2, h1⟩
   ·exact .inl hi

theorem zip_map_fst {α β : Type} : ∀ (l : List α) (r : List β), r.length = l.length → (l.zip r).map (·.1) = l
 | [], r, h => by simp
 | a :: l, [], h => by simp at h
 | a :: l, b :: r, h => by simp [zip_map_fst l r (by simpa using h)]
theorem putBack_in {L : List Nat} {N H1 : List Blk} (hL : L.Nodup) (hlen : N.length = L.length) (hb : ∀ i, i ∈ L → i < H1.length) {j i : Nat} {b : Blk} (hi : L[j]? = some i) (hN : N[j]? = some b) : (putBack H1 (L.zip N))[i]? = some b := by
 rw [putBack_get _ _ (by rw [zip_map_fst _ _ hlen]; exact hL) (fun p hp => hb _ (List.of_mem_zip hp).1)]
 have hz : (L.zip N)[j]? = some (i, b) := by rw [List.getElem?_zip_eq_some]; exact ⟨hi, hN⟩
 cases hf : (L.zip N).find? (fun p => p.1 == i) with
 | none =>
  rw [List.find?_eq_none] at hf
  exact absurd (by simp) (hf (i, b) (List.mem_of_getElem? hz))
 | some p =>
  have h1 := List.find?_some hf
  have h2 := List.mem_of_find?_eq_some hf
  obtain ⟨k, hk⟩ := List.mem_iff_getElem?.1 h2
  obtain ⟨q1, q2⟩ := List.getElem?_zip_eq_some.1 (show (L.zip N)[k]? = some (p.1, p.2) from hk)
  have he : p.1 = i := by simpa using h1
  rw [he] at q1
  have hkj : k = j := by
   obtain ⟨i1, e1⟩ := List.getElem?_eq_some_iff.1 hi
   obtain ⟨i2, e2⟩ := List.getElem?_eq_some_iff.1 q1
   have hpw := List.pairwise_iff_getElem.1 hL
   rcases Nat.lt_trichotomy k j with hlt | heq | hgt
   ·exact absurd (e2.trans e1.symm) (hpw k j i2 i1 hlt)
   ·exact heq
   ·exact absurd (e1.trans e2.symm) (hpw j k i1 i2 hgt)
  subst hkj
  rw [hN] at q2; injection q2 with q2
  simp [q2]
theorem putBack_out {L : List Nat} {N H1 : List Blk} (hL : L.Nodup) (hlen : N.length = L.length) (hb : ∀ i, i ∈ L → i < H1.length) {i : Nat} (hi : i ∉ L) : (putBack H1 (L.zip N))[i]? = H1[i]? := by
 rw [putBack_get _ _ (by rw [zip_map_fst _ _ hlen]; exact hL) (fun p hp => hb _ (List.of_mem_zip hp).1)]
 cases hf : (L.zip N).find? (fun p => p.1 == i) with
 | none => rfl
 | some p =>
  have h1 := List.find?_some hf
  have h2 := List.mem_of_find?_eq_some hf
  have he : p.1 = i := by simpa using h1
  exact absurd (he ▸ (List.of_mem_zip (show (p.1, p.2) ∈ _ from h2)).1) hi

/-- what stays alive was alive -/
def Alive (H H' : List Blk) : Prop := H.length ≤ H'.length ∧ ∀ j, j < H.length → live H' j → live H j

theorem After.gen (h : After L I O w ρ H H Hc FL m I' O' w' ρ' Hc') (hH : HRel m I O w ρ H) (hL : L.Nodup) (hbL : ∀ i, i ∈ L → i < H.length) (hFL : ∀ i, i ∈ FL → i ∉ L)
  {fr : Bool} (hfr : fr = false → Hc'.any hasRsB = false) {d : Nat} (hm : Hc'.mapM (renB (backN L H.length) d) = some HbN) (hge : L.length ≤ Hc'.length)
  (hcl : ∀ j, live Hc j → ∃ i, L[j]? = some i ∧ live H i) (hHc : Hc.length = L.length) :
  HRel m (retI fr I I' (callO O ρ H L) w.heap.size) (retO fr O (callO O ρ H L) I' O') w' (plB ρ ρ' H.length (HbN.length - L.length) L.length)
    (putBack (if fr then freeze FL H else H) (L.zip (HbN.take L.length)) ++ HbN.drop L.length) ∧
   GS H.length I O w ρ (retI fr I I' (callO O ρ H L) w.heap.size) (retO fr O (callO O ρ H L) I' O') w' (plB ρ ρ' H.length (HbN.length - L.length) L.length) ∧
   Alive H (putBack (if fr then freeze FL H else H) (L.zip (HbN.take L.length)) ++ HbN.drop L.length) := by
 obtain ⟨hl1, hl2⟩ := mapM_get hm
 have hn : Hc'.length = L.length + (HbN.length - L.length) := by omega
 have hnone' : ∀ i, H.length ≤ i → i < H.length + (HbN.length - L.length) → ρ i = none := fun i h1 h2 => hH.none h1
 have hmono := h.mono hH hnone' (fr := fr)
 generalize hH1 : (if fr then freeze FL H else H) = H1
 have hH1len : H1.length = H.length := by subst hH1; cases fr <;> simp [freeze_len]
 have hb1 : ∀ i, i ∈ L → i < H1.length := fun i hi => by rw [hH1len]; exact hbL i hi
 have htl : (HbN.take L.length).length = L.length := by simp; omega
 have hpl : (putBack H1 (L.zip (HbN.take L.length))).length = H.length := by rw [putBack_len, hH1len]
 generalize hF : putBack H1 (L.zip (HbN.take L.length)) ++ HbN.drop L.length = F
 have old : ∀ i, i < H.length → F[i]? = (putBack H1 (L.zip (HbN.take L.length)))[i]? := fun i hi => by
  subst hF; rw [List.getElem?_append_left (by omega)]
 have fresh : ∀ i, H.length ≤ i → F[i]? = HbN[L.length + (i - H.length)]? := fun i hi => by
  subst hF; rw [List.getElem?_append_right (by omega), List.getElem?_drop, hpl]
 -- a block that the callee was handed
 have inL : ∀ (k i : Nat), L[k]? = some i → ∃ b', Hc'[k]? = some b' ∧ ∃ b, renB (backN L H.length) d b' = some b ∧ F[i]? = some b := by
  intro k i hk
  have hkl : k < L.length := (List.getElem?_eq_some_iff.1 hk).1
  obtain ⟨b, hb⟩ : ∃ b, HbN[k]? = some b := ⟨_, List.getElem?_eq_getElem (by omega)⟩
  obtain ⟨b', g1, g2⟩ := mapM_get' hm hb
  refine ⟨b', g1, b, g2, ?_⟩
  rw [old i (hbL i (List.mem_of_getElem? hk))]
  exact putBack_in hL htl hb1 hk (by rw [List.getElem?_take_of_lt hkl]; exact hb)
 have outL : ∀ (i : Nat), i < H.length → i ∉ L → F[i]? = H1[i]? := fun i hi hn => by
  rw [old i hi]; exact putBack_out hL htl hb1 hn
 have H1live : ∀ i, live H1 i → live H i := by
  intro i ⟨b, hb, hd⟩
  subst hH1
  cases fr with
  | false => exact ⟨b, hb, hd⟩
  | true =>
   simp only [if_true, freeze_get] at hb
   cases hi : H[i]? with
   | none => rw [hi] at hb; simp at hb
   | some b0 =>
    refine ⟨b0, hi, fun e => ?_⟩
    subst e
    rw [hi] at hb
    simp at hb
    exact hd hb.symm
 have liveL : ∀ (k i : Nat), L[k]? = some i → live F i → live Hc' k := by
  intro k i hk ⟨c, hc, hd⟩
  obtain ⟨b', g1, b, g2, g3⟩ := inL k i hk
  rw [g3] at hc; injection hc with hc; subst hc
  exact ⟨b', g1, fun e => hd ((renB_dead g2).2 e)⟩
 have liveOld : ∀ i, i < H.length → live F i → live H i := by
  intro i hi hl
  by_cases hm : i ∈ L
  ·obtain ⟨k, hk⟩ := List.mem_iff_getElem?.1 hm
   have h1 := liveL k i hk hl
   obtain ⟨i', q1, q2⟩ := hcl k (h.cg.live k (List.getElem?_eq_some_iff.1 hk).1 h1)
   rw [hk] at q1; injection q1 with q1; subst q1
   exact q2
  ·obtain ⟨b, hb, hd⟩ := hl
   rw [outL i hi hm] at hb
   exact H1live i ⟨b, hb, hd⟩
 have liveNew : ∀ i, H.length ≤ i → live F i → live Hc' (L.length + (i - H.length)) := by
  intro i hi ⟨b, hb, hd⟩
  rw [fresh i hi] at hb
  obtain ⟨b', g1, g2⟩ := mapM_get' hm hb
  exact ⟨b', g1, fun e => hd ((renB_dead g2).2 e)⟩
 have plc : ∀ (k i : Nat), L[k]? = some i → ρ' k = ρ i := by
  intro k i hk
  rw [h.cg.pl k (List.getElem?_eq_some_iff.1 hk).1]
  simp [plL, hk]
 have mixed : ∀ i j r, i < H.length → H.length ≤ j → ρ i = some r → ρ' (L.length + (j - H.length)) = some r → live F i → live F j → False := by
  intro i j r h1 h2 h3 h4 h5 h6
  rcases h.new (by omega) h4 with ⟨_, i2, q1, q2, q3⟩ | q
  ·have := hH.inj i i2 r h3 q2 (liveOld i h1 h5) q3
   subst this
   obtain ⟨k, hk⟩ := List.mem_iff_getElem?.1 q1
   have := h.rel.inj k _ r ((plc k i hk).trans h3) h4 (liveL k i hk h5) (liveNew j h2 h6)
   have := (List.getElem?_eq_some_iff.1 hk).1
   omega
  ·have := hH.lt _ _ h3; omega
 have plin : ∀ i r, plB ρ ρ' H.length (HbN.length - L.length) L.length i = some r → (i < H.length ∧ ρ i = some r) ∨ (H.length ≤ i ∧ ρ' (L.length + (i - H.length)) = some r) := by
  intro i r hi
  unfold plB at hi
  split at hi
  ·rename_i c; exact .inr ⟨c.1, hi⟩
  ·exact .inl ⟨hH.dom hi, hi⟩
 refine ⟨⟨fun i j r hi hj li lj => ?_, fun i r hi => ?_, fun i r hi => ?_, h.own_lt hH, h.imm_lt hH, h.retDis hH, hH.tab.step hmono.imm hmono.block⟩, ⟨hmono, h.ext, h.retI' prefix_refl hH, h.retO', fun i r hi => ?_⟩, ⟨by rw [← hF, List.length_append, hpl]; omega, liveOld⟩⟩
 ·rcases plin i r hi with ⟨i1, i2⟩ | ⟨i1, i2⟩ <;> rcases plin j r hj with ⟨j1, j2⟩ | ⟨j1, j2⟩
  ·exact hH.inj i j r i2 j2 (liveOld i i1 li) (liveOld j j1 lj)
  ·exact (mixed i j r i1 j1 i2 j2 li lj).elim
  ·exact (mixed j i r j1 i1 j2 i2 lj li).elim
  ·have := h.rel.inj _ _ r i2 j2 (liveNew i i1 li) (liveNew j j1 lj)
   omega
 ·rcases plin i r hi with ⟨i1, i2⟩ | ⟨i1, i2⟩
  ·by_cases hmem : i ∈ L
   ·obtain ⟨k, hk⟩ := List.mem_iff_getElem?.1 hmem
    obtain ⟨b', g1, b, g2, g3⟩ := inL k i hk
    exact ⟨b, g3, h.brel prefix_refl hH hFL hcl rfl hn hbL hfr ((plc k i hk).trans i2) g1 g2⟩
   ·rw [outL i i1 hmem]
    obtain ⟨b, hb, hB⟩ := hH.blk i r i2
    have hlive : b ≠ .dead → w'.heap[r]? = w.heap[r]? := fun hd => h.cg.ext.block r (hH.lt _ _ i2) (fun hO => by
     obtain ⟨_, i3, q1, q2, q3⟩ := hO
     have := hH.inj i i3 r i2 q2 ⟨b, hb, hd⟩ q3
     subst this; exact hmem q1)
    have hOc : b ≠ .dead → ¬ callO O ρ H L r := fun hd hO => by
     obtain ⟨_, i3, q1, q2, q3⟩ := hO
     have := hH.inj i i3 r i2 q2 ⟨b, hb, hd⟩ q3
     subst this; exact hmem q1
    have lent : b ≠ .dead → O r → I' r → i ∈ FL ∧ ∃ ro c, b = .cells ro c := by
     intro hd hO hI
     rcases h.cg.imm' r hI with (h1 | ⟨i3, ro, c, g1, g2, g3⟩) | h1 | h1
     ·exact absurd hO (hH.dis r h1)
     ·have := hH.inj i i3 r i2 g2 ⟨b, hb, hd⟩ ⟨_, g3, by simp⟩
      subst this
      rw [hb] at g3; injection g3 with g3
      exact ⟨g1, ro, c, g3⟩
     ·exact absurd h1 (hOc hd)
     ·have := hH.lt _ _ i2; omega
    have same : H1[i]? = some b ∨ (fr = true ∧ i ∈ FL ∧ ∃ ro c, b = .cells ro c ∧ H1[i]? = some (.cells true c)) := by
     subst hH1
     cases fr with
     | false => exact .inl hb
     | true =>
      simp only [if_true, freeze_get, hb, Option.map_some]
      by_cases hc : FL.contains i = true
      ·simp only [hc, if_true]
       cases b with
       | cells ro c => exact .inr ⟨by simp, by simpa using hc, ro, c, rfl, rfl⟩
       | iter s p => exact .inl rfl
       | dead => exact .inl rfl
      ·simp only [hc, if_false]; exact .inl (by simp)
    by_cases hd : b = .dead
    ·subst hd
     rcases same with s | ⟨_, _, ro, c, q, _⟩
     ·exact ⟨.dead, s, trivial⟩
     ·cases q
    rcases same with s | ⟨s1, s2, ro, c, s3, s4⟩
    ·refine ⟨b, s, ?_⟩
     by_cases hfi : fr = true ∧ i ∈ FL ∧ ∃ ro c, b = .cells ro c
     ·obtain ⟨f1, f2, ro, c, f3⟩ := hfi
      subst f3 f1
      have : ro = true := by
       rw [← hH1] at s
       have hc : FL.contains i = true := by simpa using f2
       simp only [if_true, freeze_get, hb, Option.map_some, hc] at s
       injection s with s; injection s with s _; exact s.symm
      subst this
      obtain ⟨cs, e, f, q1, q2, q3, q4, q5, q6, q7⟩ := hB
      have hbl := hlive hd
      exact ⟨cs, e, f, hbl.trans q1, q2, q3, q4, fun j v x hv hx => hmono.relC (q5 j v x hv hx), fun e => (by cases e), fun e => .inl (q7 e)⟩
     ·refine (hB.mono hmono (O' := fun k => O k) (fun k h => h) (hlive hd)).weaken (fun k h => h) (fun _ hO => ?_)
      refine .inr ⟨hO, hOc hd, fun hc => ?_⟩
      obtain ⟨f1, f2⟩ := lent hd hO hc.2
      exact hfi ⟨hc.1, f1, f2⟩
    ·subst s3 s1
     refine ⟨_, s4, ?_⟩
     obtain ⟨cs, e, f, q1, q2, q3, q4, q5, q6, q7⟩ := hB
     have hbl := hlive hd
     refine ⟨cs, e, f, hbl.trans q1, q2, q3, q4, fun j v x hv hx => hmono.relC (q5 j v x hv hx), fun e => (by cases e), fun _ => ?_⟩
     exact .inr (.inr ⟨rfl, h.cg.imm r (.inr ⟨i, ro, c, s2, i2, hb⟩)⟩)
  ·have hd := h.rel.dom i2
   obtain ⟨b, hb⟩ : ∃ b, HbN[L.length + (i - H.length)]? = some b := ⟨_, List.getElem?_eq_getElem (by omega)⟩
   obtain ⟨b', g1, g2⟩ := mapM_get' hm hb
   exact ⟨b, (fresh i i1).trans hb, h.brel prefix_refl hH hFL hcl rfl hn hbL hfr i2 g1 g2⟩
 ·rcases plin i r hi with ⟨i1, i2⟩ | ⟨i1, i2⟩
  ·exact Nat.lt_of_lt_of_le (hH.lt _ _ i2) h.cg.ext.size
  ·exact h.rel.lt _ _ i2
 ·rcases plin i r hi with ⟨i1, i2⟩ | ⟨i1, i2⟩
  ·exact .inl i2
  ·exact .inr ⟨i1, (h.new (by omega) i2).imp (fun h => h.1) id⟩
end

section
open Go
set_option linter.unusedSimpArgs false
set_option linter.unusedVariables false
variable {P : Program} {w : World} {m : Nat → Option Nat} {I O : Nat → Prop} {ρ : Pl} {H Hb : List Blk} {v : V} {e : Env} {a : Act} {call : CallF} {own : Nat → Mode}

theorem Grow.gs {n k : Nat} {I' O' : Nat → Prop} {w' : World} {ρ' : Pl} (h : Grow n k I O w ρ I' O' w' ρ') (hi : ∀ k, I k → k < w.heap.size) : GS n I O w ρ I' O' w' ρ' :=
 ⟨h.mono hi, h.ext, fun k hk => (h.imm' k hk).elim .inl (fun h => .inr (.inr h)), h.own', fun i r hr => (h.pl' i r hr).elim .inl (fun h => .inr ⟨h.1, .inr h.2.2⟩)⟩
theorem EG.gs {n : Nat} {O' : Nat → Prop} {w' : World} {ρ' : Pl} (h : EG n I O w ρ O' w' ρ') : GS n I O w ρ I O' w' ρ' :=
 ⟨h.mono, h.ext, fun k hk => .inl hk, h.own', h.pl'⟩

/-- the operation is carried out, and all goes on with this value -/
def Goes (P : Program) (o : Oper) (a : Act) (w : World) (R : Value → World → Prop) : Prop :=
 ∀ (next : Act → World → Prop) (Q : Exit → Act → World → Prop), (∀ x w', R x w' → next (a.put o.dst x) w') → o.wp P a w next Q

theorem goes_value {o : Oper} {x : Value} {w' : World} {R : Value → World → Prop} (h : (execOp a.eval o).run P w = .ok (.value x) w') (hR : R x w') : Goes P o a w R := by
 intro next Q hn
 unfold Oper.wp
 rw [h]
 exact hn _ _ hR
theorem goes_skip {o : Oper} {w' : World} {R : Value → World → Prop} (h : (execOp a.eval o).run P w = .ok .skip w') (hR : R undef w') : Goes P o a w R := by
 intro next Q hn
 unfold Oper.wp
 rw [h]
 exact hn _ _ hR
theorem Goes.mono {o : Oper} {R R' : Value → World → Prop} (h : Goes P o a w R) (hr : ∀ x w', R x w' → R' x w') : Goes P o a w R' :=
 fun next Q hn => h next Q (fun x w' hx => hn x w' (hr x w' hx))

theorem run_enter {f : FuncId} {xs : Array Value} (hb : Body P f) : (callFunc f xs).run P w = .ok (.enter f xs) w := by
 obtain ⟨fn, h1, h2, h3⟩ := hb
 have h4 : (fn.name == "runtime.NumGoroutine") = false := by simpa using h3
 have h5 : fn.body.isNone = false := by cases hh : fn.body <;> simp_all
 unfold callFunc
 have hp : (program).run P w = .ok P w := rfl
 simp only [Sem.run_bind, hp, Result.andThen_ok, h1, h4, h5, Bool.false_eq_true, if_false]
 rfl

theorem goes_call {dst : Option Tmp} {fo : Operand} {xs : Array Operand} {ats : Array TypeId} {ty : TypeId} {pos : String} {af : Array Edge} {g : Option (Nat × Bool)} {f : FuncId} {cs : Array Value} {R : Value → World → Prop}
  (hf : a.eval fo = .func (.func f) #[] cs) (hc : CallRuns P f (xs.map a.eval ++ cs) w (fun e w' => ∃ x, e = .returned x ∧ R x w')) :
  Goes P ⟨dst, .call ⟨.value fo, xs, ats⟩, ty, pos, af, g⟩ a w R := by
 intro next Q hn
 unfold Oper.wp
 have : (execOp a.eval ⟨dst, .call ⟨.value fo, xs, ats⟩, ty, pos, af, g⟩).run P w = (callFunc f (xs.map a.eval ++ cs)).run P w := by
  show (do let d ← resolve a.eval ⟨.value fo, xs, ats⟩ ty; invoke d.target d.args : Sem Next).run P w = _
  have h1 : (resolve a.eval ⟨.value fo, xs, ats⟩ ty).run P w = .ok { target := .fn (.func f) cs, args := xs.map a.eval } w := by
   show (Deferred.ofValue (a.eval fo) (xs.map a.eval)).run P w = _
   rw [hf]; simp [Deferred.ofValue, pure, Sem.run]
  simp only [Sem.run_bind, h1, Result.andThen_ok]
  rfl
 rw [this]
 rcases hc with ⟨hb, hc⟩ | ⟨x, w', h1, x', h2, h3⟩
 ·rw [run_enter hb]
  refine Calls.mono hc (fun e w' he => ?_)
  obtain ⟨x, rfl, hx⟩ := he
  exact hn _ _ hx
 ·rw [h1]
  injection h2 with h2
  subst h2
  exact hn _ _ h3

theorem operands_call {fo : Operand} {xs : Array Operand} {ats : Array TypeId} : ∀ x, (x = fo ∨ x ∈ xs.toList) → x ∈ (Go.Op.call ⟨.value fo, xs, ats⟩).operands.toList := by
 intro x hx
 simp only [Go.Op.operands, Call.operands]
 rcases hx with rfl | hx <;> simp_all

theorem call_args {fo : Operand} {xs : Array Operand} {ats : Array TypeId} {l : List R} (h : xs.toList.mapM (refOf m) = some l) (he : ORel m I w ρ e a (Go.Op.call ⟨.value fo, xs, ats⟩).operands.toList) {caps : List V} {cs : Array Value} (hs : cs.size = caps.length)
  (hf : ∀ (j : Nat) (v : V) (x : Value), caps[j]? = some v → cs[j]? = some x → RelV m I w ρ v x) : RelVs m I w ρ (l.map (R.ev e) ++ caps) (xs.map a.eval ++ cs).toList := by
 obtain ⟨h1, h2⟩ := mapM_get h
 have hls : l.length = xs.size := by simpa using h1
 have hlen : (l.map (R.ev e)).length = (xs.map a.eval).size := by simp [h1]
 refine ⟨by simp [hs, h1], fun j v x hv hx => ?_⟩
 rw [Array.toList_append] at hx
 rcases Nat.lt_or_ge j l.length with hj | hj
 ·rw [List.getElem?_append_left (by simpa using hj)] at hv
  rw [List.getElem?_append_left (by simp only [Array.length_toList, Array.size_map]; omega)] at hx
  simp only [List.getElem?_map, Option.map_eq_some_iff] at hv
  obtain ⟨r, hr, rfl⟩ := hv
  simp only [Array.toList_map, List.getElem?_map, Option.map_eq_some_iff] at hx
  obtain ⟨y, hy, rfl⟩ := hx
  exact refOf_rel (h2 j y r hy hr) he (operands_call _ (.inr (List.mem_of_getElem? hy)))
 ·rw [List.getElem?_append_right (by simpa using hj)] at hv
  rw [List.getElem?_append_right (by simp only [Array.length_toList, Array.size_map]; omega)] at hx
  refine hf (j - l.length) v x (by simpa using hv) ?_
  have : (xs.map a.eval).toList.length = l.length := by simp [h1]
  rw [this] at hx
  simpa using hx
end

section
open Go
set_option linter.unusedSimpArgs false
set_option linter.unusedVariables false
variable {P : Program} {w : World} {m : Nat → Option Nat} {I O : Nat → Prop} {ρ : Pl} {H H' Hb : List Blk} {v : V} {e : Env} {a : Act} {call : CallF} {own : Nat → Mode}

structure Parts (call : CallF) (own : Nat → Mode) (g : Nat) (all : List V) (H H' : List Blk) (v : V) (q : Bool) where
 L : List Nat
 FL : List Nat
 ys : List V
 zs : List V
 Hc : List Blk
 Hc' : List Blk
 r : V
 HbN : List Blk
 fr : Bool
 nodup : L.Nodup
 apart : ∀ i, i ∈ FL → i ∉ L
 lt : ∀ i, i ∈ L → i < H.length
 lent : (ys = all) ∨ all.mapM (lend H FL deep) = some ys ∨ ∃ S, typed H FL S all = some ys
 args : ys.mapM (ren (idx L) deep) = some zs
 heap : (L.mapM fun i => (H[i]?).bind (renB (idx L) deep)) = some Hc
 run : call g zs Hc = some (r, Hc')
 len : L.length ≤ Hc'.length
 res : ren (backN L H.length) deep r = some v
 back : Hc'.mapM (renB (backN L H.length) deep) = some HbN
 fr1 : fr = false → hasRs deep r = false ∨ FL = []
 fr2 : fr = false → Hc'.any hasRsB = false
 quiet : q = true → L = [] ∧ fr = false ∧ H' = H ++ HbN
 loud : q = false → H' = putBack (if fr then freeze FL H else H) (L.zip (HbN.take L.length)) ++ HbN.drop L.length

theorem callEv_parts {f : V} {xs : List V} {q : Bool} (h : callEv call own f xs H = some (v, H', q)) : ∃ g caps, f = .fn g caps ∧ Nonempty (Parts call own g (xs ++ caps) H H' v q) := by
 cases f <;> try (cases h; done)
 rename_i g caps
 refine ⟨g, caps, rfl, ?_⟩
 simp only [callEv] at h
 cases hash : (own g).ash with
 | some S =>
  rw [hash] at h
  simp only [callT, Option.bind_eq_some_iff] at h
  generalize hFL : reach H far (xs ++ caps) [] = FL at h
  obtain ⟨ys, h1, ⟨r, Hc'⟩, h2, h3⟩ := h
  simp only [Option.bind_eq_some_iff, Option.map_eq_some_iff] at h3
  obtain ⟨r', h4, Hb, h6, h5⟩ := h3
  have hz := typed_ren (g := idx []) h1
  split at h5
  ·simp only [Prod.mk.injEq] at h5
   obtain ⟨rfl, rfl, rfl⟩ := h5
   exact ⟨⟨[], FL, ys, ys, [], Hc', r, Hb, true, List.nodup_nil, fun _ _ => by simp, fun _ h => by simp at h, .inr (.inr ⟨S, h1⟩), hz, rfl, h2, Nat.zero_le _, h4, h6, fun h => (by cases h), fun h => (by cases h), fun h => (by cases h), fun _ => by simp [putBack]⟩⟩
  ·rename_i hc
   simp only [Prod.mk.injEq] at h5
   obtain ⟨rfl, rfl, rfl⟩ := h5
   simp only [Bool.or_eq_true, Bool.and_eq_true, Bool.not_eq_true', not_or, not_and, Bool.not_eq_true, List.isEmpty_eq_false_iff, ne_eq, Classical.not_not] at hc
   refine ⟨⟨[], FL, ys, ys, [], Hc', r, Hb, false, List.nodup_nil, fun _ _ => by simp, fun _ h => by simp at h, .inr (.inr ⟨S, h1⟩), hz, rfl, h2, Nat.zero_le _, h4, h6, fun _ => ?_, fun _ => hc.2, fun _ => ⟨rfl, rfl, rfl⟩, fun h => (by cases h)⟩⟩
   cases hr : hasRs deep r with
   | false => exact .inl rfl
   | true => exact .inr (by simpa using hc.1 hr)
 | none =>
 rw [hash] at h
 simp only [Option.bind_eq_some_iff] at h
 generalize (if (own g).own = true then xs ++ caps else if (own g).rd = true then [] else (xs ++ caps).filter byId) = kp at h
 generalize hL : reach H far kp [] = L at h
 have hnd : L.Nodup := by rw [← hL]; exact (reach_spec far kp [] List.nodup_nil).1
 generalize hFL : (reach H far (xs ++ caps) []).filter (fun i => !L.contains i) = FL at h
 obtain ⟨zs, ⟨ys, h1, h2⟩, Hc, h3, ⟨r, Hc'⟩, h4, h5⟩ := h
 simp only [] at h5
 split at h5 <;> try (cases h5; done)
 rename_i hlen
 simp only [Option.bind_eq_some_iff, Option.map_eq_some_iff] at h5
 obtain ⟨r', h6, HbN, h7, h8⟩ := h5
 have hlt : ∀ i, i ∈ L → i < H.length := by
  intro i hi
  obtain ⟨k, hk⟩ := List.mem_iff_getElem?.1 hi
  obtain ⟨q1, q2⟩ := mapM_get h3
  have hkl : k < L.length := (List.getElem?_eq_some_iff.1 hk).1
  have := q2 k i Hc[k] hk (List.getElem?_eq_getElem (by omega))
  simp only [Option.bind_eq_some_iff] at this
  obtain ⟨b, hb, _⟩ := this
  exact (List.getElem?_eq_some_iff.1 hb).1
 have hap : ∀ i, i ∈ FL → i ∉ L := by
  intro i hi
  rw [← hFL] at hi
  simp only [List.mem_filter, Bool.not_eq_true', List.contains_eq_mem, decide_eq_false_iff_not] at hi
  exact hi.2
 have hys : ys = xs ++ caps ∨ (xs ++ caps).mapM (lend H FL deep) = some ys ∨ ∃ S, typed H FL S (xs ++ caps) = some ys := by
  split at h1
  ·injection h1 with h1; exact .inl h1.symm
  ·exact .inr (.inl h1)
 split at h8
 ·rename_i hc
  simp only [Prod.mk.injEq] at h8
  obtain ⟨rfl, rfl, rfl⟩ := h8
  simp only [Bool.and_eq_true, Bool.not_eq_true', Bool.or_eq_false_iff, List.isEmpty_iff] at hc
  exact ⟨⟨L, FL, ys, zs, Hc, Hc', r, HbN, false, hnd, hap, hlt, hys, h2, h3, h4, by omega, h6, h7, fun _ => .inl hc.2.1, fun _ => hc.2.2, fun _ => ⟨hc.1, rfl, rfl⟩, fun h => (by cases h)⟩⟩
 ·simp only [Prod.mk.injEq] at h8
  obtain ⟨rfl, rfl, rfl⟩ := h8
  refine ⟨⟨L, FL, ys, zs, Hc, Hc', r, HbN, hasRs deep r || Hc'.any hasRsB, hnd, hap, hlt, hys, h2, h3, h4, by omega, h6, h7, fun h => ?_, fun h => ?_, fun h => (by cases h), fun _ => rfl⟩⟩
  ·simp only [Bool.or_eq_false_iff] at h; exact .inl h.1
  ·simp only [Bool.or_eq_false_iff] at h; exact h.2

theorem Parts.after {g f : Nat} {all : List V} {q : Bool} (p : Parts call own g all H H' v q) (hcall : CallSnd P m call) (hm : m f = some g) (hp : ∀ (i : Nat) (b : Blk), H[i]? = some b → Hb[i]? = some b) (hH : HRel m I O w ρ Hb) {xs : Array Value} (hx : RelVs m I w ρ all xs.toList) :
  CallRuns P f xs w (fun e w' => ∃ x I' O' ρ', e = .returned x ∧ RelV m I' w' ρ' p.r x ∧ After p.L I O w ρ H Hb p.Hc p.FL m I' O' w' ρ' p.Hc') := by
 obtain ⟨k1, k2⟩ := call_heap hp hH p.apart p.nodup p.heap
 have hy : RelVs m (lentI I ρ H p.FL) w ρ p.ys xs.toList := by
  rcases p.lent with h | h | ⟨S, h⟩
  ·rw [h]; exact ⟨hx.1, fun j v x hv hx' => (hx.2 j v x hv hx').toI (fun _ h => .inl h)⟩
  ·exact hx.mapM_lend hp hH h
  ·exact typed_rel hp hH h hx
 have hz : RelVs m (lentI I ρ H p.FL) w (plL p.L ρ) p.zs xs.toList := hy.mapM_ren (fun b b' r h hr => plL_idx b b' r h hr) p.args
 have c1 := hcall f g p.zs p.Hc p.Hc' p.r hm p.run _ _ w _ xs hz k1
 refine CallRuns.mono c1 (fun e w' he => ?_)
 obtain ⟨x, I', O', ρ', h1, h2, h3, h4⟩ := he
 rw [k2] at h4
 exact ⟨x, I', O', ρ', h1, h2, h3, h4⟩

theorem Parts.live {g : Nat} {all : List V} {q : Bool} (p : Parts call own g all H H' v q) (hp : ∀ (i : Nat) (b : Blk), H[i]? = some b → Hb[i]? = some b) : ∀ j, live p.Hc j → ∃ i, p.L[j]? = some i ∧ live Hb i := by
 intro j ⟨b, hb, hd⟩
 obtain ⟨i, h1, h2⟩ := mapM_get' p.heap hb
 simp only [Option.bind_eq_some_iff] at h2
 obtain ⟨b0, h3, h4⟩ := h2
 exact ⟨i, h1, b0, hp _ _ h3, fun e => hd ((renB_dead h4).2 e)⟩

theorem call_op {o : Oper} {oc : EOp} (hn : notCall o.op = false) (hc : compO P m o.op = some oc) : ∃ dst fo xs ats ty pos af gu g l, o = ⟨dst, .call ⟨.value fo, xs, ats⟩, ty, pos, af, gu⟩ ∧ oc = .call g l ∧ refOf m fo = some g ∧ xs.toList.mapM (refOf m) = some l := by
 obtain ⟨dst, op, ty, pos, af, gu⟩ := o
 simp only [] at hn hc
 cases op <;> simp only [notCall] at hn <;> try (cases hn; done)
 rename_i c
 obtain ⟨callee, xs, ats⟩ := c
 cases callee <;> simp only [] at hn <;> try (cases hn; done)
 rename_i fo
 simp only [compO, Option.bind_eq_some_iff, Option.map_eq_some_iff] at hc
 obtain ⟨g, h1, l, h2, rfl⟩ := hc
 exact ⟨dst, fo, xs, ats, ty, pos, af, gu, g, l, rfl, rfl, h1, h2⟩
theorem notCall_op {o : Oper} {oc : EOp} (hn : notCall o.op = true) (hc : compO P m o.op = some oc) : ∀ g l, oc ≠ .call g l := by
 intro g l e
 subst e
 obtain ⟨dst, op, ty, pos, af, gu⟩ := o
 simp only [] at hn hc
 cases op
 case binOp op t x y yt =>
  simp only [compO, Option.bind_eq_some_iff] at hc
  obtain ⟨_, _, _, _, hc⟩ := hc
  split at hc
  ·simp only [Option.bind_eq_some_iff] at hc
   obtain ⟨d, _, hc⟩ := hc
   split at hc
   ·cases hc
   ·cases hc
   ·split at hc
    ·cases hc
    ·split at hc
     ·cases hc
     ·simp [Option.map_eq_some_iff] at hc
  ·cases hc
 case call c =>
  obtain ⟨callee, xs, ats⟩ := c
  cases callee
  ·simp [notCall] at hn
  ·cases hc
  ·simp only [compO, compBuiltin] at hc
   (repeat' split at hc) <;> (try simp only [Option.bind_eq_some_iff, Option.map_eq_some_iff] at hc) <;> (try (cases hc; done)) <;> grind [Option.map_eq_some_iff]
 all_goals simp only [compO, compBuiltin] at hc <;> (repeat' split at hc) <;> (try simp only [Option.bind_eq_some_iff, Option.map_eq_some_iff] at hc) <;> (try (cases hc; done)) <;> (try (simp [notCall] at hn; done)) <;> grind [Option.map_eq_some_iff]

/-- zeros appended: what is appended, and to what -/
theorem apz_parts {o : Oper} {sz bytes : Nat} {z : C} {rx rn : R} (hnc : notCall o.op = true) (hc : compO P m o.op = some (.apz sz bytes z rx rn)) :
  ∃ dst t u x y ty pos af gu el kk z', o = ⟨dst, .call ⟨.builtin .append, #[x, y], #[t, u]⟩, ty, pos, af, gu⟩ ∧ P.underlying t = some (.slice el) ∧ P.underlying u = some (.int kk) ∧ zOf P el = some z' ∧ refOf m x = some rx ∧ refOf m y = some rn ∧ sz = z'.1.size ∧ bytes = z'.1.bytes ∧ z = z'.2.2 := by
 obtain ⟨dst, op, ty, pos, af, gu⟩ := o
 simp only [] at hnc hc
 cases op
 case call c =>
  obtain ⟨callee, xs, ts⟩ := c
  cases callee
  ·simp [notCall] at hnc
  ·cases hc
  ·rename_i b
   simp only [compO] at hc
   unfold compBuiltin at hc
   split at hc <;> try (cases hc; done)
   ·(repeat' split at hc) <;> (try simp only [Option.map_eq_some_iff] at hc) <;> (try (cases hc; done)) <;> grind
   ·(repeat' split at hc) <;> (try simp only [Option.map_eq_some_iff] at hc) <;> (try (cases hc; done)) <;> grind
   ·simp only [Option.map_eq_some_iff] at hc; grind
   ·simp only [Option.map_eq_some_iff] at hc; grind
   ·rename_i t u x y hts hxs
    have ets : ts = #[t, u] := by apply Array.ext'; simpa using hts
    have exs : xs = #[x, y] := by apply Array.ext'; simpa using hxs
    subst ets; subst exs
    split at hc <;> try (cases hc; done)
    rename_i el d hd hu
    split at hc
    ·rename_i hi
     simp only [Option.bind_eq_some_iff, Option.map_eq_some_iff] at hc
     obtain ⟨z', hz, a, h1, b, h2, h3⟩ := hc
     injection h3 with e1 e2 e3 e4 e5
     subst e1 e2 e3 e4 e5
     cases d <;> first | (exfalso; simp [isIntD] at hi; done) | skip
     rename_i kk
     exact ⟨dst, t, u, x, y, ty, pos, af, gu, el, kk, z', rfl, hd, hu, hz, h1, h2, rfl, rfl, rfl⟩
    ·simp only [Option.bind_eq_some_iff, Option.map_eq_some_iff] at hc
     obtain ⟨_, _, _, _, _, _, h3⟩ := hc
     cases h3
   ·split at hc <;> try (cases hc; done)
    simp only [Option.bind_eq_some_iff, Option.map_eq_some_iff] at hc
    obtain ⟨_, _, _, _, _, _, h3⟩ := hc
    cases h3
   ·split at hc <;> try (cases hc; done)
    simp only [Option.bind_eq_some_iff, Option.map_eq_some_iff] at hc
    obtain ⟨_, _, _, _, h3⟩ := hc
    cases h3
 all_goals simp only [compO] at hc <;> (repeat' split at hc) <;> (try simp only [Option.bind_eq_some_iff, Option.map_eq_some_iff] at hc) <;> (try (cases hc; done)) <;> (try (simp [notCall] at hnc; done)) <;> grind [Option.map_eq_some_iff]
/-- of zeros appended: the model's append, and the cells -/
theorem apz_of {t u ty el : TypeId} {kk : IntKind} {z' : TypeInfo × Value × C} {q : V} {y : Value} {e : Env} {p : V} {r : V × List Blk × Bool} (hd : P.underlying t = some (.slice el)) (hu : P.underlying u = some (.int kk)) (hz : zOf P el = some z') (hy : RelV m I w ρ q y)
  (h : apzN z'.1.size z'.1.bytes z'.2.2 p q e H = some r) : ∃ (k : Nat) (ys : List Value), AppOf P t u ty el z'.1 z'.2.1 w y k ys ∧ ys.length = k * z'.1.size ∧
   (((p = .nils ∨ p = .ez) ∧ r = (.sl H.length 0 k none z'.1.size, H ++ [.cells false (z'.2.2.sub 0 0)], true) ∧ k * z'.1.bytes ≤ 2 ^ 40 ∧ k ≤ 2 ^ 40) ∨
    (∃ d, d.len = k * z'.1.size ∧ CRel m I w ρ d ys ∧ evN (.app z'.1.size z'.1.bytes (.c p) (.c (.rs k d))) e H = some r)) := by
 obtain ⟨z1, z2, z3, z4⟩ := zOf_spec hz
 unfold apzN at h
 split at h <;> try (cases h; done)
 rename_i k' kv
 cases hy
 split at h <;> try (cases h; done)
 rename_i hb
 obtain ⟨h0, hb1, hb2⟩ := hb
 have hlen : (List.replicate kv.toNat z'.2.1.cells.toList).flatten.length = kv.toNat * z'.1.size := by simp [List.length_flatten, z4]
 have hkb : kv.toNat * z'.1.bytes ≤ 2 ^ 40 := by
  have : ((kv.toNat * z'.1.bytes : Nat) : Int) = kv * z'.1.bytes := by simp [Int.toNat_of_nonneg h0]
  omega
 refine ⟨kv.toNat, (List.replicate kv.toNat z'.2.1.cells.toList).flatten, appOf_zero hd hu z1 z2 z4 h0 hb1 hb2, hlen, ?_⟩
 split at h
 ·exact .inl ⟨.inl rfl, (Option.some.inj h).symm, hkb, by omega⟩
 ·exact .inl ⟨.inr rfl, (Option.some.inj h).symm, hkb, by omega⟩
 ·simp only [Option.bind_eq_some_iff] at h
  obtain ⟨d, h1, h2⟩ := h
  have hrel := C.rep_rel (m := m) (I := I) (w := w) (ρ := ρ) h1 (contentOf_rel z3)
  exact .inr ⟨d, by rw [← hrel.1, hlen], hrel, h2⟩
theorem sub0_len (c : C) : (c.sub 0 0).len = 0 := by cases c <;> simp [C.sub, C.len]
theorem sub0_rel (c : C) : CRel m I w ρ (c.sub 0 0) [] :=
 ⟨by rw [sub0_len]; rfl, fun j v hv => (by have := C.get_lt hv; rw [sub0_len] at this; omega), fun j v x hv => (by have := C.get_lt hv; rw [sub0_len] at this; omega)⟩
/-- to nothing -/
theorem sound_apz0 {p : V} {x y : Value} {t u ty el : TypeId} {i : TypeInfo} {zv : Value} {k : Nat} {ys : List Value} {c : C} (hA : AppOf P t u ty el i zv w y k ys) (hzs : zv.cells.size = i.size) (hl : ys.length = k * i.size) (hH : HRel m I O w ρ Hb) (hx : RelV m I w ρ p x) (hp : p = .nils ∨ p = .ez)
  (hb1 : k * i.bytes ≤ 2 ^ 40) (hb2 : k ≤ 2 ^ 40) {lo : Nat} (hb : Hb[lo]? = some (.cells false (c.sub 0 0))) (hn : ρ lo = none) :
  QPost m P (Builtin.append_ #[t, u] ty #[x, y]) lo 1 Hb I O w ρ (.sl lo 0 k none i.size) := by
 have key : ∀ A, x = .slice A 0 0 → QPost m P (Builtin.append_ #[t, u] ty #[x, y]) lo 1 Hb I O w ρ (.sl lo 0 k none i.size) := by
  intro A hxA
  subst hxA
  by_cases hk : k = 0
  ·subst hk
   have hyn : ys = [] := List.length_eq_zero_iff.1 (by rw [hl]; simp)
   exact ⟨.slice A 0 0, w, I, O, ρ, hA.inn A 0 0 w (Nat.le_refl _) (fun r o _ => by rw [hyn]; rfl) (.inr (.inr ⟨hyn, rfl⟩)), .sl0 _ _ _ _ _ _ (fun c e => by cases e), hH, .refl _ _ _ _ _ _⟩
  ·obtain ⟨nc, cs, w', g1, g2, g3, g4, g5, g6, g7, g8⟩ := hA.new A 0 0 [] (fun w2 h2 => run_firstCells (w := w2) (by simp) (.inl rfl)) (by omega) (by simpa using hb1) (by omega)
   rw [Nat.zero_add] at g8
   refine QPost.new (xs := []) (c := c.sub 0 0) hH g4 g5 g6 g7 hb hn (sub0_rel c) (fun j z hz => by simp at hz) g8 (fun ρ' h1 h2 => ?_)
   refine .sl1 _ _ _ _ _ _ w.heap.size nc cs.size h1 (by omega) (fun c e => by cases e) h2 ?_
   rw [g2, hzs, hl]
   simp only [List.length_nil, Nat.zero_add]
   rw [← Nat.add_mul]
   have : k + (nc - k) = nc := by omega
   rw [this]
   exact Nat.le_refl _
 rcases hp with rfl | rfl
 ·cases hx; exact key _ rfl
 ·cases hx; exact key _ rfl
theorem exec_append {dst : Option Tmp} {t u ty : TypeId} {x y : Operand} {pos : String} {af : Array Edge} {gu : Option (Nat × Bool)} :
  (execOp a.eval ⟨dst, .call ⟨.builtin .append, #[x, y], #[t, u]⟩, ty, pos, af, gu⟩).run P w = ((do pure (Next.value (← Builtin.append_ #[t, u] ty #[a.eval x, a.eval y])) : Sem Next)).run P w := by
 have em : (#[x, y] : Array Operand).map a.eval = #[a.eval x, a.eval y] := by simp
 have hrun : (execOp a.eval ⟨dst, .call ⟨.builtin .append, #[x, y], #[t, u]⟩, ty, pos, af, gu⟩).run P w = (builtin .append #[t, u] ty ((#[x, y] : Array Operand).map fun | .const _ => true | _ => false) ((#[x, y] : Array Operand).map a.eval)).run P w := by
  simp only [execOp, resolve, Sem.run_bind, Sem.run_pure, Result.andThen_ok, invoke]
  rfl
 rw [hrun, em]
 rfl
theorem app_news {sz bytes : Nat} {rx ry : R} {news : List Blk} (h : evQ (.app sz bytes rx ry) e H = some (v, news)) : news.length = 1 := by
 simp only [evQ, Option.bind_eq_some_iff] at h
 obtain ⟨_, _, h⟩ := h
 try simp only [] at h
 split at h <;> try (cases h; done)
 all_goals
  split at h <;> try (cases h; done)
  simp only [Option.bind_eq_some_iff, Option.map_eq_some_iff, Option.some.injEq, Prod.mk.injEq] at h
  first
   | (obtain ⟨_, h⟩ := h; rw [← h]; rfl)
   | (obtain ⟨_, _, _, _, _, h⟩ := h; rw [← h]; rfl)
theorem evN_true {oc : EOp} (h : evN oc e H = some (v, H', true)) : ∃ news, evQ oc e H = some (v, news) ∧ H' = H ++ news := by
 unfold evN at h
 cases hq : evQ oc e H with
 | none => rw [hq] at h; simp at h
 | some r =>
  obtain ⟨v1, n1⟩ := r
  rw [hq] at h
  simp only [Option.some.injEq, Prod.mk.injEq, and_true] at h
  obtain ⟨rfl, rfl⟩ := h
  exact ⟨n1, rfl, rfl⟩
theorem evN_false {oc : EOp} (h : evN oc e H = some (v, H', false)) : evE oc e H = some (v, H') := by
 unfold evN at h
 cases hq : evQ oc e H with
 | some r => rw [hq] at h; simp at h
 | none =>
  rw [hq] at h
  simp only [Option.map_eq_some_iff, Prod.mk.injEq, and_true] at h
  obtain ⟨⟨v1, H1⟩, h1, rfl, rfl⟩ := h
  exact h1
theorem apz_notCall {o : Oper} {sz bytes : Nat} {z : C} {rx rn : R} (hc : compO P m o.op = some (.apz sz bytes z rx rn)) : notCall o.op = true := by
 cases hnn : notCall o.op with
 | true => rfl
 | false =>
  obtain ⟨_, _, _, _, _, _, _, _, _, _, _, e, _⟩ := call_op hnn hc
  cases e
theorem apz_quiet {o : Oper} {sz bytes : Nat} {z : C} {rx rn : R} (hc : compO P m o.op = some (.apz sz bytes z rx rn)) (he : ORel m I w ρ e a o.op.operands.toList) (hH : HRel m I O w ρ Hb)
  (h : apzN sz bytes z (rx.ev e) (rn.ev e) e H = some (v, H', true)) (hp : ∀ (i : Nat) (b : Blk), H'[i]? = some b → Hb[i]? = some b) (hn : ∀ i, H.length ≤ i → i < H'.length → ρ i = none) :
  Goes P o a w (fun x w' => ∃ I' O' ρ', RelV m I' w' ρ' v x ∧ HRel m I' O' w' ρ' Hb ∧ Grow H.length H'.length I O w ρ I' O' w' ρ') := by
 obtain ⟨dst, t, u, x, y, ty, pos, af, gu, el, kk, z', rfl, hd, hu, hzz, h1, h2, rfl, rfl, rfl⟩ := apz_parts (apz_notCall hc) hc
 have he' : ORel m I w ρ e a (#[x, y] : Array Operand).toList := fun t ht => he t (by simpa [Op.operands, Call.operands] using ht)
 have hx := refOf_rel h1 he' (by simp)
 have hy := refOf_rel h2 he' (by simp)
 obtain ⟨z1, z2, z3, z4⟩ := zOf_spec hzz
 obtain ⟨k, ys, hA, hl, hcase⟩ := apz_of (ty := ty) hd hu hzz hy h
 have fin : ∀ n, H'.length = H.length + n → QPost m P (Builtin.append_ #[t, u] ty #[a.eval x, a.eval y]) H.length n Hb I O w ρ v → Goes P ⟨dst, .call ⟨.builtin .append, #[x, y], #[t, u]⟩, ty, pos, af, gu⟩ a w (fun x w' => ∃ I' O' ρ', RelV m I' w' ρ' v x ∧ HRel m I' O' w' ρ' Hb ∧ Grow H.length H'.length I O w ρ I' O' w' ρ') := by
  intro n hlen hq
  obtain ⟨z, w', I', O', ρ', q1, q2, q3, q4⟩ := hq.out
  exact goes_value (by rw [exec_append]; exact q1) ⟨I', O', ρ', q2, q3, by rw [hlen]; exact q4⟩
 rcases hcase with ⟨hp0, hr, hb1, hb2⟩ | ⟨d, hdl, hdr, hev⟩
 ·simp only [Prod.mk.injEq, and_true] at hr
  obtain ⟨rfl, rfl⟩ := hr
  refine fin 1 (by simp) (sound_apz0 (c := z'.2.2) hA z4 hl hH hx hp0 hb1 hb2 (hp _ _ (by rw [List.getElem?_append_right (Nat.le_refl _)]; simp)) (hn _ (Nat.le_refl _) (by simp)))
 ·obtain ⟨news, hq, rfl⟩ := evN_true hev
  have hnl := app_news hq
  have hp0 : ∀ (i : Nat) (b : Blk), H[i]? = some b → Hb[i]? = some b := fun i b hb => hp i b (by rw [List.getElem?_append_left (List.getElem?_eq_some_iff.1 hb).1]; exact hb)
  refine fin news.length (by simp) (sound_appG (q := .rs k d) hA z4 hp0 hH hx (by simp only [src]; rw [if_pos hdl]) hdl hdr hq (fun j b hb => hp _ b (by rw [List.getElem?_append_right (by omega)]; simpa using hb)) (hn _ (Nat.le_refl _) (by simp; omega)))
/-- a quiet operation, in whatever order -/
theorem op_quiet {o : Oper} {oc : EOp} (hcall : CallSnd P m call) (hc : compO P m o.op = some oc) (he : ORel m I w ρ e a o.op.operands.toList) (hH : HRel m I O w ρ Hb)
  (h : evOp call own oc e H = some (v, H', true)) (hp : ∀ (i : Nat) (b : Blk), H'[i]? = some b → Hb[i]? = some b) (hn : ∀ i, H.length ≤ i → i < H'.length → ρ i = none) :
  Goes P o a w (fun x w' => ∃ I' O' ρ', RelV m I' w' ρ' v x ∧ HRel m I' O' w' ρ' Hb ∧ Grow H.length H'.length I O w ρ I' O' w' ρ') := by
 by_cases hz : ∃ sz bytes z rx rn, oc = .apz sz bytes z rx rn
 ·obtain ⟨sz, bytes, z, rx, rn, rfl⟩ := hz
  exact apz_quiet hc he hH h hp hn
 by_cases hnc : notCall o.op = true
 ·have hncc := notCall_op hnc hc
  have hq : ∃ news, evQ oc e H = some (v, news) ∧ H' = H ++ news := by
   have h' : (match evQ oc e H with | some (v, news) => some (v, H ++ news, true) | none => (evE oc e H).map fun (v, H) => (v, H, false)) = some (v, H', true) := by
    cases oc <;> first | exact h | exact absurd rfl (hncc _ _) | exact absurd ⟨_, _, _, _, _, rfl⟩ hz
   cases hq : evQ oc e H with
   | none => rw [hq] at h'; simp at h'
   | some r =>
    obtain ⟨v1, n1⟩ := r
    rw [hq] at h'
    simp only [Option.some.injEq, Prod.mk.injEq, and_true] at h'
    obtain ⟨rfl, rfl⟩ := h'
    exact ⟨n1, rfl, rfl⟩
  obtain ⟨news, h1, rfl⟩ := hq
  have hq := quiet_op hnc hc he (fun i b hb => hp i b (by rw [List.getElem?_append_left (List.getElem?_eq_some_iff.1 hb).1]; exact hb)) hH h1
   (fun j b hb => hp _ b (by rw [List.getElem?_append_right (by omega)]; simpa using hb)) (fun j hj => hn _ (by omega) (by simp; omega))
  obtain ⟨z, w', I', O', ρ', q1, q2, q3, q4⟩ := hq
  exact goes_value q1 ⟨I', O', ρ', q2, q3, by rw [List.length_append]; exact q4⟩
 ·obtain ⟨dst, fo, xs, ats, ty, pos, af, gu, g, l, rfl, rfl, h1, h2⟩ := call_op (by simpa using hnc) hc
  have hc' : callEv call own (g.ev e) (l.map (R.ev e)) H = some (v, H', true) := h
  obtain ⟨gf, caps, hfv, ⟨p⟩⟩ := callEv_parts hc'
  have hfo := refOf_rel h1 he (operands_call fo (.inl rfl))
  rw [hfv] at hfo
  generalize hF : a.eval fo = F at hfo
  cases hfo with
  | fn _ _ f _ cs hm hs hf =>
   have hp0 : ∀ (i : Nat) (b : Blk), H[i]? = some b → Hb[i]? = some b := fun i b hb => hp i b (by
    obtain ⟨_, _, e⟩ := p.quiet rfl
    rw [e, List.getElem?_append_left (List.getElem?_eq_some_iff.1 hb).1]; exact hb)
   have k1 := p.after hcall hm hp0 hH (call_args h2 he hs hf)
   refine goes_call hF (CallRuns.mono k1 (fun e w' he => ?_))
   obtain ⟨x, I', O', ρ', rfl, r1, r2⟩ := he
   refine ⟨x, rfl, ?_⟩
   have hlive := p.live hp0
   obtain ⟨L, FL, ys, zs, Hc, Hc', r, HbN, fr, nodup, apart, lt, lent, args, heap, run, len, res, back, fr1, fr2, quiet, loud⟩ := p
   simp only [] at r1 r2 hp hn hlive
   obtain ⟨hL, hfr, hH'⟩ := quiet rfl
   subst hL hfr hH'
   have hHc : Hc = [] := by simpa using heap.symm
   have hq := r2.quiet hp0 hH (fr2 rfl) back hHc (fun j b hb => hp _ b (by rw [List.getElem?_append_right (by omega)]; simpa using hb)) (fun j hj => hn _ (by omega) (by simp; omega))
   have hl := (mapM_get back).1
   exact ⟨_, _, _, r2.val rfl (n := HbN.length) (by simp [hl]) (by simp) fr1 res r1, hq.1, by rw [List.length_append]; exact hq.2⟩
end

section
open Go
set_option linter.unusedSimpArgs false
set_option linter.unusedVariables false
variable {P : Program} {w : World} {m : Nat → Option Nat} {I O : Nat → Prop} {ρ : Pl} {H H' Hb : List Blk} {v : V} {e : Env} {a : Act} {call : CallF} {own : Nat → Mode}

theorem evOp_prefix {oc : EOp} (h : evOp call own oc e H = some (v, H', true)) : ∃ news, H' = H ++ news := by
 cases oc
 case call f xs =>
  have h' : callEv call own (f.ev e) (xs.map (R.ev e)) H = some (v, H', true) := h
  obtain ⟨_, _, _, ⟨p⟩⟩ := callEv_parts h'
  exact ⟨_, (p.quiet rfl).2.2⟩
 case apz sz bytes z rx rn =>
  have h' : apzN sz bytes z (rx.ev e) (rn.ev e) e H = some (v, H', true) := h
  unfold apzN at h'
  split at h' <;> try (cases h'; done)
  split at h' <;> try (cases h'; done)
  split at h'
  ·simp only [Option.some.injEq, Prod.mk.injEq, and_true] at h'
   exact ⟨_, h'.2.symm⟩
  ·simp only [Option.some.injEq, Prod.mk.injEq, and_true] at h'
   exact ⟨_, h'.2.symm⟩
  ·simp only [Option.bind_eq_some_iff] at h'
   obtain ⟨d, _, h'⟩ := h'
   obtain ⟨news, _, h3⟩ := evN_true h'
   exact ⟨news, h3⟩
 all_goals (
  simp only [evOp] at h
  split at h
  ·simp only [Option.some.injEq, Prod.mk.injEq, and_true] at h
   exact ⟨_, h.2.symm⟩
  ·simp at h)

theorem Alive.refl (H : List Blk) : Alive H H := ⟨Nat.le_refl _, fun _ _ h => h⟩
theorem Alive.trans {H1 H2 H3 : List Blk} (h : Alive H1 H2) (h' : Alive H2 H3) : Alive H1 H3 :=
 ⟨Nat.le_trans h.1 h'.1, fun j hj hl => h.2 j hj (h'.2 j (Nat.lt_of_lt_of_le hj h.1) hl)⟩
theorem alive_append (H n : List Blk) : Alive H (H ++ n) :=
 ⟨by simp, fun j hj ⟨b, hb, hd⟩ => ⟨b, by rwa [List.getElem?_append_left hj] at hb, hd⟩⟩
theorem alive_set {b : Nat} {bl bl' : Blk} (hb : H[b]? = some bl) (hd : bl ≠ .dead) : Alive H (H.set b bl') :=
 ⟨by simp, fun j hj hl => live_set hl ⟨bl, hb, hd⟩⟩

theorem evE_alive {oc : EOp} (h : evE oc e H = some (v, H')) : Alive H H' := by
 cases oc <;> simp only [evE] at h <;> try (cases h; done)
 case stc n x y =>
  split at h <;> try (cases h; done)
  split at h <;> try (cases h; done)
  rename_i hb
  simp only [Option.bind_eq_some_iff] at h
  obtain ⟨d, _, h⟩ := h
  split at h <;> try (cases h; done)
  simp only [Option.map_eq_some_iff, Prod.mk.injEq] at h
  obtain ⟨_, _, _, rfl⟩ := h
  exact alive_set hb (by simp)
 case app sz bytes x y =>
  simp only [Option.bind_eq_some_iff] at h
  obtain ⟨⟨n, d⟩, _, h⟩ := h
  simp only [] at h
  split at h <;> try (cases h; done)
  ·split at h <;> try (cases h; done)
   rename_i hb
   split at h <;> try (cases h; done)
   simp only [Option.map_eq_some_iff, Prod.mk.injEq] at h
   obtain ⟨_, _, _, rfl⟩ := h
   exact (alive_set hb (by simp)).trans (alive_append _ _)
  ·split at h <;> try (cases h; done)
   rename_i hb
   split at h <;> try (cases h; done)
   simp only [Option.map_eq_some_iff, Prod.mk.injEq] at h
   obtain ⟨_, _, _, rfl⟩ := h
   exact alive_set hb (by simp)
 case cvs x =>
  split at h <;> try (cases h; done)
  split at h <;> try (cases h; done)
  rename_i hb
  split at h <;> try (cases h; done)
  simp only [Option.some.injEq, Prod.mk.injEq] at h
  obtain ⟨_, rfl⟩ := h
  exact alive_set hb (by simp)
 case cpy sz x y =>
  simp only [Option.bind_eq_some_iff] at h
  obtain ⟨⟨n, d⟩, _, h⟩ := h
  simp only [] at h
  split at h <;> try (cases h; done)
  split at h <;> try (cases h; done)
  rename_i hb
  split at h <;> try (cases h; done)
  simp only [Option.map_eq_some_iff, Prod.mk.injEq] at h
  obtain ⟨_, _, _, rfl⟩ := h
  exact alive_set hb (by simp)
 case clr sz z x =>
  split at h <;> try (cases h; done)
  split at h <;> try (cases h; done)
  rename_i hb
  split at h <;> try (cases h; done)
  simp only [Option.bind_eq_some_iff] at h
  obtain ⟨d, _, h⟩ := h
  simp only [Option.map_eq_some_iff, Prod.mk.injEq] at h
  obtain ⟨_, _, _, rfl⟩ := h
  exact alive_set hb (by simp)
 case nxt x =>
  split at h <;> try (cases h; done)
  split at h <;> try (cases h; done)
  rename_i hb
  split at h <;> try (cases h; done)
  split at h
  ·simp only [Option.some.injEq, Prod.mk.injEq] at h
   obtain ⟨_, rfl⟩ := h
   exact alive_set hb (by simp)
  ·simp only [Option.some.injEq, Prod.mk.injEq] at h
   obtain ⟨_, rfl⟩ := h
   exact .refl _

theorem HRel.grow (hH : HRel m I O w ρ H) (hp : ∀ (i : Nat) (b : Blk), H[i]? = some b → Hb[i]? = some b) : HRel m I O w ρ Hb := by
 have back : ∀ i r, ρ i = some r → live Hb i → live H i := fun i r hr ⟨b, hb, hd⟩ => by
  obtain ⟨b', hb', _⟩ := hH.blk i r hr
  have := hp i b' hb'
  rw [hb] at this; injection this with this; subst this
  exact ⟨b, hb', hd⟩
 exact ⟨fun i j r hi hj li lj => hH.inj i j r hi hj (back i r hi li) (back j r hj lj), fun i r hi => by obtain ⟨b, hb, hB⟩ := hH.blk i r hi; exact ⟨b, hp i b hb, hB⟩, hH.lt, hH.own, hH.imm, hH.dis, hH.tab⟩

/-- what an operation leaves -/
def Left (m : Nat → Option Nat) (I O : Nat → Prop) (w : World) (ρ : Pl) (H H' : List Blk) (v : V) (x : Value) (w' : World) : Prop :=
 ∃ I' O' ρ', RelV m I' w' ρ' v x ∧ HRel m I' O' w' ρ' H' ∧ GS H.length I O w ρ I' O' w' ρ' ∧ Alive H H'

/-- a slice turned to its own kind -/
theorem sound_cvs {s : TypeId} {el el' : TypeId} {p : V} {x : Value} (hs : P.underlying s = some (.slice el)) (hel : P.underlying el = some (.int .u8)) (hH : HRel m I O w ρ H) (hx : RelV m I w ρ p x) (h : evE (.cvs (.c p)) [] H = some (v, H')) :
  ∃ z w', (convert s s x).run P w = .ok z w' ∧ Left m I O w ρ H H' v z w' := by
 have hal := evE_alive h
 simp only [evE, R.ev] at h
 split at h <;> try (cases h; done)
 rename_i b off len cap sz
 split at h <;> try (cases h; done)
 rename_i k l hb
 split at h <;> try (cases h; done)
 rename_i hc
 obtain ⟨h0, rfl, rfl, hle⟩ := hc
 simp only [Option.some.injEq, Prod.mk.injEq] at h
 obtain ⟨rfl, rfl⟩ := h
 cases hx with
 | sl0 => omega
 | sl1 _ _ _ _ _ _ r rc n h1 h2 h3 h4 h5 =>
 have hB := hH.at hb h1
 obtain ⟨cs, e, fr, q1, q2, q3, q4, q5, q6, q7⟩ := hB
 have hO : O r := q6 rfl
 have hrl := hH.lt b r h1
 have hrun : (convert s s (.slice (some ⟨r, off, none⟩) len rc)).run P w = .ok (.slice (some ⟨r, off, none⟩) len rc) (w.freeze ⟨r, cs.size, none⟩ 1) := by
  have hsh : (shape r).run P w = .ok (some (e, cs.size)) w := by
   show (Result.ok (w.shape? r) w : Result _) = _
   simp [World.shape?, q1]
  simp [convert, run_und hs, run_und hel, markStringish, hsh, pure, Sem.run_bind, Sem.run]
 have hw : ∀ k, k ≠ r → (w.freeze ⟨r, cs.size, none⟩ 1).heap[k]? = w.heap[k]? := fun k hk => by
  simp only [World.freeze, show ¬ (1 = 0) by omega, if_false, Array.getElem?_modify]
  rw [if_neg (fun e => hk e.symm)]
 have hwr : ∃ fr', (w.freeze ⟨r, cs.size, none⟩ 1).heap[r]? = some (.cells cs e fr') := by
  simp only [World.freeze, show ¬ (1 = 0) by omega, if_false, Array.getElem?_modify, if_true, q1, Option.map_some]
  exact ⟨_, rfl⟩
 obtain ⟨fr', hwr⟩ := hwr
 have hsize : (w.freeze ⟨r, cs.size, none⟩ 1).heap.size = w.heap.size := by
  simp only [World.freeze, show ¬ (1 = 0) by omega, if_false, Array.size_modify]
 have hos : (w.freeze ⟨r, cs.size, none⟩ 1).os = w.os ∧ (w.freeze ⟨r, cs.size, none⟩ 1).tape = w.tape ∧ (w.freeze ⟨r, cs.size, none⟩ 1).output = w.output := by
  unfold World.freeze
  rw [if_neg (by omega)]
  exact ⟨rfl, rfl, rfl⟩
 generalize w.freeze ⟨r, cs.size, none⟩ 1 = w' at *
 have hcells : ∀ k n, sizeOf? w k = some n → sizeOf? w' k = some n := fun k n hk => by
  by_cases e1 : k = r
  ·subst e1
   simp only [sizeOf?, q1] at hk
   simp only [sizeOf?, hwr]
   exact hk
  ·simp only [sizeOf?, hw k e1]
   exact hk
 have hm : Mono I w ρ (fun k => I k ∨ k = r) w' ρ := ⟨fun k hk => .inl hk, fun _ _ h => h, fun k hk => hw k (fun e1 => hH.dis k hk (e1 ▸ hO)), hcells⟩
 refine ⟨_, w', hrun, (fun k => I k ∨ k = r), (fun k => O k ∧ k ≠ r), ρ, ?_, ?_, ?_, hal⟩
 ·have get : ∀ j v, (flat (.int .u8) ((l.drop off).take len))[j]? = some v → j < len ∧ ∃ n, l[off + j]? = some n ∧ v = .int .u8 n := fun j v hv => by
   rw [← tbC_get] at hv
   simp only [tbC, C.get, Option.map_eq_some_iff] at hv
   obtain ⟨n, hn, rfl⟩ := hv
   rw [List.getElem?_take] at hn
   split at hn
   ·rename_i hj
    rw [List.getElem?_drop] at hn
    exact ⟨hj, n, hn, rfl⟩
   ·cases hn
  have spot : ∀ j n, l[off + j]? = some n → w'.cell? ⟨r, off + j, none⟩ = some (.int .u8 n) := fun j n hn => by
   have hg : (C.ints .u8 l).get (off + j) = some (.int .u8 n) := by simp only [C.get, hn, Option.map_some]
   have hlt : off + j < cs.size := Nat.lt_of_lt_of_le (C.get_lt hg) q3
   have hr := q5 _ _ _ hg (Array.getElem?_eq_getElem hlt)
   simp only [World.cell?, hwr, Option.isSome_none, Bool.false_eq_true, if_false, Array.getElem?_eq_getElem hlt]
   generalize cs[off + j] = y at hr ⊢
   cases hr
   rfl
  refine .mk_tb (fun j => .int .u8 (l.getD (off + j) 0)) (by simp; omega) (by simp; omega) (fun j v hv => ?_) (fun j v hv => ?_) (fun h => by cases h)
  ·obtain ⟨_, n, hn, rfl⟩ := get j v hv
   refine ⟨r, off, rfl, .inr rfl, ?_⟩
   rw [spot j n hn, List.getD_eq_getElem?_getD, hn]; rfl
  ·obtain ⟨_, n, hn, rfl⟩ := get j v hv
   rw [List.getD_eq_getElem?_getD, hn]
   exact .int _ _ _
 ·have livO : ∀ i, live (H.set b .dead) i → i ≠ b ∧ live H i := fun i ⟨u, hu, hd⟩ => by
   rw [List.getElem?_set] at hu
   split at hu
   ·split at hu
    ·injection hu with hu; exact absurd hu.symm hd
    ·cases hu
   ·rename_i hne
    exact ⟨fun e1 => hne e1.symm, u, hu, hd⟩
  refine ⟨fun i j r' hi hj li lj => hH.inj i j r' hi hj (livO i li).2 (livO j lj).2, fun i r' hr => ?_, fun i r' hr => by rw [hsize]; exact hH.lt i r' hr, fun k hk => by rw [hsize]; exact hH.own k hk.1, fun k hk => by rw [hsize]; exact hk.elim (hH.imm k) (fun e1 => e1 ▸ hrl), fun k hk ho => hk.elim (fun hi => hH.dis k hi ho.1) ho.2, hH.tab.step hm.imm hm.block⟩
  obtain ⟨u, hu, hU⟩ := hH.blk i r' hr
  by_cases hib : i = b
  ·subst hib
   exact ⟨.dead, by rw [List.getElem?_set_self (List.getElem?_eq_some_iff.1 hb).1], trivial⟩
  ·refine ⟨u, by rw [List.getElem?_set_ne (fun e1 => hib e1.symm)]; exact hu, ?_⟩
   by_cases hd : u = .dead
   ·subst hd; trivial
   ·have hne : r' ≠ r := fun e1 => hib (hH.inj i b r' hr (by rw [h1, e1]) ⟨u, hu, hd⟩ ⟨_, hb, by simp⟩)
    cases u with
    | dead => trivial
    | iter s' pos => exact ⟨(hw r' hne).trans hU.1, hU.2, hne⟩
    | cells ro c =>
     obtain ⟨cs', e', fr2, k1, k2, k3, k4, k5, k6, k7⟩ := hU
     exact ⟨cs', e', fr2, (hw r' hne).trans k1, k2, k3, k4, fun j v x hv hx => hm.relC (k5 j v x hv hx), fun e1 => ⟨k6 e1, hne⟩, fun e1 => .inl (k7 e1)⟩
 ·exact ⟨hm, ⟨hos.1, hos.2.1, hos.2.2, by rw [hsize]; exact Nat.le_refl _, fun k _ hk => hw k (fun e1 => hk (e1 ▸ hO)), hcells⟩, fun k hk => hk.elim .inl (fun e1 => .inr (.inl (e1 ▸ hO))), fun k hk => .inl hk.1, fun i r' hr => .inl hr⟩

/-- the same, but it stays what it is -/
theorem sound_cvm {s : TypeId} {el : TypeId} {p : V} {x : Value} {news : List Blk} (hs : P.underlying s = some (.slice el)) (hel : P.underlying el = some (.int .u8)) (hp : ∀ (i : Nat) (b : Blk), H[i]? = some b → Hb[i]? = some b) (hH : HRel m I O w ρ Hb) (hx : RelV m I w ρ p x) (h : evQ (.cvm (.c p)) [] H = some (v, news)) :
  news = [] ∧ ∃ z w', (convert s s x).run P w = .ok z w' ∧ RelV m I w' ρ v z ∧ HRel m I O w' ρ Hb ∧ EG Hb.length I O w ρ O w' ρ := by
 simp only [evQ, R.ev] at h
 split at h <;> try (cases h; done)
 rename_i b off len cap sz
 split at h <;> try (cases h; done)
 rename_i k l hb
 split at h <;> try (cases h; done)
 rename_i hc
 obtain ⟨h0, rfl⟩ := hc
 simp only [Option.some.injEq, Prod.mk.injEq] at h
 obtain ⟨rfl, rfl⟩ := h
 refine ⟨rfl, ?_⟩
 cases hx with
 | sl0 => omega
 | sl1 _ _ _ _ _ _ r rc n h1 h2 h3 h4 h5 =>
 have hB := hH.at (hp _ _ hb) h1
 obtain ⟨cs, e, fr, q1, q2, q3, q4, q5, q6, q7⟩ := hB
 have hO : O r := q6 rfl
 have hrun : (convert s s (.slice (some ⟨r, off, none⟩) len rc)).run P w = .ok (.slice (some ⟨r, off, none⟩) len rc) (w.freeze ⟨r, cs.size, none⟩ 1) := by
  have hsh : (shape r).run P w = .ok (some (e, cs.size)) w := by
   show (Result.ok (w.shape? r) w : Result _) = _
   simp [World.shape?, q1]
  simp [convert, run_und hs, run_und hel, markStringish, hsh, pure, Sem.run_bind, Sem.run]
 have hw : ∀ k, k ≠ r → (w.freeze ⟨r, cs.size, none⟩ 1).heap[k]? = w.heap[k]? := fun k hk => by
  simp only [World.freeze, show ¬ (1 = 0) by omega, if_false, Array.getElem?_modify]
  rw [if_neg (fun e => hk e.symm)]
 have hwr : ∃ fr' : Nat × Nat, (w.freeze ⟨r, cs.size, none⟩ 1).heap[r]? = some (.cells cs e fr') ∧ (fr'.1 = fr'.2 ∨ cs.size ≤ fr'.1) := by
  obtain ⟨lo, hi⟩ := fr
  simp only [World.freeze, show ¬ (1 = 0) by omega, if_false, Array.getElem?_modify, if_true, q1, Option.map_some]
  refine ⟨_, rfl, ?_⟩
  simp only [] at q2
  split
  ·exact .inr (Nat.le_refl _)
  ·rename_i hne
   have hne : lo ≠ hi := by simpa using hne
   right
   simp only []
   omega
 obtain ⟨fr', hwr, hfr⟩ := hwr
 have hsize : (w.freeze ⟨r, cs.size, none⟩ 1).heap.size = w.heap.size := by
  simp only [World.freeze, show ¬ (1 = 0) by omega, if_false, Array.size_modify]
 have hos : (w.freeze ⟨r, cs.size, none⟩ 1).os = w.os ∧ (w.freeze ⟨r, cs.size, none⟩ 1).tape = w.tape ∧ (w.freeze ⟨r, cs.size, none⟩ 1).output = w.output := by
  unfold World.freeze
  rw [if_neg (by omega)]
  exact ⟨rfl, rfl, rfl⟩
 generalize w.freeze ⟨r, cs.size, none⟩ 1 = w' at *
 obtain ⟨g1, g2⟩ := write_block (bl' := .cells false (.ints .u8 l)) hH (hp _ _ hb) (by simp) h1 hO hw hsize hos.1 hos.2.1 hos.2.2 (fun n hn => by
   simp only [sizeOf?, q1, Option.some.injEq] at hn
   simp only [sizeOf?, hwr, hn]) (fun hm => ⟨cs, e, fr', hwr, hfr, q3, q4, fun j v x hv hx => hm.relC (q5 j v x hv hx), fun _ => hO, fun e => by cases e⟩)
 have hset : Hb.set b (.cells false (.ints .u8 l)) = Hb := by
  apply List.ext_getElem?
  intro i
  rw [List.getElem?_set]
  split
  ·rename_i e1
   subst e1
   rw [if_pos (List.getElem?_eq_some_iff.1 (hp _ _ hb)).1, hp _ _ hb]
  ·rfl
 rw [hset] at g1
 exact ⟨_, w', hrun, g2.mono.rel (.sl1 _ _ _ _ _ _ r rc n h1 h2 h3 h4 h5), g1, g2⟩

theorem cvs_parts {dst : Option Tmp} {s d : TypeId} {x : Operand} {ty : TypeId} {pos : String} {af : Array Edge} {gu : Option (Nat × Bool)} {r : R} (hc : compO P m (.convert s d x) = some (.cvs r)) : ∃ el, s = d ∧ P.underlying s = some (.slice el) ∧ P.underlying el = some (.int .u8) ∧ refOf m x = some r := by
 simp only [compO] at hc
 split at hc <;> try (cases hc; done)
 ·simp only [Option.map_eq_some_iff] at hc
  obtain ⟨_, _, h⟩ := hc; cases h
 ·split at hc <;> try (cases hc; done)
  simp only [Option.map_eq_some_iff] at hc
  obtain ⟨_, _, h⟩ := hc; cases h
 ·split at hc <;> try (cases hc; done)
  simp only [Option.map_eq_some_iff] at hc
  obtain ⟨_, _, h⟩ := hc; cases h
 ·rename_i e0 el hs hd
  split at hc <;> try (cases hc; done)
  rename_i hsd
  split at hc <;> try (cases hc; done)
  rename_i hel
  simp only [Option.map_eq_some_iff] at hc
  obtain ⟨r', h1, h2⟩ := hc
  injection h2 with h2
  subst h2
  obtain rfl : s = d := by simpa using hsd
  exact ⟨el, rfl, hd, hel, h1⟩

theorem op_any {o : Oper} {oc : EOp} {q : Bool} (hcall : CallSnd P m call) (hc : compO P m o.op = some oc) (he : ORel m I w ρ e a o.op.operands.toList) (hH : HRel m I O w ρ H)
  (h : evOp call own oc e H = some (v, H', q)) : Goes P o a w (Left m I O w ρ H H' v) := by
 cases q with
 | true =>
  obtain ⟨news, rfl⟩ := evOp_prefix h
  have hp : ∀ (i : Nat) (b : Blk), H[i]? = some b → (H ++ news)[i]? = some b := fun i b hb => by rw [List.getElem?_append_left (List.getElem?_eq_some_iff.1 hb).1]; exact hb
  refine (op_quiet hcall hc he (hH.grow hp) h prefix_refl (fun i hi _ => hH.none hi)).mono (fun x w' ⟨I', O', ρ', h1, h2, h3⟩ => ?_)
  exact ⟨I', O', ρ', h1, h2, h3.gs hH.imm, alive_append _ _⟩
 | false =>
  by_cases hz : ∃ sz bytes z rx rn, oc = .apz sz bytes z rx rn
  ·obtain ⟨sz, bytes, z, rx, rn, rfl⟩ := hz
   have h' : apzN sz bytes z (rx.ev e) (rn.ev e) e H = some (v, H', false) := h
   obtain ⟨dst, t, u, x, y, ty, pos, af, gu, el, kk, z', rfl, hd, hu, hzz, h1, h2, rfl, rfl, rfl⟩ := apz_parts (apz_notCall hc) hc
   have he' : ORel m I w ρ e a (#[x, y] : Array Operand).toList := fun t ht => he t (by simpa [Op.operands, Call.operands] using ht)
   have hx := refOf_rel h1 he' (by simp)
   have hy := refOf_rel h2 he' (by simp)
   obtain ⟨z1, z2, z3, z4⟩ := zOf_spec hzz
   obtain ⟨k, ys, hA, hl, hcase⟩ := apz_of (ty := ty) hd hu hzz hy h'
   rcases hcase with ⟨hp0, hr, hb1, hb2⟩ | ⟨d, hdl, hdr, hev⟩
   ·simp at hr
   ·have hE := evN_false hev
    have hs : src H z'.1.size (.rs k d) = some (k, d) := by simp only [src]; rw [if_pos hdl]
    obtain ⟨z, w', O', ρ', q1, q2, q3, q4⟩ := (sound_appEG (q := .rs k d) hA z4 hH hx hs hdl hdr hE).out
    have hR : Left m I O w ρ H H' v z w' := ⟨I, O', ρ', q2, q3, q4.gs, evE_alive hE⟩
    rcases q1 with q1 | ⟨q1, rfl⟩
    ·exact goes_value (by rw [exec_append]; exact q1) hR
    ·exact goes_skip (by rw [exec_append]; exact q1) hR
  by_cases hcv : ∃ s d x r, o.op = .convert s d x ∧ oc = .cvs r
  ·obtain ⟨s, d, x, r, ho, rfl⟩ := hcv
   obtain ⟨dst, op, ty, pos, af, gu⟩ := o
   simp only [] at ho
   subst ho
   obtain ⟨el, rfl, hs, hel, h1⟩ := cvs_parts (dst := dst) (ty := ty) (pos := pos) (af := af) (gu := gu) hc
   have hx := refOf_rel h1 he (by simp [Op.operands])
   have hE : evE (.cvs r) e H = some (v, H') := by
    have h' : (match evQ (.cvs r) e H with | some (v, news) => some (v, H ++ news, true) | none => (evE (.cvs r) e H).map fun (v, H) => (v, H, false)) = some (v, H', false) := h
    simp only [evQ, Option.map_eq_some_iff, Prod.mk.injEq, and_true] at h'
    obtain ⟨⟨v1, H1⟩, h1, rfl, rfl⟩ := h'
    exact h1
   obtain ⟨z, w', hrun, hR⟩ := sound_cvs (el' := el) hs hel hH hx hE
   refine goes_value (w' := w') ?_ hR
   show (do let v ← convert s s (a.eval x); pure (Next.value v) : Sem Next).run P w = _
   rw [Sem.run_bind, hrun]; rfl
  by_cases hnc : notCall o.op = true
  ·have hncc := notCall_op hnc hc
   have h' : (match evQ oc e H with | some (v, news) => some (v, H ++ news, true) | none => (evE oc e H).map fun (v, H) => (v, H, false)) = some (v, H', false) := by
    cases oc <;> first | exact h | exact absurd rfl (hncc _ _) | exact absurd ⟨_, _, _, _, _, rfl⟩ hz
   have hE : evE oc e H = some (v, H') := by
    cases hq : evQ oc e H with
    | some r => rw [hq] at h'; simp at h'
    | none =>
     rw [hq] at h'
     simp only [Option.map_eq_some_iff, Prod.mk.injEq, and_true] at h'
     obtain ⟨⟨v1, H1⟩, h1, rfl, rfl⟩ := h'
     exact h1
   obtain ⟨z, w', O', ρ', q1, q2, q3, q4⟩ := eff_op hnc hc he hH (fun s d x r h1 h2 => hcv ⟨s, d, x, r, h1, h2⟩) hE
   have hR : Left m I O w ρ H H' v z w' := ⟨I, O', ρ', q2, q3, q4.gs, evE_alive hE⟩
   rcases q1 with q1 | ⟨q1, rfl⟩
   ·exact goes_value q1 hR
   ·exact goes_skip q1 hR
  ·obtain ⟨dst, fo, xs, ats, ty, pos, af, gu, g, l, rfl, rfl, h1, h2⟩ := call_op (by simpa using hnc) hc
   have hc' : callEv call own (g.ev e) (l.map (R.ev e)) H = some (v, H', false) := h
   obtain ⟨gf, caps, hfv, ⟨p⟩⟩ := callEv_parts hc'
   have hfo := refOf_rel h1 he (operands_call fo (.inl rfl))
   rw [hfv] at hfo
   generalize hF : a.eval fo = F at hfo
   cases hfo with
   | fn _ _ f _ cs hm hs hf =>
    have k1 := p.after hcall hm prefix_refl hH (call_args h2 he hs hf)
    refine goes_call hF (CallRuns.mono k1 (fun e w' he => ?_))
    obtain ⟨x, I', O', ρ', rfl, r1, r2⟩ := he
    refine ⟨x, rfl, ?_⟩
    have hlive := p.live (Hb := H) prefix_refl
    have hlen := (mapM_get p.heap).1
    have hl := (mapM_get p.back).1
    have hge := p.len
    rw [p.loud rfl]
    obtain ⟨g1, g2, g3⟩ := r2.gen hH p.nodup p.lt p.apart p.fr2 p.back p.len hlive hlen
    exact ⟨_, _, _, r2.val rfl (n := p.HbN.length - p.L.length) (by omega) p.lt p.fr1 p.res r1, g1, g2, g3⟩
end
end Go.Proofs.YtchoafdpckknmaaDoorE
