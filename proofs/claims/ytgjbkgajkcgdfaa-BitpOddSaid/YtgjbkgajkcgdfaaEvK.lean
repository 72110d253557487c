/- Calls. -/
import Derived.Test.YtgjbkgajkcgdfaaEvH
namespace Go.Proofs.YtgjbkgajkcgdfaaE
open Go
set_option linter.unusedSimpArgs false
set_option linter.unusedVariables false
variable {P : Program} {w : World} {m : Nat → Option Nat} {I O : Nat → Prop} {ρ : Pl} {H Hb : List Blk} {v : V} {e : Env} {a : Act}

/-- a step that may write, and freeze -/
structure GS (n : Nat) (I O : Nat → Prop) (w : World) (ρ : Pl) (I' O' : Nat → Prop) (w' : World) (ρ' : Pl) : Prop where
  mono : Mono I w ρ I' w' ρ'
  ext : Ext O w w'
  imm' : ∀ k, I' k → I k ∨ O k ∨ w.heap.size ≤ k
  own' : ∀ k, O' k → O k ∨ w.heap.size ≤ k
  pl' : ∀ i r, ρ' i = some r → ρ i = some r ∨ (n ≤ i ∧ (O r ∨ w.heap.size ≤ r))
/-- a whole call, or a stretch of code, over n blocks that stay -/
structure CG (n : Nat) (I O : Nat → Prop) (w : World) (ρ : Pl) (H : List Blk) (I' O' : Nat → Prop) (w' : World) (ρ' : Pl) (H' : List Blk) : Prop where
  imm : ∀ k, I k → I' k
  ext : Ext O w w'
  imm' : ∀ k, I' k → I k ∨ O k ∨ w.heap.size ≤ k
  own' : ∀ k, O' k → O k ∨ w.heap.size ≤ k
  pl : ∀ i, i < n → ρ' i = ρ i
  pl' : ∀ i r, ρ' i = some r → n ≤ i → O r ∨ w.heap.size ≤ r ∨ ∃ i', n ≤ i' ∧ ρ i' = some r
  len : n ≤ H'.length
  live : ∀ j, j < n → live H' j → live H j

def Body (P : Program) (f : FuncId) : Prop := ∃ fn, P.funcs[f]? = some fn ∧ fn.body.isSome = true ∧ fn.name ≠ "runtime.NumGoroutine"

def RelVs (m : Nat → Option Nat) (I : Nat → Prop) (w : World) (ρ : Pl) (xs : List V) (ys : List Value) : Prop :=
  ys.length = xs.length ∧ ∀ (j : Nat) (v : V) (x : Value), xs[j]? = some v → ys[j]? = some x → RelV m I w ρ v x

def CallSnd (P : Program) (m : Nat → Option Nat) (call : CallF) : Prop :=
  ∀ (f g : Nat) (xs : List V) (H H' : List Blk) (r : V), m f = some g → call g xs H = some (r, H') →
    ∀ (I O : Nat → Prop) (w : World) (ρ : Pl) (ys : Array Value), RelVs m I w ρ xs ys.toList → HRel m I O w ρ H →
      Body P f ∧ Calls P f ys w (fun e w' => ∃ x I' O' ρ', e = .returned x ∧ RelV m I' w' ρ' r x ∧ HRel m I' O' w' ρ' H' ∧ CG H.length I O w ρ H I' O' w' ρ' H')

theorem RelVs.mapM_ren {g : Nat → Option Nat} {ρ' : Pl} {n : Nat} {xs xs' : List V} {ys : List Value} (h : RelVs m I w ρ xs ys) (hg : ∀ b b' r, g b = some b' → ρ b = some r → ρ' b' = some r) (hm : xs.mapM (ren g n) = some xs') : RelVs m I w ρ' xs' ys := by
  obtain ⟨h1, h2⟩ := mapM_get hm
  refine ⟨by rw [h.1, h1], fun j v x hv hx => ?_⟩
  obtain ⟨a, ha1, ha2⟩ := mapM_get' hm hv
  exact ren_rel hg ha2 (h.2 j a x ha1 hx)
theorem RelVs.mapM_lend {FL : List Nat} {n : Nat} {xs xs' : List V} {ys : List Value} (h : RelVs m I w ρ xs ys) (hp : ∀ (i : Nat) (b : Blk), H[i]? = some b → Hb[i]? = some b) (hH : HRel m I O w ρ Hb) (hm : xs.mapM (lend H FL n) = some xs') : RelVs m (lentI I ρ H FL) w ρ xs' ys := by
  obtain ⟨h1, h2⟩ := mapM_get hm
  refine ⟨by rw [h.1, h1], fun j v x hv hx => ?_⟩
  obtain ⟨a, ha1, ha2⟩ := mapM_get' hm hv
  exact lend_rel hp hH ha2 (h.2 j a x ha1 hx)

/-- where nothing immutable stands, the immutable blocks play no part -/
theorem noRs {I1 I2 : Nat → Prop} : ∀ {n : Nat} {v : V} {x : Value} {ρ : Pl}, hasRs n v = false → RelV m I1 w ρ v x → RelV m I2 w ρ v x := by
  intro n
  induction n with
  | zero => intro v x ρ h; simp [hasRs] at h
  | succ n ih =>
    intro v x ρ h hx
    cases hx with
    | rptr => simp [hasRs] at h
    | rs => simp [hasRs] at h
    | fn ρ g f caps cs hm hs hf =>
      simp only [hasRs, List.any_eq_false] at h
      exact .fn _ _ _ _ _ hm hs (fun j v x hv hx => ih (by simpa using h v (List.mem_of_getElem? hv)) (hf j v x hv hx))
    | tup ρ l vs hs hf =>
      simp only [hasRs, List.any_eq_false] at h
      exact .tup _ _ _ hs (fun j v x hv hx => ih (by simpa using h v (List.mem_of_getElem? hv)) (hf j v x hv hx))
    | agg ρ c cs hs hc hf =>
      cases c with
      | ints k l =>
        refine .agg _ _ _ hs hc (fun j v x hv hx => ?_)
        have h1 := hf j v x hv hx
        have hv' := hv
        simp only [C.get, Option.map_eq_some_iff] at hv'
        obtain ⟨_, _, rfl⟩ := hv'
        cases h1; exact .int _ _ _
      | vals l =>
        simp only [hasRs, List.any_eq_false] at h
        exact .agg _ _ _ hs hc (fun j v x hv hx => ih (by simpa using h v (List.mem_of_getElem? hv)) (hf j v x hv hx))
      | imm l => simp [hasRs] at h
    | int => exact .int _ _ _
    | bool => exact .bool _ _
    | str => exact .str _ _
    | nilp => exact .nilp _
    | ptr ρ b off r hh => exact .ptr _ _ _ _ hh
    | nils => exact .nils _
    | ez => exact .ez _ _
    | sl0 ρ b off sz cap A hh => exact .sl0 _ _ _ _ _ _ hh
    | sl1 ρ b off len sz cap r rc k h1 h2 h3 h4 h5 => exact .sl1 _ _ _ _ _ _ _ _ _ h1 h2 h3 h4 h5
    | nilf => exact .nilf _
    | nili => exact .nili _
    | undef => exact .undef _ _
theorem noRsB {I1 I2 O1 O2 : Nat → Prop} {r : Nat} {b : Blk} (h : hasRsB b = false) (hb : BRel m I1 O1 w ρ r b) (hI : I1 r → I2 r) (hO : O1 r → O2 r) : BRel m I2 O2 w ρ r b := by
  cases b with
  | dead => exact trivial
  | iter s p => exact ⟨hb.1, hO hb.2⟩
  | cells ro c =>
    obtain ⟨cs, e, fr, h1, h2, h3, h4, h5, h6, h7⟩ := hb
    refine ⟨cs, e, fr, h1, h2, h3, h4, fun j v x hv hx => ?_, fun e => hO (h6 e), fun e => hI (h7 e)⟩
    have hr := h5 j v x hv hx
    cases c with
    | ints k l =>
      have hv' := hv
      simp only [C.get, Option.map_eq_some_iff] at hv'
      obtain ⟨_, _, rfl⟩ := hv'
      cases hr; exact .int _ _ _
    | vals l =>
      simp only [hasRsB, List.any_eq_false] at h
      exact noRs (by simpa using h v (List.mem_of_getElem? hv)) hr
    | imm l =>
      simp only [hasRsB, Bool.not_eq_false'] at h
      have : l = [] := by simpa using h
      subst this; simp [C.get] at hv

theorem BRel.weaken {I1 I2 O1 O2 : Nat → Prop} {r : Nat} {b : Blk} (hb : BRel m I1 O1 w ρ r b) (hI : ∀ k, I1 k → I2 k) (hO : b ≠ .dead → O1 r → O2 r) : BRel m I2 O2 w ρ r b := by
  cases b with
  | dead => exact trivial
  | iter s p => exact ⟨hb.1, hO (by simp) hb.2⟩
  | cells ro c =>
    obtain ⟨cs, e, fr, h1, h2, h3, h4, h5, h6, h7⟩ := hb
    exact ⟨cs, e, fr, h1, h2, h3, h4, fun j v x hv hx => (h5 j v x hv hx).toI hI, fun e => hO (by simp) (h6 e), fun e => hI _ (h7 e)⟩

theorem freeze_get (L : List Nat) (H : List Blk) (i : Nat) : (freeze L H)[i]? = (H[i]?).map fun b => if L.contains i then match b with | .cells _ c => .cells true c | b => b else b := by
  unfold freeze
  rw [List.getElem?_map, List.getElem?_zipIdx]
  cases H[i]? <;> simp <;> rfl
theorem freeze_len (L : List Nat) (H : List Blk) : (freeze L H).length = H.length := by simp [freeze]
theorem putBack_get : ∀ (l : List (Nat × Blk)) (H : List Blk), (l.map (·.1)).Nodup → (∀ p ∈ l, p.1 < H.length) → ∀ i, (putBack H l)[i]? = match l.find? (fun p => p.1 == i) with | some p => some p.2 | none => H[i]?
  | [], H, _, _, i => rfl
  | (k, b) :: l, H, hn, hl, i => by
    simp only [List.map_cons, List.nodup_cons] at hn
    have ih := putBack_get l (H.set k b) hn.2 (fun p hp => by simpa using hl p (by simp [hp])) i
    simp only [putBack, ih, List.find?_cons]
    by_cases e : k = i
    · subst e
      have hnone : l.find? (fun p => p.1 == k) = none := by
        rw [List.find?_eq_none]
        intro p hp
        simp only [beq_iff_eq]
        intro he
        exact hn.1 (by rw [← he]; exact List.mem_map_of_mem hp)
      rw [hnone]
      simp [List.getElem?_set_self (hl (k, b) (by simp))]
    · have : (k == i) = false := by simpa using e
      rw [this]
      cases l.find? (fun p => p.1 == i) with
      | some p => rfl
      | none => simp only [List.getElem?_set_ne e]
theorem putBack_len : ∀ (l : List (Nat × Blk)) (H : List Blk), (putBack H l).length = H.length
  | [], H => rfl
  | (k, b) :: l, H => by simp [putBack, putBack_len l]
end Go.Proofs.YtgjbkgajkcgdfaaE
