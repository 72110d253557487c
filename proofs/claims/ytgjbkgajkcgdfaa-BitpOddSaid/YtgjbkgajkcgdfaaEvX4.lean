/- Stretches of operations in any order: all of it. -/
import Derived.Test.YtgjbkgajkcgdfaaEvX3
namespace Go.Proofs.YtgjbkgajkcgdfaaE
open Go
set_option linter.unusedSimpArgs false
set_option linter.unusedVariables false
variable {P : Program} {w : World} {m : Nat → Option Nat} {I O : Nat → Prop} {ρ : Pl} {H H' Hb : List Blk} {v : V} {e e' : Env} {a : Act} {call : CallF} {own : Nat → Bool} {n0 nt : Nat} {Q : Exit → Act → World → Prop} {ops : Array Oper} {kl : List Op}

def cnt (listed : Array Bool) (n : Nat) : Nat := ((List.range n).filter fun j => !ins listed j).length
theorem cnt_set {listed : Array Bool} {n i : Nat} (hs : listed.size = n) (hi : i < n) (hl : ins listed i = false) : cnt (listed.setIfInBounds i true) n < cnt listed n := by
  unfold cnt
  have : ((List.range n).filter fun j => !ins (listed.setIfInBounds i true) j) = ((List.range n).filter fun j => !ins listed j).filter fun j => !decide (i = j) := by
    rw [List.filter_filter]
    refine List.filter_congr (fun j _ => ?_)
    rw [ins_set (by omega)]
    by_cases e : i = j <;> simp [e]
  rw [this]
  refine List.length_filter_lt_length_iff_exists.2 ⟨i, ?_, by simp⟩
  rw [List.mem_filter]
  exact ⟨by simpa using hi, by rw [hl]; rfl⟩

theorem any_walk (ht : RegOK P m nt ops kl) (hcall : CallSnd P m call) {t : Trace call own (barrier kl (ancs kl [])) 0 kl e H e' H'}
    (hQ : ∀ I' O' w' ρ' a', SRel m nt n0 I' O' w' ρ' e' H' a' → CG n0 I O w ρ H I' O' w' ρ' H' → Q .normal a' w') :
    ∀ (fuel : Nat) (listed : Array Bool) (a' : Act) (w' : World) (k : Nat) (I' O' : Nat → Prop) (ρ' : Pl), cnt listed kl.length ≤ fuel → DInv t m nt n0 I O w ρ listed a' w' k I' O' ρ' → wpAny P .any ops Q fuel listed a' w' := by
  have hsz : ops.size = kl.length := by rw [← Array.length_toList, ht.all.length]
  have fin : ∀ (listed : Array Bool) (a' : Act) (w' : World) (k : Nat) (I' O' : Nat → Prop) (ρ' : Pl), DInv t m nt n0 I O w ρ listed a' w' k I' O' ρ' → (∀ j, j < kl.length → ins listed j = true) → Q .normal a' w' := by
    intro listed a' w' k I' O' ρ' h hall
    obtain ⟨h1, h2⟩ := h.done ht hall
    exact hQ _ _ _ _ _ h1 h2
  have none : ∀ (listed : Array Bool), listed.size = kl.length → Region.ready .any ops listed = [] → ∀ j, j < kl.length → ins listed j = true := by
    intro listed hs hr j hj
    refine ready_none (by omega) hr (fun j o ho ed he hb => ?_) j (by omega)
    obtain ⟨ko, hko, _⟩ := ht.all.get (by simpa using ho : ops.toList[j]? = some o)
    exact ht.early j ko hko _ ((ht.wait j o ko ho hko ed.on).1 ⟨ed, he, hb, rfl⟩)
  intro fuel
  induction fuel with
  | zero =>
    intro listed a' w' k I' O' ρ' hc h
    have hall : ∀ j, j < kl.length → ins listed j = true := by
      intro j hj
      cases hl : ins listed j with
      | true => rfl
      | false =>
        have : j ∈ (List.range kl.length).filter fun j => !ins listed j := by
          rw [List.mem_filter]
          exact ⟨by simpa using hj, by rw [hl]; rfl⟩
        have := List.length_pos_of_mem this
        unfold cnt at hc; omega
    refine ⟨?_, fin _ _ _ _ _ _ _ h hall⟩
    cases hr : Region.ready .any ops listed with
    | nil => rfl
    | cons i r =>
      obtain ⟨o, ho, hun, _⟩ := ready_spec (ops := ops) (listed := listed) (i := i) (by rw [hr]; simp)
      have hi : i < kl.length := by rw [← hsz]; exact (Array.getElem?_eq_some_iff.1 ho).1
      have := hall i hi
      simp only [ins, Array.getD_eq_getD_getElem?] at hun this
      rw [Array.getElem?_eq_getElem (by rw [h.size]; exact hi)] at hun this
      simp only [Option.getD_some] at hun this
      rw [hun] at this; cases this
  | succ fuel ih =>
    intro listed a' w' k I' O' ρ' hc h
    refine ⟨fun hr => fin _ _ _ _ _ _ _ h (none listed h.size hr), fun i hi => ?_⟩
    refine h.step ht hcall hi (fun a1 w1 k1 I1 O1 ρ1 h1 => ih _ _ _ _ _ _ _ ?_ h1)
    obtain ⟨o, ho, hun, _⟩ := ready_spec hi
    have hik : i < kl.length := by rw [← hsz]; exact (Array.getElem?_eq_some_iff.1 ho).1
    have hl : ins listed i = false := by
      simp only [ins, Array.getD_eq_getD_getElem?] at hun ⊢
      rw [Array.getElem?_eq_getElem (by rw [h.size]; exact hik)] at hun ⊢
      exact hun
    have := cnt_set h.size hik hl
    omega

theorem any_region {id : Nat} (hm : P.follows .mixedOrders = true) (ht : RegOK P m nt ops kl) (hcall : CallSnd P m call) (h : evOps call own (barrier kl (ancs kl [])) 0 kl e H = some (e', H')) (hS : SRel m nt n0 I O w ρ e H a)
    (hQ : ∀ I' O' w' ρ' a', SRel m nt n0 I' O' w' ρ' e' H' a' → CG n0 I O w ρ H I' O' w' ρ' H' → Q .normal a' w') : (Code.region id ops true).wp P Q a w := by
  obtain ⟨t⟩ := trace h
  have hsz : ops.size = kl.length := by rw [← Array.length_toList, ht.all.length]
  refine wp_region_any hm (any_walk ht hcall (t := t) hQ _ _ _ _ 0 I O ρ ?_ ?_)
  · unfold cnt
    rw [hsz]
    exact Nat.le_trans (List.length_filter_le _ _) (by simp)
  · have hf : ∀ j, ins (Array.replicate ops.size false) j = false := by
      intro j
      simp only [ins, Array.getD_eq_getD_getElem?, Array.getElem?_replicate]
      split <;> rfl
    refine ⟨by simp [hsz], fun j o _ hj => (by rw [hf] at hj; cases hj), Nat.zero_le _, fun j hj => (by rw [hf] at hj; cases hj), fun j hj => (by omega), ?_, fun j hj => (by omega), fun u => ?_, ?_, hS.len, hS.size, hS.defers⟩
    · rw [t.h0]; exact HRel.sameHeap (w := w) rfl hS.heap
    · rw [slotAt_cut (i := 0) (Nat.zero_le _) (fun j _ _ _ => hf j)]
      exact RelV.sameHeap (w := w) rfl (hS.env u)
    · rw [t.h0]
      exact ⟨fun _ h => h, ⟨rfl, rfl, rfl, Nat.le_refl _, fun _ _ _ => rfl, fun _ _ h => h⟩, fun _ h => .inl h, fun _ h => .inl h, fun _ _ => rfl, fun i r hr hi => .inr (.inr ⟨i, hi, hr⟩), hS.len, fun _ _ h => h⟩
end Go.Proofs.YtgjbkgajkcgdfaaE
