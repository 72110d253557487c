/- From the evaluator's answer to the machine's call. -/
import Derived.Test.YtchoafdpckknmaaDoorEvMo
import Derived.Below
namespace Go.Proofs.YtchoafdpckknmaaDoorE
open Go Go.RowKit
set_option linter.unusedSimpArgs false
set_option linter.unusedVariables false
variable {P : Program} {m : Nat → Option Nat} {F : Nat → Option Fun} {X : Nat → List V → Option (V × List Blk)} {w : World}

/-- every block that is there stays as it is -/
abbrev Old (w : World) : Nat → Prop := fun k => k < w.heap.size
theorem rel_row {k : IntKind} {a : Option Addr} {len cap : Nat} {zs : List Int} (h : (a = none ∧ len = 0 ∧ cap = 0 ∧ zs = []) ∨
  ∃ x, a = some x ∧ len ≤ cap ∧ cap ≤ maxLen ∧ zs.length = cap ∧ (∀ i, i < zs.length → w.cell? (x.add i) = some (.int k (zs.getD i 0))) ∧ ∀ n ∈ zs, (Lit.int k n).wf = true) :
  RelV m (Old w) w noPl (.rs len (.ints k (zs.take len))) (.slice a len cap) := by
 rcases h with ⟨rfl, rfl, rfl, rfl⟩ | ⟨x, rfl, hl, hm, hz, hc, hwf⟩
 ·exact .rs _ _ _ _ _ (fun _ => undef) (Nat.le_refl _) (fun j v hj => by simp [C.get] at hj) (fun j v hj => by simp [C.get] at hj) (fun _ => rfl)
 ·have get : ∀ j v, (C.ints k (zs.take len)).get j = some v → j < zs.length ∧ v = .int k (zs.getD j 0) := by
   intro j v hj
   simp only [C.get, Option.map_eq_some_iff] at hj
   obtain ⟨n, h1, rfl⟩ := hj
   rw [List.getElem?_take] at h1
   split at h1
   ·have := (List.getElem?_eq_some_iff.1 h1).1
    exact ⟨this, by rw [List.getD_eq_getElem?_getD, h1]; rfl⟩
   ·cases h1
  obtain ⟨r, o, sp⟩ := x
  have spot : ∀ j, j < zs.length → sp = none ∧ w.cell? ⟨r, o + j, none⟩ = some (.int k (zs.getD j 0)) := by
   intro j hj
   have h0 := hc 0 (by omega)
   have h1 := hc j hj
   have : sp = none := by simpa [Addr.add] using World.cell?_spot h0
   subst this
   refine ⟨rfl, ?_⟩
   by_cases e : j = 0
   ·subst e; simpa [Addr.add] using h1
   ·simpa [Addr.add, e] using h1
  refine .rs _ _ _ _ _ (fun j => .int k (zs.getD j 0)) hl (fun j v hj => ?_) (fun j v hj => ?_) (fun h => by cases h)
  ·obtain ⟨h1, rfl⟩ := get j v hj
   obtain ⟨rfl, h2⟩ := spot j h1
   refine ⟨rfl, r, o, rfl, ?_, h2⟩
   rcases Nat.lt_or_ge r w.heap.size with hr | hr
   ·exact hr
   ·exfalso
    simp [World.cell?, Array.getElem?_eq_none hr] at h2
  ·obtain ⟨h1, rfl⟩ := get j v hj
   exact .int _ _ _

theorem relVs_nil {I : Nat → Prop} : RelVs m I w noPl [] [] := ⟨rfl, fun j v x h => by simp at h⟩
theorem relVs_cons {I : Nat → Prop} {v : V} {x : Value} {l : List V} {r : List Value} (h : RelV m I w noPl v x) (hr : RelVs m I w noPl l r) : RelVs m I w noPl (v :: l) (x :: r) := by
 refine ⟨by simp [hr.1], fun j u y hu hy => ?_⟩
 cases j with
 | zero => simp at hu hy; subst hu; subst hy; exact h
 | succ j => exact hr.2 j u y (by simpa using hu) (by simpa using hy)

/-- the evaluator answers true: so does the call, and nothing that was there is turned -/
theorem walk_of {f g : Nat} {xs : List V} {ys : Array Value} {H' : List Blk} (hmix : P.follows .mixedOrders = true) (hL : Link P m F) (hX : XSnd P m F X) (htb : VarOK (Old w) w) (hm : m f = some g) (hF : ∃ fn, F g = some fn) (ha : Ans F X g xs [] (.bool true) H') (hx : RelVs m (Old w) w noPl xs ys.toList) :
  Calls P f ys w (fun e w' => e = .returned (.bool true) ∧ Below w.heap.size w w') := by
 obtain ⟨n, ha⟩ := ha
 have hH : HRel m (Old w) (fun _ => False) w noPl [] := ⟨fun i j r h => by simp [noPl] at h, fun i r h => by simp [noPl] at h, fun i r h => by simp [noPl] at h, fun k h => h.elim, fun k h => h, fun k _ h => h, htb⟩
 have hs : Calls P f ys w (fun e w' => ∃ x I' O' ρ', e = .returned x ∧ RelV m I' w' ρ' (.bool true) x ∧ HRel m I' O' w' ρ' H' ∧ CG 0 (Old w) (fun _ => False) w noPl [] I' O' w' ρ' H') := by
  rcases evF_sound hmix hL hX n f g xs [] H' (.bool true) hm ha _ _ w noPl ys hx hH with h | ⟨x, w', h, _⟩
  ·exact h.2
  ·obtain ⟨fn, hF⟩ := hF
   obtain ⟨pf, hpf, ok⟩ := hL f g fn hm hF
   obtain ⟨c, _, hc, _⟩ := ok.body
   rw [run_enter ⟨pf, hpf, by simp [hc], ok.name⟩] at h
   cases h
 refine hs.mono (fun e w' he => ?_)
 obtain ⟨x, I', O', ρ', rfl, h1, h2, h3⟩ := he
 cases h1
 exact ⟨rfl, h3.ext.os, h3.ext.tape, h3.ext.output, h3.ext.size, fun k hk => h3.ext.block k hk (fun h => h)⟩

def noX : Nat → List V → Option (V × List Blk) := fun _ _ => none
theorem noX_snd : XSnd P m F noX := fun f g xs H' r _ _ h => by cases h
end Go.Proofs.YtchoafdpckknmaaDoorE
