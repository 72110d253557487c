/- What a bound end says. -/
import Derived.Test.YthigfakjiknhcaaDoorTs
import Derived.Deep.RegionHeld3
namespace Go.Proofs.YthigfakjiknhcaaDoorT
open Go Go.Proofs Go.RowKit
set_option linter.unusedSimpArgs false
set_option linter.unusedVariables false
/-- an end, plain -/
structure EndP where
  st : Nat
  u : Nat
  h : Option Tm
  n : Option Tm
  own : Option Tm
  r : Option Tm
/-- an end as it lies -/
def EB (w : World) (b : Nat) (e : EndP) : Prop := ∃ vh vn vo vr, w.heap[b]? = some (.cells #[.int .i64 (e.st : Nat), .int .i64 (e.u : Nat), vh, vn, vo, vr] 70 (0, 0)) ∧ RO w e.h vh ∧ RO w e.n vn ∧ RO w e.own vo ∧ RO w e.r vr
/-- an end whose terms may be -/
structure EndP.ok (e : EndP) : Prop where
  u : e.u < 4
  h : goodO e.h
  n : goodO e.n
  own : goodO e.own
  r : goodO e.r
def bindsO (e : EndP) : Option Tm := mkS (mkH (mkH (mkP (some (pwT e.u)) e.r))) (mkP e.n e.h)
theorem binds_good {e : EndP} (h : e.ok) : goodO (bindsO e) := good_S (good_H (good_H (good_P (pw_goodO _ (by have := h.u; omega)) h.r))) (good_P h.n h.h)
/-- four of an end's cells -/
structure EF (w0 w : World) (b : Nat) (v1 v2 v3 v5 : Value) : Prop where
  bw : Below w0.heap.size w0 w
  lt : b < w.heap.size
  c1 : w.cell? ⟨b, 1, none⟩ = some v1
  c2 : w.cell? ⟨b, 2, none⟩ = some v2
  c3 : w.cell? ⟨b, 3, none⟩ = some v3
  c5 : w.cell? ⟨b, 5, none⟩ = some v5
theorem EF.step {w0 w w' : World} {b : Nat} {v1 v2 v3 v5 : Value} (h : EF w0 w b v1 v2 v3 v5) (hb : Below w.heap.size w w') : EF w0 w' b v1 v2 v3 v5 :=
  ⟨h.bw.trans (hb.mono h.bw.size), Nat.lt_of_lt_of_le h.lt hb.size, (hb.cell (p := ⟨b, 1, none⟩) h.lt).trans h.c1, (hb.cell (p := ⟨b, 2, none⟩) h.lt).trans h.c2, (hb.cell (p := ⟨b, 3, none⟩) h.lt).trans h.c3, (hb.cell (p := ⟨b, 5, none⟩) h.lt).trans h.c5⟩
theorem EF.all {w0 w : World} {b : Nat} {v1 v2 v3 v5 : Value} (h : EF w0 w b v1 v2 v3 v5) : w.cell? ⟨b, 1, none⟩ = some v1 ∧ w.cell? ⟨b, 5, none⟩ = some v5 ∧ w.cell? ⟨b, 3, none⟩ = some v3 ∧ w.cell? ⟨b, 2, none⟩ = some v2 := ⟨h.c1, h.c5, h.c3, h.c2⟩
theorem RO_atom {w w' : World} {s : List UInt8} {v : Value} (h : RO w (some (.atom s)) v) : RO w' (some (.atom s)) v := by
  have h2 : RT w (.atom s) v := h
  rw [RT_atom h2]; exact RT.atom s
set_option maxHeartbeats 16000000 in
set_option maxRecDepth 1000000 in
theorem binds_any {w : World} {b : Nat} {e : EndP} (h : EB w b e) (ok : e.ok) : Calls Tryd.prog 43 #[.pointer (some ⟨b, 0, none⟩)] w fun e' w' => (∃ v, e' = .returned v ∧ RO w' (bindsO e) v) ∧ Below w.heap.size w w' := by
  obtain ⟨vh, vn, vo, vr, hb, h2, h3, h4, h5⟩ := h
  have hu : e.u < 10 := by have := ok.u; omega
  have hpg := pw_goodO e.u hu
  have g1 := good_P hpg ok.r
  have g2 := good_H g1
  have g3 := good_H g2
  have g4 := good_P ok.n ok.h
  have k1 := hpg.okO
  have k2 := ok.r.okO
  have k3 := g1.okO
  have k4 := g2.okO
  have k5 := g3.okO
  have k6 := ok.n.okO
  have k7 := ok.h.okO
  have k8 := g4.okO
  have ef : EF w w b (.int .i64 (e.u : Nat)) vh vn vr := ⟨Below.refl _ _, (Array.getElem?_eq_some_iff.1 hb).1, cell_at hb 1, cell_at hb 2, cell_at hb 3, cell_at hb 5⟩
  obtain ⟨f1, f5, f3, f2⟩ := ef.all
  have hb0 : Below w.heap.size w w.drew := drew_below w 1
  have ef0 := ef.step hb0
  have h2' := RO.below h2 hb0
  have h3' := RO.below h3 hb0
  have h5' := RO.below h5 hb0
  unfold bindsO
  clear g1 g2 g3 g4 hpg
  go_enter Tryd.func43, Tryd.ntmps43
  go_wp2_with fail
  go_region_held3 (fun w' => w'.cell? ⟨b, 1, none⟩ = some (.int .i64 (e.u : Nat)) ∧ w'.cell? ⟨b, 5, none⟩ = some vr ∧ w'.cell? ⟨b, 3, none⟩ = some vn ∧ w'.cell? ⟨b, 2, none⟩ = some vh) (exact EF.all (by assumption))
    (first
      | (go_at_call 44; refine Calls.mono (pw_any e.u hu _) (fun e w1 hp => ?_); obtain ⟨⟨v1, rfl, hv1⟩, rfl⟩ := hp)
      | (go_at_call_of 40 vr; refine Calls.mono (spair_any (a := some (pwT e.u)) (b := e.r) (RO_atom hv1) (by first | assumption | exact RO.below (by assumption) (by assumption) | exact RO.below (RO.below (by assumption) (by assumption)) (by assumption) | exact RO.below (RO.below (RO.below (by assumption) (by assumption)) (by assumption)) (by assumption)) k1 k2) (fun e w3 hp => ?_); obtain ⟨⟨v3, rfl, hv3⟩, hb3⟩ := hp; have ef3 := EF.step (by assumption) hb3)
      | (go_at_call_of 61 v3; refine Calls.mono (shash_any (a := mkP (some (pwT e.u)) e.r) (by first | assumption | exact RO.below (by assumption) (by assumption) | exact RO.below (RO.below (by assumption) (by assumption)) (by assumption) | exact RO.below (RO.below (RO.below (by assumption) (by assumption)) (by assumption)) (by assumption)) k3) (fun e w4 hp => ?_); obtain ⟨⟨v4, rfl, hv4⟩, hb4⟩ := hp; have ef4 := EF.step (by assumption) hb4)
      | (go_at_call_of 61 v4; refine Calls.mono (shash_any (a := mkH (mkP (some (pwT e.u)) e.r)) (by first | assumption | exact RO.below (by assumption) (by assumption) | exact RO.below (RO.below (by assumption) (by assumption)) (by assumption) | exact RO.below (RO.below (RO.below (by assumption) (by assumption)) (by assumption)) (by assumption)) k4) (fun e w5 hp => ?_); obtain ⟨⟨v5, rfl, hv5⟩, hb5⟩ := hp; have ef5 := EF.step (by assumption) hb5)
      | (go_at_call 59; refine Calls.mono (sseal_any (a := mkH (mkH (mkP (some (pwT e.u)) e.r))) (b := mkP e.n e.h) (by first | assumption | exact RO.below (by assumption) (by assumption) | exact RO.below (RO.below (by assumption) (by assumption)) (by assumption) | exact RO.below (RO.below (RO.below (by assumption) (by assumption)) (by assumption)) (by assumption)) (by first | assumption | exact RO.below (by assumption) (by assumption) | exact RO.below (RO.below (by assumption) (by assumption)) (by assumption) | exact RO.below (RO.below (RO.below (by assumption) (by assumption)) (by assumption)) (by assumption)) k5 k8) (fun e w6 hp => ?_); obtain ⟨⟨v6, rfl, hv6⟩, hb6⟩ := hp; have ef6 := EF.step (by assumption) hb6)
      | (go_at_call_of 40 vn; refine Calls.mono (spair_any (a := e.n) (b := e.h) (by first | assumption | exact RO.below (by assumption) (by assumption) | exact RO.below (RO.below (by assumption) (by assumption)) (by assumption) | exact RO.below (RO.below (RO.below (by assumption) (by assumption)) (by assumption)) (by assumption)) (by first | assumption | exact RO.below (by assumption) (by assumption) | exact RO.below (RO.below (by assumption) (by assumption)) (by assumption) | exact RO.below (RO.below (RO.below (by assumption) (by assumption)) (by assumption)) (by assumption)) k6 k7) (fun e w2 hp => ?_); obtain ⟨⟨v2, rfl, hv2⟩, hb2⟩ := hp; have ef2 := EF.step (by assumption) hb2))
  all_goals go_wp2
  all_goals go_ret
  all_goals exact ⟨⟨_, rfl, hv6⟩, ef6.bw⟩
end Go.Proofs.YthigfakjiknhcaaDoorT
