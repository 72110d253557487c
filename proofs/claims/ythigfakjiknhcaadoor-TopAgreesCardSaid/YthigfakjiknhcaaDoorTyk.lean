/- Sessions, Runs, Leaked. -/
import Derived.Test.YthigfakjiknhcaaDoorTyj
namespace Go.Proofs.YthigfakjiknhcaaDoorT
open Go Go.Proofs Go.RowKit
set_option linter.unusedSimpArgs false
set_option linter.unusedVariables false
def EndsAt (n1 : Nat) (w : World) (v : Value) (es : List EndP) : Prop := w.ownsRow n1 34 4 v es.length (endsV es)
set_option maxHeartbeats 8000000 in
set_option maxRecDepth 1000000 in
theorem sess_any {n0 : Nat} {w : World} {b : Nat} {σ : St} (h : WW n0 w b σ) (ok : σ.ok) : Calls Tryd.prog 8 #[.pointer (some ⟨b, 0, none⟩)] w fun e w' => (∃ v, e = .returned v ∧ EndsAt w.heap.size w' v σ.s) ∧ Below w.heap.size w w' := by
  obtain ⟨kb, vs, vr, ps, pr, h⟩ := h
  have h17 := ok17_any h.cell0
  have c1 := h.cell1
  have h25 := ends_any h.s h.se ok.s ok.ls
  go_enter Tryd.func8, Tryd.ntmps8
  go_wp2_with (first | (go_at_call 17; refine Calls.mono h17 (fun e w1 hp => ?_); obtain ⟨rfl, rfl⟩ := hp) | fail)
  go_wp2_with (first | (go_at_call 25; refine Calls.mono h25 (fun e w2 hp => ?_); obtain ⟨⟨v, rfl, hv⟩, b2⟩ := hp) | fail)
  go_ret
  exact ⟨⟨_, rfl, hv⟩, b2⟩
set_option maxHeartbeats 8000000 in
set_option maxRecDepth 1000000 in
theorem runs7_any {n0 : Nat} {w : World} {b : Nat} {σ : St} (h : WW n0 w b σ) (ok : σ.ok) : Calls Tryd.prog 7 #[.pointer (some ⟨b, 0, none⟩)] w fun e w' => (∃ v, e = .returned v ∧ EndsAt w.heap.size w' v σ.r) ∧ Below w.heap.size w w' := by
  obtain ⟨kb, vs, vr, ps, pr, h⟩ := h
  have h17 := ok17_any h.cell0
  have c1 := h.cell2
  have h25 := ends_any h.r h.re ok.r ok.lr
  go_enter Tryd.func7, Tryd.ntmps7
  go_wp2_with (first | (go_at_call 17; refine Calls.mono h17 (fun e w1 hp => ?_); obtain ⟨rfl, rfl⟩ := hp) | fail)
  go_wp2_with (first | (go_at_call 25; refine Calls.mono h25 (fun e w2 hp => ?_); obtain ⟨⟨v, rfl, hv⟩, b2⟩ := hp) | fail)
  go_ret
  exact ⟨⟨_, rfl, hv⟩, b2⟩
set_option maxHeartbeats 8000000 in
set_option maxRecDepth 1000000 in
theorem leaked_any {n0 : Nat} {w : World} {b : Nat} {σ : St} (h : WW n0 w b σ) (u : Nat) (hu : u < 4) : Calls Tryd.prog 9 #[.pointer (some ⟨b, 0, none⟩), .int .i64 (u : Nat)] w fun e w' => e = .returned (.bool (σ.lk u)) ∧ w' = w := by
  obtain ⟨kb, vs, vr, ps, pr, h⟩ := h
  have h17 := ok17_any h.cell0
  have h26 := user_any ((u : Nat) : Int) w
  have hU : userB ((u : Nat) : Int) = true := by simp only [userB, Bool.and_eq_true, decide_eq_true_eq]; omega
  rw [hU] at h26
  have c1 := h.cellL u hu
  have hk0 : (0 : Int) ≤ ((u : Nat) : Int) := by omega
  have hk1 : ((u : Nat) : Int) < 4 := by omega
  go_enter Tryd.func9, Tryd.ntmps9
  go_wp2_with (first | (go_at_call 17; refine Calls.mono h17 (fun e w1 hp => ?_); obtain ⟨rfl, rfl⟩ := hp) | (go_at_call 26; refine Calls.mono h26 (fun e w2 hp => ?_); obtain ⟨rfl, rfl⟩ := hp) | fail)
  go_ret
  exact ⟨rfl, rfl⟩
end Go.Proofs.YthigfakjiknhcaaDoorT
