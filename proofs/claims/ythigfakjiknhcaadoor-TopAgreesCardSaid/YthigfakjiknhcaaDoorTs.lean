/- The world's terms: password, pair, seal, hash, answer, response. -/
import Derived.Test.YthigfakjiknhcaaDoorTr
namespace Go.Proofs.YthigfakjiknhcaaDoorT
open Go Go.Proofs Go.RowKit
set_option linter.unusedSimpArgs false
set_option linter.unusedVariables false
/-- a user's password -/
def pwT (u : Nat) : Tm := atT 112 u
def okT' : Tm := .atom [111, 107]
theorem pw_good (u : Nat) (hu : u < 10) : good (pwT u) := atT_good 112 u rfl hu
theorem pw_goodO (u : Nat) (hu : u < 10) : goodO (some (pwT u)) := fun t h => by cases h; exact pw_good u hu
theorem ok_good : good okT' := good_atom rfl
theorem ok_goodO : goodO (some okT') := fun t h => by cases h; exact ok_good
set_option maxHeartbeats 8000000 in
set_option maxRecDepth 1000000 in
theorem pw_any (u : Nat) (hu : u < 10) (w : World) : Calls Tryd.prog 44 #[.int .i64 (u : Nat)] w fun e w' => (∃ v, e = .returned v ∧ RO w' (some (pwT u)) v) ∧ w' = w := by
  have h1 : Calls Tryd.prog 35 #[.string ⟨#[112]⟩, .int .i64 (u : Nat)] w fun e w' => (∃ v, e = .returned v ∧ RO w' (some (atT 112 u)) v) ∧ w' = w := atom35_any 112 u rfl hu w
  unfold pwT
  go_enter Tryd.func44, Tryd.ntmps44
  go_wp2_with (go_at_call 35; refine Calls.mono h1 (fun e w1 hp => ?_); obtain ⟨⟨v, rfl, hv⟩, rfl⟩ := hp; obtain ⟨D, u, rfl⟩ := RT.shape hv)
  go_ret
  exact ⟨⟨_, rfl, hv⟩, rfl⟩
set_option maxHeartbeats 8000000 in
set_option maxRecDepth 1000000 in
theorem spair_any {w : World} {a b : Option Tm} {x y : Value} (ha : RO w a x) (hb : RO w b y) (ka : okO a) (kb : okO b) :
    Calls Tryd.prog 40 #[x, y] w fun e w' => (∃ v, e = .returned v ∧ RO w' (mkP a b) v) ∧ Below w.heap.size w w' := by
  have h1 := pair_any ha hb ka kb
  have shx := ha.shape
  have shy := hb.shape
  rcases shx with ⟨D, u, rfl⟩ | rfl <;> rcases shy with ⟨D', u', rfl⟩ | rfl <;>
  · go_enter Tryd.func40, Tryd.ntmps40
    go_wp2_with (go_at_call 60; refine Calls.mono h1 (fun e w1 hp => ?_); obtain ⟨⟨v, rfl, hv⟩, b1⟩ := hp; rcases hv.shape with ⟨D2, u2, rfl⟩ | rfl)
    all_goals (go_wp2; go_ret; exact ⟨⟨_, rfl, hv⟩, b1⟩)
set_option maxHeartbeats 8000000 in
set_option maxRecDepth 1000000 in
theorem sseal_any {w : World} {a b : Option Tm} {x y : Value} (ha : RO w a x) (hb : RO w b y) (ka : okO a) (kb : okO b) :
    Calls Tryd.prog 59 #[x, y] w fun e w' => (∃ v, e = .returned v ∧ RO w' (mkS a b) v) ∧ Below w.heap.size w w' := by
  have h1 := lock_any ha hb ka kb
  have shx := ha.shape
  have shy := hb.shape
  rcases shx with ⟨D, u, rfl⟩ | rfl <;> rcases shy with ⟨D', u', rfl⟩ | rfl <;>
  · go_enter Tryd.func59, Tryd.ntmps59
    go_wp2_with (go_at_call 68; refine Calls.mono h1 (fun e w1 hp => ?_); obtain ⟨⟨v, rfl, hv⟩, b1⟩ := hp; rcases hv.shape with ⟨D2, u2, rfl⟩ | rfl)
    all_goals (go_wp2; go_ret; exact ⟨⟨_, rfl, hv⟩, b1⟩)
set_option maxHeartbeats 8000000 in
set_option maxRecDepth 1000000 in
theorem shash_any {w : World} {a : Option Tm} {x : Value} (ha : RO w a x) (ka : okO a) :
    Calls Tryd.prog 61 #[x] w fun e w' => (∃ v, e = .returned v ∧ RO w' (mkH a) v) ∧ Below w.heap.size w w' := by
  have h1 := hash_any ha ka
  have shx := ha.shape
  rcases shx with ⟨D, u, rfl⟩ | rfl <;>
  · go_enter Tryd.func61, Tryd.ntmps61
    go_wp2_with (go_at_call 70; refine Calls.mono h1 (fun e w1 hp => ?_); obtain ⟨⟨v, rfl, hv⟩, b1⟩ := hp; rcases hv.shape with ⟨D2, u2, rfl⟩ | rfl)
    all_goals (go_wp2; go_ret; exact ⟨⟨_, rfl, hv⟩, b1⟩)
/-- a response, and the answer to one -/
def respO (u : Nat) (c p : Option Tm) : Option Tm := mkS (some (pwT u)) (mkP c p)
def answO (u : Nat) (r : Option Tm) : Option Tm := mkS (some (pwT u)) (mkP r (some okT'))
theorem resp_good {u : Nat} {c p : Option Tm} (hu : u < 10) (hc : goodO c) (hp : goodO p) : goodO (respO u c p) := good_S (pw_goodO u hu) (good_P hc hp)
theorem answ_good {u : Nat} {r : Option Tm} (hu : u < 10) (hr : goodO r) : goodO (answO u r) := good_S (pw_goodO u hu) (good_P hr ok_goodO)
theorem RO.below {w w' : World} {a : Option Tm} {x : Value} (h : RO w a x) (hb : Below w.heap.size w w') : RO w' a x := h.mono (KT.of_below hb)
set_option maxHeartbeats 8000000 in
set_option maxRecDepth 1000000 in
theorem resp_any {w : World} {u : Nat} {a b : Option Tm} {x y : Value} (hu : u < 10) (ha : RO w a x) (hb : RO w b y) (ka : goodO a) (kb : goodO b) :
    Calls Tryd.prog 39 #[.int .i64 (u : Nat), x, y] w fun e w' => (∃ v, e = .returned v ∧ RO w' (respO u a b) v) ∧ Below w.heap.size w w' := by
  have h44 := pw_any u hu w
  have hpg := pw_goodO u hu
  have h40 := spair_any ha hb ka.okO kb.okO
  have shx := ha.shape
  have shy := hb.shape
  rcases shx with ⟨D, u1, rfl⟩ | rfl <;> rcases shy with ⟨D', u', rfl⟩ | rfl <;>
  · go_enter Tryd.func39, Tryd.ntmps39
    go_wp2_with (go_at_call 44; refine Calls.mono h44 (fun e w1 hp => ?_); obtain ⟨⟨v, rfl, hv⟩, rfl⟩ := hp; obtain ⟨D, u, rfl⟩ := RT.shape hv)
    go_wp2_with (go_at_call 40; refine Calls.mono h40 (fun e w2 hp => ?_); obtain ⟨⟨v2, rfl, hv2⟩, b2⟩ := hp; have hvv := RO.below hv b2; have h59 := sseal_any hvv hv2 hpg.okO (good_P ka kb).okO; rcases hv2.shape with ⟨D2, u2, rfl⟩ | rfl)
    all_goals (
      go_wp2_with (go_at_call 59; refine Calls.mono h59 (fun e w3 hp => ?_); obtain ⟨⟨v3, rfl, hv3⟩, b3⟩ := hp; rcases hv3.shape with ⟨D3, u3, rfl⟩ | rfl)
      all_goals (go_wp2; go_ret; exact ⟨⟨_, rfl, hv3⟩, b2.trans (b3.mono b2.size)⟩))
set_option maxHeartbeats 8000000 in
set_option maxRecDepth 1000000 in
theorem answ_any {w : World} {u : Nat} {a : Option Tm} {x : Value} (hu : u < 10) (ha : RO w a x) (ka : goodO a) :
    Calls Tryd.prog 42 #[.int .i64 (u : Nat), x] w fun e w' => (∃ v, e = .returned v ∧ RO w' (answO u a) v) ∧ Below w.heap.size w w' := by
  have h44 := pw_any u hu w
  have hpg := pw_goodO u hu
  have h12 : Calls Tryd.prog 12 #[.string ⟨#[111, 107]⟩] w fun e w' => (∃ v, e = .returned (.tuple #[v, .int .i64 0]) ∧ RO w' (some okT') v) ∧ w' = w := atom_any (w := w) [111, 107] (by decide)
  have shx := ha.shape
  rcases shx with ⟨D, u1, rfl⟩ | rfl <;>
  · go_enter Tryd.func42, Tryd.ntmps42
    go_wp2_with (go_at_call 12; refine Calls.mono h12 (fun e w1 hp => ?_); obtain ⟨⟨v0, rfl, hv0⟩, rfl⟩ := hp; have h40 := spair_any ha hv0 ka.okO ok_goodO.okO; obtain ⟨D0, u0, rfl⟩ := RT.shape hv0)
    go_wp2_with (go_at_call 44; refine Calls.mono h44 (fun e w1 hp => ?_); obtain ⟨⟨v, rfl, hv⟩, rfl⟩ := hp; obtain ⟨D, u, rfl⟩ := RT.shape hv)
    go_wp2_with (go_at_call 40; refine Calls.mono h40 (fun e w2 hp => ?_); obtain ⟨⟨v2, rfl, hv2⟩, b2⟩ := hp; have hvv := RO.below hv b2; have h59 := sseal_any hvv hv2 hpg.okO (good_P ka ok_goodO).okO; rcases hv2.shape with ⟨D2, u2, rfl⟩ | rfl)
    all_goals (
      go_wp2_with (go_at_call 59; refine Calls.mono h59 (fun e w3 hp => ?_); obtain ⟨⟨v3, rfl, hv3⟩, b3⟩ := hp; rcases hv3.shape with ⟨D3, u3, rfl⟩ | rfl)
      all_goals (go_wp2; go_ret; exact ⟨⟨_, rfl, hv3⟩, b2.trans (b3.mono b2.size)⟩))
end Go.Proofs.YthigfakjiknhcaaDoorT
