/- The plain functions are the evaluator's. -/
import Derived.Test.YtcnkihdjenjdgaaEvGK3
import Derived.KernelRfl
namespace Go.Proofs.YtcnkihdjenjdgaaE
open Go
set_option linter.unusedVariables false
set_option linter.unusedSimpArgs false

def T23 : Nat → Option Ent
  | _ => none
def H23_0 : Trim := ⟨0, [], false, [0, 1, 5], []⟩
theorem l23_0 : loopN k23 0 = .loop H23_0 (bodyOf (loopN k23 0)) := by kernel_rfl
def P23_0 : Ps := ⟨[(0, (.tb (Sh.int .u8))), (1, (.tb (Sh.int .u8))), (4, .u), (5, (.int .i64)), (10, .u), (14, .u), (25, .u)], []⟩
def Q23_0 : Nat → Ps
  | 0 => ⟨[(0, .u), (1, .u), (4, .u), (5, .u), (10, .u), (14, .u), (25, .u)], []⟩
  | _ => noPs
def u23_0 (N n : Nat) (v : P23_0.T) (κ : (i : Nat) → (Q23_0 i).T → Option (Sh.bool).T) : Option (Sh.bool).T :=
  L23_0 N (κ 0 (((), ((), ((), ((), ((), ((), ((), ()))))))), ())) n v.1.1 v.1.2.1 v.1.2.2.2.1
def W23_0 (N : Nat) : LoopF (Sh.bool).T := fun no =>
  match no with
  | _ => fun _ _ => none
theorem b23_0 (N n : Nat) (v : P23_0.T) (κ : (i : Nat) → (Q23_0 i).T → Option (Sh.bool).T) :
    evc (T23) (rawOf RW0) (W23_0 N) (retc k23.res Sh.bool) (modeOf FT) 0 fuelC (bodyOf (loopN k23 0)) (P23_0.st v) (roundK 0 H23_0 P23_0 Q23_0 (u23_0 N n) κ) = u23_0 N (n + 1) v κ := by kernel_rfl
theorem o23_0 (hT : TabOK FT XT (T23)) (hO : RawOK FT XT (rawOf (α := (Sh.bool).T) RW0)) (N : Nat) {s : St} {κ : Ex → St → Option (Sh.bool).T} {a : (Sh.bool).T} (h : lpOf 0 H23_0 P23_0 Q23_0 (u23_0 N N) s κ = some a) : Out FT XT 0 (retc k23.res Sh.bool) (loopN k23 0) s κ a := by
  rw [l23_0]
  exact loop_out (LP := W23_0 N) (fu := fuelC) hT hO (fun _ _ => rfl) (b23_0 N) loopOK_nil N h
def W23 (N : Nat) : LoopF (Sh.bool).T := fun no =>
  match no with
  | 0 => lpOf 0 H23_0 P23_0 Q23_0 (u23_0 N N)
  | _ => fun _ _ => none
theorem e23 (N : Nat) (a0 : List Int) (a1 : List Int) : evc (T23) (rawOf RW0) (W23 N) (retc k23.res Sh.bool) (modeOf FT) 0 fuelC k23.body (env0 k23 (encL [(Sh.sl (Sh.int .u8)), (Sh.sl (Sh.int .u8))] (a0, (a1, ()))), []) (endK (retc k23.res Sh.bool)) = p23 N a0 a1 := by kernel_rfl
theorem ok23 {f : D23} (hf : ∀ a0 a1 r, f a0 a1 = some r → ∃ N, p23 N a0 a1 = some r) : EntOK FT XT 23 (en23 f) := by
  have hT : TabOK FT XT (T23) := by
    intro g en hg
    unfold T23 at hg
    split at hg <;> first | (injection hg with hg; subst hg; assumption) | cases hg
  have hO0 : RawOK FT XT (rawOf (α := (Sh.bool).T) RW0) := rawOK0
  have hO : RawOK FT XT (rawOf (α := (Sh.bool).T) RW0) := hO0
  refine ⟨rfl, fun v r h => ?_⟩
  obtain ⟨a0, a1, _⟩ := v
  obtain ⟨N, h1⟩ := hf _ _ _ h
  exact ans_c (R := Sh.bool) (tab := T23) (raw := (rawOf RW0)) (LP := W23 N) (fu := fuelC) hT hO rfl rfl (Nat.le_of_ble_eq_true rfl) (loopOK_cons l23_0 (fun s κ a h => o23_0 hT hO N h) loopOK_nil) ((e23 N _ _).trans h1)

def T111v0 : Nat → Option Ent
  | _ => none
def W111v0 (N : Nat) : LoopF QR111v0.T := fun no =>
  match no with
  | _ => fun _ _ => none
theorem e111v0 (N : Nat) (v : PR111v0.T) : evc (T111v0) (rawOf RW0) (W111v0 N) (retr k111.res 0 QR111v0) (modeOf FT) 0 fuelC k111.body (env0 k111 (PR111v0.a.st v.1), stH PR111v0.h v.2) (endK (retr k111.res 0 QR111v0)) = p111v0 N v.1.1 := by kernel_rfl
theorem ok111v0 {f : D111v0} (hf : ∀ a0 r, f a0 = some r → ∃ N, p111v0 N a0 = some r) : REntOK FT XT 111 (rn111v0 f) := by
  have hT : TabOK FT XT (T111v0) := by
    intro g en hg
    unfold T111v0 at hg
    split at hg <;> first | (injection hg with hg; subst hg; assumption) | cases hg
  have hO0 : RawOK FT XT (rawOf (α := QR111v0.T) RW0) := rawOK0
  have hO : RawOK FT XT (rawOf (α := QR111v0.T) RW0) := hO0
  intro v r w h hw
  obtain ⟨N, h1⟩ := hf _ _ h
  exact ans_r (Q := QR111v0) (tab := T111v0) (raw := (rawOf RW0)) (LP := W111v0 N) (fu := fuelC) hT hO rfl rfl (Nat.le_of_ble_eq_true rfl) rfl loopOK_nil ((e111v0 N v).trans h1) hw

def T86v6 (d111v0 : D111v0) (c108 : D108) : Nat → Option Ent
  | 108 => some (en108 c108)
  | _ => none
def RW86v6 (d111v0 : D111v0) (c108 : D108) : Nat → List REnt
  | 111 => [rn111v0 d111v0]
  | _ => []
def W86v6 (d111v0 : D111v0) (c108 : D108) (N : Nat) : LoopF QR86v6.T := fun no =>
  match no with
  | _ => fun _ _ => none
theorem e86v6 (d111v0 : D111v0) (c108 : D108) (N : Nat) (v : PR86v6.T) : evc (T86v6 d111v0 c108) (addI (T86v6 d111v0 c108) (modeOf FT) fuelC 107 k107 (addI (T86v6 d111v0 c108) (modeOf FT) fuelC 106 k106 (addI (T86v6 d111v0 c108) (modeOf FT) fuelC 110 k110 (rawOf (RW86v6 d111v0 c108))))) (W86v6 d111v0 c108 N) (retr k86.res 1 QR86v6) (modeOf FT) 1 fuelC k86.body (env0 k86 (PR86v6.a.st v.1), stH PR86v6.h v.2) (endK (retr k86.res 1 QR86v6)) = p86v6 d111v0 c108 N v.1.2.1 v.1.2.2.1 v.2.1.2.2.2.2.2.2.2.2.2.2.2.2.2.2.2.2.2.2.2.2.2.2.2.2.2.2.2.2.2.2.2.2.2.1 v.2.1.2.2.2.2.2.2.2.2.2.2.2.2.2.2.2.2.2.2.2.2.2.2.2.2.2.2.2.2.2.2.2.2.2.2.1 v.2.1.2.2.2.2.2.2.2.2.2.2.2.2.2.2.2.2.2.2.2.2.2.2.2.2.2.2.2.2.2.2.2.2.2.2.2.1 v.2.1.2.2.2.2.2.2.2.2.2.2.2.2.2.2.2.2.2.2.2.2.2.2.2.2.2.2.2.2.2.2.2.2.2.2.2.2.1 v.2.1.2.2.2.2.2.2.2.2.2.2.2.2.2.2.2.2.2.2.2.2.2.2.2.2.2.2.2.2.2.2.2.2.2.2.2.2.2.1 v.2.1.2.2.2.2.2.2.2.2.2.2.2.2.2.2.2.2.2.2.2.2.2.2.2.2.2.2.2.2.2.2.2.2.2.2.2.2.2.2.1 v.2.1.2.2.2.2.2.2.2.2.2.2.2.2.2.2.2.2.2.2.2.2.2.2.2.2.2.2.2.2.2.2.2.2.2.2.2.2.2.2.2.1 v.2.1.2.2.2.2.2.2.2.2.2.2.2.2.2.2.2.2.2.2.2.2.2.2.2.2.2.2.2.2.2.2.2.2.2.2.2.2.2.2.2.2.1 v.2.1.2.2.2.2.2.2.2.2.2.2.2.2.2.2.2.2.2.2.2.2.2.2.2.2.2.2.2.2.2.2.2.2.2.2.2.2.2.2.2.2.2.1 := by kernel_rfl
theorem ok86v6 (d111v0 : D111v0) (c108 : D108) (h108 : EntOK FT XT 108 (en108 c108)) (h111v0 : REntOK FT XT 111 (rn111v0 d111v0)) {f : D86v6} (hf : ∀ a0 a1 a2 a3 a4 a5 a6 a7 a8 a9 a10 r, f a0 a1 a2 a3 a4 a5 a6 a7 a8 a9 a10 = some r → ∃ N, p86v6 d111v0 c108 N a0 a1 a2 a3 a4 a5 a6 a7 a8 a9 a10 = some r) : REntOK FT XT 86 (rn86v6 f) := by
  have hT : TabOK FT XT (T86v6 d111v0 c108) := by
    intro g en hg
    unfold T86v6 at hg
    split at hg <;> first | (injection hg with hg; subst hg; assumption) | cases hg
  have hO0 : RawOK FT XT (rawOf (α := QR86v6.T) (RW86v6 d111v0 c108)) := by
    refine rawOf_ok (fun g en hg => ?_)
    unfold RW86v6 at hg
    split at hg <;> simp only [List.mem_cons, List.not_mem_nil, or_false] at hg <;> first | (subst hg; assumption) | (rcases hg with rfl | rfl <;> assumption) | (rcases hg with rfl | rfl | rfl <;> assumption) | (rcases hg with rfl | rfl | rfl | rfl <;> assumption)
  have hO : RawOK FT XT (addI (T86v6 d111v0 c108) (modeOf FT) fuelC 107 k107 (addI (T86v6 d111v0 c108) (modeOf FT) fuelC 106 k106 (addI (T86v6 d111v0 c108) (modeOf FT) fuelC 110 k110 (rawOf (α := QR86v6.T) (RW86v6 d111v0 c108))))) := addI_ok hT (addI_ok hT (addI_ok hT (hO0) rfl rfl) rfl rfl) rfl rfl
  intro v r w h hw
  obtain ⟨N, h1⟩ := hf _ _ _ _ _ _ _ _ _ _ _ _ h
  exact ans_r (Q := QR86v6) (tab := T86v6 d111v0 c108) (raw := (addI (T86v6 d111v0 c108) (modeOf FT) fuelC 107 k107 (addI (T86v6 d111v0 c108) (modeOf FT) fuelC 106 k106 (addI (T86v6 d111v0 c108) (modeOf FT) fuelC 110 k110 (rawOf (RW86v6 d111v0 c108)))))) (LP := W86v6 d111v0 c108 N) (fu := fuelC) hT hO rfl rfl (Nat.le_of_ble_eq_true rfl) rfl loopOK_nil ((e86v6 d111v0 c108 N v).trans h1) hw

def T88v5 (d111v0 : D111v0) (c108 : D108) : Nat → Option Ent
  | 108 => some (en108 c108)
  | _ => none
def RW88v5 (d111v0 : D111v0) (c108 : D108) : Nat → List REnt
  | 111 => [rn111v0 d111v0]
  | _ => []
def W88v5 (d111v0 : D111v0) (c108 : D108) (N : Nat) : LoopF QR88v5.T := fun no =>
  match no with
  | _ => fun _ _ => none
theorem e88v5 (d111v0 : D111v0) (c108 : D108) (N : Nat) (v : PR88v5.T) : evc (T88v5 d111v0 c108) (addI (T88v5 d111v0 c108) (modeOf FT) fuelC 109 k109 (addI (T88v5 d111v0 c108) (modeOf FT) fuelC 106 k106 (addI (T88v5 d111v0 c108) (modeOf FT) fuelC 110 k110 (rawOf (RW88v5 d111v0 c108))))) (W88v5 d111v0 c108 N) (retr k88.res 1 QR88v5) (modeOf FT) 1 fuelC k88.body (env0 k88 (PR88v5.a.st v.1), stH PR88v5.h v.2) (endK (retr k88.res 1 QR88v5)) = p88v5 d111v0 c108 N v.1.2.1 v.1.2.2.1 v.2.1.2.2.2.2.2.2.2.2.2.2.2.2.2.2.2.2.2.2.2.2.2.2.2.2.2.2.2.2.2.2.2.2.2.1 v.2.1.2.2.2.2.2.2.2.2.2.2.2.2.2.2.2.2.2.2.2.2.2.2.2.2.2.2.2.2.2.2.2.2.2.2.1 v.2.1.2.2.2.2.2.2.2.2.2.2.2.2.2.2.2.2.2.2.2.2.2.2.2.2.2.2.2.2.2.2.2.2.2.2.2.1 v.2.1.2.2.2.2.2.2.2.2.2.2.2.2.2.2.2.2.2.2.2.2.2.2.2.2.2.2.2.2.2.2.2.2.2.2.2.2.1 v.2.1.2.2.2.2.2.2.2.2.2.2.2.2.2.2.2.2.2.2.2.2.2.2.2.2.2.2.2.2.2.2.2.2.2.2.2.2.2.1 v.2.1.2.2.2.2.2.2.2.2.2.2.2.2.2.2.2.2.2.2.2.2.2.2.2.2.2.2.2.2.2.2.2.2.2.2.2.2.2.2.1 v.2.1.2.2.2.2.2.2.2.2.2.2.2.2.2.2.2.2.2.2.2.2.2.2.2.2.2.2.2.2.2.2.2.2.2.2.2.2.2.2.2.1 v.2.1.2.2.2.2.2.2.2.2.2.2.2.2.2.2.2.2.2.2.2.2.2.2.2.2.2.2.2.2.2.2.2.2.2.2.2.2.2.2.2.2.1 v.2.1.2.2.2.2.2.2.2.2.2.2.2.2.2.2.2.2.2.2.2.2.2.2.2.2.2.2.2.2.2.2.2.2.2.2.2.2.2.2.2.2.2.1 := by kernel_rfl
theorem ok88v5 (d111v0 : D111v0) (c108 : D108) (h108 : EntOK FT XT 108 (en108 c108)) (h111v0 : REntOK FT XT 111 (rn111v0 d111v0)) {f : D88v5} (hf : ∀ a0 a1 a2 a3 a4 a5 a6 a7 a8 a9 a10 r, f a0 a1 a2 a3 a4 a5 a6 a7 a8 a9 a10 = some r → ∃ N, p88v5 d111v0 c108 N a0 a1 a2 a3 a4 a5 a6 a7 a8 a9 a10 = some r) : REntOK FT XT 88 (rn88v5 f) := by
  have hT : TabOK FT XT (T88v5 d111v0 c108) := by
    intro g en hg
    unfold T88v5 at hg
    split at hg <;> first | (injection hg with hg; subst hg; assumption) | cases hg
  have hO0 : RawOK FT XT (rawOf (α := QR88v5.T) (RW88v5 d111v0 c108)) := by
    refine rawOf_ok (fun g en hg => ?_)
    unfold RW88v5 at hg
    split at hg <;> simp only [List.mem_cons, List.not_mem_nil, or_false] at hg <;> first | (subst hg; assumption) | (rcases hg with rfl | rfl <;> assumption) | (rcases hg with rfl | rfl | rfl <;> assumption) | (rcases hg with rfl | rfl | rfl | rfl <;> assumption)
  have hO : RawOK FT XT (addI (T88v5 d111v0 c108) (modeOf FT) fuelC 109 k109 (addI (T88v5 d111v0 c108) (modeOf FT) fuelC 106 k106 (addI (T88v5 d111v0 c108) (modeOf FT) fuelC 110 k110 (rawOf (α := QR88v5.T) (RW88v5 d111v0 c108))))) := addI_ok hT (addI_ok hT (addI_ok hT (hO0) rfl rfl) rfl rfl) rfl rfl
  intro v r w h hw
  obtain ⟨N, h1⟩ := hf _ _ _ _ _ _ _ _ _ _ _ _ h
  exact ans_r (Q := QR88v5) (tab := T88v5 d111v0 c108) (raw := (addI (T88v5 d111v0 c108) (modeOf FT) fuelC 109 k109 (addI (T88v5 d111v0 c108) (modeOf FT) fuelC 106 k106 (addI (T88v5 d111v0 c108) (modeOf FT) fuelC 110 k110 (rawOf (RW88v5 d111v0 c108)))))) (LP := W88v5 d111v0 c108 N) (fu := fuelC) hT hO rfl rfl (Nat.le_of_ble_eq_true rfl) rfl loopOK_nil ((e88v5 d111v0 c108 N v).trans h1) hw

def T99v2 : Nat → Option Ent
  | _ => none
def W99v2 (N : Nat) : LoopF QR99v2.T := fun no =>
  match no with
  | _ => fun _ _ => none
theorem e99v2 (N : Nat) (v : PR99v2.T) : evc (T99v2) (addI (T99v2) (modeOf FT) fuelC 110 k110 (rawOf RW0)) (W99v2 N) (retr k99.res 1 QR99v2) (modeOf FT) 1 fuelC k99.body (env0 k99 (PR99v2.a.st v.1), stH PR99v2.h v.2) (endK (retr k99.res 1 QR99v2)) = p99v2 N v.2.1.2.2.2.2.2.2.2.2.2.2.2.2.2.2.2.2.2.2.2.2.2.2.2.2.2.2.2.2.2.2.2.2.2.1 v.2.1.2.2.2.2.2.2.2.2.2.2.2.2.2.2.2.2.2.2.2.2.2.2.2.2.2.2.2.2.2.2.2.2.2.2.1 v.2.1.2.2.2.2.2.2.2.2.2.2.2.2.2.2.2.2.2.2.2.2.2.2.2.2.2.2.2.2.2.2.2.2.2.2.2.1 v.2.1.2.2.2.2.2.2.2.2.2.2.2.2.2.2.2.2.2.2.2.2.2.2.2.2.2.2.2.2.2.2.2.2.2.2.2.2.1 v.2.1.2.2.2.2.2.2.2.2.2.2.2.2.2.2.2.2.2.2.2.2.2.2.2.2.2.2.2.2.2.2.2.2.2.2.2.2.2.1 v.2.1.2.2.2.2.2.2.2.2.2.2.2.2.2.2.2.2.2.2.2.2.2.2.2.2.2.2.2.2.2.2.2.2.2.2.2.2.2.2.1 v.2.1.2.2.2.2.2.2.2.2.2.2.2.2.2.2.2.2.2.2.2.2.2.2.2.2.2.2.2.2.2.2.2.2.2.2.2.2.2.2.2.1 v.2.1.2.2.2.2.2.2.2.2.2.2.2.2.2.2.2.2.2.2.2.2.2.2.2.2.2.2.2.2.2.2.2.2.2.2.2.2.2.2.2.2.1 v.2.1.2.2.2.2.2.2.2.2.2.2.2.2.2.2.2.2.2.2.2.2.2.2.2.2.2.2.2.2.2.2.2.2.2.2.2.2.2.2.2.2.2.1 := by kernel_rfl
theorem ok99v2 {f : D99v2} (hf : ∀ a0 a1 a2 a3 a4 a5 a6 a7 a8 r, f a0 a1 a2 a3 a4 a5 a6 a7 a8 = some r → ∃ N, p99v2 N a0 a1 a2 a3 a4 a5 a6 a7 a8 = some r) : REntOK FT XT 99 (rn99v2 f) := by
  have hT : TabOK FT XT (T99v2) := by
    intro g en hg
    unfold T99v2 at hg
    split at hg <;> first | (injection hg with hg; subst hg; assumption) | cases hg
  have hO0 : RawOK FT XT (rawOf (α := QR99v2.T) RW0) := rawOK0
  have hO : RawOK FT XT (addI (T99v2) (modeOf FT) fuelC 110 k110 (rawOf (α := QR99v2.T) RW0)) := addI_ok hT (hO0) rfl rfl
  intro v r w h hw
  obtain ⟨N, h1⟩ := hf _ _ _ _ _ _ _ _ _ _ h
  exact ans_r (Q := QR99v2) (tab := T99v2) (raw := (addI (T99v2) (modeOf FT) fuelC 110 k110 (rawOf RW0))) (LP := W99v2 N) (fu := fuelC) hT hO rfl rfl (Nat.le_of_ble_eq_true rfl) rfl loopOK_nil ((e99v2 N v).trans h1) hw

def T84 (d86v6 : D86v6) (d88v5 : D88v5) (c108 : D108) (d99v2 : D99v2) : Nat → Option Ent
  | 108 => some (en108 c108)
  | _ => none
def RW84 (d86v6 : D86v6) (d88v5 : D88v5) (c108 : D108) (d99v2 : D99v2) : Nat → List REnt
  | 86 => [rn86v6 d86v6]
  | 88 => [rn88v5 d88v5]
  | 99 => [rn99v2 d99v2]
  | _ => []
def W84 (d86v6 : D86v6) (d88v5 : D88v5) (c108 : D108) (d99v2 : D99v2) (N : Nat) : LoopF (Sh.bool).T := fun no =>
  match no with
  | _ => fun _ _ => none
theorem e84 (d86v6 : D86v6) (d88v5 : D88v5) (c108 : D108) (d99v2 : D99v2) (N : Nat)  : evc (T84 d86v6 d88v5 c108 d99v2) (addI (T84 d86v6 d88v5 c108 d99v2) (modeOf FT) fuelC 98 k98 (addI (T84 d86v6 d88v5 c108 d99v2) (modeOf FT) fuelC 91 k91 (addI (T84 d86v6 d88v5 c108 d99v2) (modeOf FT) fuelC 90 k90 (addI (T84 d86v6 d88v5 c108 d99v2) (modeOf FT) fuelC 106 k106 (addI (T84 d86v6 d88v5 c108 d99v2) (modeOf FT) fuelC 111 k111 (addI (T84 d86v6 d88v5 c108 d99v2) (modeOf FT) fuelC 110 k110 (addI (T84 d86v6 d88v5 c108 d99v2) (modeOf FT) fuelC 85 k85 (rawOf (RW84 d86v6 d88v5 c108 d99v2))))))))) (W84 d86v6 d88v5 c108 d99v2 N) (retc k84.res Sh.bool) (modeOf FT) 0 fuelC k84.body (env0 k84 (encL [] ()), []) (endK (retc k84.res Sh.bool)) = p84 d86v6 d88v5 c108 d99v2 N  := by kernel_rfl
theorem ok84 (d86v6 : D86v6) (d88v5 : D88v5) (c108 : D108) (d99v2 : D99v2) (h108 : EntOK FT XT 108 (en108 c108)) (h86v6 : REntOK FT XT 86 (rn86v6 d86v6)) (h88v5 : REntOK FT XT 88 (rn88v5 d88v5)) (h99v2 : REntOK FT XT 99 (rn99v2 d99v2)) {f : D84} (hf : ∀  r, f  = some r → ∃ N, p84 d86v6 d88v5 c108 d99v2 N  = some r) : EntOK FT XT 84 (en84 f) := by
  have hT : TabOK FT XT (T84 d86v6 d88v5 c108 d99v2) := by
    intro g en hg
    unfold T84 at hg
    split at hg <;> first | (injection hg with hg; subst hg; assumption) | cases hg
  have hO0 : RawOK FT XT (rawOf (α := (Sh.bool).T) (RW84 d86v6 d88v5 c108 d99v2)) := by
    refine rawOf_ok (fun g en hg => ?_)
    unfold RW84 at hg
    split at hg <;> simp only [List.mem_cons, List.not_mem_nil, or_false] at hg <;> first | (subst hg; assumption) | (rcases hg with rfl | rfl <;> assumption) | (rcases hg with rfl | rfl | rfl <;> assumption) | (rcases hg with rfl | rfl | rfl | rfl <;> assumption)
  have hO : RawOK FT XT (addI (T84 d86v6 d88v5 c108 d99v2) (modeOf FT) fuelC 98 k98 (addI (T84 d86v6 d88v5 c108 d99v2) (modeOf FT) fuelC 91 k91 (addI (T84 d86v6 d88v5 c108 d99v2) (modeOf FT) fuelC 90 k90 (addI (T84 d86v6 d88v5 c108 d99v2) (modeOf FT) fuelC 106 k106 (addI (T84 d86v6 d88v5 c108 d99v2) (modeOf FT) fuelC 111 k111 (addI (T84 d86v6 d88v5 c108 d99v2) (modeOf FT) fuelC 110 k110 (addI (T84 d86v6 d88v5 c108 d99v2) (modeOf FT) fuelC 85 k85 (rawOf (α := (Sh.bool).T) (RW84 d86v6 d88v5 c108 d99v2))))))))) := addI_ok hT (addI_ok hT (addI_ok hT (addI_ok hT (addI_ok hT (addI_ok hT (addI_ok hT (hO0) rfl rfl) rfl rfl) rfl rfl) rfl rfl) rfl rfl) rfl rfl) rfl rfl
  refine ⟨rfl, fun v r h => ?_⟩
  obtain ⟨N, h1⟩ := hf _ h
  exact ans_c (R := Sh.bool) (tab := T84 d86v6 d88v5 c108 d99v2) (raw := (addI (T84 d86v6 d88v5 c108 d99v2) (modeOf FT) fuelC 98 k98 (addI (T84 d86v6 d88v5 c108 d99v2) (modeOf FT) fuelC 91 k91 (addI (T84 d86v6 d88v5 c108 d99v2) (modeOf FT) fuelC 90 k90 (addI (T84 d86v6 d88v5 c108 d99v2) (modeOf FT) fuelC 106 k106 (addI (T84 d86v6 d88v5 c108 d99v2) (modeOf FT) fuelC 111 k111 (addI (T84 d86v6 d88v5 c108 d99v2) (modeOf FT) fuelC 110 k110 (addI (T84 d86v6 d88v5 c108 d99v2) (modeOf FT) fuelC 85 k85 (rawOf (RW84 d86v6 d88v5 c108 d99v2)))))))))) (LP := W84 d86v6 d88v5 c108 d99v2 N) (fu := fuelC) hT hO rfl rfl (Nat.le_of_ble_eq_true rfl) loopOK_nil ((e84 d86v6 d88v5 c108 d99v2 N ).trans h1)

def T86v1 (d111v0 : D111v0) (c108 : D108) : Nat → Option Ent
  | 108 => some (en108 c108)
  | _ => none
def RW86v1 (d111v0 : D111v0) (c108 : D108) : Nat → List REnt
  | 111 => [rn111v0 d111v0]
  | _ => []
def W86v1 (d111v0 : D111v0) (c108 : D108) (N : Nat) : LoopF QR86v1.T := fun no =>
  match no with
  | _ => fun _ _ => none
theorem e86v1 (d111v0 : D111v0) (c108 : D108) (N : Nat) (v : PR86v1.T) : evc (T86v1 d111v0 c108) (addI (T86v1 d111v0 c108) (modeOf FT) fuelC 107 k107 (addI (T86v1 d111v0 c108) (modeOf FT) fuelC 106 k106 (addI (T86v1 d111v0 c108) (modeOf FT) fuelC 110 k110 (rawOf (RW86v1 d111v0 c108))))) (W86v1 d111v0 c108 N) (retr k86.res 1 QR86v1) (modeOf FT) 1 fuelC k86.body (env0 k86 (PR86v1.a.st v.1), stH PR86v1.h v.2) (endK (retr k86.res 1 QR86v1)) = p86v1 d111v0 c108 N v.1.2.1 v.1.2.2.1 v.2.1.2.2.2.2.2.2.2.2.2.2.2.2.2.2.2.2.2.2.2.2.2.2.2.2.2.2.2.2.2.2.2.2.2.1 v.2.1.2.2.2.2.2.2.2.2.2.2.2.2.2.2.2.2.2.2.2.2.2.2.2.2.2.2.2.2.2.2.2.2.2.2.1 v.2.1.2.2.2.2.2.2.2.2.2.2.2.2.2.2.2.2.2.2.2.2.2.2.2.2.2.2.2.2.2.2.2.2.2.2.2.1 v.2.1.2.2.2.2.2.2.2.2.2.2.2.2.2.2.2.2.2.2.2.2.2.2.2.2.2.2.2.2.2.2.2.2.2.2.2.2.1 v.2.1.2.2.2.2.2.2.2.2.2.2.2.2.2.2.2.2.2.2.2.2.2.2.2.2.2.2.2.2.2.2.2.2.2.2.2.2.2.1 v.2.1.2.2.2.2.2.2.2.2.2.2.2.2.2.2.2.2.2.2.2.2.2.2.2.2.2.2.2.2.2.2.2.2.2.2.2.2.2.2.1 v.2.1.2.2.2.2.2.2.2.2.2.2.2.2.2.2.2.2.2.2.2.2.2.2.2.2.2.2.2.2.2.2.2.2.2.2.2.2.2.2.2.1 v.2.1.2.2.2.2.2.2.2.2.2.2.2.2.2.2.2.2.2.2.2.2.2.2.2.2.2.2.2.2.2.2.2.2.2.2.2.2.2.2.2.2.1 v.2.1.2.2.2.2.2.2.2.2.2.2.2.2.2.2.2.2.2.2.2.2.2.2.2.2.2.2.2.2.2.2.2.2.2.2.2.2.2.2.2.2.2.1 := by kernel_rfl
theorem ok86v1 (d111v0 : D111v0) (c108 : D108) (h108 : EntOK FT XT 108 (en108 c108)) (h111v0 : REntOK FT XT 111 (rn111v0 d111v0)) {f : D86v1} (hf : ∀ a0 a1 a2 a3 a4 a5 a6 a7 a8 a9 a10 r, f a0 a1 a2 a3 a4 a5 a6 a7 a8 a9 a10 = some r → ∃ N, p86v1 d111v0 c108 N a0 a1 a2 a3 a4 a5 a6 a7 a8 a9 a10 = some r) : REntOK FT XT 86 (rn86v1 f) := by
  have hT : TabOK FT XT (T86v1 d111v0 c108) := by
    intro g en hg
    unfold T86v1 at hg
    split at hg <;> first | (injection hg with hg; subst hg; assumption) | cases hg
  have hO0 : RawOK FT XT (rawOf (α := QR86v1.T) (RW86v1 d111v0 c108)) := by
    refine rawOf_ok (fun g en hg => ?_)
    unfold RW86v1 at hg
    split at hg <;> simp only [List.mem_cons, List.not_mem_nil, or_false] at hg <;> first | (subst hg; assumption) | (rcases hg with rfl | rfl <;> assumption) | (rcases hg with rfl | rfl | rfl <;> assumption) | (rcases hg with rfl | rfl | rfl | rfl <;> assumption)
  have hO : RawOK FT XT (addI (T86v1 d111v0 c108) (modeOf FT) fuelC 107 k107 (addI (T86v1 d111v0 c108) (modeOf FT) fuelC 106 k106 (addI (T86v1 d111v0 c108) (modeOf FT) fuelC 110 k110 (rawOf (α := QR86v1.T) (RW86v1 d111v0 c108))))) := addI_ok hT (addI_ok hT (addI_ok hT (hO0) rfl rfl) rfl rfl) rfl rfl
  intro v r w h hw
  obtain ⟨N, h1⟩ := hf _ _ _ _ _ _ _ _ _ _ _ _ h
  exact ans_r (Q := QR86v1) (tab := T86v1 d111v0 c108) (raw := (addI (T86v1 d111v0 c108) (modeOf FT) fuelC 107 k107 (addI (T86v1 d111v0 c108) (modeOf FT) fuelC 106 k106 (addI (T86v1 d111v0 c108) (modeOf FT) fuelC 110 k110 (rawOf (RW86v1 d111v0 c108)))))) (LP := W86v1 d111v0 c108 N) (fu := fuelC) hT hO rfl rfl (Nat.le_of_ble_eq_true rfl) rfl loopOK_nil ((e86v1 d111v0 c108 N v).trans h1) hw

def T86v2 (d111v0 : D111v0) (c108 : D108) : Nat → Option Ent
  | 108 => some (en108 c108)
  | _ => none
def RW86v2 (d111v0 : D111v0) (c108 : D108) : Nat → List REnt
  | 111 => [rn111v0 d111v0]
  | _ => []
def W86v2 (d111v0 : D111v0) (c108 : D108) (N : Nat) : LoopF QR86v2.T := fun no =>
  match no with
  | _ => fun _ _ => none
theorem e86v2 (d111v0 : D111v0) (c108 : D108) (N : Nat) (v : PR86v2.T) : evc (T86v2 d111v0 c108) (addI (T86v2 d111v0 c108) (modeOf FT) fuelC 107 k107 (addI (T86v2 d111v0 c108) (modeOf FT) fuelC 106 k106 (addI (T86v2 d111v0 c108) (modeOf FT) fuelC 110 k110 (rawOf (RW86v2 d111v0 c108))))) (W86v2 d111v0 c108 N) (retr k86.res 1 QR86v2) (modeOf FT) 1 fuelC k86.body (env0 k86 (PR86v2.a.st v.1), stH PR86v2.h v.2) (endK (retr k86.res 1 QR86v2)) = p86v2 d111v0 c108 N v.1.2.1 v.1.2.2.1 v.2.1.2.2.2.2.2.2.2.2.2.2.2.2.2.2.2.2.2.2.2.2.2.2.2.2.2.2.2.2.2.2.2.2.2.1 v.2.1.2.2.2.2.2.2.2.2.2.2.2.2.2.2.2.2.2.2.2.2.2.2.2.2.2.2.2.2.2.2.2.2.2.2.1 v.2.1.2.2.2.2.2.2.2.2.2.2.2.2.2.2.2.2.2.2.2.2.2.2.2.2.2.2.2.2.2.2.2.2.2.2.2.1 v.2.1.2.2.2.2.2.2.2.2.2.2.2.2.2.2.2.2.2.2.2.2.2.2.2.2.2.2.2.2.2.2.2.2.2.2.2.2.1 v.2.1.2.2.2.2.2.2.2.2.2.2.2.2.2.2.2.2.2.2.2.2.2.2.2.2.2.2.2.2.2.2.2.2.2.2.2.2.2.1 v.2.1.2.2.2.2.2.2.2.2.2.2.2.2.2.2.2.2.2.2.2.2.2.2.2.2.2.2.2.2.2.2.2.2.2.2.2.2.2.2.1 v.2.1.2.2.2.2.2.2.2.2.2.2.2.2.2.2.2.2.2.2.2.2.2.2.2.2.2.2.2.2.2.2.2.2.2.2.2.2.2.2.2.1 v.2.1.2.2.2.2.2.2.2.2.2.2.2.2.2.2.2.2.2.2.2.2.2.2.2.2.2.2.2.2.2.2.2.2.2.2.2.2.2.2.2.2.1 v.2.1.2.2.2.2.2.2.2.2.2.2.2.2.2.2.2.2.2.2.2.2.2.2.2.2.2.2.2.2.2.2.2.2.2.2.2.2.2.2.2.2.2.1 := by kernel_rfl
theorem ok86v2 (d111v0 : D111v0) (c108 : D108) (h108 : EntOK FT XT 108 (en108 c108)) (h111v0 : REntOK FT XT 111 (rn111v0 d111v0)) {f : D86v2} (hf : ∀ a0 a1 a2 a3 a4 a5 a6 a7 a8 a9 a10 r, f a0 a1 a2 a3 a4 a5 a6 a7 a8 a9 a10 = some r → ∃ N, p86v2 d111v0 c108 N a0 a1 a2 a3 a4 a5 a6 a7 a8 a9 a10 = some r) : REntOK FT XT 86 (rn86v2 f) := by
  have hT : TabOK FT XT (T86v2 d111v0 c108) := by
    intro g en hg
    unfold T86v2 at hg
    split at hg <;> first | (injection hg with hg; subst hg; assumption) | cases hg
  have hO0 : RawOK FT XT (rawOf (α := QR86v2.T) (RW86v2 d111v0 c108)) := by
    refine rawOf_ok (fun g en hg => ?_)
    unfold RW86v2 at hg
    split at hg <;> simp only [List.mem_cons, List.not_mem_nil, or_false] at hg <;> first | (subst hg; assumption) | (rcases hg with rfl | rfl <;> assumption) | (rcases hg with rfl | rfl | rfl <;> assumption) | (rcases hg with rfl | rfl | rfl | rfl <;> assumption)
  have hO : RawOK FT XT (addI (T86v2 d111v0 c108) (modeOf FT) fuelC 107 k107 (addI (T86v2 d111v0 c108) (modeOf FT) fuelC 106 k106 (addI (T86v2 d111v0 c108) (modeOf FT) fuelC 110 k110 (rawOf (α := QR86v2.T) (RW86v2 d111v0 c108))))) := addI_ok hT (addI_ok hT (addI_ok hT (hO0) rfl rfl) rfl rfl) rfl rfl
  intro v r w h hw
  obtain ⟨N, h1⟩ := hf _ _ _ _ _ _ _ _ _ _ _ _ h
  exact ans_r (Q := QR86v2) (tab := T86v2 d111v0 c108) (raw := (addI (T86v2 d111v0 c108) (modeOf FT) fuelC 107 k107 (addI (T86v2 d111v0 c108) (modeOf FT) fuelC 106 k106 (addI (T86v2 d111v0 c108) (modeOf FT) fuelC 110 k110 (rawOf (RW86v2 d111v0 c108)))))) (LP := W86v2 d111v0 c108 N) (fu := fuelC) hT hO rfl rfl (Nat.le_of_ble_eq_true rfl) rfl loopOK_nil ((e86v2 d111v0 c108 N v).trans h1) hw

def T90v0 (d111v0 : D111v0) (c108 : D108) : Nat → Option Ent
  | 108 => some (en108 c108)
  | _ => none
def RW90v0 (d111v0 : D111v0) (c108 : D108) : Nat → List REnt
  | 111 => [rn111v0 d111v0]
  | _ => []
def W90v0 (d111v0 : D111v0) (c108 : D108) (N : Nat) : LoopF QR90v0.T := fun no =>
  match no with
  | _ => fun _ _ => none
theorem e90v0 (d111v0 : D111v0) (c108 : D108) (N : Nat) (v : PR90v0.T) : evc (T90v0 d111v0 c108) (addI (T90v0 d111v0 c108) (modeOf FT) fuelC 106 k106 (addI (T90v0 d111v0 c108) (modeOf FT) fuelC 110 k110 (rawOf (RW90v0 d111v0 c108)))) (W90v0 d111v0 c108 N) (retr k90.res 1 QR90v0) (modeOf FT) 1 fuelC k90.body (env0 k90 (PR90v0.a.st v.1), stH PR90v0.h v.2) (endK (retr k90.res 1 QR90v0)) = p90v0 d111v0 c108 N v.1.2.1 v.2.1.2.2.2.2.2.2.2.2.2.2.2.2.2.2.2.2.2.2.2.2.2.2.2.2.2.2.2.2.2.2.2.2.2.1 v.2.1.2.2.2.2.2.2.2.2.2.2.2.2.2.2.2.2.2.2.2.2.2.2.2.2.2.2.2.2.2.2.2.2.2.2.1 v.2.1.2.2.2.2.2.2.2.2.2.2.2.2.2.2.2.2.2.2.2.2.2.2.2.2.2.2.2.2.2.2.2.2.2.2.2.1 v.2.1.2.2.2.2.2.2.2.2.2.2.2.2.2.2.2.2.2.2.2.2.2.2.2.2.2.2.2.2.2.2.2.2.2.2.2.2.1 v.2.1.2.2.2.2.2.2.2.2.2.2.2.2.2.2.2.2.2.2.2.2.2.2.2.2.2.2.2.2.2.2.2.2.2.2.2.2.2.1 v.2.1.2.2.2.2.2.2.2.2.2.2.2.2.2.2.2.2.2.2.2.2.2.2.2.2.2.2.2.2.2.2.2.2.2.2.2.2.2.2.1 v.2.1.2.2.2.2.2.2.2.2.2.2.2.2.2.2.2.2.2.2.2.2.2.2.2.2.2.2.2.2.2.2.2.2.2.2.2.2.2.2.2.1 v.2.1.2.2.2.2.2.2.2.2.2.2.2.2.2.2.2.2.2.2.2.2.2.2.2.2.2.2.2.2.2.2.2.2.2.2.2.2.2.2.2.2.1 v.2.1.2.2.2.2.2.2.2.2.2.2.2.2.2.2.2.2.2.2.2.2.2.2.2.2.2.2.2.2.2.2.2.2.2.2.2.2.2.2.2.2.2.1 := by kernel_rfl
theorem ok90v0 (d111v0 : D111v0) (c108 : D108) (h108 : EntOK FT XT 108 (en108 c108)) (h111v0 : REntOK FT XT 111 (rn111v0 d111v0)) {f : D90v0} (hf : ∀ a0 a1 a2 a3 a4 a5 a6 a7 a8 a9 r, f a0 a1 a2 a3 a4 a5 a6 a7 a8 a9 = some r → ∃ N, p90v0 d111v0 c108 N a0 a1 a2 a3 a4 a5 a6 a7 a8 a9 = some r) : REntOK FT XT 90 (rn90v0 f) := by
  have hT : TabOK FT XT (T90v0 d111v0 c108) := by
    intro g en hg
    unfold T90v0 at hg
    split at hg <;> first | (injection hg with hg; subst hg; assumption) | cases hg
  have hO0 : RawOK FT XT (rawOf (α := QR90v0.T) (RW90v0 d111v0 c108)) := by
    refine rawOf_ok (fun g en hg => ?_)
    unfold RW90v0 at hg
    split at hg <;> simp only [List.mem_cons, List.not_mem_nil, or_false] at hg <;> first | (subst hg; assumption) | (rcases hg with rfl | rfl <;> assumption) | (rcases hg with rfl | rfl | rfl <;> assumption) | (rcases hg with rfl | rfl | rfl | rfl <;> assumption)
  have hO : RawOK FT XT (addI (T90v0 d111v0 c108) (modeOf FT) fuelC 106 k106 (addI (T90v0 d111v0 c108) (modeOf FT) fuelC 110 k110 (rawOf (α := QR90v0.T) (RW90v0 d111v0 c108)))) := addI_ok hT (addI_ok hT (hO0) rfl rfl) rfl rfl
  intro v r w h hw
  obtain ⟨N, h1⟩ := hf _ _ _ _ _ _ _ _ _ _ _ h
  exact ans_r (Q := QR90v0) (tab := T90v0 d111v0 c108) (raw := (addI (T90v0 d111v0 c108) (modeOf FT) fuelC 106 k106 (addI (T90v0 d111v0 c108) (modeOf FT) fuelC 110 k110 (rawOf (RW90v0 d111v0 c108))))) (LP := W90v0 d111v0 c108 N) (fu := fuelC) hT hO rfl rfl (Nat.le_of_ble_eq_true rfl) rfl loopOK_nil ((e90v0 d111v0 c108 N v).trans h1) hw

def T91v0 (d90v0 : D90v0) : Nat → Option Ent
  | _ => none
def RW91v0 (d90v0 : D90v0) : Nat → List REnt
  | 90 => [rn90v0 d90v0]
  | _ => []
def W91v0 (d90v0 : D90v0) (N : Nat) : LoopF QR91v0.T := fun no =>
  match no with
  | _ => fun _ _ => none
theorem e91v0 (d90v0 : D90v0) (N : Nat) (v : PR91v0.T) : evc (T91v0 d90v0) (rawOf (RW91v0 d90v0)) (W91v0 d90v0 N) (retr k91.res 1 QR91v0) (modeOf FT) 1 fuelC k91.body (env0 k91 (PR91v0.a.st v.1), stH PR91v0.h v.2) (endK (retr k91.res 1 QR91v0)) = p91v0 d90v0 N v.1.2.1 v.2.1.2.2.2.2.2.2.2.2.2.2.2.2.2.2.2.2.2.2.2.2.2.2.2.2.2.2.2.2.2.2.2.2.2.1 v.2.1.2.2.2.2.2.2.2.2.2.2.2.2.2.2.2.2.2.2.2.2.2.2.2.2.2.2.2.2.2.2.2.2.2.2.1 v.2.1.2.2.2.2.2.2.2.2.2.2.2.2.2.2.2.2.2.2.2.2.2.2.2.2.2.2.2.2.2.2.2.2.2.2.2.1 v.2.1.2.2.2.2.2.2.2.2.2.2.2.2.2.2.2.2.2.2.2.2.2.2.2.2.2.2.2.2.2.2.2.2.2.2.2.2.1 v.2.1.2.2.2.2.2.2.2.2.2.2.2.2.2.2.2.2.2.2.2.2.2.2.2.2.2.2.2.2.2.2.2.2.2.2.2.2.2.1 v.2.1.2.2.2.2.2.2.2.2.2.2.2.2.2.2.2.2.2.2.2.2.2.2.2.2.2.2.2.2.2.2.2.2.2.2.2.2.2.2.1 v.2.1.2.2.2.2.2.2.2.2.2.2.2.2.2.2.2.2.2.2.2.2.2.2.2.2.2.2.2.2.2.2.2.2.2.2.2.2.2.2.2.1 v.2.1.2.2.2.2.2.2.2.2.2.2.2.2.2.2.2.2.2.2.2.2.2.2.2.2.2.2.2.2.2.2.2.2.2.2.2.2.2.2.2.2.1 v.2.1.2.2.2.2.2.2.2.2.2.2.2.2.2.2.2.2.2.2.2.2.2.2.2.2.2.2.2.2.2.2.2.2.2.2.2.2.2.2.2.2.2.1 := by kernel_rfl
theorem ok91v0 (d90v0 : D90v0) (h90v0 : REntOK FT XT 90 (rn90v0 d90v0)) {f : D91v0} (hf : ∀ a0 a1 a2 a3 a4 a5 a6 a7 a8 a9 r, f a0 a1 a2 a3 a4 a5 a6 a7 a8 a9 = some r → ∃ N, p91v0 d90v0 N a0 a1 a2 a3 a4 a5 a6 a7 a8 a9 = some r) : REntOK FT XT 91 (rn91v0 f) := by
  have hT : TabOK FT XT (T91v0 d90v0) := by
    intro g en hg
    unfold T91v0 at hg
    split at hg <;> first | (injection hg with hg; subst hg; assumption) | cases hg
  have hO0 : RawOK FT XT (rawOf (α := QR91v0.T) (RW91v0 d90v0)) := by
    refine rawOf_ok (fun g en hg => ?_)
    unfold RW91v0 at hg
    split at hg <;> simp only [List.mem_cons, List.not_mem_nil, or_false] at hg <;> first | (subst hg; assumption) | (rcases hg with rfl | rfl <;> assumption) | (rcases hg with rfl | rfl | rfl <;> assumption) | (rcases hg with rfl | rfl | rfl | rfl <;> assumption)
  have hO : RawOK FT XT (rawOf (α := QR91v0.T) (RW91v0 d90v0)) := hO0
  intro v r w h hw
  obtain ⟨N, h1⟩ := hf _ _ _ _ _ _ _ _ _ _ _ h
  exact ans_r (Q := QR91v0) (tab := T91v0 d90v0) (raw := (rawOf (RW91v0 d90v0))) (LP := W91v0 d90v0 N) (fu := fuelC) hT hO rfl rfl (Nat.le_of_ble_eq_true rfl) rfl loopOK_nil ((e91v0 d90v0 N v).trans h1) hw

def T88v1 (d111v0 : D111v0) (c108 : D108) : Nat → Option Ent
  | 108 => some (en108 c108)
  | _ => none
def RW88v1 (d111v0 : D111v0) (c108 : D108) : Nat → List REnt
  | 111 => [rn111v0 d111v0]
  | _ => []
def W88v1 (d111v0 : D111v0) (c108 : D108) (N : Nat) : LoopF QR88v1.T := fun no =>
  match no with
  | _ => fun _ _ => none
theorem e88v1 (d111v0 : D111v0) (c108 : D108) (N : Nat) (v : PR88v1.T) : evc (T88v1 d111v0 c108) (addI (T88v1 d111v0 c108) (modeOf FT) fuelC 109 k109 (addI (T88v1 d111v0 c108) (modeOf FT) fuelC 106 k106 (addI (T88v1 d111v0 c108) (modeOf FT) fuelC 110 k110 (rawOf (RW88v1 d111v0 c108))))) (W88v1 d111v0 c108 N) (retr k88.res 1 QR88v1) (modeOf FT) 1 fuelC k88.body (env0 k88 (PR88v1.a.st v.1), stH PR88v1.h v.2) (endK (retr k88.res 1 QR88v1)) = p88v1 d111v0 c108 N v.1.2.1 v.1.2.2.1 v.2.1.2.2.2.2.2.2.2.2.2.2.2.2.2.2.2.2.2.2.2.2.2.2.2.2.2.2.2.2.2.2.2.2.2.1 v.2.1.2.2.2.2.2.2.2.2.2.2.2.2.2.2.2.2.2.2.2.2.2.2.2.2.2.2.2.2.2.2.2.2.2.2.1 v.2.1.2.2.2.2.2.2.2.2.2.2.2.2.2.2.2.2.2.2.2.2.2.2.2.2.2.2.2.2.2.2.2.2.2.2.2.1 v.2.1.2.2.2.2.2.2.2.2.2.2.2.2.2.2.2.2.2.2.2.2.2.2.2.2.2.2.2.2.2.2.2.2.2.2.2.2.1 v.2.1.2.2.2.2.2.2.2.2.2.2.2.2.2.2.2.2.2.2.2.2.2.2.2.2.2.2.2.2.2.2.2.2.2.2.2.2.2.1 v.2.1.2.2.2.2.2.2.2.2.2.2.2.2.2.2.2.2.2.2.2.2.2.2.2.2.2.2.2.2.2.2.2.2.2.2.2.2.2.2.1 v.2.1.2.2.2.2.2.2.2.2.2.2.2.2.2.2.2.2.2.2.2.2.2.2.2.2.2.2.2.2.2.2.2.2.2.2.2.2.2.2.2.1 v.2.1.2.2.2.2.2.2.2.2.2.2.2.2.2.2.2.2.2.2.2.2.2.2.2.2.2.2.2.2.2.2.2.2.2.2.2.2.2.2.2.2.1 v.2.1.2.2.2.2.2.2.2.2.2.2.2.2.2.2.2.2.2.2.2.2.2.2.2.2.2.2.2.2.2.2.2.2.2.2.2.2.2.2.2.2.2.1 := by kernel_rfl
theorem ok88v1 (d111v0 : D111v0) (c108 : D108) (h108 : EntOK FT XT 108 (en108 c108)) (h111v0 : REntOK FT XT 111 (rn111v0 d111v0)) {f : D88v1} (hf : ∀ a0 a1 a2 a3 a4 a5 a6 a7 a8 a9 a10 r, f a0 a1 a2 a3 a4 a5 a6 a7 a8 a9 a10 = some r → ∃ N, p88v1 d111v0 c108 N a0 a1 a2 a3 a4 a5 a6 a7 a8 a9 a10 = some r) : REntOK FT XT 88 (rn88v1 f) := by
  have hT : TabOK FT XT (T88v1 d111v0 c108) := by
    intro g en hg
    unfold T88v1 at hg
    split at hg <;> first | (injection hg with hg; subst hg; assumption) | cases hg
  have hO0 : RawOK FT XT (rawOf (α := QR88v1.T) (RW88v1 d111v0 c108)) := by
    refine rawOf_ok (fun g en hg => ?_)
    unfold RW88v1 at hg
    split at hg <;> simp only [List.mem_cons, List.not_mem_nil, or_false] at hg <;> first | (subst hg; assumption) | (rcases hg with rfl | rfl <;> assumption) | (rcases hg with rfl | rfl | rfl <;> assumption) | (rcases hg with rfl | rfl | rfl | rfl <;> assumption)
  have hO : RawOK FT XT (addI (T88v1 d111v0 c108) (modeOf FT) fuelC 109 k109 (addI (T88v1 d111v0 c108) (modeOf FT) fuelC 106 k106 (addI (T88v1 d111v0 c108) (modeOf FT) fuelC 110 k110 (rawOf (α := QR88v1.T) (RW88v1 d111v0 c108))))) := addI_ok hT (addI_ok hT (addI_ok hT (hO0) rfl rfl) rfl rfl) rfl rfl
  intro v r w h hw
  obtain ⟨N, h1⟩ := hf _ _ _ _ _ _ _ _ _ _ _ _ h
  exact ans_r (Q := QR88v1) (tab := T88v1 d111v0 c108) (raw := (addI (T88v1 d111v0 c108) (modeOf FT) fuelC 109 k109 (addI (T88v1 d111v0 c108) (modeOf FT) fuelC 106 k106 (addI (T88v1 d111v0 c108) (modeOf FT) fuelC 110 k110 (rawOf (RW88v1 d111v0 c108)))))) (LP := W88v1 d111v0 c108 N) (fu := fuelC) hT hO rfl rfl (Nat.le_of_ble_eq_true rfl) rfl loopOK_nil ((e88v1 d111v0 c108 N v).trans h1) hw

def T92v0 (d111v0 : D111v0) (d91v0 : D91v0) (d88v1 : D88v1) (d86v2 : D86v2) : Nat → Option Ent
  | _ => none
def RW92v0 (d111v0 : D111v0) (d91v0 : D91v0) (d88v1 : D88v1) (d86v2 : D86v2) : Nat → List REnt
  | 111 => [rn111v0 d111v0]
  | 91 => [rn91v0 d91v0]
  | 88 => [rn88v1 d88v1]
  | 86 => [rn86v2 d86v2]
  | _ => []
def W92v0 (d111v0 : D111v0) (d91v0 : D91v0) (d88v1 : D88v1) (d86v2 : D86v2) (N : Nat) : LoopF QR92v0.T := fun no =>
  match no with
  | _ => fun _ _ => none
theorem e92v0 (d111v0 : D111v0) (d91v0 : D91v0) (d88v1 : D88v1) (d86v2 : D86v2) (N : Nat) (v : PR92v0.T) : evc (T92v0 d111v0 d91v0 d88v1 d86v2) (addI (T92v0 d111v0 d91v0 d88v1 d86v2) (modeOf FT) fuelC 110 k110 (addI (T92v0 d111v0 d91v0 d88v1 d86v2) (modeOf FT) fuelC 107 k107 (rawOf (RW92v0 d111v0 d91v0 d88v1 d86v2)))) (W92v0 d111v0 d91v0 d88v1 d86v2 N) (retr k92.res 2 QR92v0) (modeOf FT) 2 fuelC k92.body (env0 k92 (PR92v0.a.st v.1), stH PR92v0.h v.2) (endK (retr k92.res 2 QR92v0)) = p92v0 d111v0 d91v0 d88v1 d86v2 N v.1.2.1 v.1.2.2.2.1 v.1.2.2.2.2.1 v.2.1.2.2.2.2.2.2.2.2.2.2.2.2.2.2.2.2.2.2.2.2.2.2.2.2.2.2.2.2.2.2.2.2.2.1 v.2.1.2.2.2.2.2.2.2.2.2.2.2.2.2.2.2.2.2.2.2.2.2.2.2.2.2.2.2.2.2.2.2.2.2.2.1 v.2.1.2.2.2.2.2.2.2.2.2.2.2.2.2.2.2.2.2.2.2.2.2.2.2.2.2.2.2.2.2.2.2.2.2.2.2.1 v.2.1.2.2.2.2.2.2.2.2.2.2.2.2.2.2.2.2.2.2.2.2.2.2.2.2.2.2.2.2.2.2.2.2.2.2.2.2.1 v.2.1.2.2.2.2.2.2.2.2.2.2.2.2.2.2.2.2.2.2.2.2.2.2.2.2.2.2.2.2.2.2.2.2.2.2.2.2.2.1 v.2.1.2.2.2.2.2.2.2.2.2.2.2.2.2.2.2.2.2.2.2.2.2.2.2.2.2.2.2.2.2.2.2.2.2.2.2.2.2.2.1 v.2.1.2.2.2.2.2.2.2.2.2.2.2.2.2.2.2.2.2.2.2.2.2.2.2.2.2.2.2.2.2.2.2.2.2.2.2.2.2.2.2.1 v.2.1.2.2.2.2.2.2.2.2.2.2.2.2.2.2.2.2.2.2.2.2.2.2.2.2.2.2.2.2.2.2.2.2.2.2.2.2.2.2.2.2.1 v.2.1.2.2.2.2.2.2.2.2.2.2.2.2.2.2.2.2.2.2.2.2.2.2.2.2.2.2.2.2.2.2.2.2.2.2.2.2.2.2.2.2.2.1 v.2.2.1.2.2.2.2.2.2.2.2.2.2.2.2.2.2.2.2.2.2.2.2.2.2.2.2.2.2.2.2.2.2.2.2.2.1 v.2.2.1.2.2.2.2.2.2.2.2.2.2.2.2.2.2.2.2.2.2.2.2.2.2.2.2.2.2.2.2.2.2.2.2.2.2.1 v.2.2.1.2.2.2.2.2.2.2.2.2.2.2.2.2.2.2.2.2.2.2.2.2.2.2.2.2.2.2.2.2.2.2.2.2.2.2.1 v.2.2.1.2.2.2.2.2.2.2.2.2.2.2.2.2.2.2.2.2.2.2.2.2.2.2.2.2.2.2.2.2.2.2.2.2.2.2.2.1 v.2.2.1.2.2.2.2.2.2.2.2.2.2.2.2.2.2.2.2.2.2.2.2.2.2.2.2.2.2.2.2.2.2.2.2.2.2.2.2.2.1 v.2.2.1.2.2.2.2.2.2.2.2.2.2.2.2.2.2.2.2.2.2.2.2.2.2.2.2.2.2.2.2.2.2.2.2.2.2.2.2.2.2.1 v.2.2.1.2.2.2.2.2.2.2.2.2.2.2.2.2.2.2.2.2.2.2.2.2.2.2.2.2.2.2.2.2.2.2.2.2.2.2.2.2.2.2.1 v.2.2.1.2.2.2.2.2.2.2.2.2.2.2.2.2.2.2.2.2.2.2.2.2.2.2.2.2.2.2.2.2.2.2.2.2.2.2.2.2.2.2.2.1 v.2.2.1.2.2.2.2.2.2.2.2.2.2.2.2.2.2.2.2.2.2.2.2.2.2.2.2.2.2.2.2.2.2.2.2.2.2.2.2.2.2.2.2.2.1 := by kernel_rfl
theorem ok92v0 (d111v0 : D111v0) (d91v0 : D91v0) (d88v1 : D88v1) (d86v2 : D86v2) (h111v0 : REntOK FT XT 111 (rn111v0 d111v0)) (h91v0 : REntOK FT XT 91 (rn91v0 d91v0)) (h88v1 : REntOK FT XT 88 (rn88v1 d88v1)) (h86v2 : REntOK FT XT 86 (rn86v2 d86v2)) {f : D92v0} (hf : ∀ a0 a1 a2 a3 a4 a5 a6 a7 a8 a9 a10 a11 a12 a13 a14 a15 a16 a17 a18 a19 a20 r, f a0 a1 a2 a3 a4 a5 a6 a7 a8 a9 a10 a11 a12 a13 a14 a15 a16 a17 a18 a19 a20 = some r → ∃ N, p92v0 d111v0 d91v0 d88v1 d86v2 N a0 a1 a2 a3 a4 a5 a6 a7 a8 a9 a10 a11 a12 a13 a14 a15 a16 a17 a18 a19 a20 = some r) : REntOK FT XT 92 (rn92v0 f) := by
  have hT : TabOK FT XT (T92v0 d111v0 d91v0 d88v1 d86v2) := by
    intro g en hg
    unfold T92v0 at hg
    split at hg <;> first | (injection hg with hg; subst hg; assumption) | cases hg
  have hO0 : RawOK FT XT (rawOf (α := QR92v0.T) (RW92v0 d111v0 d91v0 d88v1 d86v2)) := by
    refine rawOf_ok (fun g en hg => ?_)
    unfold RW92v0 at hg
    split at hg <;> simp only [List.mem_cons, List.not_mem_nil, or_false] at hg <;> first | (subst hg; assumption) | (rcases hg with rfl | rfl <;> assumption) | (rcases hg with rfl | rfl | rfl <;> assumption) | (rcases hg with rfl | rfl | rfl | rfl <;> assumption)
  have hO : RawOK FT XT (addI (T92v0 d111v0 d91v0 d88v1 d86v2) (modeOf FT) fuelC 110 k110 (addI (T92v0 d111v0 d91v0 d88v1 d86v2) (modeOf FT) fuelC 107 k107 (rawOf (α := QR92v0.T) (RW92v0 d111v0 d91v0 d88v1 d86v2)))) := addI_ok hT (addI_ok hT (hO0) rfl rfl) rfl rfl
  intro v r w h hw
  obtain ⟨N, h1⟩ := hf _ _ _ _ _ _ _ _ _ _ _ _ _ _ _ _ _ _ _ _ _ _ h
  exact ans_r (Q := QR92v0) (tab := T92v0 d111v0 d91v0 d88v1 d86v2) (raw := (addI (T92v0 d111v0 d91v0 d88v1 d86v2) (modeOf FT) fuelC 110 k110 (addI (T92v0 d111v0 d91v0 d88v1 d86v2) (modeOf FT) fuelC 107 k107 (rawOf (RW92v0 d111v0 d91v0 d88v1 d86v2))))) (LP := W92v0 d111v0 d91v0 d88v1 d86v2 N) (fu := fuelC) hT hO rfl rfl (Nat.le_of_ble_eq_true rfl) rfl loopOK_nil ((e92v0 d111v0 d91v0 d88v1 d86v2 N v).trans h1) hw

def T112 : Nat → Option Ent
  | _ => none
def W112 (N : Nat) : LoopF (Sh.bool).T := fun no =>
  match no with
  | _ => fun _ _ => none
theorem e112 (N : Nat) (a0 : Int) : evc (T112) (rawOf RW0) (W112 N) (retc k112.res Sh.bool) (modeOf FT) 0 fuelC k112.body (env0 k112 (encL [(Sh.int .i64)] (a0, ())), []) (endK (retc k112.res Sh.bool)) = p112 N a0 := by kernel_rfl
theorem ok112 {f : D112} (hf : ∀ a0 r, f a0 = some r → ∃ N, p112 N a0 = some r) : EntOK FT XT 112 (en112 f) := by
  have hT : TabOK FT XT (T112) := by
    intro g en hg
    unfold T112 at hg
    split at hg <;> first | (injection hg with hg; subst hg; assumption) | cases hg
  have hO0 : RawOK FT XT (rawOf (α := (Sh.bool).T) RW0) := rawOK0
  have hO : RawOK FT XT (rawOf (α := (Sh.bool).T) RW0) := hO0
  refine ⟨rfl, fun v r h => ?_⟩
  obtain ⟨a0, _⟩ := v
  obtain ⟨N, h1⟩ := hf _ _ h
  exact ans_c (R := Sh.bool) (tab := T112) (raw := (rawOf RW0)) (LP := W112 N) (fu := fuelC) hT hO rfl rfl (Nat.le_of_ble_eq_true rfl) loopOK_nil ((e112 N _).trans h1)

def T93 (c112 : D112) : Nat → Option Ent
  | 112 => some (en112 c112)
  | _ => none
def W93 (c112 : D112) (N : Nat) : LoopF (((Sh.tu (Sh.pr (Sh.st (Sh.pr (Sh.sl (Sh.int .u8)) (Sh.pr (Sh.int .i64) (Sh.pr (Sh.int .i64) (Sh.pr (Sh.int .i64) (Sh.pr (Sh.sl (Sh.int .u8)) (Sh.pr (Sh.int .i64) (Sh.pr (Sh.int .i64) (Sh.pr (Sh.int .i64) Sh.bool))))))))) (Sh.int .i64)))).T) := fun no =>
  match no with
  | _ => fun _ _ => none
theorem e93 (c112 : D112) (N : Nat) (a0 : (List Int) × Int × Int × Int × (List Int) × Int × Int × Int × Bool) (a1 : Int) (a2 : List Int) : evc (T93 c112) (rawOf RW0) (W93 c112 N) (retc k93.res (Sh.tu (Sh.pr (Sh.st (Sh.pr (Sh.sl (Sh.int .u8)) (Sh.pr (Sh.int .i64) (Sh.pr (Sh.int .i64) (Sh.pr (Sh.int .i64) (Sh.pr (Sh.sl (Sh.int .u8)) (Sh.pr (Sh.int .i64) (Sh.pr (Sh.int .i64) (Sh.pr (Sh.int .i64) Sh.bool))))))))) (Sh.int .i64)))) (modeOf FT) 0 fuelC k93.body (env0 k93 (encL [(Sh.st (Sh.pr (Sh.sl (Sh.int .u8)) (Sh.pr (Sh.int .i64) (Sh.pr (Sh.int .i64) (Sh.pr (Sh.int .i64) (Sh.pr (Sh.sl (Sh.int .u8)) (Sh.pr (Sh.int .i64) (Sh.pr (Sh.int .i64) (Sh.pr (Sh.int .i64) Sh.bool))))))))), (Sh.int .i64), (Sh.sl (Sh.int .u8))] (a0, (a1, (a2, ())))), []) (endK (retc k93.res (Sh.tu (Sh.pr (Sh.st (Sh.pr (Sh.sl (Sh.int .u8)) (Sh.pr (Sh.int .i64) (Sh.pr (Sh.int .i64) (Sh.pr (Sh.int .i64) (Sh.pr (Sh.sl (Sh.int .u8)) (Sh.pr (Sh.int .i64) (Sh.pr (Sh.int .i64) (Sh.pr (Sh.int .i64) Sh.bool))))))))) (Sh.int .i64))))) = p93 c112 N a0 a1 a2 := by kernel_rfl
theorem ok93 (c112 : D112) (h112 : EntOK FT XT 112 (en112 c112)) {f : D93} (hf : ∀ a0 a1 a2 r, f a0 a1 a2 = some r → ∃ N, p93 c112 N a0 a1 a2 = some r) : EntOK FT XT 93 (en93 f) := by
  have hT : TabOK FT XT (T93 c112) := by
    intro g en hg
    unfold T93 at hg
    split at hg <;> first | (injection hg with hg; subst hg; assumption) | cases hg
  have hO0 : RawOK FT XT (rawOf (α := ((Sh.tu (Sh.pr (Sh.st (Sh.pr (Sh.sl (Sh.int .u8)) (Sh.pr (Sh.int .i64) (Sh.pr (Sh.int .i64) (Sh.pr (Sh.int .i64) (Sh.pr (Sh.sl (Sh.int .u8)) (Sh.pr (Sh.int .i64) (Sh.pr (Sh.int .i64) (Sh.pr (Sh.int .i64) Sh.bool))))))))) (Sh.int .i64)))).T) RW0) := rawOK0
  have hO : RawOK FT XT (rawOf (α := ((Sh.tu (Sh.pr (Sh.st (Sh.pr (Sh.sl (Sh.int .u8)) (Sh.pr (Sh.int .i64) (Sh.pr (Sh.int .i64) (Sh.pr (Sh.int .i64) (Sh.pr (Sh.sl (Sh.int .u8)) (Sh.pr (Sh.int .i64) (Sh.pr (Sh.int .i64) (Sh.pr (Sh.int .i64) Sh.bool))))))))) (Sh.int .i64)))).T) RW0) := hO0
  refine ⟨rfl, fun v r h => ?_⟩
  obtain ⟨a0, a1, a2, _⟩ := v
  obtain ⟨N, h1⟩ := hf _ _ _ _ h
  exact ans_c (R := (Sh.tu (Sh.pr (Sh.st (Sh.pr (Sh.sl (Sh.int .u8)) (Sh.pr (Sh.int .i64) (Sh.pr (Sh.int .i64) (Sh.pr (Sh.int .i64) (Sh.pr (Sh.sl (Sh.int .u8)) (Sh.pr (Sh.int .i64) (Sh.pr (Sh.int .i64) (Sh.pr (Sh.int .i64) Sh.bool))))))))) (Sh.int .i64)))) (tab := T93 c112) (raw := (rawOf RW0)) (LP := W93 c112 N) (fu := fuelC) hT hO rfl rfl (Nat.le_of_ble_eq_true rfl) loopOK_nil ((e93 c112 N _ _ _).trans h1)

def T88v2 (d111v0 : D111v0) (c108 : D108) : Nat → Option Ent
  | 108 => some (en108 c108)
  | _ => none
def RW88v2 (d111v0 : D111v0) (c108 : D108) : Nat → List REnt
  | 111 => [rn111v0 d111v0]
  | _ => []
def W88v2 (d111v0 : D111v0) (c108 : D108) (N : Nat) : LoopF QR88v2.T := fun no =>
  match no with
  | _ => fun _ _ => none
theorem e88v2 (d111v0 : D111v0) (c108 : D108) (N : Nat) (v : PR88v2.T) : evc (T88v2 d111v0 c108) (addI (T88v2 d111v0 c108) (modeOf FT) fuelC 109 k109 (addI (T88v2 d111v0 c108) (modeOf FT) fuelC 106 k106 (addI (T88v2 d111v0 c108) (modeOf FT) fuelC 110 k110 (rawOf (RW88v2 d111v0 c108))))) (W88v2 d111v0 c108 N) (retr k88.res 1 QR88v2) (modeOf FT) 1 fuelC k88.body (env0 k88 (PR88v2.a.st v.1), stH PR88v2.h v.2) (endK (retr k88.res 1 QR88v2)) = p88v2 d111v0 c108 N v.1.2.1 v.1.2.2.1 v.2.1.2.2.2.2.2.2.2.2.2.2.2.2.2.2.2.2.2.2.2.2.2.2.2.2.2.2.2.2.2.2.2.2.2.1 v.2.1.2.2.2.2.2.2.2.2.2.2.2.2.2.2.2.2.2.2.2.2.2.2.2.2.2.2.2.2.2.2.2.2.2.2.1 v.2.1.2.2.2.2.2.2.2.2.2.2.2.2.2.2.2.2.2.2.2.2.2.2.2.2.2.2.2.2.2.2.2.2.2.2.2.1 v.2.1.2.2.2.2.2.2.2.2.2.2.2.2.2.2.2.2.2.2.2.2.2.2.2.2.2.2.2.2.2.2.2.2.2.2.2.2.1 v.2.1.2.2.2.2.2.2.2.2.2.2.2.2.2.2.2.2.2.2.2.2.2.2.2.2.2.2.2.2.2.2.2.2.2.2.2.2.2.1 v.2.1.2.2.2.2.2.2.2.2.2.2.2.2.2.2.2.2.2.2.2.2.2.2.2.2.2.2.2.2.2.2.2.2.2.2.2.2.2.2.1 v.2.1.2.2.2.2.2.2.2.2.2.2.2.2.2.2.2.2.2.2.2.2.2.2.2.2.2.2.2.2.2.2.2.2.2.2.2.2.2.2.2.1 v.2.1.2.2.2.2.2.2.2.2.2.2.2.2.2.2.2.2.2.2.2.2.2.2.2.2.2.2.2.2.2.2.2.2.2.2.2.2.2.2.2.2.1 v.2.1.2.2.2.2.2.2.2.2.2.2.2.2.2.2.2.2.2.2.2.2.2.2.2.2.2.2.2.2.2.2.2.2.2.2.2.2.2.2.2.2.2.1 := by kernel_rfl
theorem ok88v2 (d111v0 : D111v0) (c108 : D108) (h108 : EntOK FT XT 108 (en108 c108)) (h111v0 : REntOK FT XT 111 (rn111v0 d111v0)) {f : D88v2} (hf : ∀ a0 a1 a2 a3 a4 a5 a6 a7 a8 a9 a10 r, f a0 a1 a2 a3 a4 a5 a6 a7 a8 a9 a10 = some r → ∃ N, p88v2 d111v0 c108 N a0 a1 a2 a3 a4 a5 a6 a7 a8 a9 a10 = some r) : REntOK FT XT 88 (rn88v2 f) := by
  have hT : TabOK FT XT (T88v2 d111v0 c108) := by
    intro g en hg
    unfold T88v2 at hg
    split at hg <;> first | (injection hg with hg; subst hg; assumption) | cases hg
  have hO0 : RawOK FT XT (rawOf (α := QR88v2.T) (RW88v2 d111v0 c108)) := by
    refine rawOf_ok (fun g en hg => ?_)
    unfold RW88v2 at hg
    split at hg <;> simp only [List.mem_cons, List.not_mem_nil, or_false] at hg <;> first | (subst hg; assumption) | (rcases hg with rfl | rfl <;> assumption) | (rcases hg with rfl | rfl | rfl <;> assumption) | (rcases hg with rfl | rfl | rfl | rfl <;> assumption)
  have hO : RawOK FT XT (addI (T88v2 d111v0 c108) (modeOf FT) fuelC 109 k109 (addI (T88v2 d111v0 c108) (modeOf FT) fuelC 106 k106 (addI (T88v2 d111v0 c108) (modeOf FT) fuelC 110 k110 (rawOf (α := QR88v2.T) (RW88v2 d111v0 c108))))) := addI_ok hT (addI_ok hT (addI_ok hT (hO0) rfl rfl) rfl rfl) rfl rfl
  intro v r w h hw
  obtain ⟨N, h1⟩ := hf _ _ _ _ _ _ _ _ _ _ _ _ h
  exact ans_r (Q := QR88v2) (tab := T88v2 d111v0 c108) (raw := (addI (T88v2 d111v0 c108) (modeOf FT) fuelC 109 k109 (addI (T88v2 d111v0 c108) (modeOf FT) fuelC 106 k106 (addI (T88v2 d111v0 c108) (modeOf FT) fuelC 110 k110 (rawOf (RW88v2 d111v0 c108)))))) (LP := W88v2 d111v0 c108 N) (fu := fuelC) hT hO rfl rfl (Nat.le_of_ble_eq_true rfl) rfl loopOK_nil ((e88v2 d111v0 c108 N v).trans h1) hw

def T113 : Nat → Option Ent
  | _ => none
def W113 (N : Nat) : LoopF (((Sh.tu (Sh.pr (Sh.st (Sh.pr (Sh.sl (Sh.int .u8)) (Sh.pr (Sh.int .i64) (Sh.pr (Sh.int .i64) (Sh.pr (Sh.int .i64) (Sh.pr (Sh.sl (Sh.int .u8)) (Sh.pr (Sh.int .i64) (Sh.pr (Sh.int .i64) (Sh.pr (Sh.int .i64) Sh.bool))))))))) (Sh.sl (Sh.int .u8))))).T) := fun no =>
  match no with
  | _ => fun _ _ => none
theorem e113 (N : Nat) (a0 : (List Int) × Int × Int × Int × (List Int) × Int × Int × Int × Bool) (a1 : Int) (a2 : Int) : evc (T113) (rawOf RW0) (W113 N) (retc k113.res (Sh.tu (Sh.pr (Sh.st (Sh.pr (Sh.sl (Sh.int .u8)) (Sh.pr (Sh.int .i64) (Sh.pr (Sh.int .i64) (Sh.pr (Sh.int .i64) (Sh.pr (Sh.sl (Sh.int .u8)) (Sh.pr (Sh.int .i64) (Sh.pr (Sh.int .i64) (Sh.pr (Sh.int .i64) Sh.bool))))))))) (Sh.sl (Sh.int .u8))))) (modeOf FT) 0 fuelC k113.body (env0 k113 (encL [(Sh.st (Sh.pr (Sh.sl (Sh.int .u8)) (Sh.pr (Sh.int .i64) (Sh.pr (Sh.int .i64) (Sh.pr (Sh.int .i64) (Sh.pr (Sh.sl (Sh.int .u8)) (Sh.pr (Sh.int .i64) (Sh.pr (Sh.int .i64) (Sh.pr (Sh.int .i64) Sh.bool))))))))), (Sh.int .i64), (Sh.int .i64)] (a0, (a1, (a2, ())))), []) (endK (retc k113.res (Sh.tu (Sh.pr (Sh.st (Sh.pr (Sh.sl (Sh.int .u8)) (Sh.pr (Sh.int .i64) (Sh.pr (Sh.int .i64) (Sh.pr (Sh.int .i64) (Sh.pr (Sh.sl (Sh.int .u8)) (Sh.pr (Sh.int .i64) (Sh.pr (Sh.int .i64) (Sh.pr (Sh.int .i64) Sh.bool))))))))) (Sh.sl (Sh.int .u8)))))) = p113 N a0 a1 a2 := by kernel_rfl
theorem ok113 {f : D113} (hf : ∀ a0 a1 a2 r, f a0 a1 a2 = some r → ∃ N, p113 N a0 a1 a2 = some r) : EntOK FT XT 113 (en113 f) := by
  have hT : TabOK FT XT (T113) := by
    intro g en hg
    unfold T113 at hg
    split at hg <;> first | (injection hg with hg; subst hg; assumption) | cases hg
  have hO0 : RawOK FT XT (rawOf (α := ((Sh.tu (Sh.pr (Sh.st (Sh.pr (Sh.sl (Sh.int .u8)) (Sh.pr (Sh.int .i64) (Sh.pr (Sh.int .i64) (Sh.pr (Sh.int .i64) (Sh.pr (Sh.sl (Sh.int .u8)) (Sh.pr (Sh.int .i64) (Sh.pr (Sh.int .i64) (Sh.pr (Sh.int .i64) Sh.bool))))))))) (Sh.sl (Sh.int .u8))))).T) RW0) := rawOK0
  have hO : RawOK FT XT (rawOf (α := ((Sh.tu (Sh.pr (Sh.st (Sh.pr (Sh.sl (Sh.int .u8)) (Sh.pr (Sh.int .i64) (Sh.pr (Sh.int .i64) (Sh.pr (Sh.int .i64) (Sh.pr (Sh.sl (Sh.int .u8)) (Sh.pr (Sh.int .i64) (Sh.pr (Sh.int .i64) (Sh.pr (Sh.int .i64) Sh.bool))))))))) (Sh.sl (Sh.int .u8))))).T) RW0) := hO0
  refine ⟨rfl, fun v r h => ?_⟩
  obtain ⟨a0, a1, a2, _⟩ := v
  obtain ⟨N, h1⟩ := hf _ _ _ _ h
  exact ans_c (R := (Sh.tu (Sh.pr (Sh.st (Sh.pr (Sh.sl (Sh.int .u8)) (Sh.pr (Sh.int .i64) (Sh.pr (Sh.int .i64) (Sh.pr (Sh.int .i64) (Sh.pr (Sh.sl (Sh.int .u8)) (Sh.pr (Sh.int .i64) (Sh.pr (Sh.int .i64) (Sh.pr (Sh.int .i64) Sh.bool))))))))) (Sh.sl (Sh.int .u8))))) (tab := T113) (raw := (rawOf RW0)) (LP := W113 N) (fu := fuelC) hT hO rfl rfl (Nat.le_of_ble_eq_true rfl) loopOK_nil ((e113 N _ _ _).trans h1)

def T94 (c112 : D112) (c113 : D113) : Nat → Option Ent
  | 112 => some (en112 c112)
  | 113 => some (en113 c113)
  | _ => none
def W94 (c112 : D112) (c113 : D113) (N : Nat) : LoopF (((Sh.tu (Sh.pr (Sh.st (Sh.pr (Sh.sl (Sh.int .u8)) (Sh.pr (Sh.int .i64) (Sh.pr (Sh.int .i64) (Sh.pr (Sh.int .i64) (Sh.pr (Sh.sl (Sh.int .u8)) (Sh.pr (Sh.int .i64) (Sh.pr (Sh.int .i64) (Sh.pr (Sh.int .i64) Sh.bool))))))))) (Sh.pr (Sh.sl (Sh.int .u8)) (Sh.int .i64))))).T) := fun no =>
  match no with
  | _ => fun _ _ => none
theorem e94 (c112 : D112) (c113 : D113) (N : Nat) (a0 : (List Int) × Int × Int × Int × (List Int) × Int × Int × Int × Bool) (a1 : Int) (a2 : Int) : evc (T94 c112 c113) (rawOf RW0) (W94 c112 c113 N) (retc k94.res (Sh.tu (Sh.pr (Sh.st (Sh.pr (Sh.sl (Sh.int .u8)) (Sh.pr (Sh.int .i64) (Sh.pr (Sh.int .i64) (Sh.pr (Sh.int .i64) (Sh.pr (Sh.sl (Sh.int .u8)) (Sh.pr (Sh.int .i64) (Sh.pr (Sh.int .i64) (Sh.pr (Sh.int .i64) Sh.bool))))))))) (Sh.pr (Sh.sl (Sh.int .u8)) (Sh.int .i64))))) (modeOf FT) 0 fuelC k94.body (env0 k94 (encL [(Sh.st (Sh.pr (Sh.sl (Sh.int .u8)) (Sh.pr (Sh.int .i64) (Sh.pr (Sh.int .i64) (Sh.pr (Sh.int .i64) (Sh.pr (Sh.sl (Sh.int .u8)) (Sh.pr (Sh.int .i64) (Sh.pr (Sh.int .i64) (Sh.pr (Sh.int .i64) Sh.bool))))))))), (Sh.int .i64), (Sh.int .i64)] (a0, (a1, (a2, ())))), []) (endK (retc k94.res (Sh.tu (Sh.pr (Sh.st (Sh.pr (Sh.sl (Sh.int .u8)) (Sh.pr (Sh.int .i64) (Sh.pr (Sh.int .i64) (Sh.pr (Sh.int .i64) (Sh.pr (Sh.sl (Sh.int .u8)) (Sh.pr (Sh.int .i64) (Sh.pr (Sh.int .i64) (Sh.pr (Sh.int .i64) Sh.bool))))))))) (Sh.pr (Sh.sl (Sh.int .u8)) (Sh.int .i64)))))) = p94 c112 c113 N a0 a1 a2 := by kernel_rfl
theorem ok94 (c112 : D112) (c113 : D113) (h112 : EntOK FT XT 112 (en112 c112)) (h113 : EntOK FT XT 113 (en113 c113)) {f : D94} (hf : ∀ a0 a1 a2 r, f a0 a1 a2 = some r → ∃ N, p94 c112 c113 N a0 a1 a2 = some r) : EntOK FT XT 94 (en94 f) := by
  have hT : TabOK FT XT (T94 c112 c113) := by
    intro g en hg
    unfold T94 at hg
    split at hg <;> first | (injection hg with hg; subst hg; assumption) | cases hg
  have hO0 : RawOK FT XT (rawOf (α := ((Sh.tu (Sh.pr (Sh.st (Sh.pr (Sh.sl (Sh.int .u8)) (Sh.pr (Sh.int .i64) (Sh.pr (Sh.int .i64) (Sh.pr (Sh.int .i64) (Sh.pr (Sh.sl (Sh.int .u8)) (Sh.pr (Sh.int .i64) (Sh.pr (Sh.int .i64) (Sh.pr (Sh.int .i64) Sh.bool))))))))) (Sh.pr (Sh.sl (Sh.int .u8)) (Sh.int .i64))))).T) RW0) := rawOK0
  have hO : RawOK FT XT (rawOf (α := ((Sh.tu (Sh.pr (Sh.st (Sh.pr (Sh.sl (Sh.int .u8)) (Sh.pr (Sh.int .i64) (Sh.pr (Sh.int .i64) (Sh.pr (Sh.int .i64) (Sh.pr (Sh.sl (Sh.int .u8)) (Sh.pr (Sh.int .i64) (Sh.pr (Sh.int .i64) (Sh.pr (Sh.int .i64) Sh.bool))))))))) (Sh.pr (Sh.sl (Sh.int .u8)) (Sh.int .i64))))).T) RW0) := hO0
  refine ⟨rfl, fun v r h => ?_⟩
  obtain ⟨a0, a1, a2, _⟩ := v
  obtain ⟨N, h1⟩ := hf _ _ _ _ h
  exact ans_c (R := (Sh.tu (Sh.pr (Sh.st (Sh.pr (Sh.sl (Sh.int .u8)) (Sh.pr (Sh.int .i64) (Sh.pr (Sh.int .i64) (Sh.pr (Sh.int .i64) (Sh.pr (Sh.sl (Sh.int .u8)) (Sh.pr (Sh.int .i64) (Sh.pr (Sh.int .i64) (Sh.pr (Sh.int .i64) Sh.bool))))))))) (Sh.pr (Sh.sl (Sh.int .u8)) (Sh.int .i64))))) (tab := T94 c112 c113) (raw := (rawOf RW0)) (LP := W94 c112 c113 N) (fu := fuelC) hT hO rfl rfl (Nat.le_of_ble_eq_true rfl) loopOK_nil ((e94 c112 c113 N _ _ _).trans h1)

def T87v1 (d111v0 : D111v0) (c108 : D108) : Nat → Option Ent
  | 108 => some (en108 c108)
  | _ => none
def RW87v1 (d111v0 : D111v0) (c108 : D108) : Nat → List REnt
  | 111 => [rn111v0 d111v0]
  | _ => []
def W87v1 (d111v0 : D111v0) (c108 : D108) (N : Nat) : LoopF QR87v1.T := fun no =>
  match no with
  | _ => fun _ _ => none
theorem e87v1 (d111v0 : D111v0) (c108 : D108) (N : Nat) (v : PR87v1.T) : evc (T87v1 d111v0 c108) (addI (T87v1 d111v0 c108) (modeOf FT) fuelC 109 k109 (addI (T87v1 d111v0 c108) (modeOf FT) fuelC 106 k106 (addI (T87v1 d111v0 c108) (modeOf FT) fuelC 110 k110 (rawOf (RW87v1 d111v0 c108))))) (W87v1 d111v0 c108 N) (retr k87.res 1 QR87v1) (modeOf FT) 1 fuelC k87.body (env0 k87 (PR87v1.a.st v.1), stH PR87v1.h v.2) (endK (retr k87.res 1 QR87v1)) = p87v1 d111v0 c108 N v.1.2.1 v.1.2.2.1 v.2.1.2.2.2.2.2.2.2.2.2.2.2.2.2.2.2.2.2.2.2.2.2.2.2.2.2.2.2.2.2.2.2.2.2.1 v.2.1.2.2.2.2.2.2.2.2.2.2.2.2.2.2.2.2.2.2.2.2.2.2.2.2.2.2.2.2.2.2.2.2.2.2.1 v.2.1.2.2.2.2.2.2.2.2.2.2.2.2.2.2.2.2.2.2.2.2.2.2.2.2.2.2.2.2.2.2.2.2.2.2.2.1 v.2.1.2.2.2.2.2.2.2.2.2.2.2.2.2.2.2.2.2.2.2.2.2.2.2.2.2.2.2.2.2.2.2.2.2.2.2.2.1 v.2.1.2.2.2.2.2.2.2.2.2.2.2.2.2.2.2.2.2.2.2.2.2.2.2.2.2.2.2.2.2.2.2.2.2.2.2.2.2.1 v.2.1.2.2.2.2.2.2.2.2.2.2.2.2.2.2.2.2.2.2.2.2.2.2.2.2.2.2.2.2.2.2.2.2.2.2.2.2.2.2.1 v.2.1.2.2.2.2.2.2.2.2.2.2.2.2.2.2.2.2.2.2.2.2.2.2.2.2.2.2.2.2.2.2.2.2.2.2.2.2.2.2.2.1 v.2.1.2.2.2.2.2.2.2.2.2.2.2.2.2.2.2.2.2.2.2.2.2.2.2.2.2.2.2.2.2.2.2.2.2.2.2.2.2.2.2.2.1 v.2.1.2.2.2.2.2.2.2.2.2.2.2.2.2.2.2.2.2.2.2.2.2.2.2.2.2.2.2.2.2.2.2.2.2.2.2.2.2.2.2.2.2.1 := by kernel_rfl
theorem ok87v1 (d111v0 : D111v0) (c108 : D108) (h108 : EntOK FT XT 108 (en108 c108)) (h111v0 : REntOK FT XT 111 (rn111v0 d111v0)) {f : D87v1} (hf : ∀ a0 a1 a2 a3 a4 a5 a6 a7 a8 a9 a10 r, f a0 a1 a2 a3 a4 a5 a6 a7 a8 a9 a10 = some r → ∃ N, p87v1 d111v0 c108 N a0 a1 a2 a3 a4 a5 a6 a7 a8 a9 a10 = some r) : REntOK FT XT 87 (rn87v1 f) := by
  have hT : TabOK FT XT (T87v1 d111v0 c108) := by
    intro g en hg
    unfold T87v1 at hg
    split at hg <;> first | (injection hg with hg; subst hg; assumption) | cases hg
  have hO0 : RawOK FT XT (rawOf (α := QR87v1.T) (RW87v1 d111v0 c108)) := by
    refine rawOf_ok (fun g en hg => ?_)
    unfold RW87v1 at hg
    split at hg <;> simp only [List.mem_cons, List.not_mem_nil, or_false] at hg <;> first | (subst hg; assumption) | (rcases hg with rfl | rfl <;> assumption) | (rcases hg with rfl | rfl | rfl <;> assumption) | (rcases hg with rfl | rfl | rfl | rfl <;> assumption)
  have hO : RawOK FT XT (addI (T87v1 d111v0 c108) (modeOf FT) fuelC 109 k109 (addI (T87v1 d111v0 c108) (modeOf FT) fuelC 106 k106 (addI (T87v1 d111v0 c108) (modeOf FT) fuelC 110 k110 (rawOf (α := QR87v1.T) (RW87v1 d111v0 c108))))) := addI_ok hT (addI_ok hT (addI_ok hT (hO0) rfl rfl) rfl rfl) rfl rfl
  intro v r w h hw
  obtain ⟨N, h1⟩ := hf _ _ _ _ _ _ _ _ _ _ _ _ h
  exact ans_r (Q := QR87v1) (tab := T87v1 d111v0 c108) (raw := (addI (T87v1 d111v0 c108) (modeOf FT) fuelC 109 k109 (addI (T87v1 d111v0 c108) (modeOf FT) fuelC 106 k106 (addI (T87v1 d111v0 c108) (modeOf FT) fuelC 110 k110 (rawOf (RW87v1 d111v0 c108)))))) (LP := W87v1 d111v0 c108 N) (fu := fuelC) hT hO rfl rfl (Nat.le_of_ble_eq_true rfl) rfl loopOK_nil ((e87v1 d111v0 c108 N v).trans h1) hw

def T95 (c112 : D112) (c113 : D113) : Nat → Option Ent
  | 112 => some (en112 c112)
  | 113 => some (en113 c113)
  | _ => none
def W95 (c112 : D112) (c113 : D113) (N : Nat) : LoopF (((Sh.tu (Sh.pr (Sh.st (Sh.pr (Sh.sl (Sh.int .u8)) (Sh.pr (Sh.int .i64) (Sh.pr (Sh.int .i64) (Sh.pr (Sh.int .i64) (Sh.pr (Sh.sl (Sh.int .u8)) (Sh.pr (Sh.int .i64) (Sh.pr (Sh.int .i64) (Sh.pr (Sh.int .i64) Sh.bool))))))))) (Sh.pr (Sh.int .i64) (Sh.int .i64))))).T) := fun no =>
  match no with
  | _ => fun _ _ => none
theorem e95 (c112 : D112) (c113 : D113) (N : Nat) (a0 : (List Int) × Int × Int × Int × (List Int) × Int × Int × Int × Bool) (a1 : Int) (a2 : Int) : evc (T95 c112 c113) (rawOf RW0) (W95 c112 c113 N) (retc k95.res (Sh.tu (Sh.pr (Sh.st (Sh.pr (Sh.sl (Sh.int .u8)) (Sh.pr (Sh.int .i64) (Sh.pr (Sh.int .i64) (Sh.pr (Sh.int .i64) (Sh.pr (Sh.sl (Sh.int .u8)) (Sh.pr (Sh.int .i64) (Sh.pr (Sh.int .i64) (Sh.pr (Sh.int .i64) Sh.bool))))))))) (Sh.pr (Sh.int .i64) (Sh.int .i64))))) (modeOf FT) 0 fuelC k95.body (env0 k95 (encL [(Sh.st (Sh.pr (Sh.sl (Sh.int .u8)) (Sh.pr (Sh.int .i64) (Sh.pr (Sh.int .i64) (Sh.pr (Sh.int .i64) (Sh.pr (Sh.sl (Sh.int .u8)) (Sh.pr (Sh.int .i64) (Sh.pr (Sh.int .i64) (Sh.pr (Sh.int .i64) Sh.bool))))))))), (Sh.int .i64), (Sh.int .i64)] (a0, (a1, (a2, ())))), []) (endK (retc k95.res (Sh.tu (Sh.pr (Sh.st (Sh.pr (Sh.sl (Sh.int .u8)) (Sh.pr (Sh.int .i64) (Sh.pr (Sh.int .i64) (Sh.pr (Sh.int .i64) (Sh.pr (Sh.sl (Sh.int .u8)) (Sh.pr (Sh.int .i64) (Sh.pr (Sh.int .i64) (Sh.pr (Sh.int .i64) Sh.bool))))))))) (Sh.pr (Sh.int .i64) (Sh.int .i64)))))) = p95 c112 c113 N a0 a1 a2 := by kernel_rfl
theorem ok95 (c112 : D112) (c113 : D113) (h112 : EntOK FT XT 112 (en112 c112)) (h113 : EntOK FT XT 113 (en113 c113)) {f : D95} (hf : ∀ a0 a1 a2 r, f a0 a1 a2 = some r → ∃ N, p95 c112 c113 N a0 a1 a2 = some r) : EntOK FT XT 95 (en95 f) := by
  have hT : TabOK FT XT (T95 c112 c113) := by
    intro g en hg
    unfold T95 at hg
    split at hg <;> first | (injection hg with hg; subst hg; assumption) | cases hg
  have hO0 : RawOK FT XT (rawOf (α := ((Sh.tu (Sh.pr (Sh.st (Sh.pr (Sh.sl (Sh.int .u8)) (Sh.pr (Sh.int .i64) (Sh.pr (Sh.int .i64) (Sh.pr (Sh.int .i64) (Sh.pr (Sh.sl (Sh.int .u8)) (Sh.pr (Sh.int .i64) (Sh.pr (Sh.int .i64) (Sh.pr (Sh.int .i64) Sh.bool))))))))) (Sh.pr (Sh.int .i64) (Sh.int .i64))))).T) RW0) := rawOK0
  have hO : RawOK FT XT (rawOf (α := ((Sh.tu (Sh.pr (Sh.st (Sh.pr (Sh.sl (Sh.int .u8)) (Sh.pr (Sh.int .i64) (Sh.pr (Sh.int .i64) (Sh.pr (Sh.int .i64) (Sh.pr (Sh.sl (Sh.int .u8)) (Sh.pr (Sh.int .i64) (Sh.pr (Sh.int .i64) (Sh.pr (Sh.int .i64) Sh.bool))))))))) (Sh.pr (Sh.int .i64) (Sh.int .i64))))).T) RW0) := hO0
  refine ⟨rfl, fun v r h => ?_⟩
  obtain ⟨a0, a1, a2, _⟩ := v
  obtain ⟨N, h1⟩ := hf _ _ _ _ h
  exact ans_c (R := (Sh.tu (Sh.pr (Sh.st (Sh.pr (Sh.sl (Sh.int .u8)) (Sh.pr (Sh.int .i64) (Sh.pr (Sh.int .i64) (Sh.pr (Sh.int .i64) (Sh.pr (Sh.sl (Sh.int .u8)) (Sh.pr (Sh.int .i64) (Sh.pr (Sh.int .i64) (Sh.pr (Sh.int .i64) Sh.bool))))))))) (Sh.pr (Sh.int .i64) (Sh.int .i64))))) (tab := T95 c112 c113) (raw := (rawOf RW0)) (LP := W95 c112 c113 N) (fu := fuelC) hT hO rfl rfl (Nat.le_of_ble_eq_true rfl) loopOK_nil ((e95 c112 c113 N _ _ _).trans h1)

def T90v1 (d111v0 : D111v0) (c108 : D108) : Nat → Option Ent
  | 108 => some (en108 c108)
  | _ => none
def RW90v1 (d111v0 : D111v0) (c108 : D108) : Nat → List REnt
  | 111 => [rn111v0 d111v0]
  | _ => []
def W90v1 (d111v0 : D111v0) (c108 : D108) (N : Nat) : LoopF QR90v1.T := fun no =>
  match no with
  | _ => fun _ _ => none
theorem e90v1 (d111v0 : D111v0) (c108 : D108) (N : Nat) (v : PR90v1.T) : evc (T90v1 d111v0 c108) (addI (T90v1 d111v0 c108) (modeOf FT) fuelC 106 k106 (addI (T90v1 d111v0 c108) (modeOf FT) fuelC 110 k110 (rawOf (RW90v1 d111v0 c108)))) (W90v1 d111v0 c108 N) (retr k90.res 1 QR90v1) (modeOf FT) 1 fuelC k90.body (env0 k90 (PR90v1.a.st v.1), stH PR90v1.h v.2) (endK (retr k90.res 1 QR90v1)) = p90v1 d111v0 c108 N v.1.2.1 v.2.1.2.2.2.2.2.2.2.2.2.2.2.2.2.2.2.2.2.2.2.2.2.2.2.2.2.2.2.2.2.2.2.2.2.1 v.2.1.2.2.2.2.2.2.2.2.2.2.2.2.2.2.2.2.2.2.2.2.2.2.2.2.2.2.2.2.2.2.2.2.2.2.1 v.2.1.2.2.2.2.2.2.2.2.2.2.2.2.2.2.2.2.2.2.2.2.2.2.2.2.2.2.2.2.2.2.2.2.2.2.2.1 v.2.1.2.2.2.2.2.2.2.2.2.2.2.2.2.2.2.2.2.2.2.2.2.2.2.2.2.2.2.2.2.2.2.2.2.2.2.2.1 v.2.1.2.2.2.2.2.2.2.2.2.2.2.2.2.2.2.2.2.2.2.2.2.2.2.2.2.2.2.2.2.2.2.2.2.2.2.2.2.1 v.2.1.2.2.2.2.2.2.2.2.2.2.2.2.2.2.2.2.2.2.2.2.2.2.2.2.2.2.2.2.2.2.2.2.2.2.2.2.2.2.1 v.2.1.2.2.2.2.2.2.2.2.2.2.2.2.2.2.2.2.2.2.2.2.2.2.2.2.2.2.2.2.2.2.2.2.2.2.2.2.2.2.2.1 v.2.1.2.2.2.2.2.2.2.2.2.2.2.2.2.2.2.2.2.2.2.2.2.2.2.2.2.2.2.2.2.2.2.2.2.2.2.2.2.2.2.2.1 v.2.1.2.2.2.2.2.2.2.2.2.2.2.2.2.2.2.2.2.2.2.2.2.2.2.2.2.2.2.2.2.2.2.2.2.2.2.2.2.2.2.2.2.1 := by kernel_rfl
theorem ok90v1 (d111v0 : D111v0) (c108 : D108) (h108 : EntOK FT XT 108 (en108 c108)) (h111v0 : REntOK FT XT 111 (rn111v0 d111v0)) {f : D90v1} (hf : ∀ a0 a1 a2 a3 a4 a5 a6 a7 a8 a9 r, f a0 a1 a2 a3 a4 a5 a6 a7 a8 a9 = some r → ∃ N, p90v1 d111v0 c108 N a0 a1 a2 a3 a4 a5 a6 a7 a8 a9 = some r) : REntOK FT XT 90 (rn90v1 f) := by
  have hT : TabOK FT XT (T90v1 d111v0 c108) := by
    intro g en hg
    unfold T90v1 at hg
    split at hg <;> first | (injection hg with hg; subst hg; assumption) | cases hg
  have hO0 : RawOK FT XT (rawOf (α := QR90v1.T) (RW90v1 d111v0 c108)) := by
    refine rawOf_ok (fun g en hg => ?_)
    unfold RW90v1 at hg
    split at hg <;> simp only [List.mem_cons, List.not_mem_nil, or_false] at hg <;> first | (subst hg; assumption) | (rcases hg with rfl | rfl <;> assumption) | (rcases hg with rfl | rfl | rfl <;> assumption) | (rcases hg with rfl | rfl | rfl | rfl <;> assumption)
  have hO : RawOK FT XT (addI (T90v1 d111v0 c108) (modeOf FT) fuelC 106 k106 (addI (T90v1 d111v0 c108) (modeOf FT) fuelC 110 k110 (rawOf (α := QR90v1.T) (RW90v1 d111v0 c108)))) := addI_ok hT (addI_ok hT (hO0) rfl rfl) rfl rfl
  intro v r w h hw
  obtain ⟨N, h1⟩ := hf _ _ _ _ _ _ _ _ _ _ _ h
  exact ans_r (Q := QR90v1) (tab := T90v1 d111v0 c108) (raw := (addI (T90v1 d111v0 c108) (modeOf FT) fuelC 106 k106 (addI (T90v1 d111v0 c108) (modeOf FT) fuelC 110 k110 (rawOf (RW90v1 d111v0 c108))))) (LP := W90v1 d111v0 c108 N) (fu := fuelC) hT hO rfl rfl (Nat.le_of_ble_eq_true rfl) rfl loopOK_nil ((e90v1 d111v0 c108 N v).trans h1) hw

def T91v1 (d90v1 : D90v1) : Nat → Option Ent
  | _ => none
def RW91v1 (d90v1 : D90v1) : Nat → List REnt
  | 90 => [rn90v1 d90v1]
  | _ => []
def W91v1 (d90v1 : D90v1) (N : Nat) : LoopF QR91v1.T := fun no =>
  match no with
  | _ => fun _ _ => none
theorem e91v1 (d90v1 : D90v1) (N : Nat) (v : PR91v1.T) : evc (T91v1 d90v1) (rawOf (RW91v1 d90v1)) (W91v1 d90v1 N) (retr k91.res 1 QR91v1) (modeOf FT) 1 fuelC k91.body (env0 k91 (PR91v1.a.st v.1), stH PR91v1.h v.2) (endK (retr k91.res 1 QR91v1)) = p91v1 d90v1 N v.1.2.1 v.2.1.2.2.2.2.2.2.2.2.2.2.2.2.2.2.2.2.2.2.2.2.2.2.2.2.2.2.2.2.2.2.2.2.2.1 v.2.1.2.2.2.2.2.2.2.2.2.2.2.2.2.2.2.2.2.2.2.2.2.2.2.2.2.2.2.2.2.2.2.2.2.2.1 v.2.1.2.2.2.2.2.2.2.2.2.2.2.2.2.2.2.2.2.2.2.2.2.2.2.2.2.2.2.2.2.2.2.2.2.2.2.1 v.2.1.2.2.2.2.2.2.2.2.2.2.2.2.2.2.2.2.2.2.2.2.2.2.2.2.2.2.2.2.2.2.2.2.2.2.2.2.1 v.2.1.2.2.2.2.2.2.2.2.2.2.2.2.2.2.2.2.2.2.2.2.2.2.2.2.2.2.2.2.2.2.2.2.2.2.2.2.2.1 v.2.1.2.2.2.2.2.2.2.2.2.2.2.2.2.2.2.2.2.2.2.2.2.2.2.2.2.2.2.2.2.2.2.2.2.2.2.2.2.2.1 v.2.1.2.2.2.2.2.2.2.2.2.2.2.2.2.2.2.2.2.2.2.2.2.2.2.2.2.2.2.2.2.2.2.2.2.2.2.2.2.2.2.1 v.2.1.2.2.2.2.2.2.2.2.2.2.2.2.2.2.2.2.2.2.2.2.2.2.2.2.2.2.2.2.2.2.2.2.2.2.2.2.2.2.2.2.1 v.2.1.2.2.2.2.2.2.2.2.2.2.2.2.2.2.2.2.2.2.2.2.2.2.2.2.2.2.2.2.2.2.2.2.2.2.2.2.2.2.2.2.2.1 := by kernel_rfl
theorem ok91v1 (d90v1 : D90v1) (h90v1 : REntOK FT XT 90 (rn90v1 d90v1)) {f : D91v1} (hf : ∀ a0 a1 a2 a3 a4 a5 a6 a7 a8 a9 r, f a0 a1 a2 a3 a4 a5 a6 a7 a8 a9 = some r → ∃ N, p91v1 d90v1 N a0 a1 a2 a3 a4 a5 a6 a7 a8 a9 = some r) : REntOK FT XT 91 (rn91v1 f) := by
  have hT : TabOK FT XT (T91v1 d90v1) := by
    intro g en hg
    unfold T91v1 at hg
    split at hg <;> first | (injection hg with hg; subst hg; assumption) | cases hg
  have hO0 : RawOK FT XT (rawOf (α := QR91v1.T) (RW91v1 d90v1)) := by
    refine rawOf_ok (fun g en hg => ?_)
    unfold RW91v1 at hg
    split at hg <;> simp only [List.mem_cons, List.not_mem_nil, or_false] at hg <;> first | (subst hg; assumption) | (rcases hg with rfl | rfl <;> assumption) | (rcases hg with rfl | rfl | rfl <;> assumption) | (rcases hg with rfl | rfl | rfl | rfl <;> assumption)
  have hO : RawOK FT XT (rawOf (α := QR91v1.T) (RW91v1 d90v1)) := hO0
  intro v r w h hw
  obtain ⟨N, h1⟩ := hf _ _ _ _ _ _ _ _ _ _ _ h
  exact ans_r (Q := QR91v1) (tab := T91v1 d90v1) (raw := (rawOf (RW91v1 d90v1))) (LP := W91v1 d90v1 N) (fu := fuelC) hT hO rfl rfl (Nat.le_of_ble_eq_true rfl) rfl loopOK_nil ((e91v1 d90v1 N v).trans h1) hw

def T92v1 (d111v0 : D111v0) (d91v1 : D91v1) (d88v2 : D88v2) (d86v2 : D86v2) : Nat → Option Ent
  | _ => none
def RW92v1 (d111v0 : D111v0) (d91v1 : D91v1) (d88v2 : D88v2) (d86v2 : D86v2) : Nat → List REnt
  | 111 => [rn111v0 d111v0]
  | 91 => [rn91v1 d91v1]
  | 88 => [rn88v2 d88v2]
  | 86 => [rn86v2 d86v2]
  | _ => []
def W92v1 (d111v0 : D111v0) (d91v1 : D91v1) (d88v2 : D88v2) (d86v2 : D86v2) (N : Nat) : LoopF QR92v1.T := fun no =>
  match no with
  | _ => fun _ _ => none
theorem e92v1 (d111v0 : D111v0) (d91v1 : D91v1) (d88v2 : D88v2) (d86v2 : D86v2) (N : Nat) (v : PR92v1.T) : evc (T92v1 d111v0 d91v1 d88v2 d86v2) (addI (T92v1 d111v0 d91v1 d88v2 d86v2) (modeOf FT) fuelC 110 k110 (addI (T92v1 d111v0 d91v1 d88v2 d86v2) (modeOf FT) fuelC 107 k107 (rawOf (RW92v1 d111v0 d91v1 d88v2 d86v2)))) (W92v1 d111v0 d91v1 d88v2 d86v2 N) (retr k92.res 1 QR92v1) (modeOf FT) 1 fuelC k92.body (env0 k92 (PR92v1.a.st v.1), stH PR92v1.h v.2) (endK (retr k92.res 1 QR92v1)) = p92v1 d111v0 d91v1 d88v2 d86v2 N v.1.2.1 v.1.2.2.2.1 v.1.2.2.2.2.1 v.2.1.2.2.2.2.2.2.2.2.2.2.2.2.2.2.2.2.2.2.2.2.2.2.2.2.2.2.2.2.2.2.2.2.2.1 v.2.1.2.2.2.2.2.2.2.2.2.2.2.2.2.2.2.2.2.2.2.2.2.2.2.2.2.2.2.2.2.2.2.2.2.2.1 v.2.1.2.2.2.2.2.2.2.2.2.2.2.2.2.2.2.2.2.2.2.2.2.2.2.2.2.2.2.2.2.2.2.2.2.2.2.1 v.2.1.2.2.2.2.2.2.2.2.2.2.2.2.2.2.2.2.2.2.2.2.2.2.2.2.2.2.2.2.2.2.2.2.2.2.2.2.1 v.2.1.2.2.2.2.2.2.2.2.2.2.2.2.2.2.2.2.2.2.2.2.2.2.2.2.2.2.2.2.2.2.2.2.2.2.2.2.2.1 v.2.1.2.2.2.2.2.2.2.2.2.2.2.2.2.2.2.2.2.2.2.2.2.2.2.2.2.2.2.2.2.2.2.2.2.2.2.2.2.2.1 v.2.1.2.2.2.2.2.2.2.2.2.2.2.2.2.2.2.2.2.2.2.2.2.2.2.2.2.2.2.2.2.2.2.2.2.2.2.2.2.2.2.1 v.2.1.2.2.2.2.2.2.2.2.2.2.2.2.2.2.2.2.2.2.2.2.2.2.2.2.2.2.2.2.2.2.2.2.2.2.2.2.2.2.2.2.1 v.2.1.2.2.2.2.2.2.2.2.2.2.2.2.2.2.2.2.2.2.2.2.2.2.2.2.2.2.2.2.2.2.2.2.2.2.2.2.2.2.2.2.2.1 := by kernel_rfl
theorem ok92v1 (d111v0 : D111v0) (d91v1 : D91v1) (d88v2 : D88v2) (d86v2 : D86v2) (h111v0 : REntOK FT XT 111 (rn111v0 d111v0)) (h91v1 : REntOK FT XT 91 (rn91v1 d91v1)) (h88v2 : REntOK FT XT 88 (rn88v2 d88v2)) (h86v2 : REntOK FT XT 86 (rn86v2 d86v2)) {f : D92v1} (hf : ∀ a0 a1 a2 a3 a4 a5 a6 a7 a8 a9 a10 a11 r, f a0 a1 a2 a3 a4 a5 a6 a7 a8 a9 a10 a11 = some r → ∃ N, p92v1 d111v0 d91v1 d88v2 d86v2 N a0 a1 a2 a3 a4 a5 a6 a7 a8 a9 a10 a11 = some r) : REntOK FT XT 92 (rn92v1 f) := by
  have hT : TabOK FT XT (T92v1 d111v0 d91v1 d88v2 d86v2) := by
    intro g en hg
    unfold T92v1 at hg
    split at hg <;> first | (injection hg with hg; subst hg; assumption) | cases hg
  have hO0 : RawOK FT XT (rawOf (α := QR92v1.T) (RW92v1 d111v0 d91v1 d88v2 d86v2)) := by
    refine rawOf_ok (fun g en hg => ?_)
    unfold RW92v1 at hg
    split at hg <;> simp only [List.mem_cons, List.not_mem_nil, or_false] at hg <;> first | (subst hg; assumption) | (rcases hg with rfl | rfl <;> assumption) | (rcases hg with rfl | rfl | rfl <;> assumption) | (rcases hg with rfl | rfl | rfl | rfl <;> assumption)
  have hO : RawOK FT XT (addI (T92v1 d111v0 d91v1 d88v2 d86v2) (modeOf FT) fuelC 110 k110 (addI (T92v1 d111v0 d91v1 d88v2 d86v2) (modeOf FT) fuelC 107 k107 (rawOf (α := QR92v1.T) (RW92v1 d111v0 d91v1 d88v2 d86v2)))) := addI_ok hT (addI_ok hT (hO0) rfl rfl) rfl rfl
  intro v r w h hw
  obtain ⟨N, h1⟩ := hf _ _ _ _ _ _ _ _ _ _ _ _ _ h
  exact ans_r (Q := QR92v1) (tab := T92v1 d111v0 d91v1 d88v2 d86v2) (raw := (addI (T92v1 d111v0 d91v1 d88v2 d86v2) (modeOf FT) fuelC 110 k110 (addI (T92v1 d111v0 d91v1 d88v2 d86v2) (modeOf FT) fuelC 107 k107 (rawOf (RW92v1 d111v0 d91v1 d88v2 d86v2))))) (LP := W92v1 d111v0 d91v1 d88v2 d86v2 N) (fu := fuelC) hT hO rfl rfl (Nat.le_of_ble_eq_true rfl) rfl loopOK_nil ((e92v1 d111v0 d91v1 d88v2 d86v2 N v).trans h1) hw

def T97v0 : Nat → Option Ent
  | _ => none
def W97v0 (N : Nat) : LoopF QR97v0.T := fun no =>
  match no with
  | _ => fun _ _ => none
theorem e97v0 (N : Nat) (v : PR97v0.T) : evc (T97v0) (addI (T97v0) (modeOf FT) fuelC 110 k110 (rawOf RW0)) (W97v0 N) (retr k97.res 1 QR97v0) (modeOf FT) 1 fuelC k97.body (env0 k97 (PR97v0.a.st v.1), stH PR97v0.h v.2) (endK (retr k97.res 1 QR97v0)) = p97v0 N v.2.1.2.2.2.2.2.2.2.2.2.2.2.2.2.2.2.2.2.2.2.2.2.2.2.2.2.2.2.2.2.2.2.2.2.1 v.2.1.2.2.2.2.2.2.2.2.2.2.2.2.2.2.2.2.2.2.2.2.2.2.2.2.2.2.2.2.2.2.2.2.2.2.1 v.2.1.2.2.2.2.2.2.2.2.2.2.2.2.2.2.2.2.2.2.2.2.2.2.2.2.2.2.2.2.2.2.2.2.2.2.2.1 v.2.1.2.2.2.2.2.2.2.2.2.2.2.2.2.2.2.2.2.2.2.2.2.2.2.2.2.2.2.2.2.2.2.2.2.2.2.2.1 v.2.1.2.2.2.2.2.2.2.2.2.2.2.2.2.2.2.2.2.2.2.2.2.2.2.2.2.2.2.2.2.2.2.2.2.2.2.2.2.1 v.2.1.2.2.2.2.2.2.2.2.2.2.2.2.2.2.2.2.2.2.2.2.2.2.2.2.2.2.2.2.2.2.2.2.2.2.2.2.2.2.1 v.2.1.2.2.2.2.2.2.2.2.2.2.2.2.2.2.2.2.2.2.2.2.2.2.2.2.2.2.2.2.2.2.2.2.2.2.2.2.2.2.2.1 v.2.1.2.2.2.2.2.2.2.2.2.2.2.2.2.2.2.2.2.2.2.2.2.2.2.2.2.2.2.2.2.2.2.2.2.2.2.2.2.2.2.2.1 v.2.1.2.2.2.2.2.2.2.2.2.2.2.2.2.2.2.2.2.2.2.2.2.2.2.2.2.2.2.2.2.2.2.2.2.2.2.2.2.2.2.2.2.1 := by kernel_rfl
theorem ok97v0 {f : D97v0} (hf : ∀ a0 a1 a2 a3 a4 a5 a6 a7 a8 r, f a0 a1 a2 a3 a4 a5 a6 a7 a8 = some r → ∃ N, p97v0 N a0 a1 a2 a3 a4 a5 a6 a7 a8 = some r) : REntOK FT XT 97 (rn97v0 f) := by
  have hT : TabOK FT XT (T97v0) := by
    intro g en hg
    unfold T97v0 at hg
    split at hg <;> first | (injection hg with hg; subst hg; assumption) | cases hg
  have hO0 : RawOK FT XT (rawOf (α := QR97v0.T) RW0) := rawOK0
  have hO : RawOK FT XT (addI (T97v0) (modeOf FT) fuelC 110 k110 (rawOf (α := QR97v0.T) RW0)) := addI_ok hT (hO0) rfl rfl
  intro v r w h hw
  obtain ⟨N, h1⟩ := hf _ _ _ _ _ _ _ _ _ _ h
  exact ans_r (Q := QR97v0) (tab := T97v0) (raw := (addI (T97v0) (modeOf FT) fuelC 110 k110 (rawOf RW0))) (LP := W97v0 N) (fu := fuelC) hT hO rfl rfl (Nat.le_of_ble_eq_true rfl) rfl loopOK_nil ((e97v0 N v).trans h1) hw

def T92v2 (d111v0 : D111v0) (d91v1 : D91v1) (d88v2 : D88v2) (d86v1 : D86v1) : Nat → Option Ent
  | _ => none
def RW92v2 (d111v0 : D111v0) (d91v1 : D91v1) (d88v2 : D88v2) (d86v1 : D86v1) : Nat → List REnt
  | 111 => [rn111v0 d111v0]
  | 91 => [rn91v1 d91v1]
  | 88 => [rn88v2 d88v2]
  | 86 => [rn86v1 d86v1]
  | _ => []
def W92v2 (d111v0 : D111v0) (d91v1 : D91v1) (d88v2 : D88v2) (d86v1 : D86v1) (N : Nat) : LoopF QR92v2.T := fun no =>
  match no with
  | _ => fun _ _ => none
theorem e92v2 (d111v0 : D111v0) (d91v1 : D91v1) (d88v2 : D88v2) (d86v1 : D86v1) (N : Nat) (v : PR92v2.T) : evc (T92v2 d111v0 d91v1 d88v2 d86v1) (addI (T92v2 d111v0 d91v1 d88v2 d86v1) (modeOf FT) fuelC 110 k110 (addI (T92v2 d111v0 d91v1 d88v2 d86v1) (modeOf FT) fuelC 107 k107 (rawOf (RW92v2 d111v0 d91v1 d88v2 d86v1)))) (W92v2 d111v0 d91v1 d88v2 d86v1 N) (retr k92.res 2 QR92v2) (modeOf FT) 2 fuelC k92.body (env0 k92 (PR92v2.a.st v.1), stH PR92v2.h v.2) (endK (retr k92.res 2 QR92v2)) = p92v2 d111v0 d91v1 d88v2 d86v1 N v.1.2.1 v.1.2.2.2.1 v.1.2.2.2.2.1 v.2.1.2.2.2.2.2.2.2.2.2.2.2.2.2.2.2.2.2.2.2.2.2.2.2.2.2.2.2.2.2.2.2.2.2.1 v.2.1.2.2.2.2.2.2.2.2.2.2.2.2.2.2.2.2.2.2.2.2.2.2.2.2.2.2.2.2.2.2.2.2.2.2.1 v.2.1.2.2.2.2.2.2.2.2.2.2.2.2.2.2.2.2.2.2.2.2.2.2.2.2.2.2.2.2.2.2.2.2.2.2.2.1 v.2.1.2.2.2.2.2.2.2.2.2.2.2.2.2.2.2.2.2.2.2.2.2.2.2.2.2.2.2.2.2.2.2.2.2.2.2.2.1 v.2.1.2.2.2.2.2.2.2.2.2.2.2.2.2.2.2.2.2.2.2.2.2.2.2.2.2.2.2.2.2.2.2.2.2.2.2.2.2.1 v.2.1.2.2.2.2.2.2.2.2.2.2.2.2.2.2.2.2.2.2.2.2.2.2.2.2.2.2.2.2.2.2.2.2.2.2.2.2.2.2.1 v.2.1.2.2.2.2.2.2.2.2.2.2.2.2.2.2.2.2.2.2.2.2.2.2.2.2.2.2.2.2.2.2.2.2.2.2.2.2.2.2.2.1 v.2.1.2.2.2.2.2.2.2.2.2.2.2.2.2.2.2.2.2.2.2.2.2.2.2.2.2.2.2.2.2.2.2.2.2.2.2.2.2.2.2.2.1 v.2.1.2.2.2.2.2.2.2.2.2.2.2.2.2.2.2.2.2.2.2.2.2.2.2.2.2.2.2.2.2.2.2.2.2.2.2.2.2.2.2.2.2.1 v.2.2.1.2.2.2.2.2.2.2.2.2.2.2.2.2.2.2.2.2.2.2.2.2.2.2.2.2.2.2.2.2.2.2.2.2.1 v.2.2.1.2.2.2.2.2.2.2.2.2.2.2.2.2.2.2.2.2.2.2.2.2.2.2.2.2.2.2.2.2.2.2.2.2.2.1 v.2.2.1.2.2.2.2.2.2.2.2.2.2.2.2.2.2.2.2.2.2.2.2.2.2.2.2.2.2.2.2.2.2.2.2.2.2.2.1 v.2.2.1.2.2.2.2.2.2.2.2.2.2.2.2.2.2.2.2.2.2.2.2.2.2.2.2.2.2.2.2.2.2.2.2.2.2.2.2.1 v.2.2.1.2.2.2.2.2.2.2.2.2.2.2.2.2.2.2.2.2.2.2.2.2.2.2.2.2.2.2.2.2.2.2.2.2.2.2.2.2.1 v.2.2.1.2.2.2.2.2.2.2.2.2.2.2.2.2.2.2.2.2.2.2.2.2.2.2.2.2.2.2.2.2.2.2.2.2.2.2.2.2.2.1 v.2.2.1.2.2.2.2.2.2.2.2.2.2.2.2.2.2.2.2.2.2.2.2.2.2.2.2.2.2.2.2.2.2.2.2.2.2.2.2.2.2.2.1 v.2.2.1.2.2.2.2.2.2.2.2.2.2.2.2.2.2.2.2.2.2.2.2.2.2.2.2.2.2.2.2.2.2.2.2.2.2.2.2.2.2.2.2.1 v.2.2.1.2.2.2.2.2.2.2.2.2.2.2.2.2.2.2.2.2.2.2.2.2.2.2.2.2.2.2.2.2.2.2.2.2.2.2.2.2.2.2.2.2.1 := by kernel_rfl
theorem ok92v2 (d111v0 : D111v0) (d91v1 : D91v1) (d88v2 : D88v2) (d86v1 : D86v1) (h111v0 : REntOK FT XT 111 (rn111v0 d111v0)) (h91v1 : REntOK FT XT 91 (rn91v1 d91v1)) (h88v2 : REntOK FT XT 88 (rn88v2 d88v2)) (h86v1 : REntOK FT XT 86 (rn86v1 d86v1)) {f : D92v2} (hf : ∀ a0 a1 a2 a3 a4 a5 a6 a7 a8 a9 a10 a11 a12 a13 a14 a15 a16 a17 a18 a19 a20 r, f a0 a1 a2 a3 a4 a5 a6 a7 a8 a9 a10 a11 a12 a13 a14 a15 a16 a17 a18 a19 a20 = some r → ∃ N, p92v2 d111v0 d91v1 d88v2 d86v1 N a0 a1 a2 a3 a4 a5 a6 a7 a8 a9 a10 a11 a12 a13 a14 a15 a16 a17 a18 a19 a20 = some r) : REntOK FT XT 92 (rn92v2 f) := by
  have hT : TabOK FT XT (T92v2 d111v0 d91v1 d88v2 d86v1) := by
    intro g en hg
    unfold T92v2 at hg
    split at hg <;> first | (injection hg with hg; subst hg; assumption) | cases hg
  have hO0 : RawOK FT XT (rawOf (α := QR92v2.T) (RW92v2 d111v0 d91v1 d88v2 d86v1)) := by
    refine rawOf_ok (fun g en hg => ?_)
    unfold RW92v2 at hg
    split at hg <;> simp only [List.mem_cons, List.not_mem_nil, or_false] at hg <;> first | (subst hg; assumption) | (rcases hg with rfl | rfl <;> assumption) | (rcases hg with rfl | rfl | rfl <;> assumption) | (rcases hg with rfl | rfl | rfl | rfl <;> assumption)
  have hO : RawOK FT XT (addI (T92v2 d111v0 d91v1 d88v2 d86v1) (modeOf FT) fuelC 110 k110 (addI (T92v2 d111v0 d91v1 d88v2 d86v1) (modeOf FT) fuelC 107 k107 (rawOf (α := QR92v2.T) (RW92v2 d111v0 d91v1 d88v2 d86v1)))) := addI_ok hT (addI_ok hT (hO0) rfl rfl) rfl rfl
  intro v r w h hw
  obtain ⟨N, h1⟩ := hf _ _ _ _ _ _ _ _ _ _ _ _ _ _ _ _ _ _ _ _ _ _ h
  exact ans_r (Q := QR92v2) (tab := T92v2 d111v0 d91v1 d88v2 d86v1) (raw := (addI (T92v2 d111v0 d91v1 d88v2 d86v1) (modeOf FT) fuelC 110 k110 (addI (T92v2 d111v0 d91v1 d88v2 d86v1) (modeOf FT) fuelC 107 k107 (rawOf (RW92v2 d111v0 d91v1 d88v2 d86v1))))) (LP := W92v2 d111v0 d91v1 d88v2 d86v1 N) (fu := fuelC) hT hO rfl rfl (Nat.le_of_ble_eq_true rfl) rfl loopOK_nil ((e92v2 d111v0 d91v1 d88v2 d86v1 N v).trans h1) hw

def T87v2 (d111v0 : D111v0) (c108 : D108) : Nat → Option Ent
  | 108 => some (en108 c108)
  | _ => none
def RW87v2 (d111v0 : D111v0) (c108 : D108) : Nat → List REnt
  | 111 => [rn111v0 d111v0]
  | _ => []
def W87v2 (d111v0 : D111v0) (c108 : D108) (N : Nat) : LoopF QR87v2.T := fun no =>
  match no with
  | _ => fun _ _ => none
theorem e87v2 (d111v0 : D111v0) (c108 : D108) (N : Nat) (v : PR87v2.T) : evc (T87v2 d111v0 c108) (addI (T87v2 d111v0 c108) (modeOf FT) fuelC 109 k109 (addI (T87v2 d111v0 c108) (modeOf FT) fuelC 106 k106 (addI (T87v2 d111v0 c108) (modeOf FT) fuelC 110 k110 (rawOf (RW87v2 d111v0 c108))))) (W87v2 d111v0 c108 N) (retr k87.res 1 QR87v2) (modeOf FT) 1 fuelC k87.body (env0 k87 (PR87v2.a.st v.1), stH PR87v2.h v.2) (endK (retr k87.res 1 QR87v2)) = p87v2 d111v0 c108 N v.1.2.1 v.1.2.2.1 v.2.1.2.2.2.2.2.2.2.2.2.2.2.2.2.2.2.2.2.2.2.2.2.2.2.2.2.2.2.2.2.2.2.2.2.1 v.2.1.2.2.2.2.2.2.2.2.2.2.2.2.2.2.2.2.2.2.2.2.2.2.2.2.2.2.2.2.2.2.2.2.2.2.1 v.2.1.2.2.2.2.2.2.2.2.2.2.2.2.2.2.2.2.2.2.2.2.2.2.2.2.2.2.2.2.2.2.2.2.2.2.2.1 v.2.1.2.2.2.2.2.2.2.2.2.2.2.2.2.2.2.2.2.2.2.2.2.2.2.2.2.2.2.2.2.2.2.2.2.2.2.2.1 v.2.1.2.2.2.2.2.2.2.2.2.2.2.2.2.2.2.2.2.2.2.2.2.2.2.2.2.2.2.2.2.2.2.2.2.2.2.2.2.1 v.2.1.2.2.2.2.2.2.2.2.2.2.2.2.2.2.2.2.2.2.2.2.2.2.2.2.2.2.2.2.2.2.2.2.2.2.2.2.2.2.1 v.2.1.2.2.2.2.2.2.2.2.2.2.2.2.2.2.2.2.2.2.2.2.2.2.2.2.2.2.2.2.2.2.2.2.2.2.2.2.2.2.2.1 v.2.1.2.2.2.2.2.2.2.2.2.2.2.2.2.2.2.2.2.2.2.2.2.2.2.2.2.2.2.2.2.2.2.2.2.2.2.2.2.2.2.2.1 v.2.1.2.2.2.2.2.2.2.2.2.2.2.2.2.2.2.2.2.2.2.2.2.2.2.2.2.2.2.2.2.2.2.2.2.2.2.2.2.2.2.2.2.1 := by kernel_rfl
theorem ok87v2 (d111v0 : D111v0) (c108 : D108) (h108 : EntOK FT XT 108 (en108 c108)) (h111v0 : REntOK FT XT 111 (rn111v0 d111v0)) {f : D87v2} (hf : ∀ a0 a1 a2 a3 a4 a5 a6 a7 a8 a9 a10 r, f a0 a1 a2 a3 a4 a5 a6 a7 a8 a9 a10 = some r → ∃ N, p87v2 d111v0 c108 N a0 a1 a2 a3 a4 a5 a6 a7 a8 a9 a10 = some r) : REntOK FT XT 87 (rn87v2 f) := by
  have hT : TabOK FT XT (T87v2 d111v0 c108) := by
    intro g en hg
    unfold T87v2 at hg
    split at hg <;> first | (injection hg with hg; subst hg; assumption) | cases hg
  have hO0 : RawOK FT XT (rawOf (α := QR87v2.T) (RW87v2 d111v0 c108)) := by
    refine rawOf_ok (fun g en hg => ?_)
    unfold RW87v2 at hg
    split at hg <;> simp only [List.mem_cons, List.not_mem_nil, or_false] at hg <;> first | (subst hg; assumption) | (rcases hg with rfl | rfl <;> assumption) | (rcases hg with rfl | rfl | rfl <;> assumption) | (rcases hg with rfl | rfl | rfl | rfl <;> assumption)
  have hO : RawOK FT XT (addI (T87v2 d111v0 c108) (modeOf FT) fuelC 109 k109 (addI (T87v2 d111v0 c108) (modeOf FT) fuelC 106 k106 (addI (T87v2 d111v0 c108) (modeOf FT) fuelC 110 k110 (rawOf (α := QR87v2.T) (RW87v2 d111v0 c108))))) := addI_ok hT (addI_ok hT (addI_ok hT (hO0) rfl rfl) rfl rfl) rfl rfl
  intro v r w h hw
  obtain ⟨N, h1⟩ := hf _ _ _ _ _ _ _ _ _ _ _ _ h
  exact ans_r (Q := QR87v2) (tab := T87v2 d111v0 c108) (raw := (addI (T87v2 d111v0 c108) (modeOf FT) fuelC 109 k109 (addI (T87v2 d111v0 c108) (modeOf FT) fuelC 106 k106 (addI (T87v2 d111v0 c108) (modeOf FT) fuelC 110 k110 (rawOf (RW87v2 d111v0 c108)))))) (LP := W87v2 d111v0 c108 N) (fu := fuelC) hT hO rfl rfl (Nat.le_of_ble_eq_true rfl) rfl loopOK_nil ((e87v2 d111v0 c108 N v).trans h1) hw

def T92v3 (d111v0 : D111v0) (d91v0 : D91v0) (d88v1 : D88v1) (d86v1 : D86v1) : Nat → Option Ent
  | _ => none
def RW92v3 (d111v0 : D111v0) (d91v0 : D91v0) (d88v1 : D88v1) (d86v1 : D86v1) : Nat → List REnt
  | 111 => [rn111v0 d111v0]
  | 91 => [rn91v0 d91v0]
  | 88 => [rn88v1 d88v1]
  | 86 => [rn86v1 d86v1]
  | _ => []
def W92v3 (d111v0 : D111v0) (d91v0 : D91v0) (d88v1 : D88v1) (d86v1 : D86v1) (N : Nat) : LoopF QR92v3.T := fun no =>
  match no with
  | _ => fun _ _ => none
theorem e92v3 (d111v0 : D111v0) (d91v0 : D91v0) (d88v1 : D88v1) (d86v1 : D86v1) (N : Nat) (v : PR92v3.T) : evc (T92v3 d111v0 d91v0 d88v1 d86v1) (addI (T92v3 d111v0 d91v0 d88v1 d86v1) (modeOf FT) fuelC 110 k110 (addI (T92v3 d111v0 d91v0 d88v1 d86v1) (modeOf FT) fuelC 107 k107 (rawOf (RW92v3 d111v0 d91v0 d88v1 d86v1)))) (W92v3 d111v0 d91v0 d88v1 d86v1 N) (retr k92.res 1 QR92v3) (modeOf FT) 1 fuelC k92.body (env0 k92 (PR92v3.a.st v.1), stH PR92v3.h v.2) (endK (retr k92.res 1 QR92v3)) = p92v3 d111v0 d91v0 d88v1 d86v1 N v.1.2.1 v.1.2.2.2.1 v.1.2.2.2.2.1 v.2.1.2.2.2.2.2.2.2.2.2.2.2.2.2.2.2.2.2.2.2.2.2.2.2.2.2.2.2.2.2.2.2.2.2.1 v.2.1.2.2.2.2.2.2.2.2.2.2.2.2.2.2.2.2.2.2.2.2.2.2.2.2.2.2.2.2.2.2.2.2.2.2.1 v.2.1.2.2.2.2.2.2.2.2.2.2.2.2.2.2.2.2.2.2.2.2.2.2.2.2.2.2.2.2.2.2.2.2.2.2.2.1 v.2.1.2.2.2.2.2.2.2.2.2.2.2.2.2.2.2.2.2.2.2.2.2.2.2.2.2.2.2.2.2.2.2.2.2.2.2.2.1 v.2.1.2.2.2.2.2.2.2.2.2.2.2.2.2.2.2.2.2.2.2.2.2.2.2.2.2.2.2.2.2.2.2.2.2.2.2.2.2.1 v.2.1.2.2.2.2.2.2.2.2.2.2.2.2.2.2.2.2.2.2.2.2.2.2.2.2.2.2.2.2.2.2.2.2.2.2.2.2.2.2.1 v.2.1.2.2.2.2.2.2.2.2.2.2.2.2.2.2.2.2.2.2.2.2.2.2.2.2.2.2.2.2.2.2.2.2.2.2.2.2.2.2.2.1 v.2.1.2.2.2.2.2.2.2.2.2.2.2.2.2.2.2.2.2.2.2.2.2.2.2.2.2.2.2.2.2.2.2.2.2.2.2.2.2.2.2.2.1 v.2.1.2.2.2.2.2.2.2.2.2.2.2.2.2.2.2.2.2.2.2.2.2.2.2.2.2.2.2.2.2.2.2.2.2.2.2.2.2.2.2.2.2.1 := by kernel_rfl
theorem ok92v3 (d111v0 : D111v0) (d91v0 : D91v0) (d88v1 : D88v1) (d86v1 : D86v1) (h111v0 : REntOK FT XT 111 (rn111v0 d111v0)) (h91v0 : REntOK FT XT 91 (rn91v0 d91v0)) (h88v1 : REntOK FT XT 88 (rn88v1 d88v1)) (h86v1 : REntOK FT XT 86 (rn86v1 d86v1)) {f : D92v3} (hf : ∀ a0 a1 a2 a3 a4 a5 a6 a7 a8 a9 a10 a11 r, f a0 a1 a2 a3 a4 a5 a6 a7 a8 a9 a10 a11 = some r → ∃ N, p92v3 d111v0 d91v0 d88v1 d86v1 N a0 a1 a2 a3 a4 a5 a6 a7 a8 a9 a10 a11 = some r) : REntOK FT XT 92 (rn92v3 f) := by
  have hT : TabOK FT XT (T92v3 d111v0 d91v0 d88v1 d86v1) := by
    intro g en hg
    unfold T92v3 at hg
    split at hg <;> first | (injection hg with hg; subst hg; assumption) | cases hg
  have hO0 : RawOK FT XT (rawOf (α := QR92v3.T) (RW92v3 d111v0 d91v0 d88v1 d86v1)) := by
    refine rawOf_ok (fun g en hg => ?_)
    unfold RW92v3 at hg
    split at hg <;> simp only [List.mem_cons, List.not_mem_nil, or_false] at hg <;> first | (subst hg; assumption) | (rcases hg with rfl | rfl <;> assumption) | (rcases hg with rfl | rfl | rfl <;> assumption) | (rcases hg with rfl | rfl | rfl | rfl <;> assumption)
  have hO : RawOK FT XT (addI (T92v3 d111v0 d91v0 d88v1 d86v1) (modeOf FT) fuelC 110 k110 (addI (T92v3 d111v0 d91v0 d88v1 d86v1) (modeOf FT) fuelC 107 k107 (rawOf (α := QR92v3.T) (RW92v3 d111v0 d91v0 d88v1 d86v1)))) := addI_ok hT (addI_ok hT (hO0) rfl rfl) rfl rfl
  intro v r w h hw
  obtain ⟨N, h1⟩ := hf _ _ _ _ _ _ _ _ _ _ _ _ _ h
  exact ans_r (Q := QR92v3) (tab := T92v3 d111v0 d91v0 d88v1 d86v1) (raw := (addI (T92v3 d111v0 d91v0 d88v1 d86v1) (modeOf FT) fuelC 110 k110 (addI (T92v3 d111v0 d91v0 d88v1 d86v1) (modeOf FT) fuelC 107 k107 (rawOf (RW92v3 d111v0 d91v0 d88v1 d86v1))))) (LP := W92v3 d111v0 d91v0 d88v1 d86v1 N) (fu := fuelC) hT hO rfl rfl (Nat.le_of_ble_eq_true rfl) rfl loopOK_nil ((e92v3 d111v0 d91v0 d88v1 d86v1 N v).trans h1) hw

def T97v1 : Nat → Option Ent
  | _ => none
def W97v1 (N : Nat) : LoopF QR97v1.T := fun no =>
  match no with
  | _ => fun _ _ => none
theorem e97v1 (N : Nat) (v : PR97v1.T) : evc (T97v1) (addI (T97v1) (modeOf FT) fuelC 110 k110 (rawOf RW0)) (W97v1 N) (retr k97.res 1 QR97v1) (modeOf FT) 1 fuelC k97.body (env0 k97 (PR97v1.a.st v.1), stH PR97v1.h v.2) (endK (retr k97.res 1 QR97v1)) = p97v1 N v.2.1.2.2.2.2.2.2.2.2.2.2.2.2.2.2.2.2.2.2.2.2.2.2.2.2.2.2.2.2.2.2.2.2.2.1 v.2.1.2.2.2.2.2.2.2.2.2.2.2.2.2.2.2.2.2.2.2.2.2.2.2.2.2.2.2.2.2.2.2.2.2.2.1 v.2.1.2.2.2.2.2.2.2.2.2.2.2.2.2.2.2.2.2.2.2.2.2.2.2.2.2.2.2.2.2.2.2.2.2.2.2.1 v.2.1.2.2.2.2.2.2.2.2.2.2.2.2.2.2.2.2.2.2.2.2.2.2.2.2.2.2.2.2.2.2.2.2.2.2.2.2.1 v.2.1.2.2.2.2.2.2.2.2.2.2.2.2.2.2.2.2.2.2.2.2.2.2.2.2.2.2.2.2.2.2.2.2.2.2.2.2.2.1 v.2.1.2.2.2.2.2.2.2.2.2.2.2.2.2.2.2.2.2.2.2.2.2.2.2.2.2.2.2.2.2.2.2.2.2.2.2.2.2.2.1 v.2.1.2.2.2.2.2.2.2.2.2.2.2.2.2.2.2.2.2.2.2.2.2.2.2.2.2.2.2.2.2.2.2.2.2.2.2.2.2.2.2.1 v.2.1.2.2.2.2.2.2.2.2.2.2.2.2.2.2.2.2.2.2.2.2.2.2.2.2.2.2.2.2.2.2.2.2.2.2.2.2.2.2.2.2.1 v.2.1.2.2.2.2.2.2.2.2.2.2.2.2.2.2.2.2.2.2.2.2.2.2.2.2.2.2.2.2.2.2.2.2.2.2.2.2.2.2.2.2.2.1 := by kernel_rfl
theorem ok97v1 {f : D97v1} (hf : ∀ a0 a1 a2 a3 a4 a5 a6 a7 a8 r, f a0 a1 a2 a3 a4 a5 a6 a7 a8 = some r → ∃ N, p97v1 N a0 a1 a2 a3 a4 a5 a6 a7 a8 = some r) : REntOK FT XT 97 (rn97v1 f) := by
  have hT : TabOK FT XT (T97v1) := by
    intro g en hg
    unfold T97v1 at hg
    split at hg <;> first | (injection hg with hg; subst hg; assumption) | cases hg
  have hO0 : RawOK FT XT (rawOf (α := QR97v1.T) RW0) := rawOK0
  have hO : RawOK FT XT (addI (T97v1) (modeOf FT) fuelC 110 k110 (rawOf (α := QR97v1.T) RW0)) := addI_ok hT (hO0) rfl rfl
  intro v r w h hw
  obtain ⟨N, h1⟩ := hf _ _ _ _ _ _ _ _ _ _ h
  exact ans_r (Q := QR97v1) (tab := T97v1) (raw := (addI (T97v1) (modeOf FT) fuelC 110 k110 (rawOf RW0))) (LP := W97v1 N) (fu := fuelC) hT hO rfl rfl (Nat.le_of_ble_eq_true rfl) rfl loopOK_nil ((e97v1 N v).trans h1) hw

def T73 (c84 : D84) (d86v2 : D86v2) (c93 : D93) (c108 : D108) (c23 : D23) (d88v2 : D88v2) (c94 : D94) (d87v1 : D87v1) (c95 : D95) (d92v1 : D92v1) (c112 : D112) (d97v0 : D97v0) (d92v2 : D92v2) (d86v1 : D86v1) (d88v1 : D88v1) (d87v2 : D87v2) (d92v3 : D92v3) (d97v1 : D97v1) (d92v0 : D92v0) : Nat → Option Ent
  | 84 => some (en84 c84)
  | 93 => some (en93 c93)
  | 108 => some (en108 c108)
  | 23 => some (en23 c23)
  | 94 => some (en94 c94)
  | 95 => some (en95 c95)
  | 112 => some (en112 c112)
  | _ => none
def RW73 (c84 : D84) (d86v2 : D86v2) (c93 : D93) (c108 : D108) (c23 : D23) (d88v2 : D88v2) (c94 : D94) (d87v1 : D87v1) (c95 : D95) (d92v1 : D92v1) (c112 : D112) (d97v0 : D97v0) (d92v2 : D92v2) (d86v1 : D86v1) (d88v1 : D88v1) (d87v2 : D87v2) (d92v3 : D92v3) (d97v1 : D97v1) (d92v0 : D92v0) : Nat → List REnt
  | 86 => [rn86v2 d86v2, rn86v1 d86v1]
  | 88 => [rn88v2 d88v2, rn88v1 d88v1]
  | 87 => [rn87v1 d87v1, rn87v2 d87v2]
  | 92 => [rn92v1 d92v1, rn92v2 d92v2, rn92v3 d92v3, rn92v0 d92v0]
  | 97 => [rn97v0 d97v0, rn97v1 d97v1]
  | _ => []
def H73_2 : Trim := ⟨2, [], false, [3, 4, 26, 27, 45, 46, 47, 215, 216, 217, 222], []⟩
theorem l73_2 : loopN k73 2 = .loop H73_2 (bodyOf (loopN k73 2)) := by kernel_rfl
def W73_2 (c84 : D84) (d86v2 : D86v2) (c93 : D93) (c108 : D108) (c23 : D23) (d88v2 : D88v2) (c94 : D94) (d87v1 : D87v1) (c95 : D95) (d92v1 : D92v1) (c112 : D112) (d97v0 : D97v0) (d92v2 : D92v2) (d86v1 : D86v1) (d88v1 : D88v1) (d87v2 : D87v2) (d92v3 : D92v3) (d97v1 : D97v1) (d92v0 : D92v0) (N : Nat) : LoopF (Sh.bool).T := fun no =>
  match no with
  | _ => fun _ _ => none
theorem o73_2 (c84 : D84) (d86v2 : D86v2) (c93 : D93) (c108 : D108) (c23 : D23) (d88v2 : D88v2) (c94 : D94) (d87v1 : D87v1) (c95 : D95) (d92v1 : D92v1) (c112 : D112) (d97v0 : D97v0) (d92v2 : D92v2) (d86v1 : D86v1) (d88v1 : D88v1) (d87v2 : D87v2) (d92v3 : D92v3) (d97v1 : D97v1) (d92v0 : D92v0) (hT : TabOK FT XT (T73 c84 d86v2 c93 c108 c23 d88v2 c94 d87v1 c95 d92v1 c112 d97v0 d92v2 d86v1 d88v1 d87v2 d92v3 d97v1 d92v0)) (hO : RawOK FT XT (addI (T73 c84 d86v2 c93 c108 c23 d88v2 c94 d87v1 c95 d92v1 c112 d97v0 d92v2 d86v1 d88v1 d87v2 d92v3 d97v1 d92v0) (modeOf FT) fuelC 98 k98 (addI (T73 c84 d86v2 c93 c108 c23 d88v2 c94 d87v1 c95 d92v1 c112 d97v0 d92v2 d86v1 d88v1 d87v2 d92v3 d97v1 d92v0) (modeOf FT) fuelC 96 k96 (addI (T73 c84 d86v2 c93 c108 c23 d88v2 c94 d87v1 c95 d92v1 c112 d97v0 d92v2 d86v1 d88v1 d87v2 d92v3 d97v1 d92v0) (modeOf FT) fuelC 91 k91 (addI (T73 c84 d86v2 c93 c108 c23 d88v2 c94 d87v1 c95 d92v1 c112 d97v0 d92v2 d86v1 d88v1 d87v2 d92v3 d97v1 d92v0) (modeOf FT) fuelC 90 k90 (addI (T73 c84 d86v2 c93 c108 c23 d88v2 c94 d87v1 c95 d92v1 c112 d97v0 d92v2 d86v1 d88v1 d87v2 d92v3 d97v1 d92v0) (modeOf FT) fuelC 89 k89 (addI (T73 c84 d86v2 c93 c108 c23 d88v2 c94 d87v1 c95 d92v1 c112 d97v0 d92v2 d86v1 d88v1 d87v2 d92v3 d97v1 d92v0) (modeOf FT) fuelC 106 k106 (addI (T73 c84 d86v2 c93 c108 c23 d88v2 c94 d87v1 c95 d92v1 c112 d97v0 d92v2 d86v1 d88v1 d87v2 d92v3 d97v1 d92v0) (modeOf FT) fuelC 111 k111 (addI (T73 c84 d86v2 c93 c108 c23 d88v2 c94 d87v1 c95 d92v1 c112 d97v0 d92v2 d86v1 d88v1 d87v2 d92v3 d97v1 d92v0) (modeOf FT) fuelC 110 k110 (addI (T73 c84 d86v2 c93 c108 c23 d88v2 c94 d87v1 c95 d92v1 c112 d97v0 d92v2 d86v1 d88v1 d87v2 d92v3 d97v1 d92v0) (modeOf FT) fuelC 85 k85 (rawOf (α := (Sh.bool).T) (RW73 c84 d86v2 c93 c108 c23 d88v2 c94 d87v1 c95 d92v1 c112 d97v0 d92v2 d86v1 d88v1 d87v2 d92v3 d97v1 d92v0)))))))))))) (N : Nat) {s : St} {κ : Ex → St → Option (Sh.bool).T} {a : (Sh.bool).T} (h : unr (T73 c84 d86v2 c93 c108 c23 d88v2 c94 d87v1 c95 d92v1 c112 d97v0 d92v2 d86v1 d88v1 d87v2 d92v3 d97v1 d92v0) (addI (T73 c84 d86v2 c93 c108 c23 d88v2 c94 d87v1 c95 d92v1 c112 d97v0 d92v2 d86v1 d88v1 d87v2 d92v3 d97v1 d92v0) (modeOf FT) fuelC 98 k98 (addI (T73 c84 d86v2 c93 c108 c23 d88v2 c94 d87v1 c95 d92v1 c112 d97v0 d92v2 d86v1 d88v1 d87v2 d92v3 d97v1 d92v0) (modeOf FT) fuelC 96 k96 (addI (T73 c84 d86v2 c93 c108 c23 d88v2 c94 d87v1 c95 d92v1 c112 d97v0 d92v2 d86v1 d88v1 d87v2 d92v3 d97v1 d92v0) (modeOf FT) fuelC 91 k91 (addI (T73 c84 d86v2 c93 c108 c23 d88v2 c94 d87v1 c95 d92v1 c112 d97v0 d92v2 d86v1 d88v1 d87v2 d92v3 d97v1 d92v0) (modeOf FT) fuelC 90 k90 (addI (T73 c84 d86v2 c93 c108 c23 d88v2 c94 d87v1 c95 d92v1 c112 d97v0 d92v2 d86v1 d88v1 d87v2 d92v3 d97v1 d92v0) (modeOf FT) fuelC 89 k89 (addI (T73 c84 d86v2 c93 c108 c23 d88v2 c94 d87v1 c95 d92v1 c112 d97v0 d92v2 d86v1 d88v1 d87v2 d92v3 d97v1 d92v0) (modeOf FT) fuelC 106 k106 (addI (T73 c84 d86v2 c93 c108 c23 d88v2 c94 d87v1 c95 d92v1 c112 d97v0 d92v2 d86v1 d88v1 d87v2 d92v3 d97v1 d92v0) (modeOf FT) fuelC 111 k111 (addI (T73 c84 d86v2 c93 c108 c23 d88v2 c94 d87v1 c95 d92v1 c112 d97v0 d92v2 d86v1 d88v1 d87v2 d92v3 d97v1 d92v0) (modeOf FT) fuelC 110 k110 (addI (T73 c84 d86v2 c93 c108 c23 d88v2 c94 d87v1 c95 d92v1 c112 d97v0 d92v2 d86v1 d88v1 d87v2 d92v3 d97v1 d92v0) (modeOf FT) fuelC 85 k85 (rawOf (RW73 c84 d86v2 c93 c108 c23 d88v2 c94 d87v1 c95 d92v1 c112 d97v0 d92v2 d86v1 d88v1 d87v2 d92v3 d97v1 d92v0))))))))))) (W73_2 c84 d86v2 c93 c108 c23 d88v2 c94 d87v1 c95 d92v1 c112 d97v0 d92v2 d86v1 d88v1 d87v2 d92v3 d97v1 d92v0 N) (retc k73.res Sh.bool) (modeOf FT) 0 fuelC H73_2 (bodyOf (loopN k73 2)) 70 s κ = some a) : Out FT XT 0 (retc k73.res Sh.bool) (loopN k73 2) s κ a := by
  rw [l73_2]
  exact unr_out hT hO loopOK_nil 70 h
def H73_1 : Trim := ⟨1, [], false, [3, 4, 45, 46, 47, 215, 216, 217], []⟩
theorem l73_1 : loopN k73 1 = .loop H73_1 (bodyOf (loopN k73 1)) := by kernel_rfl
def P73_1 : Ps := ⟨[(0, .u), (2, .u), (3, (.slc 0 1)), (4, (.slk 3 2 9)), (6, .u), (7, .u), (8, .u), (9, .u), (10, .u), (11, .u), (12, .u), (13, .u), (14, .u), (15, .u), (16, .u), (17, .u), (18, .u), (19, .u), (20, .u), (21, .u), (22, .u), (23, .u), (24, .u), (25, .u), (26, .u), (27, .u), (28, .u), (29, .u), (30, .u), (31, .u), (32, .u), (45, (.tb (Sh.pr (Sh.int .u8) (Sh.pr Sh.bool (Sh.pr Sh.bool (Sh.pr (Sh.int .i64) (Sh.pr (Sh.int .i64) (Sh.pr (Sh.int .i64) (Sh.sl (Sh.int .u8)))))))))), (46, (.int .i64)), (47, (.int .i64)), (48, .u), (54, .u), (57, .u), (59, .u), (63, .u), (73, .u), (99, .u), (135, .u), (136, .u), (171, .u), (172, .u), (211, .u), (214, .u), (215, (.slc 0 1)), (216, (.int .i64)), (217, (.int .i64)), (218, .u), (222, .u), (223, .u), (282, .u)], [(.vals false (.cons (.ptr 1 0) (.cons (.ptr 2 0) .nil))), (.vals false (h33 1 (.cons (.tb (Sh.int .u8)) (.cons (.int .i64) (.cons (.int .i64) (.cons (.int .i64) (.cons (.tb (Sh.int .u8)) (.cons (.int .i64) (.cons (.int .i64) (.cons (.int .i64) (.cons .bool .nil))))))))))), (.vals false (h33 2 (.cons (.tb (Sh.int .u8)) (.cons (.int .i64) (.cons (.int .i64) (.cons (.int .i64) (.cons (.tb (Sh.int .u8)) (.cons (.int .i64) (.cons (.int .i64) (.cons (.int .i64) (.cons .bool .nil))))))))))), (.vals false (.cons (.tb (Sh.int .u8)) (.cons (.int .i64) (.cons (.int .i64) (.cons (.int .i64) (.cons (.tb (Sh.int .u8)) (.cons (.int .i64) (.cons (.int .i64) (.cons (.int .i64) (.cons .bool (.cons (.tb (Sh.int .u8)) (.cons (.int .i64) (.cons (.int .i64) (.cons (.int .i64) (.cons (.tb (Sh.int .u8)) (.cons (.int .i64) (.cons (.int .i64) (.cons (.int .i64) (.cons .bool .nil)))))))))))))))))))]⟩
def Q73_1 : Nat → Ps
  | 3 => ⟨[(0, .u), (2, .u), (3, (.slc 0 1)), (4, (.slk 3 2 9)), (6, .u), (7, .u), (8, .u), (9, .u), (10, .u), (11, .u), (12, .u), (13, .u), (14, .u), (15, .u), (16, .u), (17, .u), (18, .u), (19, .u), (20, .u), (21, .u), (22, .u), (23, .u), (24, .u), (25, .u), (26, .u), (27, .u), (28, .u), (29, .u), (30, .u), (31, .u), (32, .u), (45, (.tb (Sh.pr (Sh.int .u8) (Sh.pr Sh.bool (Sh.pr Sh.bool (Sh.pr (Sh.int .i64) (Sh.pr (Sh.int .i64) (Sh.pr (Sh.int .i64) (Sh.sl (Sh.int .u8)))))))))), (46, (.int .i64)), (47, (.int .i64)), (48, .u), (54, .u), (57, .u), (59, .u), (63, .u), (73, .u), (99, .u), (135, .u), (136, .u), (171, .u), (172, .u), (211, .u), (214, .u), (215, .u), (216, .u), (217, .u), (218, .u), (222, .u), (223, .u), (282, .u)], [(.vals false (.cons (.ptr 1 0) (.cons (.ptr 2 0) .nil))), (.vals false (h33 1 (.cons (.tb (Sh.int .u8)) (.cons (.int .i64) (.cons (.int .i64) (.cons (.int .i64) (.cons (.tb (Sh.int .u8)) (.cons (.int .i64) (.cons (.int .i64) (.cons (.int .i64) (.cons .bool .nil))))))))))), (.vals false (h33 2 (.cons (.tb (Sh.int .u8)) (.cons (.int .i64) (.cons (.int .i64) (.cons (.int .i64) (.cons (.tb (Sh.int .u8)) (.cons (.int .i64) (.cons (.int .i64) (.cons (.int .i64) (.cons .bool .nil))))))))))), (.vals false (.cons (.tb (Sh.int .u8)) (.cons (.int .i64) (.cons (.int .i64) (.cons (.int .i64) (.cons (.tb (Sh.int .u8)) (.cons (.int .i64) (.cons (.int .i64) (.cons (.int .i64) (.cons .bool (.cons (.tb (Sh.int .u8)) (.cons (.int .i64) (.cons (.int .i64) (.cons (.int .i64) (.cons (.tb (Sh.int .u8)) (.cons (.int .i64) (.cons (.int .i64) (.cons (.int .i64) (.cons .bool .nil)))))))))))))))))))]⟩
  | _ => noPs
def u73_1 (c84 : D84) (d86v2 : D86v2) (c93 : D93) (c108 : D108) (c23 : D23) (d88v2 : D88v2) (c94 : D94) (d87v1 : D87v1) (c95 : D95) (d92v1 : D92v1) (c112 : D112) (d97v0 : D97v0) (d92v2 : D92v2) (d86v1 : D86v1) (d88v1 : D88v1) (d87v2 : D87v2) (d92v3 : D92v3) (d97v1 : D97v1) (d92v0 : D92v0) (N n : Nat) (v : P73_1.T) (κ : (i : Nat) → (Q73_1 i).T → Option (Sh.bool).T) : Option (Sh.bool).T :=
  L73_1 c84 d86v2 c93 c108 c23 d88v2 c94 d87v1 c95 d92v1 c112 d97v0 d92v2 d86v1 d88v1 d87v2 d92v3 d97v1 d92v0 N (fun (y0 : Nat) (y1 : Nat) (y2 : List (Int × Bool × Bool × Int × Int × Int × (List Int))) (y3 : Int) (y4 : Int) (y5 : List Int) (y6 : Int) (y7 : Int) (y8 : Int) (y9 : List Int) (y10 : Int) (y11 : Int) (y12 : Int) (y13 : Bool) (y14 : List Int) (y15 : Int) (y16 : Int) (y17 : Int) (y18 : List Int) (y19 : Int) (y20 : Int) (y21 : Int) (y22 : Bool) (y23 : List Int) (y24 : Int) (y25 : Int) (y26 : Int) (y27 : List Int) (y28 : Int) (y29 : Int) (y30 : Int) (y31 : Bool) (y32 : List Int) (y33 : Int) (y34 : Int) (y35 : Int) (y36 : List Int) (y37 : Int) (y38 : Int) (y39 : Int) (y40 : Bool) => κ 3 (((), ((), ((y0, y1), ((), ((), ((), ((), ((), ((), ((), ((), ((), ((), ((), ((), ((), ((), ((), ((), ((), ((), ((), ((), ((), ((), ((), ((), ((), ((), ((), ((), (y2, (y3, (y4, ((), ((), ((), ((), ((), ((), ((), ((), ((), ((), ((), ((), ((), ((), ((), ((), ((), ((), ((), ((), ())))))))))))))))))))))))))))))))))))))))))))))))))))))), (((), ((), ())), ((u33 (y5, (y6, (y7, (y8, (y9, (y10, (y11, (y12, (y13, ())))))))))), ((u33 (y14, (y15, (y16, (y17, (y18, (y19, (y20, (y21, (y22, ())))))))))), ((y23, (y24, (y25, (y26, (y27, (y28, (y29, (y30, (y31, (y32, (y33, (y34, (y35, (y36, (y37, (y38, (y39, (y40, ())))))))))))))))))), ())))))) n v.1.2.2.1.1 v.1.2.2.1.2 v.1.2.2.2.2.2.2.2.2.2.2.2.2.2.2.2.2.2.2.2.2.2.2.2.2.2.2.2.2.2.2.2.1 v.1.2.2.2.2.2.2.2.2.2.2.2.2.2.2.2.2.2.2.2.2.2.2.2.2.2.2.2.2.2.2.2.2.1 v.1.2.2.2.2.2.2.2.2.2.2.2.2.2.2.2.2.2.2.2.2.2.2.2.2.2.2.2.2.2.2.2.2.2.1 v.1.2.2.2.2.2.2.2.2.2.2.2.2.2.2.2.2.2.2.2.2.2.2.2.2.2.2.2.2.2.2.2.2.2.2.2.2.2.2.2.2.2.2.2.2.2.2.2.1.1 v.1.2.2.2.2.2.2.2.2.2.2.2.2.2.2.2.2.2.2.2.2.2.2.2.2.2.2.2.2.2.2.2.2.2.2.2.2.2.2.2.2.2.2.2.2.2.2.2.1.2 v.1.2.2.2.2.2.2.2.2.2.2.2.2.2.2.2.2.2.2.2.2.2.2.2.2.2.2.2.2.2.2.2.2.2.2.2.2.2.2.2.2.2.2.2.2.2.2.2.2.1 v.1.2.2.2.2.2.2.2.2.2.2.2.2.2.2.2.2.2.2.2.2.2.2.2.2.2.2.2.2.2.2.2.2.2.2.2.2.2.2.2.2.2.2.2.2.2.2.2.2.2.1 v.2.2.1.2.2.2.2.2.2.2.2.2.2.2.2.2.2.2.2.2.2.2.2.2.2.2.2.2.2.2.2.2.2.2.2.2.1 v.2.2.1.2.2.2.2.2.2.2.2.2.2.2.2.2.2.2.2.2.2.2.2.2.2.2.2.2.2.2.2.2.2.2.2.2.2.1 v.2.2.1.2.2.2.2.2.2.2.2.2.2.2.2.2.2.2.2.2.2.2.2.2.2.2.2.2.2.2.2.2.2.2.2.2.2.2.1 v.2.2.1.2.2.2.2.2.2.2.2.2.2.2.2.2.2.2.2.2.2.2.2.2.2.2.2.2.2.2.2.2.2.2.2.2.2.2.2.1 v.2.2.1.2.2.2.2.2.2.2.2.2.2.2.2.2.2.2.2.2.2.2.2.2.2.2.2.2.2.2.2.2.2.2.2.2.2.2.2.2.1 v.2.2.1.2.2.2.2.2.2.2.2.2.2.2.2.2.2.2.2.2.2.2.2.2.2.2.2.2.2.2.2.2.2.2.2.2.2.2.2.2.2.1 v.2.2.1.2.2.2.2.2.2.2.2.2.2.2.2.2.2.2.2.2.2.2.2.2.2.2.2.2.2.2.2.2.2.2.2.2.2.2.2.2.2.2.1 v.2.2.1.2.2.2.2.2.2.2.2.2.2.2.2.2.2.2.2.2.2.2.2.2.2.2.2.2.2.2.2.2.2.2.2.2.2.2.2.2.2.2.2.1 v.2.2.1.2.2.2.2.2.2.2.2.2.2.2.2.2.2.2.2.2.2.2.2.2.2.2.2.2.2.2.2.2.2.2.2.2.2.2.2.2.2.2.2.2.1 v.2.2.2.1.2.2.2.2.2.2.2.2.2.2.2.2.2.2.2.2.2.2.2.2.2.2.2.2.2.2.2.2.2.2.2.2.2.1 v.2.2.2.1.2.2.2.2.2.2.2.2.2.2.2.2.2.2.2.2.2.2.2.2.2.2.2.2.2.2.2.2.2.2.2.2.2.2.1 v.2.2.2.1.2.2.2.2.2.2.2.2.2.2.2.2.2.2.2.2.2.2.2.2.2.2.2.2.2.2.2.2.2.2.2.2.2.2.2.1 v.2.2.2.1.2.2.2.2.2.2.2.2.2.2.2.2.2.2.2.2.2.2.2.2.2.2.2.2.2.2.2.2.2.2.2.2.2.2.2.2.1 v.2.2.2.1.2.2.2.2.2.2.2.2.2.2.2.2.2.2.2.2.2.2.2.2.2.2.2.2.2.2.2.2.2.2.2.2.2.2.2.2.2.1 v.2.2.2.1.2.2.2.2.2.2.2.2.2.2.2.2.2.2.2.2.2.2.2.2.2.2.2.2.2.2.2.2.2.2.2.2.2.2.2.2.2.2.1 v.2.2.2.1.2.2.2.2.2.2.2.2.2.2.2.2.2.2.2.2.2.2.2.2.2.2.2.2.2.2.2.2.2.2.2.2.2.2.2.2.2.2.2.1 v.2.2.2.1.2.2.2.2.2.2.2.2.2.2.2.2.2.2.2.2.2.2.2.2.2.2.2.2.2.2.2.2.2.2.2.2.2.2.2.2.2.2.2.2.1 v.2.2.2.1.2.2.2.2.2.2.2.2.2.2.2.2.2.2.2.2.2.2.2.2.2.2.2.2.2.2.2.2.2.2.2.2.2.2.2.2.2.2.2.2.2.1 v.2.2.2.2.1.1 v.2.2.2.2.1.2.1 v.2.2.2.2.1.2.2.1 v.2.2.2.2.1.2.2.2.1 v.2.2.2.2.1.2.2.2.2.1 v.2.2.2.2.1.2.2.2.2.2.1 v.2.2.2.2.1.2.2.2.2.2.2.1 v.2.2.2.2.1.2.2.2.2.2.2.2.1 v.2.2.2.2.1.2.2.2.2.2.2.2.2.1 v.2.2.2.2.1.2.2.2.2.2.2.2.2.2.1 v.2.2.2.2.1.2.2.2.2.2.2.2.2.2.2.1 v.2.2.2.2.1.2.2.2.2.2.2.2.2.2.2.2.1 v.2.2.2.2.1.2.2.2.2.2.2.2.2.2.2.2.2.1 v.2.2.2.2.1.2.2.2.2.2.2.2.2.2.2.2.2.2.1 v.2.2.2.2.1.2.2.2.2.2.2.2.2.2.2.2.2.2.2.1 v.2.2.2.2.1.2.2.2.2.2.2.2.2.2.2.2.2.2.2.2.1 v.2.2.2.2.1.2.2.2.2.2.2.2.2.2.2.2.2.2.2.2.2.1 v.2.2.2.2.1.2.2.2.2.2.2.2.2.2.2.2.2.2.2.2.2.2.1
def W73_1 (c84 : D84) (d86v2 : D86v2) (c93 : D93) (c108 : D108) (c23 : D23) (d88v2 : D88v2) (c94 : D94) (d87v1 : D87v1) (c95 : D95) (d92v1 : D92v1) (c112 : D112) (d97v0 : D97v0) (d92v2 : D92v2) (d86v1 : D86v1) (d88v1 : D88v1) (d87v2 : D87v2) (d92v3 : D92v3) (d97v1 : D97v1) (d92v0 : D92v0) (N : Nat) : LoopF (Sh.bool).T := fun no =>
  match no with
  | 2 => unr (T73 c84 d86v2 c93 c108 c23 d88v2 c94 d87v1 c95 d92v1 c112 d97v0 d92v2 d86v1 d88v1 d87v2 d92v3 d97v1 d92v0) (addI (T73 c84 d86v2 c93 c108 c23 d88v2 c94 d87v1 c95 d92v1 c112 d97v0 d92v2 d86v1 d88v1 d87v2 d92v3 d97v1 d92v0) (modeOf FT) fuelC 98 k98 (addI (T73 c84 d86v2 c93 c108 c23 d88v2 c94 d87v1 c95 d92v1 c112 d97v0 d92v2 d86v1 d88v1 d87v2 d92v3 d97v1 d92v0) (modeOf FT) fuelC 96 k96 (addI (T73 c84 d86v2 c93 c108 c23 d88v2 c94 d87v1 c95 d92v1 c112 d97v0 d92v2 d86v1 d88v1 d87v2 d92v3 d97v1 d92v0) (modeOf FT) fuelC 91 k91 (addI (T73 c84 d86v2 c93 c108 c23 d88v2 c94 d87v1 c95 d92v1 c112 d97v0 d92v2 d86v1 d88v1 d87v2 d92v3 d97v1 d92v0) (modeOf FT) fuelC 90 k90 (addI (T73 c84 d86v2 c93 c108 c23 d88v2 c94 d87v1 c95 d92v1 c112 d97v0 d92v2 d86v1 d88v1 d87v2 d92v3 d97v1 d92v0) (modeOf FT) fuelC 89 k89 (addI (T73 c84 d86v2 c93 c108 c23 d88v2 c94 d87v1 c95 d92v1 c112 d97v0 d92v2 d86v1 d88v1 d87v2 d92v3 d97v1 d92v0) (modeOf FT) fuelC 106 k106 (addI (T73 c84 d86v2 c93 c108 c23 d88v2 c94 d87v1 c95 d92v1 c112 d97v0 d92v2 d86v1 d88v1 d87v2 d92v3 d97v1 d92v0) (modeOf FT) fuelC 111 k111 (addI (T73 c84 d86v2 c93 c108 c23 d88v2 c94 d87v1 c95 d92v1 c112 d97v0 d92v2 d86v1 d88v1 d87v2 d92v3 d97v1 d92v0) (modeOf FT) fuelC 110 k110 (addI (T73 c84 d86v2 c93 c108 c23 d88v2 c94 d87v1 c95 d92v1 c112 d97v0 d92v2 d86v1 d88v1 d87v2 d92v3 d97v1 d92v0) (modeOf FT) fuelC 85 k85 (rawOf (RW73 c84 d86v2 c93 c108 c23 d88v2 c94 d87v1 c95 d92v1 c112 d97v0 d92v2 d86v1 d88v1 d87v2 d92v3 d97v1 d92v0))))))))))) (W73_2 c84 d86v2 c93 c108 c23 d88v2 c94 d87v1 c95 d92v1 c112 d97v0 d92v2 d86v1 d88v1 d87v2 d92v3 d97v1 d92v0 N) (retc k73.res Sh.bool) (modeOf FT) 0 fuelC H73_2 (bodyOf (loopN k73 2)) 70
  | _ => fun _ _ => none
theorem b73_1 (c84 : D84) (d86v2 : D86v2) (c93 : D93) (c108 : D108) (c23 : D23) (d88v2 : D88v2) (c94 : D94) (d87v1 : D87v1) (c95 : D95) (d92v1 : D92v1) (c112 : D112) (d97v0 : D97v0) (d92v2 : D92v2) (d86v1 : D86v1) (d88v1 : D88v1) (d87v2 : D87v2) (d92v3 : D92v3) (d97v1 : D97v1) (d92v0 : D92v0) (N n : Nat) (v : P73_1.T) (κ : (i : Nat) → (Q73_1 i).T → Option (Sh.bool).T) :
    evc (T73 c84 d86v2 c93 c108 c23 d88v2 c94 d87v1 c95 d92v1 c112 d97v0 d92v2 d86v1 d88v1 d87v2 d92v3 d97v1 d92v0) (addI (T73 c84 d86v2 c93 c108 c23 d88v2 c94 d87v1 c95 d92v1 c112 d97v0 d92v2 d86v1 d88v1 d87v2 d92v3 d97v1 d92v0) (modeOf FT) fuelC 98 k98 (addI (T73 c84 d86v2 c93 c108 c23 d88v2 c94 d87v1 c95 d92v1 c112 d97v0 d92v2 d86v1 d88v1 d87v2 d92v3 d97v1 d92v0) (modeOf FT) fuelC 96 k96 (addI (T73 c84 d86v2 c93 c108 c23 d88v2 c94 d87v1 c95 d92v1 c112 d97v0 d92v2 d86v1 d88v1 d87v2 d92v3 d97v1 d92v0) (modeOf FT) fuelC 91 k91 (addI (T73 c84 d86v2 c93 c108 c23 d88v2 c94 d87v1 c95 d92v1 c112 d97v0 d92v2 d86v1 d88v1 d87v2 d92v3 d97v1 d92v0) (modeOf FT) fuelC 90 k90 (addI (T73 c84 d86v2 c93 c108 c23 d88v2 c94 d87v1 c95 d92v1 c112 d97v0 d92v2 d86v1 d88v1 d87v2 d92v3 d97v1 d92v0) (modeOf FT) fuelC 89 k89 (addI (T73 c84 d86v2 c93 c108 c23 d88v2 c94 d87v1 c95 d92v1 c112 d97v0 d92v2 d86v1 d88v1 d87v2 d92v3 d97v1 d92v0) (modeOf FT) fuelC 106 k106 (addI (T73 c84 d86v2 c93 c108 c23 d88v2 c94 d87v1 c95 d92v1 c112 d97v0 d92v2 d86v1 d88v1 d87v2 d92v3 d97v1 d92v0) (modeOf FT) fuelC 111 k111 (addI (T73 c84 d86v2 c93 c108 c23 d88v2 c94 d87v1 c95 d92v1 c112 d97v0 d92v2 d86v1 d88v1 d87v2 d92v3 d97v1 d92v0) (modeOf FT) fuelC 110 k110 (addI (T73 c84 d86v2 c93 c108 c23 d88v2 c94 d87v1 c95 d92v1 c112 d97v0 d92v2 d86v1 d88v1 d87v2 d92v3 d97v1 d92v0) (modeOf FT) fuelC 85 k85 (rawOf (RW73 c84 d86v2 c93 c108 c23 d88v2 c94 d87v1 c95 d92v1 c112 d97v0 d92v2 d86v1 d88v1 d87v2 d92v3 d97v1 d92v0))))))))))) (W73_1 c84 d86v2 c93 c108 c23 d88v2 c94 d87v1 c95 d92v1 c112 d97v0 d92v2 d86v1 d88v1 d87v2 d92v3 d97v1 d92v0 N) (retc k73.res Sh.bool) (modeOf FT) 0 fuelC (bodyOf (loopN k73 1)) (P73_1.st v) (roundK 0 H73_1 P73_1 Q73_1 (u73_1 c84 d86v2 c93 c108 c23 d88v2 c94 d87v1 c95 d92v1 c112 d97v0 d92v2 d86v1 d88v1 d87v2 d92v3 d97v1 d92v0 N n) κ) = u73_1 c84 d86v2 c93 c108 c23 d88v2 c94 d87v1 c95 d92v1 c112 d97v0 d92v2 d86v1 d88v1 d87v2 d92v3 d97v1 d92v0 N (n + 1) v κ := by kernel_rfl
theorem o73_1 (c84 : D84) (d86v2 : D86v2) (c93 : D93) (c108 : D108) (c23 : D23) (d88v2 : D88v2) (c94 : D94) (d87v1 : D87v1) (c95 : D95) (d92v1 : D92v1) (c112 : D112) (d97v0 : D97v0) (d92v2 : D92v2) (d86v1 : D86v1) (d88v1 : D88v1) (d87v2 : D87v2) (d92v3 : D92v3) (d97v1 : D97v1) (d92v0 : D92v0) (hT : TabOK FT XT (T73 c84 d86v2 c93 c108 c23 d88v2 c94 d87v1 c95 d92v1 c112 d97v0 d92v2 d86v1 d88v1 d87v2 d92v3 d97v1 d92v0)) (hO : RawOK FT XT (addI (T73 c84 d86v2 c93 c108 c23 d88v2 c94 d87v1 c95 d92v1 c112 d97v0 d92v2 d86v1 d88v1 d87v2 d92v3 d97v1 d92v0) (modeOf FT) fuelC 98 k98 (addI (T73 c84 d86v2 c93 c108 c23 d88v2 c94 d87v1 c95 d92v1 c112 d97v0 d92v2 d86v1 d88v1 d87v2 d92v3 d97v1 d92v0) (modeOf FT) fuelC 96 k96 (addI (T73 c84 d86v2 c93 c108 c23 d88v2 c94 d87v1 c95 d92v1 c112 d97v0 d92v2 d86v1 d88v1 d87v2 d92v3 d97v1 d92v0) (modeOf FT) fuelC 91 k91 (addI (T73 c84 d86v2 c93 c108 c23 d88v2 c94 d87v1 c95 d92v1 c112 d97v0 d92v2 d86v1 d88v1 d87v2 d92v3 d97v1 d92v0) (modeOf FT) fuelC 90 k90 (addI (T73 c84 d86v2 c93 c108 c23 d88v2 c94 d87v1 c95 d92v1 c112 d97v0 d92v2 d86v1 d88v1 d87v2 d92v3 d97v1 d92v0) (modeOf FT) fuelC 89 k89 (addI (T73 c84 d86v2 c93 c108 c23 d88v2 c94 d87v1 c95 d92v1 c112 d97v0 d92v2 d86v1 d88v1 d87v2 d92v3 d97v1 d92v0) (modeOf FT) fuelC 106 k106 (addI (T73 c84 d86v2 c93 c108 c23 d88v2 c94 d87v1 c95 d92v1 c112 d97v0 d92v2 d86v1 d88v1 d87v2 d92v3 d97v1 d92v0) (modeOf FT) fuelC 111 k111 (addI (T73 c84 d86v2 c93 c108 c23 d88v2 c94 d87v1 c95 d92v1 c112 d97v0 d92v2 d86v1 d88v1 d87v2 d92v3 d97v1 d92v0) (modeOf FT) fuelC 110 k110 (addI (T73 c84 d86v2 c93 c108 c23 d88v2 c94 d87v1 c95 d92v1 c112 d97v0 d92v2 d86v1 d88v1 d87v2 d92v3 d97v1 d92v0) (modeOf FT) fuelC 85 k85 (rawOf (α := (Sh.bool).T) (RW73 c84 d86v2 c93 c108 c23 d88v2 c94 d87v1 c95 d92v1 c112 d97v0 d92v2 d86v1 d88v1 d87v2 d92v3 d97v1 d92v0)))))))))))) (N : Nat) {s : St} {κ : Ex → St → Option (Sh.bool).T} {a : (Sh.bool).T} (h : lpOf 0 H73_1 P73_1 Q73_1 (u73_1 c84 d86v2 c93 c108 c23 d88v2 c94 d87v1 c95 d92v1 c112 d97v0 d92v2 d86v1 d88v1 d87v2 d92v3 d97v1 d92v0 N N) s κ = some a) : Out FT XT 0 (retc k73.res Sh.bool) (loopN k73 1) s κ a := by
  rw [l73_1]
  exact loop_out (LP := W73_1 c84 d86v2 c93 c108 c23 d88v2 c94 d87v1 c95 d92v1 c112 d97v0 d92v2 d86v1 d88v1 d87v2 d92v3 d97v1 d92v0 N) (fu := fuelC) hT hO (fun _ _ => rfl) (b73_1 c84 d86v2 c93 c108 c23 d88v2 c94 d87v1 c95 d92v1 c112 d97v0 d92v2 d86v1 d88v1 d87v2 d92v3 d97v1 d92v0 N) (loopOK_cons l73_2 (fun s κ a h => o73_2 c84 d86v2 c93 c108 c23 d88v2 c94 d87v1 c95 d92v1 c112 d97v0 d92v2 d86v1 d88v1 d87v2 d92v3 d97v1 d92v0 hT hO N h) loopOK_nil) N h
def H73_0 : Trim := ⟨0, [(4, (Sh.st (Sh.pr (Sh.sl (Sh.int .u8)) (Sh.pr (Sh.int .i64) (Sh.pr (Sh.int .i64) (Sh.pr (Sh.int .i64) (Sh.pr (Sh.sl (Sh.int .u8)) (Sh.pr (Sh.int .i64) (Sh.pr (Sh.int .i64) (Sh.pr (Sh.int .i64) Sh.bool))))))))))], false, [3, 4, 45, 46, 47], [(4, (.imm []), 9)]⟩
theorem l73_0 : loopN k73 0 = .loop H73_0 (bodyOf (loopN k73 0)) := by kernel_rfl
def P73_0 : Ps := ⟨[(0, .u), (2, .u), (3, (.slc 0 1)), (4, (.slk 3 2 9)), (6, .u), (7, .u), (8, .u), (9, .u), (10, .u), (11, .u), (12, .u), (13, .u), (14, .u), (15, .u), (16, .u), (17, .u), (18, .u), (19, .u), (20, .u), (21, .u), (22, .u), (23, .u), (24, .u), (25, .u), (26, .u), (27, .u), (28, .u), (29, .u), (30, .u), (31, .u), (32, .u), (45, (.tb (Sh.pr (Sh.int .u8) (Sh.pr Sh.bool (Sh.pr Sh.bool (Sh.pr (Sh.int .i64) (Sh.pr (Sh.int .i64) (Sh.pr (Sh.int .i64) (Sh.sl (Sh.int .u8)))))))))), (46, (.int .i64)), (47, (.int .i64)), (48, .u), (54, .u), (57, .u), (59, .u), (63, .u), (73, .u), (99, .u), (135, .u), (136, .u), (171, .u), (172, .u), (211, .u), (214, .u), (215, .u), (216, .u), (217, .u), (218, .u), (222, .u), (223, .u), (282, .u)], [(.vals false (.cons (.ptr 1 0) (.cons (.ptr 2 0) .nil))), (.vals false (h33 1 (.cons (.tb (Sh.int .u8)) (.cons (.int .i64) (.cons (.int .i64) (.cons (.int .i64) (.cons (.tb (Sh.int .u8)) (.cons (.int .i64) (.cons (.int .i64) (.cons (.int .i64) (.cons .bool .nil))))))))))), (.vals false (h33 2 (.cons (.tb (Sh.int .u8)) (.cons (.int .i64) (.cons (.int .i64) (.cons (.int .i64) (.cons (.tb (Sh.int .u8)) (.cons (.int .i64) (.cons (.int .i64) (.cons (.int .i64) (.cons .bool .nil))))))))))), (.vals false (.cons (.tb (Sh.int .u8)) (.cons (.int .i64) (.cons (.int .i64) (.cons (.int .i64) (.cons (.tb (Sh.int .u8)) (.cons (.int .i64) (.cons (.int .i64) (.cons (.int .i64) (.cons .bool (.cons (.tb (Sh.int .u8)) (.cons (.int .i64) (.cons (.int .i64) (.cons (.int .i64) (.cons (.tb (Sh.int .u8)) (.cons (.int .i64) (.cons (.int .i64) (.cons (.int .i64) (.cons .bool .nil)))))))))))))))))))]⟩
def Q73_0 : Nat → Ps
  | 0 => ⟨[(0, .u), (2, .u), (3, .u), (4, .u), (6, .u), (7, .u), (8, .u), (9, .u), (10, .u), (11, .u), (12, .u), (13, .u), (14, .u), (15, .u), (16, .u), (17, .u), (18, .u), (19, .u), (20, .u), (21, .u), (22, .u), (23, .u), (24, .u), (25, .u), (26, .u), (27, .u), (28, .u), (29, .u), (30, .u), (31, .u), (32, .u), (45, .u), (46, .u), (47, .u), (48, .u), (54, .u), (57, .u), (59, .u), (63, .u), (73, .u), (99, .u), (135, .u), (136, .u), (171, .u), (172, .u), (211, .u), (214, .u), (215, .u), (216, .u), (217, .u), (218, .u), (222, .u), (223, .u), (282, .u)], []⟩
  | _ => noPs
def u73_0 (c84 : D84) (d86v2 : D86v2) (c93 : D93) (c108 : D108) (c23 : D23) (d88v2 : D88v2) (c94 : D94) (d87v1 : D87v1) (c95 : D95) (d92v1 : D92v1) (c112 : D112) (d97v0 : D97v0) (d92v2 : D92v2) (d86v1 : D86v1) (d88v1 : D88v1) (d87v2 : D87v2) (d92v3 : D92v3) (d97v1 : D97v1) (d92v0 : D92v0) (N n : Nat) (v : P73_0.T) (κ : (i : Nat) → (Q73_0 i).T → Option (Sh.bool).T) : Option (Sh.bool).T :=
  L73_0 c84 d86v2 c93 c108 c23 d88v2 c94 d87v1 c95 d92v1 c112 d97v0 d92v2 d86v1 d88v1 d87v2 d92v3 d97v1 d92v0 N (κ 0 ((u33 ((), ((), ((), ((), ((), ((), ((), ((), ((), ((), ((), ((), ((), ((), ((), ((), ((), ((), ((), ((), ((), ())))))))))))))))))))))), ())) n v.1.2.2.1.1 v.1.2.2.1.2 v.1.2.2.2.2.2.2.2.2.2.2.2.2.2.2.2.2.2.2.2.2.2.2.2.2.2.2.2.2.2.2.2.1 v.1.2.2.2.2.2.2.2.2.2.2.2.2.2.2.2.2.2.2.2.2.2.2.2.2.2.2.2.2.2.2.2.2.1 v.1.2.2.2.2.2.2.2.2.2.2.2.2.2.2.2.2.2.2.2.2.2.2.2.2.2.2.2.2.2.2.2.2.2.1 v.2.2.1.2.2.2.2.2.2.2.2.2.2.2.2.2.2.2.2.2.2.2.2.2.2.2.2.2.2.2.2.2.2.2.2.2.1 v.2.2.1.2.2.2.2.2.2.2.2.2.2.2.2.2.2.2.2.2.2.2.2.2.2.2.2.2.2.2.2.2.2.2.2.2.2.1 v.2.2.1.2.2.2.2.2.2.2.2.2.2.2.2.2.2.2.2.2.2.2.2.2.2.2.2.2.2.2.2.2.2.2.2.2.2.2.1 v.2.2.1.2.2.2.2.2.2.2.2.2.2.2.2.2.2.2.2.2.2.2.2.2.2.2.2.2.2.2.2.2.2.2.2.2.2.2.2.1 v.2.2.1.2.2.2.2.2.2.2.2.2.2.2.2.2.2.2.2.2.2.2.2.2.2.2.2.2.2.2.2.2.2.2.2.2.2.2.2.2.1 v.2.2.1.2.2.2.2.2.2.2.2.2.2.2.2.2.2.2.2.2.2.2.2.2.2.2.2.2.2.2.2.2.2.2.2.2.2.2.2.2.2.1 v.2.2.1.2.2.2.2.2.2.2.2.2.2.2.2.2.2.2.2.2.2.2.2.2.2.2.2.2.2.2.2.2.2.2.2.2.2.2.2.2.2.2.1 v.2.2.1.2.2.2.2.2.2.2.2.2.2.2.2.2.2.2.2.2.2.2.2.2.2.2.2.2.2.2.2.2.2.2.2.2.2.2.2.2.2.2.2.1 v.2.2.1.2.2.2.2.2.2.2.2.2.2.2.2.2.2.2.2.2.2.2.2.2.2.2.2.2.2.2.2.2.2.2.2.2.2.2.2.2.2.2.2.2.1 v.2.2.2.1.2.2.2.2.2.2.2.2.2.2.2.2.2.2.2.2.2.2.2.2.2.2.2.2.2.2.2.2.2.2.2.2.2.1 v.2.2.2.1.2.2.2.2.2.2.2.2.2.2.2.2.2.2.2.2.2.2.2.2.2.2.2.2.2.2.2.2.2.2.2.2.2.2.1 v.2.2.2.1.2.2.2.2.2.2.2.2.2.2.2.2.2.2.2.2.2.2.2.2.2.2.2.2.2.2.2.2.2.2.2.2.2.2.2.1 v.2.2.2.1.2.2.2.2.2.2.2.2.2.2.2.2.2.2.2.2.2.2.2.2.2.2.2.2.2.2.2.2.2.2.2.2.2.2.2.2.1 v.2.2.2.1.2.2.2.2.2.2.2.2.2.2.2.2.2.2.2.2.2.2.2.2.2.2.2.2.2.2.2.2.2.2.2.2.2.2.2.2.2.1 v.2.2.2.1.2.2.2.2.2.2.2.2.2.2.2.2.2.2.2.2.2.2.2.2.2.2.2.2.2.2.2.2.2.2.2.2.2.2.2.2.2.2.1 v.2.2.2.1.2.2.2.2.2.2.2.2.2.2.2.2.2.2.2.2.2.2.2.2.2.2.2.2.2.2.2.2.2.2.2.2.2.2.2.2.2.2.2.1 v.2.2.2.1.2.2.2.2.2.2.2.2.2.2.2.2.2.2.2.2.2.2.2.2.2.2.2.2.2.2.2.2.2.2.2.2.2.2.2.2.2.2.2.2.1 v.2.2.2.1.2.2.2.2.2.2.2.2.2.2.2.2.2.2.2.2.2.2.2.2.2.2.2.2.2.2.2.2.2.2.2.2.2.2.2.2.2.2.2.2.2.1 v.2.2.2.2.1.1 v.2.2.2.2.1.2.1 v.2.2.2.2.1.2.2.1 v.2.2.2.2.1.2.2.2.1 v.2.2.2.2.1.2.2.2.2.1 v.2.2.2.2.1.2.2.2.2.2.1 v.2.2.2.2.1.2.2.2.2.2.2.1 v.2.2.2.2.1.2.2.2.2.2.2.2.1 v.2.2.2.2.1.2.2.2.2.2.2.2.2.1 v.2.2.2.2.1.2.2.2.2.2.2.2.2.2.1 v.2.2.2.2.1.2.2.2.2.2.2.2.2.2.2.1 v.2.2.2.2.1.2.2.2.2.2.2.2.2.2.2.2.1 v.2.2.2.2.1.2.2.2.2.2.2.2.2.2.2.2.2.1 v.2.2.2.2.1.2.2.2.2.2.2.2.2.2.2.2.2.2.1 v.2.2.2.2.1.2.2.2.2.2.2.2.2.2.2.2.2.2.2.1 v.2.2.2.2.1.2.2.2.2.2.2.2.2.2.2.2.2.2.2.2.1 v.2.2.2.2.1.2.2.2.2.2.2.2.2.2.2.2.2.2.2.2.2.1 v.2.2.2.2.1.2.2.2.2.2.2.2.2.2.2.2.2.2.2.2.2.2.1
def W73_0 (c84 : D84) (d86v2 : D86v2) (c93 : D93) (c108 : D108) (c23 : D23) (d88v2 : D88v2) (c94 : D94) (d87v1 : D87v1) (c95 : D95) (d92v1 : D92v1) (c112 : D112) (d97v0 : D97v0) (d92v2 : D92v2) (d86v1 : D86v1) (d88v1 : D88v1) (d87v2 : D87v2) (d92v3 : D92v3) (d97v1 : D97v1) (d92v0 : D92v0) (N : Nat) : LoopF (Sh.bool).T := fun no =>
  match no with
  | 1 => lpOf 0 H73_1 P73_1 Q73_1 (u73_1 c84 d86v2 c93 c108 c23 d88v2 c94 d87v1 c95 d92v1 c112 d97v0 d92v2 d86v1 d88v1 d87v2 d92v3 d97v1 d92v0 N N)
  | _ => fun _ _ => none
theorem b73_0 (c84 : D84) (d86v2 : D86v2) (c93 : D93) (c108 : D108) (c23 : D23) (d88v2 : D88v2) (c94 : D94) (d87v1 : D87v1) (c95 : D95) (d92v1 : D92v1) (c112 : D112) (d97v0 : D97v0) (d92v2 : D92v2) (d86v1 : D86v1) (d88v1 : D88v1) (d87v2 : D87v2) (d92v3 : D92v3) (d97v1 : D97v1) (d92v0 : D92v0) (N n : Nat) (v : P73_0.T) (κ : (i : Nat) → (Q73_0 i).T → Option (Sh.bool).T) :
    evc (T73 c84 d86v2 c93 c108 c23 d88v2 c94 d87v1 c95 d92v1 c112 d97v0 d92v2 d86v1 d88v1 d87v2 d92v3 d97v1 d92v0) (addI (T73 c84 d86v2 c93 c108 c23 d88v2 c94 d87v1 c95 d92v1 c112 d97v0 d92v2 d86v1 d88v1 d87v2 d92v3 d97v1 d92v0) (modeOf FT) fuelC 98 k98 (addI (T73 c84 d86v2 c93 c108 c23 d88v2 c94 d87v1 c95 d92v1 c112 d97v0 d92v2 d86v1 d88v1 d87v2 d92v3 d97v1 d92v0) (modeOf FT) fuelC 96 k96 (addI (T73 c84 d86v2 c93 c108 c23 d88v2 c94 d87v1 c95 d92v1 c112 d97v0 d92v2 d86v1 d88v1 d87v2 d92v3 d97v1 d92v0) (modeOf FT) fuelC 91 k91 (addI (T73 c84 d86v2 c93 c108 c23 d88v2 c94 d87v1 c95 d92v1 c112 d97v0 d92v2 d86v1 d88v1 d87v2 d92v3 d97v1 d92v0) (modeOf FT) fuelC 90 k90 (addI (T73 c84 d86v2 c93 c108 c23 d88v2 c94 d87v1 c95 d92v1 c112 d97v0 d92v2 d86v1 d88v1 d87v2 d92v3 d97v1 d92v0) (modeOf FT) fuelC 89 k89 (addI (T73 c84 d86v2 c93 c108 c23 d88v2 c94 d87v1 c95 d92v1 c112 d97v0 d92v2 d86v1 d88v1 d87v2 d92v3 d97v1 d92v0) (modeOf FT) fuelC 106 k106 (addI (T73 c84 d86v2 c93 c108 c23 d88v2 c94 d87v1 c95 d92v1 c112 d97v0 d92v2 d86v1 d88v1 d87v2 d92v3 d97v1 d92v0) (modeOf FT) fuelC 111 k111 (addI (T73 c84 d86v2 c93 c108 c23 d88v2 c94 d87v1 c95 d92v1 c112 d97v0 d92v2 d86v1 d88v1 d87v2 d92v3 d97v1 d92v0) (modeOf FT) fuelC 110 k110 (addI (T73 c84 d86v2 c93 c108 c23 d88v2 c94 d87v1 c95 d92v1 c112 d97v0 d92v2 d86v1 d88v1 d87v2 d92v3 d97v1 d92v0) (modeOf FT) fuelC 85 k85 (rawOf (RW73 c84 d86v2 c93 c108 c23 d88v2 c94 d87v1 c95 d92v1 c112 d97v0 d92v2 d86v1 d88v1 d87v2 d92v3 d97v1 d92v0))))))))))) (W73_0 c84 d86v2 c93 c108 c23 d88v2 c94 d87v1 c95 d92v1 c112 d97v0 d92v2 d86v1 d88v1 d87v2 d92v3 d97v1 d92v0 N) (retc k73.res Sh.bool) (modeOf FT) 0 fuelC (bodyOf (loopN k73 0)) (P73_0.st v) (roundK 0 H73_0 P73_0 Q73_0 (u73_0 c84 d86v2 c93 c108 c23 d88v2 c94 d87v1 c95 d92v1 c112 d97v0 d92v2 d86v1 d88v1 d87v2 d92v3 d97v1 d92v0 N n) κ) = u73_0 c84 d86v2 c93 c108 c23 d88v2 c94 d87v1 c95 d92v1 c112 d97v0 d92v2 d86v1 d88v1 d87v2 d92v3 d97v1 d92v0 N (n + 1) v κ := by kernel_rfl
theorem o73_0 (c84 : D84) (d86v2 : D86v2) (c93 : D93) (c108 : D108) (c23 : D23) (d88v2 : D88v2) (c94 : D94) (d87v1 : D87v1) (c95 : D95) (d92v1 : D92v1) (c112 : D112) (d97v0 : D97v0) (d92v2 : D92v2) (d86v1 : D86v1) (d88v1 : D88v1) (d87v2 : D87v2) (d92v3 : D92v3) (d97v1 : D97v1) (d92v0 : D92v0) (hT : TabOK FT XT (T73 c84 d86v2 c93 c108 c23 d88v2 c94 d87v1 c95 d92v1 c112 d97v0 d92v2 d86v1 d88v1 d87v2 d92v3 d97v1 d92v0)) (hO : RawOK FT XT (addI (T73 c84 d86v2 c93 c108 c23 d88v2 c94 d87v1 c95 d92v1 c112 d97v0 d92v2 d86v1 d88v1 d87v2 d92v3 d97v1 d92v0) (modeOf FT) fuelC 98 k98 (addI (T73 c84 d86v2 c93 c108 c23 d88v2 c94 d87v1 c95 d92v1 c112 d97v0 d92v2 d86v1 d88v1 d87v2 d92v3 d97v1 d92v0) (modeOf FT) fuelC 96 k96 (addI (T73 c84 d86v2 c93 c108 c23 d88v2 c94 d87v1 c95 d92v1 c112 d97v0 d92v2 d86v1 d88v1 d87v2 d92v3 d97v1 d92v0) (modeOf FT) fuelC 91 k91 (addI (T73 c84 d86v2 c93 c108 c23 d88v2 c94 d87v1 c95 d92v1 c112 d97v0 d92v2 d86v1 d88v1 d87v2 d92v3 d97v1 d92v0) (modeOf FT) fuelC 90 k90 (addI (T73 c84 d86v2 c93 c108 c23 d88v2 c94 d87v1 c95 d92v1 c112 d97v0 d92v2 d86v1 d88v1 d87v2 d92v3 d97v1 d92v0) (modeOf FT) fuelC 89 k89 (addI (T73 c84 d86v2 c93 c108 c23 d88v2 c94 d87v1 c95 d92v1 c112 d97v0 d92v2 d86v1 d88v1 d87v2 d92v3 d97v1 d92v0) (modeOf FT) fuelC 106 k106 (addI (T73 c84 d86v2 c93 c108 c23 d88v2 c94 d87v1 c95 d92v1 c112 d97v0 d92v2 d86v1 d88v1 d87v2 d92v3 d97v1 d92v0) (modeOf FT) fuelC 111 k111 (addI (T73 c84 d86v2 c93 c108 c23 d88v2 c94 d87v1 c95 d92v1 c112 d97v0 d92v2 d86v1 d88v1 d87v2 d92v3 d97v1 d92v0) (modeOf FT) fuelC 110 k110 (addI (T73 c84 d86v2 c93 c108 c23 d88v2 c94 d87v1 c95 d92v1 c112 d97v0 d92v2 d86v1 d88v1 d87v2 d92v3 d97v1 d92v0) (modeOf FT) fuelC 85 k85 (rawOf (α := (Sh.bool).T) (RW73 c84 d86v2 c93 c108 c23 d88v2 c94 d87v1 c95 d92v1 c112 d97v0 d92v2 d86v1 d88v1 d87v2 d92v3 d97v1 d92v0)))))))))))) (N : Nat) {s : St} {κ : Ex → St → Option (Sh.bool).T} {a : (Sh.bool).T} (h : lpOf 0 H73_0 P73_0 Q73_0 (u73_0 c84 d86v2 c93 c108 c23 d88v2 c94 d87v1 c95 d92v1 c112 d97v0 d92v2 d86v1 d88v1 d87v2 d92v3 d97v1 d92v0 N N) s κ = some a) : Out FT XT 0 (retc k73.res Sh.bool) (loopN k73 0) s κ a := by
  rw [l73_0]
  exact loop_out (LP := W73_0 c84 d86v2 c93 c108 c23 d88v2 c94 d87v1 c95 d92v1 c112 d97v0 d92v2 d86v1 d88v1 d87v2 d92v3 d97v1 d92v0 N) (fu := fuelC) hT hO (fun _ _ => rfl) (b73_0 c84 d86v2 c93 c108 c23 d88v2 c94 d87v1 c95 d92v1 c112 d97v0 d92v2 d86v1 d88v1 d87v2 d92v3 d97v1 d92v0 N) (loopOK_cons l73_1 (fun s κ a h => o73_1 c84 d86v2 c93 c108 c23 d88v2 c94 d87v1 c95 d92v1 c112 d97v0 d92v2 d86v1 d88v1 d87v2 d92v3 d97v1 d92v0 hT hO N h) loopOK_nil) N h
def W73 (c84 : D84) (d86v2 : D86v2) (c93 : D93) (c108 : D108) (c23 : D23) (d88v2 : D88v2) (c94 : D94) (d87v1 : D87v1) (c95 : D95) (d92v1 : D92v1) (c112 : D112) (d97v0 : D97v0) (d92v2 : D92v2) (d86v1 : D86v1) (d88v1 : D88v1) (d87v2 : D87v2) (d92v3 : D92v3) (d97v1 : D97v1) (d92v0 : D92v0) (N : Nat) : LoopF (Sh.bool).T := fun no =>
  match no with
  | 0 => lpOf 0 H73_0 P73_0 Q73_0 (u73_0 c84 d86v2 c93 c108 c23 d88v2 c94 d87v1 c95 d92v1 c112 d97v0 d92v2 d86v1 d88v1 d87v2 d92v3 d97v1 d92v0 N N)
  | _ => fun _ _ => none
theorem e73 (c84 : D84) (d86v2 : D86v2) (c93 : D93) (c108 : D108) (c23 : D23) (d88v2 : D88v2) (c94 : D94) (d87v1 : D87v1) (c95 : D95) (d92v1 : D92v1) (c112 : D112) (d97v0 : D97v0) (d92v2 : D92v2) (d86v1 : D86v1) (d88v1 : D88v1) (d87v2 : D87v2) (d92v3 : D92v3) (d97v1 : D97v1) (d92v0 : D92v0) (N : Nat) (a0 : List (Int × Bool × Bool × Int × Int × Int × (List Int))) : evc (T73 c84 d86v2 c93 c108 c23 d88v2 c94 d87v1 c95 d92v1 c112 d97v0 d92v2 d86v1 d88v1 d87v2 d92v3 d97v1 d92v0) (addI (T73 c84 d86v2 c93 c108 c23 d88v2 c94 d87v1 c95 d92v1 c112 d97v0 d92v2 d86v1 d88v1 d87v2 d92v3 d97v1 d92v0) (modeOf FT) fuelC 98 k98 (addI (T73 c84 d86v2 c93 c108 c23 d88v2 c94 d87v1 c95 d92v1 c112 d97v0 d92v2 d86v1 d88v1 d87v2 d92v3 d97v1 d92v0) (modeOf FT) fuelC 96 k96 (addI (T73 c84 d86v2 c93 c108 c23 d88v2 c94 d87v1 c95 d92v1 c112 d97v0 d92v2 d86v1 d88v1 d87v2 d92v3 d97v1 d92v0) (modeOf FT) fuelC 91 k91 (addI (T73 c84 d86v2 c93 c108 c23 d88v2 c94 d87v1 c95 d92v1 c112 d97v0 d92v2 d86v1 d88v1 d87v2 d92v3 d97v1 d92v0) (modeOf FT) fuelC 90 k90 (addI (T73 c84 d86v2 c93 c108 c23 d88v2 c94 d87v1 c95 d92v1 c112 d97v0 d92v2 d86v1 d88v1 d87v2 d92v3 d97v1 d92v0) (modeOf FT) fuelC 89 k89 (addI (T73 c84 d86v2 c93 c108 c23 d88v2 c94 d87v1 c95 d92v1 c112 d97v0 d92v2 d86v1 d88v1 d87v2 d92v3 d97v1 d92v0) (modeOf FT) fuelC 106 k106 (addI (T73 c84 d86v2 c93 c108 c23 d88v2 c94 d87v1 c95 d92v1 c112 d97v0 d92v2 d86v1 d88v1 d87v2 d92v3 d97v1 d92v0) (modeOf FT) fuelC 111 k111 (addI (T73 c84 d86v2 c93 c108 c23 d88v2 c94 d87v1 c95 d92v1 c112 d97v0 d92v2 d86v1 d88v1 d87v2 d92v3 d97v1 d92v0) (modeOf FT) fuelC 110 k110 (addI (T73 c84 d86v2 c93 c108 c23 d88v2 c94 d87v1 c95 d92v1 c112 d97v0 d92v2 d86v1 d88v1 d87v2 d92v3 d97v1 d92v0) (modeOf FT) fuelC 85 k85 (rawOf (RW73 c84 d86v2 c93 c108 c23 d88v2 c94 d87v1 c95 d92v1 c112 d97v0 d92v2 d86v1 d88v1 d87v2 d92v3 d97v1 d92v0))))))))))) (W73 c84 d86v2 c93 c108 c23 d88v2 c94 d87v1 c95 d92v1 c112 d97v0 d92v2 d86v1 d88v1 d87v2 d92v3 d97v1 d92v0 N) (retc k73.res Sh.bool) (modeOf FT) 0 fuelC k73.body (env0 k73 (encL [(Sh.sl (Sh.pr (Sh.int .u8) (Sh.pr Sh.bool (Sh.pr Sh.bool (Sh.pr (Sh.int .i64) (Sh.pr (Sh.int .i64) (Sh.pr (Sh.int .i64) (Sh.sl (Sh.int .u8)))))))))] (a0, ())), []) (endK (retc k73.res Sh.bool)) = p73 c84 d86v2 c93 c108 c23 d88v2 c94 d87v1 c95 d92v1 c112 d97v0 d92v2 d86v1 d88v1 d87v2 d92v3 d97v1 d92v0 N a0 := by kernel_rfl
theorem ok73 (c84 : D84) (d86v2 : D86v2) (c93 : D93) (c108 : D108) (c23 : D23) (d88v2 : D88v2) (c94 : D94) (d87v1 : D87v1) (c95 : D95) (d92v1 : D92v1) (c112 : D112) (d97v0 : D97v0) (d92v2 : D92v2) (d86v1 : D86v1) (d88v1 : D88v1) (d87v2 : D87v2) (d92v3 : D92v3) (d97v1 : D97v1) (d92v0 : D92v0) (h84 : EntOK FT XT 84 (en84 c84)) (h93 : EntOK FT XT 93 (en93 c93)) (h108 : EntOK FT XT 108 (en108 c108)) (h23 : EntOK FT XT 23 (en23 c23)) (h94 : EntOK FT XT 94 (en94 c94)) (h95 : EntOK FT XT 95 (en95 c95)) (h112 : EntOK FT XT 112 (en112 c112)) (h86v2 : REntOK FT XT 86 (rn86v2 d86v2)) (h88v2 : REntOK FT XT 88 (rn88v2 d88v2)) (h87v1 : REntOK FT XT 87 (rn87v1 d87v1)) (h92v1 : REntOK FT XT 92 (rn92v1 d92v1)) (h97v0 : REntOK FT XT 97 (rn97v0 d97v0)) (h92v2 : REntOK FT XT 92 (rn92v2 d92v2)) (h86v1 : REntOK FT XT 86 (rn86v1 d86v1)) (h88v1 : REntOK FT XT 88 (rn88v1 d88v1)) (h87v2 : REntOK FT XT 87 (rn87v2 d87v2)) (h92v3 : REntOK FT XT 92 (rn92v3 d92v3)) (h97v1 : REntOK FT XT 97 (rn97v1 d97v1)) (h92v0 : REntOK FT XT 92 (rn92v0 d92v0)) {f : D73} (hf : ∀ a0 r, f a0 = some r → ∃ N, p73 c84 d86v2 c93 c108 c23 d88v2 c94 d87v1 c95 d92v1 c112 d97v0 d92v2 d86v1 d88v1 d87v2 d92v3 d97v1 d92v0 N a0 = some r) : EntOK FT XT 73 (en73 f) := by
  have hT : TabOK FT XT (T73 c84 d86v2 c93 c108 c23 d88v2 c94 d87v1 c95 d92v1 c112 d97v0 d92v2 d86v1 d88v1 d87v2 d92v3 d97v1 d92v0) := by
    intro g en hg
    unfold T73 at hg
    split at hg <;> first | (injection hg with hg; subst hg; assumption) | cases hg
  have hO0 : RawOK FT XT (rawOf (α := (Sh.bool).T) (RW73 c84 d86v2 c93 c108 c23 d88v2 c94 d87v1 c95 d92v1 c112 d97v0 d92v2 d86v1 d88v1 d87v2 d92v3 d97v1 d92v0)) := by
    refine rawOf_ok (fun g en hg => ?_)
    unfold RW73 at hg
    split at hg <;> simp only [List.mem_cons, List.not_mem_nil, or_false] at hg <;> first | (subst hg; assumption) | (rcases hg with rfl | rfl <;> assumption) | (rcases hg with rfl | rfl | rfl <;> assumption) | (rcases hg with rfl | rfl | rfl | rfl <;> assumption)
  have hO : RawOK FT XT (addI (T73 c84 d86v2 c93 c108 c23 d88v2 c94 d87v1 c95 d92v1 c112 d97v0 d92v2 d86v1 d88v1 d87v2 d92v3 d97v1 d92v0) (modeOf FT) fuelC 98 k98 (addI (T73 c84 d86v2 c93 c108 c23 d88v2 c94 d87v1 c95 d92v1 c112 d97v0 d92v2 d86v1 d88v1 d87v2 d92v3 d97v1 d92v0) (modeOf FT) fuelC 96 k96 (addI (T73 c84 d86v2 c93 c108 c23 d88v2 c94 d87v1 c95 d92v1 c112 d97v0 d92v2 d86v1 d88v1 d87v2 d92v3 d97v1 d92v0) (modeOf FT) fuelC 91 k91 (addI (T73 c84 d86v2 c93 c108 c23 d88v2 c94 d87v1 c95 d92v1 c112 d97v0 d92v2 d86v1 d88v1 d87v2 d92v3 d97v1 d92v0) (modeOf FT) fuelC 90 k90 (addI (T73 c84 d86v2 c93 c108 c23 d88v2 c94 d87v1 c95 d92v1 c112 d97v0 d92v2 d86v1 d88v1 d87v2 d92v3 d97v1 d92v0) (modeOf FT) fuelC 89 k89 (addI (T73 c84 d86v2 c93 c108 c23 d88v2 c94 d87v1 c95 d92v1 c112 d97v0 d92v2 d86v1 d88v1 d87v2 d92v3 d97v1 d92v0) (modeOf FT) fuelC 106 k106 (addI (T73 c84 d86v2 c93 c108 c23 d88v2 c94 d87v1 c95 d92v1 c112 d97v0 d92v2 d86v1 d88v1 d87v2 d92v3 d97v1 d92v0) (modeOf FT) fuelC 111 k111 (addI (T73 c84 d86v2 c93 c108 c23 d88v2 c94 d87v1 c95 d92v1 c112 d97v0 d92v2 d86v1 d88v1 d87v2 d92v3 d97v1 d92v0) (modeOf FT) fuelC 110 k110 (addI (T73 c84 d86v2 c93 c108 c23 d88v2 c94 d87v1 c95 d92v1 c112 d97v0 d92v2 d86v1 d88v1 d87v2 d92v3 d97v1 d92v0) (modeOf FT) fuelC 85 k85 (rawOf (α := (Sh.bool).T) (RW73 c84 d86v2 c93 c108 c23 d88v2 c94 d87v1 c95 d92v1 c112 d97v0 d92v2 d86v1 d88v1 d87v2 d92v3 d97v1 d92v0))))))))))) := addI_ok hT (addI_ok hT (addI_ok hT (addI_ok hT (addI_ok hT (addI_ok hT (addI_ok hT (addI_ok hT (addI_ok hT (hO0) rfl rfl) rfl rfl) rfl rfl) rfl rfl) rfl rfl) rfl rfl) rfl rfl) rfl rfl) rfl rfl
  refine ⟨rfl, fun v r h => ?_⟩
  obtain ⟨a0, _⟩ := v
  obtain ⟨N, h1⟩ := hf _ _ h
  exact ans_c (R := Sh.bool) (tab := T73 c84 d86v2 c93 c108 c23 d88v2 c94 d87v1 c95 d92v1 c112 d97v0 d92v2 d86v1 d88v1 d87v2 d92v3 d97v1 d92v0) (raw := (addI (T73 c84 d86v2 c93 c108 c23 d88v2 c94 d87v1 c95 d92v1 c112 d97v0 d92v2 d86v1 d88v1 d87v2 d92v3 d97v1 d92v0) (modeOf FT) fuelC 98 k98 (addI (T73 c84 d86v2 c93 c108 c23 d88v2 c94 d87v1 c95 d92v1 c112 d97v0 d92v2 d86v1 d88v1 d87v2 d92v3 d97v1 d92v0) (modeOf FT) fuelC 96 k96 (addI (T73 c84 d86v2 c93 c108 c23 d88v2 c94 d87v1 c95 d92v1 c112 d97v0 d92v2 d86v1 d88v1 d87v2 d92v3 d97v1 d92v0) (modeOf FT) fuelC 91 k91 (addI (T73 c84 d86v2 c93 c108 c23 d88v2 c94 d87v1 c95 d92v1 c112 d97v0 d92v2 d86v1 d88v1 d87v2 d92v3 d97v1 d92v0) (modeOf FT) fuelC 90 k90 (addI (T73 c84 d86v2 c93 c108 c23 d88v2 c94 d87v1 c95 d92v1 c112 d97v0 d92v2 d86v1 d88v1 d87v2 d92v3 d97v1 d92v0) (modeOf FT) fuelC 89 k89 (addI (T73 c84 d86v2 c93 c108 c23 d88v2 c94 d87v1 c95 d92v1 c112 d97v0 d92v2 d86v1 d88v1 d87v2 d92v3 d97v1 d92v0) (modeOf FT) fuelC 106 k106 (addI (T73 c84 d86v2 c93 c108 c23 d88v2 c94 d87v1 c95 d92v1 c112 d97v0 d92v2 d86v1 d88v1 d87v2 d92v3 d97v1 d92v0) (modeOf FT) fuelC 111 k111 (addI (T73 c84 d86v2 c93 c108 c23 d88v2 c94 d87v1 c95 d92v1 c112 d97v0 d92v2 d86v1 d88v1 d87v2 d92v3 d97v1 d92v0) (modeOf FT) fuelC 110 k110 (addI (T73 c84 d86v2 c93 c108 c23 d88v2 c94 d87v1 c95 d92v1 c112 d97v0 d92v2 d86v1 d88v1 d87v2 d92v3 d97v1 d92v0) (modeOf FT) fuelC 85 k85 (rawOf (RW73 c84 d86v2 c93 c108 c23 d88v2 c94 d87v1 c95 d92v1 c112 d97v0 d92v2 d86v1 d88v1 d87v2 d92v3 d97v1 d92v0)))))))))))) (LP := W73 c84 d86v2 c93 c108 c23 d88v2 c94 d87v1 c95 d92v1 c112 d97v0 d92v2 d86v1 d88v1 d87v2 d92v3 d97v1 d92v0 N) (fu := fuelC) hT hO rfl rfl (Nat.le_of_ble_eq_true rfl) (loopOK_cons l73_0 (fun s κ a h => o73_0 c84 d86v2 c93 c108 c23 d88v2 c94 d87v1 c95 d92v1 c112 d97v0 d92v2 d86v1 d88v1 d87v2 d92v3 d97v1 d92v0 hT hO N h) loopOK_nil) ((e73 c84 d86v2 c93 c108 c23 d88v2 c94 d87v1 c95 d92v1 c112 d97v0 d92v2 d86v1 d88v1 d87v2 d92v3 d97v1 d92v0 N _).trans h1)
end Go.Proofs.YtcnkihdjenjdgaaE
