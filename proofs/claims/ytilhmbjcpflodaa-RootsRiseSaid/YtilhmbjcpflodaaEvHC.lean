/- The plain functions are the evaluator's. -/
import Derived.Test.YtilhmbjcpflodaaEvGC
import Derived.KernelRfl
namespace Go.Proofs.YtilhmbjcpflodaaE
open Go
set_option linter.unusedVariables false
set_option linter.unusedSimpArgs false

def T23 : Nat → Option Ent
  | _ => none
def RW23 : Nat → List REnt
  | _ => []
def H23_0 : Trim := ⟨0, [], false, [0, 1, 5], []⟩
theorem l23_0 : loopN k23 0 = .loop H23_0 (bodyOf (loopN k23 0)) := by kernel_rfl
def P23_0 : Ps := ⟨[(0, (.tb (Sh.int .u8))), (1, (.tb (Sh.int .u8))), (4, .u), (5, (.int .i64)), (10, .u), (14, .u), (25, .u)], []⟩
def Q23_0 : Nat → Ps
  | 0 => ⟨[(0, .u), (1, .u), (4, .u), (5, .u), (10, .u), (14, .u), (25, .u)], []⟩
  | _ => noPs
def u23_0 (N n : Nat) (v : P23_0.T) (κ : (i : Nat) → (Q23_0 i).T → Option (Sh.bool).T) : Option (Sh.bool).T :=
  L23_0 N (κ 0 (((), ((), ((), ((), ((), ((), ((), ()))))))), ())) n v.1.1 v.1.2.1 v.1.2.2.2.1
def W23_0 (N : Nat) : LoopF (Sh.bool).T := fun no =>
  match no with
  | _ => fun _ _ => none
theorem b23_0 (N n : Nat) (v : P23_0.T) (κ : (i : Nat) → (Q23_0 i).T → Option (Sh.bool).T) :
    evc (T23) (rawOf (RW23)) (W23_0 N) (retc k23.res Sh.bool) (modeOf FT) 0 fuelC (bodyOf (loopN k23 0)) (P23_0.st v) (roundK 0 H23_0 P23_0 Q23_0 (u23_0 N n) κ) = u23_0 N (n + 1) v κ := by kernel_rfl
theorem o23_0 (hT : TabOK FT XT (T23)) (hO : RawOK FT XT (rawOf (α := (Sh.bool).T) (RW23))) (N : Nat) {s : St} {κ : Ex → St → Option (Sh.bool).T} {a : (Sh.bool).T} (h : lpOf 0 H23_0 P23_0 Q23_0 (u23_0 N N) s κ = some a) : Out FT XT 0 (retc k23.res Sh.bool) (loopN k23 0) s κ a := by
  rw [l23_0]
  exact loop_out (LP := W23_0 N) (fu := fuelC) hT hO (fun _ _ => rfl) (b23_0 N) loopOK_nil N h
def W23 (N : Nat) : LoopF (Sh.bool).T := fun no =>
  match no with
  | 0 => lpOf 0 H23_0 P23_0 Q23_0 (u23_0 N N)
  | _ => fun _ _ => none
theorem e23 (N : Nat) (a0 : List Int) (a1 : List Int) : evc (T23) (rawOf (RW23)) (W23 N) (retc k23.res Sh.bool) (modeOf FT) 0 fuelC k23.body (env0 k23 (encL [(Sh.sl (Sh.int .u8)), (Sh.sl (Sh.int .u8))] (a0, (a1, ()))), []) (endK (retc k23.res Sh.bool)) = p23 N a0 a1 := by kernel_rfl
theorem ok23 {f : List Int → List Int → Option Bool} (hf : ∀ a0 a1 r, f a0 a1 = some r → ∃ N, p23 N a0 a1 = some r) : EntOK FT XT 23 (en23 f) := by
  have hT : TabOK FT XT (T23) := by
    intro g en hg
    unfold T23 at hg
    split at hg <;> first | (injection hg with hg; subst hg; assumption) | cases hg
  have hO : RawOK FT XT (rawOf (α := (Sh.bool).T) (RW23)) := by
    refine rawOf_ok (fun g en hg => ?_)
    unfold RW23 at hg
    split at hg <;> simp only [List.mem_cons, List.not_mem_nil, or_false] at hg <;> first | (subst hg; assumption) | (rcases hg with rfl | rfl <;> assumption) | (rcases hg with rfl | rfl | rfl <;> assumption) | (rcases hg with rfl | rfl | rfl | rfl <;> assumption)
  refine ⟨rfl, fun v r h => ?_⟩
  obtain ⟨a0, a1, _⟩ := v
  obtain ⟨N, h1⟩ := hf _ _ _ h
  exact ans_c (R := Sh.bool) (tab := T23) (raw := (rawOf (RW23))) (LP := W23 N) (fu := fuelC) hT hO rfl rfl (Nat.le_of_ble_eq_true rfl) (loopOK_cons l23_0 (fun s κ a h => o23_0 hT hO N h) loopOK_nil) ((e23 N _ _).trans h1)

def T100 : Nat → Option Ent
  | _ => none
def RW100 : Nat → List REnt
  | _ => []
def W100 (N : Nat) : LoopF (Sh.bool).T := fun no =>
  match no with
  | _ => fun _ _ => none
theorem e100 (N : Nat) (a0 : Int) (a1 : Int) (a2 : Int) : evc (T100) (rawOf (RW100)) (W100 N) (retc k100.res Sh.bool) (modeOf FT) 0 fuelC k100.body (env0 k100 (encL [(Sh.int .i64), (Sh.int .i64), (Sh.int .i64)] (a0, (a1, (a2, ())))), []) (endK (retc k100.res Sh.bool)) = p100 N a0 a1 a2 := by kernel_rfl
theorem ok100 {f : Int → Int → Int → Option Bool} (hf : ∀ a0 a1 a2 r, f a0 a1 a2 = some r → ∃ N, p100 N a0 a1 a2 = some r) : EntOK FT XT 100 (en100 f) := by
  have hT : TabOK FT XT (T100) := by
    intro g en hg
    unfold T100 at hg
    split at hg <;> first | (injection hg with hg; subst hg; assumption) | cases hg
  have hO : RawOK FT XT (rawOf (α := (Sh.bool).T) (RW100)) := by
    refine rawOf_ok (fun g en hg => ?_)
    unfold RW100 at hg
    split at hg <;> simp only [List.mem_cons, List.not_mem_nil, or_false] at hg <;> first | (subst hg; assumption) | (rcases hg with rfl | rfl <;> assumption) | (rcases hg with rfl | rfl | rfl <;> assumption) | (rcases hg with rfl | rfl | rfl | rfl <;> assumption)
  refine ⟨rfl, fun v r h => ?_⟩
  obtain ⟨a0, a1, a2, _⟩ := v
  obtain ⟨N, h1⟩ := hf _ _ _ _ h
  exact ans_c (R := Sh.bool) (tab := T100) (raw := (rawOf (RW100))) (LP := W100 N) (fu := fuelC) hT hO rfl rfl (Nat.le_of_ble_eq_true rfl) loopOK_nil ((e100 N _ _ _).trans h1)

def T120 : Nat → Option Ent
  | _ => none
def RW120 : Nat → List REnt
  | _ => []
def W120 (N : Nat) : LoopF (((Sh.tu (Sh.pr (Sh.int .u64) (Sh.int .u64)))).T) := fun no =>
  match no with
  | _ => fun _ _ => none
theorem e120 (N : Nat) (a0 : Int) (a1 : Int) : evc (T120) (rawOf (RW120)) (W120 N) (retc k120.res (Sh.tu (Sh.pr (Sh.int .u64) (Sh.int .u64)))) (modeOf FT) 0 fuelC k120.body (env0 k120 (encL [(Sh.int .u64), (Sh.int .u64)] (a0, (a1, ()))), []) (endK (retc k120.res (Sh.tu (Sh.pr (Sh.int .u64) (Sh.int .u64))))) = p120 N a0 a1 := by kernel_rfl
theorem ok120 {f : Int → Int → Option (Int × Int)} (hf : ∀ a0 a1 r, f a0 a1 = some r → ∃ N, p120 N a0 a1 = some r) : EntOK FT XT 120 (en120 f) := by
  have hT : TabOK FT XT (T120) := by
    intro g en hg
    unfold T120 at hg
    split at hg <;> first | (injection hg with hg; subst hg; assumption) | cases hg
  have hO : RawOK FT XT (rawOf (α := ((Sh.tu (Sh.pr (Sh.int .u64) (Sh.int .u64)))).T) (RW120)) := by
    refine rawOf_ok (fun g en hg => ?_)
    unfold RW120 at hg
    split at hg <;> simp only [List.mem_cons, List.not_mem_nil, or_false] at hg <;> first | (subst hg; assumption) | (rcases hg with rfl | rfl <;> assumption) | (rcases hg with rfl | rfl | rfl <;> assumption) | (rcases hg with rfl | rfl | rfl | rfl <;> assumption)
  refine ⟨rfl, fun v r h => ?_⟩
  obtain ⟨a0, a1, _⟩ := v
  obtain ⟨N, h1⟩ := hf _ _ _ h
  exact ans_c (R := (Sh.tu (Sh.pr (Sh.int .u64) (Sh.int .u64)))) (tab := T120) (raw := (rawOf (RW120))) (LP := W120 N) (fu := fuelC) hT hO rfl rfl (Nat.le_of_ble_eq_true rfl) loopOK_nil ((e120 N _ _).trans h1)

def T116 (c120 : Int → Int → Option (Int × Int)) : Nat → Option Ent
  | 120 => some (en120 c120)
  | _ => none
def RW116 (c120 : Int → Int → Option (Int × Int)) : Nat → List REnt
  | _ => []
def W116 (c120 : Int → Int → Option (Int × Int)) (N : Nat) : LoopF (Sh.bool).T := fun no =>
  match no with
  | _ => fun _ _ => none
theorem e116 (c120 : Int → Int → Option (Int × Int)) (N : Nat) (a0 : Int) (a1 : Int) (a2 : Int) : evc (T116 c120) (rawOf (RW116 c120)) (W116 c120 N) (retc k116.res Sh.bool) (modeOf FT) 0 fuelC k116.body (env0 k116 (encL [(Sh.int .u64), (Sh.int .u64), (Sh.int .i64)] (a0, (a1, (a2, ())))), []) (endK (retc k116.res Sh.bool)) = p116 c120 N a0 a1 a2 := by kernel_rfl
theorem ok116 (c120 : Int → Int → Option (Int × Int)) (h120 : EntOK FT XT 120 (en120 c120)) {f : Int → Int → Int → Option Bool} (hf : ∀ a0 a1 a2 r, f a0 a1 a2 = some r → ∃ N, p116 c120 N a0 a1 a2 = some r) : EntOK FT XT 116 (en116 f) := by
  have hT : TabOK FT XT (T116 c120) := by
    intro g en hg
    unfold T116 at hg
    split at hg <;> first | (injection hg with hg; subst hg; assumption) | cases hg
  have hO : RawOK FT XT (rawOf (α := (Sh.bool).T) (RW116 c120)) := by
    refine rawOf_ok (fun g en hg => ?_)
    unfold RW116 at hg
    split at hg <;> simp only [List.mem_cons, List.not_mem_nil, or_false] at hg <;> first | (subst hg; assumption) | (rcases hg with rfl | rfl <;> assumption) | (rcases hg with rfl | rfl | rfl <;> assumption) | (rcases hg with rfl | rfl | rfl | rfl <;> assumption)
  refine ⟨rfl, fun v r h => ?_⟩
  obtain ⟨a0, a1, a2, _⟩ := v
  obtain ⟨N, h1⟩ := hf _ _ _ _ h
  exact ans_c (R := Sh.bool) (tab := T116 c120) (raw := (rawOf (RW116 c120))) (LP := W116 c120 N) (fu := fuelC) hT hO rfl rfl (Nat.le_of_ble_eq_true rfl) loopOK_nil ((e116 c120 N _ _ _).trans h1)

def T115v0 (c116 : Int → Int → Int → Option Bool) : Nat → Option Ent
  | 116 => some (en116 c116)
  | _ => none
def RW115v0 (c116 : Int → Int → Int → Option Bool) : Nat → List REnt
  | _ => []
def W115v0 (c116 : Int → Int → Int → Option Bool) (N : Nat) : LoopF QR115v0.T := fun no =>
  match no with
  | _ => fun _ _ => none
theorem e115v0 (c116 : Int → Int → Int → Option Bool) (N : Nat) (v : PR115v0.T) : evc (T115v0 c116) (rawOf (RW115v0 c116)) (W115v0 c116 N) (retr k115.res 2 QR115v0) (modeOf FT) 2 fuelC k115.body (env0 k115 (PR115v0.a.st v.1), stH PR115v0.h v.2) (endK (retr k115.res 2 QR115v0)) = p115v0 c116 N v.1.1 v.2.1 v.2.2.1 := by kernel_rfl
theorem ok115v0 (c116 : Int → Int → Int → Option Bool) (h116 : EntOK FT XT 116 (en116 c116)) {f : Int → List Int → List Int → Option ((Bool × Unit) × ((List Int) × ((List Int) × Unit)))} (hf : ∀ a0 a1 a2 r, f a0 a1 a2 = some r → ∃ N, p115v0 c116 N a0 a1 a2 = some r) : REntOK FT XT 115 (rn115v0 f) := by
  have hT : TabOK FT XT (T115v0 c116) := by
    intro g en hg
    unfold T115v0 at hg
    split at hg <;> first | (injection hg with hg; subst hg; assumption) | cases hg
  have hO : RawOK FT XT (rawOf (α := QR115v0.T) (RW115v0 c116)) := by
    refine rawOf_ok (fun g en hg => ?_)
    unfold RW115v0 at hg
    split at hg <;> simp only [List.mem_cons, List.not_mem_nil, or_false] at hg <;> first | (subst hg; assumption) | (rcases hg with rfl | rfl <;> assumption) | (rcases hg with rfl | rfl | rfl <;> assumption) | (rcases hg with rfl | rfl | rfl | rfl <;> assumption)
  intro v r w h hw
  obtain ⟨N, h1⟩ := hf _ _ _ _ h
  exact ans_r (Q := QR115v0) (tab := T115v0 c116) (raw := (rawOf (RW115v0 c116))) (LP := W115v0 c116 N) (fu := fuelC) hT hO rfl rfl (Nat.le_of_ble_eq_true rfl) rfl loopOK_nil ((e115v0 c116 N v).trans h1) hw

def T114v0 (d115v0 : Int → List Int → List Int → Option ((Bool × Unit) × ((List Int) × ((List Int) × Unit)))) : Nat → Option Ent
  | _ => none
def RW114v0 (d115v0 : Int → List Int → List Int → Option ((Bool × Unit) × ((List Int) × ((List Int) × Unit)))) : Nat → List REnt
  | 115 => [rn115v0 d115v0]
  | _ => []
def H114v0_0 : Trim := ⟨0, [], false, [1, 5, 6], []⟩
theorem l114v0_0 : loopN k114 0 = .loop H114v0_0 (bodyOf (loopN k114 0)) := by kernel_rfl
def P114v0_0 : Ps := ⟨[(0, .u), (1, (.fn 115 (.cons (.ptr 0 0) (.cons (.ptr 1 0) .nil)))), (4, .u), (5, (.int .i64)), (6, (.int .i64)), (7, .u), (11, .u), (21, .u)], [(.ints false .i64), (.ints false .i64)]⟩
def Q114v0_0 : Nat → Ps
  | 0 => ⟨[(0, .u), (1, .u), (4, .u), (5, (.int .i64)), (6, .u), (7, .u), (11, .u), (21, .u)], [(.ints false .i64), (.ints false .i64)]⟩
  | _ => noPs
def u114v0_0 (d115v0 : Int → List Int → List Int → Option ((Bool × Unit) × ((List Int) × ((List Int) × Unit)))) (N n : Nat) (v : P114v0_0.T) (κ : (i : Nat) → (Q114v0_0 i).T → Option QR114v0.T) : Option QR114v0.T :=
  L114v0_0 d115v0 N (fun (y0 : Int) (y1 : List Int) (y2 : List Int) => κ 0 (((), ((), ((), (y0, ((), ((), ((), ((), ())))))))), (y1, (y2, ())))) n v.1.2.2.2.1 v.1.2.2.2.2.1 v.2.1 v.2.2.1
def W114v0_0 (d115v0 : Int → List Int → List Int → Option ((Bool × Unit) × ((List Int) × ((List Int) × Unit)))) (N : Nat) : LoopF QR114v0.T := fun no =>
  match no with
  | _ => fun _ _ => none
theorem b114v0_0 (d115v0 : Int → List Int → List Int → Option ((Bool × Unit) × ((List Int) × ((List Int) × Unit)))) (N n : Nat) (v : P114v0_0.T) (κ : (i : Nat) → (Q114v0_0 i).T → Option QR114v0.T) :
    evc (T114v0 d115v0) (rawOf (RW114v0 d115v0)) (W114v0_0 d115v0 N) (retr k114.res 2 QR114v0) (modeOf FT) 2 fuelC (bodyOf (loopN k114 0)) (P114v0_0.st v) (roundK 2 H114v0_0 P114v0_0 Q114v0_0 (u114v0_0 d115v0 N n) κ) = u114v0_0 d115v0 N (n + 1) v κ := by kernel_rfl
theorem o114v0_0 (d115v0 : Int → List Int → List Int → Option ((Bool × Unit) × ((List Int) × ((List Int) × Unit)))) (hT : TabOK FT XT (T114v0 d115v0)) (hO : RawOK FT XT (rawOf (α := QR114v0.T) (RW114v0 d115v0))) (N : Nat) {s : St} {κ : Ex → St → Option QR114v0.T} {a : QR114v0.T} (h : lpOf 2 H114v0_0 P114v0_0 Q114v0_0 (u114v0_0 d115v0 N N) s κ = some a) : Out FT XT 2 (retr k114.res 2 QR114v0) (loopN k114 0) s κ a := by
  rw [l114v0_0]
  exact loop_out (LP := W114v0_0 d115v0 N) (fu := fuelC) hT hO (fun _ _ => rfl) (b114v0_0 d115v0 N) loopOK_nil N h
def W114v0 (d115v0 : Int → List Int → List Int → Option ((Bool × Unit) × ((List Int) × ((List Int) × Unit)))) (N : Nat) : LoopF QR114v0.T := fun no =>
  match no with
  | 0 => lpOf 2 H114v0_0 P114v0_0 Q114v0_0 (u114v0_0 d115v0 N N)
  | _ => fun _ _ => none
theorem e114v0 (d115v0 : Int → List Int → List Int → Option ((Bool × Unit) × ((List Int) × ((List Int) × Unit)))) (N : Nat) (v : PR114v0.T) : evc (T114v0 d115v0) (rawOf (RW114v0 d115v0)) (W114v0 d115v0 N) (retr k114.res 2 QR114v0) (modeOf FT) 2 fuelC k114.body (env0 k114 (PR114v0.a.st v.1), stH PR114v0.h v.2) (endK (retr k114.res 2 QR114v0)) = p114v0 d115v0 N v.1.1 v.2.1 v.2.2.1 := by kernel_rfl
theorem ok114v0 (d115v0 : Int → List Int → List Int → Option ((Bool × Unit) × ((List Int) × ((List Int) × Unit)))) (h115v0 : REntOK FT XT 115 (rn115v0 d115v0)) {f : Int → List Int → List Int → Option ((Int × Unit) × ((List Int) × ((List Int) × Unit)))} (hf : ∀ a0 a1 a2 r, f a0 a1 a2 = some r → ∃ N, p114v0 d115v0 N a0 a1 a2 = some r) : REntOK FT XT 114 (rn114v0 f) := by
  have hT : TabOK FT XT (T114v0 d115v0) := by
    intro g en hg
    unfold T114v0 at hg
    split at hg <;> first | (injection hg with hg; subst hg; assumption) | cases hg
  have hO : RawOK FT XT (rawOf (α := QR114v0.T) (RW114v0 d115v0)) := by
    refine rawOf_ok (fun g en hg => ?_)
    unfold RW114v0 at hg
    split at hg <;> simp only [List.mem_cons, List.not_mem_nil, or_false] at hg <;> first | (subst hg; assumption) | (rcases hg with rfl | rfl <;> assumption) | (rcases hg with rfl | rfl | rfl <;> assumption) | (rcases hg with rfl | rfl | rfl | rfl <;> assumption)
  intro v r w h hw
  obtain ⟨N, h1⟩ := hf _ _ _ _ h
  exact ans_r (Q := QR114v0) (tab := T114v0 d115v0) (raw := (rawOf (RW114v0 d115v0))) (LP := W114v0 d115v0 N) (fu := fuelC) hT hO rfl rfl (Nat.le_of_ble_eq_true rfl) rfl (loopOK_cons l114v0_0 (fun s κ a h => o114v0_0 d115v0 hT hO N h) loopOK_nil) ((e114v0 d115v0 N v).trans h1) hw

def T101 (d114v0 : Int → List Int → List Int → Option ((Int × Unit) × ((List Int) × ((List Int) × Unit)))) : Nat → Option Ent
  | _ => none
def RW101 (d114v0 : Int → List Int → List Int → Option ((Int × Unit) × ((List Int) × ((List Int) × Unit)))) : Nat → List REnt
  | 114 => [rn114v0 d114v0]
  | _ => []
def W101 (d114v0 : Int → List Int → List Int → Option ((Int × Unit) × ((List Int) × ((List Int) × Unit)))) (N : Nat) : LoopF (((Sh.int .u64)).T) := fun no =>
  match no with
  | _ => fun _ _ => none
theorem e101 (d114v0 : Int → List Int → List Int → Option ((Int × Unit) × ((List Int) × ((List Int) × Unit)))) (N : Nat) (a0 : Int) (a1 : Int) : evc (T101 d114v0) (rawOf (RW101 d114v0)) (W101 d114v0 N) (retc k101.res (Sh.int .u64)) (modeOf FT) 0 fuelC k101.body (env0 k101 (encL [(Sh.int .i64), (Sh.int .i64)] (a0, (a1, ()))), []) (endK (retc k101.res (Sh.int .u64))) = p101 d114v0 N a0 a1 := by kernel_rfl
theorem ok101 (d114v0 : Int → List Int → List Int → Option ((Int × Unit) × ((List Int) × ((List Int) × Unit)))) (h114v0 : REntOK FT XT 114 (rn114v0 d114v0)) {f : Int → Int → Option Int} (hf : ∀ a0 a1 r, f a0 a1 = some r → ∃ N, p101 d114v0 N a0 a1 = some r) : EntOK FT XT 101 (en101 f) := by
  have hT : TabOK FT XT (T101 d114v0) := by
    intro g en hg
    unfold T101 at hg
    split at hg <;> first | (injection hg with hg; subst hg; assumption) | cases hg
  have hO : RawOK FT XT (rawOf (α := ((Sh.int .u64)).T) (RW101 d114v0)) := by
    refine rawOf_ok (fun g en hg => ?_)
    unfold RW101 at hg
    split at hg <;> simp only [List.mem_cons, List.not_mem_nil, or_false] at hg <;> first | (subst hg; assumption) | (rcases hg with rfl | rfl <;> assumption) | (rcases hg with rfl | rfl | rfl <;> assumption) | (rcases hg with rfl | rfl | rfl | rfl <;> assumption)
  refine ⟨rfl, fun v r h => ?_⟩
  obtain ⟨a0, a1, _⟩ := v
  obtain ⟨N, h1⟩ := hf _ _ _ h
  exact ans_c (R := (Sh.int .u64)) (tab := T101 d114v0) (raw := (rawOf (RW101 d114v0))) (LP := W101 d114v0 N) (fu := fuelC) hT hO rfl rfl (Nat.le_of_ble_eq_true rfl) loopOK_nil ((e101 d114v0 N _ _).trans h1)

def T75 (c100 : Int → Int → Int → Option Bool) (c101 : Int → Int → Option Int) : Nat → Option Ent
  | 100 => some (en100 c100)
  | 101 => some (en101 c101)
  | _ => none
def RW75 (c100 : Int → Int → Int → Option Bool) (c101 : Int → Int → Option Int) : Nat → List REnt
  | _ => []
def W75 (c100 : Int → Int → Int → Option Bool) (c101 : Int → Int → Option Int) (N : Nat) : LoopF (((Sh.tu (Sh.pr (Sh.int .u64) (Sh.int .i64)))).T) := fun no =>
  match no with
  | _ => fun _ _ => none
theorem e75 (c100 : Int → Int → Int → Option Bool) (c101 : Int → Int → Option Int) (N : Nat) (a0 : Int) (a1 : Int) (a2 : Int) : evc (T75 c100 c101) (rawOf (RW75 c100 c101)) (W75 c100 c101 N) (retc k75.res (Sh.tu (Sh.pr (Sh.int .u64) (Sh.int .i64)))) (modeOf FT) 0 fuelC k75.body (env0 k75 (encL [(Sh.int .i64), (Sh.int .i64), (Sh.int .i64)] (a0, (a1, (a2, ())))), []) (endK (retc k75.res (Sh.tu (Sh.pr (Sh.int .u64) (Sh.int .i64))))) = p75 c100 c101 N a0 a1 a2 := by kernel_rfl
theorem ok75 (c100 : Int → Int → Int → Option Bool) (c101 : Int → Int → Option Int) (h100 : EntOK FT XT 100 (en100 c100)) (h101 : EntOK FT XT 101 (en101 c101)) {f : Int → Int → Int → Option (Int × Int)} (hf : ∀ a0 a1 a2 r, f a0 a1 a2 = some r → ∃ N, p75 c100 c101 N a0 a1 a2 = some r) : EntOK FT XT 75 (en75 f) := by
  have hT : TabOK FT XT (T75 c100 c101) := by
    intro g en hg
    unfold T75 at hg
    split at hg <;> first | (injection hg with hg; subst hg; assumption) | cases hg
  have hO : RawOK FT XT (rawOf (α := ((Sh.tu (Sh.pr (Sh.int .u64) (Sh.int .i64)))).T) (RW75 c100 c101)) := by
    refine rawOf_ok (fun g en hg => ?_)
    unfold RW75 at hg
    split at hg <;> simp only [List.mem_cons, List.not_mem_nil, or_false] at hg <;> first | (subst hg; assumption) | (rcases hg with rfl | rfl <;> assumption) | (rcases hg with rfl | rfl | rfl <;> assumption) | (rcases hg with rfl | rfl | rfl | rfl <;> assumption)
  refine ⟨rfl, fun v r h => ?_⟩
  obtain ⟨a0, a1, a2, _⟩ := v
  obtain ⟨N, h1⟩ := hf _ _ _ _ h
  exact ans_c (R := (Sh.tu (Sh.pr (Sh.int .u64) (Sh.int .i64)))) (tab := T75 c100 c101) (raw := (rawOf (RW75 c100 c101))) (LP := W75 c100 c101 N) (fu := fuelC) hT hO rfl rfl (Nat.le_of_ble_eq_true rfl) loopOK_nil ((e75 c100 c101 N _ _ _).trans h1)

def T102 : Nat → Option Ent
  | _ => none
def RW102 : Nat → List REnt
  | _ => []
def W102 (N : Nat) : LoopF (Sh.bool).T := fun no =>
  match no with
  | _ => fun _ _ => none
theorem e102 (N : Nat) (a0 : Int) (a1 : Int) (a2 : Int) : evc (T102) (rawOf (RW102)) (W102 N) (retc k102.res Sh.bool) (modeOf FT) 0 fuelC k102.body (env0 k102 (encL [(Sh.int .i64), (Sh.int .i64), (Sh.int .i64)] (a0, (a1, (a2, ())))), []) (endK (retc k102.res Sh.bool)) = p102 N a0 a1 a2 := by kernel_rfl
theorem ok102 {f : Int → Int → Int → Option Bool} (hf : ∀ a0 a1 a2 r, f a0 a1 a2 = some r → ∃ N, p102 N a0 a1 a2 = some r) : EntOK FT XT 102 (en102 f) := by
  have hT : TabOK FT XT (T102) := by
    intro g en hg
    unfold T102 at hg
    split at hg <;> first | (injection hg with hg; subst hg; assumption) | cases hg
  have hO : RawOK FT XT (rawOf (α := (Sh.bool).T) (RW102)) := by
    refine rawOf_ok (fun g en hg => ?_)
    unfold RW102 at hg
    split at hg <;> simp only [List.mem_cons, List.not_mem_nil, or_false] at hg <;> first | (subst hg; assumption) | (rcases hg with rfl | rfl <;> assumption) | (rcases hg with rfl | rfl | rfl <;> assumption) | (rcases hg with rfl | rfl | rfl | rfl <;> assumption)
  refine ⟨rfl, fun v r h => ?_⟩
  obtain ⟨a0, a1, a2, _⟩ := v
  obtain ⟨N, h1⟩ := hf _ _ _ _ h
  exact ans_c (R := Sh.bool) (tab := T102) (raw := (rawOf (RW102))) (LP := W102 N) (fu := fuelC) hT hO rfl rfl (Nat.le_of_ble_eq_true rfl) loopOK_nil ((e102 N _ _ _).trans h1)

def T117 : Nat → Option Ent
  | _ => none
def RW117 : Nat → List REnt
  | _ => []
def H117_0 : Trim := ⟨0, [], false, [0, 3], [(3, (.ints .u64 []), 1)]⟩
theorem l117_0 : loopN k117 0 = .loop H117_0 (bodyOf (loopN k117 0)) := by kernel_rfl
def P117_0 : Ps := ⟨[(0, (.int .u64)), (2, .u), (3, (.sl 0 1)), (5, .u)], [(.ints false .u64)]⟩
def Q117_0 : Nat → Ps
  | 0 => ⟨[(0, .u), (2, .u), (3, (.sl 0 1)), (5, .u)], [(.ints false .u64)]⟩
  | _ => noPs
def u117_0 (N n : Nat) (v : P117_0.T) (κ : (i : Nat) → (Q117_0 i).T → Option (((Sh.sl (Sh.int .u64))).T)) : Option (((Sh.sl (Sh.int .u64))).T) :=
  L117_0 N (fun (y0 : Nat) (y1 : List Int) => κ 0 (((), ((), (y0, ((), ())))), (y1, ()))) n v.1.1 v.1.2.2.1 v.2.1
def W117_0 (N : Nat) : LoopF (((Sh.sl (Sh.int .u64))).T) := fun no =>
  match no with
  | _ => fun _ _ => none
theorem b117_0 (N n : Nat) (v : P117_0.T) (κ : (i : Nat) → (Q117_0 i).T → Option (((Sh.sl (Sh.int .u64))).T)) :
    evc (T117) (rawOf (RW117)) (W117_0 N) (retc k117.res (Sh.sl (Sh.int .u64))) (modeOf FT) 0 fuelC (bodyOf (loopN k117 0)) (P117_0.st v) (roundK 0 H117_0 P117_0 Q117_0 (u117_0 N n) κ) = u117_0 N (n + 1) v κ := by kernel_rfl
theorem o117_0 (hT : TabOK FT XT (T117)) (hO : RawOK FT XT (rawOf (α := ((Sh.sl (Sh.int .u64))).T) (RW117))) (N : Nat) {s : St} {κ : Ex → St → Option (((Sh.sl (Sh.int .u64))).T)} {a : ((Sh.sl (Sh.int .u64))).T} (h : lpOf 0 H117_0 P117_0 Q117_0 (u117_0 N N) s κ = some a) : Out FT XT 0 (retc k117.res (Sh.sl (Sh.int .u64))) (loopN k117 0) s κ a := by
  rw [l117_0]
  exact loop_out (LP := W117_0 N) (fu := fuelC) hT hO (fun _ _ => rfl) (b117_0 N) loopOK_nil N h
def W117 (N : Nat) : LoopF (((Sh.sl (Sh.int .u64))).T) := fun no =>
  match no with
  | 0 => lpOf 0 H117_0 P117_0 Q117_0 (u117_0 N N)
  | _ => fun _ _ => none
theorem e117 (N : Nat) (a0 : Int) : evc (T117) (rawOf (RW117)) (W117 N) (retc k117.res (Sh.sl (Sh.int .u64))) (modeOf FT) 0 fuelC k117.body (env0 k117 (encL [(Sh.int .u64)] (a0, ())), []) (endK (retc k117.res (Sh.sl (Sh.int .u64)))) = p117 N a0 := by kernel_rfl
theorem ok117 {f : Int → Option (List Int)} (hf : ∀ a0 r, f a0 = some r → ∃ N, p117 N a0 = some r) : EntOK FT XT 117 (en117 f) := by
  have hT : TabOK FT XT (T117) := by
    intro g en hg
    unfold T117 at hg
    split at hg <;> first | (injection hg with hg; subst hg; assumption) | cases hg
  have hO : RawOK FT XT (rawOf (α := ((Sh.sl (Sh.int .u64))).T) (RW117)) := by
    refine rawOf_ok (fun g en hg => ?_)
    unfold RW117 at hg
    split at hg <;> simp only [List.mem_cons, List.not_mem_nil, or_false] at hg <;> first | (subst hg; assumption) | (rcases hg with rfl | rfl <;> assumption) | (rcases hg with rfl | rfl | rfl <;> assumption) | (rcases hg with rfl | rfl | rfl | rfl <;> assumption)
  refine ⟨rfl, fun v r h => ?_⟩
  obtain ⟨a0, _⟩ := v
  obtain ⟨N, h1⟩ := hf _ _ h
  exact ans_c (R := (Sh.sl (Sh.int .u64))) (tab := T117) (raw := (rawOf (RW117))) (LP := W117 N) (fu := fuelC) hT hO rfl rfl (Nat.le_of_ble_eq_true rfl) (loopOK_cons l117_0 (fun s κ a h => o117_0 hT hO N h) loopOK_nil) ((e117 N _).trans h1)

def T118 : Nat → Option Ent
  | _ => none
def RW118 : Nat → List REnt
  | _ => []
def H118_1 : Trim := ⟨1, [], false, [0, 1, 5, 6, 7, 8], []⟩
theorem l118_1 : loopN k118 1 = .loop H118_1 (bodyOf (loopN k118 1)) := by kernel_rfl
def P118_1 : Ps := ⟨[(0, (.tb (Sh.int .u64))), (1, (.tb (Sh.int .u64))), (4, .u), (5, (.slc 0 1)), (6, (.int .i64)), (7, (.int .u64)), (8, (.int .i64)), (9, .u), (20, .u), (26, .u)], [(.ints false .u64)]⟩
def Q118_1 : Nat → Ps
  | 2 => ⟨[(0, (.tb (Sh.int .u64))), (1, (.tb (Sh.int .u64))), (4, .u), (5, (.slc 0 1)), (6, (.int .i64)), (7, (.int .u64)), (8, .u), (9, .u), (20, .u), (26, .u)], [(.ints false .u64)]⟩
  | _ => noPs
def u118_1 (N n : Nat) (v : P118_1.T) (κ : (i : Nat) → (Q118_1 i).T → Option (((Sh.sl (Sh.int .u64))).T)) : Option (((Sh.sl (Sh.int .u64))).T) :=
  L118_1 N (fun (y0 : List Int) (y1 : List Int) (y2 : Nat) (y3 : Nat) (y4 : Int) (y5 : Int) (y6 : List Int) => κ 2 ((y0, (y1, ((), ((y2, y3), (y4, (y5, ((), ((), ((), ((), ())))))))))), (y6, ()))) n v.1.1 v.1.2.1 v.1.2.2.2.1.1 v.1.2.2.2.1.2 v.1.2.2.2.2.1 v.1.2.2.2.2.2.1 v.1.2.2.2.2.2.2.1 v.2.1
def W118_1 (N : Nat) : LoopF (((Sh.sl (Sh.int .u64))).T) := fun no =>
  match no with
  | _ => fun _ _ => none
theorem b118_1 (N n : Nat) (v : P118_1.T) (κ : (i : Nat) → (Q118_1 i).T → Option (((Sh.sl (Sh.int .u64))).T)) :
    evc (T118) (rawOf (RW118)) (W118_1 N) (retc k118.res (Sh.sl (Sh.int .u64))) (modeOf FT) 0 fuelC (bodyOf (loopN k118 1)) (P118_1.st v) (roundK 0 H118_1 P118_1 Q118_1 (u118_1 N n) κ) = u118_1 N (n + 1) v κ := by kernel_rfl
theorem o118_1 (hT : TabOK FT XT (T118)) (hO : RawOK FT XT (rawOf (α := ((Sh.sl (Sh.int .u64))).T) (RW118))) (N : Nat) {s : St} {κ : Ex → St → Option (((Sh.sl (Sh.int .u64))).T)} {a : ((Sh.sl (Sh.int .u64))).T} (h : lpOf 0 H118_1 P118_1 Q118_1 (u118_1 N N) s κ = some a) : Out FT XT 0 (retc k118.res (Sh.sl (Sh.int .u64))) (loopN k118 1) s κ a := by
  rw [l118_1]
  exact loop_out (LP := W118_1 N) (fu := fuelC) hT hO (fun _ _ => rfl) (b118_1 N) loopOK_nil N h
def H118_0 : Trim := ⟨0, [], false, [0, 1, 5, 6], []⟩
theorem l118_0 : loopN k118 0 = .loop H118_0 (bodyOf (loopN k118 0)) := by kernel_rfl
def P118_0 : Ps := ⟨[(0, (.tb (Sh.int .u64))), (1, (.tb (Sh.int .u64))), (4, .u), (5, (.slc 0 1)), (6, (.int .i64)), (7, .u), (8, .u), (9, .u), (20, .u), (26, .u)], [(.ints false .u64)]⟩
def Q118_0 : Nat → Ps
  | 0 => ⟨[(0, .u), (1, .u), (4, .u), (5, (.slc 0 1)), (6, .u), (7, .u), (8, .u), (9, .u), (20, .u), (26, .u)], [(.ints false .u64)]⟩
  | _ => noPs
def u118_0 (N n : Nat) (v : P118_0.T) (κ : (i : Nat) → (Q118_0 i).T → Option (((Sh.sl (Sh.int .u64))).T)) : Option (((Sh.sl (Sh.int .u64))).T) :=
  L118_0 N (fun (y0 : Nat) (y1 : Nat) (y2 : List Int) => κ 0 (((), ((), ((), ((y0, y1), ((), ((), ((), ((), ((), ((), ())))))))))), (y2, ()))) n v.1.1 v.1.2.1 v.1.2.2.2.1.1 v.1.2.2.2.1.2 v.1.2.2.2.2.1 v.2.1
def W118_0 (N : Nat) : LoopF (((Sh.sl (Sh.int .u64))).T) := fun no =>
  match no with
  | 1 => lpOf 0 H118_1 P118_1 Q118_1 (u118_1 N N)
  | _ => fun _ _ => none
theorem b118_0 (N n : Nat) (v : P118_0.T) (κ : (i : Nat) → (Q118_0 i).T → Option (((Sh.sl (Sh.int .u64))).T)) :
    evc (T118) (rawOf (RW118)) (W118_0 N) (retc k118.res (Sh.sl (Sh.int .u64))) (modeOf FT) 0 fuelC (bodyOf (loopN k118 0)) (P118_0.st v) (roundK 0 H118_0 P118_0 Q118_0 (u118_0 N n) κ) = u118_0 N (n + 1) v κ := by kernel_rfl
theorem o118_0 (hT : TabOK FT XT (T118)) (hO : RawOK FT XT (rawOf (α := ((Sh.sl (Sh.int .u64))).T) (RW118))) (N : Nat) {s : St} {κ : Ex → St → Option (((Sh.sl (Sh.int .u64))).T)} {a : ((Sh.sl (Sh.int .u64))).T} (h : lpOf 0 H118_0 P118_0 Q118_0 (u118_0 N N) s κ = some a) : Out FT XT 0 (retc k118.res (Sh.sl (Sh.int .u64))) (loopN k118 0) s κ a := by
  rw [l118_0]
  exact loop_out (LP := W118_0 N) (fu := fuelC) hT hO (fun _ _ => rfl) (b118_0 N) (loopOK_cons l118_1 (fun s κ a h => o118_1 hT hO N h) loopOK_nil) N h
def W118 (N : Nat) : LoopF (((Sh.sl (Sh.int .u64))).T) := fun no =>
  match no with
  | 0 => lpOf 0 H118_0 P118_0 Q118_0 (u118_0 N N)
  | _ => fun _ _ => none
theorem e118 (N : Nat) (a0 : List Int) (a1 : List Int) : evc (T118) (rawOf (RW118)) (W118 N) (retc k118.res (Sh.sl (Sh.int .u64))) (modeOf FT) 0 fuelC k118.body (env0 k118 (encL [(Sh.sl (Sh.int .u64)), (Sh.sl (Sh.int .u64))] (a0, (a1, ()))), []) (endK (retc k118.res (Sh.sl (Sh.int .u64)))) = p118 N a0 a1 := by kernel_rfl
theorem ok118 {f : List Int → List Int → Option (List Int)} (hf : ∀ a0 a1 r, f a0 a1 = some r → ∃ N, p118 N a0 a1 = some r) : EntOK FT XT 118 (en118 f) := by
  have hT : TabOK FT XT (T118) := by
    intro g en hg
    unfold T118 at hg
    split at hg <;> first | (injection hg with hg; subst hg; assumption) | cases hg
  have hO : RawOK FT XT (rawOf (α := ((Sh.sl (Sh.int .u64))).T) (RW118)) := by
    refine rawOf_ok (fun g en hg => ?_)
    unfold RW118 at hg
    split at hg <;> simp only [List.mem_cons, List.not_mem_nil, or_false] at hg <;> first | (subst hg; assumption) | (rcases hg with rfl | rfl <;> assumption) | (rcases hg with rfl | rfl | rfl <;> assumption) | (rcases hg with rfl | rfl | rfl | rfl <;> assumption)
  refine ⟨rfl, fun v r h => ?_⟩
  obtain ⟨a0, a1, _⟩ := v
  obtain ⟨N, h1⟩ := hf _ _ _ h
  exact ans_c (R := (Sh.sl (Sh.int .u64))) (tab := T118) (raw := (rawOf (RW118))) (LP := W118 N) (fu := fuelC) hT hO rfl rfl (Nat.le_of_ble_eq_true rfl) (loopOK_cons l118_0 (fun s κ a h => o118_0 hT hO N h) loopOK_nil) ((e118 N _ _).trans h1)

def T103 (c117 : Int → Option (List Int)) (c118 : List Int → List Int → Option (List Int)) : Nat → Option Ent
  | 117 => some (en117 c117)
  | 118 => some (en118 c118)
  | _ => none
def RW103 (c117 : Int → Option (List Int)) (c118 : List Int → List Int → Option (List Int)) : Nat → List REnt
  | _ => []
def H103_0 : Trim := ⟨0, [], false, [1, 5, 6], []⟩
theorem l103_0 : loopN k103 0 = .loop H103_0 (bodyOf (loopN k103 0)) := by kernel_rfl
def P103_0 : Ps := ⟨[(0, .u), (1, (.int .i64)), (4, .u), (5, (.tb (Sh.int .u64))), (6, (.int .i64)), (11, .u)], []⟩
def Q103_0 : Nat → Ps
  | 0 => ⟨[(0, .u), (1, .u), (4, .u), (5, (.tb (Sh.int .u64))), (6, .u), (11, .u)], []⟩
  | _ => noPs
def u103_0 (c117 : Int → Option (List Int)) (c118 : List Int → List Int → Option (List Int)) (N n : Nat) (v : P103_0.T) (κ : (i : Nat) → (Q103_0 i).T → Option (((Sh.sl (Sh.int .u64))).T)) : Option (((Sh.sl (Sh.int .u64))).T) :=
  L103_0 c117 c118 N (fun (y0 : List Int) => κ 0 (((), ((), ((), (y0, ((), ((), ())))))), ())) n v.1.2.1 v.1.2.2.2.1 v.1.2.2.2.2.1
def W103_0 (c117 : Int → Option (List Int)) (c118 : List Int → List Int → Option (List Int)) (N : Nat) : LoopF (((Sh.sl (Sh.int .u64))).T) := fun no =>
  match no with
  | _ => fun _ _ => none
theorem b103_0 (c117 : Int → Option (List Int)) (c118 : List Int → List Int → Option (List Int)) (N n : Nat) (v : P103_0.T) (κ : (i : Nat) → (Q103_0 i).T → Option (((Sh.sl (Sh.int .u64))).T)) :
    evc (T103 c117 c118) (rawOf (RW103 c117 c118)) (W103_0 c117 c118 N) (retc k103.res (Sh.sl (Sh.int .u64))) (modeOf FT) 0 fuelC (bodyOf (loopN k103 0)) (P103_0.st v) (roundK 0 H103_0 P103_0 Q103_0 (u103_0 c117 c118 N n) κ) = u103_0 c117 c118 N (n + 1) v κ := by kernel_rfl
theorem o103_0 (c117 : Int → Option (List Int)) (c118 : List Int → List Int → Option (List Int)) (hT : TabOK FT XT (T103 c117 c118)) (hO : RawOK FT XT (rawOf (α := ((Sh.sl (Sh.int .u64))).T) (RW103 c117 c118))) (N : Nat) {s : St} {κ : Ex → St → Option (((Sh.sl (Sh.int .u64))).T)} {a : ((Sh.sl (Sh.int .u64))).T} (h : lpOf 0 H103_0 P103_0 Q103_0 (u103_0 c117 c118 N N) s κ = some a) : Out FT XT 0 (retc k103.res (Sh.sl (Sh.int .u64))) (loopN k103 0) s κ a := by
  rw [l103_0]
  exact loop_out (LP := W103_0 c117 c118 N) (fu := fuelC) hT hO (fun _ _ => rfl) (b103_0 c117 c118 N) loopOK_nil N h
def W103 (c117 : Int → Option (List Int)) (c118 : List Int → List Int → Option (List Int)) (N : Nat) : LoopF (((Sh.sl (Sh.int .u64))).T) := fun no =>
  match no with
  | 0 => lpOf 0 H103_0 P103_0 Q103_0 (u103_0 c117 c118 N N)
  | _ => fun _ _ => none
theorem e103 (c117 : Int → Option (List Int)) (c118 : List Int → List Int → Option (List Int)) (N : Nat) (a0 : Int) (a1 : Int) : evc (T103 c117 c118) (rawOf (RW103 c117 c118)) (W103 c117 c118 N) (retc k103.res (Sh.sl (Sh.int .u64))) (modeOf FT) 0 fuelC k103.body (env0 k103 (encL [(Sh.int .u64), (Sh.int .i64)] (a0, (a1, ()))), []) (endK (retc k103.res (Sh.sl (Sh.int .u64)))) = p103 c117 c118 N a0 a1 := by kernel_rfl
theorem ok103 (c117 : Int → Option (List Int)) (c118 : List Int → List Int → Option (List Int)) (h117 : EntOK FT XT 117 (en117 c117)) (h118 : EntOK FT XT 118 (en118 c118)) {f : Int → Int → Option (List Int)} (hf : ∀ a0 a1 r, f a0 a1 = some r → ∃ N, p103 c117 c118 N a0 a1 = some r) : EntOK FT XT 103 (en103 f) := by
  have hT : TabOK FT XT (T103 c117 c118) := by
    intro g en hg
    unfold T103 at hg
    split at hg <;> first | (injection hg with hg; subst hg; assumption) | cases hg
  have hO : RawOK FT XT (rawOf (α := ((Sh.sl (Sh.int .u64))).T) (RW103 c117 c118)) := by
    refine rawOf_ok (fun g en hg => ?_)
    unfold RW103 at hg
    split at hg <;> simp only [List.mem_cons, List.not_mem_nil, or_false] at hg <;> first | (subst hg; assumption) | (rcases hg with rfl | rfl <;> assumption) | (rcases hg with rfl | rfl | rfl <;> assumption) | (rcases hg with rfl | rfl | rfl | rfl <;> assumption)
  refine ⟨rfl, fun v r h => ?_⟩
  obtain ⟨a0, a1, _⟩ := v
  obtain ⟨N, h1⟩ := hf _ _ _ h
  exact ans_c (R := (Sh.sl (Sh.int .u64))) (tab := T103 c117 c118) (raw := (rawOf (RW103 c117 c118))) (LP := W103 c117 c118 N) (fu := fuelC) hT hO rfl rfl (Nat.le_of_ble_eq_true rfl) (loopOK_cons l103_0 (fun s κ a h => o103_0 c117 c118 hT hO N h) loopOK_nil) ((e103 c117 c118 N _ _).trans h1)

def T105 (c117 : Int → Option (List Int)) (c118 : List Int → List Int → Option (List Int)) : Nat → Option Ent
  | 117 => some (en117 c117)
  | 118 => some (en118 c118)
  | _ => none
def RW105 (c117 : Int → Option (List Int)) (c118 : List Int → List Int → Option (List Int)) : Nat → List REnt
  | _ => []
def H105_0 : Trim := ⟨0, [(5, (Sh.sl (Sh.int .u64)))], false, [0, 1, 5, 6], []⟩
theorem l105_0 : loopN k105 0 = .loop H105_0 (bodyOf (loopN k105 0)) := by kernel_rfl
def P105_0 : Ps := ⟨[(0, (.int .u64)), (1, (.int .i64)), (4, .u), (5, (.tb (Sh.int .u64))), (6, (.int .i64)), (10, .u)], []⟩
def Q105_0 : Nat → Ps
  | 0 => ⟨[(0, .u), (1, .u), (4, .u), (5, (.tb (Sh.int .u64))), (6, .u), (10, .u)], []⟩
  | _ => noPs
def u105_0 (c117 : Int → Option (List Int)) (c118 : List Int → List Int → Option (List Int)) (N n : Nat) (v : P105_0.T) (κ : (i : Nat) → (Q105_0 i).T → Option (((Sh.sl (Sh.int .u64))).T)) : Option (((Sh.sl (Sh.int .u64))).T) :=
  L105_0 c117 c118 N (fun (y0 : List Int) => κ 0 (((), ((), ((), (y0, ((), ((), ())))))), ())) n v.1.1 v.1.2.1 v.1.2.2.2.1 v.1.2.2.2.2.1
def W105_0 (c117 : Int → Option (List Int)) (c118 : List Int → List Int → Option (List Int)) (N : Nat) : LoopF (((Sh.sl (Sh.int .u64))).T) := fun no =>
  match no with
  | _ => fun _ _ => none
theorem b105_0 (c117 : Int → Option (List Int)) (c118 : List Int → List Int → Option (List Int)) (N n : Nat) (v : P105_0.T) (κ : (i : Nat) → (Q105_0 i).T → Option (((Sh.sl (Sh.int .u64))).T)) :
    evc (T105 c117 c118) (rawOf (RW105 c117 c118)) (W105_0 c117 c118 N) (retc k105.res (Sh.sl (Sh.int .u64))) (modeOf FT) 0 fuelC (bodyOf (loopN k105 0)) (P105_0.st v) (roundK 0 H105_0 P105_0 Q105_0 (u105_0 c117 c118 N n) κ) = u105_0 c117 c118 N (n + 1) v κ := by kernel_rfl
theorem o105_0 (c117 : Int → Option (List Int)) (c118 : List Int → List Int → Option (List Int)) (hT : TabOK FT XT (T105 c117 c118)) (hO : RawOK FT XT (rawOf (α := ((Sh.sl (Sh.int .u64))).T) (RW105 c117 c118))) (N : Nat) {s : St} {κ : Ex → St → Option (((Sh.sl (Sh.int .u64))).T)} {a : ((Sh.sl (Sh.int .u64))).T} (h : lpOf 0 H105_0 P105_0 Q105_0 (u105_0 c117 c118 N N) s κ = some a) : Out FT XT 0 (retc k105.res (Sh.sl (Sh.int .u64))) (loopN k105 0) s κ a := by
  rw [l105_0]
  exact loop_out (LP := W105_0 c117 c118 N) (fu := fuelC) hT hO (fun _ _ => rfl) (b105_0 c117 c118 N) loopOK_nil N h
def W105 (c117 : Int → Option (List Int)) (c118 : List Int → List Int → Option (List Int)) (N : Nat) : LoopF (((Sh.sl (Sh.int .u64))).T) := fun no =>
  match no with
  | 0 => lpOf 0 H105_0 P105_0 Q105_0 (u105_0 c117 c118 N N)
  | _ => fun _ _ => none
theorem e105 (c117 : Int → Option (List Int)) (c118 : List Int → List Int → Option (List Int)) (N : Nat) (a0 : Int) (a1 : Int) : evc (T105 c117 c118) (rawOf (RW105 c117 c118)) (W105 c117 c118 N) (retc k105.res (Sh.sl (Sh.int .u64))) (modeOf FT) 0 fuelC k105.body (env0 k105 (encL [(Sh.int .u64), (Sh.int .i64)] (a0, (a1, ()))), []) (endK (retc k105.res (Sh.sl (Sh.int .u64)))) = p105 c117 c118 N a0 a1 := by kernel_rfl
theorem ok105 (c117 : Int → Option (List Int)) (c118 : List Int → List Int → Option (List Int)) (h117 : EntOK FT XT 117 (en117 c117)) (h118 : EntOK FT XT 118 (en118 c118)) {f : Int → Int → Option (List Int)} (hf : ∀ a0 a1 r, f a0 a1 = some r → ∃ N, p105 c117 c118 N a0 a1 = some r) : EntOK FT XT 105 (en105 f) := by
  have hT : TabOK FT XT (T105 c117 c118) := by
    intro g en hg
    unfold T105 at hg
    split at hg <;> first | (injection hg with hg; subst hg; assumption) | cases hg
  have hO : RawOK FT XT (rawOf (α := ((Sh.sl (Sh.int .u64))).T) (RW105 c117 c118)) := by
    refine rawOf_ok (fun g en hg => ?_)
    unfold RW105 at hg
    split at hg <;> simp only [List.mem_cons, List.not_mem_nil, or_false] at hg <;> first | (subst hg; assumption) | (rcases hg with rfl | rfl <;> assumption) | (rcases hg with rfl | rfl | rfl <;> assumption) | (rcases hg with rfl | rfl | rfl | rfl <;> assumption)
  refine ⟨rfl, fun v r h => ?_⟩
  obtain ⟨a0, a1, _⟩ := v
  obtain ⟨N, h1⟩ := hf _ _ _ h
  exact ans_c (R := (Sh.sl (Sh.int .u64))) (tab := T105 c117 c118) (raw := (rawOf (RW105 c117 c118))) (LP := W105 c117 c118 N) (fu := fuelC) hT hO rfl rfl (Nat.le_of_ble_eq_true rfl) (loopOK_cons l105_0 (fun s κ a h => o105_0 c117 c118 hT hO N h) loopOK_nil) ((e105 c117 c118 N _ _).trans h1)

def T119 : Nat → Option Ent
  | _ => none
def RW119 : Nat → List REnt
  | _ => []
def W119 (N : Nat) : LoopF (((Sh.int .u64)).T) := fun no =>
  match no with
  | _ => fun _ _ => none
theorem e119 (N : Nat) (a0 : List Int) (a1 : Int) : evc (T119) (rawOf (RW119)) (W119 N) (retc k119.res (Sh.int .u64)) (modeOf FT) 0 fuelC k119.body (env0 k119 (encL [(Sh.sl (Sh.int .u64)), (Sh.int .i64)] (a0, (a1, ()))), []) (endK (retc k119.res (Sh.int .u64))) = p119 N a0 a1 := by kernel_rfl
theorem ok119 {f : List Int → Int → Option Int} (hf : ∀ a0 a1 r, f a0 a1 = some r → ∃ N, p119 N a0 a1 = some r) : EntOK FT XT 119 (en119 f) := by
  have hT : TabOK FT XT (T119) := by
    intro g en hg
    unfold T119 at hg
    split at hg <;> first | (injection hg with hg; subst hg; assumption) | cases hg
  have hO : RawOK FT XT (rawOf (α := ((Sh.int .u64)).T) (RW119)) := by
    refine rawOf_ok (fun g en hg => ?_)
    unfold RW119 at hg
    split at hg <;> simp only [List.mem_cons, List.not_mem_nil, or_false] at hg <;> first | (subst hg; assumption) | (rcases hg with rfl | rfl <;> assumption) | (rcases hg with rfl | rfl | rfl <;> assumption) | (rcases hg with rfl | rfl | rfl | rfl <;> assumption)
  refine ⟨rfl, fun v r h => ?_⟩
  obtain ⟨a0, a1, _⟩ := v
  obtain ⟨N, h1⟩ := hf _ _ _ h
  exact ans_c (R := (Sh.int .u64)) (tab := T119) (raw := (rawOf (RW119))) (LP := W119 N) (fu := fuelC) hT hO rfl rfl (Nat.le_of_ble_eq_true rfl) loopOK_nil ((e119 N _ _).trans h1)

def T104 (c119 : List Int → Int → Option Int) : Nat → Option Ent
  | 119 => some (en119 c119)
  | _ => none
def RW104 (c119 : List Int → Int → Option Int) : Nat → List REnt
  | _ => []
def H104_0 : Trim := ⟨0, [], false, [0, 1, 5], []⟩
theorem l104_0 : loopN k104 0 = .loop H104_0 (bodyOf (loopN k104 0)) := by kernel_rfl
def P104_0 : Ps := ⟨[(0, (.tb (Sh.int .u64))), (1, (.tb (Sh.int .u64))), (4, .u), (5, (.int .i64)), (13, .u), (22, .u)], []⟩
def Q104_0 : Nat → Ps
  | 0 => ⟨[(0, .u), (1, .u), (4, .u), (5, .u), (13, .u), (22, .u)], []⟩
  | _ => noPs
def u104_0 (c119 : List Int → Int → Option Int) (N n : Nat) (v : P104_0.T) (κ : (i : Nat) → (Q104_0 i).T → Option (Sh.bool).T) : Option (Sh.bool).T :=
  L104_0 c119 N (κ 0 (((), ((), ((), ((), ((), ((), ())))))), ())) n v.1.1 v.1.2.1 v.1.2.2.2.1
def W104_0 (c119 : List Int → Int → Option Int) (N : Nat) : LoopF (Sh.bool).T := fun no =>
  match no with
  | _ => fun _ _ => none
theorem b104_0 (c119 : List Int → Int → Option Int) (N n : Nat) (v : P104_0.T) (κ : (i : Nat) → (Q104_0 i).T → Option (Sh.bool).T) :
    evc (T104 c119) (rawOf (RW104 c119)) (W104_0 c119 N) (retc k104.res Sh.bool) (modeOf FT) 0 fuelC (bodyOf (loopN k104 0)) (P104_0.st v) (roundK 0 H104_0 P104_0 Q104_0 (u104_0 c119 N n) κ) = u104_0 c119 N (n + 1) v κ := by kernel_rfl
theorem o104_0 (c119 : List Int → Int → Option Int) (hT : TabOK FT XT (T104 c119)) (hO : RawOK FT XT (rawOf (α := (Sh.bool).T) (RW104 c119))) (N : Nat) {s : St} {κ : Ex → St → Option (Sh.bool).T} {a : (Sh.bool).T} (h : lpOf 0 H104_0 P104_0 Q104_0 (u104_0 c119 N N) s κ = some a) : Out FT XT 0 (retc k104.res Sh.bool) (loopN k104 0) s κ a := by
  rw [l104_0]
  exact loop_out (LP := W104_0 c119 N) (fu := fuelC) hT hO (fun _ _ => rfl) (b104_0 c119 N) loopOK_nil N h
def W104 (c119 : List Int → Int → Option Int) (N : Nat) : LoopF (Sh.bool).T := fun no =>
  match no with
  | 0 => lpOf 0 H104_0 P104_0 Q104_0 (u104_0 c119 N N)
  | _ => fun _ _ => none
theorem e104 (c119 : List Int → Int → Option Int) (N : Nat) (a0 : List Int) (a1 : List Int) : evc (T104 c119) (rawOf (RW104 c119)) (W104 c119 N) (retc k104.res Sh.bool) (modeOf FT) 0 fuelC k104.body (env0 k104 (encL [(Sh.sl (Sh.int .u64)), (Sh.sl (Sh.int .u64))] (a0, (a1, ()))), []) (endK (retc k104.res Sh.bool)) = p104 c119 N a0 a1 := by kernel_rfl
theorem ok104 (c119 : List Int → Int → Option Int) (h119 : EntOK FT XT 119 (en119 c119)) {f : List Int → List Int → Option Bool} (hf : ∀ a0 a1 r, f a0 a1 = some r → ∃ N, p104 c119 N a0 a1 = some r) : EntOK FT XT 104 (en104 f) := by
  have hT : TabOK FT XT (T104 c119) := by
    intro g en hg
    unfold T104 at hg
    split at hg <;> first | (injection hg with hg; subst hg; assumption) | cases hg
  have hO : RawOK FT XT (rawOf (α := (Sh.bool).T) (RW104 c119)) := by
    refine rawOf_ok (fun g en hg => ?_)
    unfold RW104 at hg
    split at hg <;> simp only [List.mem_cons, List.not_mem_nil, or_false] at hg <;> first | (subst hg; assumption) | (rcases hg with rfl | rfl <;> assumption) | (rcases hg with rfl | rfl | rfl <;> assumption) | (rcases hg with rfl | rfl | rfl | rfl <;> assumption)
  refine ⟨rfl, fun v r h => ?_⟩
  obtain ⟨a0, a1, _⟩ := v
  obtain ⟨N, h1⟩ := hf _ _ _ h
  exact ans_c (R := Sh.bool) (tab := T104 c119) (raw := (rawOf (RW104 c119))) (LP := W104 c119 N) (fu := fuelC) hT hO rfl rfl (Nat.le_of_ble_eq_true rfl) (loopOK_cons l104_0 (fun s κ a h => o104_0 c119 hT hO N h) loopOK_nil) ((e104 c119 N _ _).trans h1)

def T76 (c102 : Int → Int → Int → Option Bool) (c103 : Int → Int → Option (List Int)) (c105 : Int → Int → Option (List Int)) (c104 : List Int → List Int → Option Bool) : Nat → Option Ent
  | 102 => some (en102 c102)
  | 103 => some (en103 c103)
  | 105 => some (en105 c105)
  | 104 => some (en104 c104)
  | _ => none
def RW76 (c102 : Int → Int → Int → Option Bool) (c103 : Int → Int → Option (List Int)) (c105 : Int → Int → Option (List Int)) (c104 : List Int → List Int → Option Bool) : Nat → List REnt
  | _ => []
def H76_0 : Trim := ⟨0, [], false, [1, 8, 9, 10], []⟩
theorem l76_0 : loopN k76 0 = .loop H76_0 (bodyOf (loopN k76 0)) := by kernel_rfl
def P76_0 : Ps := ⟨[(0, .u), (1, (.int .i64)), (2, .u), (6, .u), (7, .u), (8, (.tb (Sh.int .u64))), (9, (.int .u64)), (10, (.int .u64)), (15, .u), (23, .u), (31, .u)], []⟩
def Q76_0 : Nat → Ps
  | 0 => ⟨[(0, .u), (1, .u), (2, .u), (6, .u), (7, .u), (8, .u), (9, (.int .u64)), (10, .u), (15, .u), (23, .u), (31, .u)], []⟩
  | _ => noPs
def u76_0 (c102 : Int → Int → Int → Option Bool) (c103 : Int → Int → Option (List Int)) (c105 : Int → Int → Option (List Int)) (c104 : List Int → List Int → Option Bool) (N n : Nat) (v : P76_0.T) (κ : (i : Nat) → (Q76_0 i).T → Option (((Sh.tu (Sh.pr (Sh.int .u64) (Sh.int .i64)))).T)) : Option (((Sh.tu (Sh.pr (Sh.int .u64) (Sh.int .i64)))).T) :=
  L76_0 c102 c103 c105 c104 N (fun (y0 : Int) => κ 0 (((), ((), ((), ((), ((), ((), (y0, ((), ((), ((), ((), ()))))))))))), ())) n v.1.2.1 v.1.2.2.2.2.2.1 v.1.2.2.2.2.2.2.1 v.1.2.2.2.2.2.2.2.1
def W76_0 (c102 : Int → Int → Int → Option Bool) (c103 : Int → Int → Option (List Int)) (c105 : Int → Int → Option (List Int)) (c104 : List Int → List Int → Option Bool) (N : Nat) : LoopF (((Sh.tu (Sh.pr (Sh.int .u64) (Sh.int .i64)))).T) := fun no =>
  match no with
  | _ => fun _ _ => none
theorem b76_0 (c102 : Int → Int → Int → Option Bool) (c103 : Int → Int → Option (List Int)) (c105 : Int → Int → Option (List Int)) (c104 : List Int → List Int → Option Bool) (N n : Nat) (v : P76_0.T) (κ : (i : Nat) → (Q76_0 i).T → Option (((Sh.tu (Sh.pr (Sh.int .u64) (Sh.int .i64)))).T)) :
    evc (T76 c102 c103 c105 c104) (rawOf (RW76 c102 c103 c105 c104)) (W76_0 c102 c103 c105 c104 N) (retc k76.res (Sh.tu (Sh.pr (Sh.int .u64) (Sh.int .i64)))) (modeOf FT) 0 fuelC (bodyOf (loopN k76 0)) (P76_0.st v) (roundK 0 H76_0 P76_0 Q76_0 (u76_0 c102 c103 c105 c104 N n) κ) = u76_0 c102 c103 c105 c104 N (n + 1) v κ := by kernel_rfl
theorem o76_0 (c102 : Int → Int → Int → Option Bool) (c103 : Int → Int → Option (List Int)) (c105 : Int → Int → Option (List Int)) (c104 : List Int → List Int → Option Bool) (hT : TabOK FT XT (T76 c102 c103 c105 c104)) (hO : RawOK FT XT (rawOf (α := ((Sh.tu (Sh.pr (Sh.int .u64) (Sh.int .i64)))).T) (RW76 c102 c103 c105 c104))) (N : Nat) {s : St} {κ : Ex → St → Option (((Sh.tu (Sh.pr (Sh.int .u64) (Sh.int .i64)))).T)} {a : ((Sh.tu (Sh.pr (Sh.int .u64) (Sh.int .i64)))).T} (h : lpOf 0 H76_0 P76_0 Q76_0 (u76_0 c102 c103 c105 c104 N N) s κ = some a) : Out FT XT 0 (retc k76.res (Sh.tu (Sh.pr (Sh.int .u64) (Sh.int .i64)))) (loopN k76 0) s κ a := by
  rw [l76_0]
  exact loop_out (LP := W76_0 c102 c103 c105 c104 N) (fu := fuelC) hT hO (fun _ _ => rfl) (b76_0 c102 c103 c105 c104 N) loopOK_nil N h
def W76 (c102 : Int → Int → Int → Option Bool) (c103 : Int → Int → Option (List Int)) (c105 : Int → Int → Option (List Int)) (c104 : List Int → List Int → Option Bool) (N : Nat) : LoopF (((Sh.tu (Sh.pr (Sh.int .u64) (Sh.int .i64)))).T) := fun no =>
  match no with
  | 0 => lpOf 0 H76_0 P76_0 Q76_0 (u76_0 c102 c103 c105 c104 N N)
  | _ => fun _ _ => none
theorem e76 (c102 : Int → Int → Int → Option Bool) (c103 : Int → Int → Option (List Int)) (c105 : Int → Int → Option (List Int)) (c104 : List Int → List Int → Option Bool) (N : Nat) (a0 : Int) (a1 : Int) (a2 : Int) : evc (T76 c102 c103 c105 c104) (rawOf (RW76 c102 c103 c105 c104)) (W76 c102 c103 c105 c104 N) (retc k76.res (Sh.tu (Sh.pr (Sh.int .u64) (Sh.int .i64)))) (modeOf FT) 0 fuelC k76.body (env0 k76 (encL [(Sh.int .i64), (Sh.int .i64), (Sh.int .i64)] (a0, (a1, (a2, ())))), []) (endK (retc k76.res (Sh.tu (Sh.pr (Sh.int .u64) (Sh.int .i64))))) = p76 c102 c103 c105 c104 N a0 a1 a2 := by kernel_rfl
theorem ok76 (c102 : Int → Int → Int → Option Bool) (c103 : Int → Int → Option (List Int)) (c105 : Int → Int → Option (List Int)) (c104 : List Int → List Int → Option Bool) (h102 : EntOK FT XT 102 (en102 c102)) (h103 : EntOK FT XT 103 (en103 c103)) (h105 : EntOK FT XT 105 (en105 c105)) (h104 : EntOK FT XT 104 (en104 c104)) {f : Int → Int → Int → Option (Int × Int)} (hf : ∀ a0 a1 a2 r, f a0 a1 a2 = some r → ∃ N, p76 c102 c103 c105 c104 N a0 a1 a2 = some r) : EntOK FT XT 76 (en76 f) := by
  have hT : TabOK FT XT (T76 c102 c103 c105 c104) := by
    intro g en hg
    unfold T76 at hg
    split at hg <;> first | (injection hg with hg; subst hg; assumption) | cases hg
  have hO : RawOK FT XT (rawOf (α := ((Sh.tu (Sh.pr (Sh.int .u64) (Sh.int .i64)))).T) (RW76 c102 c103 c105 c104)) := by
    refine rawOf_ok (fun g en hg => ?_)
    unfold RW76 at hg
    split at hg <;> simp only [List.mem_cons, List.not_mem_nil, or_false] at hg <;> first | (subst hg; assumption) | (rcases hg with rfl | rfl <;> assumption) | (rcases hg with rfl | rfl | rfl <;> assumption) | (rcases hg with rfl | rfl | rfl | rfl <;> assumption)
  refine ⟨rfl, fun v r h => ?_⟩
  obtain ⟨a0, a1, a2, _⟩ := v
  obtain ⟨N, h1⟩ := hf _ _ _ _ h
  exact ans_c (R := (Sh.tu (Sh.pr (Sh.int .u64) (Sh.int .i64)))) (tab := T76 c102 c103 c105 c104) (raw := (rawOf (RW76 c102 c103 c105 c104))) (LP := W76 c102 c103 c105 c104 N) (fu := fuelC) hT hO rfl rfl (Nat.le_of_ble_eq_true rfl) (loopOK_cons l76_0 (fun s κ a h => o76_0 c102 c103 c105 c104 hT hO N h) loopOK_nil) ((e76 c102 c103 c105 c104 N _ _ _).trans h1)

def T77 (c75 : Int → Int → Int → Option (Int × Int)) : Nat → Option Ent
  | 75 => some (en75 c75)
  | _ => none
def RW77 (c75 : Int → Int → Int → Option (Int × Int)) : Nat → List REnt
  | _ => []
def W77 (c75 : Int → Int → Int → Option (Int × Int)) (N : Nat) : LoopF (Sh.bool).T := fun no =>
  match no with
  | _ => fun _ _ => none
theorem e77 (c75 : Int → Int → Int → Option (Int × Int)) (N : Nat) (a0 : Int) (a1 : Int) (a2 : Int) (a3 : Int) : evc (T77 c75) (rawOf (RW77 c75)) (W77 c75 N) (retc k77.res Sh.bool) (modeOf FT) 0 fuelC k77.body (env0 k77 (encL [(Sh.int .u64), (Sh.int .i64), (Sh.int .i64), (Sh.int .i64)] (a0, (a1, (a2, (a3, ()))))), []) (endK (retc k77.res Sh.bool)) = p77 c75 N a0 a1 a2 a3 := by kernel_rfl
theorem ok77 (c75 : Int → Int → Int → Option (Int × Int)) (h75 : EntOK FT XT 75 (en75 c75)) {f : Int → Int → Int → Int → Option Bool} (hf : ∀ a0 a1 a2 a3 r, f a0 a1 a2 a3 = some r → ∃ N, p77 c75 N a0 a1 a2 a3 = some r) : EntOK FT XT 77 (en77 f) := by
  have hT : TabOK FT XT (T77 c75) := by
    intro g en hg
    unfold T77 at hg
    split at hg <;> first | (injection hg with hg; subst hg; assumption) | cases hg
  have hO : RawOK FT XT (rawOf (α := (Sh.bool).T) (RW77 c75)) := by
    refine rawOf_ok (fun g en hg => ?_)
    unfold RW77 at hg
    split at hg <;> simp only [List.mem_cons, List.not_mem_nil, or_false] at hg <;> first | (subst hg; assumption) | (rcases hg with rfl | rfl <;> assumption) | (rcases hg with rfl | rfl | rfl <;> assumption) | (rcases hg with rfl | rfl | rfl | rfl <;> assumption)
  refine ⟨rfl, fun v r h => ?_⟩
  obtain ⟨a0, a1, a2, a3, _⟩ := v
  obtain ⟨N, h1⟩ := hf _ _ _ _ _ h
  exact ans_c (R := Sh.bool) (tab := T77 c75) (raw := (rawOf (RW77 c75))) (LP := W77 c75 N) (fu := fuelC) hT hO rfl rfl (Nat.le_of_ble_eq_true rfl) loopOK_nil ((e77 c75 N _ _ _ _).trans h1)

def T78 (c75 : Int → Int → Int → Option (Int × Int)) : Nat → Option Ent
  | 75 => some (en75 c75)
  | _ => none
def RW78 (c75 : Int → Int → Int → Option (Int × Int)) : Nat → List REnt
  | _ => []
def W78 (c75 : Int → Int → Int → Option (Int × Int)) (N : Nat) : LoopF (((Sh.int .u32)).T) := fun no =>
  match no with
  | _ => fun _ _ => none
theorem e78 (c75 : Int → Int → Int → Option (Int × Int)) (N : Nat) (a0 : Int) (a1 : Int) : evc (T78 c75) (rawOf (RW78 c75)) (W78 c75 N) (retc k78.res (Sh.int .u32)) (modeOf FT) 0 fuelC k78.body (env0 k78 (encL [(Sh.int .i64), (Sh.int .i64)] (a0, (a1, ()))), []) (endK (retc k78.res (Sh.int .u32))) = p78 c75 N a0 a1 := by kernel_rfl
theorem ok78 (c75 : Int → Int → Int → Option (Int × Int)) (h75 : EntOK FT XT 75 (en75 c75)) {f : Int → Int → Option Int} (hf : ∀ a0 a1 r, f a0 a1 = some r → ∃ N, p78 c75 N a0 a1 = some r) : EntOK FT XT 78 (en78 f) := by
  have hT : TabOK FT XT (T78 c75) := by
    intro g en hg
    unfold T78 at hg
    split at hg <;> first | (injection hg with hg; subst hg; assumption) | cases hg
  have hO : RawOK FT XT (rawOf (α := ((Sh.int .u32)).T) (RW78 c75)) := by
    refine rawOf_ok (fun g en hg => ?_)
    unfold RW78 at hg
    split at hg <;> simp only [List.mem_cons, List.not_mem_nil, or_false] at hg <;> first | (subst hg; assumption) | (rcases hg with rfl | rfl <;> assumption) | (rcases hg with rfl | rfl | rfl <;> assumption) | (rcases hg with rfl | rfl | rfl | rfl <;> assumption)
  refine ⟨rfl, fun v r h => ?_⟩
  obtain ⟨a0, a1, _⟩ := v
  obtain ⟨N, h1⟩ := hf _ _ _ h
  exact ans_c (R := (Sh.int .u32)) (tab := T78 c75) (raw := (rawOf (RW78 c75))) (LP := W78 c75 N) (fu := fuelC) hT hO rfl rfl (Nat.le_of_ble_eq_true rfl) loopOK_nil ((e78 c75 N _ _).trans h1)

def T79 (c76 : Int → Int → Int → Option (Int × Int)) : Nat → Option Ent
  | 76 => some (en76 c76)
  | _ => none
def RW79 (c76 : Int → Int → Int → Option (Int × Int)) : Nat → List REnt
  | _ => []
def W79 (c76 : Int → Int → Int → Option (Int × Int)) (N : Nat) : LoopF (((Sh.int .u32)).T) := fun no =>
  match no with
  | _ => fun _ _ => none
theorem e79 (c76 : Int → Int → Int → Option (Int × Int)) (N : Nat) (a0 : Int) (a1 : Int) : evc (T79 c76) (rawOf (RW79 c76)) (W79 c76 N) (retc k79.res (Sh.int .u32)) (modeOf FT) 0 fuelC k79.body (env0 k79 (encL [(Sh.int .i64), (Sh.int .i64)] (a0, (a1, ()))), []) (endK (retc k79.res (Sh.int .u32))) = p79 c76 N a0 a1 := by kernel_rfl
theorem ok79 (c76 : Int → Int → Int → Option (Int × Int)) (h76 : EntOK FT XT 76 (en76 c76)) {f : Int → Int → Option Int} (hf : ∀ a0 a1 r, f a0 a1 = some r → ∃ N, p79 c76 N a0 a1 = some r) : EntOK FT XT 79 (en79 f) := by
  have hT : TabOK FT XT (T79 c76) := by
    intro g en hg
    unfold T79 at hg
    split at hg <;> first | (injection hg with hg; subst hg; assumption) | cases hg
  have hO : RawOK FT XT (rawOf (α := ((Sh.int .u32)).T) (RW79 c76)) := by
    refine rawOf_ok (fun g en hg => ?_)
    unfold RW79 at hg
    split at hg <;> simp only [List.mem_cons, List.not_mem_nil, or_false] at hg <;> first | (subst hg; assumption) | (rcases hg with rfl | rfl <;> assumption) | (rcases hg with rfl | rfl | rfl <;> assumption) | (rcases hg with rfl | rfl | rfl | rfl <;> assumption)
  refine ⟨rfl, fun v r h => ?_⟩
  obtain ⟨a0, a1, _⟩ := v
  obtain ⟨N, h1⟩ := hf _ _ _ h
  exact ans_c (R := (Sh.int .u32)) (tab := T79 c76) (raw := (rawOf (RW79 c76))) (LP := W79 c76 N) (fu := fuelC) hT hO rfl rfl (Nat.le_of_ble_eq_true rfl) loopOK_nil ((e79 c76 N _ _).trans h1)

def T81 : Nat → Option Ent
  | _ => none
def RW81 : Nat → List REnt
  | _ => []
def H81_1 : Trim := ⟨1, [], false, [0, 3, 4, 17, 18, 19], []⟩
theorem l81_1 : loopN k81 1 = .loop H81_1 (bodyOf (loopN k81 1)) := by kernel_rfl
def P81_1 : Ps := ⟨[(0, (.int .i64)), (2, .u), (3, (.sl 0 1)), (4, (.int .i64)), (6, .u), (14, .u), (17, (.sl 0 1)), (18, (.int .i64)), (19, (.int .i64)), (20, .u), (26, .u)], [(.ints false .i64)]⟩
def Q81_1 : Nat → Ps
  | 1 => ⟨[(0, (.int .i64)), (2, .u), (3, (.sl 0 1)), (4, (.int .i64)), (6, .u), (14, .u), (17, .u), (18, .u), (19, .u), (20, .u), (26, .u)], [(.ints false .i64)]⟩
  | 2 => ⟨[(0, (.int .i64)), (2, .u), (3, (.sl 0 1)), (4, (.int .i64)), (6, .u), (14, .u), (17, .u), (18, .u), (19, .u), (20, .u), (26, .u)], [(.ints false .i64)]⟩
  | _ => noPs
def u81_1 (N n : Nat) (v : P81_1.T) (κ : (i : Nat) → (Q81_1 i).T → Option (((Sh.sl (Sh.int .i64))).T)) : Option (((Sh.sl (Sh.int .i64))).T) :=
  L81_1 N (fun (y0 : Int) (y1 : Nat) (y2 : Int) (y3 : List Int) => κ 1 ((y0, ((), (y1, (y2, ((), ((), ((), ((), ((), ((), ((), ()))))))))))), (y3, ()))) (fun (y0 : Int) (y1 : Nat) (y2 : Int) (y3 : List Int) => κ 2 ((y0, ((), (y1, (y2, ((), ((), ((), ((), ((), ((), ((), ()))))))))))), (y3, ()))) n v.1.1 v.1.2.2.1 v.1.2.2.2.1 v.1.2.2.2.2.2.2.1 v.1.2.2.2.2.2.2.2.1 v.1.2.2.2.2.2.2.2.2.1 v.2.1
def W81_1 (N : Nat) : LoopF (((Sh.sl (Sh.int .i64))).T) := fun no =>
  match no with
  | _ => fun _ _ => none
theorem b81_1 (N n : Nat) (v : P81_1.T) (κ : (i : Nat) → (Q81_1 i).T → Option (((Sh.sl (Sh.int .i64))).T)) :
    evc (T81) (rawOf (RW81)) (W81_1 N) (retc k81.res (Sh.sl (Sh.int .i64))) (modeOf FT) 0 fuelC (bodyOf (loopN k81 1)) (P81_1.st v) (roundK 0 H81_1 P81_1 Q81_1 (u81_1 N n) κ) = u81_1 N (n + 1) v κ := by kernel_rfl
theorem o81_1 (hT : TabOK FT XT (T81)) (hO : RawOK FT XT (rawOf (α := ((Sh.sl (Sh.int .i64))).T) (RW81))) (N : Nat) {s : St} {κ : Ex → St → Option (((Sh.sl (Sh.int .i64))).T)} {a : ((Sh.sl (Sh.int .i64))).T} (h : lpOf 0 H81_1 P81_1 Q81_1 (u81_1 N N) s κ = some a) : Out FT XT 0 (retc k81.res (Sh.sl (Sh.int .i64))) (loopN k81 1) s κ a := by
  rw [l81_1]
  exact loop_out (LP := W81_1 N) (fu := fuelC) hT hO (fun _ _ => rfl) (b81_1 N) loopOK_nil N h
def H81_0 : Trim := ⟨0, [], false, [0, 3, 4], [(3, (.ints .i64 []), 1)]⟩
theorem l81_0 : loopN k81 0 = .loop H81_0 (bodyOf (loopN k81 0)) := by kernel_rfl
def P81_0 : Ps := ⟨[(0, (.int .i64)), (2, .u), (3, (.sl 0 1)), (4, (.int .i64)), (6, .u), (14, .u), (17, .u), (18, .u), (19, .u), (20, .u), (26, .u)], [(.ints false .i64)]⟩
def Q81_0 : Nat → Ps
  | 0 => ⟨[(0, .u), (2, .u), (3, (.sl 0 1)), (4, .u), (6, .u), (14, .u), (17, .u), (18, .u), (19, .u), (20, .u), (26, .u)], [(.ints false .i64)]⟩
  | _ => noPs
def u81_0 (N n : Nat) (v : P81_0.T) (κ : (i : Nat) → (Q81_0 i).T → Option (((Sh.sl (Sh.int .i64))).T)) : Option (((Sh.sl (Sh.int .i64))).T) :=
  L81_0 N (fun (y0 : Nat) (y1 : List Int) => κ 0 (((), ((), (y0, ((), ((), ((), ((), ((), ((), ((), ((), ()))))))))))), (y1, ()))) n v.1.1 v.1.2.2.1 v.1.2.2.2.1 v.2.1
def W81_0 (N : Nat) : LoopF (((Sh.sl (Sh.int .i64))).T) := fun no =>
  match no with
  | 1 => lpOf 0 H81_1 P81_1 Q81_1 (u81_1 N N)
  | _ => fun _ _ => none
theorem b81_0 (N n : Nat) (v : P81_0.T) (κ : (i : Nat) → (Q81_0 i).T → Option (((Sh.sl (Sh.int .i64))).T)) :
    evc (T81) (rawOf (RW81)) (W81_0 N) (retc k81.res (Sh.sl (Sh.int .i64))) (modeOf FT) 0 fuelC (bodyOf (loopN k81 0)) (P81_0.st v) (roundK 0 H81_0 P81_0 Q81_0 (u81_0 N n) κ) = u81_0 N (n + 1) v κ := by kernel_rfl
theorem o81_0 (hT : TabOK FT XT (T81)) (hO : RawOK FT XT (rawOf (α := ((Sh.sl (Sh.int .i64))).T) (RW81))) (N : Nat) {s : St} {κ : Ex → St → Option (((Sh.sl (Sh.int .i64))).T)} {a : ((Sh.sl (Sh.int .i64))).T} (h : lpOf 0 H81_0 P81_0 Q81_0 (u81_0 N N) s κ = some a) : Out FT XT 0 (retc k81.res (Sh.sl (Sh.int .i64))) (loopN k81 0) s κ a := by
  rw [l81_0]
  exact loop_out (LP := W81_0 N) (fu := fuelC) hT hO (fun _ _ => rfl) (b81_0 N) (loopOK_cons l81_1 (fun s κ a h => o81_1 hT hO N h) loopOK_nil) N h
def W81 (N : Nat) : LoopF (((Sh.sl (Sh.int .i64))).T) := fun no =>
  match no with
  | 0 => lpOf 0 H81_0 P81_0 Q81_0 (u81_0 N N)
  | _ => fun _ _ => none
theorem e81 (N : Nat) (a0 : Int) : evc (T81) (rawOf (RW81)) (W81 N) (retc k81.res (Sh.sl (Sh.int .i64))) (modeOf FT) 0 fuelC k81.body (env0 k81 (encL [(Sh.int .i64)] (a0, ())), []) (endK (retc k81.res (Sh.sl (Sh.int .i64)))) = p81 N a0 := by kernel_rfl
theorem ok81 {f : Int → Option (List Int)} (hf : ∀ a0 r, f a0 = some r → ∃ N, p81 N a0 = some r) : EntOK FT XT 81 (en81 f) := by
  have hT : TabOK FT XT (T81) := by
    intro g en hg
    unfold T81 at hg
    split at hg <;> first | (injection hg with hg; subst hg; assumption) | cases hg
  have hO : RawOK FT XT (rawOf (α := ((Sh.sl (Sh.int .i64))).T) (RW81)) := by
    refine rawOf_ok (fun g en hg => ?_)
    unfold RW81 at hg
    split at hg <;> simp only [List.mem_cons, List.not_mem_nil, or_false] at hg <;> first | (subst hg; assumption) | (rcases hg with rfl | rfl <;> assumption) | (rcases hg with rfl | rfl | rfl <;> assumption) | (rcases hg with rfl | rfl | rfl | rfl <;> assumption)
  refine ⟨rfl, fun v r h => ?_⟩
  obtain ⟨a0, _⟩ := v
  obtain ⟨N, h1⟩ := hf _ _ h
  exact ans_c (R := (Sh.sl (Sh.int .i64))) (tab := T81) (raw := (rawOf (RW81))) (LP := W81 N) (fu := fuelC) hT hO rfl rfl (Nat.le_of_ble_eq_true rfl) (loopOK_cons l81_0 (fun s κ a h => o81_0 hT hO N h) loopOK_nil) ((e81 N _).trans h1)

def T83 (c81 : Int → Option (List Int)) (c78 : Int → Int → Option Int) : Nat → Option Ent
  | 81 => some (en81 c81)
  | 78 => some (en78 c78)
  | _ => none
def RW83 (c81 : Int → Option (List Int)) (c78 : Int → Int → Option Int) : Nat → List REnt
  | _ => []
def H83_0 : Trim := ⟨0, [], false, [1, 5, 9, 10, 11], [(5, (.ints .u32 []), 1)]⟩
theorem l83_0 : loopN k83 0 = .loop H83_0 (bodyOf (loopN k83 0)) := by kernel_rfl
def P83_0 : Ps := ⟨[(0, .u), (1, (.int .i64)), (4, .u), (5, (.sl 0 1)), (7, .u), (9, (.tb (Sh.int .i64))), (10, (.int .i64)), (11, (.int .i64)), (12, .u)], [(.ints false .u32)]⟩
def Q83_0 : Nat → Ps
  | 0 => ⟨[(0, .u), (1, .u), (4, .u), (5, (.sl 0 1)), (7, .u), (9, .u), (10, .u), (11, .u), (12, .u)], [(.ints false .u32)]⟩
  | _ => noPs
def u83_0 (c81 : Int → Option (List Int)) (c78 : Int → Int → Option Int) (N n : Nat) (v : P83_0.T) (κ : (i : Nat) → (Q83_0 i).T → Option (((Sh.sl (Sh.int .u32))).T)) : Option (((Sh.sl (Sh.int .u32))).T) :=
  L83_0 c81 c78 N (fun (y0 : Nat) (y1 : List Int) => κ 0 (((), ((), ((), (y0, ((), ((), ((), ((), ((), ()))))))))), (y1, ()))) n v.1.2.1 v.1.2.2.2.1 v.1.2.2.2.2.2.1 v.1.2.2.2.2.2.2.1 v.1.2.2.2.2.2.2.2.1 v.2.1
def W83_0 (c81 : Int → Option (List Int)) (c78 : Int → Int → Option Int) (N : Nat) : LoopF (((Sh.sl (Sh.int .u32))).T) := fun no =>
  match no with
  | _ => fun _ _ => none
theorem b83_0 (c81 : Int → Option (List Int)) (c78 : Int → Int → Option Int) (N n : Nat) (v : P83_0.T) (κ : (i : Nat) → (Q83_0 i).T → Option (((Sh.sl (Sh.int .u32))).T)) :
    evc (T83 c81 c78) (rawOf (RW83 c81 c78)) (W83_0 c81 c78 N) (retc k83.res (Sh.sl (Sh.int .u32))) (modeOf FT) 0 fuelC (bodyOf (loopN k83 0)) (P83_0.st v) (roundK 0 H83_0 P83_0 Q83_0 (u83_0 c81 c78 N n) κ) = u83_0 c81 c78 N (n + 1) v κ := by kernel_rfl
theorem o83_0 (c81 : Int → Option (List Int)) (c78 : Int → Int → Option Int) (hT : TabOK FT XT (T83 c81 c78)) (hO : RawOK FT XT (rawOf (α := ((Sh.sl (Sh.int .u32))).T) (RW83 c81 c78))) (N : Nat) {s : St} {κ : Ex → St → Option (((Sh.sl (Sh.int .u32))).T)} {a : ((Sh.sl (Sh.int .u32))).T} (h : lpOf 0 H83_0 P83_0 Q83_0 (u83_0 c81 c78 N N) s κ = some a) : Out FT XT 0 (retc k83.res (Sh.sl (Sh.int .u32))) (loopN k83 0) s κ a := by
  rw [l83_0]
  exact loop_out (LP := W83_0 c81 c78 N) (fu := fuelC) hT hO (fun _ _ => rfl) (b83_0 c81 c78 N) loopOK_nil N h
def W83 (c81 : Int → Option (List Int)) (c78 : Int → Int → Option Int) (N : Nat) : LoopF (((Sh.sl (Sh.int .u32))).T) := fun no =>
  match no with
  | 0 => lpOf 0 H83_0 P83_0 Q83_0 (u83_0 c81 c78 N N)
  | _ => fun _ _ => none
theorem e83 (c81 : Int → Option (List Int)) (c78 : Int → Int → Option Int) (N : Nat) (a0 : Int) (a1 : Int) : evc (T83 c81 c78) (rawOf (RW83 c81 c78)) (W83 c81 c78 N) (retc k83.res (Sh.sl (Sh.int .u32))) (modeOf FT) 0 fuelC k83.body (env0 k83 (encL [(Sh.int .i64), (Sh.int .i64)] (a0, (a1, ()))), []) (endK (retc k83.res (Sh.sl (Sh.int .u32)))) = p83 c81 c78 N a0 a1 := by kernel_rfl
theorem ok83 (c81 : Int → Option (List Int)) (c78 : Int → Int → Option Int) (h81 : EntOK FT XT 81 (en81 c81)) (h78 : EntOK FT XT 78 (en78 c78)) {f : Int → Int → Option (List Int)} (hf : ∀ a0 a1 r, f a0 a1 = some r → ∃ N, p83 c81 c78 N a0 a1 = some r) : EntOK FT XT 83 (en83 f) := by
  have hT : TabOK FT XT (T83 c81 c78) := by
    intro g en hg
    unfold T83 at hg
    split at hg <;> first | (injection hg with hg; subst hg; assumption) | cases hg
  have hO : RawOK FT XT (rawOf (α := ((Sh.sl (Sh.int .u32))).T) (RW83 c81 c78)) := by
    refine rawOf_ok (fun g en hg => ?_)
    unfold RW83 at hg
    split at hg <;> simp only [List.mem_cons, List.not_mem_nil, or_false] at hg <;> first | (subst hg; assumption) | (rcases hg with rfl | rfl <;> assumption) | (rcases hg with rfl | rfl | rfl <;> assumption) | (rcases hg with rfl | rfl | rfl | rfl <;> assumption)
  refine ⟨rfl, fun v r h => ?_⟩
  obtain ⟨a0, a1, _⟩ := v
  obtain ⟨N, h1⟩ := hf _ _ _ h
  exact ans_c (R := (Sh.sl (Sh.int .u32))) (tab := T83 c81 c78) (raw := (rawOf (RW83 c81 c78))) (LP := W83 c81 c78 N) (fu := fuelC) hT hO rfl rfl (Nat.le_of_ble_eq_true rfl) (loopOK_cons l83_0 (fun s κ a h => o83_0 c81 c78 hT hO N h) loopOK_nil) ((e83 c81 c78 N _ _).trans h1)

def T80 (c75 : Int → Int → Int → Option (Int × Int)) (c81 : Int → Option (List Int)) (c78 : Int → Int → Option Int) (c77 : Int → Int → Int → Int → Option Bool) (c83 : Int → Int → Option (List Int)) : Nat → Option Ent
  | 75 => some (en75 c75)
  | 81 => some (en81 c81)
  | 78 => some (en78 c78)
  | 77 => some (en77 c77)
  | 83 => some (en83 c83)
  | _ => none
def RW80 (c75 : Int → Int → Int → Option (Int × Int)) (c81 : Int → Option (List Int)) (c78 : Int → Int → Option Int) (c77 : Int → Int → Int → Int → Option Bool) (c83 : Int → Int → Option (List Int)) : Nat → List REnt
  | _ => []
def W80 (c75 : Int → Int → Int → Option (Int × Int)) (c81 : Int → Option (List Int)) (c78 : Int → Int → Option Int) (c77 : Int → Int → Int → Int → Option Bool) (c83 : Int → Int → Option (List Int)) (N : Nat) : LoopF (Sh.bool).T := fun no =>
  match no with
  | _ => fun _ _ => none
theorem e80 (c75 : Int → Int → Int → Option (Int × Int)) (c81 : Int → Option (List Int)) (c78 : Int → Int → Option Int) (c77 : Int → Int → Int → Int → Option Bool) (c83 : Int → Int → Option (List Int)) (N : Nat)  : evc (T80 c75 c81 c78 c77 c83) (rawOf (RW80 c75 c81 c78 c77 c83)) (W80 c75 c81 c78 c77 c83 N) (retc k80.res Sh.bool) (modeOf FT) 0 fuelC k80.body (env0 k80 (encL [] ()), []) (endK (retc k80.res Sh.bool)) = p80 c75 c81 c78 c77 c83 N  := by kernel_rfl
theorem ok80 (c75 : Int → Int → Int → Option (Int × Int)) (c81 : Int → Option (List Int)) (c78 : Int → Int → Option Int) (c77 : Int → Int → Int → Int → Option Bool) (c83 : Int → Int → Option (List Int)) (h75 : EntOK FT XT 75 (en75 c75)) (h81 : EntOK FT XT 81 (en81 c81)) (h78 : EntOK FT XT 78 (en78 c78)) (h77 : EntOK FT XT 77 (en77 c77)) (h83 : EntOK FT XT 83 (en83 c83)) {f : Option Bool} (hf : ∀  r, f  = some r → ∃ N, p80 c75 c81 c78 c77 c83 N  = some r) : EntOK FT XT 80 (en80 f) := by
  have hT : TabOK FT XT (T80 c75 c81 c78 c77 c83) := by
    intro g en hg
    unfold T80 at hg
    split at hg <;> first | (injection hg with hg; subst hg; assumption) | cases hg
  have hO : RawOK FT XT (rawOf (α := (Sh.bool).T) (RW80 c75 c81 c78 c77 c83)) := by
    refine rawOf_ok (fun g en hg => ?_)
    unfold RW80 at hg
    split at hg <;> simp only [List.mem_cons, List.not_mem_nil, or_false] at hg <;> first | (subst hg; assumption) | (rcases hg with rfl | rfl <;> assumption) | (rcases hg with rfl | rfl | rfl <;> assumption) | (rcases hg with rfl | rfl | rfl | rfl <;> assumption)
  refine ⟨rfl, fun v r h => ?_⟩
  obtain ⟨N, h1⟩ := hf _ h
  exact ans_c (R := Sh.bool) (tab := T80 c75 c81 c78 c77 c83) (raw := (rawOf (RW80 c75 c81 c78 c77 c83))) (LP := W80 c75 c81 c78 c77 c83 N) (fu := fuelC) hT hO rfl rfl (Nat.le_of_ble_eq_true rfl) loopOK_nil ((e80 c75 c81 c78 c77 c83 N ).trans h1)

def T67 (c75 : Int → Int → Int → Option (Int × Int)) (c76 : Int → Int → Int → Option (Int × Int)) (c77 : Int → Int → Int → Int → Option Bool) (c78 : Int → Int → Option Int) (c79 : Int → Int → Option Int) (c80 : Option Bool) : Nat → Option Ent
  | 75 => some (en75 c75)
  | 76 => some (en76 c76)
  | 77 => some (en77 c77)
  | 78 => some (en78 c78)
  | 79 => some (en79 c79)
  | 80 => some (en80 c80)
  | _ => none
def RW67 (c75 : Int → Int → Int → Option (Int × Int)) (c76 : Int → Int → Int → Option (Int × Int)) (c77 : Int → Int → Int → Int → Option Bool) (c78 : Int → Int → Option Int) (c79 : Int → Int → Option Int) (c80 : Option Bool) : Nat → List REnt
  | _ => []
def W67 (c75 : Int → Int → Int → Option (Int × Int)) (c76 : Int → Int → Int → Option (Int × Int)) (c77 : Int → Int → Int → Int → Option Bool) (c78 : Int → Int → Option Int) (c79 : Int → Int → Option Int) (c80 : Option Bool) (N : Nat) : LoopF (Sh.bool).T := fun no =>
  match no with
  | _ => fun _ _ => none
theorem e67 (c75 : Int → Int → Int → Option (Int × Int)) (c76 : Int → Int → Int → Option (Int × Int)) (c77 : Int → Int → Int → Int → Option Bool) (c78 : Int → Int → Option Int) (c79 : Int → Int → Option Int) (c80 : Option Bool) (N : Nat) (a0 : Int) (a1 : Int) (a2 : Int) : evc (T67 c75 c76 c77 c78 c79 c80) (rawOf (RW67 c75 c76 c77 c78 c79 c80)) (W67 c75 c76 c77 c78 c79 c80 N) (retc k67.res Sh.bool) (modeOf FT) 0 fuelC k67.body (env0 k67 (encL [(Sh.int .i64), (Sh.int .i64), (Sh.int .i64)] (a0, (a1, (a2, ())))), []) (endK (retc k67.res Sh.bool)) = p67 c75 c76 c77 c78 c79 c80 N a0 a1 a2 := by kernel_rfl
theorem ok67 (c75 : Int → Int → Int → Option (Int × Int)) (c76 : Int → Int → Int → Option (Int × Int)) (c77 : Int → Int → Int → Int → Option Bool) (c78 : Int → Int → Option Int) (c79 : Int → Int → Option Int) (c80 : Option Bool) (h75 : EntOK FT XT 75 (en75 c75)) (h76 : EntOK FT XT 76 (en76 c76)) (h77 : EntOK FT XT 77 (en77 c77)) (h78 : EntOK FT XT 78 (en78 c78)) (h79 : EntOK FT XT 79 (en79 c79)) (h80 : EntOK FT XT 80 (en80 c80)) {f : Int → Int → Int → Option Bool} (hf : ∀ a0 a1 a2 r, f a0 a1 a2 = some r → ∃ N, p67 c75 c76 c77 c78 c79 c80 N a0 a1 a2 = some r) : EntOK FT XT 67 (en67 f) := by
  have hT : TabOK FT XT (T67 c75 c76 c77 c78 c79 c80) := by
    intro g en hg
    unfold T67 at hg
    split at hg <;> first | (injection hg with hg; subst hg; assumption) | cases hg
  have hO : RawOK FT XT (rawOf (α := (Sh.bool).T) (RW67 c75 c76 c77 c78 c79 c80)) := by
    refine rawOf_ok (fun g en hg => ?_)
    unfold RW67 at hg
    split at hg <;> simp only [List.mem_cons, List.not_mem_nil, or_false] at hg <;> first | (subst hg; assumption) | (rcases hg with rfl | rfl <;> assumption) | (rcases hg with rfl | rfl | rfl <;> assumption) | (rcases hg with rfl | rfl | rfl | rfl <;> assumption)
  refine ⟨rfl, fun v r h => ?_⟩
  obtain ⟨a0, a1, a2, _⟩ := v
  obtain ⟨N, h1⟩ := hf _ _ _ _ h
  exact ans_c (R := Sh.bool) (tab := T67 c75 c76 c77 c78 c79 c80) (raw := (rawOf (RW67 c75 c76 c77 c78 c79 c80))) (LP := W67 c75 c76 c77 c78 c79 c80 N) (fu := fuelC) hT hO rfl rfl (Nat.le_of_ble_eq_true rfl) loopOK_nil ((e67 c75 c76 c77 c78 c79 c80 N _ _ _).trans h1)

def T82 : Nat → Option Ent
  | _ => none
def RW82 : Nat → List REnt
  | _ => []
def H82_1 : Trim := ⟨1, [], false, [0, 3, 4, 5], []⟩
theorem l82_1 : loopN k82 1 = .loop H82_1 (bodyOf (loopN k82 1)) := by kernel_rfl
def P82_1 : Ps := ⟨[(0, (.int .i64)), (2, .u), (3, (.sl 0 1)), (4, (.int .i64)), (5, (.int .i64)), (13, .u), (24, .u), (29, .u)], [(.ints false .i64)]⟩
def Q82_1 : Nat → Ps
  | 2 => ⟨[(0, (.int .i64)), (2, .u), (3, (.sl 0 1)), (4, (.int .i64)), (5, (.int .i64)), (13, .u), (24, .u), (29, .u)], [(.ints false .i64)]⟩
  | _ => noPs
def u82_1 (N n : Nat) (v : P82_1.T) (κ : (i : Nat) → (Q82_1 i).T → Option (((Sh.sl (Sh.int .i64))).T)) : Option (((Sh.sl (Sh.int .i64))).T) :=
  L82_1 N (fun (y0 : Int) (y1 : Nat) (y2 : Int) (y3 : Int) (y4 : List Int) => κ 2 ((y0, ((), (y1, (y2, (y3, ((), ((), ((), ())))))))), (y4, ()))) n v.1.1 v.1.2.2.1 v.1.2.2.2.1 v.1.2.2.2.2.1 v.2.1
def W82_1 (N : Nat) : LoopF (((Sh.sl (Sh.int .i64))).T) := fun no =>
  match no with
  | _ => fun _ _ => none
theorem b82_1 (N n : Nat) (v : P82_1.T) (κ : (i : Nat) → (Q82_1 i).T → Option (((Sh.sl (Sh.int .i64))).T)) :
    evc (T82) (rawOf (RW82)) (W82_1 N) (retc k82.res (Sh.sl (Sh.int .i64))) (modeOf FT) 0 fuelC (bodyOf (loopN k82 1)) (P82_1.st v) (roundK 0 H82_1 P82_1 Q82_1 (u82_1 N n) κ) = u82_1 N (n + 1) v κ := by kernel_rfl
theorem o82_1 (hT : TabOK FT XT (T82)) (hO : RawOK FT XT (rawOf (α := ((Sh.sl (Sh.int .i64))).T) (RW82))) (N : Nat) {s : St} {κ : Ex → St → Option (((Sh.sl (Sh.int .i64))).T)} {a : ((Sh.sl (Sh.int .i64))).T} (h : lpOf 0 H82_1 P82_1 Q82_1 (u82_1 N N) s κ = some a) : Out FT XT 0 (retc k82.res (Sh.sl (Sh.int .i64))) (loopN k82 1) s κ a := by
  rw [l82_1]
  exact loop_out (LP := W82_1 N) (fu := fuelC) hT hO (fun _ _ => rfl) (b82_1 N) loopOK_nil N h
def H82_0 : Trim := ⟨0, [], false, [0, 3, 4], [(3, (.ints .i64 []), 1)]⟩
theorem l82_0 : loopN k82 0 = .loop H82_0 (bodyOf (loopN k82 0)) := by kernel_rfl
def P82_0 : Ps := ⟨[(0, (.int .i64)), (2, .u), (3, (.sl 0 1)), (4, (.int .i64)), (5, .u), (13, .u), (24, .u), (29, .u)], [(.ints false .i64)]⟩
def Q82_0 : Nat → Ps
  | 0 => ⟨[(0, .u), (2, .u), (3, (.sl 0 1)), (4, .u), (5, .u), (13, .u), (24, .u), (29, .u)], [(.ints false .i64)]⟩
  | _ => noPs
def u82_0 (N n : Nat) (v : P82_0.T) (κ : (i : Nat) → (Q82_0 i).T → Option (((Sh.sl (Sh.int .i64))).T)) : Option (((Sh.sl (Sh.int .i64))).T) :=
  L82_0 N (fun (y0 : Nat) (y1 : List Int) => κ 0 (((), ((), (y0, ((), ((), ((), ((), ((), ())))))))), (y1, ()))) n v.1.1 v.1.2.2.1 v.1.2.2.2.1 v.2.1
def W82_0 (N : Nat) : LoopF (((Sh.sl (Sh.int .i64))).T) := fun no =>
  match no with
  | 1 => lpOf 0 H82_1 P82_1 Q82_1 (u82_1 N N)
  | _ => fun _ _ => none
theorem b82_0 (N n : Nat) (v : P82_0.T) (κ : (i : Nat) → (Q82_0 i).T → Option (((Sh.sl (Sh.int .i64))).T)) :
    evc (T82) (rawOf (RW82)) (W82_0 N) (retc k82.res (Sh.sl (Sh.int .i64))) (modeOf FT) 0 fuelC (bodyOf (loopN k82 0)) (P82_0.st v) (roundK 0 H82_0 P82_0 Q82_0 (u82_0 N n) κ) = u82_0 N (n + 1) v κ := by kernel_rfl
theorem o82_0 (hT : TabOK FT XT (T82)) (hO : RawOK FT XT (rawOf (α := ((Sh.sl (Sh.int .i64))).T) (RW82))) (N : Nat) {s : St} {κ : Ex → St → Option (((Sh.sl (Sh.int .i64))).T)} {a : ((Sh.sl (Sh.int .i64))).T} (h : lpOf 0 H82_0 P82_0 Q82_0 (u82_0 N N) s κ = some a) : Out FT XT 0 (retc k82.res (Sh.sl (Sh.int .i64))) (loopN k82 0) s κ a := by
  rw [l82_0]
  exact loop_out (LP := W82_0 N) (fu := fuelC) hT hO (fun _ _ => rfl) (b82_0 N) (loopOK_cons l82_1 (fun s κ a h => o82_1 hT hO N h) loopOK_nil) N h
def W82 (N : Nat) : LoopF (((Sh.sl (Sh.int .i64))).T) := fun no =>
  match no with
  | 0 => lpOf 0 H82_0 P82_0 Q82_0 (u82_0 N N)
  | _ => fun _ _ => none
theorem e82 (N : Nat) (a0 : Int) : evc (T82) (rawOf (RW82)) (W82 N) (retc k82.res (Sh.sl (Sh.int .i64))) (modeOf FT) 0 fuelC k82.body (env0 k82 (encL [(Sh.int .i64)] (a0, ())), []) (endK (retc k82.res (Sh.sl (Sh.int .i64)))) = p82 N a0 := by kernel_rfl
theorem ok82 {f : Int → Option (List Int)} (hf : ∀ a0 r, f a0 = some r → ∃ N, p82 N a0 = some r) : EntOK FT XT 82 (en82 f) := by
  have hT : TabOK FT XT (T82) := by
    intro g en hg
    unfold T82 at hg
    split at hg <;> first | (injection hg with hg; subst hg; assumption) | cases hg
  have hO : RawOK FT XT (rawOf (α := ((Sh.sl (Sh.int .i64))).T) (RW82)) := by
    refine rawOf_ok (fun g en hg => ?_)
    unfold RW82 at hg
    split at hg <;> simp only [List.mem_cons, List.not_mem_nil, or_false] at hg <;> first | (subst hg; assumption) | (rcases hg with rfl | rfl <;> assumption) | (rcases hg with rfl | rfl | rfl <;> assumption) | (rcases hg with rfl | rfl | rfl | rfl <;> assumption)
  refine ⟨rfl, fun v r h => ?_⟩
  obtain ⟨a0, _⟩ := v
  obtain ⟨N, h1⟩ := hf _ _ h
  exact ans_c (R := (Sh.sl (Sh.int .i64))) (tab := T82) (raw := (rawOf (RW82))) (LP := W82 N) (fu := fuelC) hT hO rfl rfl (Nat.le_of_ble_eq_true rfl) (loopOK_cons l82_0 (fun s κ a h => o82_0 hT hO N h) loopOK_nil) ((e82 N _).trans h1)

def T68 (c81 : Int → Option (List Int)) (c82 : Int → Option (List Int)) (c83 : Int → Int → Option (List Int)) (c79 : Int → Int → Option Int) (c80 : Option Bool) : Nat → Option Ent
  | 81 => some (en81 c81)
  | 82 => some (en82 c82)
  | 83 => some (en83 c83)
  | 79 => some (en79 c79)
  | 80 => some (en80 c80)
  | _ => none
def RW68 (c81 : Int → Option (List Int)) (c82 : Int → Option (List Int)) (c83 : Int → Int → Option (List Int)) (c79 : Int → Int → Option Int) (c80 : Option Bool) : Nat → List REnt
  | _ => []
def H68_1 : Trim := ⟨1, [], false, [5, 7, 9, 47, 48], []⟩
theorem l68_1 : loopN k68 1 = .loop H68_1 (bodyOf (loopN k68 1)) := by kernel_rfl
def P68_1 : Ps := ⟨[(0, .u), (1, .u), (4, .u), (5, (.int .i64)), (6, .u), (7, (.tb (Sh.int .i64))), (8, .u), (9, (.tb (Sh.int .u32))), (10, .u), (11, .u), (20, .u), (22, .u), (23, .u), (24, .u), (34, .u), (45, .u), (47, (.int .i64)), (48, (.int .i64)), (49, .u), (61, .u)], []⟩
def Q68_1 : Nat → Ps
  | 2 => ⟨[(0, .u), (1, .u), (4, .u), (5, .u), (6, .u), (7, .u), (8, .u), (9, .u), (10, .u), (11, .u), (20, .u), (22, .u), (23, .u), (24, .u), (34, .u), (45, .u), (47, .u), (48, .u), (49, .u), (61, .u)], []⟩
  | _ => noPs
def u68_1 (c81 : Int → Option (List Int)) (c82 : Int → Option (List Int)) (c83 : Int → Int → Option (List Int)) (c79 : Int → Int → Option Int) (c80 : Option Bool) (N n : Nat) (v : P68_1.T) (κ : (i : Nat) → (Q68_1 i).T → Option (Sh.bool).T) : Option (Sh.bool).T :=
  L68_1 c81 c82 c83 c79 c80 N (κ 2 (((), ((), ((), ((), ((), ((), ((), ((), ((), ((), ((), ((), ((), ((), ((), ((), ((), ((), ((), ((), ())))))))))))))))))))), ())) n v.1.2.2.2.1 v.1.2.2.2.2.2.1 v.1.2.2.2.2.2.2.2.1 v.1.2.2.2.2.2.2.2.2.2.2.2.2.2.2.2.2.1 v.1.2.2.2.2.2.2.2.2.2.2.2.2.2.2.2.2.2.1
def W68_1 (c81 : Int → Option (List Int)) (c82 : Int → Option (List Int)) (c83 : Int → Int → Option (List Int)) (c79 : Int → Int → Option Int) (c80 : Option Bool) (N : Nat) : LoopF (Sh.bool).T := fun no =>
  match no with
  | _ => fun _ _ => none
theorem b68_1 (c81 : Int → Option (List Int)) (c82 : Int → Option (List Int)) (c83 : Int → Int → Option (List Int)) (c79 : Int → Int → Option Int) (c80 : Option Bool) (N n : Nat) (v : P68_1.T) (κ : (i : Nat) → (Q68_1 i).T → Option (Sh.bool).T) :
    evc (T68 c81 c82 c83 c79 c80) (rawOf (RW68 c81 c82 c83 c79 c80)) (W68_1 c81 c82 c83 c79 c80 N) (retc k68.res Sh.bool) (modeOf FT) 0 fuelC (bodyOf (loopN k68 1)) (P68_1.st v) (roundK 0 H68_1 P68_1 Q68_1 (u68_1 c81 c82 c83 c79 c80 N n) κ) = u68_1 c81 c82 c83 c79 c80 N (n + 1) v κ := by kernel_rfl
theorem o68_1 (c81 : Int → Option (List Int)) (c82 : Int → Option (List Int)) (c83 : Int → Int → Option (List Int)) (c79 : Int → Int → Option Int) (c80 : Option Bool) (hT : TabOK FT XT (T68 c81 c82 c83 c79 c80)) (hO : RawOK FT XT (rawOf (α := (Sh.bool).T) (RW68 c81 c82 c83 c79 c80))) (N : Nat) {s : St} {κ : Ex → St → Option (Sh.bool).T} {a : (Sh.bool).T} (h : lpOf 0 H68_1 P68_1 Q68_1 (u68_1 c81 c82 c83 c79 c80 N N) s κ = some a) : Out FT XT 0 (retc k68.res Sh.bool) (loopN k68 1) s κ a := by
  rw [l68_1]
  exact loop_out (LP := W68_1 c81 c82 c83 c79 c80 N) (fu := fuelC) hT hO (fun _ _ => rfl) (b68_1 c81 c82 c83 c79 c80 N) loopOK_nil N h
def H68_0 : Trim := ⟨0, [], false, [0, 5, 6, 7, 22, 23], []⟩
theorem l68_0 : loopN k68 0 = .loop H68_0 (bodyOf (loopN k68 0)) := by kernel_rfl
def P68_0 : Ps := ⟨[(0, (.int .i64)), (1, .u), (4, .u), (5, (.int .i64)), (6, (.tb (Sh.int .i64))), (7, (.tb (Sh.int .i64))), (8, .u), (9, .u), (10, .u), (11, .u), (20, .u), (22, (.int .i64)), (23, (.int .i64)), (24, .u), (34, .u), (45, .u), (47, .u), (48, .u), (49, .u), (61, .u)], []⟩
def Q68_0 : Nat → Ps
  | 0 => ⟨[(0, (.int .i64)), (1, .u), (4, .u), (5, (.int .i64)), (6, .u), (7, (.tb (Sh.int .i64))), (8, .u), (9, .u), (10, .u), (11, .u), (20, .u), (22, .u), (23, .u), (24, .u), (34, .u), (45, .u), (47, .u), (48, .u), (49, .u), (61, .u)], []⟩
  | _ => noPs
def u68_0 (c81 : Int → Option (List Int)) (c82 : Int → Option (List Int)) (c83 : Int → Int → Option (List Int)) (c79 : Int → Int → Option Int) (c80 : Option Bool) (N n : Nat) (v : P68_0.T) (κ : (i : Nat) → (Q68_0 i).T → Option (Sh.bool).T) : Option (Sh.bool).T :=
  L68_0 c81 c82 c83 c79 c80 N (fun (y0 : Int) (y1 : Int) (y2 : List Int) => κ 0 ((y0, ((), ((), (y1, ((), (y2, ((), ((), ((), ((), ((), ((), ((), ((), ((), ((), ((), ((), ((), ((), ())))))))))))))))))))), ())) n v.1.1 v.1.2.2.2.1 v.1.2.2.2.2.1 v.1.2.2.2.2.2.1 v.1.2.2.2.2.2.2.2.2.2.2.2.1 v.1.2.2.2.2.2.2.2.2.2.2.2.2.1
def W68_0 (c81 : Int → Option (List Int)) (c82 : Int → Option (List Int)) (c83 : Int → Int → Option (List Int)) (c79 : Int → Int → Option Int) (c80 : Option Bool) (N : Nat) : LoopF (Sh.bool).T := fun no =>
  match no with
  | _ => fun _ _ => none
theorem b68_0 (c81 : Int → Option (List Int)) (c82 : Int → Option (List Int)) (c83 : Int → Int → Option (List Int)) (c79 : Int → Int → Option Int) (c80 : Option Bool) (N n : Nat) (v : P68_0.T) (κ : (i : Nat) → (Q68_0 i).T → Option (Sh.bool).T) :
    evc (T68 c81 c82 c83 c79 c80) (rawOf (RW68 c81 c82 c83 c79 c80)) (W68_0 c81 c82 c83 c79 c80 N) (retc k68.res Sh.bool) (modeOf FT) 0 fuelC (bodyOf (loopN k68 0)) (P68_0.st v) (roundK 0 H68_0 P68_0 Q68_0 (u68_0 c81 c82 c83 c79 c80 N n) κ) = u68_0 c81 c82 c83 c79 c80 N (n + 1) v κ := by kernel_rfl
theorem o68_0 (c81 : Int → Option (List Int)) (c82 : Int → Option (List Int)) (c83 : Int → Int → Option (List Int)) (c79 : Int → Int → Option Int) (c80 : Option Bool) (hT : TabOK FT XT (T68 c81 c82 c83 c79 c80)) (hO : RawOK FT XT (rawOf (α := (Sh.bool).T) (RW68 c81 c82 c83 c79 c80))) (N : Nat) {s : St} {κ : Ex → St → Option (Sh.bool).T} {a : (Sh.bool).T} (h : lpOf 0 H68_0 P68_0 Q68_0 (u68_0 c81 c82 c83 c79 c80 N N) s κ = some a) : Out FT XT 0 (retc k68.res Sh.bool) (loopN k68 0) s κ a := by
  rw [l68_0]
  exact loop_out (LP := W68_0 c81 c82 c83 c79 c80 N) (fu := fuelC) hT hO (fun _ _ => rfl) (b68_0 c81 c82 c83 c79 c80 N) loopOK_nil N h
def W68 (c81 : Int → Option (List Int)) (c82 : Int → Option (List Int)) (c83 : Int → Int → Option (List Int)) (c79 : Int → Int → Option Int) (c80 : Option Bool) (N : Nat) : LoopF (Sh.bool).T := fun no =>
  match no with
  | 0 => lpOf 0 H68_0 P68_0 Q68_0 (u68_0 c81 c82 c83 c79 c80 N N)
  | 1 => lpOf 0 H68_1 P68_1 Q68_1 (u68_1 c81 c82 c83 c79 c80 N N)
  | _ => fun _ _ => none
theorem e68 (c81 : Int → Option (List Int)) (c82 : Int → Option (List Int)) (c83 : Int → Int → Option (List Int)) (c79 : Int → Int → Option Int) (c80 : Option Bool) (N : Nat) (a0 : Int) (a1 : Bool) : evc (T68 c81 c82 c83 c79 c80) (rawOf (RW68 c81 c82 c83 c79 c80)) (W68 c81 c82 c83 c79 c80 N) (retc k68.res Sh.bool) (modeOf FT) 0 fuelC k68.body (env0 k68 (encL [(Sh.int .i64), Sh.bool] (a0, (a1, ()))), []) (endK (retc k68.res Sh.bool)) = p68 c81 c82 c83 c79 c80 N a0 a1 := by kernel_rfl
theorem ok68 (c81 : Int → Option (List Int)) (c82 : Int → Option (List Int)) (c83 : Int → Int → Option (List Int)) (c79 : Int → Int → Option Int) (c80 : Option Bool) (h81 : EntOK FT XT 81 (en81 c81)) (h82 : EntOK FT XT 82 (en82 c82)) (h83 : EntOK FT XT 83 (en83 c83)) (h79 : EntOK FT XT 79 (en79 c79)) (h80 : EntOK FT XT 80 (en80 c80)) {f : Int → Bool → Option Bool} (hf : ∀ a0 a1 r, f a0 a1 = some r → ∃ N, p68 c81 c82 c83 c79 c80 N a0 a1 = some r) : EntOK FT XT 68 (en68 f) := by
  have hT : TabOK FT XT (T68 c81 c82 c83 c79 c80) := by
    intro g en hg
    unfold T68 at hg
    split at hg <;> first | (injection hg with hg; subst hg; assumption) | cases hg
  have hO : RawOK FT XT (rawOf (α := (Sh.bool).T) (RW68 c81 c82 c83 c79 c80)) := by
    refine rawOf_ok (fun g en hg => ?_)
    unfold RW68 at hg
    split at hg <;> simp only [List.mem_cons, List.not_mem_nil, or_false] at hg <;> first | (subst hg; assumption) | (rcases hg with rfl | rfl <;> assumption) | (rcases hg with rfl | rfl | rfl <;> assumption) | (rcases hg with rfl | rfl | rfl | rfl <;> assumption)
  refine ⟨rfl, fun v r h => ?_⟩
  obtain ⟨a0, a1, _⟩ := v
  obtain ⟨N, h1⟩ := hf _ _ _ h
  exact ans_c (R := Sh.bool) (tab := T68 c81 c82 c83 c79 c80) (raw := (rawOf (RW68 c81 c82 c83 c79 c80))) (LP := W68 c81 c82 c83 c79 c80 N) (fu := fuelC) hT hO rfl rfl (Nat.le_of_ble_eq_true rfl) (loopOK_cons l68_0 (fun s κ a h => o68_0 c81 c82 c83 c79 c80 hT hO N h) (loopOK_cons l68_1 (fun s κ a h => o68_1 c81 c82 c83 c79 c80 hT hO N h) loopOK_nil)) ((e68 c81 c82 c83 c79 c80 N _ _).trans h1)

def T69 (c75 : Int → Int → Int → Option (Int × Int)) (c77 : Int → Int → Int → Int → Option Bool) (c80 : Option Bool) : Nat → Option Ent
  | 75 => some (en75 c75)
  | 77 => some (en77 c77)
  | 80 => some (en80 c80)
  | _ => none
def RW69 (c75 : Int → Int → Int → Option (Int × Int)) (c77 : Int → Int → Int → Int → Option Bool) (c80 : Option Bool) : Nat → List REnt
  | _ => []
def W69 (c75 : Int → Int → Int → Option (Int × Int)) (c77 : Int → Int → Int → Int → Option Bool) (c80 : Option Bool) (N : Nat) : LoopF (Sh.bool).T := fun no =>
  match no with
  | _ => fun _ _ => none
theorem e69 (c75 : Int → Int → Int → Option (Int × Int)) (c77 : Int → Int → Int → Int → Option Bool) (c80 : Option Bool) (N : Nat) (a0 : Int) (a1 : Int) (a2 : Int) : evc (T69 c75 c77 c80) (rawOf (RW69 c75 c77 c80)) (W69 c75 c77 c80 N) (retc k69.res Sh.bool) (modeOf FT) 0 fuelC k69.body (env0 k69 (encL [(Sh.int .i64), (Sh.int .i64), (Sh.int .i64)] (a0, (a1, (a2, ())))), []) (endK (retc k69.res Sh.bool)) = p69 c75 c77 c80 N a0 a1 a2 := by kernel_rfl
theorem ok69 (c75 : Int → Int → Int → Option (Int × Int)) (c77 : Int → Int → Int → Int → Option Bool) (c80 : Option Bool) (h75 : EntOK FT XT 75 (en75 c75)) (h77 : EntOK FT XT 77 (en77 c77)) (h80 : EntOK FT XT 80 (en80 c80)) {f : Int → Int → Int → Option Bool} (hf : ∀ a0 a1 a2 r, f a0 a1 a2 = some r → ∃ N, p69 c75 c77 c80 N a0 a1 a2 = some r) : EntOK FT XT 69 (en69 f) := by
  have hT : TabOK FT XT (T69 c75 c77 c80) := by
    intro g en hg
    unfold T69 at hg
    split at hg <;> first | (injection hg with hg; subst hg; assumption) | cases hg
  have hO : RawOK FT XT (rawOf (α := (Sh.bool).T) (RW69 c75 c77 c80)) := by
    refine rawOf_ok (fun g en hg => ?_)
    unfold RW69 at hg
    split at hg <;> simp only [List.mem_cons, List.not_mem_nil, or_false] at hg <;> first | (subst hg; assumption) | (rcases hg with rfl | rfl <;> assumption) | (rcases hg with rfl | rfl | rfl <;> assumption) | (rcases hg with rfl | rfl | rfl | rfl <;> assumption)
  refine ⟨rfl, fun v r h => ?_⟩
  obtain ⟨a0, a1, a2, _⟩ := v
  obtain ⟨N, h1⟩ := hf _ _ _ _ h
  exact ans_c (R := Sh.bool) (tab := T69 c75 c77 c80) (raw := (rawOf (RW69 c75 c77 c80))) (LP := W69 c75 c77 c80 N) (fu := fuelC) hT hO rfl rfl (Nat.le_of_ble_eq_true rfl) loopOK_nil ((e69 c75 c77 c80 N _ _ _).trans h1)

def T70 (c81 : Int → Option (List Int)) (c80 : Option Bool) : Nat → Option Ent
  | 81 => some (en81 c81)
  | 80 => some (en80 c80)
  | _ => none
def RW70 (c81 : Int → Option (List Int)) (c80 : Option Bool) : Nat → List REnt
  | _ => []
def H70_3 : Trim := ⟨3, [], false, [3, 8, 9, 61, 62, 63], []⟩
theorem l70_3 : loopN k70 3 = .loop H70_3 (bodyOf (loopN k70 3)) := by kernel_rfl
def P70_3 : Ps := ⟨[(0, .u), (2, .u), (3, (.tb (Sh.int .i64))), (4, .u), (5, .u), (7, .u), (8, (.int .i64)), (9, .bool), (11, .u), (20, .u), (21, .u), (22, .u), (23, .u), (24, .u), (30, .u), (31, .u), (32, .u), (33, .u), (44, .u), (49, .u), (58, .u), (61, (.tb (Sh.int .i64))), (62, (.int .i64)), (63, (.int .i64)), (64, .u), (76, .u)], []⟩
def Q70_3 : Nat → Ps
  | 6 => ⟨[(0, .u), (2, .u), (3, (.tb (Sh.int .i64))), (4, .u), (5, .u), (7, .u), (8, (.int .i64)), (9, .bool), (11, .u), (20, .u), (21, .u), (22, .u), (23, .u), (24, .u), (30, .u), (31, .u), (32, .u), (33, .u), (44, .u), (49, .u), (58, .u), (61, .u), (62, .u), (63, .u), (64, .u), (76, .u)], []⟩
  | _ => noPs
def u70_3 (c81 : Int → Option (List Int)) (c80 : Option Bool) (N n : Nat) (v : P70_3.T) (κ : (i : Nat) → (Q70_3 i).T → Option (Sh.bool).T) : Option (Sh.bool).T :=
  L70_3 c81 c80 N (fun (y0 : List Int) (y1 : Int) (y2 : Bool) => κ 6 (((), ((), (y0, ((), ((), ((), (y1, (y2, ((), ((), ((), ((), ((), ((), ((), ((), ((), ((), ((), ((), ((), ((), ((), ((), ((), ((), ())))))))))))))))))))))))))), ())) n v.1.2.2.1 v.1.2.2.2.2.2.2.1 v.1.2.2.2.2.2.2.2.1 v.1.2.2.2.2.2.2.2.2.2.2.2.2.2.2.2.2.2.2.2.2.2.1 v.1.2.2.2.2.2.2.2.2.2.2.2.2.2.2.2.2.2.2.2.2.2.2.1 v.1.2.2.2.2.2.2.2.2.2.2.2.2.2.2.2.2.2.2.2.2.2.2.2.1
def W70_3 (c81 : Int → Option (List Int)) (c80 : Option Bool) (N : Nat) : LoopF (Sh.bool).T := fun no =>
  match no with
  | _ => fun _ _ => none
theorem b70_3 (c81 : Int → Option (List Int)) (c80 : Option Bool) (N n : Nat) (v : P70_3.T) (κ : (i : Nat) → (Q70_3 i).T → Option (Sh.bool).T) :
    evc (T70 c81 c80) (rawOf (RW70 c81 c80)) (W70_3 c81 c80 N) (retc k70.res Sh.bool) (modeOf FT) 0 fuelC (bodyOf (loopN k70 3)) (P70_3.st v) (roundK 0 H70_3 P70_3 Q70_3 (u70_3 c81 c80 N n) κ) = u70_3 c81 c80 N (n + 1) v κ := by kernel_rfl
theorem o70_3 (c81 : Int → Option (List Int)) (c80 : Option Bool) (hT : TabOK FT XT (T70 c81 c80)) (hO : RawOK FT XT (rawOf (α := (Sh.bool).T) (RW70 c81 c80))) (N : Nat) {s : St} {κ : Ex → St → Option (Sh.bool).T} {a : (Sh.bool).T} (h : lpOf 0 H70_3 P70_3 Q70_3 (u70_3 c81 c80 N N) s κ = some a) : Out FT XT 0 (retc k70.res Sh.bool) (loopN k70 3) s κ a := by
  rw [l70_3]
  exact loop_out (LP := W70_3 c81 c80 N) (fu := fuelC) hT hO (fun _ _ => rfl) (b70_3 c81 c80 N) loopOK_nil N h
def H70_2 : Trim := ⟨2, [], false, [3, 8], []⟩
theorem l70_2 : loopN k70 2 = .loop H70_2 (bodyOf (loopN k70 2)) := by kernel_rfl
def P70_2 : Ps := ⟨[(0, .u), (2, .u), (3, (.tb (Sh.int .i64))), (4, .u), (5, .u), (7, .u), (8, (.int .i64)), (9, .u), (11, .u), (20, .u), (21, .u), (22, .u), (23, .u), (24, .u), (30, .u), (31, .u), (32, .u), (33, .u), (44, .u), (49, .u), (58, .u), (61, .u), (62, .u), (63, .u), (64, .u), (76, .u)], []⟩
def Q70_2 : Nat → Ps
  | 4 => ⟨[(0, .u), (2, .u), (3, .u), (4, .u), (5, .u), (7, .u), (8, .u), (9, .u), (11, .u), (20, .u), (21, .u), (22, .u), (23, .u), (24, .u), (30, .u), (31, .u), (32, .u), (33, .u), (44, .u), (49, .u), (58, .u), (61, .u), (62, .u), (63, .u), (64, .u), (76, .u)], []⟩
  | _ => noPs
def u70_2 (c81 : Int → Option (List Int)) (c80 : Option Bool) (N n : Nat) (v : P70_2.T) (κ : (i : Nat) → (Q70_2 i).T → Option (Sh.bool).T) : Option (Sh.bool).T :=
  L70_2 c81 c80 N (κ 4 (((), ((), ((), ((), ((), ((), ((), ((), ((), ((), ((), ((), ((), ((), ((), ((), ((), ((), ((), ((), ((), ((), ((), ((), ((), ((), ())))))))))))))))))))))))))), ())) n v.1.2.2.1 v.1.2.2.2.2.2.2.1
def W70_2 (c81 : Int → Option (List Int)) (c80 : Option Bool) (N : Nat) : LoopF (Sh.bool).T := fun no =>
  match no with
  | 3 => lpOf 0 H70_3 P70_3 Q70_3 (u70_3 c81 c80 N N)
  | _ => fun _ _ => none
theorem b70_2 (c81 : Int → Option (List Int)) (c80 : Option Bool) (N n : Nat) (v : P70_2.T) (κ : (i : Nat) → (Q70_2 i).T → Option (Sh.bool).T) :
    evc (T70 c81 c80) (rawOf (RW70 c81 c80)) (W70_2 c81 c80 N) (retc k70.res Sh.bool) (modeOf FT) 0 fuelC (bodyOf (loopN k70 2)) (P70_2.st v) (roundK 0 H70_2 P70_2 Q70_2 (u70_2 c81 c80 N n) κ) = u70_2 c81 c80 N (n + 1) v κ := by kernel_rfl
theorem o70_2 (c81 : Int → Option (List Int)) (c80 : Option Bool) (hT : TabOK FT XT (T70 c81 c80)) (hO : RawOK FT XT (rawOf (α := (Sh.bool).T) (RW70 c81 c80))) (N : Nat) {s : St} {κ : Ex → St → Option (Sh.bool).T} {a : (Sh.bool).T} (h : lpOf 0 H70_2 P70_2 Q70_2 (u70_2 c81 c80 N N) s κ = some a) : Out FT XT 0 (retc k70.res Sh.bool) (loopN k70 2) s κ a := by
  rw [l70_2]
  exact loop_out (LP := W70_2 c81 c80 N) (fu := fuelC) hT hO (fun _ _ => rfl) (b70_2 c81 c80 N) (loopOK_cons l70_3 (fun s κ a h => o70_3 c81 c80 hT hO N h) loopOK_nil) N h
def H70_1 : Trim := ⟨1, [], false, [3, 5, 21, 22, 23, 30, 31, 32], []⟩
theorem l70_1 : loopN k70 1 = .loop H70_1 (bodyOf (loopN k70 1)) := by kernel_rfl
def P70_1 : Ps := ⟨[(0, .u), (2, .u), (3, (.tb (Sh.int .i64))), (4, .u), (5, (.int .i64)), (7, .u), (8, .u), (9, .u), (11, .u), (20, .u), (21, (.tb (Sh.int .i64))), (22, (.int .i64)), (23, (.int .i64)), (24, .u), (30, (.tb (Sh.int .i64))), (31, (.int .i64)), (32, (.int .i64)), (33, .u), (44, .u), (49, .u), (58, .u), (61, .u), (62, .u), (63, .u), (64, .u), (76, .u)], []⟩
def Q70_1 : Nat → Ps
  | 2 => ⟨[(0, .u), (2, .u), (3, (.tb (Sh.int .i64))), (4, .u), (5, .u), (7, .u), (8, .u), (9, .u), (11, .u), (20, .u), (21, (.tb (Sh.int .i64))), (22, (.int .i64)), (23, (.int .i64)), (24, .u), (30, .u), (31, .u), (32, .u), (33, .u), (44, .u), (49, .u), (58, .u), (61, .u), (62, .u), (63, .u), (64, .u), (76, .u)], []⟩
  | _ => noPs
def u70_1 (c81 : Int → Option (List Int)) (c80 : Option Bool) (N n : Nat) (v : P70_1.T) (κ : (i : Nat) → (Q70_1 i).T → Option (Sh.bool).T) : Option (Sh.bool).T :=
  L70_1 c81 c80 N (fun (y0 : List Int) (y1 : List Int) (y2 : Int) (y3 : Int) => κ 2 (((), ((), (y0, ((), ((), ((), ((), ((), ((), ((), (y1, (y2, (y3, ((), ((), ((), ((), ((), ((), ((), ((), ((), ((), ((), ((), ((), ())))))))))))))))))))))))))), ())) n v.1.2.2.1 v.1.2.2.2.2.1 v.1.2.2.2.2.2.2.2.2.2.2.1 v.1.2.2.2.2.2.2.2.2.2.2.2.1 v.1.2.2.2.2.2.2.2.2.2.2.2.2.1 v.1.2.2.2.2.2.2.2.2.2.2.2.2.2.2.1 v.1.2.2.2.2.2.2.2.2.2.2.2.2.2.2.2.1 v.1.2.2.2.2.2.2.2.2.2.2.2.2.2.2.2.2.1
def W70_1 (c81 : Int → Option (List Int)) (c80 : Option Bool) (N : Nat) : LoopF (Sh.bool).T := fun no =>
  match no with
  | _ => fun _ _ => none
theorem b70_1 (c81 : Int → Option (List Int)) (c80 : Option Bool) (N n : Nat) (v : P70_1.T) (κ : (i : Nat) → (Q70_1 i).T → Option (Sh.bool).T) :
    evc (T70 c81 c80) (rawOf (RW70 c81 c80)) (W70_1 c81 c80 N) (retc k70.res Sh.bool) (modeOf FT) 0 fuelC (bodyOf (loopN k70 1)) (P70_1.st v) (roundK 0 H70_1 P70_1 Q70_1 (u70_1 c81 c80 N n) κ) = u70_1 c81 c80 N (n + 1) v κ := by kernel_rfl
theorem o70_1 (c81 : Int → Option (List Int)) (c80 : Option Bool) (hT : TabOK FT XT (T70 c81 c80)) (hO : RawOK FT XT (rawOf (α := (Sh.bool).T) (RW70 c81 c80))) (N : Nat) {s : St} {κ : Ex → St → Option (Sh.bool).T} {a : (Sh.bool).T} (h : lpOf 0 H70_1 P70_1 Q70_1 (u70_1 c81 c80 N N) s κ = some a) : Out FT XT 0 (retc k70.res Sh.bool) (loopN k70 1) s κ a := by
  rw [l70_1]
  exact loop_out (LP := W70_1 c81 c80 N) (fu := fuelC) hT hO (fun _ _ => rfl) (b70_1 c81 c80 N) loopOK_nil N h
def H70_0 : Trim := ⟨0, [], false, [3, 21, 22, 23], []⟩
theorem l70_0 : loopN k70 0 = .loop H70_0 (bodyOf (loopN k70 0)) := by kernel_rfl
def P70_0 : Ps := ⟨[(0, .u), (2, .u), (3, (.tb (Sh.int .i64))), (4, .u), (5, .u), (7, .u), (8, .u), (9, .u), (11, .u), (20, .u), (21, (.tb (Sh.int .i64))), (22, (.int .i64)), (23, (.int .i64)), (24, .u), (30, .u), (31, .u), (32, .u), (33, .u), (44, .u), (49, .u), (58, .u), (61, .u), (62, .u), (63, .u), (64, .u), (76, .u)], []⟩
def Q70_0 : Nat → Ps
  | 0 => ⟨[(0, .u), (2, .u), (3, (.tb (Sh.int .i64))), (4, .u), (5, .u), (7, .u), (8, .u), (9, .u), (11, .u), (20, .u), (21, .u), (22, .u), (23, .u), (24, .u), (30, .u), (31, .u), (32, .u), (33, .u), (44, .u), (49, .u), (58, .u), (61, .u), (62, .u), (63, .u), (64, .u), (76, .u)], []⟩
  | _ => noPs
def u70_0 (c81 : Int → Option (List Int)) (c80 : Option Bool) (N n : Nat) (v : P70_0.T) (κ : (i : Nat) → (Q70_0 i).T → Option (Sh.bool).T) : Option (Sh.bool).T :=
  L70_0 c81 c80 N (fun (y0 : List Int) => κ 0 (((), ((), (y0, ((), ((), ((), ((), ((), ((), ((), ((), ((), ((), ((), ((), ((), ((), ((), ((), ((), ((), ((), ((), ((), ((), ((), ())))))))))))))))))))))))))), ())) n v.1.2.2.1 v.1.2.2.2.2.2.2.2.2.2.2.1 v.1.2.2.2.2.2.2.2.2.2.2.2.1 v.1.2.2.2.2.2.2.2.2.2.2.2.2.1
def W70_0 (c81 : Int → Option (List Int)) (c80 : Option Bool) (N : Nat) : LoopF (Sh.bool).T := fun no =>
  match no with
  | 1 => lpOf 0 H70_1 P70_1 Q70_1 (u70_1 c81 c80 N N)
  | _ => fun _ _ => none
theorem b70_0 (c81 : Int → Option (List Int)) (c80 : Option Bool) (N n : Nat) (v : P70_0.T) (κ : (i : Nat) → (Q70_0 i).T → Option (Sh.bool).T) :
    evc (T70 c81 c80) (rawOf (RW70 c81 c80)) (W70_0 c81 c80 N) (retc k70.res Sh.bool) (modeOf FT) 0 fuelC (bodyOf (loopN k70 0)) (P70_0.st v) (roundK 0 H70_0 P70_0 Q70_0 (u70_0 c81 c80 N n) κ) = u70_0 c81 c80 N (n + 1) v κ := by kernel_rfl
theorem o70_0 (c81 : Int → Option (List Int)) (c80 : Option Bool) (hT : TabOK FT XT (T70 c81 c80)) (hO : RawOK FT XT (rawOf (α := (Sh.bool).T) (RW70 c81 c80))) (N : Nat) {s : St} {κ : Ex → St → Option (Sh.bool).T} {a : (Sh.bool).T} (h : lpOf 0 H70_0 P70_0 Q70_0 (u70_0 c81 c80 N N) s κ = some a) : Out FT XT 0 (retc k70.res Sh.bool) (loopN k70 0) s κ a := by
  rw [l70_0]
  exact loop_out (LP := W70_0 c81 c80 N) (fu := fuelC) hT hO (fun _ _ => rfl) (b70_0 c81 c80 N) (loopOK_cons l70_1 (fun s κ a h => o70_1 c81 c80 hT hO N h) loopOK_nil) N h
def W70 (c81 : Int → Option (List Int)) (c80 : Option Bool) (N : Nat) : LoopF (Sh.bool).T := fun no =>
  match no with
  | 0 => lpOf 0 H70_0 P70_0 Q70_0 (u70_0 c81 c80 N N)
  | 2 => lpOf 0 H70_2 P70_2 Q70_2 (u70_2 c81 c80 N N)
  | _ => fun _ _ => none
theorem e70 (c81 : Int → Option (List Int)) (c80 : Option Bool) (N : Nat) (a0 : Int) : evc (T70 c81 c80) (rawOf (RW70 c81 c80)) (W70 c81 c80 N) (retc k70.res Sh.bool) (modeOf FT) 0 fuelC k70.body (env0 k70 (encL [(Sh.int .u8)] (a0, ())), []) (endK (retc k70.res Sh.bool)) = p70 c81 c80 N a0 := by kernel_rfl
theorem ok70 (c81 : Int → Option (List Int)) (c80 : Option Bool) (h81 : EntOK FT XT 81 (en81 c81)) (h80 : EntOK FT XT 80 (en80 c80)) {f : Int → Option Bool} (hf : ∀ a0 r, f a0 = some r → ∃ N, p70 c81 c80 N a0 = some r) : EntOK FT XT 70 (en70 f) := by
  have hT : TabOK FT XT (T70 c81 c80) := by
    intro g en hg
    unfold T70 at hg
    split at hg <;> first | (injection hg with hg; subst hg; assumption) | cases hg
  have hO : RawOK FT XT (rawOf (α := (Sh.bool).T) (RW70 c81 c80)) := by
    refine rawOf_ok (fun g en hg => ?_)
    unfold RW70 at hg
    split at hg <;> simp only [List.mem_cons, List.not_mem_nil, or_false] at hg <;> first | (subst hg; assumption) | (rcases hg with rfl | rfl <;> assumption) | (rcases hg with rfl | rfl | rfl <;> assumption) | (rcases hg with rfl | rfl | rfl | rfl <;> assumption)
  refine ⟨rfl, fun v r h => ?_⟩
  obtain ⟨a0, _⟩ := v
  obtain ⟨N, h1⟩ := hf _ _ h
  exact ans_c (R := Sh.bool) (tab := T70 c81 c80) (raw := (rawOf (RW70 c81 c80))) (LP := W70 c81 c80 N) (fu := fuelC) hT hO rfl rfl (Nat.le_of_ble_eq_true rfl) (loopOK_cons l70_0 (fun s κ a h => o70_0 c81 c80 hT hO N h) (loopOK_cons l70_2 (fun s κ a h => o70_2 c81 c80 hT hO N h) loopOK_nil)) ((e70 c81 c80 N _).trans h1)

def T111 : Nat → Option Ent
  | _ => none
def RW111 : Nat → List REnt
  | _ => []
def W111 (N : Nat) : LoopF (Sh.bool).T := fun no =>
  match no with
  | _ => fun _ _ => none
theorem e111 (N : Nat) (a0 : Int) : evc (T111) (rawOf (RW111)) (W111 N) (retc k111.res Sh.bool) (modeOf FT) 0 fuelC k111.body (env0 k111 (encL [(Sh.int .i64)] (a0, ())), []) (endK (retc k111.res Sh.bool)) = p111 N a0 := by kernel_rfl
theorem ok111 {f : Int → Option Bool} (hf : ∀ a0 r, f a0 = some r → ∃ N, p111 N a0 = some r) : EntOK FT XT 111 (en111 f) := by
  have hT : TabOK FT XT (T111) := by
    intro g en hg
    unfold T111 at hg
    split at hg <;> first | (injection hg with hg; subst hg; assumption) | cases hg
  have hO : RawOK FT XT (rawOf (α := (Sh.bool).T) (RW111)) := by
    refine rawOf_ok (fun g en hg => ?_)
    unfold RW111 at hg
    split at hg <;> simp only [List.mem_cons, List.not_mem_nil, or_false] at hg <;> first | (subst hg; assumption) | (rcases hg with rfl | rfl <;> assumption) | (rcases hg with rfl | rfl | rfl <;> assumption) | (rcases hg with rfl | rfl | rfl | rfl <;> assumption)
  refine ⟨rfl, fun v r h => ?_⟩
  obtain ⟨a0, _⟩ := v
  obtain ⟨N, h1⟩ := hf _ _ h
  exact ans_c (R := Sh.bool) (tab := T111) (raw := (rawOf (RW111))) (LP := W111 N) (fu := fuelC) hT hO rfl rfl (Nat.le_of_ble_eq_true rfl) loopOK_nil ((e111 N _).trans h1)

def T112 : Nat → Option Ent
  | _ => none
def RW112 : Nat → List REnt
  | _ => []
def W112 (N : Nat) : LoopF (Sh.bool).T := fun no =>
  match no with
  | _ => fun _ _ => none
theorem e112 (N : Nat) (a0 : Int) : evc (T112) (rawOf (RW112)) (W112 N) (retc k112.res Sh.bool) (modeOf FT) 0 fuelC k112.body (env0 k112 (encL [(Sh.int .i64)] (a0, ())), []) (endK (retc k112.res Sh.bool)) = p112 N a0 := by kernel_rfl
theorem ok112 {f : Int → Option Bool} (hf : ∀ a0 r, f a0 = some r → ∃ N, p112 N a0 = some r) : EntOK FT XT 112 (en112 f) := by
  have hT : TabOK FT XT (T112) := by
    intro g en hg
    unfold T112 at hg
    split at hg <;> first | (injection hg with hg; subst hg; assumption) | cases hg
  have hO : RawOK FT XT (rawOf (α := (Sh.bool).T) (RW112)) := by
    refine rawOf_ok (fun g en hg => ?_)
    unfold RW112 at hg
    split at hg <;> simp only [List.mem_cons, List.not_mem_nil, or_false] at hg <;> first | (subst hg; assumption) | (rcases hg with rfl | rfl <;> assumption) | (rcases hg with rfl | rfl | rfl <;> assumption) | (rcases hg with rfl | rfl | rfl | rfl <;> assumption)
  refine ⟨rfl, fun v r h => ?_⟩
  obtain ⟨a0, _⟩ := v
  obtain ⟨N, h1⟩ := hf _ _ h
  exact ans_c (R := Sh.bool) (tab := T112) (raw := (rawOf (RW112))) (LP := W112 N) (fu := fuelC) hT hO rfl rfl (Nat.le_of_ble_eq_true rfl) loopOK_nil ((e112 N _).trans h1)
end Go.Proofs.YtilhmbjcpflodaaE
