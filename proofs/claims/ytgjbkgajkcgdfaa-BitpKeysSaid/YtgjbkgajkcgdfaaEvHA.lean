/- The plain functions are the evaluator's. -/
import Derived.Test.YtgjbkgajkcgdfaaEvGA
import Derived.KernelRfl
namespace Go.Proofs.YtgjbkgajkcgdfaaE
open Go
set_option linter.unusedVariables false
set_option linter.unusedSimpArgs false

def T48v0 : Nat → Option Ent
  | _ => none
def RW48v0 : Nat → List REnt
  | _ => []
def H48v0_0 : Trim := ⟨0, [], false, [0, 2, 3], []⟩
theorem l48v0_0 : loopN k48 0 = .loop H48v0_0 (bodyOf (loopN k48 0)) := by kernel_rfl
def P48v0_0 : Ps := ⟨[(0, (.slc 0 1)), (2, (.int .i64)), (3, (.int .i64)), (9, .u)], [(.ints false .u8)]⟩
def Q48v0_0 : Nat → Ps
  | 0 => ⟨[(0, .u), (2, .u), (3, .u), (9, .u)], [(.ints false .u8)]⟩
  | _ => noPs
def u48v0_0 (N n : Nat) (v : P48v0_0.T) (κ : (i : Nat) → (Q48v0_0 i).T → Option QR48v0.T) : Option QR48v0.T :=
  L48v0_0 N (fun (y0 : List Int) => κ 0 (((), ((), ((), ((), ())))), (y0, ()))) n v.1.1.1 v.1.1.2 v.1.2.1 v.1.2.2.1 v.2.1
def W48v0_0 (N : Nat) : LoopF QR48v0.T := fun no =>
  match no with
  | _ => fun _ _ => none
theorem b48v0_0 (N n : Nat) (v : P48v0_0.T) (κ : (i : Nat) → (Q48v0_0 i).T → Option QR48v0.T) :
    evc (T48v0) (rawOf (RW48v0)) (W48v0_0 N) (retr k48.res 1 QR48v0) (modeOf FT) 1 fuelC (bodyOf (loopN k48 0)) (P48v0_0.st v) (roundK 1 H48v0_0 P48v0_0 Q48v0_0 (u48v0_0 N n) κ) = u48v0_0 N (n + 1) v κ := by kernel_rfl
theorem o48v0_0 (hT : TabOK FT XT (T48v0)) (hO : RawOK FT XT (rawOf (α := QR48v0.T) (RW48v0))) (N : Nat) {s : St} {κ : Ex → St → Option QR48v0.T} {a : QR48v0.T} (h : lpOf 1 H48v0_0 P48v0_0 Q48v0_0 (u48v0_0 N N) s κ = some a) : Out FT XT 1 (retr k48.res 1 QR48v0) (loopN k48 0) s κ a := by
  rw [l48v0_0]
  exact loop_out (LP := W48v0_0 N) (fu := fuelC) hT hO (fun _ _ => rfl) (b48v0_0 N) loopOK_nil N h
def W48v0 (N : Nat) : LoopF QR48v0.T := fun no =>
  match no with
  | 0 => lpOf 1 H48v0_0 P48v0_0 Q48v0_0 (u48v0_0 N N)
  | _ => fun _ _ => none
theorem e48v0 (N : Nat) (v : PR48v0.T) : evc (T48v0) (rawOf (RW48v0)) (W48v0 N) (retr k48.res 1 QR48v0) (modeOf FT) 1 fuelC k48.body (env0 k48 (PR48v0.a.st v.1), stH PR48v0.h v.2) (endK (retr k48.res 1 QR48v0)) = p48v0 N v.1.1.1 v.1.1.2 v.2.1 := by kernel_rfl
theorem ok48v0 {f : Nat → Nat → List Int → Option ((Unit × Unit) × ((List Int) × Unit))} (hf : ∀ a0 a1 a2 r, f a0 a1 a2 = some r → ∃ N, p48v0 N a0 a1 a2 = some r) : REntOK FT XT 48 (rn48v0 f) := by
  have hT : TabOK FT XT (T48v0) := by
    intro g en hg
    unfold T48v0 at hg
    split at hg <;> first | (injection hg with hg; subst hg; assumption) | cases hg
  have hO : RawOK FT XT (rawOf (α := QR48v0.T) (RW48v0)) := by
    refine rawOf_ok (fun g en hg => ?_)
    unfold RW48v0 at hg
    split at hg <;> simp only [List.mem_cons, List.not_mem_nil, or_false] at hg <;> first | (subst hg; assumption) | (rcases hg with rfl | rfl <;> assumption) | (rcases hg with rfl | rfl | rfl <;> assumption) | (rcases hg with rfl | rfl | rfl | rfl <;> assumption)
  intro v r w h hw
  obtain ⟨N, h1⟩ := hf _ _ _ _ h
  exact ans_r (Q := QR48v0) (tab := T48v0) (raw := (rawOf (RW48v0))) (LP := W48v0 N) (fu := fuelC) hT hO rfl rfl (Nat.le_of_ble_eq_true rfl) rfl (loopOK_cons l48v0_0 (fun s κ a h => o48v0_0 hT hO N h) loopOK_nil) ((e48v0 N v).trans h1) hw

def T19 (d48v0 : Nat → Nat → List Int → Option ((Unit × Unit) × ((List Int) × Unit))) : Nat → Option Ent
  | _ => none
def RW19 (d48v0 : Nat → Nat → List Int → Option ((Unit × Unit) × ((List Int) × Unit))) : Nat → List REnt
  | 48 => [rn48v0 d48v0]
  | _ => []
def H19_0 : Trim := ⟨0, [], false, [0, 2, 8, 19, 20], []⟩
theorem l19_0 : loopN k19 0 = .loop H19_0 (bodyOf (loopN k19 0)) := by kernel_rfl
def P19_0 : Ps := ⟨[(0, (.int .u64)), (1, .u), (2, .bool), (6, .u), (7, .u), (8, (.slc 0 1)), (9, .u), (15, .u), (19, (.int .i64)), (20, (.int .i64)), (21, .u), (33, .u)], [(.ints false .u8)]⟩
def Q19_0 : Nat → Ps
  | 0 => ⟨[(0, .u), (1, .u), (2, .bool), (6, .u), (7, .u), (8, (.slc 0 1)), (9, .u), (15, .u), (19, .u), (20, .u), (21, .u), (33, .u)], [(.ints false .u8)]⟩
  | _ => noPs
def u19_0 (d48v0 : Nat → Nat → List Int → Option ((Unit × Unit) × ((List Int) × Unit))) (N n : Nat) (v : P19_0.T) (κ : (i : Nat) → (Q19_0 i).T → Option (((Sh.tu (Sh.pr (Sh.sl (Sh.int .u8)) (Sh.int .i64)))).T)) : Option (((Sh.tu (Sh.pr (Sh.sl (Sh.int .u8)) (Sh.int .i64)))).T) :=
  L19_0 d48v0 N (fun (y0 : Bool) (y1 : Nat) (y2 : Nat) (y3 : List Int) => κ 0 (((), ((), (y0, ((), ((), ((y1, y2), ((), ((), ((), ((), ((), ((), ())))))))))))), (y3, ()))) n v.1.1 v.1.2.2.1 v.1.2.2.2.2.2.1.1 v.1.2.2.2.2.2.1.2 v.1.2.2.2.2.2.2.2.2.1 v.1.2.2.2.2.2.2.2.2.2.1 v.2.1
def W19_0 (d48v0 : Nat → Nat → List Int → Option ((Unit × Unit) × ((List Int) × Unit))) (N : Nat) : LoopF (((Sh.tu (Sh.pr (Sh.sl (Sh.int .u8)) (Sh.int .i64)))).T) := fun no =>
  match no with
  | _ => fun _ _ => none
theorem b19_0 (d48v0 : Nat → Nat → List Int → Option ((Unit × Unit) × ((List Int) × Unit))) (N n : Nat) (v : P19_0.T) (κ : (i : Nat) → (Q19_0 i).T → Option (((Sh.tu (Sh.pr (Sh.sl (Sh.int .u8)) (Sh.int .i64)))).T)) :
    evc (T19 d48v0) (rawOf (RW19 d48v0)) (W19_0 d48v0 N) (retc k19.res (Sh.tu (Sh.pr (Sh.sl (Sh.int .u8)) (Sh.int .i64)))) (modeOf FT) 0 fuelC (bodyOf (loopN k19 0)) (P19_0.st v) (roundK 0 H19_0 P19_0 Q19_0 (u19_0 d48v0 N n) κ) = u19_0 d48v0 N (n + 1) v κ := by kernel_rfl
theorem o19_0 (d48v0 : Nat → Nat → List Int → Option ((Unit × Unit) × ((List Int) × Unit))) (hT : TabOK FT XT (T19 d48v0)) (hO : RawOK FT XT (rawOf (α := ((Sh.tu (Sh.pr (Sh.sl (Sh.int .u8)) (Sh.int .i64)))).T) (RW19 d48v0))) (N : Nat) {s : St} {κ : Ex → St → Option (((Sh.tu (Sh.pr (Sh.sl (Sh.int .u8)) (Sh.int .i64)))).T)} {a : ((Sh.tu (Sh.pr (Sh.sl (Sh.int .u8)) (Sh.int .i64)))).T} (h : lpOf 0 H19_0 P19_0 Q19_0 (u19_0 d48v0 N N) s κ = some a) : Out FT XT 0 (retc k19.res (Sh.tu (Sh.pr (Sh.sl (Sh.int .u8)) (Sh.int .i64)))) (loopN k19 0) s κ a := by
  rw [l19_0]
  exact loop_out (LP := W19_0 d48v0 N) (fu := fuelC) hT hO (fun _ _ => rfl) (b19_0 d48v0 N) loopOK_nil N h
def W19 (d48v0 : Nat → Nat → List Int → Option ((Unit × Unit) × ((List Int) × Unit))) (N : Nat) : LoopF (((Sh.tu (Sh.pr (Sh.sl (Sh.int .u8)) (Sh.int .i64)))).T) := fun no =>
  match no with
  | 0 => lpOf 0 H19_0 P19_0 Q19_0 (u19_0 d48v0 N N)
  | _ => fun _ _ => none
theorem e19 (d48v0 : Nat → Nat → List Int → Option ((Unit × Unit) × ((List Int) × Unit))) (N : Nat) (a0 : Int) (a1 : Int) (a2 : Bool) : evc (T19 d48v0) (rawOf (RW19 d48v0)) (W19 d48v0 N) (retc k19.res (Sh.tu (Sh.pr (Sh.sl (Sh.int .u8)) (Sh.int .i64)))) (modeOf FT) 0 fuelC k19.body (env0 k19 (encL [(Sh.int .u64), (Sh.int .i64), Sh.bool] (a0, (a1, (a2, ())))), []) (endK (retc k19.res (Sh.tu (Sh.pr (Sh.sl (Sh.int .u8)) (Sh.int .i64))))) = p19 d48v0 N a0 a1 a2 := by kernel_rfl
theorem ok19 (d48v0 : Nat → Nat → List Int → Option ((Unit × Unit) × ((List Int) × Unit))) (h48v0 : REntOK FT XT 48 (rn48v0 d48v0)) {f : Int → Int → Bool → Option ((List Int) × Int)} (hf : ∀ a0 a1 a2 r, f a0 a1 a2 = some r → ∃ N, p19 d48v0 N a0 a1 a2 = some r) : EntOK FT XT 19 (en19 f) := by
  have hT : TabOK FT XT (T19 d48v0) := by
    intro g en hg
    unfold T19 at hg
    split at hg <;> first | (injection hg with hg; subst hg; assumption) | cases hg
  have hO : RawOK FT XT (rawOf (α := ((Sh.tu (Sh.pr (Sh.sl (Sh.int .u8)) (Sh.int .i64)))).T) (RW19 d48v0)) := by
    refine rawOf_ok (fun g en hg => ?_)
    unfold RW19 at hg
    split at hg <;> simp only [List.mem_cons, List.not_mem_nil, or_false] at hg <;> first | (subst hg; assumption) | (rcases hg with rfl | rfl <;> assumption) | (rcases hg with rfl | rfl | rfl <;> assumption) | (rcases hg with rfl | rfl | rfl | rfl <;> assumption)
  refine ⟨rfl, fun v r h => ?_⟩
  obtain ⟨a0, a1, a2, _⟩ := v
  obtain ⟨N, h1⟩ := hf _ _ _ _ h
  exact ans_c (R := (Sh.tu (Sh.pr (Sh.sl (Sh.int .u8)) (Sh.int .i64)))) (tab := T19 d48v0) (raw := (rawOf (RW19 d48v0))) (LP := W19 d48v0 N) (fu := fuelC) hT hO rfl rfl (Nat.le_of_ble_eq_true rfl) (loopOK_cons l19_0 (fun s κ a h => o19_0 d48v0 hT hO N h) loopOK_nil) ((e19 d48v0 N _ _ _).trans h1)

def T21 : Nat → Option Ent
  | _ => none
def RW21 : Nat → List REnt
  | _ => []
def H21_0 : Trim := ⟨0, [], false, [1, 6, 17, 18, 19], []⟩
theorem l21_0 : loopN k21 0 = .loop H21_0 (bodyOf (loopN k21 0)) := by kernel_rfl
def P21_0 : Ps := ⟨[(0, .u), (1, .bool), (4, .u), (5, .u), (6, (.int .u64)), (7, .u), (8, .u), (16, .u), (17, (.tb (Sh.int .u8))), (18, (.int .i64)), (19, (.int .i64)), (20, .u), (24, .u)], []⟩
def Q21_0 : Nat → Ps
  | 0 => ⟨[(0, .u), (1, .u), (4, .u), (5, .u), (6, (.int .u64)), (7, .u), (8, .u), (16, .u), (17, .u), (18, .u), (19, .u), (20, .u), (24, .u)], []⟩
  | _ => noPs
def u21_0 (N n : Nat) (v : P21_0.T) (κ : (i : Nat) → (Q21_0 i).T → Option (((Sh.tu (Sh.pr (Sh.int .u64) (Sh.int .i64)))).T)) : Option (((Sh.tu (Sh.pr (Sh.int .u64) (Sh.int .i64)))).T) :=
  L21_0 N (fun (y0 : Int) => κ 0 (((), ((), ((), ((), (y0, ((), ((), ((), ((), ((), ((), ((), ((), ()))))))))))))), ())) n v.1.2.1 v.1.2.2.2.2.1 v.1.2.2.2.2.2.2.2.2.1 v.1.2.2.2.2.2.2.2.2.2.1 v.1.2.2.2.2.2.2.2.2.2.2.1
def W21_0 (N : Nat) : LoopF (((Sh.tu (Sh.pr (Sh.int .u64) (Sh.int .i64)))).T) := fun no =>
  match no with
  | _ => fun _ _ => none
theorem b21_0 (N n : Nat) (v : P21_0.T) (κ : (i : Nat) → (Q21_0 i).T → Option (((Sh.tu (Sh.pr (Sh.int .u64) (Sh.int .i64)))).T)) :
    evc (T21) (rawOf (RW21)) (W21_0 N) (retc k21.res (Sh.tu (Sh.pr (Sh.int .u64) (Sh.int .i64)))) (modeOf FT) 0 fuelC (bodyOf (loopN k21 0)) (P21_0.st v) (roundK 0 H21_0 P21_0 Q21_0 (u21_0 N n) κ) = u21_0 N (n + 1) v κ := by kernel_rfl
theorem o21_0 (hT : TabOK FT XT (T21)) (hO : RawOK FT XT (rawOf (α := ((Sh.tu (Sh.pr (Sh.int .u64) (Sh.int .i64)))).T) (RW21))) (N : Nat) {s : St} {κ : Ex → St → Option (((Sh.tu (Sh.pr (Sh.int .u64) (Sh.int .i64)))).T)} {a : ((Sh.tu (Sh.pr (Sh.int .u64) (Sh.int .i64)))).T} (h : lpOf 0 H21_0 P21_0 Q21_0 (u21_0 N N) s κ = some a) : Out FT XT 0 (retc k21.res (Sh.tu (Sh.pr (Sh.int .u64) (Sh.int .i64)))) (loopN k21 0) s κ a := by
  rw [l21_0]
  exact loop_out (LP := W21_0 N) (fu := fuelC) hT hO (fun _ _ => rfl) (b21_0 N) loopOK_nil N h
def W21 (N : Nat) : LoopF (((Sh.tu (Sh.pr (Sh.int .u64) (Sh.int .i64)))).T) := fun no =>
  match no with
  | 0 => lpOf 0 H21_0 P21_0 Q21_0 (u21_0 N N)
  | _ => fun _ _ => none
theorem e21 (N : Nat) (a0 : List Int) (a1 : Bool) : evc (T21) (rawOf (RW21)) (W21 N) (retc k21.res (Sh.tu (Sh.pr (Sh.int .u64) (Sh.int .i64)))) (modeOf FT) 0 fuelC k21.body (env0 k21 (encL [(Sh.sl (Sh.int .u8)), Sh.bool] (a0, (a1, ()))), []) (endK (retc k21.res (Sh.tu (Sh.pr (Sh.int .u64) (Sh.int .i64))))) = p21 N a0 a1 := by kernel_rfl
theorem ok21 {f : List Int → Bool → Option (Int × Int)} (hf : ∀ a0 a1 r, f a0 a1 = some r → ∃ N, p21 N a0 a1 = some r) : EntOK FT XT 21 (en21 f) := by
  have hT : TabOK FT XT (T21) := by
    intro g en hg
    unfold T21 at hg
    split at hg <;> first | (injection hg with hg; subst hg; assumption) | cases hg
  have hO : RawOK FT XT (rawOf (α := ((Sh.tu (Sh.pr (Sh.int .u64) (Sh.int .i64)))).T) (RW21)) := by
    refine rawOf_ok (fun g en hg => ?_)
    unfold RW21 at hg
    split at hg <;> simp only [List.mem_cons, List.not_mem_nil, or_false] at hg <;> first | (subst hg; assumption) | (rcases hg with rfl | rfl <;> assumption) | (rcases hg with rfl | rfl | rfl <;> assumption) | (rcases hg with rfl | rfl | rfl | rfl <;> assumption)
  refine ⟨rfl, fun v r h => ?_⟩
  obtain ⟨a0, a1, _⟩ := v
  obtain ⟨N, h1⟩ := hf _ _ _ h
  exact ans_c (R := (Sh.tu (Sh.pr (Sh.int .u64) (Sh.int .i64)))) (tab := T21) (raw := (rawOf (RW21))) (LP := W21 N) (fu := fuelC) hT hO rfl rfl (Nat.le_of_ble_eq_true rfl) (loopOK_cons l21_0 (fun s κ a h => o21_0 hT hO N h) loopOK_nil) ((e21 N _ _).trans h1)

def T42 : Nat → Option Ent
  | _ => none
def RW42 : Nat → List REnt
  | _ => []
def H42_0 : Trim := ⟨0, [], false, [3, 10, 11, 12], [(3, (.imm []), 1)]⟩
theorem l42_0 : loopN k42 0 = .loop H42_0 (bodyOf (loopN k42 0)) := by kernel_rfl
def P42_0 : Ps := ⟨[(0, .u), (2, .u), (3, (.sl 0 1)), (5, .u), (10, (.tb (Sh.int .u8))), (11, (.int .i64)), (12, (.int .i64)), (13, .u)], [(.ints false .u8)]⟩
def Q42_0 : Nat → Ps
  | 0 => ⟨[(0, .u), (2, .u), (3, (.sl 0 1)), (5, .u), (10, .u), (11, .u), (12, .u), (13, .u)], [(.ints false .u8)]⟩
  | _ => noPs
def u42_0 (N n : Nat) (v : P42_0.T) (κ : (i : Nat) → (Q42_0 i).T → Option (Sh.str).T) : Option (Sh.str).T :=
  L42_0 N (fun (y0 : Nat) (y1 : List Int) => κ 0 (((), ((), (y0, ((), ((), ((), ((), ((), ())))))))), (y1, ()))) n v.1.2.2.1 v.1.2.2.2.2.1 v.1.2.2.2.2.2.1 v.1.2.2.2.2.2.2.1 v.2.1
def W42_0 (N : Nat) : LoopF (Sh.str).T := fun no =>
  match no with
  | _ => fun _ _ => none
theorem b42_0 (N n : Nat) (v : P42_0.T) (κ : (i : Nat) → (Q42_0 i).T → Option (Sh.str).T) :
    evc (T42) (rawOf (RW42)) (W42_0 N) (retc k42.res Sh.str) (modeOf FT) 0 fuelC (bodyOf (loopN k42 0)) (P42_0.st v) (roundK 0 H42_0 P42_0 Q42_0 (u42_0 N n) κ) = u42_0 N (n + 1) v κ := by kernel_rfl
theorem o42_0 (hT : TabOK FT XT (T42)) (hO : RawOK FT XT (rawOf (α := (Sh.str).T) (RW42))) (N : Nat) {s : St} {κ : Ex → St → Option (Sh.str).T} {a : (Sh.str).T} (h : lpOf 0 H42_0 P42_0 Q42_0 (u42_0 N N) s κ = some a) : Out FT XT 0 (retc k42.res Sh.str) (loopN k42 0) s κ a := by
  rw [l42_0]
  exact loop_out (LP := W42_0 N) (fu := fuelC) hT hO (fun _ _ => rfl) (b42_0 N) loopOK_nil N h
def W42 (N : Nat) : LoopF (Sh.str).T := fun no =>
  match no with
  | 0 => lpOf 0 H42_0 P42_0 Q42_0 (u42_0 N N)
  | _ => fun _ _ => none
theorem e42 (N : Nat) (a0 : List Int) : evc (T42) (rawOf (RW42)) (W42 N) (retc k42.res Sh.str) (modeOf FT) 0 fuelC k42.body (env0 k42 (encL [(Sh.sl (Sh.int .u8))] (a0, ())), []) (endK (retc k42.res Sh.str)) = p42 N a0 := by kernel_rfl
theorem ok42 {f : List Int → Option (List UInt8)} (hf : ∀ a0 r, f a0 = some r → ∃ N, p42 N a0 = some r) : EntOK FT XT 42 (en42 f) := by
  have hT : TabOK FT XT (T42) := by
    intro g en hg
    unfold T42 at hg
    split at hg <;> first | (injection hg with hg; subst hg; assumption) | cases hg
  have hO : RawOK FT XT (rawOf (α := (Sh.str).T) (RW42)) := by
    refine rawOf_ok (fun g en hg => ?_)
    unfold RW42 at hg
    split at hg <;> simp only [List.mem_cons, List.not_mem_nil, or_false] at hg <;> first | (subst hg; assumption) | (rcases hg with rfl | rfl <;> assumption) | (rcases hg with rfl | rfl | rfl <;> assumption) | (rcases hg with rfl | rfl | rfl | rfl <;> assumption)
  refine ⟨rfl, fun v r h => ?_⟩
  obtain ⟨a0, _⟩ := v
  obtain ⟨N, h1⟩ := hf _ _ h
  exact ans_c (R := Sh.str) (tab := T42) (raw := (rawOf (RW42))) (LP := W42 N) (fu := fuelC) hT hO rfl rfl (Nat.le_of_ble_eq_true rfl) (loopOK_cons l42_0 (fun s κ a h => o42_0 hT hO N h) loopOK_nil) ((e42 N _).trans h1)

def T47 : Nat → Option Ent
  | _ => none
def RW47 : Nat → List REnt
  | _ => []
def H47_0 : Trim := ⟨0, [], false, [1, 5, 13, 14, 15], []⟩
theorem l47_0 : loopN k47 0 = .loop H47_0 (bodyOf (loopN k47 0)) := by kernel_rfl
def P47_0 : Ps := ⟨[(0, .u), (1, (.tb (Sh.int .u8))), (4, .u), (5, (.int .u8)), (6, .u), (7, .u), (12, .u), (13, (.tb (Sh.int .u8))), (14, (.int .i64)), (15, (.int .i64)), (16, .u)], []⟩
def Q47_0 : Nat → Ps
  | 0 => ⟨[(0, .u), (1, .u), (4, .u), (5, (.int .u8)), (6, .u), (7, .u), (12, .u), (13, .u), (14, .u), (15, .u), (16, .u)], []⟩
  | _ => noPs
def u47_0 (N n : Nat) (v : P47_0.T) (κ : (i : Nat) → (Q47_0 i).T → Option (Sh.bool).T) : Option (Sh.bool).T :=
  L47_0 N (fun (y0 : Int) => κ 0 (((), ((), ((), (y0, ((), ((), ((), ((), ((), ((), ((), ()))))))))))), ())) n v.1.2.1 v.1.2.2.2.1 v.1.2.2.2.2.2.2.2.1 v.1.2.2.2.2.2.2.2.2.1 v.1.2.2.2.2.2.2.2.2.2.1
def W47_0 (N : Nat) : LoopF (Sh.bool).T := fun no =>
  match no with
  | _ => fun _ _ => none
theorem b47_0 (N n : Nat) (v : P47_0.T) (κ : (i : Nat) → (Q47_0 i).T → Option (Sh.bool).T) :
    evc (T47) (rawOf (RW47)) (W47_0 N) (retc k47.res Sh.bool) (modeOf FT) 0 fuelC (bodyOf (loopN k47 0)) (P47_0.st v) (roundK 0 H47_0 P47_0 Q47_0 (u47_0 N n) κ) = u47_0 N (n + 1) v κ := by kernel_rfl
theorem o47_0 (hT : TabOK FT XT (T47)) (hO : RawOK FT XT (rawOf (α := (Sh.bool).T) (RW47))) (N : Nat) {s : St} {κ : Ex → St → Option (Sh.bool).T} {a : (Sh.bool).T} (h : lpOf 0 H47_0 P47_0 Q47_0 (u47_0 N N) s κ = some a) : Out FT XT 0 (retc k47.res Sh.bool) (loopN k47 0) s κ a := by
  rw [l47_0]
  exact loop_out (LP := W47_0 N) (fu := fuelC) hT hO (fun _ _ => rfl) (b47_0 N) loopOK_nil N h
def W47 (N : Nat) : LoopF (Sh.bool).T := fun no =>
  match no with
  | 0 => lpOf 0 H47_0 P47_0 Q47_0 (u47_0 N N)
  | _ => fun _ _ => none
theorem e47 (N : Nat) (a0 : List Int) (a1 : List Int) : evc (T47) (rawOf (RW47)) (W47 N) (retc k47.res Sh.bool) (modeOf FT) 0 fuelC k47.body (env0 k47 (encL [(Sh.sl (Sh.int .u8)), (Sh.sl (Sh.int .u8))] (a0, (a1, ()))), []) (endK (retc k47.res Sh.bool)) = p47 N a0 a1 := by kernel_rfl
theorem ok47 {f : List Int → List Int → Option Bool} (hf : ∀ a0 a1 r, f a0 a1 = some r → ∃ N, p47 N a0 a1 = some r) : EntOK FT XT 47 (en47 f) := by
  have hT : TabOK FT XT (T47) := by
    intro g en hg
    unfold T47 at hg
    split at hg <;> first | (injection hg with hg; subst hg; assumption) | cases hg
  have hO : RawOK FT XT (rawOf (α := (Sh.bool).T) (RW47)) := by
    refine rawOf_ok (fun g en hg => ?_)
    unfold RW47 at hg
    split at hg <;> simp only [List.mem_cons, List.not_mem_nil, or_false] at hg <;> first | (subst hg; assumption) | (rcases hg with rfl | rfl <;> assumption) | (rcases hg with rfl | rfl | rfl <;> assumption) | (rcases hg with rfl | rfl | rfl | rfl <;> assumption)
  refine ⟨rfl, fun v r h => ?_⟩
  obtain ⟨a0, a1, _⟩ := v
  obtain ⟨N, h1⟩ := hf _ _ _ h
  exact ans_c (R := Sh.bool) (tab := T47) (raw := (rawOf (RW47))) (LP := W47 N) (fu := fuelC) hT hO rfl rfl (Nat.le_of_ble_eq_true rfl) (loopOK_cons l47_0 (fun s κ a h => o47_0 hT hO N h) loopOK_nil) ((e47 N _ _).trans h1)

def T18 (c19 : Int → Int → Bool → Option ((List Int) × Int)) (c21 : List Int → Bool → Option (Int × Int)) (c42 : List Int → Option (List UInt8)) (c47 : List Int → List Int → Option Bool) : Nat → Option Ent
  | 19 => some (en19 c19)
  | 21 => some (en21 c21)
  | 42 => some (en42 c42)
  | 47 => some (en47 c47)
  | _ => none
def RW18 (c19 : Int → Int → Bool → Option ((List Int) × Int)) (c21 : List Int → Bool → Option (Int × Int)) (c42 : List Int → Option (List UInt8)) (c47 : List Int → List Int → Option Bool) : Nat → List REnt
  | _ => []
def W18 (c19 : Int → Int → Bool → Option ((List Int) × Int)) (c21 : List Int → Bool → Option (Int × Int)) (c42 : List Int → Option (List UInt8)) (c47 : List Int → List Int → Option Bool) (N : Nat) : LoopF (Sh.bool).T := fun no =>
  match no with
  | _ => fun _ _ => none
theorem e18 (c19 : Int → Int → Bool → Option ((List Int) × Int)) (c21 : List Int → Bool → Option (Int × Int)) (c42 : List Int → Option (List UInt8)) (c47 : List Int → List Int → Option Bool) (N : Nat)  : evc (T18 c19 c21 c42 c47) (rawOf (RW18 c19 c21 c42 c47)) (W18 c19 c21 c42 c47 N) (retc k18.res Sh.bool) (modeOf FT) 0 fuelC k18.body (env0 k18 (encL [] ()), []) (endK (retc k18.res Sh.bool)) = p18 c19 c21 c42 c47 N  := by kernel_rfl
theorem ok18 (c19 : Int → Int → Bool → Option ((List Int) × Int)) (c21 : List Int → Bool → Option (Int × Int)) (c42 : List Int → Option (List UInt8)) (c47 : List Int → List Int → Option Bool) (h19 : EntOK FT XT 19 (en19 c19)) (h21 : EntOK FT XT 21 (en21 c21)) (h42 : EntOK FT XT 42 (en42 c42)) (h47 : EntOK FT XT 47 (en47 c47)) {f : Option Bool} (hf : ∀  r, f  = some r → ∃ N, p18 c19 c21 c42 c47 N  = some r) : EntOK FT XT 18 (en18 f) := by
  have hT : TabOK FT XT (T18 c19 c21 c42 c47) := by
    intro g en hg
    unfold T18 at hg
    split at hg <;> first | (injection hg with hg; subst hg; assumption) | cases hg
  have hO : RawOK FT XT (rawOf (α := (Sh.bool).T) (RW18 c19 c21 c42 c47)) := by
    refine rawOf_ok (fun g en hg => ?_)
    unfold RW18 at hg
    split at hg <;> simp only [List.mem_cons, List.not_mem_nil, or_false] at hg <;> first | (subst hg; assumption) | (rcases hg with rfl | rfl <;> assumption) | (rcases hg with rfl | rfl | rfl <;> assumption) | (rcases hg with rfl | rfl | rfl | rfl <;> assumption)
  refine ⟨rfl, fun v r h => ?_⟩
  obtain ⟨N, h1⟩ := hf _ h
  exact ans_c (R := Sh.bool) (tab := T18 c19 c21 c42 c47) (raw := (rawOf (RW18 c19 c21 c42 c47))) (LP := W18 c19 c21 c42 c47 N) (fu := fuelC) hT hO rfl rfl (Nat.le_of_ble_eq_true rfl) loopOK_nil ((e18 c19 c21 c42 c47 N ).trans h1)

def T50 : Nat → Option Ent
  | _ => none
def RW50 : Nat → List REnt
  | _ => []
def H50_0 : Trim := ⟨0, [], false, [0, 5, 6], []⟩
theorem l50_0 : loopN k50 0 = .loop H50_0 (bodyOf (loopN k50 0)) := by kernel_rfl
def P50_0 : Ps := ⟨[(0, (.int .u64)), (1, .u), (4, .u), (5, (.slc 0 1)), (6, (.int .i64)), (12, .u)], [(.ints false .u8)]⟩
def Q50_0 : Nat → Ps
  | 0 => ⟨[(0, .u), (1, .u), (4, .u), (5, (.slc 0 1)), (6, .u), (12, .u)], [(.ints false .u8)]⟩
  | _ => noPs
def u50_0 (N n : Nat) (v : P50_0.T) (κ : (i : Nat) → (Q50_0 i).T → Option (((Sh.sl (Sh.int .u8))).T)) : Option (((Sh.sl (Sh.int .u8))).T) :=
  L50_0 N (fun (y0 : Nat) (y1 : Nat) (y2 : List Int) => κ 0 (((), ((), ((), ((y0, y1), ((), ((), ())))))), (y2, ()))) n v.1.1 v.1.2.2.2.1.1 v.1.2.2.2.1.2 v.1.2.2.2.2.1 v.2.1
def W50_0 (N : Nat) : LoopF (((Sh.sl (Sh.int .u8))).T) := fun no =>
  match no with
  | _ => fun _ _ => none
theorem b50_0 (N n : Nat) (v : P50_0.T) (κ : (i : Nat) → (Q50_0 i).T → Option (((Sh.sl (Sh.int .u8))).T)) :
    evc (T50) (rawOf (RW50)) (W50_0 N) (retc k50.res (Sh.sl (Sh.int .u8))) (modeOf FT) 0 fuelC (bodyOf (loopN k50 0)) (P50_0.st v) (roundK 0 H50_0 P50_0 Q50_0 (u50_0 N n) κ) = u50_0 N (n + 1) v κ := by kernel_rfl
theorem o50_0 (hT : TabOK FT XT (T50)) (hO : RawOK FT XT (rawOf (α := ((Sh.sl (Sh.int .u8))).T) (RW50))) (N : Nat) {s : St} {κ : Ex → St → Option (((Sh.sl (Sh.int .u8))).T)} {a : ((Sh.sl (Sh.int .u8))).T} (h : lpOf 0 H50_0 P50_0 Q50_0 (u50_0 N N) s κ = some a) : Out FT XT 0 (retc k50.res (Sh.sl (Sh.int .u8))) (loopN k50 0) s κ a := by
  rw [l50_0]
  exact loop_out (LP := W50_0 N) (fu := fuelC) hT hO (fun _ _ => rfl) (b50_0 N) loopOK_nil N h
def W50 (N : Nat) : LoopF (((Sh.sl (Sh.int .u8))).T) := fun no =>
  match no with
  | 0 => lpOf 0 H50_0 P50_0 Q50_0 (u50_0 N N)
  | _ => fun _ _ => none
theorem e50 (N : Nat) (a0 : Int) (a1 : Int) : evc (T50) (rawOf (RW50)) (W50 N) (retc k50.res (Sh.sl (Sh.int .u8))) (modeOf FT) 0 fuelC k50.body (env0 k50 (encL [(Sh.int .u64), (Sh.int .i64)] (a0, (a1, ()))), []) (endK (retc k50.res (Sh.sl (Sh.int .u8)))) = p50 N a0 a1 := by kernel_rfl
theorem ok50 {f : Int → Int → Option (List Int)} (hf : ∀ a0 a1 r, f a0 a1 = some r → ∃ N, p50 N a0 a1 = some r) : EntOK FT XT 50 (en50 f) := by
  have hT : TabOK FT XT (T50) := by
    intro g en hg
    unfold T50 at hg
    split at hg <;> first | (injection hg with hg; subst hg; assumption) | cases hg
  have hO : RawOK FT XT (rawOf (α := ((Sh.sl (Sh.int .u8))).T) (RW50)) := by
    refine rawOf_ok (fun g en hg => ?_)
    unfold RW50 at hg
    split at hg <;> simp only [List.mem_cons, List.not_mem_nil, or_false] at hg <;> first | (subst hg; assumption) | (rcases hg with rfl | rfl <;> assumption) | (rcases hg with rfl | rfl | rfl <;> assumption) | (rcases hg with rfl | rfl | rfl | rfl <;> assumption)
  refine ⟨rfl, fun v r h => ?_⟩
  obtain ⟨a0, a1, _⟩ := v
  obtain ⟨N, h1⟩ := hf _ _ _ h
  exact ans_c (R := (Sh.sl (Sh.int .u8))) (tab := T50) (raw := (rawOf (RW50))) (LP := W50 N) (fu := fuelC) hT hO rfl rfl (Nat.le_of_ble_eq_true rfl) (loopOK_cons l50_0 (fun s κ a h => o50_0 hT hO N h) loopOK_nil) ((e50 N _ _).trans h1)

def T49 : Nat → Option Ent
  | _ => none
def RW49 : Nat → List REnt
  | _ => []
def H49_0 : Trim := ⟨0, [], false, [0, 3, 4], []⟩
theorem l49_0 : loopN k49 0 = .loop H49_0 (bodyOf (loopN k49 0)) := by kernel_rfl
def P49_0 : Ps := ⟨[(0, (.tb (Sh.int .u8))), (2, .u), (3, (.slc 0 1)), (4, (.int .i64)), (11, .u)], [(.ints false .u8)]⟩
def Q49_0 : Nat → Ps
  | 0 => ⟨[(0, .u), (2, .u), (3, (.slc 0 1)), (4, .u), (11, .u)], [(.ints false .u8)]⟩
  | _ => noPs
def u49_0 (N n : Nat) (v : P49_0.T) (κ : (i : Nat) → (Q49_0 i).T → Option (((Sh.sl (Sh.int .u8))).T)) : Option (((Sh.sl (Sh.int .u8))).T) :=
  L49_0 N (fun (y0 : Nat) (y1 : Nat) (y2 : List Int) => κ 0 (((), ((), ((y0, y1), ((), ((), ()))))), (y2, ()))) n v.1.1 v.1.2.2.1.1 v.1.2.2.1.2 v.1.2.2.2.1 v.2.1
def W49_0 (N : Nat) : LoopF (((Sh.sl (Sh.int .u8))).T) := fun no =>
  match no with
  | _ => fun _ _ => none
theorem b49_0 (N n : Nat) (v : P49_0.T) (κ : (i : Nat) → (Q49_0 i).T → Option (((Sh.sl (Sh.int .u8))).T)) :
    evc (T49) (rawOf (RW49)) (W49_0 N) (retc k49.res (Sh.sl (Sh.int .u8))) (modeOf FT) 0 fuelC (bodyOf (loopN k49 0)) (P49_0.st v) (roundK 0 H49_0 P49_0 Q49_0 (u49_0 N n) κ) = u49_0 N (n + 1) v κ := by kernel_rfl
theorem o49_0 (hT : TabOK FT XT (T49)) (hO : RawOK FT XT (rawOf (α := ((Sh.sl (Sh.int .u8))).T) (RW49))) (N : Nat) {s : St} {κ : Ex → St → Option (((Sh.sl (Sh.int .u8))).T)} {a : ((Sh.sl (Sh.int .u8))).T} (h : lpOf 0 H49_0 P49_0 Q49_0 (u49_0 N N) s κ = some a) : Out FT XT 0 (retc k49.res (Sh.sl (Sh.int .u8))) (loopN k49 0) s κ a := by
  rw [l49_0]
  exact loop_out (LP := W49_0 N) (fu := fuelC) hT hO (fun _ _ => rfl) (b49_0 N) loopOK_nil N h
def W49 (N : Nat) : LoopF (((Sh.sl (Sh.int .u8))).T) := fun no =>
  match no with
  | 0 => lpOf 0 H49_0 P49_0 Q49_0 (u49_0 N N)
  | _ => fun _ _ => none
theorem e49 (N : Nat) (a0 : List Int) : evc (T49) (rawOf (RW49)) (W49 N) (retc k49.res (Sh.sl (Sh.int .u8))) (modeOf FT) 0 fuelC k49.body (env0 k49 (encL [(Sh.sl (Sh.int .u8))] (a0, ())), []) (endK (retc k49.res (Sh.sl (Sh.int .u8)))) = p49 N a0 := by kernel_rfl
theorem ok49 {f : List Int → Option (List Int)} (hf : ∀ a0 r, f a0 = some r → ∃ N, p49 N a0 = some r) : EntOK FT XT 49 (en49 f) := by
  have hT : TabOK FT XT (T49) := by
    intro g en hg
    unfold T49 at hg
    split at hg <;> first | (injection hg with hg; subst hg; assumption) | cases hg
  have hO : RawOK FT XT (rawOf (α := ((Sh.sl (Sh.int .u8))).T) (RW49)) := by
    refine rawOf_ok (fun g en hg => ?_)
    unfold RW49 at hg
    split at hg <;> simp only [List.mem_cons, List.not_mem_nil, or_false] at hg <;> first | (subst hg; assumption) | (rcases hg with rfl | rfl <;> assumption) | (rcases hg with rfl | rfl | rfl <;> assumption) | (rcases hg with rfl | rfl | rfl | rfl <;> assumption)
  refine ⟨rfl, fun v r h => ?_⟩
  obtain ⟨a0, _⟩ := v
  obtain ⟨N, h1⟩ := hf _ _ h
  exact ans_c (R := (Sh.sl (Sh.int .u8))) (tab := T49) (raw := (rawOf (RW49))) (LP := W49 N) (fu := fuelC) hT hO rfl rfl (Nat.le_of_ble_eq_true rfl) (loopOK_cons l49_0 (fun s κ a h => o49_0 hT hO N h) loopOK_nil) ((e49 N _).trans h1)

def T20 (c50 : Int → Int → Option (List Int)) (c49 : List Int → Option (List Int)) : Nat → Option Ent
  | 50 => some (en50 c50)
  | 49 => some (en49 c49)
  | _ => none
def RW20 (c50 : Int → Int → Option (List Int)) (c49 : List Int → Option (List Int)) : Nat → List REnt
  | _ => []
def W20 (c50 : Int → Int → Option (List Int)) (c49 : List Int → Option (List Int)) (N : Nat) : LoopF (((Sh.tu (Sh.pr (Sh.sl (Sh.int .u8)) (Sh.int .i64)))).T) := fun no =>
  match no with
  | _ => fun _ _ => none
theorem e20 (c50 : Int → Int → Option (List Int)) (c49 : List Int → Option (List Int)) (N : Nat) (a0 : Int) (a1 : Int) (a2 : Bool) : evc (T20 c50 c49) (rawOf (RW20 c50 c49)) (W20 c50 c49 N) (retc k20.res (Sh.tu (Sh.pr (Sh.sl (Sh.int .u8)) (Sh.int .i64)))) (modeOf FT) 0 fuelC k20.body (env0 k20 (encL [(Sh.int .u64), (Sh.int .i64), Sh.bool] (a0, (a1, (a2, ())))), []) (endK (retc k20.res (Sh.tu (Sh.pr (Sh.sl (Sh.int .u8)) (Sh.int .i64))))) = p20 c50 c49 N a0 a1 a2 := by kernel_rfl
theorem ok20 (c50 : Int → Int → Option (List Int)) (c49 : List Int → Option (List Int)) (h50 : EntOK FT XT 50 (en50 c50)) (h49 : EntOK FT XT 49 (en49 c49)) {f : Int → Int → Bool → Option ((List Int) × Int)} (hf : ∀ a0 a1 a2 r, f a0 a1 a2 = some r → ∃ N, p20 c50 c49 N a0 a1 a2 = some r) : EntOK FT XT 20 (en20 f) := by
  have hT : TabOK FT XT (T20 c50 c49) := by
    intro g en hg
    unfold T20 at hg
    split at hg <;> first | (injection hg with hg; subst hg; assumption) | cases hg
  have hO : RawOK FT XT (rawOf (α := ((Sh.tu (Sh.pr (Sh.sl (Sh.int .u8)) (Sh.int .i64)))).T) (RW20 c50 c49)) := by
    refine rawOf_ok (fun g en hg => ?_)
    unfold RW20 at hg
    split at hg <;> simp only [List.mem_cons, List.not_mem_nil, or_false] at hg <;> first | (subst hg; assumption) | (rcases hg with rfl | rfl <;> assumption) | (rcases hg with rfl | rfl | rfl <;> assumption) | (rcases hg with rfl | rfl | rfl | rfl <;> assumption)
  refine ⟨rfl, fun v r h => ?_⟩
  obtain ⟨a0, a1, a2, _⟩ := v
  obtain ⟨N, h1⟩ := hf _ _ _ _ h
  exact ans_c (R := (Sh.tu (Sh.pr (Sh.sl (Sh.int .u8)) (Sh.int .i64)))) (tab := T20 c50 c49) (raw := (rawOf (RW20 c50 c49))) (LP := W20 c50 c49 N) (fu := fuelC) hT hO rfl rfl (Nat.le_of_ble_eq_true rfl) loopOK_nil ((e20 c50 c49 N _ _ _).trans h1)

def T51 : Nat → Option Ent
  | _ => none
def RW51 : Nat → List REnt
  | _ => []
def H51_0 : Trim := ⟨0, [], false, [0, 3, 4], []⟩
theorem l51_0 : loopN k51 0 = .loop H51_0 (bodyOf (loopN k51 0)) := by kernel_rfl
def P51_0 : Ps := ⟨[(0, (.tb (Sh.int .u8))), (2, .u), (3, (.int .u64)), (4, (.int .i64)), (8, .u)], []⟩
def Q51_0 : Nat → Ps
  | 0 => ⟨[(0, .u), (2, .u), (3, (.int .u64)), (4, .u), (8, .u)], []⟩
  | _ => noPs
def u51_0 (N n : Nat) (v : P51_0.T) (κ : (i : Nat) → (Q51_0 i).T → Option (((Sh.int .u64)).T)) : Option (((Sh.int .u64)).T) :=
  L51_0 N (fun (y0 : Int) => κ 0 (((), ((), (y0, ((), ((), ()))))), ())) n v.1.1 v.1.2.2.1 v.1.2.2.2.1
def W51_0 (N : Nat) : LoopF (((Sh.int .u64)).T) := fun no =>
  match no with
  | _ => fun _ _ => none
theorem b51_0 (N n : Nat) (v : P51_0.T) (κ : (i : Nat) → (Q51_0 i).T → Option (((Sh.int .u64)).T)) :
    evc (T51) (rawOf (RW51)) (W51_0 N) (retc k51.res (Sh.int .u64)) (modeOf FT) 0 fuelC (bodyOf (loopN k51 0)) (P51_0.st v) (roundK 0 H51_0 P51_0 Q51_0 (u51_0 N n) κ) = u51_0 N (n + 1) v κ := by kernel_rfl
theorem o51_0 (hT : TabOK FT XT (T51)) (hO : RawOK FT XT (rawOf (α := ((Sh.int .u64)).T) (RW51))) (N : Nat) {s : St} {κ : Ex → St → Option (((Sh.int .u64)).T)} {a : ((Sh.int .u64)).T} (h : lpOf 0 H51_0 P51_0 Q51_0 (u51_0 N N) s κ = some a) : Out FT XT 0 (retc k51.res (Sh.int .u64)) (loopN k51 0) s κ a := by
  rw [l51_0]
  exact loop_out (LP := W51_0 N) (fu := fuelC) hT hO (fun _ _ => rfl) (b51_0 N) loopOK_nil N h
def W51 (N : Nat) : LoopF (((Sh.int .u64)).T) := fun no =>
  match no with
  | 0 => lpOf 0 H51_0 P51_0 Q51_0 (u51_0 N N)
  | _ => fun _ _ => none
theorem e51 (N : Nat) (a0 : List Int) : evc (T51) (rawOf (RW51)) (W51 N) (retc k51.res (Sh.int .u64)) (modeOf FT) 0 fuelC k51.body (env0 k51 (encL [(Sh.sl (Sh.int .u8))] (a0, ())), []) (endK (retc k51.res (Sh.int .u64))) = p51 N a0 := by kernel_rfl
theorem ok51 {f : List Int → Option Int} (hf : ∀ a0 r, f a0 = some r → ∃ N, p51 N a0 = some r) : EntOK FT XT 51 (en51 f) := by
  have hT : TabOK FT XT (T51) := by
    intro g en hg
    unfold T51 at hg
    split at hg <;> first | (injection hg with hg; subst hg; assumption) | cases hg
  have hO : RawOK FT XT (rawOf (α := ((Sh.int .u64)).T) (RW51)) := by
    refine rawOf_ok (fun g en hg => ?_)
    unfold RW51 at hg
    split at hg <;> simp only [List.mem_cons, List.not_mem_nil, or_false] at hg <;> first | (subst hg; assumption) | (rcases hg with rfl | rfl <;> assumption) | (rcases hg with rfl | rfl | rfl <;> assumption) | (rcases hg with rfl | rfl | rfl | rfl <;> assumption)
  refine ⟨rfl, fun v r h => ?_⟩
  obtain ⟨a0, _⟩ := v
  obtain ⟨N, h1⟩ := hf _ _ h
  exact ans_c (R := (Sh.int .u64)) (tab := T51) (raw := (rawOf (RW51))) (LP := W51 N) (fu := fuelC) hT hO rfl rfl (Nat.le_of_ble_eq_true rfl) (loopOK_cons l51_0 (fun s κ a h => o51_0 hT hO N h) loopOK_nil) ((e51 N _).trans h1)

def T22 (c49 : List Int → Option (List Int)) (c51 : List Int → Option Int) : Nat → Option Ent
  | 49 => some (en49 c49)
  | 51 => some (en51 c51)
  | _ => none
def RW22 (c49 : List Int → Option (List Int)) (c51 : List Int → Option Int) : Nat → List REnt
  | _ => []
def W22 (c49 : List Int → Option (List Int)) (c51 : List Int → Option Int) (N : Nat) : LoopF (((Sh.tu (Sh.pr (Sh.int .u64) (Sh.int .i64)))).T) := fun no =>
  match no with
  | _ => fun _ _ => none
theorem e22 (c49 : List Int → Option (List Int)) (c51 : List Int → Option Int) (N : Nat) (a0 : List Int) (a1 : Bool) : evc (T22 c49 c51) (rawOf (RW22 c49 c51)) (W22 c49 c51 N) (retc k22.res (Sh.tu (Sh.pr (Sh.int .u64) (Sh.int .i64)))) (modeOf FT) 0 fuelC k22.body (env0 k22 (encL [(Sh.sl (Sh.int .u8)), Sh.bool] (a0, (a1, ()))), []) (endK (retc k22.res (Sh.tu (Sh.pr (Sh.int .u64) (Sh.int .i64))))) = p22 c49 c51 N a0 a1 := by kernel_rfl
theorem ok22 (c49 : List Int → Option (List Int)) (c51 : List Int → Option Int) (h49 : EntOK FT XT 49 (en49 c49)) (h51 : EntOK FT XT 51 (en51 c51)) {f : List Int → Bool → Option (Int × Int)} (hf : ∀ a0 a1 r, f a0 a1 = some r → ∃ N, p22 c49 c51 N a0 a1 = some r) : EntOK FT XT 22 (en22 f) := by
  have hT : TabOK FT XT (T22 c49 c51) := by
    intro g en hg
    unfold T22 at hg
    split at hg <;> first | (injection hg with hg; subst hg; assumption) | cases hg
  have hO : RawOK FT XT (rawOf (α := ((Sh.tu (Sh.pr (Sh.int .u64) (Sh.int .i64)))).T) (RW22 c49 c51)) := by
    refine rawOf_ok (fun g en hg => ?_)
    unfold RW22 at hg
    split at hg <;> simp only [List.mem_cons, List.not_mem_nil, or_false] at hg <;> first | (subst hg; assumption) | (rcases hg with rfl | rfl <;> assumption) | (rcases hg with rfl | rfl | rfl <;> assumption) | (rcases hg with rfl | rfl | rfl | rfl <;> assumption)
  refine ⟨rfl, fun v r h => ?_⟩
  obtain ⟨a0, a1, _⟩ := v
  obtain ⟨N, h1⟩ := hf _ _ _ h
  exact ans_c (R := (Sh.tu (Sh.pr (Sh.int .u64) (Sh.int .i64)))) (tab := T22 c49 c51) (raw := (rawOf (RW22 c49 c51))) (LP := W22 c49 c51 N) (fu := fuelC) hT hO rfl rfl (Nat.le_of_ble_eq_true rfl) loopOK_nil ((e22 c49 c51 N _ _).trans h1)

def T23 : Nat → Option Ent
  | _ => none
def RW23 : Nat → List REnt
  | _ => []
def H23_0 : Trim := ⟨0, [], false, [0, 1, 5], []⟩
theorem l23_0 : loopN k23 0 = .loop H23_0 (bodyOf (loopN k23 0)) := by kernel_rfl
def P23_0 : Ps := ⟨[(0, (.tb (Sh.int .u8))), (1, (.tb (Sh.int .u8))), (4, .u), (5, (.int .i64)), (10, .u), (14, .u), (25, .u)], []⟩
def Q23_0 : Nat → Ps
  | 0 => ⟨[(0, .u), (1, .u), (4, .u), (5, .u), (10, .u), (14, .u), (25, .u)], []⟩
  | _ => noPs
def u23_0 (N n : Nat) (v : P23_0.T) (κ : (i : Nat) → (Q23_0 i).T → Option (Sh.bool).T) : Option (Sh.bool).T :=
  L23_0 N (κ 0 (((), ((), ((), ((), ((), ((), ((), ()))))))), ())) n v.1.1 v.1.2.1 v.1.2.2.2.1
def W23_0 (N : Nat) : LoopF (Sh.bool).T := fun no =>
  match no with
  | _ => fun _ _ => none
theorem b23_0 (N n : Nat) (v : P23_0.T) (κ : (i : Nat) → (Q23_0 i).T → Option (Sh.bool).T) :
    evc (T23) (rawOf (RW23)) (W23_0 N) (retc k23.res Sh.bool) (modeOf FT) 0 fuelC (bodyOf (loopN k23 0)) (P23_0.st v) (roundK 0 H23_0 P23_0 Q23_0 (u23_0 N n) κ) = u23_0 N (n + 1) v κ := by kernel_rfl
theorem o23_0 (hT : TabOK FT XT (T23)) (hO : RawOK FT XT (rawOf (α := (Sh.bool).T) (RW23))) (N : Nat) {s : St} {κ : Ex → St → Option (Sh.bool).T} {a : (Sh.bool).T} (h : lpOf 0 H23_0 P23_0 Q23_0 (u23_0 N N) s κ = some a) : Out FT XT 0 (retc k23.res Sh.bool) (loopN k23 0) s κ a := by
  rw [l23_0]
  exact loop_out (LP := W23_0 N) (fu := fuelC) hT hO (fun _ _ => rfl) (b23_0 N) loopOK_nil N h
def W23 (N : Nat) : LoopF (Sh.bool).T := fun no =>
  match no with
  | 0 => lpOf 0 H23_0 P23_0 Q23_0 (u23_0 N N)
  | _ => fun _ _ => none
theorem e23 (N : Nat) (a0 : List Int) (a1 : List Int) : evc (T23) (rawOf (RW23)) (W23 N) (retc k23.res Sh.bool) (modeOf FT) 0 fuelC k23.body (env0 k23 (encL [(Sh.sl (Sh.int .u8)), (Sh.sl (Sh.int .u8))] (a0, (a1, ()))), []) (endK (retc k23.res Sh.bool)) = p23 N a0 a1 := by kernel_rfl
theorem ok23 {f : List Int → List Int → Option Bool} (hf : ∀ a0 a1 r, f a0 a1 = some r → ∃ N, p23 N a0 a1 = some r) : EntOK FT XT 23 (en23 f) := by
  have hT : TabOK FT XT (T23) := by
    intro g en hg
    unfold T23 at hg
    split at hg <;> first | (injection hg with hg; subst hg; assumption) | cases hg
  have hO : RawOK FT XT (rawOf (α := (Sh.bool).T) (RW23)) := by
    refine rawOf_ok (fun g en hg => ?_)
    unfold RW23 at hg
    split at hg <;> simp only [List.mem_cons, List.not_mem_nil, or_false] at hg <;> first | (subst hg; assumption) | (rcases hg with rfl | rfl <;> assumption) | (rcases hg with rfl | rfl | rfl <;> assumption) | (rcases hg with rfl | rfl | rfl | rfl <;> assumption)
  refine ⟨rfl, fun v r h => ?_⟩
  obtain ⟨a0, a1, _⟩ := v
  obtain ⟨N, h1⟩ := hf _ _ _ h
  exact ans_c (R := Sh.bool) (tab := T23) (raw := (rawOf (RW23))) (LP := W23 N) (fu := fuelC) hT hO rfl rfl (Nat.le_of_ble_eq_true rfl) (loopOK_cons l23_0 (fun s κ a h => o23_0 hT hO N h) loopOK_nil) ((e23 N _ _).trans h1)

def T10 (c18 : Option Bool) (c19 : Int → Int → Bool → Option ((List Int) × Int)) (c20 : Int → Int → Bool → Option ((List Int) × Int)) (c21 : List Int → Bool → Option (Int × Int)) (c22 : List Int → Bool → Option (Int × Int)) (c23 : List Int → List Int → Option Bool) : Nat → Option Ent
  | 18 => some (en18 c18)
  | 19 => some (en19 c19)
  | 20 => some (en20 c20)
  | 21 => some (en21 c21)
  | 22 => some (en22 c22)
  | 23 => some (en23 c23)
  | _ => none
def RW10 (c18 : Option Bool) (c19 : Int → Int → Bool → Option ((List Int) × Int)) (c20 : Int → Int → Bool → Option ((List Int) × Int)) (c21 : List Int → Bool → Option (Int × Int)) (c22 : List Int → Bool → Option (Int × Int)) (c23 : List Int → List Int → Option Bool) : Nat → List REnt
  | _ => []
def H10_0 : Trim := ⟨0, [], false, [0, 1, 2, 21, 22, 23], []⟩
theorem l10_0 : loopN k10 0 = .loop H10_0 (bodyOf (loopN k10 0)) := by kernel_rfl
def W10_0 (c18 : Option Bool) (c19 : Int → Int → Bool → Option ((List Int) × Int)) (c20 : Int → Int → Bool → Option ((List Int) × Int)) (c21 : List Int → Bool → Option (Int × Int)) (c22 : List Int → Bool → Option (Int × Int)) (c23 : List Int → List Int → Option Bool) (N : Nat) : LoopF (Sh.bool).T := fun no =>
  match no with
  | _ => fun _ _ => none
theorem o10_0 (c18 : Option Bool) (c19 : Int → Int → Bool → Option ((List Int) × Int)) (c20 : Int → Int → Bool → Option ((List Int) × Int)) (c21 : List Int → Bool → Option (Int × Int)) (c22 : List Int → Bool → Option (Int × Int)) (c23 : List Int → List Int → Option Bool) (hT : TabOK FT XT (T10 c18 c19 c20 c21 c22 c23)) (hO : RawOK FT XT (rawOf (α := (Sh.bool).T) (RW10 c18 c19 c20 c21 c22 c23))) (N : Nat) {s : St} {κ : Ex → St → Option (Sh.bool).T} {a : (Sh.bool).T} (h : unr (T10 c18 c19 c20 c21 c22 c23) (rawOf (RW10 c18 c19 c20 c21 c22 c23)) (W10_0 c18 c19 c20 c21 c22 c23 N) (retc k10.res Sh.bool) (modeOf FT) 0 fuelC H10_0 (bodyOf (loopN k10 0)) 70 s κ = some a) : Out FT XT 0 (retc k10.res Sh.bool) (loopN k10 0) s κ a := by
  rw [l10_0]
  exact unr_out hT hO loopOK_nil 70 h
def W10 (c18 : Option Bool) (c19 : Int → Int → Bool → Option ((List Int) × Int)) (c20 : Int → Int → Bool → Option ((List Int) × Int)) (c21 : List Int → Bool → Option (Int × Int)) (c22 : List Int → Bool → Option (Int × Int)) (c23 : List Int → List Int → Option Bool) (N : Nat) : LoopF (Sh.bool).T := fun no =>
  match no with
  | 0 => unr (T10 c18 c19 c20 c21 c22 c23) (rawOf (RW10 c18 c19 c20 c21 c22 c23)) (W10_0 c18 c19 c20 c21 c22 c23 N) (retc k10.res Sh.bool) (modeOf FT) 0 fuelC H10_0 (bodyOf (loopN k10 0)) 70
  | _ => fun _ _ => none
theorem e10 (c18 : Option Bool) (c19 : Int → Int → Bool → Option ((List Int) × Int)) (c20 : Int → Int → Bool → Option ((List Int) × Int)) (c21 : List Int → Bool → Option (Int × Int)) (c22 : List Int → Bool → Option (Int × Int)) (c23 : List Int → List Int → Option Bool) (N : Nat) (a0 : Int) (a1 : Int) (a2 : List Int) : evc (T10 c18 c19 c20 c21 c22 c23) (rawOf (RW10 c18 c19 c20 c21 c22 c23)) (W10 c18 c19 c20 c21 c22 c23 N) (retc k10.res Sh.bool) (modeOf FT) 0 fuelC k10.body (env0 k10 (encL [(Sh.int .u64), (Sh.int .i64), (Sh.sl (Sh.int .u8))] (a0, (a1, (a2, ())))), []) (endK (retc k10.res Sh.bool)) = p10 c18 c19 c20 c21 c22 c23 N a0 a1 a2 := by kernel_rfl
theorem ok10 (c18 : Option Bool) (c19 : Int → Int → Bool → Option ((List Int) × Int)) (c20 : Int → Int → Bool → Option ((List Int) × Int)) (c21 : List Int → Bool → Option (Int × Int)) (c22 : List Int → Bool → Option (Int × Int)) (c23 : List Int → List Int → Option Bool) (h18 : EntOK FT XT 18 (en18 c18)) (h19 : EntOK FT XT 19 (en19 c19)) (h20 : EntOK FT XT 20 (en20 c20)) (h21 : EntOK FT XT 21 (en21 c21)) (h22 : EntOK FT XT 22 (en22 c22)) (h23 : EntOK FT XT 23 (en23 c23)) {f : Int → Int → List Int → Option Bool} (hf : ∀ a0 a1 a2 r, f a0 a1 a2 = some r → ∃ N, p10 c18 c19 c20 c21 c22 c23 N a0 a1 a2 = some r) : EntOK FT XT 10 (en10 f) := by
  have hT : TabOK FT XT (T10 c18 c19 c20 c21 c22 c23) := by
    intro g en hg
    unfold T10 at hg
    split at hg <;> first | (injection hg with hg; subst hg; assumption) | cases hg
  have hO : RawOK FT XT (rawOf (α := (Sh.bool).T) (RW10 c18 c19 c20 c21 c22 c23)) := by
    refine rawOf_ok (fun g en hg => ?_)
    unfold RW10 at hg
    split at hg <;> simp only [List.mem_cons, List.not_mem_nil, or_false] at hg <;> first | (subst hg; assumption) | (rcases hg with rfl | rfl <;> assumption) | (rcases hg with rfl | rfl | rfl <;> assumption) | (rcases hg with rfl | rfl | rfl | rfl <;> assumption)
  refine ⟨rfl, fun v r h => ?_⟩
  obtain ⟨a0, a1, a2, _⟩ := v
  obtain ⟨N, h1⟩ := hf _ _ _ _ h
  exact ans_c (R := Sh.bool) (tab := T10 c18 c19 c20 c21 c22 c23) (raw := (rawOf (RW10 c18 c19 c20 c21 c22 c23))) (LP := W10 c18 c19 c20 c21 c22 c23 N) (fu := fuelC) hT hO rfl rfl (Nat.le_of_ble_eq_true rfl) (loopOK_cons l10_0 (fun s κ a h => o10_0 c18 c19 c20 c21 c22 c23 hT hO N h) loopOK_nil) ((e10 c18 c19 c20 c21 c22 c23 N _ _ _).trans h1)

def T53 : Nat → Option Ent
  | _ => none
def RW53 : Nat → List REnt
  | _ => []
def W53 (N : Nat) : LoopF (Sh.bool).T := fun no =>
  match no with
  | _ => fun _ _ => none
theorem e53 (N : Nat) (a0 : Int) : evc (T53) (rawOf (RW53)) (W53 N) (retc k53.res Sh.bool) (modeOf FT) 0 fuelC k53.body (env0 k53 (encL [(Sh.int .i64)] (a0, ())), []) (endK (retc k53.res Sh.bool)) = p53 N a0 := by kernel_rfl
theorem ok53 {f : Int → Option Bool} (hf : ∀ a0 r, f a0 = some r → ∃ N, p53 N a0 = some r) : EntOK FT XT 53 (en53 f) := by
  have hT : TabOK FT XT (T53) := by
    intro g en hg
    unfold T53 at hg
    split at hg <;> first | (injection hg with hg; subst hg; assumption) | cases hg
  have hO : RawOK FT XT (rawOf (α := (Sh.bool).T) (RW53)) := by
    refine rawOf_ok (fun g en hg => ?_)
    unfold RW53 at hg
    split at hg <;> simp only [List.mem_cons, List.not_mem_nil, or_false] at hg <;> first | (subst hg; assumption) | (rcases hg with rfl | rfl <;> assumption) | (rcases hg with rfl | rfl | rfl <;> assumption) | (rcases hg with rfl | rfl | rfl | rfl <;> assumption)
  refine ⟨rfl, fun v r h => ?_⟩
  obtain ⟨a0, _⟩ := v
  obtain ⟨N, h1⟩ := hf _ _ h
  exact ans_c (R := Sh.bool) (tab := T53) (raw := (rawOf (RW53))) (LP := W53 N) (fu := fuelC) hT hO rfl rfl (Nat.le_of_ble_eq_true rfl) loopOK_nil ((e53 N _).trans h1)

def T33 (c53 : Int → Option Bool) : Nat → Option Ent
  | 53 => some (en53 c53)
  | _ => none
def RW33 (c53 : Int → Option Bool) : Nat → List REnt
  | _ => []
def W33 (c53 : Int → Option Bool) (N : Nat) : LoopF (((Sh.int .u64)).T) := fun no =>
  match no with
  | _ => fun _ _ => none
theorem e33 (c53 : Int → Option Bool) (N : Nat) (a0 : Int) (a1 : Int) (a2 : Int) : evc (T33 c53) (rawOf (RW33 c53)) (W33 c53 N) (retc k33.res (Sh.int .u64)) (modeOf FT) 0 fuelC k33.body (env0 k33 (encL [(Sh.int .u64), (Sh.int .i64), (Sh.int .i64)] (a0, (a1, (a2, ())))), []) (endK (retc k33.res (Sh.int .u64))) = p33 c53 N a0 a1 a2 := by kernel_rfl
theorem ok33 (c53 : Int → Option Bool) (h53 : EntOK FT XT 53 (en53 c53)) {f : Int → Int → Int → Option Int} (hf : ∀ a0 a1 a2 r, f a0 a1 a2 = some r → ∃ N, p33 c53 N a0 a1 a2 = some r) : EntOK FT XT 33 (en33 f) := by
  have hT : TabOK FT XT (T33 c53) := by
    intro g en hg
    unfold T33 at hg
    split at hg <;> first | (injection hg with hg; subst hg; assumption) | cases hg
  have hO : RawOK FT XT (rawOf (α := ((Sh.int .u64)).T) (RW33 c53)) := by
    refine rawOf_ok (fun g en hg => ?_)
    unfold RW33 at hg
    split at hg <;> simp only [List.mem_cons, List.not_mem_nil, or_false] at hg <;> first | (subst hg; assumption) | (rcases hg with rfl | rfl <;> assumption) | (rcases hg with rfl | rfl | rfl <;> assumption) | (rcases hg with rfl | rfl | rfl | rfl <;> assumption)
  refine ⟨rfl, fun v r h => ?_⟩
  obtain ⟨a0, a1, a2, _⟩ := v
  obtain ⟨N, h1⟩ := hf _ _ _ _ h
  exact ans_c (R := (Sh.int .u64)) (tab := T33 c53) (raw := (rawOf (RW33 c53))) (LP := W33 c53 N) (fu := fuelC) hT hO rfl rfl (Nat.le_of_ble_eq_true rfl) loopOK_nil ((e33 c53 N _ _ _).trans h1)

def T54v0 (c33 : Int → Int → Int → Option Int) : Nat → Option Ent
  | 33 => some (en33 c33)
  | _ => none
def RW54v0 (c33 : Int → Int → Int → Option Int) : Nat → List REnt
  | _ => []
def W54v0 (c33 : Int → Int → Int → Option Int) (N : Nat) : LoopF QR54v0.T := fun no =>
  match no with
  | _ => fun _ _ => none
theorem e54v0 (c33 : Int → Int → Int → Option Int) (N : Nat) (v : PR54v0.T) : evc (T54v0 c33) (rawOf (RW54v0 c33)) (W54v0 c33 N) (retr k54.res 4 QR54v0) (modeOf FT) 4 fuelC k54.body (env0 k54 (PR54v0.a.st v.1), stH PR54v0.h v.2) (endK (retr k54.res 4 QR54v0)) = p54v0 c33 N v.1.1 v.2.1.1 v.2.2.1 v.2.2.2.1 v.2.2.2.2.1 := by kernel_rfl
theorem ok54v0 (c33 : Int → Int → Int → Option Int) (h33 : EntOK FT XT 33 (en33 c33)) {f : Int → Bool → List Int → List Int → List Int → Option ((Unit × Unit) × ((Bool × Unit) × ((List Int) × ((List Int) × ((List Int) × Unit)))))} (hf : ∀ a0 a1 a2 a3 a4 r, f a0 a1 a2 a3 a4 = some r → ∃ N, p54v0 c33 N a0 a1 a2 a3 a4 = some r) : REntOK FT XT 54 (rn54v0 f) := by
  have hT : TabOK FT XT (T54v0 c33) := by
    intro g en hg
    unfold T54v0 at hg
    split at hg <;> first | (injection hg with hg; subst hg; assumption) | cases hg
  have hO : RawOK FT XT (rawOf (α := QR54v0.T) (RW54v0 c33)) := by
    refine rawOf_ok (fun g en hg => ?_)
    unfold RW54v0 at hg
    split at hg <;> simp only [List.mem_cons, List.not_mem_nil, or_false] at hg <;> first | (subst hg; assumption) | (rcases hg with rfl | rfl <;> assumption) | (rcases hg with rfl | rfl | rfl <;> assumption) | (rcases hg with rfl | rfl | rfl | rfl <;> assumption)
  intro v r w h hw
  obtain ⟨N, h1⟩ := hf _ _ _ _ _ _ h
  exact ans_r (Q := QR54v0) (tab := T54v0 c33) (raw := (rawOf (RW54v0 c33))) (LP := W54v0 c33 N) (fu := fuelC) hT hO rfl rfl (Nat.le_of_ble_eq_true rfl) rfl loopOK_nil ((e54v0 c33 N v).trans h1) hw

def T27 (c53 : Int → Option Bool) (d54v0 : Int → Bool → List Int → List Int → List Int → Option ((Unit × Unit) × ((Bool × Unit) × ((List Int) × ((List Int) × ((List Int) × Unit)))))) : Nat → Option Ent
  | 53 => some (en53 c53)
  | _ => none
def RW27 (c53 : Int → Option Bool) (d54v0 : Int → Bool → List Int → List Int → List Int → Option ((Unit × Unit) × ((Bool × Unit) × ((List Int) × ((List Int) × ((List Int) × Unit)))))) : Nat → List REnt
  | 54 => [rn54v0 d54v0]
  | _ => []
def H27_0 : Trim := ⟨0, [], false, [8, 9, 10, 22, 23, 24], []⟩
theorem l27_0 : loopN k27 0 = .loop H27_0 (bodyOf (loopN k27 0)) := by kernel_rfl
def P27_0 : Ps := ⟨[(0, .u), (1, .u), (2, .u), (3, .u), (4, .u), (6, .u), (7, .u), (8, (.ptr 0 0)), (9, (.ptr 1 0)), (10, (.fn 54 (.cons (.ptr 1 0) (.cons (.ptr 2 0) (.cons (.ptr 0 0) (.cons (.ptr 3 0) .nil)))))), (12, .u), (20, .u), (22, (.tb (Sh.int .i64))), (23, (.int .i64)), (24, (.int .i64)), (25, .u), (32, .u)], [(.ints false .u64), (.vals false (.cons .bool .nil)), (.ints false .i64), (.ints false .u64)]⟩
def Q27_0 : Nat → Ps
  | 0 => ⟨[(0, .u), (1, .u), (2, .u), (3, .u), (4, .u), (6, .u), (7, .u), (8, (.ptr 0 0)), (9, (.ptr 1 0)), (10, .u), (12, .u), (20, .u), (22, .u), (23, .u), (24, .u), (25, .u), (32, .u)], [(.ints false .u64), (.vals false (.cons .bool .nil))]⟩
  | _ => noPs
def u27_0 (c53 : Int → Option Bool) (d54v0 : Int → Bool → List Int → List Int → List Int → Option ((Unit × Unit) × ((Bool × Unit) × ((List Int) × ((List Int) × ((List Int) × Unit)))))) (N n : Nat) (v : P27_0.T) (κ : (i : Nat) → (Q27_0 i).T → Option (((Sh.tu (Sh.pr (Sh.int .u64) (Sh.int .i64)))).T)) : Option (((Sh.tu (Sh.pr (Sh.int .u64) (Sh.int .i64)))).T) :=
  L27_0 c53 d54v0 N (fun (y0 : List Int) (y1 : Bool) => κ 0 (((), ((), ((), ((), ((), ((), ((), ((), ((), ((), ((), ((), ((), ((), ((), ((), ((), ()))))))))))))))))), (y0, ((y1, ()), ())))) n v.1.2.2.2.2.2.2.2.2.2.2.2.2.1 v.1.2.2.2.2.2.2.2.2.2.2.2.2.2.1 v.1.2.2.2.2.2.2.2.2.2.2.2.2.2.2.1 v.2.1 v.2.2.1.1 v.2.2.2.1 v.2.2.2.2.1
def W27_0 (c53 : Int → Option Bool) (d54v0 : Int → Bool → List Int → List Int → List Int → Option ((Unit × Unit) × ((Bool × Unit) × ((List Int) × ((List Int) × ((List Int) × Unit)))))) (N : Nat) : LoopF (((Sh.tu (Sh.pr (Sh.int .u64) (Sh.int .i64)))).T) := fun no =>
  match no with
  | _ => fun _ _ => none
theorem b27_0 (c53 : Int → Option Bool) (d54v0 : Int → Bool → List Int → List Int → List Int → Option ((Unit × Unit) × ((Bool × Unit) × ((List Int) × ((List Int) × ((List Int) × Unit)))))) (N n : Nat) (v : P27_0.T) (κ : (i : Nat) → (Q27_0 i).T → Option (((Sh.tu (Sh.pr (Sh.int .u64) (Sh.int .i64)))).T)) :
    evc (T27 c53 d54v0) (rawOf (RW27 c53 d54v0)) (W27_0 c53 d54v0 N) (retc k27.res (Sh.tu (Sh.pr (Sh.int .u64) (Sh.int .i64)))) (modeOf FT) 0 fuelC (bodyOf (loopN k27 0)) (P27_0.st v) (roundK 0 H27_0 P27_0 Q27_0 (u27_0 c53 d54v0 N n) κ) = u27_0 c53 d54v0 N (n + 1) v κ := by kernel_rfl
theorem o27_0 (c53 : Int → Option Bool) (d54v0 : Int → Bool → List Int → List Int → List Int → Option ((Unit × Unit) × ((Bool × Unit) × ((List Int) × ((List Int) × ((List Int) × Unit)))))) (hT : TabOK FT XT (T27 c53 d54v0)) (hO : RawOK FT XT (rawOf (α := ((Sh.tu (Sh.pr (Sh.int .u64) (Sh.int .i64)))).T) (RW27 c53 d54v0))) (N : Nat) {s : St} {κ : Ex → St → Option (((Sh.tu (Sh.pr (Sh.int .u64) (Sh.int .i64)))).T)} {a : ((Sh.tu (Sh.pr (Sh.int .u64) (Sh.int .i64)))).T} (h : lpOf 0 H27_0 P27_0 Q27_0 (u27_0 c53 d54v0 N N) s κ = some a) : Out FT XT 0 (retc k27.res (Sh.tu (Sh.pr (Sh.int .u64) (Sh.int .i64)))) (loopN k27 0) s κ a := by
  rw [l27_0]
  exact loop_out (LP := W27_0 c53 d54v0 N) (fu := fuelC) hT hO (fun _ _ => rfl) (b27_0 c53 d54v0 N) loopOK_nil N h
def W27 (c53 : Int → Option Bool) (d54v0 : Int → Bool → List Int → List Int → List Int → Option ((Unit × Unit) × ((Bool × Unit) × ((List Int) × ((List Int) × ((List Int) × Unit)))))) (N : Nat) : LoopF (((Sh.tu (Sh.pr (Sh.int .u64) (Sh.int .i64)))).T) := fun no =>
  match no with
  | 0 => lpOf 0 H27_0 P27_0 Q27_0 (u27_0 c53 d54v0 N N)
  | _ => fun _ _ => none
theorem e27 (c53 : Int → Option Bool) (d54v0 : Int → Bool → List Int → List Int → List Int → Option ((Unit × Unit) × ((Bool × Unit) × ((List Int) × ((List Int) × ((List Int) × Unit)))))) (N : Nat) (a0 : Int) (a1 : Int) (a2 : List Int) : evc (T27 c53 d54v0) (rawOf (RW27 c53 d54v0)) (W27 c53 d54v0 N) (retc k27.res (Sh.tu (Sh.pr (Sh.int .u64) (Sh.int .i64)))) (modeOf FT) 0 fuelC k27.body (env0 k27 (encL [(Sh.int .u64), (Sh.int .i64), (Sh.sl (Sh.int .i64))] (a0, (a1, (a2, ())))), []) (endK (retc k27.res (Sh.tu (Sh.pr (Sh.int .u64) (Sh.int .i64))))) = p27 c53 d54v0 N a0 a1 a2 := by kernel_rfl
theorem ok27 (c53 : Int → Option Bool) (d54v0 : Int → Bool → List Int → List Int → List Int → Option ((Unit × Unit) × ((Bool × Unit) × ((List Int) × ((List Int) × ((List Int) × Unit)))))) (h53 : EntOK FT XT 53 (en53 c53)) (h54v0 : REntOK FT XT 54 (rn54v0 d54v0)) {f : Int → Int → List Int → Option (Int × Int)} (hf : ∀ a0 a1 a2 r, f a0 a1 a2 = some r → ∃ N, p27 c53 d54v0 N a0 a1 a2 = some r) : EntOK FT XT 27 (en27 f) := by
  have hT : TabOK FT XT (T27 c53 d54v0) := by
    intro g en hg
    unfold T27 at hg
    split at hg <;> first | (injection hg with hg; subst hg; assumption) | cases hg
  have hO : RawOK FT XT (rawOf (α := ((Sh.tu (Sh.pr (Sh.int .u64) (Sh.int .i64)))).T) (RW27 c53 d54v0)) := by
    refine rawOf_ok (fun g en hg => ?_)
    unfold RW27 at hg
    split at hg <;> simp only [List.mem_cons, List.not_mem_nil, or_false] at hg <;> first | (subst hg; assumption) | (rcases hg with rfl | rfl <;> assumption) | (rcases hg with rfl | rfl | rfl <;> assumption) | (rcases hg with rfl | rfl | rfl | rfl <;> assumption)
  refine ⟨rfl, fun v r h => ?_⟩
  obtain ⟨a0, a1, a2, _⟩ := v
  obtain ⟨N, h1⟩ := hf _ _ _ _ h
  exact ans_c (R := (Sh.tu (Sh.pr (Sh.int .u64) (Sh.int .i64)))) (tab := T27 c53 d54v0) (raw := (rawOf (RW27 c53 d54v0))) (LP := W27 c53 d54v0 N) (fu := fuelC) hT hO rfl rfl (Nat.le_of_ble_eq_true rfl) (loopOK_cons l27_0 (fun s κ a h => o27_0 c53 d54v0 hT hO N h) loopOK_nil) ((e27 c53 d54v0 N _ _ _).trans h1)

def T58 : Nat → Option Ent
  | _ => none
def RW58 : Nat → List REnt
  | _ => []
def W58 (N : Nat) : LoopF (((Sh.int .u64)).T) := fun no =>
  match no with
  | _ => fun _ _ => none
theorem e58 (N : Nat) (a0 : Int) : evc (T58) (rawOf (RW58)) (W58 N) (retc k58.res (Sh.int .u64)) (modeOf FT) 0 fuelC k58.body (env0 k58 (encL [(Sh.int .i64)] (a0, ())), []) (endK (retc k58.res (Sh.int .u64))) = p58 N a0 := by kernel_rfl
theorem ok58 {f : Int → Option Int} (hf : ∀ a0 r, f a0 = some r → ∃ N, p58 N a0 = some r) : EntOK FT XT 58 (en58 f) := by
  have hT : TabOK FT XT (T58) := by
    intro g en hg
    unfold T58 at hg
    split at hg <;> first | (injection hg with hg; subst hg; assumption) | cases hg
  have hO : RawOK FT XT (rawOf (α := ((Sh.int .u64)).T) (RW58)) := by
    refine rawOf_ok (fun g en hg => ?_)
    unfold RW58 at hg
    split at hg <;> simp only [List.mem_cons, List.not_mem_nil, or_false] at hg <;> first | (subst hg; assumption) | (rcases hg with rfl | rfl <;> assumption) | (rcases hg with rfl | rfl | rfl <;> assumption) | (rcases hg with rfl | rfl | rfl | rfl <;> assumption)
  refine ⟨rfl, fun v r h => ?_⟩
  obtain ⟨a0, _⟩ := v
  obtain ⟨N, h1⟩ := hf _ _ h
  exact ans_c (R := (Sh.int .u64)) (tab := T58) (raw := (rawOf (RW58))) (LP := W58 N) (fu := fuelC) hT hO rfl rfl (Nat.le_of_ble_eq_true rfl) loopOK_nil ((e58 N _).trans h1)

def T29 (c53 : Int → Option Bool) (c58 : Int → Option Int) : Nat → Option Ent
  | 53 => some (en53 c53)
  | 58 => some (en58 c58)
  | _ => none
def RW29 (c53 : Int → Option Bool) (c58 : Int → Option Int) : Nat → List REnt
  | _ => []
def W29 (c53 : Int → Option Bool) (c58 : Int → Option Int) (N : Nat) : LoopF (((Sh.tu (Sh.pr (Sh.int .u64) (Sh.int .i64)))).T) := fun no =>
  match no with
  | _ => fun _ _ => none
theorem e29 (c53 : Int → Option Bool) (c58 : Int → Option Int) (N : Nat) (a0 : Int) (a1 : Int) (a2 : Int) : evc (T29 c53 c58) (rawOf (RW29 c53 c58)) (W29 c53 c58 N) (retc k29.res (Sh.tu (Sh.pr (Sh.int .u64) (Sh.int .i64)))) (modeOf FT) 0 fuelC k29.body (env0 k29 (encL [(Sh.int .u64), (Sh.int .i64), (Sh.int .i64)] (a0, (a1, (a2, ())))), []) (endK (retc k29.res (Sh.tu (Sh.pr (Sh.int .u64) (Sh.int .i64))))) = p29 c53 c58 N a0 a1 a2 := by kernel_rfl
theorem ok29 (c53 : Int → Option Bool) (c58 : Int → Option Int) (h53 : EntOK FT XT 53 (en53 c53)) (h58 : EntOK FT XT 58 (en58 c58)) {f : Int → Int → Int → Option (Int × Int)} (hf : ∀ a0 a1 a2 r, f a0 a1 a2 = some r → ∃ N, p29 c53 c58 N a0 a1 a2 = some r) : EntOK FT XT 29 (en29 f) := by
  have hT : TabOK FT XT (T29 c53 c58) := by
    intro g en hg
    unfold T29 at hg
    split at hg <;> first | (injection hg with hg; subst hg; assumption) | cases hg
  have hO : RawOK FT XT (rawOf (α := ((Sh.tu (Sh.pr (Sh.int .u64) (Sh.int .i64)))).T) (RW29 c53 c58)) := by
    refine rawOf_ok (fun g en hg => ?_)
    unfold RW29 at hg
    split at hg <;> simp only [List.mem_cons, List.not_mem_nil, or_false] at hg <;> first | (subst hg; assumption) | (rcases hg with rfl | rfl <;> assumption) | (rcases hg with rfl | rfl | rfl <;> assumption) | (rcases hg with rfl | rfl | rfl | rfl <;> assumption)
  refine ⟨rfl, fun v r h => ?_⟩
  obtain ⟨a0, a1, a2, _⟩ := v
  obtain ⟨N, h1⟩ := hf _ _ _ _ h
  exact ans_c (R := (Sh.tu (Sh.pr (Sh.int .u64) (Sh.int .i64)))) (tab := T29 c53 c58) (raw := (rawOf (RW29 c53 c58))) (LP := W29 c53 c58 N) (fu := fuelC) hT hO rfl rfl (Nat.le_of_ble_eq_true rfl) loopOK_nil ((e29 c53 c58 N _ _ _).trans h1)

def T52 : Nat → Option Ent
  | _ => none
def RW52 : Nat → List REnt
  | _ => []
def W52 (N : Nat) : LoopF (((Sh.int .i64)).T) := fun no =>
  match no with
  | _ => fun _ _ => none
theorem e52 (N : Nat) (a0 : Int) : evc (T52) (rawOf (RW52)) (W52 N) (retc k52.res (Sh.int .i64)) (modeOf FT) 0 fuelC k52.body (env0 k52 (encL [(Sh.int .u8)] (a0, ())), []) (endK (retc k52.res (Sh.int .i64))) = p52 N a0 := by kernel_rfl
theorem ok52 {f : Int → Option Int} (hf : ∀ a0 r, f a0 = some r → ∃ N, p52 N a0 = some r) : EntOK FT XT 52 (en52 f) := by
  have hT : TabOK FT XT (T52) := by
    intro g en hg
    unfold T52 at hg
    split at hg <;> first | (injection hg with hg; subst hg; assumption) | cases hg
  have hO : RawOK FT XT (rawOf (α := ((Sh.int .i64)).T) (RW52)) := by
    refine rawOf_ok (fun g en hg => ?_)
    unfold RW52 at hg
    split at hg <;> simp only [List.mem_cons, List.not_mem_nil, or_false] at hg <;> first | (subst hg; assumption) | (rcases hg with rfl | rfl <;> assumption) | (rcases hg with rfl | rfl | rfl <;> assumption) | (rcases hg with rfl | rfl | rfl | rfl <;> assumption)
  refine ⟨rfl, fun v r h => ?_⟩
  obtain ⟨a0, _⟩ := v
  obtain ⟨N, h1⟩ := hf _ _ h
  exact ans_c (R := (Sh.int .i64)) (tab := T52) (raw := (rawOf (RW52))) (LP := W52 N) (fu := fuelC) hT hO rfl rfl (Nat.le_of_ble_eq_true rfl) loopOK_nil ((e52 N _).trans h1)

def T25 (c52 : Int → Option Int) : Nat → Option Ent
  | 52 => some (en52 c52)
  | _ => none
def RW25 (c52 : Int → Option Int) : Nat → List REnt
  | _ => []
def W25 (c52 : Int → Option Int) (N : Nat) : LoopF (((Sh.int .u8)).T) := fun no =>
  match no with
  | _ => fun _ _ => none
theorem e25 (c52 : Int → Option Int) (N : Nat) (a0 : Int) : evc (T25 c52) (rawOf (RW25 c52)) (W25 c52 N) (retc k25.res (Sh.int .u8)) (modeOf FT) 0 fuelC k25.body (env0 k25 (encL [(Sh.int .u8)] (a0, ())), []) (endK (retc k25.res (Sh.int .u8))) = p25 c52 N a0 := by kernel_rfl
theorem ok25 (c52 : Int → Option Int) (h52 : EntOK FT XT 52 (en52 c52)) {f : Int → Option Int} (hf : ∀ a0 r, f a0 = some r → ∃ N, p25 c52 N a0 = some r) : EntOK FT XT 25 (en25 f) := by
  have hT : TabOK FT XT (T25 c52) := by
    intro g en hg
    unfold T25 at hg
    split at hg <;> first | (injection hg with hg; subst hg; assumption) | cases hg
  have hO : RawOK FT XT (rawOf (α := ((Sh.int .u8)).T) (RW25 c52)) := by
    refine rawOf_ok (fun g en hg => ?_)
    unfold RW25 at hg
    split at hg <;> simp only [List.mem_cons, List.not_mem_nil, or_false] at hg <;> first | (subst hg; assumption) | (rcases hg with rfl | rfl <;> assumption) | (rcases hg with rfl | rfl | rfl <;> assumption) | (rcases hg with rfl | rfl | rfl | rfl <;> assumption)
  refine ⟨rfl, fun v r h => ?_⟩
  obtain ⟨a0, _⟩ := v
  obtain ⟨N, h1⟩ := hf _ _ h
  exact ans_c (R := (Sh.int .u8)) (tab := T25 c52) (raw := (rawOf (RW25 c52))) (LP := W25 c52 N) (fu := fuelC) hT hO rfl rfl (Nat.le_of_ble_eq_true rfl) loopOK_nil ((e25 c52 N _).trans h1)

def T24 (c25 : Int → Option Int) : Nat → Option Ent
  | 25 => some (en25 c25)
  | _ => none
def RW24 (c25 : Int → Option Int) : Nat → List REnt
  | _ => []
def H24_1 : Trim := ⟨1, [], false, [4, 7, 26, 27], []⟩
theorem l24_1 : loopN k24 1 = .loop H24_1 (bodyOf (loopN k24 1)) := by kernel_rfl
def P24_1 : Ps := ⟨[(0, .u), (2, .u), (3, .u), (4, (.int .u64)), (6, .u), (7, (.slc 0 1)), (8, .u), (11, .u), (12, .u), (13, .u), (14, .u), (15, .u), (26, (.int .i64)), (27, (.int .i64)), (28, .u)], [(.ints false .u8)]⟩
def Q24_1 : Nat → Ps
  | 2 => ⟨[(0, .u), (2, .u), (3, .u), (4, .u), (6, .u), (7, (.slc 0 1)), (8, .u), (11, .u), (12, .u), (13, .u), (14, .u), (15, .u), (26, .u), (27, .u), (28, .u)], [(.ints false .u8)]⟩
  | _ => noPs
def u24_1 (c25 : Int → Option Int) (N n : Nat) (v : P24_1.T) (κ : (i : Nat) → (Q24_1 i).T → Option (((Sh.tu (Sh.pr (Sh.sl (Sh.int .u8)) (Sh.int .i64)))).T)) : Option (((Sh.tu (Sh.pr (Sh.sl (Sh.int .u8)) (Sh.int .i64)))).T) :=
  L24_1 c25 N (fun (y0 : Nat) (y1 : Nat) (y2 : List Int) => κ 2 (((), ((), ((), ((), ((), ((y0, y1), ((), ((), ((), ((), ((), ((), ((), ((), ((), ()))))))))))))))), (y2, ()))) n v.1.2.2.2.1 v.1.2.2.2.2.2.1.1 v.1.2.2.2.2.2.1.2 v.1.2.2.2.2.2.2.2.2.2.2.2.2.1 v.1.2.2.2.2.2.2.2.2.2.2.2.2.2.1 v.2.1
def W24_1 (c25 : Int → Option Int) (N : Nat) : LoopF (((Sh.tu (Sh.pr (Sh.sl (Sh.int .u8)) (Sh.int .i64)))).T) := fun no =>
  match no with
  | _ => fun _ _ => none
theorem b24_1 (c25 : Int → Option Int) (N n : Nat) (v : P24_1.T) (κ : (i : Nat) → (Q24_1 i).T → Option (((Sh.tu (Sh.pr (Sh.sl (Sh.int .u8)) (Sh.int .i64)))).T)) :
    evc (T24 c25) (rawOf (RW24 c25)) (W24_1 c25 N) (retc k24.res (Sh.tu (Sh.pr (Sh.sl (Sh.int .u8)) (Sh.int .i64)))) (modeOf FT) 0 fuelC (bodyOf (loopN k24 1)) (P24_1.st v) (roundK 0 H24_1 P24_1 Q24_1 (u24_1 c25 N n) κ) = u24_1 c25 N (n + 1) v κ := by kernel_rfl
theorem o24_1 (c25 : Int → Option Int) (hT : TabOK FT XT (T24 c25)) (hO : RawOK FT XT (rawOf (α := ((Sh.tu (Sh.pr (Sh.sl (Sh.int .u8)) (Sh.int .i64)))).T) (RW24 c25))) (N : Nat) {s : St} {κ : Ex → St → Option (((Sh.tu (Sh.pr (Sh.sl (Sh.int .u8)) (Sh.int .i64)))).T)} {a : ((Sh.tu (Sh.pr (Sh.sl (Sh.int .u8)) (Sh.int .i64)))).T} (h : lpOf 0 H24_1 P24_1 Q24_1 (u24_1 c25 N N) s κ = some a) : Out FT XT 0 (retc k24.res (Sh.tu (Sh.pr (Sh.sl (Sh.int .u8)) (Sh.int .i64)))) (loopN k24 1) s κ a := by
  rw [l24_1]
  exact loop_out (LP := W24_1 c25 N) (fu := fuelC) hT hO (fun _ _ => rfl) (b24_1 c25 N) loopOK_nil N h
def H24_0 : Trim := ⟨0, [], false, [4, 12, 13, 14], []⟩
theorem l24_0 : loopN k24 0 = .loop H24_0 (bodyOf (loopN k24 0)) := by kernel_rfl
def P24_0 : Ps := ⟨[(0, .u), (2, .u), (3, .u), (4, (.int .u64)), (6, .u), (7, .u), (8, .u), (11, .u), (12, (.tb (Sh.int .u8))), (13, (.int .i64)), (14, (.int .i64)), (15, .u), (26, .u), (27, .u), (28, .u)], []⟩
def Q24_0 : Nat → Ps
  | 0 => ⟨[(0, .u), (2, .u), (3, .u), (4, (.int .u64)), (6, .u), (7, .u), (8, .u), (11, .u), (12, .u), (13, .u), (14, .u), (15, .u), (26, .u), (27, .u), (28, .u)], []⟩
  | _ => noPs
def u24_0 (c25 : Int → Option Int) (N n : Nat) (v : P24_0.T) (κ : (i : Nat) → (Q24_0 i).T → Option (((Sh.tu (Sh.pr (Sh.sl (Sh.int .u8)) (Sh.int .i64)))).T)) : Option (((Sh.tu (Sh.pr (Sh.sl (Sh.int .u8)) (Sh.int .i64)))).T) :=
  L24_0 c25 N (fun (y0 : Int) => κ 0 (((), ((), ((), (y0, ((), ((), ((), ((), ((), ((), ((), ((), ((), ((), ((), ()))))))))))))))), ())) n v.1.2.2.2.1 v.1.2.2.2.2.2.2.2.2.1 v.1.2.2.2.2.2.2.2.2.2.1 v.1.2.2.2.2.2.2.2.2.2.2.1
def W24_0 (c25 : Int → Option Int) (N : Nat) : LoopF (((Sh.tu (Sh.pr (Sh.sl (Sh.int .u8)) (Sh.int .i64)))).T) := fun no =>
  match no with
  | _ => fun _ _ => none
theorem b24_0 (c25 : Int → Option Int) (N n : Nat) (v : P24_0.T) (κ : (i : Nat) → (Q24_0 i).T → Option (((Sh.tu (Sh.pr (Sh.sl (Sh.int .u8)) (Sh.int .i64)))).T)) :
    evc (T24 c25) (rawOf (RW24 c25)) (W24_0 c25 N) (retc k24.res (Sh.tu (Sh.pr (Sh.sl (Sh.int .u8)) (Sh.int .i64)))) (modeOf FT) 0 fuelC (bodyOf (loopN k24 0)) (P24_0.st v) (roundK 0 H24_0 P24_0 Q24_0 (u24_0 c25 N n) κ) = u24_0 c25 N (n + 1) v κ := by kernel_rfl
theorem o24_0 (c25 : Int → Option Int) (hT : TabOK FT XT (T24 c25)) (hO : RawOK FT XT (rawOf (α := ((Sh.tu (Sh.pr (Sh.sl (Sh.int .u8)) (Sh.int .i64)))).T) (RW24 c25))) (N : Nat) {s : St} {κ : Ex → St → Option (((Sh.tu (Sh.pr (Sh.sl (Sh.int .u8)) (Sh.int .i64)))).T)} {a : ((Sh.tu (Sh.pr (Sh.sl (Sh.int .u8)) (Sh.int .i64)))).T} (h : lpOf 0 H24_0 P24_0 Q24_0 (u24_0 c25 N N) s κ = some a) : Out FT XT 0 (retc k24.res (Sh.tu (Sh.pr (Sh.sl (Sh.int .u8)) (Sh.int .i64)))) (loopN k24 0) s κ a := by
  rw [l24_0]
  exact loop_out (LP := W24_0 c25 N) (fu := fuelC) hT hO (fun _ _ => rfl) (b24_0 c25 N) loopOK_nil N h
def W24 (c25 : Int → Option Int) (N : Nat) : LoopF (((Sh.tu (Sh.pr (Sh.sl (Sh.int .u8)) (Sh.int .i64)))).T) := fun no =>
  match no with
  | 0 => lpOf 0 H24_0 P24_0 Q24_0 (u24_0 c25 N N)
  | 1 => lpOf 0 H24_1 P24_1 Q24_1 (u24_1 c25 N N)
  | _ => fun _ _ => none
theorem e24 (c25 : Int → Option Int) (N : Nat) (a0 : List Int) : evc (T24 c25) (rawOf (RW24 c25)) (W24 c25 N) (retc k24.res (Sh.tu (Sh.pr (Sh.sl (Sh.int .u8)) (Sh.int .i64)))) (modeOf FT) 0 fuelC k24.body (env0 k24 (encL [(Sh.sl (Sh.int .u8))] (a0, ())), []) (endK (retc k24.res (Sh.tu (Sh.pr (Sh.sl (Sh.int .u8)) (Sh.int .i64))))) = p24 c25 N a0 := by kernel_rfl
theorem ok24 (c25 : Int → Option Int) (h25 : EntOK FT XT 25 (en25 c25)) {f : List Int → Option ((List Int) × Int)} (hf : ∀ a0 r, f a0 = some r → ∃ N, p24 c25 N a0 = some r) : EntOK FT XT 24 (en24 f) := by
  have hT : TabOK FT XT (T24 c25) := by
    intro g en hg
    unfold T24 at hg
    split at hg <;> first | (injection hg with hg; subst hg; assumption) | cases hg
  have hO : RawOK FT XT (rawOf (α := ((Sh.tu (Sh.pr (Sh.sl (Sh.int .u8)) (Sh.int .i64)))).T) (RW24 c25)) := by
    refine rawOf_ok (fun g en hg => ?_)
    unfold RW24 at hg
    split at hg <;> simp only [List.mem_cons, List.not_mem_nil, or_false] at hg <;> first | (subst hg; assumption) | (rcases hg with rfl | rfl <;> assumption) | (rcases hg with rfl | rfl | rfl <;> assumption) | (rcases hg with rfl | rfl | rfl | rfl <;> assumption)
  refine ⟨rfl, fun v r h => ?_⟩
  obtain ⟨a0, _⟩ := v
  obtain ⟨N, h1⟩ := hf _ _ h
  exact ans_c (R := (Sh.tu (Sh.pr (Sh.sl (Sh.int .u8)) (Sh.int .i64)))) (tab := T24 c25) (raw := (rawOf (RW24 c25))) (LP := W24 c25 N) (fu := fuelC) hT hO rfl rfl (Nat.le_of_ble_eq_true rfl) (loopOK_cons l24_0 (fun s κ a h => o24_0 c25 hT hO N h) (loopOK_cons l24_1 (fun s κ a h => o24_1 c25 hT hO N h) loopOK_nil)) ((e24 c25 N _).trans h1)

def T26 (c27 : Int → Int → List Int → Option (Int × Int)) (c29 : Int → Int → Int → Option (Int × Int)) (c24 : List Int → Option ((List Int) × Int)) (c33 : Int → Int → Int → Option Int) (c25 : Int → Option Int) : Nat → Option Ent
  | 27 => some (en27 c27)
  | 29 => some (en29 c29)
  | 24 => some (en24 c24)
  | 33 => some (en33 c33)
  | 25 => some (en25 c25)
  | _ => none
def RW26 (c27 : Int → Int → List Int → Option (Int × Int)) (c29 : Int → Int → Int → Option (Int × Int)) (c24 : List Int → Option ((List Int) × Int)) (c33 : Int → Int → Int → Option Int) (c25 : Int → Option Int) : Nat → List REnt
  | _ => []
def W26 (c27 : Int → Int → List Int → Option (Int × Int)) (c29 : Int → Int → Int → Option (Int × Int)) (c24 : List Int → Option ((List Int) × Int)) (c33 : Int → Int → Int → Option Int) (c25 : Int → Option Int) (N : Nat) : LoopF (Sh.bool).T := fun no =>
  match no with
  | _ => fun _ _ => none
theorem e26 (c27 : Int → Int → List Int → Option (Int × Int)) (c29 : Int → Int → Int → Option (Int × Int)) (c24 : List Int → Option ((List Int) × Int)) (c33 : Int → Int → Int → Option Int) (c25 : Int → Option Int) (N : Nat)  : evc (T26 c27 c29 c24 c33 c25) (rawOf (RW26 c27 c29 c24 c33 c25)) (W26 c27 c29 c24 c33 c25 N) (retc k26.res Sh.bool) (modeOf FT) 0 fuelC k26.body (env0 k26 (encL [] ()), []) (endK (retc k26.res Sh.bool)) = p26 c27 c29 c24 c33 c25 N  := by kernel_rfl
theorem ok26 (c27 : Int → Int → List Int → Option (Int × Int)) (c29 : Int → Int → Int → Option (Int × Int)) (c24 : List Int → Option ((List Int) × Int)) (c33 : Int → Int → Int → Option Int) (c25 : Int → Option Int) (h27 : EntOK FT XT 27 (en27 c27)) (h29 : EntOK FT XT 29 (en29 c29)) (h24 : EntOK FT XT 24 (en24 c24)) (h33 : EntOK FT XT 33 (en33 c33)) (h25 : EntOK FT XT 25 (en25 c25)) {f : Option Bool} (hf : ∀  r, f  = some r → ∃ N, p26 c27 c29 c24 c33 c25 N  = some r) : EntOK FT XT 26 (en26 f) := by
  have hT : TabOK FT XT (T26 c27 c29 c24 c33 c25) := by
    intro g en hg
    unfold T26 at hg
    split at hg <;> first | (injection hg with hg; subst hg; assumption) | cases hg
  have hO : RawOK FT XT (rawOf (α := (Sh.bool).T) (RW26 c27 c29 c24 c33 c25)) := by
    refine rawOf_ok (fun g en hg => ?_)
    unfold RW26 at hg
    split at hg <;> simp only [List.mem_cons, List.not_mem_nil, or_false] at hg <;> first | (subst hg; assumption) | (rcases hg with rfl | rfl <;> assumption) | (rcases hg with rfl | rfl | rfl <;> assumption) | (rcases hg with rfl | rfl | rfl | rfl <;> assumption)
  refine ⟨rfl, fun v r h => ?_⟩
  obtain ⟨N, h1⟩ := hf _ h
  exact ans_c (R := Sh.bool) (tab := T26 c27 c29 c24 c33 c25) (raw := (rawOf (RW26 c27 c29 c24 c33 c25))) (LP := W26 c27 c29 c24 c33 c25 N) (fu := fuelC) hT hO rfl rfl (Nat.le_of_ble_eq_true rfl) loopOK_nil ((e26 c27 c29 c24 c33 c25 N ).trans h1)

def T55 : Nat → Option Ent
  | _ => none
def RW55 : Nat → List REnt
  | _ => []
def W55 (N : Nat) : LoopF (Sh.bool).T := fun no =>
  match no with
  | _ => fun _ _ => none
theorem e55 (N : Nat) (a0 : Int) : evc (T55) (rawOf (RW55)) (W55 N) (retc k55.res Sh.bool) (modeOf FT) 0 fuelC k55.body (env0 k55 (encL [(Sh.int .i64)] (a0, ())), []) (endK (retc k55.res Sh.bool)) = p55 N a0 := by kernel_rfl
theorem ok55 {f : Int → Option Bool} (hf : ∀ a0 r, f a0 = some r → ∃ N, p55 N a0 = some r) : EntOK FT XT 55 (en55 f) := by
  have hT : TabOK FT XT (T55) := by
    intro g en hg
    unfold T55 at hg
    split at hg <;> first | (injection hg with hg; subst hg; assumption) | cases hg
  have hO : RawOK FT XT (rawOf (α := (Sh.bool).T) (RW55)) := by
    refine rawOf_ok (fun g en hg => ?_)
    unfold RW55 at hg
    split at hg <;> simp only [List.mem_cons, List.not_mem_nil, or_false] at hg <;> first | (subst hg; assumption) | (rcases hg with rfl | rfl <;> assumption) | (rcases hg with rfl | rfl | rfl <;> assumption) | (rcases hg with rfl | rfl | rfl | rfl <;> assumption)
  refine ⟨rfl, fun v r h => ?_⟩
  obtain ⟨a0, _⟩ := v
  obtain ⟨N, h1⟩ := hf _ _ h
  exact ans_c (R := Sh.bool) (tab := T55) (raw := (rawOf (RW55))) (LP := W55 N) (fu := fuelC) hT hO rfl rfl (Nat.le_of_ble_eq_true rfl) loopOK_nil ((e55 N _).trans h1)

def T56 : Nat → Option Ent
  | _ => none
def RW56 : Nat → List REnt
  | _ => []
def H56_0 : Trim := ⟨0, [], false, [0, 5, 6], []⟩
theorem l56_0 : loopN k56 0 = .loop H56_0 (bodyOf (loopN k56 0)) := by kernel_rfl
def P56_0 : Ps := ⟨[(0, (.int .u64)), (1, .u), (4, .u), (5, (.slc 0 1)), (6, (.int .i64)), (12, .u)], [(.ints false .u8)]⟩
def Q56_0 : Nat → Ps
  | 0 => ⟨[(0, .u), (1, .u), (4, .u), (5, (.slc 0 1)), (6, .u), (12, .u)], [(.ints false .u8)]⟩
  | _ => noPs
def u56_0 (N n : Nat) (v : P56_0.T) (κ : (i : Nat) → (Q56_0 i).T → Option (((Sh.sl (Sh.int .u8))).T)) : Option (((Sh.sl (Sh.int .u8))).T) :=
  L56_0 N (fun (y0 : Nat) (y1 : Nat) (y2 : List Int) => κ 0 (((), ((), ((), ((y0, y1), ((), ((), ())))))), (y2, ()))) n v.1.1 v.1.2.2.2.1.1 v.1.2.2.2.1.2 v.1.2.2.2.2.1 v.2.1
def W56_0 (N : Nat) : LoopF (((Sh.sl (Sh.int .u8))).T) := fun no =>
  match no with
  | _ => fun _ _ => none
theorem b56_0 (N n : Nat) (v : P56_0.T) (κ : (i : Nat) → (Q56_0 i).T → Option (((Sh.sl (Sh.int .u8))).T)) :
    evc (T56) (rawOf (RW56)) (W56_0 N) (retc k56.res (Sh.sl (Sh.int .u8))) (modeOf FT) 0 fuelC (bodyOf (loopN k56 0)) (P56_0.st v) (roundK 0 H56_0 P56_0 Q56_0 (u56_0 N n) κ) = u56_0 N (n + 1) v κ := by kernel_rfl
theorem o56_0 (hT : TabOK FT XT (T56)) (hO : RawOK FT XT (rawOf (α := ((Sh.sl (Sh.int .u8))).T) (RW56))) (N : Nat) {s : St} {κ : Ex → St → Option (((Sh.sl (Sh.int .u8))).T)} {a : ((Sh.sl (Sh.int .u8))).T} (h : lpOf 0 H56_0 P56_0 Q56_0 (u56_0 N N) s κ = some a) : Out FT XT 0 (retc k56.res (Sh.sl (Sh.int .u8))) (loopN k56 0) s κ a := by
  rw [l56_0]
  exact loop_out (LP := W56_0 N) (fu := fuelC) hT hO (fun _ _ => rfl) (b56_0 N) loopOK_nil N h
def W56 (N : Nat) : LoopF (((Sh.sl (Sh.int .u8))).T) := fun no =>
  match no with
  | 0 => lpOf 0 H56_0 P56_0 Q56_0 (u56_0 N N)
  | _ => fun _ _ => none
theorem e56 (N : Nat) (a0 : Int) (a1 : Int) : evc (T56) (rawOf (RW56)) (W56 N) (retc k56.res (Sh.sl (Sh.int .u8))) (modeOf FT) 0 fuelC k56.body (env0 k56 (encL [(Sh.int .u64), (Sh.int .i64)] (a0, (a1, ()))), []) (endK (retc k56.res (Sh.sl (Sh.int .u8)))) = p56 N a0 a1 := by kernel_rfl
theorem ok56 {f : Int → Int → Option (List Int)} (hf : ∀ a0 a1 r, f a0 a1 = some r → ∃ N, p56 N a0 a1 = some r) : EntOK FT XT 56 (en56 f) := by
  have hT : TabOK FT XT (T56) := by
    intro g en hg
    unfold T56 at hg
    split at hg <;> first | (injection hg with hg; subst hg; assumption) | cases hg
  have hO : RawOK FT XT (rawOf (α := ((Sh.sl (Sh.int .u8))).T) (RW56)) := by
    refine rawOf_ok (fun g en hg => ?_)
    unfold RW56 at hg
    split at hg <;> simp only [List.mem_cons, List.not_mem_nil, or_false] at hg <;> first | (subst hg; assumption) | (rcases hg with rfl | rfl <;> assumption) | (rcases hg with rfl | rfl | rfl <;> assumption) | (rcases hg with rfl | rfl | rfl | rfl <;> assumption)
  refine ⟨rfl, fun v r h => ?_⟩
  obtain ⟨a0, a1, _⟩ := v
  obtain ⟨N, h1⟩ := hf _ _ _ h
  exact ans_c (R := (Sh.sl (Sh.int .u8))) (tab := T56) (raw := (rawOf (RW56))) (LP := W56 N) (fu := fuelC) hT hO rfl rfl (Nat.le_of_ble_eq_true rfl) (loopOK_cons l56_0 (fun s κ a h => o56_0 hT hO N h) loopOK_nil) ((e56 N _ _).trans h1)

def T57 : Nat → Option Ent
  | _ => none
def RW57 : Nat → List REnt
  | _ => []
def H57_0 : Trim := ⟨0, [], false, [0, 3, 4], []⟩
theorem l57_0 : loopN k57 0 = .loop H57_0 (bodyOf (loopN k57 0)) := by kernel_rfl
def P57_0 : Ps := ⟨[(0, (.tb (Sh.int .u8))), (2, .u), (3, (.int .u64)), (4, (.int .i64)), (8, .u)], []⟩
def Q57_0 : Nat → Ps
  | 0 => ⟨[(0, .u), (2, .u), (3, (.int .u64)), (4, .u), (8, .u)], []⟩
  | _ => noPs
def u57_0 (N n : Nat) (v : P57_0.T) (κ : (i : Nat) → (Q57_0 i).T → Option (((Sh.int .u64)).T)) : Option (((Sh.int .u64)).T) :=
  L57_0 N (fun (y0 : Int) => κ 0 (((), ((), (y0, ((), ((), ()))))), ())) n v.1.1 v.1.2.2.1 v.1.2.2.2.1
def W57_0 (N : Nat) : LoopF (((Sh.int .u64)).T) := fun no =>
  match no with
  | _ => fun _ _ => none
theorem b57_0 (N n : Nat) (v : P57_0.T) (κ : (i : Nat) → (Q57_0 i).T → Option (((Sh.int .u64)).T)) :
    evc (T57) (rawOf (RW57)) (W57_0 N) (retc k57.res (Sh.int .u64)) (modeOf FT) 0 fuelC (bodyOf (loopN k57 0)) (P57_0.st v) (roundK 0 H57_0 P57_0 Q57_0 (u57_0 N n) κ) = u57_0 N (n + 1) v κ := by kernel_rfl
theorem o57_0 (hT : TabOK FT XT (T57)) (hO : RawOK FT XT (rawOf (α := ((Sh.int .u64)).T) (RW57))) (N : Nat) {s : St} {κ : Ex → St → Option (((Sh.int .u64)).T)} {a : ((Sh.int .u64)).T} (h : lpOf 0 H57_0 P57_0 Q57_0 (u57_0 N N) s κ = some a) : Out FT XT 0 (retc k57.res (Sh.int .u64)) (loopN k57 0) s κ a := by
  rw [l57_0]
  exact loop_out (LP := W57_0 N) (fu := fuelC) hT hO (fun _ _ => rfl) (b57_0 N) loopOK_nil N h
def W57 (N : Nat) : LoopF (((Sh.int .u64)).T) := fun no =>
  match no with
  | 0 => lpOf 0 H57_0 P57_0 Q57_0 (u57_0 N N)
  | _ => fun _ _ => none
theorem e57 (N : Nat) (a0 : List Int) : evc (T57) (rawOf (RW57)) (W57 N) (retc k57.res (Sh.int .u64)) (modeOf FT) 0 fuelC k57.body (env0 k57 (encL [(Sh.sl (Sh.int .u8))] (a0, ())), []) (endK (retc k57.res (Sh.int .u64))) = p57 N a0 := by kernel_rfl
theorem ok57 {f : List Int → Option Int} (hf : ∀ a0 r, f a0 = some r → ∃ N, p57 N a0 = some r) : EntOK FT XT 57 (en57 f) := by
  have hT : TabOK FT XT (T57) := by
    intro g en hg
    unfold T57 at hg
    split at hg <;> first | (injection hg with hg; subst hg; assumption) | cases hg
  have hO : RawOK FT XT (rawOf (α := ((Sh.int .u64)).T) (RW57)) := by
    refine rawOf_ok (fun g en hg => ?_)
    unfold RW57 at hg
    split at hg <;> simp only [List.mem_cons, List.not_mem_nil, or_false] at hg <;> first | (subst hg; assumption) | (rcases hg with rfl | rfl <;> assumption) | (rcases hg with rfl | rfl | rfl <;> assumption) | (rcases hg with rfl | rfl | rfl | rfl <;> assumption)
  refine ⟨rfl, fun v r h => ?_⟩
  obtain ⟨a0, _⟩ := v
  obtain ⟨N, h1⟩ := hf _ _ h
  exact ans_c (R := (Sh.int .u64)) (tab := T57) (raw := (rawOf (RW57))) (LP := W57 N) (fu := fuelC) hT hO rfl rfl (Nat.le_of_ble_eq_true rfl) (loopOK_cons l57_0 (fun s κ a h => o57_0 hT hO N h) loopOK_nil) ((e57 N _).trans h1)

def T28 (c55 : Int → Option Bool) (c56 : Int → Int → Option (List Int)) (c57 : List Int → Option Int) : Nat → Option Ent
  | 55 => some (en55 c55)
  | 56 => some (en56 c56)
  | 57 => some (en57 c57)
  | _ => none
def RW28 (c55 : Int → Option Bool) (c56 : Int → Int → Option (List Int)) (c57 : List Int → Option Int) : Nat → List REnt
  | _ => []
def H28_0 : Trim := ⟨0, [], false, [1, 2, 8, 9, 10], [(9, (.ints .u8 []), 1)]⟩
theorem l28_0 : loopN k28 0 = .loop H28_0 (bodyOf (loopN k28 0)) := by kernel_rfl
def P28_0 : Ps := ⟨[(0, .u), (1, (.int .i64)), (2, (.tb (Sh.int .i64))), (6, .u), (7, .u), (8, (.tb (Sh.int .u8))), (9, (.sl 0 1)), (10, (.int .i64)), (18, .u), (25, .u), (40, .u)], [(.ints false .u8)]⟩
def Q28_0 : Nat → Ps
  | 0 => ⟨[(0, .u), (1, .u), (2, .u), (6, .u), (7, .u), (8, .u), (9, (.sl 0 1)), (10, .u), (18, .u), (25, .u), (40, .u)], [(.ints false .u8)]⟩
  | _ => noPs
def u28_0 (c55 : Int → Option Bool) (c56 : Int → Int → Option (List Int)) (c57 : List Int → Option Int) (N n : Nat) (v : P28_0.T) (κ : (i : Nat) → (Q28_0 i).T → Option (((Sh.tu (Sh.pr (Sh.int .u64) (Sh.int .i64)))).T)) : Option (((Sh.tu (Sh.pr (Sh.int .u64) (Sh.int .i64)))).T) :=
  L28_0 c55 c56 c57 N (fun (y0 : Nat) (y1 : List Int) => κ 0 (((), ((), ((), ((), ((), ((), (y0, ((), ((), ((), ((), ()))))))))))), (y1, ()))) n v.1.2.1 v.1.2.2.1 v.1.2.2.2.2.2.1 v.1.2.2.2.2.2.2.1 v.1.2.2.2.2.2.2.2.1 v.2.1
def W28_0 (c55 : Int → Option Bool) (c56 : Int → Int → Option (List Int)) (c57 : List Int → Option Int) (N : Nat) : LoopF (((Sh.tu (Sh.pr (Sh.int .u64) (Sh.int .i64)))).T) := fun no =>
  match no with
  | _ => fun _ _ => none
theorem b28_0 (c55 : Int → Option Bool) (c56 : Int → Int → Option (List Int)) (c57 : List Int → Option Int) (N n : Nat) (v : P28_0.T) (κ : (i : Nat) → (Q28_0 i).T → Option (((Sh.tu (Sh.pr (Sh.int .u64) (Sh.int .i64)))).T)) :
    evc (T28 c55 c56 c57) (rawOf (RW28 c55 c56 c57)) (W28_0 c55 c56 c57 N) (retc k28.res (Sh.tu (Sh.pr (Sh.int .u64) (Sh.int .i64)))) (modeOf FT) 0 fuelC (bodyOf (loopN k28 0)) (P28_0.st v) (roundK 0 H28_0 P28_0 Q28_0 (u28_0 c55 c56 c57 N n) κ) = u28_0 c55 c56 c57 N (n + 1) v κ := by kernel_rfl
theorem o28_0 (c55 : Int → Option Bool) (c56 : Int → Int → Option (List Int)) (c57 : List Int → Option Int) (hT : TabOK FT XT (T28 c55 c56 c57)) (hO : RawOK FT XT (rawOf (α := ((Sh.tu (Sh.pr (Sh.int .u64) (Sh.int .i64)))).T) (RW28 c55 c56 c57))) (N : Nat) {s : St} {κ : Ex → St → Option (((Sh.tu (Sh.pr (Sh.int .u64) (Sh.int .i64)))).T)} {a : ((Sh.tu (Sh.pr (Sh.int .u64) (Sh.int .i64)))).T} (h : lpOf 0 H28_0 P28_0 Q28_0 (u28_0 c55 c56 c57 N N) s κ = some a) : Out FT XT 0 (retc k28.res (Sh.tu (Sh.pr (Sh.int .u64) (Sh.int .i64)))) (loopN k28 0) s κ a := by
  rw [l28_0]
  exact loop_out (LP := W28_0 c55 c56 c57 N) (fu := fuelC) hT hO (fun _ _ => rfl) (b28_0 c55 c56 c57 N) loopOK_nil N h
def W28 (c55 : Int → Option Bool) (c56 : Int → Int → Option (List Int)) (c57 : List Int → Option Int) (N : Nat) : LoopF (((Sh.tu (Sh.pr (Sh.int .u64) (Sh.int .i64)))).T) := fun no =>
  match no with
  | 0 => lpOf 0 H28_0 P28_0 Q28_0 (u28_0 c55 c56 c57 N N)
  | _ => fun _ _ => none
theorem e28 (c55 : Int → Option Bool) (c56 : Int → Int → Option (List Int)) (c57 : List Int → Option Int) (N : Nat) (a0 : Int) (a1 : Int) (a2 : List Int) : evc (T28 c55 c56 c57) (rawOf (RW28 c55 c56 c57)) (W28 c55 c56 c57 N) (retc k28.res (Sh.tu (Sh.pr (Sh.int .u64) (Sh.int .i64)))) (modeOf FT) 0 fuelC k28.body (env0 k28 (encL [(Sh.int .u64), (Sh.int .i64), (Sh.sl (Sh.int .i64))] (a0, (a1, (a2, ())))), []) (endK (retc k28.res (Sh.tu (Sh.pr (Sh.int .u64) (Sh.int .i64))))) = p28 c55 c56 c57 N a0 a1 a2 := by kernel_rfl
theorem ok28 (c55 : Int → Option Bool) (c56 : Int → Int → Option (List Int)) (c57 : List Int → Option Int) (h55 : EntOK FT XT 55 (en55 c55)) (h56 : EntOK FT XT 56 (en56 c56)) (h57 : EntOK FT XT 57 (en57 c57)) {f : Int → Int → List Int → Option (Int × Int)} (hf : ∀ a0 a1 a2 r, f a0 a1 a2 = some r → ∃ N, p28 c55 c56 c57 N a0 a1 a2 = some r) : EntOK FT XT 28 (en28 f) := by
  have hT : TabOK FT XT (T28 c55 c56 c57) := by
    intro g en hg
    unfold T28 at hg
    split at hg <;> first | (injection hg with hg; subst hg; assumption) | cases hg
  have hO : RawOK FT XT (rawOf (α := ((Sh.tu (Sh.pr (Sh.int .u64) (Sh.int .i64)))).T) (RW28 c55 c56 c57)) := by
    refine rawOf_ok (fun g en hg => ?_)
    unfold RW28 at hg
    split at hg <;> simp only [List.mem_cons, List.not_mem_nil, or_false] at hg <;> first | (subst hg; assumption) | (rcases hg with rfl | rfl <;> assumption) | (rcases hg with rfl | rfl | rfl <;> assumption) | (rcases hg with rfl | rfl | rfl | rfl <;> assumption)
  refine ⟨rfl, fun v r h => ?_⟩
  obtain ⟨a0, a1, a2, _⟩ := v
  obtain ⟨N, h1⟩ := hf _ _ _ _ h
  exact ans_c (R := (Sh.tu (Sh.pr (Sh.int .u64) (Sh.int .i64)))) (tab := T28 c55 c56 c57) (raw := (rawOf (RW28 c55 c56 c57))) (LP := W28 c55 c56 c57 N) (fu := fuelC) hT hO rfl rfl (Nat.le_of_ble_eq_true rfl) (loopOK_cons l28_0 (fun s κ a h => o28_0 c55 c56 c57 hT hO N h) loopOK_nil) ((e28 c55 c56 c57 N _ _ _).trans h1)

def T30 (c55 : Int → Option Bool) (c56 : Int → Int → Option (List Int)) (c57 : List Int → Option Int) : Nat → Option Ent
  | 55 => some (en55 c55)
  | 56 => some (en56 c56)
  | 57 => some (en57 c57)
  | _ => none
def RW30 (c55 : Int → Option Bool) (c56 : Int → Int → Option (List Int)) (c57 : List Int → Option Int) : Nat → List REnt
  | _ => []
def W30 (c55 : Int → Option Bool) (c56 : Int → Int → Option (List Int)) (c57 : List Int → Option Int) (N : Nat) : LoopF (((Sh.tu (Sh.pr (Sh.int .u64) (Sh.int .i64)))).T) := fun no =>
  match no with
  | _ => fun _ _ => none
theorem e30 (c55 : Int → Option Bool) (c56 : Int → Int → Option (List Int)) (c57 : List Int → Option Int) (N : Nat) (a0 : Int) (a1 : Int) (a2 : Int) : evc (T30 c55 c56 c57) (rawOf (RW30 c55 c56 c57)) (W30 c55 c56 c57 N) (retc k30.res (Sh.tu (Sh.pr (Sh.int .u64) (Sh.int .i64)))) (modeOf FT) 0 fuelC k30.body (env0 k30 (encL [(Sh.int .u64), (Sh.int .i64), (Sh.int .i64)] (a0, (a1, (a2, ())))), []) (endK (retc k30.res (Sh.tu (Sh.pr (Sh.int .u64) (Sh.int .i64))))) = p30 c55 c56 c57 N a0 a1 a2 := by kernel_rfl
theorem ok30 (c55 : Int → Option Bool) (c56 : Int → Int → Option (List Int)) (c57 : List Int → Option Int) (h55 : EntOK FT XT 55 (en55 c55)) (h56 : EntOK FT XT 56 (en56 c56)) (h57 : EntOK FT XT 57 (en57 c57)) {f : Int → Int → Int → Option (Int × Int)} (hf : ∀ a0 a1 a2 r, f a0 a1 a2 = some r → ∃ N, p30 c55 c56 c57 N a0 a1 a2 = some r) : EntOK FT XT 30 (en30 f) := by
  have hT : TabOK FT XT (T30 c55 c56 c57) := by
    intro g en hg
    unfold T30 at hg
    split at hg <;> first | (injection hg with hg; subst hg; assumption) | cases hg
  have hO : RawOK FT XT (rawOf (α := ((Sh.tu (Sh.pr (Sh.int .u64) (Sh.int .i64)))).T) (RW30 c55 c56 c57)) := by
    refine rawOf_ok (fun g en hg => ?_)
    unfold RW30 at hg
    split at hg <;> simp only [List.mem_cons, List.not_mem_nil, or_false] at hg <;> first | (subst hg; assumption) | (rcases hg with rfl | rfl <;> assumption) | (rcases hg with rfl | rfl | rfl <;> assumption) | (rcases hg with rfl | rfl | rfl | rfl <;> assumption)
  refine ⟨rfl, fun v r h => ?_⟩
  obtain ⟨a0, a1, a2, _⟩ := v
  obtain ⟨N, h1⟩ := hf _ _ _ _ h
  exact ans_c (R := (Sh.tu (Sh.pr (Sh.int .u64) (Sh.int .i64)))) (tab := T30 c55 c56 c57) (raw := (rawOf (RW30 c55 c56 c57))) (LP := W30 c55 c56 c57 N) (fu := fuelC) hT hO rfl rfl (Nat.le_of_ble_eq_true rfl) loopOK_nil ((e30 c55 c56 c57 N _ _ _).trans h1)

def T31 (c53 : Int → Option Bool) (c58 : Int → Option Int) : Nat → Option Ent
  | 53 => some (en53 c53)
  | 58 => some (en58 c58)
  | _ => none
def RW31 (c53 : Int → Option Bool) (c58 : Int → Option Int) : Nat → List REnt
  | _ => []
def W31 (c53 : Int → Option Bool) (c58 : Int → Option Int) (N : Nat) : LoopF (((Sh.tu (Sh.pr (Sh.int .u64) (Sh.pr (Sh.int .u64) (Sh.int .i64))))).T) := fun no =>
  match no with
  | _ => fun _ _ => none
theorem e31 (c53 : Int → Option Bool) (c58 : Int → Option Int) (N : Nat) (a0 : Int) (a1 : Int) (a2 : Int) : evc (T31 c53 c58) (rawOf (RW31 c53 c58)) (W31 c53 c58 N) (retc k31.res (Sh.tu (Sh.pr (Sh.int .u64) (Sh.pr (Sh.int .u64) (Sh.int .i64))))) (modeOf FT) 0 fuelC k31.body (env0 k31 (encL [(Sh.int .u64), (Sh.int .i64), (Sh.int .i64)] (a0, (a1, (a2, ())))), []) (endK (retc k31.res (Sh.tu (Sh.pr (Sh.int .u64) (Sh.pr (Sh.int .u64) (Sh.int .i64)))))) = p31 c53 c58 N a0 a1 a2 := by kernel_rfl
theorem ok31 (c53 : Int → Option Bool) (c58 : Int → Option Int) (h53 : EntOK FT XT 53 (en53 c53)) (h58 : EntOK FT XT 58 (en58 c58)) {f : Int → Int → Int → Option (Int × Int × Int)} (hf : ∀ a0 a1 a2 r, f a0 a1 a2 = some r → ∃ N, p31 c53 c58 N a0 a1 a2 = some r) : EntOK FT XT 31 (en31 f) := by
  have hT : TabOK FT XT (T31 c53 c58) := by
    intro g en hg
    unfold T31 at hg
    split at hg <;> first | (injection hg with hg; subst hg; assumption) | cases hg
  have hO : RawOK FT XT (rawOf (α := ((Sh.tu (Sh.pr (Sh.int .u64) (Sh.pr (Sh.int .u64) (Sh.int .i64))))).T) (RW31 c53 c58)) := by
    refine rawOf_ok (fun g en hg => ?_)
    unfold RW31 at hg
    split at hg <;> simp only [List.mem_cons, List.not_mem_nil, or_false] at hg <;> first | (subst hg; assumption) | (rcases hg with rfl | rfl <;> assumption) | (rcases hg with rfl | rfl | rfl <;> assumption) | (rcases hg with rfl | rfl | rfl | rfl <;> assumption)
  refine ⟨rfl, fun v r h => ?_⟩
  obtain ⟨a0, a1, a2, _⟩ := v
  obtain ⟨N, h1⟩ := hf _ _ _ _ h
  exact ans_c (R := (Sh.tu (Sh.pr (Sh.int .u64) (Sh.pr (Sh.int .u64) (Sh.int .i64))))) (tab := T31 c53 c58) (raw := (rawOf (RW31 c53 c58))) (LP := W31 c53 c58 N) (fu := fuelC) hT hO rfl rfl (Nat.le_of_ble_eq_true rfl) loopOK_nil ((e31 c53 c58 N _ _ _).trans h1)

def T32 (c55 : Int → Option Bool) (c56 : Int → Int → Option (List Int)) (c57 : List Int → Option Int) : Nat → Option Ent
  | 55 => some (en55 c55)
  | 56 => some (en56 c56)
  | 57 => some (en57 c57)
  | _ => none
def RW32 (c55 : Int → Option Bool) (c56 : Int → Int → Option (List Int)) (c57 : List Int → Option Int) : Nat → List REnt
  | _ => []
def W32 (c55 : Int → Option Bool) (c56 : Int → Int → Option (List Int)) (c57 : List Int → Option Int) (N : Nat) : LoopF (((Sh.tu (Sh.pr (Sh.int .u64) (Sh.pr (Sh.int .u64) (Sh.int .i64))))).T) := fun no =>
  match no with
  | _ => fun _ _ => none
theorem e32 (c55 : Int → Option Bool) (c56 : Int → Int → Option (List Int)) (c57 : List Int → Option Int) (N : Nat) (a0 : Int) (a1 : Int) (a2 : Int) : evc (T32 c55 c56 c57) (rawOf (RW32 c55 c56 c57)) (W32 c55 c56 c57 N) (retc k32.res (Sh.tu (Sh.pr (Sh.int .u64) (Sh.pr (Sh.int .u64) (Sh.int .i64))))) (modeOf FT) 0 fuelC k32.body (env0 k32 (encL [(Sh.int .u64), (Sh.int .i64), (Sh.int .i64)] (a0, (a1, (a2, ())))), []) (endK (retc k32.res (Sh.tu (Sh.pr (Sh.int .u64) (Sh.pr (Sh.int .u64) (Sh.int .i64)))))) = p32 c55 c56 c57 N a0 a1 a2 := by kernel_rfl
theorem ok32 (c55 : Int → Option Bool) (c56 : Int → Int → Option (List Int)) (c57 : List Int → Option Int) (h55 : EntOK FT XT 55 (en55 c55)) (h56 : EntOK FT XT 56 (en56 c56)) (h57 : EntOK FT XT 57 (en57 c57)) {f : Int → Int → Int → Option (Int × Int × Int)} (hf : ∀ a0 a1 a2 r, f a0 a1 a2 = some r → ∃ N, p32 c55 c56 c57 N a0 a1 a2 = some r) : EntOK FT XT 32 (en32 f) := by
  have hT : TabOK FT XT (T32 c55 c56 c57) := by
    intro g en hg
    unfold T32 at hg
    split at hg <;> first | (injection hg with hg; subst hg; assumption) | cases hg
  have hO : RawOK FT XT (rawOf (α := ((Sh.tu (Sh.pr (Sh.int .u64) (Sh.pr (Sh.int .u64) (Sh.int .i64))))).T) (RW32 c55 c56 c57)) := by
    refine rawOf_ok (fun g en hg => ?_)
    unfold RW32 at hg
    split at hg <;> simp only [List.mem_cons, List.not_mem_nil, or_false] at hg <;> first | (subst hg; assumption) | (rcases hg with rfl | rfl <;> assumption) | (rcases hg with rfl | rfl | rfl <;> assumption) | (rcases hg with rfl | rfl | rfl | rfl <;> assumption)
  refine ⟨rfl, fun v r h => ?_⟩
  obtain ⟨a0, a1, a2, _⟩ := v
  obtain ⟨N, h1⟩ := hf _ _ _ _ h
  exact ans_c (R := (Sh.tu (Sh.pr (Sh.int .u64) (Sh.pr (Sh.int .u64) (Sh.int .i64))))) (tab := T32 c55 c56 c57) (raw := (rawOf (RW32 c55 c56 c57))) (LP := W32 c55 c56 c57 N) (fu := fuelC) hT hO rfl rfl (Nat.le_of_ble_eq_true rfl) loopOK_nil ((e32 c55 c56 c57 N _ _ _).trans h1)

def T34 (c55 : Int → Option Bool) (c56 : Int → Int → Option (List Int)) : Nat → Option Ent
  | 55 => some (en55 c55)
  | 56 => some (en56 c56)
  | _ => none
def RW34 (c55 : Int → Option Bool) (c56 : Int → Int → Option (List Int)) : Nat → List REnt
  | _ => []
def W34 (c55 : Int → Option Bool) (c56 : Int → Int → Option (List Int)) (N : Nat) : LoopF (((Sh.int .u64)).T) := fun no =>
  match no with
  | _ => fun _ _ => none
theorem e34 (c55 : Int → Option Bool) (c56 : Int → Int → Option (List Int)) (N : Nat) (a0 : Int) (a1 : Int) (a2 : Int) : evc (T34 c55 c56) (rawOf (RW34 c55 c56)) (W34 c55 c56 N) (retc k34.res (Sh.int .u64)) (modeOf FT) 0 fuelC k34.body (env0 k34 (encL [(Sh.int .u64), (Sh.int .i64), (Sh.int .i64)] (a0, (a1, (a2, ())))), []) (endK (retc k34.res (Sh.int .u64))) = p34 c55 c56 N a0 a1 a2 := by kernel_rfl
theorem ok34 (c55 : Int → Option Bool) (c56 : Int → Int → Option (List Int)) (h55 : EntOK FT XT 55 (en55 c55)) (h56 : EntOK FT XT 56 (en56 c56)) {f : Int → Int → Int → Option Int} (hf : ∀ a0 a1 a2 r, f a0 a1 a2 = some r → ∃ N, p34 c55 c56 N a0 a1 a2 = some r) : EntOK FT XT 34 (en34 f) := by
  have hT : TabOK FT XT (T34 c55 c56) := by
    intro g en hg
    unfold T34 at hg
    split at hg <;> first | (injection hg with hg; subst hg; assumption) | cases hg
  have hO : RawOK FT XT (rawOf (α := ((Sh.int .u64)).T) (RW34 c55 c56)) := by
    refine rawOf_ok (fun g en hg => ?_)
    unfold RW34 at hg
    split at hg <;> simp only [List.mem_cons, List.not_mem_nil, or_false] at hg <;> first | (subst hg; assumption) | (rcases hg with rfl | rfl <;> assumption) | (rcases hg with rfl | rfl | rfl <;> assumption) | (rcases hg with rfl | rfl | rfl | rfl <;> assumption)
  refine ⟨rfl, fun v r h => ?_⟩
  obtain ⟨a0, a1, a2, _⟩ := v
  obtain ⟨N, h1⟩ := hf _ _ _ _ h
  exact ans_c (R := (Sh.int .u64)) (tab := T34 c55 c56) (raw := (rawOf (RW34 c55 c56))) (LP := W34 c55 c56 N) (fu := fuelC) hT hO rfl rfl (Nat.le_of_ble_eq_true rfl) loopOK_nil ((e34 c55 c56 N _ _ _).trans h1)

def T12 (c26 : Option Bool) (c27 : Int → Int → List Int → Option (Int × Int)) (c28 : Int → Int → List Int → Option (Int × Int)) (c29 : Int → Int → Int → Option (Int × Int)) (c30 : Int → Int → Int → Option (Int × Int)) (c31 : Int → Int → Int → Option (Int × Int × Int)) (c32 : Int → Int → Int → Option (Int × Int × Int)) (c33 : Int → Int → Int → Option Int) (c34 : Int → Int → Int → Option Int) : Nat → Option Ent
  | 26 => some (en26 c26)
  | 27 => some (en27 c27)
  | 28 => some (en28 c28)
  | 29 => some (en29 c29)
  | 30 => some (en30 c30)
  | 31 => some (en31 c31)
  | 32 => some (en32 c32)
  | 33 => some (en33 c33)
  | 34 => some (en34 c34)
  | _ => none
def RW12 (c26 : Option Bool) (c27 : Int → Int → List Int → Option (Int × Int)) (c28 : Int → Int → List Int → Option (Int × Int)) (c29 : Int → Int → Int → Option (Int × Int)) (c30 : Int → Int → Int → Option (Int × Int)) (c31 : Int → Int → Int → Option (Int × Int × Int)) (c32 : Int → Int → Int → Option (Int × Int × Int)) (c33 : Int → Int → Int → Option Int) (c34 : Int → Int → Int → Option Int) : Nat → List REnt
  | _ => []
def W12 (c26 : Option Bool) (c27 : Int → Int → List Int → Option (Int × Int)) (c28 : Int → Int → List Int → Option (Int × Int)) (c29 : Int → Int → Int → Option (Int × Int)) (c30 : Int → Int → Int → Option (Int × Int)) (c31 : Int → Int → Int → Option (Int × Int × Int)) (c32 : Int → Int → Int → Option (Int × Int × Int)) (c33 : Int → Int → Int → Option Int) (c34 : Int → Int → Int → Option Int) (N : Nat) : LoopF (Sh.bool).T := fun no =>
  match no with
  | _ => fun _ _ => none
theorem e12 (c26 : Option Bool) (c27 : Int → Int → List Int → Option (Int × Int)) (c28 : Int → Int → List Int → Option (Int × Int)) (c29 : Int → Int → Int → Option (Int × Int)) (c30 : Int → Int → Int → Option (Int × Int)) (c31 : Int → Int → Int → Option (Int × Int × Int)) (c32 : Int → Int → Int → Option (Int × Int × Int)) (c33 : Int → Int → Int → Option Int) (c34 : Int → Int → Int → Option Int) (N : Nat) (a0 : Int) (a1 : List Int) (a2 : List Int) : evc (T12 c26 c27 c28 c29 c30 c31 c32 c33 c34) (rawOf (RW12 c26 c27 c28 c29 c30 c31 c32 c33 c34)) (W12 c26 c27 c28 c29 c30 c31 c32 c33 c34 N) (retc k12.res Sh.bool) (modeOf FT) 0 fuelC k12.body (env0 k12 (encL [(Sh.int .u64), (Sh.ar .i64), (Sh.sl (Sh.int .i64))] (a0, (a1, (a2, ())))), []) (endK (retc k12.res Sh.bool)) = p12 c26 c27 c28 c29 c30 c31 c32 c33 c34 N a0 a1 a2 := by kernel_rfl
theorem ok12 (c26 : Option Bool) (c27 : Int → Int → List Int → Option (Int × Int)) (c28 : Int → Int → List Int → Option (Int × Int)) (c29 : Int → Int → Int → Option (Int × Int)) (c30 : Int → Int → Int → Option (Int × Int)) (c31 : Int → Int → Int → Option (Int × Int × Int)) (c32 : Int → Int → Int → Option (Int × Int × Int)) (c33 : Int → Int → Int → Option Int) (c34 : Int → Int → Int → Option Int) (h26 : EntOK FT XT 26 (en26 c26)) (h27 : EntOK FT XT 27 (en27 c27)) (h28 : EntOK FT XT 28 (en28 c28)) (h29 : EntOK FT XT 29 (en29 c29)) (h30 : EntOK FT XT 30 (en30 c30)) (h31 : EntOK FT XT 31 (en31 c31)) (h32 : EntOK FT XT 32 (en32 c32)) (h33 : EntOK FT XT 33 (en33 c33)) (h34 : EntOK FT XT 34 (en34 c34)) {f : Int → List Int → List Int → Option Bool} (hf : ∀ a0 a1 a2 r, f a0 a1 a2 = some r → ∃ N, p12 c26 c27 c28 c29 c30 c31 c32 c33 c34 N a0 a1 a2 = some r) : EntOK FT XT 12 (en12 f) := by
  have hT : TabOK FT XT (T12 c26 c27 c28 c29 c30 c31 c32 c33 c34) := by
    intro g en hg
    unfold T12 at hg
    split at hg <;> first | (injection hg with hg; subst hg; assumption) | cases hg
  have hO : RawOK FT XT (rawOf (α := (Sh.bool).T) (RW12 c26 c27 c28 c29 c30 c31 c32 c33 c34)) := by
    refine rawOf_ok (fun g en hg => ?_)
    unfold RW12 at hg
    split at hg <;> simp only [List.mem_cons, List.not_mem_nil, or_false] at hg <;> first | (subst hg; assumption) | (rcases hg with rfl | rfl <;> assumption) | (rcases hg with rfl | rfl | rfl <;> assumption) | (rcases hg with rfl | rfl | rfl | rfl <;> assumption)
  refine ⟨rfl, fun v r h => ?_⟩
  obtain ⟨a0, a1, a2, _⟩ := v
  obtain ⟨N, h1⟩ := hf _ _ _ _ h
  exact ans_c (R := Sh.bool) (tab := T12 c26 c27 c28 c29 c30 c31 c32 c33 c34) (raw := (rawOf (RW12 c26 c27 c28 c29 c30 c31 c32 c33 c34))) (LP := W12 c26 c27 c28 c29 c30 c31 c32 c33 c34 N) (fu := fuelC) hT hO rfl rfl (Nat.le_of_ble_eq_true rfl) loopOK_nil ((e12 c26 c27 c28 c29 c30 c31 c32 c33 c34 N _ _ _).trans h1)

def T35 : Nat → Option Ent
  | _ => none
def RW35 : Nat → List REnt
  | _ => []
def W35 (N : Nat) : LoopF (((Sh.int .u64)).T) := fun no =>
  match no with
  | _ => fun _ _ => none
theorem e35 (N : Nat) (a0 : Int) (a1 : Int) : evc (T35) (rawOf (RW35)) (W35 N) (retc k35.res (Sh.int .u64)) (modeOf FT) 0 fuelC k35.body (env0 k35 (encL [(Sh.int .u64), (Sh.int .i64)] (a0, (a1, ()))), []) (endK (retc k35.res (Sh.int .u64))) = p35 N a0 a1 := by kernel_rfl
theorem ok35 {f : Int → Int → Option Int} (hf : ∀ a0 a1 r, f a0 a1 = some r → ∃ N, p35 N a0 a1 = some r) : EntOK FT XT 35 (en35 f) := by
  have hT : TabOK FT XT (T35) := by
    intro g en hg
    unfold T35 at hg
    split at hg <;> first | (injection hg with hg; subst hg; assumption) | cases hg
  have hO : RawOK FT XT (rawOf (α := ((Sh.int .u64)).T) (RW35)) := by
    refine rawOf_ok (fun g en hg => ?_)
    unfold RW35 at hg
    split at hg <;> simp only [List.mem_cons, List.not_mem_nil, or_false] at hg <;> first | (subst hg; assumption) | (rcases hg with rfl | rfl <;> assumption) | (rcases hg with rfl | rfl | rfl <;> assumption) | (rcases hg with rfl | rfl | rfl | rfl <;> assumption)
  refine ⟨rfl, fun v r h => ?_⟩
  obtain ⟨a0, a1, _⟩ := v
  obtain ⟨N, h1⟩ := hf _ _ _ h
  exact ans_c (R := (Sh.int .u64)) (tab := T35) (raw := (rawOf (RW35))) (LP := W35 N) (fu := fuelC) hT hO rfl rfl (Nat.le_of_ble_eq_true rfl) loopOK_nil ((e35 N _ _).trans h1)

def T13 (c29 : Int → Int → Int → Option (Int × Int)) (c26 : Option Bool) (c31 : Int → Int → Int → Option (Int × Int × Int)) (c35 : Int → Int → Option Int) : Nat → Option Ent
  | 29 => some (en29 c29)
  | 26 => some (en26 c26)
  | 31 => some (en31 c31)
  | 35 => some (en35 c35)
  | _ => none
def RW13 (c29 : Int → Int → Int → Option (Int × Int)) (c26 : Option Bool) (c31 : Int → Int → Int → Option (Int × Int × Int)) (c35 : Int → Int → Option Int) : Nat → List REnt
  | _ => []
def W13 (c29 : Int → Int → Int → Option (Int × Int)) (c26 : Option Bool) (c31 : Int → Int → Int → Option (Int × Int × Int)) (c35 : Int → Int → Option Int) (N : Nat) : LoopF (Sh.bool).T := fun no =>
  match no with
  | _ => fun _ _ => none
theorem e13 (c29 : Int → Int → Int → Option (Int × Int)) (c26 : Option Bool) (c31 : Int → Int → Int → Option (Int × Int × Int)) (c35 : Int → Int → Option Int) (N : Nat) (a0 : Int) (a1 : Int) (a2 : List Int) : evc (T13 c29 c26 c31 c35) (rawOf (RW13 c29 c26 c31 c35)) (W13 c29 c26 c31 c35 N) (retc k13.res Sh.bool) (modeOf FT) 0 fuelC k13.body (env0 k13 (encL [(Sh.int .u64), (Sh.int .i64), (Sh.ar .i16)] (a0, (a1, (a2, ())))), []) (endK (retc k13.res Sh.bool)) = p13 c29 c26 c31 c35 N a0 a1 a2 := by kernel_rfl
theorem ok13 (c29 : Int → Int → Int → Option (Int × Int)) (c26 : Option Bool) (c31 : Int → Int → Int → Option (Int × Int × Int)) (c35 : Int → Int → Option Int) (h29 : EntOK FT XT 29 (en29 c29)) (h26 : EntOK FT XT 26 (en26 c26)) (h31 : EntOK FT XT 31 (en31 c31)) (h35 : EntOK FT XT 35 (en35 c35)) {f : Int → Int → List Int → Option Bool} (hf : ∀ a0 a1 a2 r, f a0 a1 a2 = some r → ∃ N, p13 c29 c26 c31 c35 N a0 a1 a2 = some r) : EntOK FT XT 13 (en13 f) := by
  have hT : TabOK FT XT (T13 c29 c26 c31 c35) := by
    intro g en hg
    unfold T13 at hg
    split at hg <;> first | (injection hg with hg; subst hg; assumption) | cases hg
  have hO : RawOK FT XT (rawOf (α := (Sh.bool).T) (RW13 c29 c26 c31 c35)) := by
    refine rawOf_ok (fun g en hg => ?_)
    unfold RW13 at hg
    split at hg <;> simp only [List.mem_cons, List.not_mem_nil, or_false] at hg <;> first | (subst hg; assumption) | (rcases hg with rfl | rfl <;> assumption) | (rcases hg with rfl | rfl | rfl <;> assumption) | (rcases hg with rfl | rfl | rfl | rfl <;> assumption)
  refine ⟨rfl, fun v r h => ?_⟩
  obtain ⟨a0, a1, a2, _⟩ := v
  obtain ⟨N, h1⟩ := hf _ _ _ _ h
  exact ans_c (R := Sh.bool) (tab := T13 c29 c26 c31 c35) (raw := (rawOf (RW13 c29 c26 c31 c35))) (LP := W13 c29 c26 c31 c35 N) (fu := fuelC) hT hO rfl rfl (Nat.le_of_ble_eq_true rfl) loopOK_nil ((e13 c29 c26 c31 c35 N _ _ _).trans h1)

def T39 : Nat → Option Ent
  | _ => none
def RW39 : Nat → List REnt
  | _ => []
def H39_0 : Trim := ⟨0, [], false, [0, 3, 4], []⟩
theorem l39_0 : loopN k39 0 = .loop H39_0 (bodyOf (loopN k39 0)) := by kernel_rfl
def P39_0 : Ps := ⟨[(0, (.int .u8)), (2, .u), (3, (.int .u8)), (4, (.int .i64)), (6, .u)], []⟩
def Q39_0 : Nat → Ps
  | 0 => ⟨[(0, (.int .u8)), (2, .u), (3, (.int .u8)), (4, .u), (6, .u)], []⟩
  | _ => noPs
def u39_0 (N n : Nat) (v : P39_0.T) (κ : (i : Nat) → (Q39_0 i).T → Option (((Sh.int .u8)).T)) : Option (((Sh.int .u8)).T) :=
  L39_0 N (fun (y0 : Int) (y1 : Int) => κ 0 ((y0, ((), (y1, ((), ((), ()))))), ())) n v.1.1 v.1.2.2.1 v.1.2.2.2.1
def W39_0 (N : Nat) : LoopF (((Sh.int .u8)).T) := fun no =>
  match no with
  | _ => fun _ _ => none
theorem b39_0 (N n : Nat) (v : P39_0.T) (κ : (i : Nat) → (Q39_0 i).T → Option (((Sh.int .u8)).T)) :
    evc (T39) (rawOf (RW39)) (W39_0 N) (retc k39.res (Sh.int .u8)) (modeOf FT) 0 fuelC (bodyOf (loopN k39 0)) (P39_0.st v) (roundK 0 H39_0 P39_0 Q39_0 (u39_0 N n) κ) = u39_0 N (n + 1) v κ := by kernel_rfl
theorem o39_0 (hT : TabOK FT XT (T39)) (hO : RawOK FT XT (rawOf (α := ((Sh.int .u8)).T) (RW39))) (N : Nat) {s : St} {κ : Ex → St → Option (((Sh.int .u8)).T)} {a : ((Sh.int .u8)).T} (h : lpOf 0 H39_0 P39_0 Q39_0 (u39_0 N N) s κ = some a) : Out FT XT 0 (retc k39.res (Sh.int .u8)) (loopN k39 0) s κ a := by
  rw [l39_0]
  exact loop_out (LP := W39_0 N) (fu := fuelC) hT hO (fun _ _ => rfl) (b39_0 N) loopOK_nil N h
def W39 (N : Nat) : LoopF (((Sh.int .u8)).T) := fun no =>
  match no with
  | 0 => lpOf 0 H39_0 P39_0 Q39_0 (u39_0 N N)
  | _ => fun _ _ => none
theorem e39 (N : Nat) (a0 : Int) : evc (T39) (rawOf (RW39)) (W39 N) (retc k39.res (Sh.int .u8)) (modeOf FT) 0 fuelC k39.body (env0 k39 (encL [(Sh.int .u8)] (a0, ())), []) (endK (retc k39.res (Sh.int .u8))) = p39 N a0 := by kernel_rfl
theorem ok39 {f : Int → Option Int} (hf : ∀ a0 r, f a0 = some r → ∃ N, p39 N a0 = some r) : EntOK FT XT 39 (en39 f) := by
  have hT : TabOK FT XT (T39) := by
    intro g en hg
    unfold T39 at hg
    split at hg <;> first | (injection hg with hg; subst hg; assumption) | cases hg
  have hO : RawOK FT XT (rawOf (α := ((Sh.int .u8)).T) (RW39)) := by
    refine rawOf_ok (fun g en hg => ?_)
    unfold RW39 at hg
    split at hg <;> simp only [List.mem_cons, List.not_mem_nil, or_false] at hg <;> first | (subst hg; assumption) | (rcases hg with rfl | rfl <;> assumption) | (rcases hg with rfl | rfl | rfl <;> assumption) | (rcases hg with rfl | rfl | rfl | rfl <;> assumption)
  refine ⟨rfl, fun v r h => ?_⟩
  obtain ⟨a0, _⟩ := v
  obtain ⟨N, h1⟩ := hf _ _ h
  exact ans_c (R := (Sh.int .u8)) (tab := T39) (raw := (rawOf (RW39))) (LP := W39 N) (fu := fuelC) hT hO rfl rfl (Nat.le_of_ble_eq_true rfl) (loopOK_cons l39_0 (fun s κ a h => o39_0 hT hO N h) loopOK_nil) ((e39 N _).trans h1)

def T36 (c56 : Int → Int → Option (List Int)) (c57 : List Int → Option Int) (c39 : Int → Option Int) : Nat → Option Ent
  | 56 => some (en56 c56)
  | 57 => some (en57 c57)
  | 39 => some (en39 c39)
  | _ => none
def RW36 (c56 : Int → Int → Option (List Int)) (c57 : List Int → Option Int) (c39 : Int → Option Int) : Nat → List REnt
  | _ => []
def H36_1 : Trim := ⟨1, [], false, [4, 5, 7], [(5, (.ints .u8 []), 1)]⟩
theorem l36_1 : loopN k36 1 = .loop H36_1 (bodyOf (loopN k36 1)) := by kernel_rfl
def P36_1 : Ps := ⟨[(0, .u), (2, .u), (3, .u), (4, (.sl 0 1)), (5, (.sl 1 1)), (6, .u), (7, (.int .i64)), (10, .u), (12, .u), (24, .u)], [(.ints false .u8), (.ints false .u8)]⟩
def Q36_1 : Nat → Ps
  | 2 => ⟨[(0, .u), (2, .u), (3, .u), (4, .u), (5, (.sl 0 1)), (6, .u), (7, .u), (10, .u), (12, .u), (24, .u)], [(.ints false .u8)]⟩
  | _ => noPs
def u36_1 (c56 : Int → Int → Option (List Int)) (c57 : List Int → Option Int) (c39 : Int → Option Int) (N n : Nat) (v : P36_1.T) (κ : (i : Nat) → (Q36_1 i).T → Option (((Sh.tu (Sh.pr (Sh.sl (Sh.int .u8)) (Sh.int .i64)))).T)) : Option (((Sh.tu (Sh.pr (Sh.sl (Sh.int .u8)) (Sh.int .i64)))).T) :=
  L36_1 c56 c57 c39 N (fun (y0 : Nat) (y1 : List Int) => κ 2 (((), ((), ((), ((), (y0, ((), ((), ((), ((), ((), ())))))))))), (y1, ()))) n v.1.2.2.2.1 v.1.2.2.2.2.1 v.1.2.2.2.2.2.2.1 v.2.1 v.2.2.1
def W36_1 (c56 : Int → Int → Option (List Int)) (c57 : List Int → Option Int) (c39 : Int → Option Int) (N : Nat) : LoopF (((Sh.tu (Sh.pr (Sh.sl (Sh.int .u8)) (Sh.int .i64)))).T) := fun no =>
  match no with
  | _ => fun _ _ => none
theorem b36_1 (c56 : Int → Int → Option (List Int)) (c57 : List Int → Option Int) (c39 : Int → Option Int) (N n : Nat) (v : P36_1.T) (κ : (i : Nat) → (Q36_1 i).T → Option (((Sh.tu (Sh.pr (Sh.sl (Sh.int .u8)) (Sh.int .i64)))).T)) :
    evc (T36 c56 c57 c39) (rawOf (RW36 c56 c57 c39)) (W36_1 c56 c57 c39 N) (retc k36.res (Sh.tu (Sh.pr (Sh.sl (Sh.int .u8)) (Sh.int .i64)))) (modeOf FT) 0 fuelC (bodyOf (loopN k36 1)) (P36_1.st v) (roundK 0 H36_1 P36_1 Q36_1 (u36_1 c56 c57 c39 N n) κ) = u36_1 c56 c57 c39 N (n + 1) v κ := by kernel_rfl
theorem o36_1 (c56 : Int → Int → Option (List Int)) (c57 : List Int → Option Int) (c39 : Int → Option Int) (hT : TabOK FT XT (T36 c56 c57 c39)) (hO : RawOK FT XT (rawOf (α := ((Sh.tu (Sh.pr (Sh.sl (Sh.int .u8)) (Sh.int .i64)))).T) (RW36 c56 c57 c39))) (N : Nat) {s : St} {κ : Ex → St → Option (((Sh.tu (Sh.pr (Sh.sl (Sh.int .u8)) (Sh.int .i64)))).T)} {a : ((Sh.tu (Sh.pr (Sh.sl (Sh.int .u8)) (Sh.int .i64)))).T} (h : lpOf 0 H36_1 P36_1 Q36_1 (u36_1 c56 c57 c39 N N) s κ = some a) : Out FT XT 0 (retc k36.res (Sh.tu (Sh.pr (Sh.sl (Sh.int .u8)) (Sh.int .i64)))) (loopN k36 1) s κ a := by
  rw [l36_1]
  exact loop_out (LP := W36_1 c56 c57 c39 N) (fu := fuelC) hT hO (fun _ _ => rfl) (b36_1 c56 c57 c39 N) loopOK_nil N h
def H36_0 : Trim := ⟨0, [], false, [0, 4, 5, 6], [(4, (.ints .u8 []), 1)]⟩
theorem l36_0 : loopN k36 0 = .loop H36_0 (bodyOf (loopN k36 0)) := by kernel_rfl
def P36_0 : Ps := ⟨[(0, (.tb (Sh.int .u8))), (2, .u), (3, .u), (4, (.sl 0 1)), (5, .nils), (6, (.int .i64)), (7, .u), (10, .u), (12, .u), (24, .u)], [(.ints false .u8)]⟩
def Q36_0 : Nat → Ps
  | 0 => ⟨[(0, .u), (2, .u), (3, .u), (4, (.sl 0 1)), (5, .nils), (6, .u), (7, .u), (10, .u), (12, .u), (24, .u)], [(.ints false .u8)]⟩
  | _ => noPs
def u36_0 (c56 : Int → Int → Option (List Int)) (c57 : List Int → Option Int) (c39 : Int → Option Int) (N n : Nat) (v : P36_0.T) (κ : (i : Nat) → (Q36_0 i).T → Option (((Sh.tu (Sh.pr (Sh.sl (Sh.int .u8)) (Sh.int .i64)))).T)) : Option (((Sh.tu (Sh.pr (Sh.sl (Sh.int .u8)) (Sh.int .i64)))).T) :=
  L36_0 c56 c57 c39 N (fun (y0 : Nat) (y1 : List Int) => κ 0 (((), ((), ((), (y0, ((), ((), ((), ((), ((), ((), ())))))))))), (y1, ()))) n v.1.1 v.1.2.2.2.1 v.1.2.2.2.2.2.1 v.2.1
def W36_0 (c56 : Int → Int → Option (List Int)) (c57 : List Int → Option Int) (c39 : Int → Option Int) (N : Nat) : LoopF (((Sh.tu (Sh.pr (Sh.sl (Sh.int .u8)) (Sh.int .i64)))).T) := fun no =>
  match no with
  | _ => fun _ _ => none
theorem b36_0 (c56 : Int → Int → Option (List Int)) (c57 : List Int → Option Int) (c39 : Int → Option Int) (N n : Nat) (v : P36_0.T) (κ : (i : Nat) → (Q36_0 i).T → Option (((Sh.tu (Sh.pr (Sh.sl (Sh.int .u8)) (Sh.int .i64)))).T)) :
    evc (T36 c56 c57 c39) (rawOf (RW36 c56 c57 c39)) (W36_0 c56 c57 c39 N) (retc k36.res (Sh.tu (Sh.pr (Sh.sl (Sh.int .u8)) (Sh.int .i64)))) (modeOf FT) 0 fuelC (bodyOf (loopN k36 0)) (P36_0.st v) (roundK 0 H36_0 P36_0 Q36_0 (u36_0 c56 c57 c39 N n) κ) = u36_0 c56 c57 c39 N (n + 1) v κ := by kernel_rfl
theorem o36_0 (c56 : Int → Int → Option (List Int)) (c57 : List Int → Option Int) (c39 : Int → Option Int) (hT : TabOK FT XT (T36 c56 c57 c39)) (hO : RawOK FT XT (rawOf (α := ((Sh.tu (Sh.pr (Sh.sl (Sh.int .u8)) (Sh.int .i64)))).T) (RW36 c56 c57 c39))) (N : Nat) {s : St} {κ : Ex → St → Option (((Sh.tu (Sh.pr (Sh.sl (Sh.int .u8)) (Sh.int .i64)))).T)} {a : ((Sh.tu (Sh.pr (Sh.sl (Sh.int .u8)) (Sh.int .i64)))).T} (h : lpOf 0 H36_0 P36_0 Q36_0 (u36_0 c56 c57 c39 N N) s κ = some a) : Out FT XT 0 (retc k36.res (Sh.tu (Sh.pr (Sh.sl (Sh.int .u8)) (Sh.int .i64)))) (loopN k36 0) s κ a := by
  rw [l36_0]
  exact loop_out (LP := W36_0 c56 c57 c39 N) (fu := fuelC) hT hO (fun _ _ => rfl) (b36_0 c56 c57 c39 N) loopOK_nil N h
def W36 (c56 : Int → Int → Option (List Int)) (c57 : List Int → Option Int) (c39 : Int → Option Int) (N : Nat) : LoopF (((Sh.tu (Sh.pr (Sh.sl (Sh.int .u8)) (Sh.int .i64)))).T) := fun no =>
  match no with
  | 0 => lpOf 0 H36_0 P36_0 Q36_0 (u36_0 c56 c57 c39 N N)
  | 1 => lpOf 0 H36_1 P36_1 Q36_1 (u36_1 c56 c57 c39 N N)
  | _ => fun _ _ => none
theorem e36 (c56 : Int → Int → Option (List Int)) (c57 : List Int → Option Int) (c39 : Int → Option Int) (N : Nat) (a0 : List Int) : evc (T36 c56 c57 c39) (rawOf (RW36 c56 c57 c39)) (W36 c56 c57 c39 N) (retc k36.res (Sh.tu (Sh.pr (Sh.sl (Sh.int .u8)) (Sh.int .i64)))) (modeOf FT) 0 fuelC k36.body (env0 k36 (encL [(Sh.sl (Sh.int .u8))] (a0, ())), []) (endK (retc k36.res (Sh.tu (Sh.pr (Sh.sl (Sh.int .u8)) (Sh.int .i64))))) = p36 c56 c57 c39 N a0 := by kernel_rfl
theorem ok36 (c56 : Int → Int → Option (List Int)) (c57 : List Int → Option Int) (c39 : Int → Option Int) (h56 : EntOK FT XT 56 (en56 c56)) (h57 : EntOK FT XT 57 (en57 c57)) (h39 : EntOK FT XT 39 (en39 c39)) {f : List Int → Option ((List Int) × Int)} (hf : ∀ a0 r, f a0 = some r → ∃ N, p36 c56 c57 c39 N a0 = some r) : EntOK FT XT 36 (en36 f) := by
  have hT : TabOK FT XT (T36 c56 c57 c39) := by
    intro g en hg
    unfold T36 at hg
    split at hg <;> first | (injection hg with hg; subst hg; assumption) | cases hg
  have hO : RawOK FT XT (rawOf (α := ((Sh.tu (Sh.pr (Sh.sl (Sh.int .u8)) (Sh.int .i64)))).T) (RW36 c56 c57 c39)) := by
    refine rawOf_ok (fun g en hg => ?_)
    unfold RW36 at hg
    split at hg <;> simp only [List.mem_cons, List.not_mem_nil, or_false] at hg <;> first | (subst hg; assumption) | (rcases hg with rfl | rfl <;> assumption) | (rcases hg with rfl | rfl | rfl <;> assumption) | (rcases hg with rfl | rfl | rfl | rfl <;> assumption)
  refine ⟨rfl, fun v r h => ?_⟩
  obtain ⟨a0, _⟩ := v
  obtain ⟨N, h1⟩ := hf _ _ h
  exact ans_c (R := (Sh.tu (Sh.pr (Sh.sl (Sh.int .u8)) (Sh.int .i64)))) (tab := T36 c56 c57 c39) (raw := (rawOf (RW36 c56 c57 c39))) (LP := W36 c56 c57 c39 N) (fu := fuelC) hT hO rfl rfl (Nat.le_of_ble_eq_true rfl) (loopOK_cons l36_0 (fun s κ a h => o36_0 c56 c57 c39 hT hO N h) (loopOK_cons l36_1 (fun s κ a h => o36_1 c56 c57 c39 hT hO N h) loopOK_nil)) ((e36 c56 c57 c39 N _).trans h1)

def T37 : Nat → Option Ent
  | _ => none
def RW37 : Nat → List REnt
  | _ => []
def H37_1 : Trim := ⟨1, [], false, [4, 7, 27, 28], []⟩
theorem l37_1 : loopN k37 1 = .loop H37_1 (bodyOf (loopN k37 1)) := by kernel_rfl
def P37_1 : Ps := ⟨[(0, .u), (2, .u), (3, .u), (4, (.int .u64)), (6, .u), (7, (.slc 0 1)), (8, .u), (11, .u), (12, .u), (13, .u), (14, .u), (15, .u), (27, (.int .i64)), (28, (.int .i64)), (29, .u)], [(.ints false .u8)]⟩
def Q37_1 : Nat → Ps
  | 2 => ⟨[(0, .u), (2, .u), (3, .u), (4, .u), (6, .u), (7, (.slc 0 1)), (8, .u), (11, .u), (12, .u), (13, .u), (14, .u), (15, .u), (27, .u), (28, .u), (29, .u)], [(.ints false .u8)]⟩
  | _ => noPs
def u37_1 (N n : Nat) (v : P37_1.T) (κ : (i : Nat) → (Q37_1 i).T → Option (((Sh.tu (Sh.pr (Sh.sl (Sh.int .u8)) (Sh.int .i64)))).T)) : Option (((Sh.tu (Sh.pr (Sh.sl (Sh.int .u8)) (Sh.int .i64)))).T) :=
  L37_1 N (fun (y0 : Nat) (y1 : Nat) (y2 : List Int) => κ 2 (((), ((), ((), ((), ((), ((y0, y1), ((), ((), ((), ((), ((), ((), ((), ((), ((), ()))))))))))))))), (y2, ()))) n v.1.2.2.2.1 v.1.2.2.2.2.2.1.1 v.1.2.2.2.2.2.1.2 v.1.2.2.2.2.2.2.2.2.2.2.2.2.1 v.1.2.2.2.2.2.2.2.2.2.2.2.2.2.1 v.2.1
def W37_1 (N : Nat) : LoopF (((Sh.tu (Sh.pr (Sh.sl (Sh.int .u8)) (Sh.int .i64)))).T) := fun no =>
  match no with
  | _ => fun _ _ => none
theorem b37_1 (N n : Nat) (v : P37_1.T) (κ : (i : Nat) → (Q37_1 i).T → Option (((Sh.tu (Sh.pr (Sh.sl (Sh.int .u8)) (Sh.int .i64)))).T)) :
    evc (T37) (rawOf (RW37)) (W37_1 N) (retc k37.res (Sh.tu (Sh.pr (Sh.sl (Sh.int .u8)) (Sh.int .i64)))) (modeOf FT) 0 fuelC (bodyOf (loopN k37 1)) (P37_1.st v) (roundK 0 H37_1 P37_1 Q37_1 (u37_1 N n) κ) = u37_1 N (n + 1) v κ := by kernel_rfl
theorem o37_1 (hT : TabOK FT XT (T37)) (hO : RawOK FT XT (rawOf (α := ((Sh.tu (Sh.pr (Sh.sl (Sh.int .u8)) (Sh.int .i64)))).T) (RW37))) (N : Nat) {s : St} {κ : Ex → St → Option (((Sh.tu (Sh.pr (Sh.sl (Sh.int .u8)) (Sh.int .i64)))).T)} {a : ((Sh.tu (Sh.pr (Sh.sl (Sh.int .u8)) (Sh.int .i64)))).T} (h : lpOf 0 H37_1 P37_1 Q37_1 (u37_1 N N) s κ = some a) : Out FT XT 0 (retc k37.res (Sh.tu (Sh.pr (Sh.sl (Sh.int .u8)) (Sh.int .i64)))) (loopN k37 1) s κ a := by
  rw [l37_1]
  exact loop_out (LP := W37_1 N) (fu := fuelC) hT hO (fun _ _ => rfl) (b37_1 N) loopOK_nil N h
def H37_0 : Trim := ⟨0, [], false, [4, 12, 13, 14], []⟩
theorem l37_0 : loopN k37 0 = .loop H37_0 (bodyOf (loopN k37 0)) := by kernel_rfl
def P37_0 : Ps := ⟨[(0, .u), (2, .u), (3, .u), (4, (.int .u64)), (6, .u), (7, .u), (8, .u), (11, .u), (12, (.tb (Sh.int .u8))), (13, (.int .i64)), (14, (.int .i64)), (15, .u), (27, .u), (28, .u), (29, .u)], []⟩
def Q37_0 : Nat → Ps
  | 0 => ⟨[(0, .u), (2, .u), (3, .u), (4, (.int .u64)), (6, .u), (7, .u), (8, .u), (11, .u), (12, .u), (13, .u), (14, .u), (15, .u), (27, .u), (28, .u), (29, .u)], []⟩
  | _ => noPs
def u37_0 (N n : Nat) (v : P37_0.T) (κ : (i : Nat) → (Q37_0 i).T → Option (((Sh.tu (Sh.pr (Sh.sl (Sh.int .u8)) (Sh.int .i64)))).T)) : Option (((Sh.tu (Sh.pr (Sh.sl (Sh.int .u8)) (Sh.int .i64)))).T) :=
  L37_0 N (fun (y0 : Int) => κ 0 (((), ((), ((), (y0, ((), ((), ((), ((), ((), ((), ((), ((), ((), ((), ((), ()))))))))))))))), ())) n v.1.2.2.2.1 v.1.2.2.2.2.2.2.2.2.1 v.1.2.2.2.2.2.2.2.2.2.1 v.1.2.2.2.2.2.2.2.2.2.2.1
def W37_0 (N : Nat) : LoopF (((Sh.tu (Sh.pr (Sh.sl (Sh.int .u8)) (Sh.int .i64)))).T) := fun no =>
  match no with
  | _ => fun _ _ => none
theorem b37_0 (N n : Nat) (v : P37_0.T) (κ : (i : Nat) → (Q37_0 i).T → Option (((Sh.tu (Sh.pr (Sh.sl (Sh.int .u8)) (Sh.int .i64)))).T)) :
    evc (T37) (rawOf (RW37)) (W37_0 N) (retc k37.res (Sh.tu (Sh.pr (Sh.sl (Sh.int .u8)) (Sh.int .i64)))) (modeOf FT) 0 fuelC (bodyOf (loopN k37 0)) (P37_0.st v) (roundK 0 H37_0 P37_0 Q37_0 (u37_0 N n) κ) = u37_0 N (n + 1) v κ := by kernel_rfl
theorem o37_0 (hT : TabOK FT XT (T37)) (hO : RawOK FT XT (rawOf (α := ((Sh.tu (Sh.pr (Sh.sl (Sh.int .u8)) (Sh.int .i64)))).T) (RW37))) (N : Nat) {s : St} {κ : Ex → St → Option (((Sh.tu (Sh.pr (Sh.sl (Sh.int .u8)) (Sh.int .i64)))).T)} {a : ((Sh.tu (Sh.pr (Sh.sl (Sh.int .u8)) (Sh.int .i64)))).T} (h : lpOf 0 H37_0 P37_0 Q37_0 (u37_0 N N) s κ = some a) : Out FT XT 0 (retc k37.res (Sh.tu (Sh.pr (Sh.sl (Sh.int .u8)) (Sh.int .i64)))) (loopN k37 0) s κ a := by
  rw [l37_0]
  exact loop_out (LP := W37_0 N) (fu := fuelC) hT hO (fun _ _ => rfl) (b37_0 N) loopOK_nil N h
def W37 (N : Nat) : LoopF (((Sh.tu (Sh.pr (Sh.sl (Sh.int .u8)) (Sh.int .i64)))).T) := fun no =>
  match no with
  | 0 => lpOf 0 H37_0 P37_0 Q37_0 (u37_0 N N)
  | 1 => lpOf 0 H37_1 P37_1 Q37_1 (u37_1 N N)
  | _ => fun _ _ => none
theorem e37 (N : Nat) (a0 : List Int) : evc (T37) (rawOf (RW37)) (W37 N) (retc k37.res (Sh.tu (Sh.pr (Sh.sl (Sh.int .u8)) (Sh.int .i64)))) (modeOf FT) 0 fuelC k37.body (env0 k37 (encL [(Sh.sl (Sh.int .u8))] (a0, ())), []) (endK (retc k37.res (Sh.tu (Sh.pr (Sh.sl (Sh.int .u8)) (Sh.int .i64))))) = p37 N a0 := by kernel_rfl
theorem ok37 {f : List Int → Option ((List Int) × Int)} (hf : ∀ a0 r, f a0 = some r → ∃ N, p37 N a0 = some r) : EntOK FT XT 37 (en37 f) := by
  have hT : TabOK FT XT (T37) := by
    intro g en hg
    unfold T37 at hg
    split at hg <;> first | (injection hg with hg; subst hg; assumption) | cases hg
  have hO : RawOK FT XT (rawOf (α := ((Sh.tu (Sh.pr (Sh.sl (Sh.int .u8)) (Sh.int .i64)))).T) (RW37)) := by
    refine rawOf_ok (fun g en hg => ?_)
    unfold RW37 at hg
    split at hg <;> simp only [List.mem_cons, List.not_mem_nil, or_false] at hg <;> first | (subst hg; assumption) | (rcases hg with rfl | rfl <;> assumption) | (rcases hg with rfl | rfl | rfl <;> assumption) | (rcases hg with rfl | rfl | rfl | rfl <;> assumption)
  refine ⟨rfl, fun v r h => ?_⟩
  obtain ⟨a0, _⟩ := v
  obtain ⟨N, h1⟩ := hf _ _ h
  exact ans_c (R := (Sh.tu (Sh.pr (Sh.sl (Sh.int .u8)) (Sh.int .i64)))) (tab := T37) (raw := (rawOf (RW37))) (LP := W37 N) (fu := fuelC) hT hO rfl rfl (Nat.le_of_ble_eq_true rfl) (loopOK_cons l37_0 (fun s κ a h => o37_0 hT hO N h) (loopOK_cons l37_1 (fun s κ a h => o37_1 hT hO N h) loopOK_nil)) ((e37 N _).trans h1)

def T38 (c56 : Int → Int → Option (List Int)) (c57 : List Int → Option Int) : Nat → Option Ent
  | 56 => some (en56 c56)
  | 57 => some (en57 c57)
  | _ => none
def RW38 (c56 : Int → Int → Option (List Int)) (c57 : List Int → Option Int) : Nat → List REnt
  | _ => []
def H38_1 : Trim := ⟨1, [], false, [4, 5, 7], [(5, (.ints .u8 []), 1)]⟩
theorem l38_1 : loopN k38 1 = .loop H38_1 (bodyOf (loopN k38 1)) := by kernel_rfl
def P38_1 : Ps := ⟨[(0, .u), (2, .u), (3, .u), (4, (.sl 0 1)), (5, (.sl 1 1)), (6, .u), (7, (.int .i64)), (10, .u), (12, .u), (25, .u)], [(.ints false .u8), (.ints false .u8)]⟩
def Q38_1 : Nat → Ps
  | 2 => ⟨[(0, .u), (2, .u), (3, .u), (4, .u), (5, (.sl 0 1)), (6, .u), (7, .u), (10, .u), (12, .u), (25, .u)], [(.ints false .u8)]⟩
  | _ => noPs
def u38_1 (c56 : Int → Int → Option (List Int)) (c57 : List Int → Option Int) (N n : Nat) (v : P38_1.T) (κ : (i : Nat) → (Q38_1 i).T → Option (((Sh.tu (Sh.pr (Sh.sl (Sh.int .u8)) (Sh.int .i64)))).T)) : Option (((Sh.tu (Sh.pr (Sh.sl (Sh.int .u8)) (Sh.int .i64)))).T) :=
  L38_1 c56 c57 N (fun (y0 : Nat) (y1 : List Int) => κ 2 (((), ((), ((), ((), (y0, ((), ((), ((), ((), ((), ())))))))))), (y1, ()))) n v.1.2.2.2.1 v.1.2.2.2.2.1 v.1.2.2.2.2.2.2.1 v.2.1 v.2.2.1
def W38_1 (c56 : Int → Int → Option (List Int)) (c57 : List Int → Option Int) (N : Nat) : LoopF (((Sh.tu (Sh.pr (Sh.sl (Sh.int .u8)) (Sh.int .i64)))).T) := fun no =>
  match no with
  | _ => fun _ _ => none
theorem b38_1 (c56 : Int → Int → Option (List Int)) (c57 : List Int → Option Int) (N n : Nat) (v : P38_1.T) (κ : (i : Nat) → (Q38_1 i).T → Option (((Sh.tu (Sh.pr (Sh.sl (Sh.int .u8)) (Sh.int .i64)))).T)) :
    evc (T38 c56 c57) (rawOf (RW38 c56 c57)) (W38_1 c56 c57 N) (retc k38.res (Sh.tu (Sh.pr (Sh.sl (Sh.int .u8)) (Sh.int .i64)))) (modeOf FT) 0 fuelC (bodyOf (loopN k38 1)) (P38_1.st v) (roundK 0 H38_1 P38_1 Q38_1 (u38_1 c56 c57 N n) κ) = u38_1 c56 c57 N (n + 1) v κ := by kernel_rfl
theorem o38_1 (c56 : Int → Int → Option (List Int)) (c57 : List Int → Option Int) (hT : TabOK FT XT (T38 c56 c57)) (hO : RawOK FT XT (rawOf (α := ((Sh.tu (Sh.pr (Sh.sl (Sh.int .u8)) (Sh.int .i64)))).T) (RW38 c56 c57))) (N : Nat) {s : St} {κ : Ex → St → Option (((Sh.tu (Sh.pr (Sh.sl (Sh.int .u8)) (Sh.int .i64)))).T)} {a : ((Sh.tu (Sh.pr (Sh.sl (Sh.int .u8)) (Sh.int .i64)))).T} (h : lpOf 0 H38_1 P38_1 Q38_1 (u38_1 c56 c57 N N) s κ = some a) : Out FT XT 0 (retc k38.res (Sh.tu (Sh.pr (Sh.sl (Sh.int .u8)) (Sh.int .i64)))) (loopN k38 1) s κ a := by
  rw [l38_1]
  exact loop_out (LP := W38_1 c56 c57 N) (fu := fuelC) hT hO (fun _ _ => rfl) (b38_1 c56 c57 N) loopOK_nil N h
def H38_0 : Trim := ⟨0, [], false, [0, 4, 5, 6], [(4, (.ints .u8 []), 1)]⟩
theorem l38_0 : loopN k38 0 = .loop H38_0 (bodyOf (loopN k38 0)) := by kernel_rfl
def P38_0 : Ps := ⟨[(0, (.tb (Sh.int .u8))), (2, .u), (3, .u), (4, (.sl 0 1)), (5, .nils), (6, (.int .i64)), (7, .u), (10, .u), (12, .u), (25, .u)], [(.ints false .u8)]⟩
def Q38_0 : Nat → Ps
  | 0 => ⟨[(0, .u), (2, .u), (3, .u), (4, (.sl 0 1)), (5, .nils), (6, .u), (7, .u), (10, .u), (12, .u), (25, .u)], [(.ints false .u8)]⟩
  | _ => noPs
def u38_0 (c56 : Int → Int → Option (List Int)) (c57 : List Int → Option Int) (N n : Nat) (v : P38_0.T) (κ : (i : Nat) → (Q38_0 i).T → Option (((Sh.tu (Sh.pr (Sh.sl (Sh.int .u8)) (Sh.int .i64)))).T)) : Option (((Sh.tu (Sh.pr (Sh.sl (Sh.int .u8)) (Sh.int .i64)))).T) :=
  L38_0 c56 c57 N (fun (y0 : Nat) (y1 : List Int) => κ 0 (((), ((), ((), (y0, ((), ((), ((), ((), ((), ((), ())))))))))), (y1, ()))) n v.1.1 v.1.2.2.2.1 v.1.2.2.2.2.2.1 v.2.1
def W38_0 (c56 : Int → Int → Option (List Int)) (c57 : List Int → Option Int) (N : Nat) : LoopF (((Sh.tu (Sh.pr (Sh.sl (Sh.int .u8)) (Sh.int .i64)))).T) := fun no =>
  match no with
  | _ => fun _ _ => none
theorem b38_0 (c56 : Int → Int → Option (List Int)) (c57 : List Int → Option Int) (N n : Nat) (v : P38_0.T) (κ : (i : Nat) → (Q38_0 i).T → Option (((Sh.tu (Sh.pr (Sh.sl (Sh.int .u8)) (Sh.int .i64)))).T)) :
    evc (T38 c56 c57) (rawOf (RW38 c56 c57)) (W38_0 c56 c57 N) (retc k38.res (Sh.tu (Sh.pr (Sh.sl (Sh.int .u8)) (Sh.int .i64)))) (modeOf FT) 0 fuelC (bodyOf (loopN k38 0)) (P38_0.st v) (roundK 0 H38_0 P38_0 Q38_0 (u38_0 c56 c57 N n) κ) = u38_0 c56 c57 N (n + 1) v κ := by kernel_rfl
theorem o38_0 (c56 : Int → Int → Option (List Int)) (c57 : List Int → Option Int) (hT : TabOK FT XT (T38 c56 c57)) (hO : RawOK FT XT (rawOf (α := ((Sh.tu (Sh.pr (Sh.sl (Sh.int .u8)) (Sh.int .i64)))).T) (RW38 c56 c57))) (N : Nat) {s : St} {κ : Ex → St → Option (((Sh.tu (Sh.pr (Sh.sl (Sh.int .u8)) (Sh.int .i64)))).T)} {a : ((Sh.tu (Sh.pr (Sh.sl (Sh.int .u8)) (Sh.int .i64)))).T} (h : lpOf 0 H38_0 P38_0 Q38_0 (u38_0 c56 c57 N N) s κ = some a) : Out FT XT 0 (retc k38.res (Sh.tu (Sh.pr (Sh.sl (Sh.int .u8)) (Sh.int .i64)))) (loopN k38 0) s κ a := by
  rw [l38_0]
  exact loop_out (LP := W38_0 c56 c57 N) (fu := fuelC) hT hO (fun _ _ => rfl) (b38_0 c56 c57 N) loopOK_nil N h
def W38 (c56 : Int → Int → Option (List Int)) (c57 : List Int → Option Int) (N : Nat) : LoopF (((Sh.tu (Sh.pr (Sh.sl (Sh.int .u8)) (Sh.int .i64)))).T) := fun no =>
  match no with
  | 0 => lpOf 0 H38_0 P38_0 Q38_0 (u38_0 c56 c57 N N)
  | 1 => lpOf 0 H38_1 P38_1 Q38_1 (u38_1 c56 c57 N N)
  | _ => fun _ _ => none
theorem e38 (c56 : Int → Int → Option (List Int)) (c57 : List Int → Option Int) (N : Nat) (a0 : List Int) : evc (T38 c56 c57) (rawOf (RW38 c56 c57)) (W38 c56 c57 N) (retc k38.res (Sh.tu (Sh.pr (Sh.sl (Sh.int .u8)) (Sh.int .i64)))) (modeOf FT) 0 fuelC k38.body (env0 k38 (encL [(Sh.sl (Sh.int .u8))] (a0, ())), []) (endK (retc k38.res (Sh.tu (Sh.pr (Sh.sl (Sh.int .u8)) (Sh.int .i64))))) = p38 c56 c57 N a0 := by kernel_rfl
theorem ok38 (c56 : Int → Int → Option (List Int)) (c57 : List Int → Option Int) (h56 : EntOK FT XT 56 (en56 c56)) (h57 : EntOK FT XT 57 (en57 c57)) {f : List Int → Option ((List Int) × Int)} (hf : ∀ a0 r, f a0 = some r → ∃ N, p38 c56 c57 N a0 = some r) : EntOK FT XT 38 (en38 f) := by
  have hT : TabOK FT XT (T38 c56 c57) := by
    intro g en hg
    unfold T38 at hg
    split at hg <;> first | (injection hg with hg; subst hg; assumption) | cases hg
  have hO : RawOK FT XT (rawOf (α := ((Sh.tu (Sh.pr (Sh.sl (Sh.int .u8)) (Sh.int .i64)))).T) (RW38 c56 c57)) := by
    refine rawOf_ok (fun g en hg => ?_)
    unfold RW38 at hg
    split at hg <;> simp only [List.mem_cons, List.not_mem_nil, or_false] at hg <;> first | (subst hg; assumption) | (rcases hg with rfl | rfl <;> assumption) | (rcases hg with rfl | rfl | rfl <;> assumption) | (rcases hg with rfl | rfl | rfl | rfl <;> assumption)
  refine ⟨rfl, fun v r h => ?_⟩
  obtain ⟨a0, _⟩ := v
  obtain ⟨N, h1⟩ := hf _ _ h
  exact ans_c (R := (Sh.tu (Sh.pr (Sh.sl (Sh.int .u8)) (Sh.int .i64)))) (tab := T38 c56 c57) (raw := (rawOf (RW38 c56 c57))) (LP := W38 c56 c57 N) (fu := fuelC) hT hO rfl rfl (Nat.le_of_ble_eq_true rfl) (loopOK_cons l38_0 (fun s κ a h => o38_0 c56 c57 hT hO N h) (loopOK_cons l38_1 (fun s κ a h => o38_1 c56 c57 hT hO N h) loopOK_nil)) ((e38 c56 c57 N _).trans h1)

def T14 (c26 : Option Bool) (c24 : List Int → Option ((List Int) × Int)) (c36 : List Int → Option ((List Int) × Int)) (c37 : List Int → Option ((List Int) × Int)) (c38 : List Int → Option ((List Int) × Int)) (c23 : List Int → List Int → Option Bool) (c25 : Int → Option Int) (c39 : Int → Option Int) : Nat → Option Ent
  | 26 => some (en26 c26)
  | 24 => some (en24 c24)
  | 36 => some (en36 c36)
  | 37 => some (en37 c37)
  | 38 => some (en38 c38)
  | 23 => some (en23 c23)
  | 25 => some (en25 c25)
  | 39 => some (en39 c39)
  | _ => none
def RW14 (c26 : Option Bool) (c24 : List Int → Option ((List Int) × Int)) (c36 : List Int → Option ((List Int) × Int)) (c37 : List Int → Option ((List Int) × Int)) (c38 : List Int → Option ((List Int) × Int)) (c23 : List Int → List Int → Option Bool) (c25 : Int → Option Int) (c39 : Int → Option Int) : Nat → List REnt
  | _ => []
def W14 (c26 : Option Bool) (c24 : List Int → Option ((List Int) × Int)) (c36 : List Int → Option ((List Int) × Int)) (c37 : List Int → Option ((List Int) × Int)) (c38 : List Int → Option ((List Int) × Int)) (c23 : List Int → List Int → Option Bool) (c25 : Int → Option Int) (c39 : Int → Option Int) (N : Nat) : LoopF (Sh.bool).T := fun no =>
  match no with
  | _ => fun _ _ => none
theorem e14 (c26 : Option Bool) (c24 : List Int → Option ((List Int) × Int)) (c36 : List Int → Option ((List Int) × Int)) (c37 : List Int → Option ((List Int) × Int)) (c38 : List Int → Option ((List Int) × Int)) (c23 : List Int → List Int → Option Bool) (c25 : Int → Option Int) (c39 : Int → Option Int) (N : Nat) (a0 : List Int) (a1 : Int) : evc (T14 c26 c24 c36 c37 c38 c23 c25 c39) (rawOf (RW14 c26 c24 c36 c37 c38 c23 c25 c39)) (W14 c26 c24 c36 c37 c38 c23 c25 c39 N) (retc k14.res Sh.bool) (modeOf FT) 0 fuelC k14.body (env0 k14 (encL [(Sh.sl (Sh.int .u8)), (Sh.int .u8)] (a0, (a1, ()))), []) (endK (retc k14.res Sh.bool)) = p14 c26 c24 c36 c37 c38 c23 c25 c39 N a0 a1 := by kernel_rfl
theorem ok14 (c26 : Option Bool) (c24 : List Int → Option ((List Int) × Int)) (c36 : List Int → Option ((List Int) × Int)) (c37 : List Int → Option ((List Int) × Int)) (c38 : List Int → Option ((List Int) × Int)) (c23 : List Int → List Int → Option Bool) (c25 : Int → Option Int) (c39 : Int → Option Int) (h26 : EntOK FT XT 26 (en26 c26)) (h24 : EntOK FT XT 24 (en24 c24)) (h36 : EntOK FT XT 36 (en36 c36)) (h37 : EntOK FT XT 37 (en37 c37)) (h38 : EntOK FT XT 38 (en38 c38)) (h23 : EntOK FT XT 23 (en23 c23)) (h25 : EntOK FT XT 25 (en25 c25)) (h39 : EntOK FT XT 39 (en39 c39)) {f : List Int → Int → Option Bool} (hf : ∀ a0 a1 r, f a0 a1 = some r → ∃ N, p14 c26 c24 c36 c37 c38 c23 c25 c39 N a0 a1 = some r) : EntOK FT XT 14 (en14 f) := by
  have hT : TabOK FT XT (T14 c26 c24 c36 c37 c38 c23 c25 c39) := by
    intro g en hg
    unfold T14 at hg
    split at hg <;> first | (injection hg with hg; subst hg; assumption) | cases hg
  have hO : RawOK FT XT (rawOf (α := (Sh.bool).T) (RW14 c26 c24 c36 c37 c38 c23 c25 c39)) := by
    refine rawOf_ok (fun g en hg => ?_)
    unfold RW14 at hg
    split at hg <;> simp only [List.mem_cons, List.not_mem_nil, or_false] at hg <;> first | (subst hg; assumption) | (rcases hg with rfl | rfl <;> assumption) | (rcases hg with rfl | rfl | rfl <;> assumption) | (rcases hg with rfl | rfl | rfl | rfl <;> assumption)
  refine ⟨rfl, fun v r h => ?_⟩
  obtain ⟨a0, a1, _⟩ := v
  obtain ⟨N, h1⟩ := hf _ _ _ h
  exact ans_c (R := Sh.bool) (tab := T14 c26 c24 c36 c37 c38 c23 c25 c39) (raw := (rawOf (RW14 c26 c24 c36 c37 c38 c23 c25 c39))) (LP := W14 c26 c24 c36 c37 c38 c23 c25 c39 N) (fu := fuelC) hT hO rfl rfl (Nat.le_of_ble_eq_true rfl) loopOK_nil ((e14 c26 c24 c36 c37 c38 c23 c25 c39 N _ _).trans h1)

def T60 : Nat → Option Ent
  | _ => none
def RW60 : Nat → List REnt
  | _ => []
def W60 (N : Nat) : LoopF (((Sh.int .u8)).T) := fun no =>
  match no with
  | _ => fun _ _ => none
theorem e60 (N : Nat) (a0 : Int) : evc (T60) (rawOf (RW60)) (W60 N) (retc k60.res (Sh.int .u8)) (modeOf FT) 0 fuelC k60.body (env0 k60 (encL [(Sh.int .u8)] (a0, ())), []) (endK (retc k60.res (Sh.int .u8))) = p60 N a0 := by kernel_rfl
theorem ok60 {f : Int → Option Int} (hf : ∀ a0 r, f a0 = some r → ∃ N, p60 N a0 = some r) : EntOK FT XT 60 (en60 f) := by
  have hT : TabOK FT XT (T60) := by
    intro g en hg
    unfold T60 at hg
    split at hg <;> first | (injection hg with hg; subst hg; assumption) | cases hg
  have hO : RawOK FT XT (rawOf (α := ((Sh.int .u8)).T) (RW60)) := by
    refine rawOf_ok (fun g en hg => ?_)
    unfold RW60 at hg
    split at hg <;> simp only [List.mem_cons, List.not_mem_nil, or_false] at hg <;> first | (subst hg; assumption) | (rcases hg with rfl | rfl <;> assumption) | (rcases hg with rfl | rfl | rfl <;> assumption) | (rcases hg with rfl | rfl | rfl | rfl <;> assumption)
  refine ⟨rfl, fun v r h => ?_⟩
  obtain ⟨a0, _⟩ := v
  obtain ⟨N, h1⟩ := hf _ _ h
  exact ans_c (R := (Sh.int .u8)) (tab := T60) (raw := (rawOf (RW60))) (LP := W60 N) (fu := fuelC) hT hO rfl rfl (Nat.le_of_ble_eq_true rfl) loopOK_nil ((e60 N _).trans h1)

def T41 (c60 : Int → Option Int) : Nat → Option Ent
  | 60 => some (en60 c60)
  | _ => none
def RW41 (c60 : Int → Option Int) : Nat → List REnt
  | _ => []
def H41_0 : Trim := ⟨0, [], false, [0, 4, 5], [(4, (.ints .u8 []), 1)]⟩
theorem l41_0 : loopN k41 0 = .loop H41_0 (bodyOf (loopN k41 0)) := by kernel_rfl
def P41_0 : Ps := ⟨[(0, .str), (2, .u), (3, .u), (4, (.sl 0 1)), (5, (.int .i64)), (6, .u), (7, .u), (11, .u), (15, .u), (32, .u)], [(.ints false .u8)]⟩
def Q41_0 : Nat → Ps
  | 0 => ⟨[(0, .u), (2, .u), (3, .u), (4, (.sl 0 1)), (5, .u), (6, .u), (7, .u), (11, .u), (15, .u), (32, .u)], [(.ints false .u8)]⟩
  | _ => noPs
def u41_0 (c60 : Int → Option Int) (N n : Nat) (v : P41_0.T) (κ : (i : Nat) → (Q41_0 i).T → Option (((Sh.tu (Sh.pr (Sh.sl (Sh.int .u8)) (Sh.int .i64)))).T)) : Option (((Sh.tu (Sh.pr (Sh.sl (Sh.int .u8)) (Sh.int .i64)))).T) :=
  L41_0 c60 N (fun (y0 : Nat) (y1 : List Int) => κ 0 (((), ((), ((), (y0, ((), ((), ((), ((), ((), ((), ())))))))))), (y1, ()))) n v.1.1 v.1.2.2.2.1 v.1.2.2.2.2.1 v.2.1
def W41_0 (c60 : Int → Option Int) (N : Nat) : LoopF (((Sh.tu (Sh.pr (Sh.sl (Sh.int .u8)) (Sh.int .i64)))).T) := fun no =>
  match no with
  | _ => fun _ _ => none
theorem b41_0 (c60 : Int → Option Int) (N n : Nat) (v : P41_0.T) (κ : (i : Nat) → (Q41_0 i).T → Option (((Sh.tu (Sh.pr (Sh.sl (Sh.int .u8)) (Sh.int .i64)))).T)) :
    evc (T41 c60) (rawOf (RW41 c60)) (W41_0 c60 N) (retc k41.res (Sh.tu (Sh.pr (Sh.sl (Sh.int .u8)) (Sh.int .i64)))) (modeOf FT) 0 fuelC (bodyOf (loopN k41 0)) (P41_0.st v) (roundK 0 H41_0 P41_0 Q41_0 (u41_0 c60 N n) κ) = u41_0 c60 N (n + 1) v κ := by kernel_rfl
theorem o41_0 (c60 : Int → Option Int) (hT : TabOK FT XT (T41 c60)) (hO : RawOK FT XT (rawOf (α := ((Sh.tu (Sh.pr (Sh.sl (Sh.int .u8)) (Sh.int .i64)))).T) (RW41 c60))) (N : Nat) {s : St} {κ : Ex → St → Option (((Sh.tu (Sh.pr (Sh.sl (Sh.int .u8)) (Sh.int .i64)))).T)} {a : ((Sh.tu (Sh.pr (Sh.sl (Sh.int .u8)) (Sh.int .i64)))).T} (h : lpOf 0 H41_0 P41_0 Q41_0 (u41_0 c60 N N) s κ = some a) : Out FT XT 0 (retc k41.res (Sh.tu (Sh.pr (Sh.sl (Sh.int .u8)) (Sh.int .i64)))) (loopN k41 0) s κ a := by
  rw [l41_0]
  exact loop_out (LP := W41_0 c60 N) (fu := fuelC) hT hO (fun _ _ => rfl) (b41_0 c60 N) loopOK_nil N h
def W41 (c60 : Int → Option Int) (N : Nat) : LoopF (((Sh.tu (Sh.pr (Sh.sl (Sh.int .u8)) (Sh.int .i64)))).T) := fun no =>
  match no with
  | 0 => lpOf 0 H41_0 P41_0 Q41_0 (u41_0 c60 N N)
  | _ => fun _ _ => none
theorem e41 (c60 : Int → Option Int) (N : Nat) (a0 : List UInt8) : evc (T41 c60) (rawOf (RW41 c60)) (W41 c60 N) (retc k41.res (Sh.tu (Sh.pr (Sh.sl (Sh.int .u8)) (Sh.int .i64)))) (modeOf FT) 0 fuelC k41.body (env0 k41 (encL [Sh.str] (a0, ())), []) (endK (retc k41.res (Sh.tu (Sh.pr (Sh.sl (Sh.int .u8)) (Sh.int .i64))))) = p41 c60 N a0 := by kernel_rfl
theorem ok41 (c60 : Int → Option Int) (h60 : EntOK FT XT 60 (en60 c60)) {f : List UInt8 → Option ((List Int) × Int)} (hf : ∀ a0 r, f a0 = some r → ∃ N, p41 c60 N a0 = some r) : EntOK FT XT 41 (en41 f) := by
  have hT : TabOK FT XT (T41 c60) := by
    intro g en hg
    unfold T41 at hg
    split at hg <;> first | (injection hg with hg; subst hg; assumption) | cases hg
  have hO : RawOK FT XT (rawOf (α := ((Sh.tu (Sh.pr (Sh.sl (Sh.int .u8)) (Sh.int .i64)))).T) (RW41 c60)) := by
    refine rawOf_ok (fun g en hg => ?_)
    unfold RW41 at hg
    split at hg <;> simp only [List.mem_cons, List.not_mem_nil, or_false] at hg <;> first | (subst hg; assumption) | (rcases hg with rfl | rfl <;> assumption) | (rcases hg with rfl | rfl | rfl <;> assumption) | (rcases hg with rfl | rfl | rfl | rfl <;> assumption)
  refine ⟨rfl, fun v r h => ?_⟩
  obtain ⟨a0, _⟩ := v
  obtain ⟨N, h1⟩ := hf _ _ h
  exact ans_c (R := (Sh.tu (Sh.pr (Sh.sl (Sh.int .u8)) (Sh.int .i64)))) (tab := T41 c60) (raw := (rawOf (RW41 c60))) (LP := W41 c60 N) (fu := fuelC) hT hO rfl rfl (Nat.le_of_ble_eq_true rfl) (loopOK_cons l41_0 (fun s κ a h => o41_0 c60 hT hO N h) loopOK_nil) ((e41 c60 N _).trans h1)

def T43 : Nat → Option Ent
  | _ => none
def RW43 : Nat → List REnt
  | _ => []
def H43_0 : Trim := ⟨0, [], false, [0, 3, 4, 5], []⟩
theorem l43_0 : loopN k43 0 = .loop H43_0 (bodyOf (loopN k43 0)) := by kernel_rfl
def P43_0 : Ps := ⟨[(0, (.tb (Sh.int .u8))), (2, .u), (3, .str), (4, .str), (5, (.int .i64)), (6, .u), (7, .u), (11, .u)], []⟩
def Q43_0 : Nat → Ps
  | 0 => ⟨[(0, .u), (2, .u), (3, .u), (4, .str), (5, .u), (6, .u), (7, .u), (11, .u)], []⟩
  | _ => noPs
def u43_0 (N n : Nat) (v : P43_0.T) (κ : (i : Nat) → (Q43_0 i).T → Option (Sh.str).T) : Option (Sh.str).T :=
  L43_0 N (fun (y0 : List UInt8) => κ 0 (((), ((), ((), (y0, ((), ((), ((), ((), ())))))))), ())) n v.1.1 v.1.2.2.1 v.1.2.2.2.1 v.1.2.2.2.2.1
def W43_0 (N : Nat) : LoopF (Sh.str).T := fun no =>
  match no with
  | _ => fun _ _ => none
theorem b43_0 (N n : Nat) (v : P43_0.T) (κ : (i : Nat) → (Q43_0 i).T → Option (Sh.str).T) :
    evc (T43) (rawOf (RW43)) (W43_0 N) (retc k43.res Sh.str) (modeOf FT) 0 fuelC (bodyOf (loopN k43 0)) (P43_0.st v) (roundK 0 H43_0 P43_0 Q43_0 (u43_0 N n) κ) = u43_0 N (n + 1) v κ := by kernel_rfl
theorem o43_0 (hT : TabOK FT XT (T43)) (hO : RawOK FT XT (rawOf (α := (Sh.str).T) (RW43))) (N : Nat) {s : St} {κ : Ex → St → Option (Sh.str).T} {a : (Sh.str).T} (h : lpOf 0 H43_0 P43_0 Q43_0 (u43_0 N N) s κ = some a) : Out FT XT 0 (retc k43.res Sh.str) (loopN k43 0) s κ a := by
  rw [l43_0]
  exact loop_out (LP := W43_0 N) (fu := fuelC) hT hO (fun _ _ => rfl) (b43_0 N) loopOK_nil N h
def W43 (N : Nat) : LoopF (Sh.str).T := fun no =>
  match no with
  | 0 => lpOf 0 H43_0 P43_0 Q43_0 (u43_0 N N)
  | _ => fun _ _ => none
theorem e43 (N : Nat) (a0 : List Int) : evc (T43) (rawOf (RW43)) (W43 N) (retc k43.res Sh.str) (modeOf FT) 0 fuelC k43.body (env0 k43 (encL [(Sh.sl (Sh.int .u8))] (a0, ())), []) (endK (retc k43.res Sh.str)) = p43 N a0 := by kernel_rfl
theorem ok43 {f : List Int → Option (List UInt8)} (hf : ∀ a0 r, f a0 = some r → ∃ N, p43 N a0 = some r) : EntOK FT XT 43 (en43 f) := by
  have hT : TabOK FT XT (T43) := by
    intro g en hg
    unfold T43 at hg
    split at hg <;> first | (injection hg with hg; subst hg; assumption) | cases hg
  have hO : RawOK FT XT (rawOf (α := (Sh.str).T) (RW43)) := by
    refine rawOf_ok (fun g en hg => ?_)
    unfold RW43 at hg
    split at hg <;> simp only [List.mem_cons, List.not_mem_nil, or_false] at hg <;> first | (subst hg; assumption) | (rcases hg with rfl | rfl <;> assumption) | (rcases hg with rfl | rfl | rfl <;> assumption) | (rcases hg with rfl | rfl | rfl | rfl <;> assumption)
  refine ⟨rfl, fun v r h => ?_⟩
  obtain ⟨a0, _⟩ := v
  obtain ⟨N, h1⟩ := hf _ _ h
  exact ans_c (R := Sh.str) (tab := T43) (raw := (rawOf (RW43))) (LP := W43 N) (fu := fuelC) hT hO rfl rfl (Nat.le_of_ble_eq_true rfl) (loopOK_cons l43_0 (fun s κ a h => o43_0 hT hO N h) loopOK_nil) ((e43 N _).trans h1)

def T15 (c18 : Option Bool) (c40 : List UInt8 → Option ((List Int) × Int)) (c41 : List UInt8 → Option ((List Int) × Int)) (c42 : List Int → Option (List UInt8)) (c43 : List Int → Option (List UInt8)) (c23 : List Int → List Int → Option Bool) : Nat → Option Ent
  | 18 => some (en18 c18)
  | 40 => some (en40 c40)
  | 41 => some (en41 c41)
  | 42 => some (en42 c42)
  | 43 => some (en43 c43)
  | 23 => some (en23 c23)
  | _ => none
def RW15 (c18 : Option Bool) (c40 : List UInt8 → Option ((List Int) × Int)) (c41 : List UInt8 → Option ((List Int) × Int)) (c42 : List Int → Option (List UInt8)) (c43 : List Int → Option (List UInt8)) (c23 : List Int → List Int → Option Bool) : Nat → List REnt
  | _ => []
def W15 (c18 : Option Bool) (c40 : List UInt8 → Option ((List Int) × Int)) (c41 : List UInt8 → Option ((List Int) × Int)) (c42 : List Int → Option (List UInt8)) (c43 : List Int → Option (List UInt8)) (c23 : List Int → List Int → Option Bool) (N : Nat) : LoopF (Sh.bool).T := fun no =>
  match no with
  | _ => fun _ _ => none
theorem e15 (c18 : Option Bool) (c40 : List UInt8 → Option ((List Int) × Int)) (c41 : List UInt8 → Option ((List Int) × Int)) (c42 : List Int → Option (List UInt8)) (c43 : List Int → Option (List UInt8)) (c23 : List Int → List Int → Option Bool) (N : Nat) (a0 : List Int) (a1 : List UInt8) : evc (T15 c18 c40 c41 c42 c43 c23) (rawOf (RW15 c18 c40 c41 c42 c43 c23)) (W15 c18 c40 c41 c42 c43 c23 N) (retc k15.res Sh.bool) (modeOf FT) 0 fuelC k15.body (env0 k15 (encL [(Sh.sl (Sh.int .u8)), Sh.str] (a0, (a1, ()))), []) (endK (retc k15.res Sh.bool)) = p15 c18 c40 c41 c42 c43 c23 N a0 a1 := by kernel_rfl
theorem ok15 (c18 : Option Bool) (c40 : List UInt8 → Option ((List Int) × Int)) (c41 : List UInt8 → Option ((List Int) × Int)) (c42 : List Int → Option (List UInt8)) (c43 : List Int → Option (List UInt8)) (c23 : List Int → List Int → Option Bool) (h18 : EntOK FT XT 18 (en18 c18)) (h40 : EntOK FT XT 40 (en40 c40)) (h41 : EntOK FT XT 41 (en41 c41)) (h42 : EntOK FT XT 42 (en42 c42)) (h43 : EntOK FT XT 43 (en43 c43)) (h23 : EntOK FT XT 23 (en23 c23)) {f : List Int → List UInt8 → Option Bool} (hf : ∀ a0 a1 r, f a0 a1 = some r → ∃ N, p15 c18 c40 c41 c42 c43 c23 N a0 a1 = some r) : EntOK FT XT 15 (en15 f) := by
  have hT : TabOK FT XT (T15 c18 c40 c41 c42 c43 c23) := by
    intro g en hg
    unfold T15 at hg
    split at hg <;> first | (injection hg with hg; subst hg; assumption) | cases hg
  have hO : RawOK FT XT (rawOf (α := (Sh.bool).T) (RW15 c18 c40 c41 c42 c43 c23)) := by
    refine rawOf_ok (fun g en hg => ?_)
    unfold RW15 at hg
    split at hg <;> simp only [List.mem_cons, List.not_mem_nil, or_false] at hg <;> first | (subst hg; assumption) | (rcases hg with rfl | rfl <;> assumption) | (rcases hg with rfl | rfl | rfl <;> assumption) | (rcases hg with rfl | rfl | rfl | rfl <;> assumption)
  refine ⟨rfl, fun v r h => ?_⟩
  obtain ⟨a0, a1, _⟩ := v
  obtain ⟨N, h1⟩ := hf _ _ _ h
  exact ans_c (R := Sh.bool) (tab := T15 c18 c40 c41 c42 c43 c23) (raw := (rawOf (RW15 c18 c40 c41 c42 c43 c23))) (LP := W15 c18 c40 c41 c42 c43 c23 N) (fu := fuelC) hT hO rfl rfl (Nat.le_of_ble_eq_true rfl) loopOK_nil ((e15 c18 c40 c41 c42 c43 c23 N _ _).trans h1)

def T44 (c61 : List Int → Option (List Int)) : Nat → Option Ent
  | 61 => some (en61 c61)
  | _ => none
def RW44 (c61 : List Int → Option (List Int)) : Nat → List REnt
  | _ => []
def H44_0 : Trim := ⟨0, [], false, [6, 16, 17, 18], []⟩
theorem l44_0 : loopN k44 0 = .loop H44_0 (bodyOf (loopN k44 0)) := by kernel_rfl
def P44_0 : Ps := ⟨[(0, .u), (1, .u), (4, .u), (5, .u), (6, (.sl 0 1)), (7, .u), (8, .u), (13, .u), (16, (.tb (Sh.int .u8))), (17, (.int .i64)), (18, (.int .i64)), (19, .u)], [(.ints false .u8)]⟩
def Q44_0 : Nat → Ps
  | 0 => ⟨[(0, .u), (1, .u), (4, .u), (5, .u), (6, (.sl 0 1)), (7, .u), (8, .u), (13, .u), (16, .u), (17, .u), (18, .u), (19, .u)], [(.ints false .u8)]⟩
  | _ => noPs
def u44_0 (c61 : List Int → Option (List Int)) (N n : Nat) (v : P44_0.T) (κ : (i : Nat) → (Q44_0 i).T → Option (((Sh.tu (Sh.pr (Sh.sl (Sh.int .u8)) (Sh.int .i64)))).T)) : Option (((Sh.tu (Sh.pr (Sh.sl (Sh.int .u8)) (Sh.int .i64)))).T) :=
  L44_0 c61 N (fun (y0 : Nat) (y1 : List Int) => κ 0 (((), ((), ((), ((), (y0, ((), ((), ((), ((), ((), ((), ((), ())))))))))))), (y1, ()))) n v.1.2.2.2.2.1 v.1.2.2.2.2.2.2.2.2.1 v.1.2.2.2.2.2.2.2.2.2.1 v.1.2.2.2.2.2.2.2.2.2.2.1 v.2.1
def W44_0 (c61 : List Int → Option (List Int)) (N : Nat) : LoopF (((Sh.tu (Sh.pr (Sh.sl (Sh.int .u8)) (Sh.int .i64)))).T) := fun no =>
  match no with
  | _ => fun _ _ => none
theorem b44_0 (c61 : List Int → Option (List Int)) (N n : Nat) (v : P44_0.T) (κ : (i : Nat) → (Q44_0 i).T → Option (((Sh.tu (Sh.pr (Sh.sl (Sh.int .u8)) (Sh.int .i64)))).T)) :
    evc (T44 c61) (rawOf (RW44 c61)) (W44_0 c61 N) (retc k44.res (Sh.tu (Sh.pr (Sh.sl (Sh.int .u8)) (Sh.int .i64)))) (modeOf FT) 0 fuelC (bodyOf (loopN k44 0)) (P44_0.st v) (roundK 0 H44_0 P44_0 Q44_0 (u44_0 c61 N n) κ) = u44_0 c61 N (n + 1) v κ := by kernel_rfl
theorem o44_0 (c61 : List Int → Option (List Int)) (hT : TabOK FT XT (T44 c61)) (hO : RawOK FT XT (rawOf (α := ((Sh.tu (Sh.pr (Sh.sl (Sh.int .u8)) (Sh.int .i64)))).T) (RW44 c61))) (N : Nat) {s : St} {κ : Ex → St → Option (((Sh.tu (Sh.pr (Sh.sl (Sh.int .u8)) (Sh.int .i64)))).T)} {a : ((Sh.tu (Sh.pr (Sh.sl (Sh.int .u8)) (Sh.int .i64)))).T} (h : lpOf 0 H44_0 P44_0 Q44_0 (u44_0 c61 N N) s κ = some a) : Out FT XT 0 (retc k44.res (Sh.tu (Sh.pr (Sh.sl (Sh.int .u8)) (Sh.int .i64)))) (loopN k44 0) s κ a := by
  rw [l44_0]
  exact loop_out (LP := W44_0 c61 N) (fu := fuelC) hT hO (fun _ _ => rfl) (b44_0 c61 N) loopOK_nil N h
def W44 (c61 : List Int → Option (List Int)) (N : Nat) : LoopF (((Sh.tu (Sh.pr (Sh.sl (Sh.int .u8)) (Sh.int .i64)))).T) := fun no =>
  match no with
  | 0 => lpOf 0 H44_0 P44_0 Q44_0 (u44_0 c61 N N)
  | _ => fun _ _ => none
theorem e44 (c61 : List Int → Option (List Int)) (N : Nat) (a0 : List Int) (a1 : List Int) : evc (T44 c61) (rawOf (RW44 c61)) (W44 c61 N) (retc k44.res (Sh.tu (Sh.pr (Sh.sl (Sh.int .u8)) (Sh.int .i64)))) (modeOf FT) 0 fuelC k44.body (env0 k44 (encL [(Sh.sl (Sh.int .u8)), (Sh.sl (Sh.int .u8))] (a0, (a1, ()))), []) (endK (retc k44.res (Sh.tu (Sh.pr (Sh.sl (Sh.int .u8)) (Sh.int .i64))))) = p44 c61 N a0 a1 := by kernel_rfl
theorem ok44 (c61 : List Int → Option (List Int)) (h61 : EntOK FT XT 61 (en61 c61)) {f : List Int → List Int → Option ((List Int) × Int)} (hf : ∀ a0 a1 r, f a0 a1 = some r → ∃ N, p44 c61 N a0 a1 = some r) : EntOK FT XT 44 (en44 f) := by
  have hT : TabOK FT XT (T44 c61) := by
    intro g en hg
    unfold T44 at hg
    split at hg <;> first | (injection hg with hg; subst hg; assumption) | cases hg
  have hO : RawOK FT XT (rawOf (α := ((Sh.tu (Sh.pr (Sh.sl (Sh.int .u8)) (Sh.int .i64)))).T) (RW44 c61)) := by
    refine rawOf_ok (fun g en hg => ?_)
    unfold RW44 at hg
    split at hg <;> simp only [List.mem_cons, List.not_mem_nil, or_false] at hg <;> first | (subst hg; assumption) | (rcases hg with rfl | rfl <;> assumption) | (rcases hg with rfl | rfl | rfl <;> assumption) | (rcases hg with rfl | rfl | rfl | rfl <;> assumption)
  refine ⟨rfl, fun v r h => ?_⟩
  obtain ⟨a0, a1, _⟩ := v
  obtain ⟨N, h1⟩ := hf _ _ _ h
  exact ans_c (R := (Sh.tu (Sh.pr (Sh.sl (Sh.int .u8)) (Sh.int .i64)))) (tab := T44 c61) (raw := (rawOf (RW44 c61))) (LP := W44 c61 N) (fu := fuelC) hT hO rfl rfl (Nat.le_of_ble_eq_true rfl) (loopOK_cons l44_0 (fun s κ a h => o44_0 c61 hT hO N h) loopOK_nil) ((e44 c61 N _ _).trans h1)

def T45 : Nat → Option Ent
  | _ => none
def RW45 : Nat → List REnt
  | _ => []
def H45_0 : Trim := ⟨0, [], false, [0, 1, 6, 7], []⟩
theorem l45_0 : loopN k45 0 = .loop H45_0 (bodyOf (loopN k45 0)) := by kernel_rfl
def P45_0 : Ps := ⟨[(0, (.tb (Sh.int .u8))), (1, (.tb (Sh.int .u8))), (4, .u), (5, .u), (6, (.slc 0 1)), (7, (.int .i64)), (12, .u), (19, .u)], [(.ints false .u8)]⟩
def Q45_0 : Nat → Ps
  | 0 => ⟨[(0, .u), (1, .u), (4, .u), (5, .u), (6, (.slc 0 1)), (7, .u), (12, .u), (19, .u)], [(.ints false .u8)]⟩
  | _ => noPs
def u45_0 (N n : Nat) (v : P45_0.T) (κ : (i : Nat) → (Q45_0 i).T → Option (((Sh.tu (Sh.pr (Sh.sl (Sh.int .u8)) (Sh.int .i64)))).T)) : Option (((Sh.tu (Sh.pr (Sh.sl (Sh.int .u8)) (Sh.int .i64)))).T) :=
  L45_0 N (fun (y0 : Nat) (y1 : Nat) (y2 : List Int) => κ 0 (((), ((), ((), ((), ((y0, y1), ((), ((), ((), ())))))))), (y2, ()))) n v.1.1 v.1.2.1 v.1.2.2.2.2.1.1 v.1.2.2.2.2.1.2 v.1.2.2.2.2.2.1 v.2.1
def W45_0 (N : Nat) : LoopF (((Sh.tu (Sh.pr (Sh.sl (Sh.int .u8)) (Sh.int .i64)))).T) := fun no =>
  match no with
  | _ => fun _ _ => none
theorem b45_0 (N n : Nat) (v : P45_0.T) (κ : (i : Nat) → (Q45_0 i).T → Option (((Sh.tu (Sh.pr (Sh.sl (Sh.int .u8)) (Sh.int .i64)))).T)) :
    evc (T45) (rawOf (RW45)) (W45_0 N) (retc k45.res (Sh.tu (Sh.pr (Sh.sl (Sh.int .u8)) (Sh.int .i64)))) (modeOf FT) 0 fuelC (bodyOf (loopN k45 0)) (P45_0.st v) (roundK 0 H45_0 P45_0 Q45_0 (u45_0 N n) κ) = u45_0 N (n + 1) v κ := by kernel_rfl
theorem o45_0 (hT : TabOK FT XT (T45)) (hO : RawOK FT XT (rawOf (α := ((Sh.tu (Sh.pr (Sh.sl (Sh.int .u8)) (Sh.int .i64)))).T) (RW45))) (N : Nat) {s : St} {κ : Ex → St → Option (((Sh.tu (Sh.pr (Sh.sl (Sh.int .u8)) (Sh.int .i64)))).T)} {a : ((Sh.tu (Sh.pr (Sh.sl (Sh.int .u8)) (Sh.int .i64)))).T} (h : lpOf 0 H45_0 P45_0 Q45_0 (u45_0 N N) s κ = some a) : Out FT XT 0 (retc k45.res (Sh.tu (Sh.pr (Sh.sl (Sh.int .u8)) (Sh.int .i64)))) (loopN k45 0) s κ a := by
  rw [l45_0]
  exact loop_out (LP := W45_0 N) (fu := fuelC) hT hO (fun _ _ => rfl) (b45_0 N) loopOK_nil N h
def W45 (N : Nat) : LoopF (((Sh.tu (Sh.pr (Sh.sl (Sh.int .u8)) (Sh.int .i64)))).T) := fun no =>
  match no with
  | 0 => lpOf 0 H45_0 P45_0 Q45_0 (u45_0 N N)
  | _ => fun _ _ => none
theorem e45 (N : Nat) (a0 : List Int) (a1 : List Int) : evc (T45) (rawOf (RW45)) (W45 N) (retc k45.res (Sh.tu (Sh.pr (Sh.sl (Sh.int .u8)) (Sh.int .i64)))) (modeOf FT) 0 fuelC k45.body (env0 k45 (encL [(Sh.sl (Sh.int .u8)), (Sh.sl (Sh.int .u8))] (a0, (a1, ()))), []) (endK (retc k45.res (Sh.tu (Sh.pr (Sh.sl (Sh.int .u8)) (Sh.int .i64))))) = p45 N a0 a1 := by kernel_rfl
theorem ok45 {f : List Int → List Int → Option ((List Int) × Int)} (hf : ∀ a0 a1 r, f a0 a1 = some r → ∃ N, p45 N a0 a1 = some r) : EntOK FT XT 45 (en45 f) := by
  have hT : TabOK FT XT (T45) := by
    intro g en hg
    unfold T45 at hg
    split at hg <;> first | (injection hg with hg; subst hg; assumption) | cases hg
  have hO : RawOK FT XT (rawOf (α := ((Sh.tu (Sh.pr (Sh.sl (Sh.int .u8)) (Sh.int .i64)))).T) (RW45)) := by
    refine rawOf_ok (fun g en hg => ?_)
    unfold RW45 at hg
    split at hg <;> simp only [List.mem_cons, List.not_mem_nil, or_false] at hg <;> first | (subst hg; assumption) | (rcases hg with rfl | rfl <;> assumption) | (rcases hg with rfl | rfl | rfl <;> assumption) | (rcases hg with rfl | rfl | rfl | rfl <;> assumption)
  refine ⟨rfl, fun v r h => ?_⟩
  obtain ⟨a0, a1, _⟩ := v
  obtain ⟨N, h1⟩ := hf _ _ _ h
  exact ans_c (R := (Sh.tu (Sh.pr (Sh.sl (Sh.int .u8)) (Sh.int .i64)))) (tab := T45) (raw := (rawOf (RW45))) (LP := W45 N) (fu := fuelC) hT hO rfl rfl (Nat.le_of_ble_eq_true rfl) (loopOK_cons l45_0 (fun s κ a h => o45_0 hT hO N h) loopOK_nil) ((e45 N _ _).trans h1)

def T46 (c1 : List (List Int) → Option (List Int)) : Nat → Option Ent
  | 1 => some (en1 c1)
  | _ => none
def RW46 (c1 : List (List Int) → Option (List Int)) : Nat → List REnt
  | _ => []
def W46 (c1 : List (List Int) → Option (List Int)) (N : Nat) : LoopF (List Int) := fun no =>
  match no with
  | _ => fun _ _ => none
theorem e46 (c1 : List (List Int) → Option (List Int)) (N : Nat) (a0 : List (List Int)) : evc (T46 c1) (rawOf (RW46 c1)) (W46 c1 N) (reto k46.res .u8) (modeOf FT) 0 fuelC k46.body (env0 k46 (encL [(Sh.sl (Sh.sl (Sh.int .u8)))] (a0, ())), []) (endK (reto k46.res .u8)) = p46 c1 N a0 := by kernel_rfl
theorem ok46 (c1 : List (List Int) → Option (List Int)) (h1 : EntOK FT XT 1 (en1 c1)) {f : List (List Int) → Option (List Int)} (hf : ∀ a0 r, f a0 = some r → ∃ N, p46 c1 N a0 = some r) : EntOK FT XT 46 (en46 f) := by
  have hT : TabOK FT XT (T46 c1) := by
    intro g en hg
    unfold T46 at hg
    split at hg <;> first | (injection hg with hg; subst hg; assumption) | cases hg
  have hO : RawOK FT XT (rawOf (α := List Int) (RW46 c1)) := by
    refine rawOf_ok (fun g en hg => ?_)
    unfold RW46 at hg
    split at hg <;> simp only [List.mem_cons, List.not_mem_nil, or_false] at hg <;> first | (subst hg; assumption) | (rcases hg with rfl | rfl <;> assumption) | (rcases hg with rfl | rfl | rfl <;> assumption) | (rcases hg with rfl | rfl | rfl | rfl <;> assumption)
  refine ⟨rfl, fun v r h => ?_⟩
  obtain ⟨a0, _⟩ := v
  obtain ⟨N, h1⟩ := hf _ _ h
  exact ans_o (tab := T46 c1) (raw := (rawOf (RW46 c1))) (LP := W46 c1 N) (fu := fuelC) hT hO rfl rfl (Nat.le_of_ble_eq_true rfl) loopOK_nil ((e46 c1 N _).trans h1)

def T16 (c18 : Option Bool) (c44 : List Int → List Int → Option ((List Int) × Int)) (c45 : List Int → List Int → Option ((List Int) × Int)) (c46 : List (List Int) → Option (List Int)) (c23 : List Int → List Int → Option Bool) (c47 : List Int → List Int → Option Bool) : Nat → Option Ent
  | 18 => some (en18 c18)
  | 44 => some (en44 c44)
  | 45 => some (en45 c45)
  | 46 => some (en46 c46)
  | 23 => some (en23 c23)
  | 47 => some (en47 c47)
  | _ => none
def RW16 (c18 : Option Bool) (c44 : List Int → List Int → Option ((List Int) × Int)) (c45 : List Int → List Int → Option ((List Int) × Int)) (c46 : List (List Int) → Option (List Int)) (c23 : List Int → List Int → Option Bool) (c47 : List Int → List Int → Option Bool) : Nat → List REnt
  | _ => []
def W16 (c18 : Option Bool) (c44 : List Int → List Int → Option ((List Int) × Int)) (c45 : List Int → List Int → Option ((List Int) × Int)) (c46 : List (List Int) → Option (List Int)) (c23 : List Int → List Int → Option Bool) (c47 : List Int → List Int → Option Bool) (N : Nat) : LoopF (Sh.bool).T := fun no =>
  match no with
  | _ => fun _ _ => none
theorem e16 (c18 : Option Bool) (c44 : List Int → List Int → Option ((List Int) × Int)) (c45 : List Int → List Int → Option ((List Int) × Int)) (c46 : List (List Int) → Option (List Int)) (c23 : List Int → List Int → Option Bool) (c47 : List Int → List Int → Option Bool) (N : Nat) (a0 : List Int) (a1 : List Int) : evc (T16 c18 c44 c45 c46 c23 c47) (rawOf (RW16 c18 c44 c45 c46 c23 c47)) (W16 c18 c44 c45 c46 c23 c47 N) (retc k16.res Sh.bool) (modeOf FT) 0 fuelC k16.body (env0 k16 (encL [(Sh.sl (Sh.int .u8)), (Sh.sl (Sh.int .u8))] (a0, (a1, ()))), []) (endK (retc k16.res Sh.bool)) = p16 c18 c44 c45 c46 c23 c47 N a0 a1 := by kernel_rfl
theorem ok16 (c18 : Option Bool) (c44 : List Int → List Int → Option ((List Int) × Int)) (c45 : List Int → List Int → Option ((List Int) × Int)) (c46 : List (List Int) → Option (List Int)) (c23 : List Int → List Int → Option Bool) (c47 : List Int → List Int → Option Bool) (h18 : EntOK FT XT 18 (en18 c18)) (h44 : EntOK FT XT 44 (en44 c44)) (h45 : EntOK FT XT 45 (en45 c45)) (h46 : EntOK FT XT 46 (en46 c46)) (h23 : EntOK FT XT 23 (en23 c23)) (h47 : EntOK FT XT 47 (en47 c47)) {f : List Int → List Int → Option Bool} (hf : ∀ a0 a1 r, f a0 a1 = some r → ∃ N, p16 c18 c44 c45 c46 c23 c47 N a0 a1 = some r) : EntOK FT XT 16 (en16 f) := by
  have hT : TabOK FT XT (T16 c18 c44 c45 c46 c23 c47) := by
    intro g en hg
    unfold T16 at hg
    split at hg <;> first | (injection hg with hg; subst hg; assumption) | cases hg
  have hO : RawOK FT XT (rawOf (α := (Sh.bool).T) (RW16 c18 c44 c45 c46 c23 c47)) := by
    refine rawOf_ok (fun g en hg => ?_)
    unfold RW16 at hg
    split at hg <;> simp only [List.mem_cons, List.not_mem_nil, or_false] at hg <;> first | (subst hg; assumption) | (rcases hg with rfl | rfl <;> assumption) | (rcases hg with rfl | rfl | rfl <;> assumption) | (rcases hg with rfl | rfl | rfl | rfl <;> assumption)
  refine ⟨rfl, fun v r h => ?_⟩
  obtain ⟨a0, a1, _⟩ := v
  obtain ⟨N, h1⟩ := hf _ _ _ h
  exact ans_c (R := Sh.bool) (tab := T16 c18 c44 c45 c46 c23 c47) (raw := (rawOf (RW16 c18 c44 c45 c46 c23 c47))) (LP := W16 c18 c44 c45 c46 c23 c47 N) (fu := fuelC) hT hO rfl rfl (Nat.le_of_ble_eq_true rfl) loopOK_nil ((e16 c18 c44 c45 c46 c23 c47 N _ _).trans h1)

def T17 (c18 : Option Bool) (c19 : Int → Int → Bool → Option ((List Int) × Int)) (c21 : List Int → Bool → Option (Int × Int)) (c44 : List Int → List Int → Option ((List Int) × Int)) (c42 : List Int → Option (List UInt8)) (c40 : List UInt8 → Option ((List Int) × Int)) (c23 : List Int → List Int → Option Bool) : Nat → Option Ent
  | 18 => some (en18 c18)
  | 19 => some (en19 c19)
  | 21 => some (en21 c21)
  | 44 => some (en44 c44)
  | 42 => some (en42 c42)
  | 40 => some (en40 c40)
  | 23 => some (en23 c23)
  | _ => none
def RW17 (c18 : Option Bool) (c19 : Int → Int → Bool → Option ((List Int) × Int)) (c21 : List Int → Bool → Option (Int × Int)) (c44 : List Int → List Int → Option ((List Int) × Int)) (c42 : List Int → Option (List UInt8)) (c40 : List UInt8 → Option ((List Int) × Int)) (c23 : List Int → List Int → Option Bool) : Nat → List REnt
  | _ => []
def W17 (c18 : Option Bool) (c19 : Int → Int → Bool → Option ((List Int) × Int)) (c21 : List Int → Bool → Option (Int × Int)) (c44 : List Int → List Int → Option ((List Int) × Int)) (c42 : List Int → Option (List UInt8)) (c40 : List UInt8 → Option ((List Int) × Int)) (c23 : List Int → List Int → Option Bool) (N : Nat) : LoopF (Sh.bool).T := fun no =>
  match no with
  | _ => fun _ _ => none
theorem e17 (c18 : Option Bool) (c19 : Int → Int → Bool → Option ((List Int) × Int)) (c21 : List Int → Bool → Option (Int × Int)) (c44 : List Int → List Int → Option ((List Int) × Int)) (c42 : List Int → Option (List UInt8)) (c40 : List UInt8 → Option ((List Int) × Int)) (c23 : List Int → List Int → Option Bool) (N : Nat) (a0 : Int) (a1 : Int) (a2 : (List Int) × (List Int)) : evc (T17 c18 c19 c21 c44 c42 c40 c23) (rawOf (RW17 c18 c19 c21 c44 c42 c40 c23)) (W17 c18 c19 c21 c44 c42 c40 c23 N) (retc k17.res Sh.bool) (modeOf FT) 0 fuelC k17.body (env0 k17 (encL [(Sh.int .u64), (Sh.int .i64), (Sh.st (Sh.pr (Sh.sl (Sh.int .u8)) (Sh.sl (Sh.int .u8))))] (a0, (a1, (a2, ())))), []) (endK (retc k17.res Sh.bool)) = p17 c18 c19 c21 c44 c42 c40 c23 N a0 a1 a2 := by kernel_rfl
theorem ok17 (c18 : Option Bool) (c19 : Int → Int → Bool → Option ((List Int) × Int)) (c21 : List Int → Bool → Option (Int × Int)) (c44 : List Int → List Int → Option ((List Int) × Int)) (c42 : List Int → Option (List UInt8)) (c40 : List UInt8 → Option ((List Int) × Int)) (c23 : List Int → List Int → Option Bool) (h18 : EntOK FT XT 18 (en18 c18)) (h19 : EntOK FT XT 19 (en19 c19)) (h21 : EntOK FT XT 21 (en21 c21)) (h44 : EntOK FT XT 44 (en44 c44)) (h42 : EntOK FT XT 42 (en42 c42)) (h40 : EntOK FT XT 40 (en40 c40)) (h23 : EntOK FT XT 23 (en23 c23)) {f : Int → Int → (List Int) × (List Int) → Option Bool} (hf : ∀ a0 a1 a2 r, f a0 a1 a2 = some r → ∃ N, p17 c18 c19 c21 c44 c42 c40 c23 N a0 a1 a2 = some r) : EntOK FT XT 17 (en17 f) := by
  have hT : TabOK FT XT (T17 c18 c19 c21 c44 c42 c40 c23) := by
    intro g en hg
    unfold T17 at hg
    split at hg <;> first | (injection hg with hg; subst hg; assumption) | cases hg
  have hO : RawOK FT XT (rawOf (α := (Sh.bool).T) (RW17 c18 c19 c21 c44 c42 c40 c23)) := by
    refine rawOf_ok (fun g en hg => ?_)
    unfold RW17 at hg
    split at hg <;> simp only [List.mem_cons, List.not_mem_nil, or_false] at hg <;> first | (subst hg; assumption) | (rcases hg with rfl | rfl <;> assumption) | (rcases hg with rfl | rfl | rfl <;> assumption) | (rcases hg with rfl | rfl | rfl | rfl <;> assumption)
  refine ⟨rfl, fun v r h => ?_⟩
  obtain ⟨a0, a1, a2, _⟩ := v
  obtain ⟨N, h1⟩ := hf _ _ _ _ h
  exact ans_c (R := Sh.bool) (tab := T17 c18 c19 c21 c44 c42 c40 c23) (raw := (rawOf (RW17 c18 c19 c21 c44 c42 c40 c23))) (LP := W17 c18 c19 c21 c44 c42 c40 c23 N) (fu := fuelC) hT hO rfl rfl (Nat.le_of_ble_eq_true rfl) loopOK_nil ((e17 c18 c19 c21 c44 c42 c40 c23 N _ _ _).trans h1)

def T63 (c65 : List UInt8 → Int → Option Int) : Nat → Option Ent
  | 65 => some (en65 c65)
  | _ => none
def RW63 (c65 : List UInt8 → Int → Option Int) : Nat → List REnt
  | _ => []
def W63 (c65 : List UInt8 → Int → Option Int) (N : Nat) : LoopF (((Sh.int .i64)).T) := fun no =>
  match no with
  | _ => fun _ _ => none
theorem e63 (c65 : List UInt8 → Int → Option Int) (N : Nat) (a0 : List UInt8) (a1 : Int) : evc (T63 c65) (rawOf (RW63 c65)) (W63 c65 N) (retc k63.res (Sh.int .i64)) (modeOf FT) 0 fuelC k63.body (env0 k63 (encL [Sh.str, (Sh.int .u8)] (a0, (a1, ()))), []) (endK (retc k63.res (Sh.int .i64))) = p63 c65 N a0 a1 := by kernel_rfl
theorem ok63 (c65 : List UInt8 → Int → Option Int) (h65 : EntOK FT XT 65 (en65 c65)) {f : List UInt8 → Int → Option Int} (hf : ∀ a0 a1 r, f a0 a1 = some r → ∃ N, p63 c65 N a0 a1 = some r) : EntOK FT XT 63 (en63 f) := by
  have hT : TabOK FT XT (T63 c65) := by
    intro g en hg
    unfold T63 at hg
    split at hg <;> first | (injection hg with hg; subst hg; assumption) | cases hg
  have hO : RawOK FT XT (rawOf (α := ((Sh.int .i64)).T) (RW63 c65)) := by
    refine rawOf_ok (fun g en hg => ?_)
    unfold RW63 at hg
    split at hg <;> simp only [List.mem_cons, List.not_mem_nil, or_false] at hg <;> first | (subst hg; assumption) | (rcases hg with rfl | rfl <;> assumption) | (rcases hg with rfl | rfl | rfl <;> assumption) | (rcases hg with rfl | rfl | rfl | rfl <;> assumption)
  refine ⟨rfl, fun v r h => ?_⟩
  obtain ⟨a0, a1, _⟩ := v
  obtain ⟨N, h1⟩ := hf _ _ _ h
  exact ans_c (R := (Sh.int .i64)) (tab := T63 c65) (raw := (rawOf (RW63 c65))) (LP := W63 c65 N) (fu := fuelC) hT hO rfl rfl (Nat.le_of_ble_eq_true rfl) loopOK_nil ((e63 c65 N _ _).trans h1)

def T59 (c63 : List UInt8 → Int → Option Int) : Nat → Option Ent
  | 63 => some (en63 c63)
  | _ => none
def RW59 (c63 : List UInt8 → Int → Option Int) : Nat → List REnt
  | _ => []
def W59 (c63 : List UInt8 → Int → Option Int) (N : Nat) : LoopF (((Sh.int .i64)).T) := fun no =>
  match no with
  | _ => fun _ _ => none
theorem e59 (c63 : List UInt8 → Int → Option Int) (N : Nat) (a0 : Int) : evc (T59 c63) (rawOf (RW59 c63)) (W59 c63 N) (retc k59.res (Sh.int .i64)) (modeOf FT) 0 fuelC k59.body (env0 k59 (encL [(Sh.int .u8)] (a0, ())), []) (endK (retc k59.res (Sh.int .i64))) = p59 c63 N a0 := by kernel_rfl
theorem ok59 (c63 : List UInt8 → Int → Option Int) (h63 : EntOK FT XT 63 (en63 c63)) {f : Int → Option Int} (hf : ∀ a0 r, f a0 = some r → ∃ N, p59 c63 N a0 = some r) : EntOK FT XT 59 (en59 f) := by
  have hT : TabOK FT XT (T59 c63) := by
    intro g en hg
    unfold T59 at hg
    split at hg <;> first | (injection hg with hg; subst hg; assumption) | cases hg
  have hO : RawOK FT XT (rawOf (α := ((Sh.int .i64)).T) (RW59 c63)) := by
    refine rawOf_ok (fun g en hg => ?_)
    unfold RW59 at hg
    split at hg <;> simp only [List.mem_cons, List.not_mem_nil, or_false] at hg <;> first | (subst hg; assumption) | (rcases hg with rfl | rfl <;> assumption) | (rcases hg with rfl | rfl | rfl <;> assumption) | (rcases hg with rfl | rfl | rfl | rfl <;> assumption)
  refine ⟨rfl, fun v r h => ?_⟩
  obtain ⟨a0, _⟩ := v
  obtain ⟨N, h1⟩ := hf _ _ h
  exact ans_c (R := (Sh.int .i64)) (tab := T59 c63) (raw := (rawOf (RW59 c63))) (LP := W59 c63 N) (fu := fuelC) hT hO rfl rfl (Nat.le_of_ble_eq_true rfl) loopOK_nil ((e59 c63 N _).trans h1)
end Go.Proofs.YtgjbkgajkcgdfaaE
