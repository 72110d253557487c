/- The plain functions are the evaluator's. -/
import Derived.Test.YtciafmcbccgggaaEvGG1
import Derived.KernelRfl
namespace Go.Proofs.YtciafmcbccgggaaE
open Go
set_option linter.unusedVariables false
set_option linter.unusedSimpArgs false

def T64v0 : Nat → Option Ent
  | _ => none
def W64v0 (N : Nat) : LoopF QR64v0.T := fun no =>
  match no with
  | _ => fun _ _ => none
theorem e64v0 (N : Nat) (v : PR64v0.T) : evc (T64v0) (rawOf RW0) (W64v0 N) (retr k64.res 0 QR64v0) (modeOf FT) 0 fuelC k64.body (env0 k64 (PR64v0.a.st v.1), stH PR64v0.h v.2) (endK (retr k64.res 0 QR64v0)) = p64v0 N v.1.2.1 := by kernel_rfl
theorem ok64v0 {f : Int → Option ((Nat × Unit) × ((List Int) × Unit))} (hf : ∀ a0 r, f a0 = some r → ∃ N, p64v0 N a0 = some r) : REntOK FT XT 64 (rn64v0 f) := by
  have hT : TabOK FT XT (T64v0) := by
    intro g en hg
    unfold T64v0 at hg
    split at hg <;> first | (injection hg with hg; subst hg; assumption) | cases hg
  have hO0 : RawOK FT XT (rawOf (α := QR64v0.T) RW0) := rawOK0
  have hO : RawOK FT XT (rawOf (α := QR64v0.T) RW0) := hO0
  intro v r w h hw
  obtain ⟨N, h1⟩ := hf _ _ h
  exact ans_r (Q := QR64v0) (tab := T64v0) (raw := (rawOf RW0)) (LP := W64v0 N) (fu := fuelC) hT hO rfl rfl (Nat.le_of_ble_eq_true rfl) rfl loopOK_nil ((e64v0 N v).trans h1) hw

def T1 (d64v0 : Int → Option ((Nat × Unit) × ((List Int) × Unit))) : Nat → Option Ent
  | _ => none
def RW1 (d64v0 : Int → Option ((Nat × Unit) × ((List Int) × Unit))) : Nat → List REnt
  | 64 => [rn64v0 d64v0]
  | _ => []
def H1_1 : Trim := ⟨1, [], false, [6, 25, 26, 27], []⟩
theorem l1_1 : loopN k1 1 = .loop H1_1 (bodyOf (loopN k1 1)) := by kernel_rfl
def P1_1 : Ps := ⟨[(0, .u), (2, .u), (3, .u), (5, .u), (6, (.sl 0 1)), (8, .u), (9, .u), (10, .u), (11, .u), (12, .u), (20, .u), (25, (.tb (Sh.sl (Sh.int .u8)))), (26, (.int .i64)), (27, (.int .i64)), (28, .u)], [(.ints false .u8)]⟩
def Q1_1 : Nat → Ps
  | 2 => ⟨[(0, .u), (2, .u), (3, .u), (5, .u), (6, (.sl 0 1)), (8, .u), (9, .u), (10, .u), (11, .u), (12, .u), (20, .u), (25, .u), (26, .u), (27, .u), (28, .u)], [(.ints false .u8)]⟩
  | _ => noPs
def u1_1 (d64v0 : Int → Option ((Nat × Unit) × ((List Int) × Unit))) (N n : Nat) (v : P1_1.T) (κ : (i : Nat) → (Q1_1 i).T → Option (List Int)) : Option (List Int) :=
  L1_1 d64v0 N (fun (y0 : Nat) (y1 : List Int) => κ 2 (((), ((), ((), ((), (y0, ((), ((), ((), ((), ((), ((), ((), ((), ((), ((), ()))))))))))))))), (y1, ()))) n v.1.2.2.2.2.1 v.1.2.2.2.2.2.2.2.2.2.2.2.1 v.1.2.2.2.2.2.2.2.2.2.2.2.2.1 v.1.2.2.2.2.2.2.2.2.2.2.2.2.2.1 v.2.1
def W1_1 (d64v0 : Int → Option ((Nat × Unit) × ((List Int) × Unit))) (N : Nat) : LoopF (List Int) := fun no =>
  match no with
  | _ => fun _ _ => none
theorem b1_1 (d64v0 : Int → Option ((Nat × Unit) × ((List Int) × Unit))) (N n : Nat) (v : P1_1.T) (κ : (i : Nat) → (Q1_1 i).T → Option (List Int)) :
    evc (T1 d64v0) (rawOf (RW1 d64v0)) (W1_1 d64v0 N) (reto k1.res .u8) (modeOf FT) 0 fuelC (bodyOf (loopN k1 1)) (P1_1.st v) (roundK 0 H1_1 P1_1 Q1_1 (u1_1 d64v0 N n) κ) = u1_1 d64v0 N (n + 1) v κ := by kernel_rfl
theorem o1_1 (d64v0 : Int → Option ((Nat × Unit) × ((List Int) × Unit))) (hT : TabOK FT XT (T1 d64v0)) (hO : RawOK FT XT (rawOf (α := List Int) (RW1 d64v0))) (N : Nat) {s : St} {κ : Ex → St → Option (List Int)} {a : List Int} (h : lpOf 0 H1_1 P1_1 Q1_1 (u1_1 d64v0 N N) s κ = some a) : Out FT XT 0 (reto k1.res .u8) (loopN k1 1) s κ a := by
  rw [l1_1]
  exact loop_out (LP := W1_1 d64v0 N) (fu := fuelC) hT hO (fun _ _ => rfl) (b1_1 d64v0 N) loopOK_nil N h
def H1_0 : Trim := ⟨0, [], false, [0, 3, 9, 10, 11], []⟩
theorem l1_0 : loopN k1 0 = .loop H1_0 (bodyOf (loopN k1 0)) := by kernel_rfl
def P1_0 : Ps := ⟨[(0, (.tb (Sh.sl (Sh.int .u8)))), (2, .u), (3, (.int .i64)), (5, .u), (6, .u), (8, .u), (9, (.tb (Sh.sl (Sh.int .u8)))), (10, (.int .i64)), (11, (.int .i64)), (12, .u), (20, .u), (25, .u), (26, .u), (27, .u), (28, .u)], []⟩
def Q1_0 : Nat → Ps
  | 0 => ⟨[(0, (.tb (Sh.sl (Sh.int .u8)))), (2, .u), (3, (.int .i64)), (5, .u), (6, .u), (8, .u), (9, .u), (10, .u), (11, .u), (12, .u), (20, .u), (25, .u), (26, .u), (27, .u), (28, .u)], []⟩
  | _ => noPs
def u1_0 (d64v0 : Int → Option ((Nat × Unit) × ((List Int) × Unit))) (N n : Nat) (v : P1_0.T) (κ : (i : Nat) → (Q1_0 i).T → Option (List Int)) : Option (List Int) :=
  L1_0 d64v0 N (fun (y0 : List (List Int)) (y1 : Int) => κ 0 ((y0, ((), (y1, ((), ((), ((), ((), ((), ((), ((), ((), ((), ((), ((), ((), ()))))))))))))))), ())) n v.1.1 v.1.2.2.1 v.1.2.2.2.2.2.2.1 v.1.2.2.2.2.2.2.2.1 v.1.2.2.2.2.2.2.2.2.1
def W1_0 (d64v0 : Int → Option ((Nat × Unit) × ((List Int) × Unit))) (N : Nat) : LoopF (List Int) := fun no =>
  match no with
  | _ => fun _ _ => none
theorem b1_0 (d64v0 : Int → Option ((Nat × Unit) × ((List Int) × Unit))) (N n : Nat) (v : P1_0.T) (κ : (i : Nat) → (Q1_0 i).T → Option (List Int)) :
    evc (T1 d64v0) (rawOf (RW1 d64v0)) (W1_0 d64v0 N) (reto k1.res .u8) (modeOf FT) 0 fuelC (bodyOf (loopN k1 0)) (P1_0.st v) (roundK 0 H1_0 P1_0 Q1_0 (u1_0 d64v0 N n) κ) = u1_0 d64v0 N (n + 1) v κ := by kernel_rfl
theorem o1_0 (d64v0 : Int → Option ((Nat × Unit) × ((List Int) × Unit))) (hT : TabOK FT XT (T1 d64v0)) (hO : RawOK FT XT (rawOf (α := List Int) (RW1 d64v0))) (N : Nat) {s : St} {κ : Ex → St → Option (List Int)} {a : List Int} (h : lpOf 0 H1_0 P1_0 Q1_0 (u1_0 d64v0 N N) s κ = some a) : Out FT XT 0 (reto k1.res .u8) (loopN k1 0) s κ a := by
  rw [l1_0]
  exact loop_out (LP := W1_0 d64v0 N) (fu := fuelC) hT hO (fun _ _ => rfl) (b1_0 d64v0 N) loopOK_nil N h
def W1 (d64v0 : Int → Option ((Nat × Unit) × ((List Int) × Unit))) (N : Nat) : LoopF (List Int) := fun no =>
  match no with
  | 0 => lpOf 0 H1_0 P1_0 Q1_0 (u1_0 d64v0 N N)
  | 1 => lpOf 0 H1_1 P1_1 Q1_1 (u1_1 d64v0 N N)
  | _ => fun _ _ => none
theorem e1 (d64v0 : Int → Option ((Nat × Unit) × ((List Int) × Unit))) (N : Nat) (a0 : List (List Int)) : evc (T1 d64v0) (rawOf (RW1 d64v0)) (W1 d64v0 N) (reto k1.res .u8) (modeOf FT) 0 fuelC k1.body (env0 k1 (encL [(Sh.sl (Sh.sl (Sh.int .u8)))] (a0, ())), []) (endK (reto k1.res .u8)) = p1 d64v0 N a0 := by kernel_rfl
theorem ok1 (d64v0 : Int → Option ((Nat × Unit) × ((List Int) × Unit))) (h64v0 : REntOK FT XT 64 (rn64v0 d64v0)) {f : List (List Int) → Option (List Int)} (hf : ∀ a0 r, f a0 = some r → ∃ N, p1 d64v0 N a0 = some r) : EntOK FT XT 1 (en1 f) := by
  have hT : TabOK FT XT (T1 d64v0) := by
    intro g en hg
    unfold T1 at hg
    split at hg <;> first | (injection hg with hg; subst hg; assumption) | cases hg
  have hO0 : RawOK FT XT (rawOf (α := List Int) (RW1 d64v0)) := by
    refine rawOf_ok (fun g en hg => ?_)
    unfold RW1 at hg
    split at hg <;> simp only [List.mem_cons, List.not_mem_nil, or_false] at hg <;> first | (subst hg; assumption) | (rcases hg with rfl | rfl <;> assumption) | (rcases hg with rfl | rfl | rfl <;> assumption) | (rcases hg with rfl | rfl | rfl | rfl <;> assumption)
  have hO : RawOK FT XT (rawOf (α := List Int) (RW1 d64v0)) := hO0
  refine ⟨rfl, fun v r h => ?_⟩
  obtain ⟨a0, _⟩ := v
  obtain ⟨N, h1⟩ := hf _ _ h
  exact ans_o (tab := T1 d64v0) (raw := (rawOf (RW1 d64v0))) (LP := W1 d64v0 N) (fu := fuelC) hT hO rfl rfl (Nat.le_of_ble_eq_true rfl) (loopOK_cons l1_0 (fun s κ a h => o1_0 d64v0 hT hO N h) (loopOK_cons l1_1 (fun s κ a h => o1_1 d64v0 hT hO N h) loopOK_nil)) ((e1 d64v0 N _).trans h1)

def T48v0 : Nat → Option Ent
  | _ => none
def H48v0_0 : Trim := ⟨0, [], false, [0, 2, 3], []⟩
theorem l48v0_0 : loopN k48 0 = .loop H48v0_0 (bodyOf (loopN k48 0)) := by kernel_rfl
def P48v0_0 : Ps := ⟨[(0, (.slc 0 1)), (2, (.int .i64)), (3, (.int .i64)), (9, .u)], [(.ints false .u8)]⟩
def Q48v0_0 : Nat → Ps
  | 0 => ⟨[(0, .u), (2, .u), (3, .u), (9, .u)], [(.ints false .u8)]⟩
  | _ => noPs
def u48v0_0 (N n : Nat) (v : P48v0_0.T) (κ : (i : Nat) → (Q48v0_0 i).T → Option QR48v0.T) : Option QR48v0.T :=
  L48v0_0 N (fun (y0 : List Int) => κ 0 (((), ((), ((), ((), ())))), (y0, ()))) n v.1.1.1 v.1.1.2 v.1.2.1 v.1.2.2.1 v.2.1
def W48v0_0 (N : Nat) : LoopF QR48v0.T := fun no =>
  match no with
  | _ => fun _ _ => none
theorem b48v0_0 (N n : Nat) (v : P48v0_0.T) (κ : (i : Nat) → (Q48v0_0 i).T → Option QR48v0.T) :
    evc (T48v0) (rawOf RW0) (W48v0_0 N) (retr k48.res 1 QR48v0) (modeOf FT) 1 fuelC (bodyOf (loopN k48 0)) (P48v0_0.st v) (roundK 1 H48v0_0 P48v0_0 Q48v0_0 (u48v0_0 N n) κ) = u48v0_0 N (n + 1) v κ := by kernel_rfl
theorem o48v0_0 (hT : TabOK FT XT (T48v0)) (hO : RawOK FT XT (rawOf (α := QR48v0.T) RW0)) (N : Nat) {s : St} {κ : Ex → St → Option QR48v0.T} {a : QR48v0.T} (h : lpOf 1 H48v0_0 P48v0_0 Q48v0_0 (u48v0_0 N N) s κ = some a) : Out FT XT 1 (retr k48.res 1 QR48v0) (loopN k48 0) s κ a := by
  rw [l48v0_0]
  exact loop_out (LP := W48v0_0 N) (fu := fuelC) hT hO (fun _ _ => rfl) (b48v0_0 N) loopOK_nil N h
def W48v0 (N : Nat) : LoopF QR48v0.T := fun no =>
  match no with
  | 0 => lpOf 1 H48v0_0 P48v0_0 Q48v0_0 (u48v0_0 N N)
  | _ => fun _ _ => none
theorem e48v0 (N : Nat) (v : PR48v0.T) : evc (T48v0) (rawOf RW0) (W48v0 N) (retr k48.res 1 QR48v0) (modeOf FT) 1 fuelC k48.body (env0 k48 (PR48v0.a.st v.1), stH PR48v0.h v.2) (endK (retr k48.res 1 QR48v0)) = p48v0 N v.1.1.1 v.1.1.2 v.2.1 := by kernel_rfl
theorem ok48v0 {f : Nat → Nat → List Int → Option ((Unit × Unit) × ((List Int) × Unit))} (hf : ∀ a0 a1 a2 r, f a0 a1 a2 = some r → ∃ N, p48v0 N a0 a1 a2 = some r) : REntOK FT XT 48 (rn48v0 f) := by
  have hT : TabOK FT XT (T48v0) := by
    intro g en hg
    unfold T48v0 at hg
    split at hg <;> first | (injection hg with hg; subst hg; assumption) | cases hg
  have hO0 : RawOK FT XT (rawOf (α := QR48v0.T) RW0) := rawOK0
  have hO : RawOK FT XT (rawOf (α := QR48v0.T) RW0) := hO0
  intro v r w h hw
  obtain ⟨N, h1⟩ := hf _ _ _ _ h
  exact ans_r (Q := QR48v0) (tab := T48v0) (raw := (rawOf RW0)) (LP := W48v0 N) (fu := fuelC) hT hO rfl rfl (Nat.le_of_ble_eq_true rfl) rfl (loopOK_cons l48v0_0 (fun s κ a h => o48v0_0 hT hO N h) loopOK_nil) ((e48v0 N v).trans h1) hw

def T19 (d48v0 : Nat → Nat → List Int → Option ((Unit × Unit) × ((List Int) × Unit))) : Nat → Option Ent
  | _ => none
def RW19 (d48v0 : Nat → Nat → List Int → Option ((Unit × Unit) × ((List Int) × Unit))) : Nat → List REnt
  | 48 => [rn48v0 d48v0]
  | _ => []
def H19_0 : Trim := ⟨0, [], false, [0, 2, 8, 19, 20], []⟩
theorem l19_0 : loopN k19 0 = .loop H19_0 (bodyOf (loopN k19 0)) := by kernel_rfl
def P19_0 : Ps := ⟨[(0, (.int .u64)), (1, .u), (2, .bool), (6, .u), (7, .u), (8, (.slc 0 1)), (9, .u), (15, .u), (19, (.int .i64)), (20, (.int .i64)), (21, .u), (33, .u)], [(.ints false .u8)]⟩
def Q19_0 : Nat → Ps
  | 0 => ⟨[(0, .u), (1, .u), (2, .bool), (6, .u), (7, .u), (8, (.slc 0 1)), (9, .u), (15, .u), (19, .u), (20, .u), (21, .u), (33, .u)], [(.ints false .u8)]⟩
  | _ => noPs
def u19_0 (d48v0 : Nat → Nat → List Int → Option ((Unit × Unit) × ((List Int) × Unit))) (N n : Nat) (v : P19_0.T) (κ : (i : Nat) → (Q19_0 i).T → Option (((Sh.tu (Sh.pr (Sh.sl (Sh.int .u8)) (Sh.int .i64)))).T)) : Option (((Sh.tu (Sh.pr (Sh.sl (Sh.int .u8)) (Sh.int .i64)))).T) :=
  L19_0 d48v0 N (fun (y0 : Bool) (y1 : Nat) (y2 : Nat) (y3 : List Int) => κ 0 (((), ((), (y0, ((), ((), ((y1, y2), ((), ((), ((), ((), ((), ((), ())))))))))))), (y3, ()))) n v.1.1 v.1.2.2.1 v.1.2.2.2.2.2.1.1 v.1.2.2.2.2.2.1.2 v.1.2.2.2.2.2.2.2.2.1 v.1.2.2.2.2.2.2.2.2.2.1 v.2.1
def W19_0 (d48v0 : Nat → Nat → List Int → Option ((Unit × Unit) × ((List Int) × Unit))) (N : Nat) : LoopF (((Sh.tu (Sh.pr (Sh.sl (Sh.int .u8)) (Sh.int .i64)))).T) := fun no =>
  match no with
  | _ => fun _ _ => none
theorem b19_0 (d48v0 : Nat → Nat → List Int → Option ((Unit × Unit) × ((List Int) × Unit))) (N n : Nat) (v : P19_0.T) (κ : (i : Nat) → (Q19_0 i).T → Option (((Sh.tu (Sh.pr (Sh.sl (Sh.int .u8)) (Sh.int .i64)))).T)) :
    evc (T19 d48v0) (rawOf (RW19 d48v0)) (W19_0 d48v0 N) (retc k19.res (Sh.tu (Sh.pr (Sh.sl (Sh.int .u8)) (Sh.int .i64)))) (modeOf FT) 0 fuelC (bodyOf (loopN k19 0)) (P19_0.st v) (roundK 0 H19_0 P19_0 Q19_0 (u19_0 d48v0 N n) κ) = u19_0 d48v0 N (n + 1) v κ := by kernel_rfl
theorem o19_0 (d48v0 : Nat → Nat → List Int → Option ((Unit × Unit) × ((List Int) × Unit))) (hT : TabOK FT XT (T19 d48v0)) (hO : RawOK FT XT (rawOf (α := ((Sh.tu (Sh.pr (Sh.sl (Sh.int .u8)) (Sh.int .i64)))).T) (RW19 d48v0))) (N : Nat) {s : St} {κ : Ex → St → Option (((Sh.tu (Sh.pr (Sh.sl (Sh.int .u8)) (Sh.int .i64)))).T)} {a : ((Sh.tu (Sh.pr (Sh.sl (Sh.int .u8)) (Sh.int .i64)))).T} (h : lpOf 0 H19_0 P19_0 Q19_0 (u19_0 d48v0 N N) s κ = some a) : Out FT XT 0 (retc k19.res (Sh.tu (Sh.pr (Sh.sl (Sh.int .u8)) (Sh.int .i64)))) (loopN k19 0) s κ a := by
  rw [l19_0]
  exact loop_out (LP := W19_0 d48v0 N) (fu := fuelC) hT hO (fun _ _ => rfl) (b19_0 d48v0 N) loopOK_nil N h
def W19 (d48v0 : Nat → Nat → List Int → Option ((Unit × Unit) × ((List Int) × Unit))) (N : Nat) : LoopF (((Sh.tu (Sh.pr (Sh.sl (Sh.int .u8)) (Sh.int .i64)))).T) := fun no =>
  match no with
  | 0 => lpOf 0 H19_0 P19_0 Q19_0 (u19_0 d48v0 N N)
  | _ => fun _ _ => none
theorem e19 (d48v0 : Nat → Nat → List Int → Option ((Unit × Unit) × ((List Int) × Unit))) (N : Nat) (a0 : Int) (a1 : Int) (a2 : Bool) : evc (T19 d48v0) (rawOf (RW19 d48v0)) (W19 d48v0 N) (retc k19.res (Sh.tu (Sh.pr (Sh.sl (Sh.int .u8)) (Sh.int .i64)))) (modeOf FT) 0 fuelC k19.body (env0 k19 (encL [(Sh.int .u64), (Sh.int .i64), Sh.bool] (a0, (a1, (a2, ())))), []) (endK (retc k19.res (Sh.tu (Sh.pr (Sh.sl (Sh.int .u8)) (Sh.int .i64))))) = p19 d48v0 N a0 a1 a2 := by kernel_rfl
theorem ok19 (d48v0 : Nat → Nat → List Int → Option ((Unit × Unit) × ((List Int) × Unit))) (h48v0 : REntOK FT XT 48 (rn48v0 d48v0)) {f : Int → Int → Bool → Option ((List Int) × Int)} (hf : ∀ a0 a1 a2 r, f a0 a1 a2 = some r → ∃ N, p19 d48v0 N a0 a1 a2 = some r) : EntOK FT XT 19 (en19 f) := by
  have hT : TabOK FT XT (T19 d48v0) := by
    intro g en hg
    unfold T19 at hg
    split at hg <;> first | (injection hg with hg; subst hg; assumption) | cases hg
  have hO0 : RawOK FT XT (rawOf (α := ((Sh.tu (Sh.pr (Sh.sl (Sh.int .u8)) (Sh.int .i64)))).T) (RW19 d48v0)) := by
    refine rawOf_ok (fun g en hg => ?_)
    unfold RW19 at hg
    split at hg <;> simp only [List.mem_cons, List.not_mem_nil, or_false] at hg <;> first | (subst hg; assumption) | (rcases hg with rfl | rfl <;> assumption) | (rcases hg with rfl | rfl | rfl <;> assumption) | (rcases hg with rfl | rfl | rfl | rfl <;> assumption)
  have hO : RawOK FT XT (rawOf (α := ((Sh.tu (Sh.pr (Sh.sl (Sh.int .u8)) (Sh.int .i64)))).T) (RW19 d48v0)) := hO0
  refine ⟨rfl, fun v r h => ?_⟩
  obtain ⟨a0, a1, a2, _⟩ := v
  obtain ⟨N, h1⟩ := hf _ _ _ _ h
  exact ans_c (R := (Sh.tu (Sh.pr (Sh.sl (Sh.int .u8)) (Sh.int .i64)))) (tab := T19 d48v0) (raw := (rawOf (RW19 d48v0))) (LP := W19 d48v0 N) (fu := fuelC) hT hO rfl rfl (Nat.le_of_ble_eq_true rfl) (loopOK_cons l19_0 (fun s κ a h => o19_0 d48v0 hT hO N h) loopOK_nil) ((e19 d48v0 N _ _ _).trans h1)

def T21 : Nat → Option Ent
  | _ => none
def H21_0 : Trim := ⟨0, [], false, [1, 6, 17, 18, 19], []⟩
theorem l21_0 : loopN k21 0 = .loop H21_0 (bodyOf (loopN k21 0)) := by kernel_rfl
def P21_0 : Ps := ⟨[(0, .u), (1, .bool), (4, .u), (5, .u), (6, (.int .u64)), (7, .u), (8, .u), (16, .u), (17, (.tb (Sh.int .u8))), (18, (.int .i64)), (19, (.int .i64)), (20, .u), (24, .u)], []⟩
def Q21_0 : Nat → Ps
  | 0 => ⟨[(0, .u), (1, .u), (4, .u), (5, .u), (6, (.int .u64)), (7, .u), (8, .u), (16, .u), (17, .u), (18, .u), (19, .u), (20, .u), (24, .u)], []⟩
  | _ => noPs
def u21_0 (N n : Nat) (v : P21_0.T) (κ : (i : Nat) → (Q21_0 i).T → Option (((Sh.tu (Sh.pr (Sh.int .u64) (Sh.int .i64)))).T)) : Option (((Sh.tu (Sh.pr (Sh.int .u64) (Sh.int .i64)))).T) :=
  L21_0 N (fun (y0 : Int) => κ 0 (((), ((), ((), ((), (y0, ((), ((), ((), ((), ((), ((), ((), ((), ()))))))))))))), ())) n v.1.2.1 v.1.2.2.2.2.1 v.1.2.2.2.2.2.2.2.2.1 v.1.2.2.2.2.2.2.2.2.2.1 v.1.2.2.2.2.2.2.2.2.2.2.1
def W21_0 (N : Nat) : LoopF (((Sh.tu (Sh.pr (Sh.int .u64) (Sh.int .i64)))).T) := fun no =>
  match no with
  | _ => fun _ _ => none
theorem b21_0 (N n : Nat) (v : P21_0.T) (κ : (i : Nat) → (Q21_0 i).T → Option (((Sh.tu (Sh.pr (Sh.int .u64) (Sh.int .i64)))).T)) :
    evc (T21) (rawOf RW0) (W21_0 N) (retc k21.res (Sh.tu (Sh.pr (Sh.int .u64) (Sh.int .i64)))) (modeOf FT) 0 fuelC (bodyOf (loopN k21 0)) (P21_0.st v) (roundK 0 H21_0 P21_0 Q21_0 (u21_0 N n) κ) = u21_0 N (n + 1) v κ := by kernel_rfl
theorem o21_0 (hT : TabOK FT XT (T21)) (hO : RawOK FT XT (rawOf (α := ((Sh.tu (Sh.pr (Sh.int .u64) (Sh.int .i64)))).T) RW0)) (N : Nat) {s : St} {κ : Ex → St → Option (((Sh.tu (Sh.pr (Sh.int .u64) (Sh.int .i64)))).T)} {a : ((Sh.tu (Sh.pr (Sh.int .u64) (Sh.int .i64)))).T} (h : lpOf 0 H21_0 P21_0 Q21_0 (u21_0 N N) s κ = some a) : Out FT XT 0 (retc k21.res (Sh.tu (Sh.pr (Sh.int .u64) (Sh.int .i64)))) (loopN k21 0) s κ a := by
  rw [l21_0]
  exact loop_out (LP := W21_0 N) (fu := fuelC) hT hO (fun _ _ => rfl) (b21_0 N) loopOK_nil N h
def W21 (N : Nat) : LoopF (((Sh.tu (Sh.pr (Sh.int .u64) (Sh.int .i64)))).T) := fun no =>
  match no with
  | 0 => lpOf 0 H21_0 P21_0 Q21_0 (u21_0 N N)
  | _ => fun _ _ => none
theorem e21 (N : Nat) (a0 : List Int) (a1 : Bool) : evc (T21) (rawOf RW0) (W21 N) (retc k21.res (Sh.tu (Sh.pr (Sh.int .u64) (Sh.int .i64)))) (modeOf FT) 0 fuelC k21.body (env0 k21 (encL [(Sh.sl (Sh.int .u8)), Sh.bool] (a0, (a1, ()))), []) (endK (retc k21.res (Sh.tu (Sh.pr (Sh.int .u64) (Sh.int .i64))))) = p21 N a0 a1 := by kernel_rfl
theorem ok21 {f : List Int → Bool → Option (Int × Int)} (hf : ∀ a0 a1 r, f a0 a1 = some r → ∃ N, p21 N a0 a1 = some r) : EntOK FT XT 21 (en21 f) := by
  have hT : TabOK FT XT (T21) := by
    intro g en hg
    unfold T21 at hg
    split at hg <;> first | (injection hg with hg; subst hg; assumption) | cases hg
  have hO0 : RawOK FT XT (rawOf (α := ((Sh.tu (Sh.pr (Sh.int .u64) (Sh.int .i64)))).T) RW0) := rawOK0
  have hO : RawOK FT XT (rawOf (α := ((Sh.tu (Sh.pr (Sh.int .u64) (Sh.int .i64)))).T) RW0) := hO0
  refine ⟨rfl, fun v r h => ?_⟩
  obtain ⟨a0, a1, _⟩ := v
  obtain ⟨N, h1⟩ := hf _ _ _ h
  exact ans_c (R := (Sh.tu (Sh.pr (Sh.int .u64) (Sh.int .i64)))) (tab := T21) (raw := (rawOf RW0)) (LP := W21 N) (fu := fuelC) hT hO rfl rfl (Nat.le_of_ble_eq_true rfl) (loopOK_cons l21_0 (fun s κ a h => o21_0 hT hO N h) loopOK_nil) ((e21 N _ _).trans h1)

def T23 : Nat → Option Ent
  | _ => none
def H23_0 : Trim := ⟨0, [], false, [0, 1, 5], []⟩
theorem l23_0 : loopN k23 0 = .loop H23_0 (bodyOf (loopN k23 0)) := by kernel_rfl
def P23_0 : Ps := ⟨[(0, (.tb (Sh.int .u8))), (1, (.tb (Sh.int .u8))), (4, .u), (5, (.int .i64)), (10, .u), (14, .u), (25, .u)], []⟩
def Q23_0 : Nat → Ps
  | 0 => ⟨[(0, .u), (1, .u), (4, .u), (5, .u), (10, .u), (14, .u), (25, .u)], []⟩
  | _ => noPs
def u23_0 (N n : Nat) (v : P23_0.T) (κ : (i : Nat) → (Q23_0 i).T → Option (Sh.bool).T) : Option (Sh.bool).T :=
  L23_0 N (κ 0 (((), ((), ((), ((), ((), ((), ((), ()))))))), ())) n v.1.1 v.1.2.1 v.1.2.2.2.1
def W23_0 (N : Nat) : LoopF (Sh.bool).T := fun no =>
  match no with
  | _ => fun _ _ => none
theorem b23_0 (N n : Nat) (v : P23_0.T) (κ : (i : Nat) → (Q23_0 i).T → Option (Sh.bool).T) :
    evc (T23) (rawOf RW0) (W23_0 N) (retc k23.res Sh.bool) (modeOf FT) 0 fuelC (bodyOf (loopN k23 0)) (P23_0.st v) (roundK 0 H23_0 P23_0 Q23_0 (u23_0 N n) κ) = u23_0 N (n + 1) v κ := by kernel_rfl
theorem o23_0 (hT : TabOK FT XT (T23)) (hO : RawOK FT XT (rawOf (α := (Sh.bool).T) RW0)) (N : Nat) {s : St} {κ : Ex → St → Option (Sh.bool).T} {a : (Sh.bool).T} (h : lpOf 0 H23_0 P23_0 Q23_0 (u23_0 N N) s κ = some a) : Out FT XT 0 (retc k23.res Sh.bool) (loopN k23 0) s κ a := by
  rw [l23_0]
  exact loop_out (LP := W23_0 N) (fu := fuelC) hT hO (fun _ _ => rfl) (b23_0 N) loopOK_nil N h
def W23 (N : Nat) : LoopF (Sh.bool).T := fun no =>
  match no with
  | 0 => lpOf 0 H23_0 P23_0 Q23_0 (u23_0 N N)
  | _ => fun _ _ => none
theorem e23 (N : Nat) (a0 : List Int) (a1 : List Int) : evc (T23) (rawOf RW0) (W23 N) (retc k23.res Sh.bool) (modeOf FT) 0 fuelC k23.body (env0 k23 (encL [(Sh.sl (Sh.int .u8)), (Sh.sl (Sh.int .u8))] (a0, (a1, ()))), []) (endK (retc k23.res Sh.bool)) = p23 N a0 a1 := by kernel_rfl
theorem ok23 {f : List Int → List Int → Option Bool} (hf : ∀ a0 a1 r, f a0 a1 = some r → ∃ N, p23 N a0 a1 = some r) : EntOK FT XT 23 (en23 f) := by
  have hT : TabOK FT XT (T23) := by
    intro g en hg
    unfold T23 at hg
    split at hg <;> first | (injection hg with hg; subst hg; assumption) | cases hg
  have hO0 : RawOK FT XT (rawOf (α := (Sh.bool).T) RW0) := rawOK0
  have hO : RawOK FT XT (rawOf (α := (Sh.bool).T) RW0) := hO0
  refine ⟨rfl, fun v r h => ?_⟩
  obtain ⟨a0, a1, _⟩ := v
  obtain ⟨N, h1⟩ := hf _ _ _ h
  exact ans_c (R := Sh.bool) (tab := T23) (raw := (rawOf RW0)) (LP := W23 N) (fu := fuelC) hT hO rfl rfl (Nat.le_of_ble_eq_true rfl) (loopOK_cons l23_0 (fun s κ a h => o23_0 hT hO N h) loopOK_nil) ((e23 N _ _).trans h1)

def T46 (c1 : List (List Int) → Option (List Int)) : Nat → Option Ent
  | 1 => some (en1 c1)
  | _ => none
def W46 (c1 : List (List Int) → Option (List Int)) (N : Nat) : LoopF (List Int) := fun no =>
  match no with
  | _ => fun _ _ => none
theorem e46 (c1 : List (List Int) → Option (List Int)) (N : Nat) (a0 : List (List Int)) : evc (T46 c1) (rawOf RW0) (W46 c1 N) (reto k46.res .u8) (modeOf FT) 0 fuelC k46.body (env0 k46 (encL [(Sh.sl (Sh.sl (Sh.int .u8)))] (a0, ())), []) (endK (reto k46.res .u8)) = p46 c1 N a0 := by kernel_rfl
theorem ok46 (c1 : List (List Int) → Option (List Int)) (h1 : EntOK FT XT 1 (en1 c1)) {f : List (List Int) → Option (List Int)} (hf : ∀ a0 r, f a0 = some r → ∃ N, p46 c1 N a0 = some r) : EntOK FT XT 46 (en46 f) := by
  have hT : TabOK FT XT (T46 c1) := by
    intro g en hg
    unfold T46 at hg
    split at hg <;> first | (injection hg with hg; subst hg; assumption) | cases hg
  have hO0 : RawOK FT XT (rawOf (α := List Int) RW0) := rawOK0
  have hO : RawOK FT XT (rawOf (α := List Int) RW0) := hO0
  refine ⟨rfl, fun v r h => ?_⟩
  obtain ⟨a0, _⟩ := v
  obtain ⟨N, h1⟩ := hf _ _ h
  exact ans_o (tab := T46 c1) (raw := (rawOf RW0)) (LP := W46 c1 N) (fu := fuelC) hT hO rfl rfl (Nat.le_of_ble_eq_true rfl) loopOK_nil ((e46 c1 N _).trans h1)

def T47 : Nat → Option Ent
  | _ => none
def H47_0 : Trim := ⟨0, [], false, [1, 5, 13, 14, 15], []⟩
theorem l47_0 : loopN k47 0 = .loop H47_0 (bodyOf (loopN k47 0)) := by kernel_rfl
def P47_0 : Ps := ⟨[(0, .u), (1, (.tb (Sh.int .u8))), (4, .u), (5, (.int .u8)), (6, .u), (7, .u), (12, .u), (13, (.tb (Sh.int .u8))), (14, (.int .i64)), (15, (.int .i64)), (16, .u)], []⟩
def Q47_0 : Nat → Ps
  | 0 => ⟨[(0, .u), (1, .u), (4, .u), (5, (.int .u8)), (6, .u), (7, .u), (12, .u), (13, .u), (14, .u), (15, .u), (16, .u)], []⟩
  | _ => noPs
def u47_0 (N n : Nat) (v : P47_0.T) (κ : (i : Nat) → (Q47_0 i).T → Option (Sh.bool).T) : Option (Sh.bool).T :=
  L47_0 N (fun (y0 : Int) => κ 0 (((), ((), ((), (y0, ((), ((), ((), ((), ((), ((), ((), ()))))))))))), ())) n v.1.2.1 v.1.2.2.2.1 v.1.2.2.2.2.2.2.2.1 v.1.2.2.2.2.2.2.2.2.1 v.1.2.2.2.2.2.2.2.2.2.1
def W47_0 (N : Nat) : LoopF (Sh.bool).T := fun no =>
  match no with
  | _ => fun _ _ => none
theorem b47_0 (N n : Nat) (v : P47_0.T) (κ : (i : Nat) → (Q47_0 i).T → Option (Sh.bool).T) :
    evc (T47) (rawOf RW0) (W47_0 N) (retc k47.res Sh.bool) (modeOf FT) 0 fuelC (bodyOf (loopN k47 0)) (P47_0.st v) (roundK 0 H47_0 P47_0 Q47_0 (u47_0 N n) κ) = u47_0 N (n + 1) v κ := by kernel_rfl
theorem o47_0 (hT : TabOK FT XT (T47)) (hO : RawOK FT XT (rawOf (α := (Sh.bool).T) RW0)) (N : Nat) {s : St} {κ : Ex → St → Option (Sh.bool).T} {a : (Sh.bool).T} (h : lpOf 0 H47_0 P47_0 Q47_0 (u47_0 N N) s κ = some a) : Out FT XT 0 (retc k47.res Sh.bool) (loopN k47 0) s κ a := by
  rw [l47_0]
  exact loop_out (LP := W47_0 N) (fu := fuelC) hT hO (fun _ _ => rfl) (b47_0 N) loopOK_nil N h
def W47 (N : Nat) : LoopF (Sh.bool).T := fun no =>
  match no with
  | 0 => lpOf 0 H47_0 P47_0 Q47_0 (u47_0 N N)
  | _ => fun _ _ => none
theorem e47 (N : Nat) (a0 : List Int) (a1 : List Int) : evc (T47) (rawOf RW0) (W47 N) (retc k47.res Sh.bool) (modeOf FT) 0 fuelC k47.body (env0 k47 (encL [(Sh.sl (Sh.int .u8)), (Sh.sl (Sh.int .u8))] (a0, (a1, ()))), []) (endK (retc k47.res Sh.bool)) = p47 N a0 a1 := by kernel_rfl
theorem ok47 {f : List Int → List Int → Option Bool} (hf : ∀ a0 a1 r, f a0 a1 = some r → ∃ N, p47 N a0 a1 = some r) : EntOK FT XT 47 (en47 f) := by
  have hT : TabOK FT XT (T47) := by
    intro g en hg
    unfold T47 at hg
    split at hg <;> first | (injection hg with hg; subst hg; assumption) | cases hg
  have hO0 : RawOK FT XT (rawOf (α := (Sh.bool).T) RW0) := rawOK0
  have hO : RawOK FT XT (rawOf (α := (Sh.bool).T) RW0) := hO0
  refine ⟨rfl, fun v r h => ?_⟩
  obtain ⟨a0, a1, _⟩ := v
  obtain ⟨N, h1⟩ := hf _ _ _ h
  exact ans_c (R := Sh.bool) (tab := T47) (raw := (rawOf RW0)) (LP := W47 N) (fu := fuelC) hT hO rfl rfl (Nat.le_of_ble_eq_true rfl) (loopOK_cons l47_0 (fun s κ a h => o47_0 hT hO N h) loopOK_nil) ((e47 N _ _).trans h1)

def T100 : Nat → Option Ent
  | _ => none
def W100 (N : Nat) : LoopF (Sh.bool).T := fun no =>
  match no with
  | _ => fun _ _ => none
theorem e100 (N : Nat) (a0 : Int) (a1 : Int) (a2 : Int) : evc (T100) (rawOf RW0) (W100 N) (retc k100.res Sh.bool) (modeOf FT) 0 fuelC k100.body (env0 k100 (encL [(Sh.int .i64), (Sh.int .i64), (Sh.int .i64)] (a0, (a1, (a2, ())))), []) (endK (retc k100.res Sh.bool)) = p100 N a0 a1 a2 := by kernel_rfl
theorem ok100 {f : Int → Int → Int → Option Bool} (hf : ∀ a0 a1 a2 r, f a0 a1 a2 = some r → ∃ N, p100 N a0 a1 a2 = some r) : EntOK FT XT 100 (en100 f) := by
  have hT : TabOK FT XT (T100) := by
    intro g en hg
    unfold T100 at hg
    split at hg <;> first | (injection hg with hg; subst hg; assumption) | cases hg
  have hO0 : RawOK FT XT (rawOf (α := (Sh.bool).T) RW0) := rawOK0
  have hO : RawOK FT XT (rawOf (α := (Sh.bool).T) RW0) := hO0
  refine ⟨rfl, fun v r h => ?_⟩
  obtain ⟨a0, a1, a2, _⟩ := v
  obtain ⟨N, h1⟩ := hf _ _ _ _ h
  exact ans_c (R := Sh.bool) (tab := T100) (raw := (rawOf RW0)) (LP := W100 N) (fu := fuelC) hT hO rfl rfl (Nat.le_of_ble_eq_true rfl) loopOK_nil ((e100 N _ _ _).trans h1)

def T120 : Nat → Option Ent
  | _ => none
def W120 (N : Nat) : LoopF (((Sh.tu (Sh.pr (Sh.int .u64) (Sh.int .u64)))).T) := fun no =>
  match no with
  | _ => fun _ _ => none
theorem e120 (N : Nat) (a0 : Int) (a1 : Int) : evc (T120) (rawOf RW0) (W120 N) (retc k120.res (Sh.tu (Sh.pr (Sh.int .u64) (Sh.int .u64)))) (modeOf FT) 0 fuelC k120.body (env0 k120 (encL [(Sh.int .u64), (Sh.int .u64)] (a0, (a1, ()))), []) (endK (retc k120.res (Sh.tu (Sh.pr (Sh.int .u64) (Sh.int .u64))))) = p120 N a0 a1 := by kernel_rfl
theorem ok120 {f : Int → Int → Option (Int × Int)} (hf : ∀ a0 a1 r, f a0 a1 = some r → ∃ N, p120 N a0 a1 = some r) : EntOK FT XT 120 (en120 f) := by
  have hT : TabOK FT XT (T120) := by
    intro g en hg
    unfold T120 at hg
    split at hg <;> first | (injection hg with hg; subst hg; assumption) | cases hg
  have hO0 : RawOK FT XT (rawOf (α := ((Sh.tu (Sh.pr (Sh.int .u64) (Sh.int .u64)))).T) RW0) := rawOK0
  have hO : RawOK FT XT (rawOf (α := ((Sh.tu (Sh.pr (Sh.int .u64) (Sh.int .u64)))).T) RW0) := hO0
  refine ⟨rfl, fun v r h => ?_⟩
  obtain ⟨a0, a1, _⟩ := v
  obtain ⟨N, h1⟩ := hf _ _ _ h
  exact ans_c (R := (Sh.tu (Sh.pr (Sh.int .u64) (Sh.int .u64)))) (tab := T120) (raw := (rawOf RW0)) (LP := W120 N) (fu := fuelC) hT hO rfl rfl (Nat.le_of_ble_eq_true rfl) loopOK_nil ((e120 N _ _).trans h1)

def T116 (c120 : Int → Int → Option (Int × Int)) : Nat → Option Ent
  | 120 => some (en120 c120)
  | _ => none
def W116 (c120 : Int → Int → Option (Int × Int)) (N : Nat) : LoopF (Sh.bool).T := fun no =>
  match no with
  | _ => fun _ _ => none
theorem e116 (c120 : Int → Int → Option (Int × Int)) (N : Nat) (a0 : Int) (a1 : Int) (a2 : Int) : evc (T116 c120) (rawOf RW0) (W116 c120 N) (retc k116.res Sh.bool) (modeOf FT) 0 fuelC k116.body (env0 k116 (encL [(Sh.int .u64), (Sh.int .u64), (Sh.int .i64)] (a0, (a1, (a2, ())))), []) (endK (retc k116.res Sh.bool)) = p116 c120 N a0 a1 a2 := by kernel_rfl
theorem ok116 (c120 : Int → Int → Option (Int × Int)) (h120 : EntOK FT XT 120 (en120 c120)) {f : Int → Int → Int → Option Bool} (hf : ∀ a0 a1 a2 r, f a0 a1 a2 = some r → ∃ N, p116 c120 N a0 a1 a2 = some r) : EntOK FT XT 116 (en116 f) := by
  have hT : TabOK FT XT (T116 c120) := by
    intro g en hg
    unfold T116 at hg
    split at hg <;> first | (injection hg with hg; subst hg; assumption) | cases hg
  have hO0 : RawOK FT XT (rawOf (α := (Sh.bool).T) RW0) := rawOK0
  have hO : RawOK FT XT (rawOf (α := (Sh.bool).T) RW0) := hO0
  refine ⟨rfl, fun v r h => ?_⟩
  obtain ⟨a0, a1, a2, _⟩ := v
  obtain ⟨N, h1⟩ := hf _ _ _ _ h
  exact ans_c (R := Sh.bool) (tab := T116 c120) (raw := (rawOf RW0)) (LP := W116 c120 N) (fu := fuelC) hT hO rfl rfl (Nat.le_of_ble_eq_true rfl) loopOK_nil ((e116 c120 N _ _ _).trans h1)

def T115v0 (c116 : Int → Int → Int → Option Bool) : Nat → Option Ent
  | 116 => some (en116 c116)
  | _ => none
def W115v0 (c116 : Int → Int → Int → Option Bool) (N : Nat) : LoopF QR115v0.T := fun no =>
  match no with
  | _ => fun _ _ => none
theorem e115v0 (c116 : Int → Int → Int → Option Bool) (N : Nat) (v : PR115v0.T) : evc (T115v0 c116) (rawOf RW0) (W115v0 c116 N) (retr k115.res 2 QR115v0) (modeOf FT) 2 fuelC k115.body (env0 k115 (PR115v0.a.st v.1), stH PR115v0.h v.2) (endK (retr k115.res 2 QR115v0)) = p115v0 c116 N v.1.1 v.2.1 v.2.2.1 := by kernel_rfl
theorem ok115v0 (c116 : Int → Int → Int → Option Bool) (h116 : EntOK FT XT 116 (en116 c116)) {f : Int → List Int → List Int → Option ((Bool × Unit) × ((List Int) × ((List Int) × Unit)))} (hf : ∀ a0 a1 a2 r, f a0 a1 a2 = some r → ∃ N, p115v0 c116 N a0 a1 a2 = some r) : REntOK FT XT 115 (rn115v0 f) := by
  have hT : TabOK FT XT (T115v0 c116) := by
    intro g en hg
    unfold T115v0 at hg
    split at hg <;> first | (injection hg with hg; subst hg; assumption) | cases hg
  have hO0 : RawOK FT XT (rawOf (α := QR115v0.T) RW0) := rawOK0
  have hO : RawOK FT XT (rawOf (α := QR115v0.T) RW0) := hO0
  intro v r w h hw
  obtain ⟨N, h1⟩ := hf _ _ _ _ h
  exact ans_r (Q := QR115v0) (tab := T115v0 c116) (raw := (rawOf RW0)) (LP := W115v0 c116 N) (fu := fuelC) hT hO rfl rfl (Nat.le_of_ble_eq_true rfl) rfl loopOK_nil ((e115v0 c116 N v).trans h1) hw

def T114v0 (d115v0 : Int → List Int → List Int → Option ((Bool × Unit) × ((List Int) × ((List Int) × Unit)))) : Nat → Option Ent
  | _ => none
def RW114v0 (d115v0 : Int → List Int → List Int → Option ((Bool × Unit) × ((List Int) × ((List Int) × Unit)))) : Nat → List REnt
  | 115 => [rn115v0 d115v0]
  | _ => []
def H114v0_0 : Trim := ⟨0, [], false, [1, 5, 6], []⟩
theorem l114v0_0 : loopN k114 0 = .loop H114v0_0 (bodyOf (loopN k114 0)) := by kernel_rfl
def P114v0_0 : Ps := ⟨[(0, .u), (1, (.fn 115 (.cons (.ptr 0 0) (.cons (.ptr 1 0) .nil)))), (4, .u), (5, (.int .i64)), (6, (.int .i64)), (7, .u), (11, .u), (21, .u)], [(.ints false .i64), (.ints false .i64)]⟩
def Q114v0_0 : Nat → Ps
  | 0 => ⟨[(0, .u), (1, .u), (4, .u), (5, (.int .i64)), (6, .u), (7, .u), (11, .u), (21, .u)], [(.ints false .i64), (.ints false .i64)]⟩
  | _ => noPs
def u114v0_0 (d115v0 : Int → List Int → List Int → Option ((Bool × Unit) × ((List Int) × ((List Int) × Unit)))) (N n : Nat) (v : P114v0_0.T) (κ : (i : Nat) → (Q114v0_0 i).T → Option QR114v0.T) : Option QR114v0.T :=
  L114v0_0 d115v0 N (fun (y0 : Int) (y1 : List Int) (y2 : List Int) => κ 0 (((), ((), ((), (y0, ((), ((), ((), ((), ())))))))), (y1, (y2, ())))) n v.1.2.2.2.1 v.1.2.2.2.2.1 v.2.1 v.2.2.1
def W114v0_0 (d115v0 : Int → List Int → List Int → Option ((Bool × Unit) × ((List Int) × ((List Int) × Unit)))) (N : Nat) : LoopF QR114v0.T := fun no =>
  match no with
  | _ => fun _ _ => none
theorem b114v0_0 (d115v0 : Int → List Int → List Int → Option ((Bool × Unit) × ((List Int) × ((List Int) × Unit)))) (N n : Nat) (v : P114v0_0.T) (κ : (i : Nat) → (Q114v0_0 i).T → Option QR114v0.T) :
    evc (T114v0 d115v0) (rawOf (RW114v0 d115v0)) (W114v0_0 d115v0 N) (retr k114.res 2 QR114v0) (modeOf FT) 2 fuelC (bodyOf (loopN k114 0)) (P114v0_0.st v) (roundK 2 H114v0_0 P114v0_0 Q114v0_0 (u114v0_0 d115v0 N n) κ) = u114v0_0 d115v0 N (n + 1) v κ := by kernel_rfl
theorem o114v0_0 (d115v0 : Int → List Int → List Int → Option ((Bool × Unit) × ((List Int) × ((List Int) × Unit)))) (hT : TabOK FT XT (T114v0 d115v0)) (hO : RawOK FT XT (rawOf (α := QR114v0.T) (RW114v0 d115v0))) (N : Nat) {s : St} {κ : Ex → St → Option QR114v0.T} {a : QR114v0.T} (h : lpOf 2 H114v0_0 P114v0_0 Q114v0_0 (u114v0_0 d115v0 N N) s κ = some a) : Out FT XT 2 (retr k114.res 2 QR114v0) (loopN k114 0) s κ a := by
  rw [l114v0_0]
  exact loop_out (LP := W114v0_0 d115v0 N) (fu := fuelC) hT hO (fun _ _ => rfl) (b114v0_0 d115v0 N) loopOK_nil N h
def W114v0 (d115v0 : Int → List Int → List Int → Option ((Bool × Unit) × ((List Int) × ((List Int) × Unit)))) (N : Nat) : LoopF QR114v0.T := fun no =>
  match no with
  | 0 => lpOf 2 H114v0_0 P114v0_0 Q114v0_0 (u114v0_0 d115v0 N N)
  | _ => fun _ _ => none
theorem e114v0 (d115v0 : Int → List Int → List Int → Option ((Bool × Unit) × ((List Int) × ((List Int) × Unit)))) (N : Nat) (v : PR114v0.T) : evc (T114v0 d115v0) (rawOf (RW114v0 d115v0)) (W114v0 d115v0 N) (retr k114.res 2 QR114v0) (modeOf FT) 2 fuelC k114.body (env0 k114 (PR114v0.a.st v.1), stH PR114v0.h v.2) (endK (retr k114.res 2 QR114v0)) = p114v0 d115v0 N v.1.1 v.2.1 v.2.2.1 := by kernel_rfl
theorem ok114v0 (d115v0 : Int → List Int → List Int → Option ((Bool × Unit) × ((List Int) × ((List Int) × Unit)))) (h115v0 : REntOK FT XT 115 (rn115v0 d115v0)) {f : Int → List Int → List Int → Option ((Int × Unit) × ((List Int) × ((List Int) × Unit)))} (hf : ∀ a0 a1 a2 r, f a0 a1 a2 = some r → ∃ N, p114v0 d115v0 N a0 a1 a2 = some r) : REntOK FT XT 114 (rn114v0 f) := by
  have hT : TabOK FT XT (T114v0 d115v0) := by
    intro g en hg
    unfold T114v0 at hg
    split at hg <;> first | (injection hg with hg; subst hg; assumption) | cases hg
  have hO0 : RawOK FT XT (rawOf (α := QR114v0.T) (RW114v0 d115v0)) := by
    refine rawOf_ok (fun g en hg => ?_)
    unfold RW114v0 at hg
    split at hg <;> simp only [List.mem_cons, List.not_mem_nil, or_false] at hg <;> first | (subst hg; assumption) | (rcases hg with rfl | rfl <;> assumption) | (rcases hg with rfl | rfl | rfl <;> assumption) | (rcases hg with rfl | rfl | rfl | rfl <;> assumption)
  have hO : RawOK FT XT (rawOf (α := QR114v0.T) (RW114v0 d115v0)) := hO0
  intro v r w h hw
  obtain ⟨N, h1⟩ := hf _ _ _ _ h
  exact ans_r (Q := QR114v0) (tab := T114v0 d115v0) (raw := (rawOf (RW114v0 d115v0))) (LP := W114v0 d115v0 N) (fu := fuelC) hT hO rfl rfl (Nat.le_of_ble_eq_true rfl) rfl (loopOK_cons l114v0_0 (fun s κ a h => o114v0_0 d115v0 hT hO N h) loopOK_nil) ((e114v0 d115v0 N v).trans h1) hw

def T101 (d114v0 : Int → List Int → List Int → Option ((Int × Unit) × ((List Int) × ((List Int) × Unit)))) : Nat → Option Ent
  | _ => none
def RW101 (d114v0 : Int → List Int → List Int → Option ((Int × Unit) × ((List Int) × ((List Int) × Unit)))) : Nat → List REnt
  | 114 => [rn114v0 d114v0]
  | _ => []
def W101 (d114v0 : Int → List Int → List Int → Option ((Int × Unit) × ((List Int) × ((List Int) × Unit)))) (N : Nat) : LoopF (((Sh.int .u64)).T) := fun no =>
  match no with
  | _ => fun _ _ => none
theorem e101 (d114v0 : Int → List Int → List Int → Option ((Int × Unit) × ((List Int) × ((List Int) × Unit)))) (N : Nat) (a0 : Int) (a1 : Int) : evc (T101 d114v0) (rawOf (RW101 d114v0)) (W101 d114v0 N) (retc k101.res (Sh.int .u64)) (modeOf FT) 0 fuelC k101.body (env0 k101 (encL [(Sh.int .i64), (Sh.int .i64)] (a0, (a1, ()))), []) (endK (retc k101.res (Sh.int .u64))) = p101 d114v0 N a0 a1 := by kernel_rfl
theorem ok101 (d114v0 : Int → List Int → List Int → Option ((Int × Unit) × ((List Int) × ((List Int) × Unit)))) (h114v0 : REntOK FT XT 114 (rn114v0 d114v0)) {f : Int → Int → Option Int} (hf : ∀ a0 a1 r, f a0 a1 = some r → ∃ N, p101 d114v0 N a0 a1 = some r) : EntOK FT XT 101 (en101 f) := by
  have hT : TabOK FT XT (T101 d114v0) := by
    intro g en hg
    unfold T101 at hg
    split at hg <;> first | (injection hg with hg; subst hg; assumption) | cases hg
  have hO0 : RawOK FT XT (rawOf (α := ((Sh.int .u64)).T) (RW101 d114v0)) := by
    refine rawOf_ok (fun g en hg => ?_)
    unfold RW101 at hg
    split at hg <;> simp only [List.mem_cons, List.not_mem_nil, or_false] at hg <;> first | (subst hg; assumption) | (rcases hg with rfl | rfl <;> assumption) | (rcases hg with rfl | rfl | rfl <;> assumption) | (rcases hg with rfl | rfl | rfl | rfl <;> assumption)
  have hO : RawOK FT XT (rawOf (α := ((Sh.int .u64)).T) (RW101 d114v0)) := hO0
  refine ⟨rfl, fun v r h => ?_⟩
  obtain ⟨a0, a1, _⟩ := v
  obtain ⟨N, h1⟩ := hf _ _ _ h
  exact ans_c (R := (Sh.int .u64)) (tab := T101 d114v0) (raw := (rawOf (RW101 d114v0))) (LP := W101 d114v0 N) (fu := fuelC) hT hO rfl rfl (Nat.le_of_ble_eq_true rfl) loopOK_nil ((e101 d114v0 N _ _).trans h1)

def T75 (c100 : Int → Int → Int → Option Bool) (c101 : Int → Int → Option Int) : Nat → Option Ent
  | 100 => some (en100 c100)
  | 101 => some (en101 c101)
  | _ => none
def W75 (c100 : Int → Int → Int → Option Bool) (c101 : Int → Int → Option Int) (N : Nat) : LoopF (((Sh.tu (Sh.pr (Sh.int .u64) (Sh.int .i64)))).T) := fun no =>
  match no with
  | _ => fun _ _ => none
theorem e75 (c100 : Int → Int → Int → Option Bool) (c101 : Int → Int → Option Int) (N : Nat) (a0 : Int) (a1 : Int) (a2 : Int) : evc (T75 c100 c101) (rawOf RW0) (W75 c100 c101 N) (retc k75.res (Sh.tu (Sh.pr (Sh.int .u64) (Sh.int .i64)))) (modeOf FT) 0 fuelC k75.body (env0 k75 (encL [(Sh.int .i64), (Sh.int .i64), (Sh.int .i64)] (a0, (a1, (a2, ())))), []) (endK (retc k75.res (Sh.tu (Sh.pr (Sh.int .u64) (Sh.int .i64))))) = p75 c100 c101 N a0 a1 a2 := by kernel_rfl
theorem ok75 (c100 : Int → Int → Int → Option Bool) (c101 : Int → Int → Option Int) (h100 : EntOK FT XT 100 (en100 c100)) (h101 : EntOK FT XT 101 (en101 c101)) {f : Int → Int → Int → Option (Int × Int)} (hf : ∀ a0 a1 a2 r, f a0 a1 a2 = some r → ∃ N, p75 c100 c101 N a0 a1 a2 = some r) : EntOK FT XT 75 (en75 f) := by
  have hT : TabOK FT XT (T75 c100 c101) := by
    intro g en hg
    unfold T75 at hg
    split at hg <;> first | (injection hg with hg; subst hg; assumption) | cases hg
  have hO0 : RawOK FT XT (rawOf (α := ((Sh.tu (Sh.pr (Sh.int .u64) (Sh.int .i64)))).T) RW0) := rawOK0
  have hO : RawOK FT XT (rawOf (α := ((Sh.tu (Sh.pr (Sh.int .u64) (Sh.int .i64)))).T) RW0) := hO0
  refine ⟨rfl, fun v r h => ?_⟩
  obtain ⟨a0, a1, a2, _⟩ := v
  obtain ⟨N, h1⟩ := hf _ _ _ _ h
  exact ans_c (R := (Sh.tu (Sh.pr (Sh.int .u64) (Sh.int .i64)))) (tab := T75 c100 c101) (raw := (rawOf RW0)) (LP := W75 c100 c101 N) (fu := fuelC) hT hO rfl rfl (Nat.le_of_ble_eq_true rfl) loopOK_nil ((e75 c100 c101 N _ _ _).trans h1)

def T78 (c75 : Int → Int → Int → Option (Int × Int)) : Nat → Option Ent
  | 75 => some (en75 c75)
  | _ => none
def W78 (c75 : Int → Int → Int → Option (Int × Int)) (N : Nat) : LoopF (((Sh.int .u32)).T) := fun no =>
  match no with
  | _ => fun _ _ => none
theorem e78 (c75 : Int → Int → Int → Option (Int × Int)) (N : Nat) (a0 : Int) (a1 : Int) : evc (T78 c75) (rawOf RW0) (W78 c75 N) (retc k78.res (Sh.int .u32)) (modeOf FT) 0 fuelC k78.body (env0 k78 (encL [(Sh.int .i64), (Sh.int .i64)] (a0, (a1, ()))), []) (endK (retc k78.res (Sh.int .u32))) = p78 c75 N a0 a1 := by kernel_rfl
theorem ok78 (c75 : Int → Int → Int → Option (Int × Int)) (h75 : EntOK FT XT 75 (en75 c75)) {f : Int → Int → Option Int} (hf : ∀ a0 a1 r, f a0 a1 = some r → ∃ N, p78 c75 N a0 a1 = some r) : EntOK FT XT 78 (en78 f) := by
  have hT : TabOK FT XT (T78 c75) := by
    intro g en hg
    unfold T78 at hg
    split at hg <;> first | (injection hg with hg; subst hg; assumption) | cases hg
  have hO0 : RawOK FT XT (rawOf (α := ((Sh.int .u32)).T) RW0) := rawOK0
  have hO : RawOK FT XT (rawOf (α := ((Sh.int .u32)).T) RW0) := hO0
  refine ⟨rfl, fun v r h => ?_⟩
  obtain ⟨a0, a1, _⟩ := v
  obtain ⟨N, h1⟩ := hf _ _ _ h
  exact ans_c (R := (Sh.int .u32)) (tab := T78 c75) (raw := (rawOf RW0)) (LP := W78 c75 N) (fu := fuelC) hT hO rfl rfl (Nat.le_of_ble_eq_true rfl) loopOK_nil ((e78 c75 N _ _).trans h1)

def T81 : Nat → Option Ent
  | _ => none
def H81_1 : Trim := ⟨1, [], false, [0, 3, 4, 17, 18, 19], []⟩
theorem l81_1 : loopN k81 1 = .loop H81_1 (bodyOf (loopN k81 1)) := by kernel_rfl
def P81_1 : Ps := ⟨[(0, (.int .i64)), (2, .u), (3, (.sl 0 1)), (4, (.int .i64)), (6, .u), (14, .u), (17, (.sl 0 1)), (18, (.int .i64)), (19, (.int .i64)), (20, .u), (26, .u)], [(.ints false .i64)]⟩
def Q81_1 : Nat → Ps
  | 1 => ⟨[(0, (.int .i64)), (2, .u), (3, (.sl 0 1)), (4, (.int .i64)), (6, .u), (14, .u), (17, .u), (18, .u), (19, .u), (20, .u), (26, .u)], [(.ints false .i64)]⟩
  | 2 => ⟨[(0, (.int .i64)), (2, .u), (3, (.sl 0 1)), (4, (.int .i64)), (6, .u), (14, .u), (17, .u), (18, .u), (19, .u), (20, .u), (26, .u)], [(.ints false .i64)]⟩
  | _ => noPs
def u81_1 (N n : Nat) (v : P81_1.T) (κ : (i : Nat) → (Q81_1 i).T → Option (((Sh.sl (Sh.int .i64))).T)) : Option (((Sh.sl (Sh.int .i64))).T) :=
  L81_1 N (fun (y0 : Int) (y1 : Nat) (y2 : Int) (y3 : List Int) => κ 1 ((y0, ((), (y1, (y2, ((), ((), ((), ((), ((), ((), ((), ()))))))))))), (y3, ()))) (fun (y0 : Int) (y1 : Nat) (y2 : Int) (y3 : List Int) => κ 2 ((y0, ((), (y1, (y2, ((), ((), ((), ((), ((), ((), ((), ()))))))))))), (y3, ()))) n v.1.1 v.1.2.2.1 v.1.2.2.2.1 v.1.2.2.2.2.2.2.1 v.1.2.2.2.2.2.2.2.1 v.1.2.2.2.2.2.2.2.2.1 v.2.1
def W81_1 (N : Nat) : LoopF (((Sh.sl (Sh.int .i64))).T) := fun no =>
  match no with
  | _ => fun _ _ => none
theorem b81_1 (N n : Nat) (v : P81_1.T) (κ : (i : Nat) → (Q81_1 i).T → Option (((Sh.sl (Sh.int .i64))).T)) :
    evc (T81) (rawOf RW0) (W81_1 N) (retc k81.res (Sh.sl (Sh.int .i64))) (modeOf FT) 0 fuelC (bodyOf (loopN k81 1)) (P81_1.st v) (roundK 0 H81_1 P81_1 Q81_1 (u81_1 N n) κ) = u81_1 N (n + 1) v κ := by kernel_rfl
theorem o81_1 (hT : TabOK FT XT (T81)) (hO : RawOK FT XT (rawOf (α := ((Sh.sl (Sh.int .i64))).T) RW0)) (N : Nat) {s : St} {κ : Ex → St → Option (((Sh.sl (Sh.int .i64))).T)} {a : ((Sh.sl (Sh.int .i64))).T} (h : lpOf 0 H81_1 P81_1 Q81_1 (u81_1 N N) s κ = some a) : Out FT XT 0 (retc k81.res (Sh.sl (Sh.int .i64))) (loopN k81 1) s κ a := by
  rw [l81_1]
  exact loop_out (LP := W81_1 N) (fu := fuelC) hT hO (fun _ _ => rfl) (b81_1 N) loopOK_nil N h
def H81_0 : Trim := ⟨0, [], false, [0, 3, 4], [(3, (.ints .i64 []), 1)]⟩
theorem l81_0 : loopN k81 0 = .loop H81_0 (bodyOf (loopN k81 0)) := by kernel_rfl
def P81_0 : Ps := ⟨[(0, (.int .i64)), (2, .u), (3, (.sl 0 1)), (4, (.int .i64)), (6, .u), (14, .u), (17, .u), (18, .u), (19, .u), (20, .u), (26, .u)], [(.ints false .i64)]⟩
def Q81_0 : Nat → Ps
  | 0 => ⟨[(0, .u), (2, .u), (3, (.sl 0 1)), (4, .u), (6, .u), (14, .u), (17, .u), (18, .u), (19, .u), (20, .u), (26, .u)], [(.ints false .i64)]⟩
  | _ => noPs
def u81_0 (N n : Nat) (v : P81_0.T) (κ : (i : Nat) → (Q81_0 i).T → Option (((Sh.sl (Sh.int .i64))).T)) : Option (((Sh.sl (Sh.int .i64))).T) :=
  L81_0 N (fun (y0 : Nat) (y1 : List Int) => κ 0 (((), ((), (y0, ((), ((), ((), ((), ((), ((), ((), ((), ()))))))))))), (y1, ()))) n v.1.1 v.1.2.2.1 v.1.2.2.2.1 v.2.1
def W81_0 (N : Nat) : LoopF (((Sh.sl (Sh.int .i64))).T) := fun no =>
  match no with
  | 1 => lpOf 0 H81_1 P81_1 Q81_1 (u81_1 N N)
  | _ => fun _ _ => none
theorem b81_0 (N n : Nat) (v : P81_0.T) (κ : (i : Nat) → (Q81_0 i).T → Option (((Sh.sl (Sh.int .i64))).T)) :
    evc (T81) (rawOf RW0) (W81_0 N) (retc k81.res (Sh.sl (Sh.int .i64))) (modeOf FT) 0 fuelC (bodyOf (loopN k81 0)) (P81_0.st v) (roundK 0 H81_0 P81_0 Q81_0 (u81_0 N n) κ) = u81_0 N (n + 1) v κ := by kernel_rfl
theorem o81_0 (hT : TabOK FT XT (T81)) (hO : RawOK FT XT (rawOf (α := ((Sh.sl (Sh.int .i64))).T) RW0)) (N : Nat) {s : St} {κ : Ex → St → Option (((Sh.sl (Sh.int .i64))).T)} {a : ((Sh.sl (Sh.int .i64))).T} (h : lpOf 0 H81_0 P81_0 Q81_0 (u81_0 N N) s κ = some a) : Out FT XT 0 (retc k81.res (Sh.sl (Sh.int .i64))) (loopN k81 0) s κ a := by
  rw [l81_0]
  exact loop_out (LP := W81_0 N) (fu := fuelC) hT hO (fun _ _ => rfl) (b81_0 N) (loopOK_cons l81_1 (fun s κ a h => o81_1 hT hO N h) loopOK_nil) N h
def W81 (N : Nat) : LoopF (((Sh.sl (Sh.int .i64))).T) := fun no =>
  match no with
  | 0 => lpOf 0 H81_0 P81_0 Q81_0 (u81_0 N N)
  | _ => fun _ _ => none
theorem e81 (N : Nat) (a0 : Int) : evc (T81) (rawOf RW0) (W81 N) (retc k81.res (Sh.sl (Sh.int .i64))) (modeOf FT) 0 fuelC k81.body (env0 k81 (encL [(Sh.int .i64)] (a0, ())), []) (endK (retc k81.res (Sh.sl (Sh.int .i64)))) = p81 N a0 := by kernel_rfl
theorem ok81 {f : Int → Option (List Int)} (hf : ∀ a0 r, f a0 = some r → ∃ N, p81 N a0 = some r) : EntOK FT XT 81 (en81 f) := by
  have hT : TabOK FT XT (T81) := by
    intro g en hg
    unfold T81 at hg
    split at hg <;> first | (injection hg with hg; subst hg; assumption) | cases hg
  have hO0 : RawOK FT XT (rawOf (α := ((Sh.sl (Sh.int .i64))).T) RW0) := rawOK0
  have hO : RawOK FT XT (rawOf (α := ((Sh.sl (Sh.int .i64))).T) RW0) := hO0
  refine ⟨rfl, fun v r h => ?_⟩
  obtain ⟨a0, _⟩ := v
  obtain ⟨N, h1⟩ := hf _ _ h
  exact ans_c (R := (Sh.sl (Sh.int .i64))) (tab := T81) (raw := (rawOf RW0)) (LP := W81 N) (fu := fuelC) hT hO rfl rfl (Nat.le_of_ble_eq_true rfl) (loopOK_cons l81_0 (fun s κ a h => o81_0 hT hO N h) loopOK_nil) ((e81 N _).trans h1)

def T83 (c81 : Int → Option (List Int)) (c78 : Int → Int → Option Int) : Nat → Option Ent
  | 81 => some (en81 c81)
  | 78 => some (en78 c78)
  | _ => none
def H83_0 : Trim := ⟨0, [], false, [1, 5, 9, 10, 11], [(5, (.ints .u32 []), 1)]⟩
theorem l83_0 : loopN k83 0 = .loop H83_0 (bodyOf (loopN k83 0)) := by kernel_rfl
def P83_0 : Ps := ⟨[(0, .u), (1, (.int .i64)), (4, .u), (5, (.sl 0 1)), (7, .u), (9, (.tb (Sh.int .i64))), (10, (.int .i64)), (11, (.int .i64)), (12, .u)], [(.ints false .u32)]⟩
def Q83_0 : Nat → Ps
  | 0 => ⟨[(0, .u), (1, .u), (4, .u), (5, (.sl 0 1)), (7, .u), (9, .u), (10, .u), (11, .u), (12, .u)], [(.ints false .u32)]⟩
  | _ => noPs
def u83_0 (c81 : Int → Option (List Int)) (c78 : Int → Int → Option Int) (N n : Nat) (v : P83_0.T) (κ : (i : Nat) → (Q83_0 i).T → Option (((Sh.sl (Sh.int .u32))).T)) : Option (((Sh.sl (Sh.int .u32))).T) :=
  L83_0 c81 c78 N (fun (y0 : Nat) (y1 : List Int) => κ 0 (((), ((), ((), (y0, ((), ((), ((), ((), ((), ()))))))))), (y1, ()))) n v.1.2.1 v.1.2.2.2.1 v.1.2.2.2.2.2.1 v.1.2.2.2.2.2.2.1 v.1.2.2.2.2.2.2.2.1 v.2.1
def W83_0 (c81 : Int → Option (List Int)) (c78 : Int → Int → Option Int) (N : Nat) : LoopF (((Sh.sl (Sh.int .u32))).T) := fun no =>
  match no with
  | _ => fun _ _ => none
theorem b83_0 (c81 : Int → Option (List Int)) (c78 : Int → Int → Option Int) (N n : Nat) (v : P83_0.T) (κ : (i : Nat) → (Q83_0 i).T → Option (((Sh.sl (Sh.int .u32))).T)) :
    evc (T83 c81 c78) (rawOf RW0) (W83_0 c81 c78 N) (retc k83.res (Sh.sl (Sh.int .u32))) (modeOf FT) 0 fuelC (bodyOf (loopN k83 0)) (P83_0.st v) (roundK 0 H83_0 P83_0 Q83_0 (u83_0 c81 c78 N n) κ) = u83_0 c81 c78 N (n + 1) v κ := by kernel_rfl
theorem o83_0 (c81 : Int → Option (List Int)) (c78 : Int → Int → Option Int) (hT : TabOK FT XT (T83 c81 c78)) (hO : RawOK FT XT (rawOf (α := ((Sh.sl (Sh.int .u32))).T) RW0)) (N : Nat) {s : St} {κ : Ex → St → Option (((Sh.sl (Sh.int .u32))).T)} {a : ((Sh.sl (Sh.int .u32))).T} (h : lpOf 0 H83_0 P83_0 Q83_0 (u83_0 c81 c78 N N) s κ = some a) : Out FT XT 0 (retc k83.res (Sh.sl (Sh.int .u32))) (loopN k83 0) s κ a := by
  rw [l83_0]
  exact loop_out (LP := W83_0 c81 c78 N) (fu := fuelC) hT hO (fun _ _ => rfl) (b83_0 c81 c78 N) loopOK_nil N h
def W83 (c81 : Int → Option (List Int)) (c78 : Int → Int → Option Int) (N : Nat) : LoopF (((Sh.sl (Sh.int .u32))).T) := fun no =>
  match no with
  | 0 => lpOf 0 H83_0 P83_0 Q83_0 (u83_0 c81 c78 N N)
  | _ => fun _ _ => none
theorem e83 (c81 : Int → Option (List Int)) (c78 : Int → Int → Option Int) (N : Nat) (a0 : Int) (a1 : Int) : evc (T83 c81 c78) (rawOf RW0) (W83 c81 c78 N) (retc k83.res (Sh.sl (Sh.int .u32))) (modeOf FT) 0 fuelC k83.body (env0 k83 (encL [(Sh.int .i64), (Sh.int .i64)] (a0, (a1, ()))), []) (endK (retc k83.res (Sh.sl (Sh.int .u32)))) = p83 c81 c78 N a0 a1 := by kernel_rfl
theorem ok83 (c81 : Int → Option (List Int)) (c78 : Int → Int → Option Int) (h81 : EntOK FT XT 81 (en81 c81)) (h78 : EntOK FT XT 78 (en78 c78)) {f : Int → Int → Option (List Int)} (hf : ∀ a0 a1 r, f a0 a1 = some r → ∃ N, p83 c81 c78 N a0 a1 = some r) : EntOK FT XT 83 (en83 f) := by
  have hT : TabOK FT XT (T83 c81 c78) := by
    intro g en hg
    unfold T83 at hg
    split at hg <;> first | (injection hg with hg; subst hg; assumption) | cases hg
  have hO0 : RawOK FT XT (rawOf (α := ((Sh.sl (Sh.int .u32))).T) RW0) := rawOK0
  have hO : RawOK FT XT (rawOf (α := ((Sh.sl (Sh.int .u32))).T) RW0) := hO0
  refine ⟨rfl, fun v r h => ?_⟩
  obtain ⟨a0, a1, _⟩ := v
  obtain ⟨N, h1⟩ := hf _ _ _ h
  exact ans_c (R := (Sh.sl (Sh.int .u32))) (tab := T83 c81 c78) (raw := (rawOf RW0)) (LP := W83 c81 c78 N) (fu := fuelC) hT hO rfl rfl (Nat.le_of_ble_eq_true rfl) (loopOK_cons l83_0 (fun s κ a h => o83_0 c81 c78 hT hO N h) loopOK_nil) ((e83 c81 c78 N _ _).trans h1)

def T177 : Nat → Option Ent
  | _ => none
def H177_1 : Trim := ⟨1, [], false, [3, 4, 5], []⟩
theorem l177_1 : loopN k177 1 = .loop H177_1 (bodyOf (loopN k177 1)) := by kernel_rfl
def P177_1 : Ps := ⟨[(0, .u), (2, .u), (3, (.sl 0 1)), (4, (.int .u64)), (5, (.int .i64)), (13, .u), (20, .u)], [(.ints false .u8)]⟩
def Q177_1 : Nat → Ps
  | 2 => ⟨[(0, .u), (2, .u), (3, (.sl 0 1)), (4, .u), (5, .u), (13, .u), (20, .u)], [(.ints false .u8)]⟩
  | _ => noPs
def u177_1 (N n : Nat) (v : P177_1.T) (κ : (i : Nat) → (Q177_1 i).T → Option (((Sh.sl (Sh.int .u8))).T)) : Option (((Sh.sl (Sh.int .u8))).T) :=
  L177_1 N (fun (y0 : Nat) (y1 : List Int) => κ 2 (((), ((), (y0, ((), ((), ((), ((), ()))))))), (y1, ()))) n v.1.2.2.1 v.1.2.2.2.1 v.1.2.2.2.2.1 v.2.1
def W177_1 (N : Nat) : LoopF (((Sh.sl (Sh.int .u8))).T) := fun no =>
  match no with
  | _ => fun _ _ => none
theorem b177_1 (N n : Nat) (v : P177_1.T) (κ : (i : Nat) → (Q177_1 i).T → Option (((Sh.sl (Sh.int .u8))).T)) :
    evc (T177) (rawOf RW0) (W177_1 N) (retc k177.res (Sh.sl (Sh.int .u8))) (modeOf FT) 0 fuelC (bodyOf (loopN k177 1)) (P177_1.st v) (roundK 0 H177_1 P177_1 Q177_1 (u177_1 N n) κ) = u177_1 N (n + 1) v κ := by kernel_rfl
theorem o177_1 (hT : TabOK FT XT (T177)) (hO : RawOK FT XT (rawOf (α := ((Sh.sl (Sh.int .u8))).T) RW0)) (N : Nat) {s : St} {κ : Ex → St → Option (((Sh.sl (Sh.int .u8))).T)} {a : ((Sh.sl (Sh.int .u8))).T} (h : lpOf 0 H177_1 P177_1 Q177_1 (u177_1 N N) s κ = some a) : Out FT XT 0 (retc k177.res (Sh.sl (Sh.int .u8))) (loopN k177 1) s κ a := by
  rw [l177_1]
  exact loop_out (LP := W177_1 N) (fu := fuelC) hT hO (fun _ _ => rfl) (b177_1 N) loopOK_nil N h
def H177_0 : Trim := ⟨0, [], false, [0, 3], [(3, (.imm []), 1)]⟩
theorem l177_0 : loopN k177 0 = .loop H177_0 (bodyOf (loopN k177 0)) := by kernel_rfl
def P177_0 : Ps := ⟨[(0, (.int .u64)), (2, .u), (3, (.sl 0 1)), (4, .u), (5, .u), (13, .u), (20, .u)], [(.ints false .u8)]⟩
def Q177_0 : Nat → Ps
  | 0 => ⟨[(0, (.int .u64)), (2, .u), (3, (.sl 0 1)), (4, .u), (5, .u), (13, .u), (20, .u)], [(.ints false .u8)]⟩
  | _ => noPs
def u177_0 (N n : Nat) (v : P177_0.T) (κ : (i : Nat) → (Q177_0 i).T → Option (((Sh.sl (Sh.int .u8))).T)) : Option (((Sh.sl (Sh.int .u8))).T) :=
  L177_0 N (fun (y0 : Int) (y1 : Nat) (y2 : List Int) => κ 0 ((y0, ((), (y1, ((), ((), ((), ((), ()))))))), (y2, ()))) n v.1.1 v.1.2.2.1 v.2.1
def W177_0 (N : Nat) : LoopF (((Sh.sl (Sh.int .u8))).T) := fun no =>
  match no with
  | _ => fun _ _ => none
theorem b177_0 (N n : Nat) (v : P177_0.T) (κ : (i : Nat) → (Q177_0 i).T → Option (((Sh.sl (Sh.int .u8))).T)) :
    evc (T177) (rawOf RW0) (W177_0 N) (retc k177.res (Sh.sl (Sh.int .u8))) (modeOf FT) 0 fuelC (bodyOf (loopN k177 0)) (P177_0.st v) (roundK 0 H177_0 P177_0 Q177_0 (u177_0 N n) κ) = u177_0 N (n + 1) v κ := by kernel_rfl
theorem o177_0 (hT : TabOK FT XT (T177)) (hO : RawOK FT XT (rawOf (α := ((Sh.sl (Sh.int .u8))).T) RW0)) (N : Nat) {s : St} {κ : Ex → St → Option (((Sh.sl (Sh.int .u8))).T)} {a : ((Sh.sl (Sh.int .u8))).T} (h : lpOf 0 H177_0 P177_0 Q177_0 (u177_0 N N) s κ = some a) : Out FT XT 0 (retc k177.res (Sh.sl (Sh.int .u8))) (loopN k177 0) s κ a := by
  rw [l177_0]
  exact loop_out (LP := W177_0 N) (fu := fuelC) hT hO (fun _ _ => rfl) (b177_0 N) loopOK_nil N h
def W177 (N : Nat) : LoopF (((Sh.sl (Sh.int .u8))).T) := fun no =>
  match no with
  | 0 => lpOf 0 H177_0 P177_0 Q177_0 (u177_0 N N)
  | 1 => lpOf 0 H177_1 P177_1 Q177_1 (u177_1 N N)
  | _ => fun _ _ => none
theorem e177 (N : Nat) (a0 : Int) : evc (T177) (rawOf RW0) (W177 N) (retc k177.res (Sh.sl (Sh.int .u8))) (modeOf FT) 0 fuelC k177.body (env0 k177 (encL [(Sh.int .u64)] (a0, ())), []) (endK (retc k177.res (Sh.sl (Sh.int .u8)))) = p177 N a0 := by kernel_rfl
theorem ok177 {f : Int → Option (List Int)} (hf : ∀ a0 r, f a0 = some r → ∃ N, p177 N a0 = some r) : EntOK FT XT 177 (en177 f) := by
  have hT : TabOK FT XT (T177) := by
    intro g en hg
    unfold T177 at hg
    split at hg <;> first | (injection hg with hg; subst hg; assumption) | cases hg
  have hO0 : RawOK FT XT (rawOf (α := ((Sh.sl (Sh.int .u8))).T) RW0) := rawOK0
  have hO : RawOK FT XT (rawOf (α := ((Sh.sl (Sh.int .u8))).T) RW0) := hO0
  refine ⟨rfl, fun v r h => ?_⟩
  obtain ⟨a0, _⟩ := v
  obtain ⟨N, h1⟩ := hf _ _ h
  exact ans_c (R := (Sh.sl (Sh.int .u8))) (tab := T177) (raw := (rawOf RW0)) (LP := W177 N) (fu := fuelC) hT hO rfl rfl (Nat.le_of_ble_eq_true rfl) (loopOK_cons l177_0 (fun s κ a h => o177_0 hT hO N h) (loopOK_cons l177_1 (fun s κ a h => o177_1 hT hO N h) loopOK_nil)) ((e177 N _).trans h1)

def T186 (c177 : Int → Option (List Int)) : Nat → Option Ent
  | 177 => some (en177 c177)
  | _ => none
def H186_0 : Trim := ⟨0, [], false, [3, 4, 5, 6], []⟩
theorem l186_0 : loopN k186 0 = .loop H186_0 (bodyOf (loopN k186 0)) := by kernel_rfl
def P186_0 : Ps := ⟨[(0, .u), (2, .u), (3, (.tb (Sh.int .u8))), (4, (.int .i64)), (5, (.sl 0 1)), (6, (.int .i64)), (17, .u)], [(.ints false .u8)]⟩
def Q186_0 : Nat → Ps
  | 0 => ⟨[(0, .u), (2, .u), (3, .u), (4, .u), (5, (.sl 0 1)), (6, .u), (17, .u)], [(.ints false .u8)]⟩
  | _ => noPs
def u186_0 (c177 : Int → Option (List Int)) (N n : Nat) (v : P186_0.T) (κ : (i : Nat) → (Q186_0 i).T → Option (((Sh.sl (Sh.int .u8))).T)) : Option (((Sh.sl (Sh.int .u8))).T) :=
  L186_0 c177 N (fun (y0 : Nat) (y1 : List Int) => κ 0 (((), ((), ((), ((), (y0, ((), ((), ()))))))), (y1, ()))) n v.1.2.2.1 v.1.2.2.2.1 v.1.2.2.2.2.1 v.1.2.2.2.2.2.1 v.2.1
def W186_0 (c177 : Int → Option (List Int)) (N : Nat) : LoopF (((Sh.sl (Sh.int .u8))).T) := fun no =>
  match no with
  | _ => fun _ _ => none
theorem b186_0 (c177 : Int → Option (List Int)) (N n : Nat) (v : P186_0.T) (κ : (i : Nat) → (Q186_0 i).T → Option (((Sh.sl (Sh.int .u8))).T)) :
    evc (T186 c177) (rawOf RW0) (W186_0 c177 N) (retc k186.res (Sh.sl (Sh.int .u8))) (modeOf FT) 0 fuelC (bodyOf (loopN k186 0)) (P186_0.st v) (roundK 0 H186_0 P186_0 Q186_0 (u186_0 c177 N n) κ) = u186_0 c177 N (n + 1) v κ := by kernel_rfl
theorem o186_0 (c177 : Int → Option (List Int)) (hT : TabOK FT XT (T186 c177)) (hO : RawOK FT XT (rawOf (α := ((Sh.sl (Sh.int .u8))).T) RW0)) (N : Nat) {s : St} {κ : Ex → St → Option (((Sh.sl (Sh.int .u8))).T)} {a : ((Sh.sl (Sh.int .u8))).T} (h : lpOf 0 H186_0 P186_0 Q186_0 (u186_0 c177 N N) s κ = some a) : Out FT XT 0 (retc k186.res (Sh.sl (Sh.int .u8))) (loopN k186 0) s κ a := by
  rw [l186_0]
  exact loop_out (LP := W186_0 c177 N) (fu := fuelC) hT hO (fun _ _ => rfl) (b186_0 c177 N) loopOK_nil N h
def W186 (c177 : Int → Option (List Int)) (N : Nat) : LoopF (((Sh.sl (Sh.int .u8))).T) := fun no =>
  match no with
  | 0 => lpOf 0 H186_0 P186_0 Q186_0 (u186_0 c177 N N)
  | _ => fun _ _ => none
theorem e186 (c177 : Int → Option (List Int)) (N : Nat) (a0 : Int) : evc (T186 c177) (rawOf RW0) (W186 c177 N) (retc k186.res (Sh.sl (Sh.int .u8))) (modeOf FT) 0 fuelC k186.body (env0 k186 (encL [(Sh.int .u64)] (a0, ())), []) (endK (retc k186.res (Sh.sl (Sh.int .u8)))) = p186 c177 N a0 := by kernel_rfl
theorem ok186 (c177 : Int → Option (List Int)) (h177 : EntOK FT XT 177 (en177 c177)) {f : Int → Option (List Int)} (hf : ∀ a0 r, f a0 = some r → ∃ N, p186 c177 N a0 = some r) : EntOK FT XT 186 (en186 f) := by
  have hT : TabOK FT XT (T186 c177) := by
    intro g en hg
    unfold T186 at hg
    split at hg <;> first | (injection hg with hg; subst hg; assumption) | cases hg
  have hO0 : RawOK FT XT (rawOf (α := ((Sh.sl (Sh.int .u8))).T) RW0) := rawOK0
  have hO : RawOK FT XT (rawOf (α := ((Sh.sl (Sh.int .u8))).T) RW0) := hO0
  refine ⟨rfl, fun v r h => ?_⟩
  obtain ⟨a0, _⟩ := v
  obtain ⟨N, h1⟩ := hf _ _ h
  exact ans_c (R := (Sh.sl (Sh.int .u8))) (tab := T186 c177) (raw := (rawOf RW0)) (LP := W186 c177 N) (fu := fuelC) hT hO rfl rfl (Nat.le_of_ble_eq_true rfl) (loopOK_cons l186_0 (fun s κ a h => o186_0 c177 hT hO N h) loopOK_nil) ((e186 c177 N _).trans h1)

def T195 : Nat → Option Ent
  | _ => none
def W195 (N : Nat) : LoopF (((Sh.int .u32)).T) := fun no =>
  match no with
  | _ => fun _ _ => none
theorem e195 (N : Nat) (a0 : Int) (a1 : Int) : evc (T195) (rawOf RW0) (W195 N) (retc k195.res (Sh.int .u32)) (modeOf FT) 0 fuelC k195.body (env0 k195 (encL [(Sh.int .u32), (Sh.int .i64)] (a0, (a1, ()))), []) (endK (retc k195.res (Sh.int .u32))) = p195 N a0 a1 := by kernel_rfl
theorem ok195 {f : Int → Int → Option Int} (hf : ∀ a0 a1 r, f a0 a1 = some r → ∃ N, p195 N a0 a1 = some r) : EntOK FT XT 195 (en195 f) := by
  have hT : TabOK FT XT (T195) := by
    intro g en hg
    unfold T195 at hg
    split at hg <;> first | (injection hg with hg; subst hg; assumption) | cases hg
  have hO0 : RawOK FT XT (rawOf (α := ((Sh.int .u32)).T) RW0) := rawOK0
  have hO : RawOK FT XT (rawOf (α := ((Sh.int .u32)).T) RW0) := hO0
  refine ⟨rfl, fun v r h => ?_⟩
  obtain ⟨a0, a1, _⟩ := v
  obtain ⟨N, h1⟩ := hf _ _ _ h
  exact ans_c (R := (Sh.int .u32)) (tab := T195) (raw := (rawOf RW0)) (LP := W195 N) (fu := fuelC) hT hO rfl rfl (Nat.le_of_ble_eq_true rfl) loopOK_nil ((e195 N _ _).trans h1)

def T217 (c19 : Int → Int → Bool → Option ((List Int) × Int)) : Nat → Option Ent
  | 19 => some (en19 c19)
  | _ => none
def W217 (c19 : Int → Int → Bool → Option ((List Int) × Int)) (N : Nat) : LoopF (((Sh.sl (Sh.int .u8))).T) := fun no =>
  match no with
  | _ => fun _ _ => none
theorem e217 (c19 : Int → Int → Bool → Option ((List Int) × Int)) (N : Nat) (a0 : Int) : evc (T217 c19) (rawOf RW0) (W217 c19 N) (retc k217.res (Sh.sl (Sh.int .u8))) (modeOf FT) 0 fuelC k217.body (env0 k217 (encL [(Sh.int .u64)] (a0, ())), []) (endK (retc k217.res (Sh.sl (Sh.int .u8)))) = p217 c19 N a0 := by kernel_rfl
theorem ok217 (c19 : Int → Int → Bool → Option ((List Int) × Int)) (h19 : EntOK FT XT 19 (en19 c19)) {f : Int → Option (List Int)} (hf : ∀ a0 r, f a0 = some r → ∃ N, p217 c19 N a0 = some r) : EntOK FT XT 217 (en217 f) := by
  have hT : TabOK FT XT (T217 c19) := by
    intro g en hg
    unfold T217 at hg
    split at hg <;> first | (injection hg with hg; subst hg; assumption) | cases hg
  have hO0 : RawOK FT XT (rawOf (α := ((Sh.sl (Sh.int .u8))).T) RW0) := rawOK0
  have hO : RawOK FT XT (rawOf (α := ((Sh.sl (Sh.int .u8))).T) RW0) := hO0
  refine ⟨rfl, fun v r h => ?_⟩
  obtain ⟨a0, _⟩ := v
  obtain ⟨N, h1⟩ := hf _ _ h
  exact ans_c (R := (Sh.sl (Sh.int .u8))) (tab := T217 c19) (raw := (rawOf RW0)) (LP := W217 c19 N) (fu := fuelC) hT hO rfl rfl (Nat.le_of_ble_eq_true rfl) loopOK_nil ((e217 c19 N _).trans h1)

def T219 (c83 : Int → Int → Option (List Int)) : Nat → Option Ent
  | 83 => some (en83 c83)
  | _ => none
def W219 (c83 : Int → Int → Option (List Int)) (N : Nat) : LoopF (((Sh.ar .u32)).T) := fun no =>
  match no with
  | _ => fun _ _ => none
theorem e219 (c83 : Int → Int → Option (List Int)) (N : Nat)  : evc (T219 c83) (rawOf RW0) (W219 c83 N) (retc k219.res (Sh.ar .u32)) (modeOf FT) 0 fuelC k219.body (env0 k219 (encL [] ()), []) (endK (retc k219.res (Sh.ar .u32))) = p219 c83 N  := by kernel_rfl
theorem ok219 (c83 : Int → Int → Option (List Int)) (h83 : EntOK FT XT 83 (en83 c83)) {f : Option (List Int)} (hf : ∀  r, f  = some r → ∃ N, p219 c83 N  = some r) : EntOK FT XT 219 (en219 f) := by
  have hT : TabOK FT XT (T219 c83) := by
    intro g en hg
    unfold T219 at hg
    split at hg <;> first | (injection hg with hg; subst hg; assumption) | cases hg
  have hO0 : RawOK FT XT (rawOf (α := ((Sh.ar .u32)).T) RW0) := rawOK0
  have hO : RawOK FT XT (rawOf (α := ((Sh.ar .u32)).T) RW0) := hO0
  refine ⟨rfl, fun v r h => ?_⟩
  obtain ⟨N, h1⟩ := hf _ h
  exact ans_c (R := (Sh.ar .u32)) (tab := T219 c83) (raw := (rawOf RW0)) (LP := W219 c83 N) (fu := fuelC) hT hO rfl rfl (Nat.le_of_ble_eq_true rfl) loopOK_nil ((e219 c83 N ).trans h1)

def T238 (c195 : Int → Int → Option Int) : Nat → Option Ent
  | 195 => some (en195 c195)
  | _ => none
def W238 (c195 : Int → Int → Option Int) (N : Nat) : LoopF (((Sh.int .u32)).T) := fun no =>
  match no with
  | _ => fun _ _ => none
theorem e238 (c195 : Int → Int → Option Int) (N : Nat) (a0 : List Int) (a1 : Int) : evc (T238 c195) (rawOf RW0) (W238 c195 N) (retc k238.res (Sh.int .u32)) (modeOf FT) 0 fuelC k238.body (env0 k238 (encL [(Sh.ar .i64), (Sh.int .u32)] (a0, (a1, ()))), []) (endK (retc k238.res (Sh.int .u32))) = p238 c195 N a0 a1 := by kernel_rfl
theorem ok238 (c195 : Int → Int → Option Int) (h195 : EntOK FT XT 195 (en195 c195)) {f : List Int → Int → Option Int} (hf : ∀ a0 a1 r, f a0 a1 = some r → ∃ N, p238 c195 N a0 a1 = some r) : EntOK FT XT 238 (en238 f) := by
  have hT : TabOK FT XT (T238 c195) := by
    intro g en hg
    unfold T238 at hg
    split at hg <;> first | (injection hg with hg; subst hg; assumption) | cases hg
  have hO0 : RawOK FT XT (rawOf (α := ((Sh.int .u32)).T) RW0) := rawOK0
  have hO : RawOK FT XT (rawOf (α := ((Sh.int .u32)).T) RW0) := hO0
  refine ⟨rfl, fun v r h => ?_⟩
  obtain ⟨a0, a1, _⟩ := v
  obtain ⟨N, h1⟩ := hf _ _ _ h
  exact ans_c (R := (Sh.int .u32)) (tab := T238 c195) (raw := (rawOf RW0)) (LP := W238 c195 N) (fu := fuelC) hT hO rfl rfl (Nat.le_of_ble_eq_true rfl) loopOK_nil ((e238 c195 N _ _).trans h1)

def T235 (c21 : List Int → Bool → Option (Int × Int)) (c238 : List Int → Int → Option Int) : Nat → Option Ent
  | 21 => some (en21 c21)
  | 238 => some (en238 c238)
  | _ => none
def H235_0 : Trim := ⟨0, [], false, [1, 2, 3, 7], []⟩
theorem l235_0 : loopN k235 0 = .loop H235_0 (bodyOf (loopN k235 0)) := by kernel_rfl
def P235_0 : Ps := ⟨[(0, .u), (1, (.ptr 0 0)), (2, (.ptr 1 0)), (3, (.ptr 2 0)), (4, .u), (5, .u), (7, (.int .i64)), (8, .u), (11, .u)], [(.ints false .u8), (.ints false .u32), (.ints false .u32)]⟩
def Q235_0 : Nat → Ps
  | 0 => ⟨[(0, .u), (1, .u), (2, (.ptr 0 0)), (3, (.ptr 1 0)), (4, .u), (5, .u), (7, .u), (8, .u), (11, .u)], [(.ints false .u32), (.ints false .u32)]⟩
  | _ => noPs
def u235_0 (c21 : List Int → Bool → Option (Int × Int)) (c238 : List Int → Int → Option Int) (N n : Nat) (v : P235_0.T) (κ : (i : Nat) → (Q235_0 i).T → Option (((Sh.ar .u32)).T)) : Option (((Sh.ar .u32)).T) :=
  L235_0 c21 c238 N (fun (y0 : List Int) (y1 : List Int) => κ 0 (((), ((), ((), ((), ((), ((), ((), ((), ((), ()))))))))), (y0, (y1, ())))) n v.1.2.2.2.2.2.2.1 v.2.1 v.2.2.1 v.2.2.2.1
def W235_0 (c21 : List Int → Bool → Option (Int × Int)) (c238 : List Int → Int → Option Int) (N : Nat) : LoopF (((Sh.ar .u32)).T) := fun no =>
  match no with
  | _ => fun _ _ => none
theorem b235_0 (c21 : List Int → Bool → Option (Int × Int)) (c238 : List Int → Int → Option Int) (N n : Nat) (v : P235_0.T) (κ : (i : Nat) → (Q235_0 i).T → Option (((Sh.ar .u32)).T)) :
    evc (T235 c21 c238) (rawOf RW0) (W235_0 c21 c238 N) (retc k235.res (Sh.ar .u32)) (modeOf FT) 0 fuelC (bodyOf (loopN k235 0)) (P235_0.st v) (roundK 0 H235_0 P235_0 Q235_0 (u235_0 c21 c238 N n) κ) = u235_0 c21 c238 N (n + 1) v κ := by kernel_rfl
theorem o235_0 (c21 : List Int → Bool → Option (Int × Int)) (c238 : List Int → Int → Option Int) (hT : TabOK FT XT (T235 c21 c238)) (hO : RawOK FT XT (rawOf (α := ((Sh.ar .u32)).T) RW0)) (N : Nat) {s : St} {κ : Ex → St → Option (((Sh.ar .u32)).T)} {a : ((Sh.ar .u32)).T} (h : lpOf 0 H235_0 P235_0 Q235_0 (u235_0 c21 c238 N N) s κ = some a) : Out FT XT 0 (retc k235.res (Sh.ar .u32)) (loopN k235 0) s κ a := by
  rw [l235_0]
  exact loop_out (LP := W235_0 c21 c238 N) (fu := fuelC) hT hO (fun _ _ => rfl) (b235_0 c21 c238 N) loopOK_nil N h
def W235 (c21 : List Int → Bool → Option (Int × Int)) (c238 : List Int → Int → Option Int) (N : Nat) : LoopF (((Sh.ar .u32)).T) := fun no =>
  match no with
  | 0 => lpOf 0 H235_0 P235_0 Q235_0 (u235_0 c21 c238 N N)
  | _ => fun _ _ => none
theorem e235 (c21 : List Int → Bool → Option (Int × Int)) (c238 : List Int → Int → Option Int) (N : Nat) (a0 : List Int) : evc (T235 c21 c238) (rawOf RW0) (W235 c21 c238 N) (retc k235.res (Sh.ar .u32)) (modeOf FT) 0 fuelC k235.body (env0 k235 (encL [(Sh.ar .u8)] (a0, ())), []) (endK (retc k235.res (Sh.ar .u32))) = p235 c21 c238 N a0 := by kernel_rfl
theorem ok235 (c21 : List Int → Bool → Option (Int × Int)) (c238 : List Int → Int → Option Int) (h21 : EntOK FT XT 21 (en21 c21)) (h238 : EntOK FT XT 238 (en238 c238)) {f : List Int → Option (List Int)} (hf : ∀ a0 r, f a0 = some r → ∃ N, p235 c21 c238 N a0 = some r) : EntOK FT XT 235 (en235 f) := by
  have hT : TabOK FT XT (T235 c21 c238) := by
    intro g en hg
    unfold T235 at hg
    split at hg <;> first | (injection hg with hg; subst hg; assumption) | cases hg
  have hO0 : RawOK FT XT (rawOf (α := ((Sh.ar .u32)).T) RW0) := rawOK0
  have hO : RawOK FT XT (rawOf (α := ((Sh.ar .u32)).T) RW0) := hO0
  refine ⟨rfl, fun v r h => ?_⟩
  obtain ⟨a0, _⟩ := v
  obtain ⟨N, h1⟩ := hf _ _ h
  exact ans_c (R := (Sh.ar .u32)) (tab := T235 c21 c238) (raw := (rawOf RW0)) (LP := W235 c21 c238 N) (fu := fuelC) hT hO rfl rfl (Nat.le_of_ble_eq_true rfl) (loopOK_cons l235_0 (fun s κ a h => o235_0 c21 c238 hT hO N h) loopOK_nil) ((e235 c21 c238 N _).trans h1)

def T239 (c195 : Int → Int → Option Int) : Nat → Option Ent
  | 195 => some (en195 c195)
  | _ => none
def W239 (c195 : Int → Int → Option Int) (N : Nat) : LoopF (((Sh.int .u32)).T) := fun no =>
  match no with
  | _ => fun _ _ => none
theorem e239 (c195 : Int → Int → Option Int) (N : Nat) (a0 : List Int) (a1 : Int) : evc (T239 c195) (rawOf RW0) (W239 c195 N) (retc k239.res (Sh.int .u32)) (modeOf FT) 0 fuelC k239.body (env0 k239 (encL [(Sh.ar .i64), (Sh.int .u32)] (a0, (a1, ()))), []) (endK (retc k239.res (Sh.int .u32))) = p239 c195 N a0 a1 := by kernel_rfl
theorem ok239 (c195 : Int → Int → Option Int) (h195 : EntOK FT XT 195 (en195 c195)) {f : List Int → Int → Option Int} (hf : ∀ a0 a1 r, f a0 a1 = some r → ∃ N, p239 c195 N a0 a1 = some r) : EntOK FT XT 239 (en239 f) := by
  have hT : TabOK FT XT (T239 c195) := by
    intro g en hg
    unfold T239 at hg
    split at hg <;> first | (injection hg with hg; subst hg; assumption) | cases hg
  have hO0 : RawOK FT XT (rawOf (α := ((Sh.int .u32)).T) RW0) := rawOK0
  have hO : RawOK FT XT (rawOf (α := ((Sh.int .u32)).T) RW0) := hO0
  refine ⟨rfl, fun v r h => ?_⟩
  obtain ⟨a0, a1, _⟩ := v
  obtain ⟨N, h1⟩ := hf _ _ _ h
  exact ans_c (R := (Sh.int .u32)) (tab := T239 c195) (raw := (rawOf RW0)) (LP := W239 c195 N) (fu := fuelC) hT hO rfl rfl (Nat.le_of_ble_eq_true rfl) loopOK_nil ((e239 c195 N _ _).trans h1)

def T236 (c239 : List Int → Int → Option Int) : Nat → Option Ent
  | 239 => some (en239 c239)
  | _ => none
def W236 (c239 : List Int → Int → Option Int) (N : Nat) : LoopF (((Sh.ar .u32)).T) := fun no =>
  match no with
  | _ => fun _ _ => none
theorem e236 (c239 : List Int → Int → Option Int) (N : Nat) (a0 : List Int) (a1 : Int) : evc (T236 c239) (rawOf RW0) (W236 c239 N) (retc k236.res (Sh.ar .u32)) (modeOf FT) 0 fuelC k236.body (env0 k236 (encL [(Sh.ar .u32), (Sh.int .u32)] (a0, (a1, ()))), []) (endK (retc k236.res (Sh.ar .u32))) = p236 c239 N a0 a1 := by kernel_rfl
theorem ok236 (c239 : List Int → Int → Option Int) (h239 : EntOK FT XT 239 (en239 c239)) {f : List Int → Int → Option (List Int)} (hf : ∀ a0 a1 r, f a0 a1 = some r → ∃ N, p236 c239 N a0 a1 = some r) : EntOK FT XT 236 (en236 f) := by
  have hT : TabOK FT XT (T236 c239) := by
    intro g en hg
    unfold T236 at hg
    split at hg <;> first | (injection hg with hg; subst hg; assumption) | cases hg
  have hO0 : RawOK FT XT (rawOf (α := ((Sh.ar .u32)).T) RW0) := rawOK0
  have hO : RawOK FT XT (rawOf (α := ((Sh.ar .u32)).T) RW0) := hO0
  refine ⟨rfl, fun v r h => ?_⟩
  obtain ⟨a0, a1, _⟩ := v
  obtain ⟨N, h1⟩ := hf _ _ _ h
  exact ans_c (R := (Sh.ar .u32)) (tab := T236 c239) (raw := (rawOf RW0)) (LP := W236 c239 N) (fu := fuelC) hT hO rfl rfl (Nat.le_of_ble_eq_true rfl) loopOK_nil ((e236 c239 N _ _).trans h1)

def T229 (c235 : List Int → Option (List Int)) (c236 : List Int → Int → Option (List Int)) : Nat → Option Ent
  | 235 => some (en235 c235)
  | 236 => some (en236 c236)
  | _ => none
def H229_1 : Trim := ⟨1, [], false, [3, 6, 7, 27], []⟩
theorem l229_1 : loopN k229 1 = .loop H229_1 (bodyOf (loopN k229 1)) := by kernel_rfl
def P229_1 : Ps := ⟨[(0, .u), (1, .u), (2, .u), (3, (.ptr 0 0)), (4, .u), (6, (.ptr 1 0)), (7, (.ptr 2 0)), (8, .u), (9, .u), (10, .u), (13, .u), (14, .u), (15, .u), (27, (.int .i64)), (28, .u)], [(.ints false .u32), (.ints false .u32), (.ints false .u32)]⟩
def Q229_1 : Nat → Ps
  | 2 => ⟨[(0, .u), (1, .u), (2, .u), (3, .u), (4, .u), (6, (.ptr 0 0)), (7, (.ptr 1 0)), (8, .u), (9, .u), (10, .u), (13, .u), (14, .u), (15, .u), (27, .u), (28, .u)], [(.ints false .u32), (.ints false .u32)]⟩
  | _ => noPs
def u229_1 (c235 : List Int → Option (List Int)) (c236 : List Int → Int → Option (List Int)) (N n : Nat) (v : P229_1.T) (κ : (i : Nat) → (Q229_1 i).T → Option (((Sh.ar .u32)).T)) : Option (((Sh.ar .u32)).T) :=
  L229_1 c235 c236 N (fun (y0 : List Int) (y1 : List Int) => κ 2 (((), ((), ((), ((), ((), ((), ((), ((), ((), ((), ((), ((), ((), ((), ((), ()))))))))))))))), (y0, (y1, ())))) n v.1.2.2.2.2.2.2.2.2.2.2.2.2.2.1 v.2.1 v.2.2.1 v.2.2.2.1
def W229_1 (c235 : List Int → Option (List Int)) (c236 : List Int → Int → Option (List Int)) (N : Nat) : LoopF (((Sh.ar .u32)).T) := fun no =>
  match no with
  | _ => fun _ _ => none
theorem b229_1 (c235 : List Int → Option (List Int)) (c236 : List Int → Int → Option (List Int)) (N n : Nat) (v : P229_1.T) (κ : (i : Nat) → (Q229_1 i).T → Option (((Sh.ar .u32)).T)) :
    evc (T229 c235 c236) (rawOf RW0) (W229_1 c235 c236 N) (retc k229.res (Sh.ar .u32)) (modeOf FT) 0 fuelC (bodyOf (loopN k229 1)) (P229_1.st v) (roundK 0 H229_1 P229_1 Q229_1 (u229_1 c235 c236 N n) κ) = u229_1 c235 c236 N (n + 1) v κ := by kernel_rfl
theorem o229_1 (c235 : List Int → Option (List Int)) (c236 : List Int → Int → Option (List Int)) (hT : TabOK FT XT (T229 c235 c236)) (hO : RawOK FT XT (rawOf (α := ((Sh.ar .u32)).T) RW0)) (N : Nat) {s : St} {κ : Ex → St → Option (((Sh.ar .u32)).T)} {a : ((Sh.ar .u32)).T} (h : lpOf 0 H229_1 P229_1 Q229_1 (u229_1 c235 c236 N N) s κ = some a) : Out FT XT 0 (retc k229.res (Sh.ar .u32)) (loopN k229 1) s κ a := by
  rw [l229_1]
  exact loop_out (LP := W229_1 c235 c236 N) (fu := fuelC) hT hO (fun _ _ => rfl) (b229_1 c235 c236 N) loopOK_nil N h
def H229_0 : Trim := ⟨0, [], false, [2, 3, 6, 7, 13, 14], []⟩
theorem l229_0 : loopN k229 0 = .loop H229_0 (bodyOf (loopN k229 0)) := by kernel_rfl
def P229_0 : Ps := ⟨[(0, .u), (1, .u), (2, (.tb (Sh.int .u32))), (3, (.ptr 0 0)), (4, .u), (6, (.ptr 1 0)), (7, (.ptr 2 0)), (8, .u), (9, .u), (10, .u), (13, (.ar .u32)), (14, (.int .i64)), (15, .u), (27, .u), (28, .u)], [(.ints false .u32), (.ints false .u32), (.ints false .u32)]⟩
def Q229_0 : Nat → Ps
  | 0 => ⟨[(0, .u), (1, .u), (2, .u), (3, (.ptr 0 0)), (4, .u), (6, (.ptr 1 0)), (7, (.ptr 2 0)), (8, .u), (9, .u), (10, .u), (13, .u), (14, .u), (15, .u), (27, .u), (28, .u)], [(.ints false .u32), (.ints false .u32), (.ints false .u32)]⟩
  | _ => noPs
def u229_0 (c235 : List Int → Option (List Int)) (c236 : List Int → Int → Option (List Int)) (N n : Nat) (v : P229_0.T) (κ : (i : Nat) → (Q229_0 i).T → Option (((Sh.ar .u32)).T)) : Option (((Sh.ar .u32)).T) :=
  L229_0 c235 c236 N (fun (y0 : List Int) (y1 : List Int) (y2 : List Int) => κ 0 (((), ((), ((), ((), ((), ((), ((), ((), ((), ((), ((), ((), ((), ((), ((), ()))))))))))))))), (y0, (y1, (y2, ()))))) n v.1.2.2.1 v.1.2.2.2.2.2.2.2.2.2.2.1 v.1.2.2.2.2.2.2.2.2.2.2.2.1 v.2.1 v.2.2.1 v.2.2.2.1
def W229_0 (c235 : List Int → Option (List Int)) (c236 : List Int → Int → Option (List Int)) (N : Nat) : LoopF (((Sh.ar .u32)).T) := fun no =>
  match no with
  | _ => fun _ _ => none
theorem b229_0 (c235 : List Int → Option (List Int)) (c236 : List Int → Int → Option (List Int)) (N n : Nat) (v : P229_0.T) (κ : (i : Nat) → (Q229_0 i).T → Option (((Sh.ar .u32)).T)) :
    evc (T229 c235 c236) (rawOf RW0) (W229_0 c235 c236 N) (retc k229.res (Sh.ar .u32)) (modeOf FT) 0 fuelC (bodyOf (loopN k229 0)) (P229_0.st v) (roundK 0 H229_0 P229_0 Q229_0 (u229_0 c235 c236 N n) κ) = u229_0 c235 c236 N (n + 1) v κ := by kernel_rfl
theorem o229_0 (c235 : List Int → Option (List Int)) (c236 : List Int → Int → Option (List Int)) (hT : TabOK FT XT (T229 c235 c236)) (hO : RawOK FT XT (rawOf (α := ((Sh.ar .u32)).T) RW0)) (N : Nat) {s : St} {κ : Ex → St → Option (((Sh.ar .u32)).T)} {a : ((Sh.ar .u32)).T} (h : lpOf 0 H229_0 P229_0 Q229_0 (u229_0 c235 c236 N N) s κ = some a) : Out FT XT 0 (retc k229.res (Sh.ar .u32)) (loopN k229 0) s κ a := by
  rw [l229_0]
  exact loop_out (LP := W229_0 c235 c236 N) (fu := fuelC) hT hO (fun _ _ => rfl) (b229_0 c235 c236 N) loopOK_nil N h
def W229 (c235 : List Int → Option (List Int)) (c236 : List Int → Int → Option (List Int)) (N : Nat) : LoopF (((Sh.ar .u32)).T) := fun no =>
  match no with
  | 0 => lpOf 0 H229_0 P229_0 Q229_0 (u229_0 c235 c236 N N)
  | 1 => lpOf 0 H229_1 P229_1 Q229_1 (u229_1 c235 c236 N N)
  | _ => fun _ _ => none
theorem e229 (c235 : List Int → Option (List Int)) (c236 : List Int → Int → Option (List Int)) (N : Nat) (a0 : List Int) (a1 : List Int) (a2 : List Int) : evc (T229 c235 c236) (rawOf RW0) (W229 c235 c236 N) (retc k229.res (Sh.ar .u32)) (modeOf FT) 0 fuelC k229.body (env0 k229 (encL [(Sh.ar .u32), (Sh.ar .u8), (Sh.sl (Sh.int .u32))] (a0, (a1, (a2, ())))), []) (endK (retc k229.res (Sh.ar .u32))) = p229 c235 c236 N a0 a1 a2 := by kernel_rfl
theorem ok229 (c235 : List Int → Option (List Int)) (c236 : List Int → Int → Option (List Int)) (h235 : EntOK FT XT 235 (en235 c235)) (h236 : EntOK FT XT 236 (en236 c236)) {f : List Int → List Int → List Int → Option (List Int)} (hf : ∀ a0 a1 a2 r, f a0 a1 a2 = some r → ∃ N, p229 c235 c236 N a0 a1 a2 = some r) : EntOK FT XT 229 (en229 f) := by
  have hT : TabOK FT XT (T229 c235 c236) := by
    intro g en hg
    unfold T229 at hg
    split at hg <;> first | (injection hg with hg; subst hg; assumption) | cases hg
  have hO0 : RawOK FT XT (rawOf (α := ((Sh.ar .u32)).T) RW0) := rawOK0
  have hO : RawOK FT XT (rawOf (α := ((Sh.ar .u32)).T) RW0) := hO0
  refine ⟨rfl, fun v r h => ?_⟩
  obtain ⟨a0, a1, a2, _⟩ := v
  obtain ⟨N, h1⟩ := hf _ _ _ _ h
  exact ans_c (R := (Sh.ar .u32)) (tab := T229 c235 c236) (raw := (rawOf RW0)) (LP := W229 c235 c236 N) (fu := fuelC) hT hO rfl rfl (Nat.le_of_ble_eq_true rfl) (loopOK_cons l229_0 (fun s κ a h => o229_0 c235 c236 hT hO N h) (loopOK_cons l229_1 (fun s κ a h => o229_1 c235 c236 hT hO N h) loopOK_nil)) ((e229 c235 c236 N _ _ _).trans h1)

def T213 (c46 : List (List Int) → Option (List Int)) (c217 : Int → Option (List Int)) (c219 : Option (List Int)) (c83 : Int → Int → Option (List Int)) (c229 : List Int → List Int → List Int → Option (List Int)) : Nat → Option Ent
  | 46 => some (en46 c46)
  | 217 => some (en217 c217)
  | 219 => some (en219 c219)
  | 83 => some (en83 c83)
  | 229 => some (en229 c229)
  | _ => none
def H213_1 : Trim := ⟨1, [], false, [2, 4, 6, 30], []⟩
theorem l213_1 : loopN k213 1 = .loop H213_1 (bodyOf (loopN k213 1)) := by kernel_rfl
def P213_1 : Ps := ⟨[(0, .u), (2, (.ptr 0 0)), (3, .u), (4, (.ptr 1 0)), (5, .u), (6, (.ptr 2 0)), (7, .u), (20, .u), (30, (.int .i64)), (31, .u)], [(.ints false .u8), (.ints false .u32), (.ints false .u8)]⟩
def Q213_1 : Nat → Ps
  | 2 => ⟨[(0, .u), (2, (.ptr 0 0)), (3, .u), (4, .u), (5, .u), (6, (.ptr 1 0)), (7, .u), (20, .u), (30, .u), (31, .u)], [(.ints false .u8), (.ints false .u8)]⟩
  | _ => noPs
def u213_1 (c46 : List (List Int) → Option (List Int)) (c217 : Int → Option (List Int)) (c219 : Option (List Int)) (c83 : Int → Int → Option (List Int)) (c229 : List Int → List Int → List Int → Option (List Int)) (N n : Nat) (v : P213_1.T) (κ : (i : Nat) → (Q213_1 i).T → Option (((Sh.ar .u8)).T)) : Option (((Sh.ar .u8)).T) :=
  L213_1 c46 c217 c219 c83 c229 N (fun (y0 : List Int) (y1 : List Int) => κ 2 (((), ((), ((), ((), ((), ((), ((), ((), ((), ((), ())))))))))), (y0, (y1, ())))) n v.1.2.2.2.2.2.2.2.2.1 v.2.1 v.2.2.1 v.2.2.2.1
def W213_1 (c46 : List (List Int) → Option (List Int)) (c217 : Int → Option (List Int)) (c219 : Option (List Int)) (c83 : Int → Int → Option (List Int)) (c229 : List Int → List Int → List Int → Option (List Int)) (N : Nat) : LoopF (((Sh.ar .u8)).T) := fun no =>
  match no with
  | _ => fun _ _ => none
theorem b213_1 (c46 : List (List Int) → Option (List Int)) (c217 : Int → Option (List Int)) (c219 : Option (List Int)) (c83 : Int → Int → Option (List Int)) (c229 : List Int → List Int → List Int → Option (List Int)) (N n : Nat) (v : P213_1.T) (κ : (i : Nat) → (Q213_1 i).T → Option (((Sh.ar .u8)).T)) :
    evc (T213 c46 c217 c219 c83 c229) (rawOf RW0) (W213_1 c46 c217 c219 c83 c229 N) (retc k213.res (Sh.ar .u8)) (modeOf FT) 0 fuelC (bodyOf (loopN k213 1)) (P213_1.st v) (roundK 0 H213_1 P213_1 Q213_1 (u213_1 c46 c217 c219 c83 c229 N n) κ) = u213_1 c46 c217 c219 c83 c229 N (n + 1) v κ := by kernel_rfl
theorem o213_1 (c46 : List (List Int) → Option (List Int)) (c217 : Int → Option (List Int)) (c219 : Option (List Int)) (c83 : Int → Int → Option (List Int)) (c229 : List Int → List Int → List Int → Option (List Int)) (hT : TabOK FT XT (T213 c46 c217 c219 c83 c229)) (hO : RawOK FT XT (rawOf (α := ((Sh.ar .u8)).T) RW0)) (N : Nat) {s : St} {κ : Ex → St → Option (((Sh.ar .u8)).T)} {a : ((Sh.ar .u8)).T} (h : lpOf 0 H213_1 P213_1 Q213_1 (u213_1 c46 c217 c219 c83 c229 N N) s κ = some a) : Out FT XT 0 (retc k213.res (Sh.ar .u8)) (loopN k213 1) s κ a := by
  rw [l213_1]
  exact loop_out (LP := W213_1 c46 c217 c219 c83 c229 N) (fu := fuelC) hT hO (fun _ _ => rfl) (b213_1 c46 c217 c219 c83 c229 N) loopOK_nil N h
def H213_0 : Trim := ⟨0, [(3, (Sh.sl (Sh.int .u8)))], false, [2, 3, 4, 5], []⟩
theorem l213_0 : loopN k213 0 = .loop H213_0 (bodyOf (loopN k213 0)) := by kernel_rfl
def P213_0 : Ps := ⟨[(0, .u), (2, (.ptr 0 0)), (3, (.tb (Sh.int .u8))), (4, (.ptr 1 0)), (5, (.tb (Sh.int .u32))), (6, .u), (7, .u), (20, .u), (30, .u), (31, .u)], [(.ints false .u8), (.ints false .u32)]⟩
def Q213_0 : Nat → Ps
  | 0 => ⟨[(0, .u), (2, (.ptr 0 0)), (3, .u), (4, (.ptr 1 0)), (5, .u), (6, .u), (7, .u), (20, .u), (30, .u), (31, .u)], [(.ints false .u8), (.ints false .u32)]⟩
  | _ => noPs
def u213_0 (c46 : List (List Int) → Option (List Int)) (c217 : Int → Option (List Int)) (c219 : Option (List Int)) (c83 : Int → Int → Option (List Int)) (c229 : List Int → List Int → List Int → Option (List Int)) (N n : Nat) (v : P213_0.T) (κ : (i : Nat) → (Q213_0 i).T → Option (((Sh.ar .u8)).T)) : Option (((Sh.ar .u8)).T) :=
  L213_0 c46 c217 c219 c83 c229 N (fun (y0 : List Int) (y1 : List Int) => κ 0 (((), ((), ((), ((), ((), ((), ((), ((), ((), ((), ())))))))))), (y0, (y1, ())))) n v.1.2.2.1 v.1.2.2.2.2.1 v.2.1 v.2.2.1
def W213_0 (c46 : List (List Int) → Option (List Int)) (c217 : Int → Option (List Int)) (c219 : Option (List Int)) (c83 : Int → Int → Option (List Int)) (c229 : List Int → List Int → List Int → Option (List Int)) (N : Nat) : LoopF (((Sh.ar .u8)).T) := fun no =>
  match no with
  | _ => fun _ _ => none
theorem b213_0 (c46 : List (List Int) → Option (List Int)) (c217 : Int → Option (List Int)) (c219 : Option (List Int)) (c83 : Int → Int → Option (List Int)) (c229 : List Int → List Int → List Int → Option (List Int)) (N n : Nat) (v : P213_0.T) (κ : (i : Nat) → (Q213_0 i).T → Option (((Sh.ar .u8)).T)) :
    evc (T213 c46 c217 c219 c83 c229) (rawOf RW0) (W213_0 c46 c217 c219 c83 c229 N) (retc k213.res (Sh.ar .u8)) (modeOf FT) 0 fuelC (bodyOf (loopN k213 0)) (P213_0.st v) (roundK 0 H213_0 P213_0 Q213_0 (u213_0 c46 c217 c219 c83 c229 N n) κ) = u213_0 c46 c217 c219 c83 c229 N (n + 1) v κ := by kernel_rfl
theorem o213_0 (c46 : List (List Int) → Option (List Int)) (c217 : Int → Option (List Int)) (c219 : Option (List Int)) (c83 : Int → Int → Option (List Int)) (c229 : List Int → List Int → List Int → Option (List Int)) (hT : TabOK FT XT (T213 c46 c217 c219 c83 c229)) (hO : RawOK FT XT (rawOf (α := ((Sh.ar .u8)).T) RW0)) (N : Nat) {s : St} {κ : Ex → St → Option (((Sh.ar .u8)).T)} {a : ((Sh.ar .u8)).T} (h : lpOf 0 H213_0 P213_0 Q213_0 (u213_0 c46 c217 c219 c83 c229 N N) s κ = some a) : Out FT XT 0 (retc k213.res (Sh.ar .u8)) (loopN k213 0) s κ a := by
  rw [l213_0]
  exact loop_out (LP := W213_0 c46 c217 c219 c83 c229 N) (fu := fuelC) hT hO (fun _ _ => rfl) (b213_0 c46 c217 c219 c83 c229 N) loopOK_nil N h
def W213 (c46 : List (List Int) → Option (List Int)) (c217 : Int → Option (List Int)) (c219 : Option (List Int)) (c83 : Int → Int → Option (List Int)) (c229 : List Int → List Int → List Int → Option (List Int)) (N : Nat) : LoopF (((Sh.ar .u8)).T) := fun no =>
  match no with
  | 0 => lpOf 0 H213_0 P213_0 Q213_0 (u213_0 c46 c217 c219 c83 c229 N N)
  | 1 => lpOf 0 H213_1 P213_1 Q213_1 (u213_1 c46 c217 c219 c83 c229 N N)
  | _ => fun _ _ => none
theorem e213 (c46 : List (List Int) → Option (List Int)) (c217 : Int → Option (List Int)) (c219 : Option (List Int)) (c83 : Int → Int → Option (List Int)) (c229 : List Int → List Int → List Int → Option (List Int)) (N : Nat) (a0 : List (List Int)) : evc (T213 c46 c217 c219 c83 c229) (rawOf RW0) (W213 c46 c217 c219 c83 c229 N) (retc k213.res (Sh.ar .u8)) (modeOf FT) 0 fuelC k213.body (env0 k213 (encL [(Sh.sl (Sh.sl (Sh.int .u8)))] (a0, ())), []) (endK (retc k213.res (Sh.ar .u8))) = p213 c46 c217 c219 c83 c229 N a0 := by kernel_rfl
theorem ok213 (c46 : List (List Int) → Option (List Int)) (c217 : Int → Option (List Int)) (c219 : Option (List Int)) (c83 : Int → Int → Option (List Int)) (c229 : List Int → List Int → List Int → Option (List Int)) (h46 : EntOK FT XT 46 (en46 c46)) (h217 : EntOK FT XT 217 (en217 c217)) (h219 : EntOK FT XT 219 (en219 c219)) (h83 : EntOK FT XT 83 (en83 c83)) (h229 : EntOK FT XT 229 (en229 c229)) {f : List (List Int) → Option (List Int)} (hf : ∀ a0 r, f a0 = some r → ∃ N, p213 c46 c217 c219 c83 c229 N a0 = some r) : EntOK FT XT 213 (en213 f) := by
  have hT : TabOK FT XT (T213 c46 c217 c219 c83 c229) := by
    intro g en hg
    unfold T213 at hg
    split at hg <;> first | (injection hg with hg; subst hg; assumption) | cases hg
  have hO0 : RawOK FT XT (rawOf (α := ((Sh.ar .u8)).T) RW0) := rawOK0
  have hO : RawOK FT XT (rawOf (α := ((Sh.ar .u8)).T) RW0) := hO0
  refine ⟨rfl, fun v r h => ?_⟩
  obtain ⟨a0, _⟩ := v
  obtain ⟨N, h1⟩ := hf _ _ h
  exact ans_c (R := (Sh.ar .u8)) (tab := T213 c46 c217 c219 c83 c229) (raw := (rawOf RW0)) (LP := W213 c46 c217 c219 c83 c229 N) (fu := fuelC) hT hO rfl rfl (Nat.le_of_ble_eq_true rfl) (loopOK_cons l213_0 (fun s κ a h => o213_0 c46 c217 c219 c83 c229 hT hO N h) (loopOK_cons l213_1 (fun s κ a h => o213_1 c46 c217 c219 c83 c229 hT hO N h) loopOK_nil)) ((e213 c46 c217 c219 c83 c229 N _).trans h1)

def T218 (c186 : Int → Option (List Int)) : Nat → Option Ent
  | 186 => some (en186 c186)
  | _ => none
def W218 (c186 : Int → Option (List Int)) (N : Nat) : LoopF (((Sh.sl (Sh.int .u8))).T) := fun no =>
  match no with
  | _ => fun _ _ => none
theorem e218 (c186 : Int → Option (List Int)) (N : Nat) (a0 : Int) : evc (T218 c186) (rawOf RW0) (W218 c186 N) (retc k218.res (Sh.sl (Sh.int .u8))) (modeOf FT) 0 fuelC k218.body (env0 k218 (encL [(Sh.int .u64)] (a0, ())), []) (endK (retc k218.res (Sh.sl (Sh.int .u8)))) = p218 c186 N a0 := by kernel_rfl
theorem ok218 (c186 : Int → Option (List Int)) (h186 : EntOK FT XT 186 (en186 c186)) {f : Int → Option (List Int)} (hf : ∀ a0 r, f a0 = some r → ∃ N, p218 c186 N a0 = some r) : EntOK FT XT 218 (en218 f) := by
  have hT : TabOK FT XT (T218 c186) := by
    intro g en hg
    unfold T218 at hg
    split at hg <;> first | (injection hg with hg; subst hg; assumption) | cases hg
  have hO0 : RawOK FT XT (rawOf (α := ((Sh.sl (Sh.int .u8))).T) RW0) := rawOK0
  have hO : RawOK FT XT (rawOf (α := ((Sh.sl (Sh.int .u8))).T) RW0) := hO0
  refine ⟨rfl, fun v r h => ?_⟩
  obtain ⟨a0, _⟩ := v
  obtain ⟨N, h1⟩ := hf _ _ h
  exact ans_c (R := (Sh.sl (Sh.int .u8))) (tab := T218 c186) (raw := (rawOf RW0)) (LP := W218 c186 N) (fu := fuelC) hT hO rfl rfl (Nat.le_of_ble_eq_true rfl) loopOK_nil ((e218 c186 N _).trans h1)

def T220 : Nat → Option Ent
  | _ => none
def W220 (N : Nat) : LoopF (((Sh.ar .u32)).T) := fun no =>
  match no with
  | _ => fun _ _ => none
theorem e220 (N : Nat)  : evc (T220) (rawOf RW0) (W220 N) (retc k220.res (Sh.ar .u32)) (modeOf FT) 0 fuelC k220.body (env0 k220 (encL [] ()), []) (endK (retc k220.res (Sh.ar .u32))) = p220 N  := by kernel_rfl
theorem ok220 {f : Option (List Int)} (hf : ∀  r, f  = some r → ∃ N, p220 N  = some r) : EntOK FT XT 220 (en220 f) := by
  have hT : TabOK FT XT (T220) := by
    intro g en hg
    unfold T220 at hg
    split at hg <;> first | (injection hg with hg; subst hg; assumption) | cases hg
  have hO0 : RawOK FT XT (rawOf (α := ((Sh.ar .u32)).T) RW0) := rawOK0
  have hO : RawOK FT XT (rawOf (α := ((Sh.ar .u32)).T) RW0) := hO0
  refine ⟨rfl, fun v r h => ?_⟩
  obtain ⟨N, h1⟩ := hf _ h
  exact ans_c (R := (Sh.ar .u32)) (tab := T220) (raw := (rawOf RW0)) (LP := W220 N) (fu := fuelC) hT hO rfl rfl (Nat.le_of_ble_eq_true rfl) loopOK_nil ((e220 N ).trans h1)

def T237 : Nat → Option Ent
  | _ => none
def W237 (N : Nat) : LoopF (((Sh.int .u32)).T) := fun no =>
  match no with
  | _ => fun _ _ => none
theorem e237 (N : Nat) (a0 : Int) (a1 : Int) : evc (T237) (rawOf RW0) (W237 N) (retc k237.res (Sh.int .u32)) (modeOf FT) 0 fuelC k237.body (env0 k237 (encL [(Sh.int .u32), (Sh.int .i64)] (a0, (a1, ()))), []) (endK (retc k237.res (Sh.int .u32))) = p237 N a0 a1 := by kernel_rfl
theorem ok237 {f : Int → Int → Option Int} (hf : ∀ a0 a1 r, f a0 a1 = some r → ∃ N, p237 N a0 a1 = some r) : EntOK FT XT 237 (en237 f) := by
  have hT : TabOK FT XT (T237) := by
    intro g en hg
    unfold T237 at hg
    split at hg <;> first | (injection hg with hg; subst hg; assumption) | cases hg
  have hO0 : RawOK FT XT (rawOf (α := ((Sh.int .u32)).T) RW0) := rawOK0
  have hO : RawOK FT XT (rawOf (α := ((Sh.int .u32)).T) RW0) := hO0
  refine ⟨rfl, fun v r h => ?_⟩
  obtain ⟨a0, a1, _⟩ := v
  obtain ⟨N, h1⟩ := hf _ _ _ h
  exact ans_c (R := (Sh.int .u32)) (tab := T237) (raw := (rawOf RW0)) (LP := W237 N) (fu := fuelC) hT hO rfl rfl (Nat.le_of_ble_eq_true rfl) loopOK_nil ((e237 N _ _).trans h1)

def T230 (c237 : Int → Int → Option Int) : Nat → Option Ent
  | 237 => some (en237 c237)
  | _ => none
def W230 (c237 : Int → Int → Option Int) (N : Nat) : LoopF (((Sh.int .u32)).T) := fun no =>
  match no with
  | _ => fun _ _ => none
theorem e230 (c237 : Int → Int → Option Int) (N : Nat) (a0 : Int) (a1 : Int) (a2 : Int) (a3 : Int) : evc (T230 c237) (rawOf RW0) (W230 c237 N) (retc k230.res (Sh.int .u32)) (modeOf FT) 0 fuelC k230.body (env0 k230 (encL [(Sh.int .u32), (Sh.int .i64), (Sh.int .i64), (Sh.int .i64)] (a0, (a1, (a2, (a3, ()))))), []) (endK (retc k230.res (Sh.int .u32))) = p230 c237 N a0 a1 a2 a3 := by kernel_rfl
theorem ok230 (c237 : Int → Int → Option Int) (h237 : EntOK FT XT 237 (en237 c237)) {f : Int → Int → Int → Int → Option Int} (hf : ∀ a0 a1 a2 a3 r, f a0 a1 a2 a3 = some r → ∃ N, p230 c237 N a0 a1 a2 a3 = some r) : EntOK FT XT 230 (en230 f) := by
  have hT : TabOK FT XT (T230 c237) := by
    intro g en hg
    unfold T230 at hg
    split at hg <;> first | (injection hg with hg; subst hg; assumption) | cases hg
  have hO0 : RawOK FT XT (rawOf (α := ((Sh.int .u32)).T) RW0) := rawOK0
  have hO : RawOK FT XT (rawOf (α := ((Sh.int .u32)).T) RW0) := hO0
  refine ⟨rfl, fun v r h => ?_⟩
  obtain ⟨a0, a1, a2, a3, _⟩ := v
  obtain ⟨N, h1⟩ := hf _ _ _ _ _ h
  exact ans_c (R := (Sh.int .u32)) (tab := T230 c237) (raw := (rawOf RW0)) (LP := W230 c237 N) (fu := fuelC) hT hO rfl rfl (Nat.le_of_ble_eq_true rfl) loopOK_nil ((e230 c237 N _ _ _ _).trans h1)

def T231 : Nat → Option Ent
  | _ => none
def W231 (N : Nat) : LoopF (((Sh.sl (Sh.int .u32))).T) := fun no =>
  match no with
  | _ => fun _ _ => none
theorem e231 (N : Nat)  : evc (T231) (rawOf RW0) (W231 N) (retc k231.res (Sh.sl (Sh.int .u32))) (modeOf FT) 0 fuelC k231.body (env0 k231 (encL [] ()), []) (endK (retc k231.res (Sh.sl (Sh.int .u32)))) = p231 N  := by kernel_rfl
theorem ok231 {f : Option (List Int)} (hf : ∀  r, f  = some r → ∃ N, p231 N  = some r) : EntOK FT XT 231 (en231 f) := by
  have hT : TabOK FT XT (T231) := by
    intro g en hg
    unfold T231 at hg
    split at hg <;> first | (injection hg with hg; subst hg; assumption) | cases hg
  have hO0 : RawOK FT XT (rawOf (α := ((Sh.sl (Sh.int .u32))).T) RW0) := rawOK0
  have hO : RawOK FT XT (rawOf (α := ((Sh.sl (Sh.int .u32))).T) RW0) := hO0
  refine ⟨rfl, fun v r h => ?_⟩
  obtain ⟨N, h1⟩ := hf _ h
  exact ans_c (R := (Sh.sl (Sh.int .u32))) (tab := T231) (raw := (rawOf RW0)) (LP := W231 N) (fu := fuelC) hT hO rfl rfl (Nat.le_of_ble_eq_true rfl) loopOK_nil ((e231 N ).trans h1)

def T232 (c237 : Int → Int → Option Int) : Nat → Option Ent
  | 237 => some (en237 c237)
  | _ => none
def W232 (c237 : Int → Int → Option Int) (N : Nat) : LoopF (((Sh.int .u32)).T) := fun no =>
  match no with
  | _ => fun _ _ => none
theorem e232 (c237 : Int → Int → Option Int) (N : Nat) (a0 : Int) (a1 : Int) (a2 : Int) (a3 : Int) : evc (T232 c237) (rawOf RW0) (W232 c237 N) (retc k232.res (Sh.int .u32)) (modeOf FT) 0 fuelC k232.body (env0 k232 (encL [(Sh.int .u32), (Sh.int .i64), (Sh.int .i64), (Sh.int .i64)] (a0, (a1, (a2, (a3, ()))))), []) (endK (retc k232.res (Sh.int .u32))) = p232 c237 N a0 a1 a2 a3 := by kernel_rfl
theorem ok232 (c237 : Int → Int → Option Int) (h237 : EntOK FT XT 237 (en237 c237)) {f : Int → Int → Int → Int → Option Int} (hf : ∀ a0 a1 a2 a3 r, f a0 a1 a2 a3 = some r → ∃ N, p232 c237 N a0 a1 a2 a3 = some r) : EntOK FT XT 232 (en232 f) := by
  have hT : TabOK FT XT (T232 c237) := by
    intro g en hg
    unfold T232 at hg
    split at hg <;> first | (injection hg with hg; subst hg; assumption) | cases hg
  have hO0 : RawOK FT XT (rawOf (α := ((Sh.int .u32)).T) RW0) := rawOK0
  have hO : RawOK FT XT (rawOf (α := ((Sh.int .u32)).T) RW0) := hO0
  refine ⟨rfl, fun v r h => ?_⟩
  obtain ⟨a0, a1, a2, a3, _⟩ := v
  obtain ⟨N, h1⟩ := hf _ _ _ _ _ h
  exact ans_c (R := (Sh.int .u32)) (tab := T232 c237) (raw := (rawOf RW0)) (LP := W232 c237 N) (fu := fuelC) hT hO rfl rfl (Nat.le_of_ble_eq_true rfl) loopOK_nil ((e232 c237 N _ _ _ _).trans h1)

def T216 (c230 : Int → Int → Int → Int → Option Int) (c231 : Option (List Int)) (c232 : Int → Int → Int → Int → Option Int) : Nat → Option Ent
  | 230 => some (en230 c230)
  | 231 => some (en231 c231)
  | 232 => some (en232 c232)
  | _ => none
def H216_2 : Trim := ⟨2, [], false, [2, 4, 8, 12], []⟩
theorem l216_2 : loopN k216 2 = .loop H216_2 (bodyOf (loopN k216 2)) := by kernel_rfl
def P216_2 : Ps := ⟨[(0, .u), (1, .u), (2, (.ptr 0 0)), (3, .u), (4, (.ptr 1 0)), (5, .u), (6, .u), (7, .u), (8, (.ptr 2 0)), (9, .u), (10, .u), (11, .u), (12, (.int .i64)), (14, .u), (18, .u), (76, .u), (149, .u)], [(.ints false .u32), (.ints false .u32), (.ints false .u32)]⟩
def Q216_2 : Nat → Ps
  | 4 => ⟨[(0, .u), (1, .u), (2, .u), (3, .u), (4, (.ptr 0 0)), (5, .u), (6, .u), (7, .u), (8, (.ptr 1 0)), (9, .u), (10, .u), (11, .u), (12, .u), (14, .u), (18, .u), (76, .u), (149, .u)], [(.ints false .u32), (.ints false .u32)]⟩
  | _ => noPs
def u216_2 (c230 : Int → Int → Int → Int → Option Int) (c231 : Option (List Int)) (c232 : Int → Int → Int → Int → Option Int) (N n : Nat) (v : P216_2.T) (κ : (i : Nat) → (Q216_2 i).T → Option (((Sh.ar .u32)).T)) : Option (((Sh.ar .u32)).T) :=
  L216_2 c230 c231 c232 N (fun (y0 : List Int) (y1 : List Int) => κ 4 (((), ((), ((), ((), ((), ((), ((), ((), ((), ((), ((), ((), ((), ((), ((), ((), ((), ()))))))))))))))))), (y0, (y1, ())))) n v.1.2.2.2.2.2.2.2.2.2.2.2.2.1 v.2.1 v.2.2.1 v.2.2.2.1
def W216_2 (c230 : Int → Int → Int → Int → Option Int) (c231 : Option (List Int)) (c232 : Int → Int → Int → Int → Option Int) (N : Nat) : LoopF (((Sh.ar .u32)).T) := fun no =>
  match no with
  | _ => fun _ _ => none
theorem b216_2 (c230 : Int → Int → Int → Int → Option Int) (c231 : Option (List Int)) (c232 : Int → Int → Int → Int → Option Int) (N n : Nat) (v : P216_2.T) (κ : (i : Nat) → (Q216_2 i).T → Option (((Sh.ar .u32)).T)) :
    evc (T216 c230 c231 c232) (rawOf RW0) (W216_2 c230 c231 c232 N) (retc k216.res (Sh.ar .u32)) (modeOf FT) 0 fuelC (bodyOf (loopN k216 2)) (P216_2.st v) (roundK 0 H216_2 P216_2 Q216_2 (u216_2 c230 c231 c232 N n) κ) = u216_2 c230 c231 c232 N (n + 1) v κ := by kernel_rfl
theorem o216_2 (c230 : Int → Int → Int → Int → Option Int) (c231 : Option (List Int)) (c232 : Int → Int → Int → Int → Option Int) (hT : TabOK FT XT (T216 c230 c231 c232)) (hO : RawOK FT XT (rawOf (α := ((Sh.ar .u32)).T) RW0)) (N : Nat) {s : St} {κ : Ex → St → Option (((Sh.ar .u32)).T)} {a : ((Sh.ar .u32)).T} (h : lpOf 0 H216_2 P216_2 Q216_2 (u216_2 c230 c231 c232 N N) s κ = some a) : Out FT XT 0 (retc k216.res (Sh.ar .u32)) (loopN k216 2) s κ a := by
  rw [l216_2]
  exact loop_out (LP := W216_2 c230 c231 c232 N) (fu := fuelC) hT hO (fun _ _ => rfl) (b216_2 c230 c231 c232 N) loopOK_nil N h
def H216_1 : Trim := ⟨1, [], false, [2, 4, 5, 7, 8, 9], []⟩
theorem l216_1 : loopN k216 1 = .loop H216_1 (bodyOf (loopN k216 1)) := by kernel_rfl
def P216_1 : Ps := ⟨[(0, .u), (1, .u), (2, (.ptr 0 0)), (3, .u), (4, (.ptr 1 0)), (5, (.ptr 2 0)), (6, .u), (7, (.tb (Sh.int .u32))), (8, (.ptr 3 0)), (9, (.int .i64)), (10, .u), (11, .u), (12, .u), (14, .u), (18, .u), (76, .u), (149, .u)], [(.ints false .u32), (.ints false .u32), (.ints false .u32), (.ints false .u32)]⟩
def Q216_1 : Nat → Ps
  | 2 => ⟨[(0, .u), (1, .u), (2, (.ptr 0 0)), (3, .u), (4, (.ptr 1 0)), (5, .u), (6, .u), (7, .u), (8, (.ptr 2 0)), (9, .u), (10, .u), (11, .u), (12, .u), (14, .u), (18, .u), (76, .u), (149, .u)], [(.ints false .u32), (.ints false .u32), (.ints false .u32)]⟩
  | _ => noPs
def u216_1 (c230 : Int → Int → Int → Int → Option Int) (c231 : Option (List Int)) (c232 : Int → Int → Int → Int → Option Int) (N n : Nat) (v : P216_1.T) (κ : (i : Nat) → (Q216_1 i).T → Option (((Sh.ar .u32)).T)) : Option (((Sh.ar .u32)).T) :=
  L216_1 c230 c231 c232 N (fun (y0 : List Int) (y1 : List Int) (y2 : List Int) => κ 2 (((), ((), ((), ((), ((), ((), ((), ((), ((), ((), ((), ((), ((), ((), ((), ((), ((), ()))))))))))))))))), (y0, (y1, (y2, ()))))) n v.1.2.2.2.2.2.2.2.1 v.1.2.2.2.2.2.2.2.2.2.1 v.2.1 v.2.2.1 v.2.2.2.1 v.2.2.2.2.1
def W216_1 (c230 : Int → Int → Int → Int → Option Int) (c231 : Option (List Int)) (c232 : Int → Int → Int → Int → Option Int) (N : Nat) : LoopF (((Sh.ar .u32)).T) := fun no =>
  match no with
  | _ => fun _ _ => none
theorem b216_1 (c230 : Int → Int → Int → Int → Option Int) (c231 : Option (List Int)) (c232 : Int → Int → Int → Int → Option Int) (N n : Nat) (v : P216_1.T) (κ : (i : Nat) → (Q216_1 i).T → Option (((Sh.ar .u32)).T)) :
    evc (T216 c230 c231 c232) (rawOf RW0) (W216_1 c230 c231 c232 N) (retc k216.res (Sh.ar .u32)) (modeOf FT) 0 fuelC (bodyOf (loopN k216 1)) (P216_1.st v) (roundK 0 H216_1 P216_1 Q216_1 (u216_1 c230 c231 c232 N n) κ) = u216_1 c230 c231 c232 N (n + 1) v κ := by kernel_rfl
theorem o216_1 (c230 : Int → Int → Int → Int → Option Int) (c231 : Option (List Int)) (c232 : Int → Int → Int → Int → Option Int) (hT : TabOK FT XT (T216 c230 c231 c232)) (hO : RawOK FT XT (rawOf (α := ((Sh.ar .u32)).T) RW0)) (N : Nat) {s : St} {κ : Ex → St → Option (((Sh.ar .u32)).T)} {a : ((Sh.ar .u32)).T} (h : lpOf 0 H216_1 P216_1 Q216_1 (u216_1 c230 c231 c232 N N) s κ = some a) : Out FT XT 0 (retc k216.res (Sh.ar .u32)) (loopN k216 1) s κ a := by
  rw [l216_1]
  exact loop_out (LP := W216_1 c230 c231 c232 N) (fu := fuelC) hT hO (fun _ _ => rfl) (b216_1 c230 c231 c232 N) loopOK_nil N h
def H216_0 : Trim := ⟨0, [], false, [2, 3, 4, 5, 6], []⟩
theorem l216_0 : loopN k216 0 = .loop H216_0 (bodyOf (loopN k216 0)) := by kernel_rfl
def P216_0 : Ps := ⟨[(0, .u), (1, .u), (2, (.ptr 0 0)), (3, (.ptr 1 0)), (4, (.ptr 2 0)), (5, (.ptr 3 0)), (6, (.int .i64)), (7, .u), (8, .u), (9, .u), (10, .u), (11, .u), (12, .u), (14, .u), (18, .u), (76, .u), (149, .u)], [(.ints false .u32), (.ints false .u8), (.ints false .u32), (.ints false .u32)]⟩
def Q216_0 : Nat → Ps
  | 0 => ⟨[(0, .u), (1, .u), (2, (.ptr 0 0)), (3, .u), (4, (.ptr 1 0)), (5, (.ptr 2 0)), (6, .u), (7, .u), (8, .u), (9, .u), (10, .u), (11, .u), (12, .u), (14, .u), (18, .u), (76, .u), (149, .u)], [(.ints false .u32), (.ints false .u32), (.ints false .u32)]⟩
  | _ => noPs
def u216_0 (c230 : Int → Int → Int → Int → Option Int) (c231 : Option (List Int)) (c232 : Int → Int → Int → Int → Option Int) (N n : Nat) (v : P216_0.T) (κ : (i : Nat) → (Q216_0 i).T → Option (((Sh.ar .u32)).T)) : Option (((Sh.ar .u32)).T) :=
  L216_0 c230 c231 c232 N (fun (y0 : List Int) (y1 : List Int) (y2 : List Int) => κ 0 (((), ((), ((), ((), ((), ((), ((), ((), ((), ((), ((), ((), ((), ((), ((), ((), ((), ()))))))))))))))))), (y0, (y1, (y2, ()))))) n v.1.2.2.2.2.2.2.1 v.2.1 v.2.2.1 v.2.2.2.1 v.2.2.2.2.1
def W216_0 (c230 : Int → Int → Int → Int → Option Int) (c231 : Option (List Int)) (c232 : Int → Int → Int → Int → Option Int) (N : Nat) : LoopF (((Sh.ar .u32)).T) := fun no =>
  match no with
  | _ => fun _ _ => none
theorem b216_0 (c230 : Int → Int → Int → Int → Option Int) (c231 : Option (List Int)) (c232 : Int → Int → Int → Int → Option Int) (N n : Nat) (v : P216_0.T) (κ : (i : Nat) → (Q216_0 i).T → Option (((Sh.ar .u32)).T)) :
    evc (T216 c230 c231 c232) (rawOf RW0) (W216_0 c230 c231 c232 N) (retc k216.res (Sh.ar .u32)) (modeOf FT) 0 fuelC (bodyOf (loopN k216 0)) (P216_0.st v) (roundK 0 H216_0 P216_0 Q216_0 (u216_0 c230 c231 c232 N n) κ) = u216_0 c230 c231 c232 N (n + 1) v κ := by kernel_rfl
theorem o216_0 (c230 : Int → Int → Int → Int → Option Int) (c231 : Option (List Int)) (c232 : Int → Int → Int → Int → Option Int) (hT : TabOK FT XT (T216 c230 c231 c232)) (hO : RawOK FT XT (rawOf (α := ((Sh.ar .u32)).T) RW0)) (N : Nat) {s : St} {κ : Ex → St → Option (((Sh.ar .u32)).T)} {a : ((Sh.ar .u32)).T} (h : lpOf 0 H216_0 P216_0 Q216_0 (u216_0 c230 c231 c232 N N) s κ = some a) : Out FT XT 0 (retc k216.res (Sh.ar .u32)) (loopN k216 0) s κ a := by
  rw [l216_0]
  exact loop_out (LP := W216_0 c230 c231 c232 N) (fu := fuelC) hT hO (fun _ _ => rfl) (b216_0 c230 c231 c232 N) loopOK_nil N h
def W216 (c230 : Int → Int → Int → Int → Option Int) (c231 : Option (List Int)) (c232 : Int → Int → Int → Int → Option Int) (N : Nat) : LoopF (((Sh.ar .u32)).T) := fun no =>
  match no with
  | 0 => lpOf 0 H216_0 P216_0 Q216_0 (u216_0 c230 c231 c232 N N)
  | 1 => lpOf 0 H216_1 P216_1 Q216_1 (u216_1 c230 c231 c232 N N)
  | 2 => lpOf 0 H216_2 P216_2 Q216_2 (u216_2 c230 c231 c232 N N)
  | _ => fun _ _ => none
theorem e216 (c230 : Int → Int → Int → Int → Option Int) (c231 : Option (List Int)) (c232 : Int → Int → Int → Int → Option Int) (N : Nat) (a0 : List Int) (a1 : List Int) : evc (T216 c230 c231 c232) (rawOf RW0) (W216 c230 c231 c232 N) (retc k216.res (Sh.ar .u32)) (modeOf FT) 0 fuelC k216.body (env0 k216 (encL [(Sh.ar .u32), (Sh.ar .u8)] (a0, (a1, ()))), []) (endK (retc k216.res (Sh.ar .u32))) = p216 c230 c231 c232 N a0 a1 := by kernel_rfl
theorem ok216 (c230 : Int → Int → Int → Int → Option Int) (c231 : Option (List Int)) (c232 : Int → Int → Int → Int → Option Int) (h230 : EntOK FT XT 230 (en230 c230)) (h231 : EntOK FT XT 231 (en231 c231)) (h232 : EntOK FT XT 232 (en232 c232)) {f : List Int → List Int → Option (List Int)} (hf : ∀ a0 a1 r, f a0 a1 = some r → ∃ N, p216 c230 c231 c232 N a0 a1 = some r) : EntOK FT XT 216 (en216 f) := by
  have hT : TabOK FT XT (T216 c230 c231 c232) := by
    intro g en hg
    unfold T216 at hg
    split at hg <;> first | (injection hg with hg; subst hg; assumption) | cases hg
  have hO0 : RawOK FT XT (rawOf (α := ((Sh.ar .u32)).T) RW0) := rawOK0
  have hO : RawOK FT XT (rawOf (α := ((Sh.ar .u32)).T) RW0) := hO0
  refine ⟨rfl, fun v r h => ?_⟩
  obtain ⟨a0, a1, _⟩ := v
  obtain ⟨N, h1⟩ := hf _ _ _ h
  exact ans_c (R := (Sh.ar .u32)) (tab := T216 c230 c231 c232) (raw := (rawOf RW0)) (LP := W216 c230 c231 c232 N) (fu := fuelC) hT hO rfl rfl (Nat.le_of_ble_eq_true rfl) (loopOK_cons l216_0 (fun s κ a h => o216_0 c230 c231 c232 hT hO N h) (loopOK_cons l216_1 (fun s κ a h => o216_1 c230 c231 c232 hT hO N h) (loopOK_cons l216_2 (fun s κ a h => o216_2 c230 c231 c232 hT hO N h) loopOK_nil))) ((e216 c230 c231 c232 N _ _).trans h1)

def T214 (c218 : Int → Option (List Int)) (c220 : Option (List Int)) (c216 : List Int → List Int → Option (List Int)) : Nat → Option Ent
  | 218 => some (en218 c218)
  | 220 => some (en220 c220)
  | 216 => some (en216 c216)
  | _ => none
def H214_2 : Trim := ⟨2, [], false, [2, 4, 8, 9], []⟩
theorem l214_2 : loopN k214 2 = .loop H214_2 (bodyOf (loopN k214 2)) := by kernel_rfl
def P214_2 : Ps := ⟨[(0, .u), (2, (.ptr 0 0)), (3, .u), (4, (.ptr 1 0)), (5, .u), (6, .u), (7, .u), (8, (.ptr 2 0)), (9, (.int .i64)), (21, .u), (25, .u), (40, .u)], [(.ints false .u8), (.ints false .u32), (.ints false .u8)]⟩
def Q214_2 : Nat → Ps
  | 4 => ⟨[(0, .u), (2, (.ptr 0 0)), (3, .u), (4, .u), (5, .u), (6, .u), (7, .u), (8, (.ptr 1 0)), (9, .u), (21, .u), (25, .u), (40, .u)], [(.ints false .u8), (.ints false .u8)]⟩
  | _ => noPs
def u214_2 (c218 : Int → Option (List Int)) (c220 : Option (List Int)) (c216 : List Int → List Int → Option (List Int)) (N n : Nat) (v : P214_2.T) (κ : (i : Nat) → (Q214_2 i).T → Option (((Sh.ar .u8)).T)) : Option (((Sh.ar .u8)).T) :=
  L214_2 c218 c220 c216 N (fun (y0 : List Int) (y1 : List Int) => κ 4 (((), ((), ((), ((), ((), ((), ((), ((), ((), ((), ((), ((), ())))))))))))), (y0, (y1, ())))) n v.1.2.2.2.2.2.2.2.2.1 v.2.1 v.2.2.1 v.2.2.2.1
def W214_2 (c218 : Int → Option (List Int)) (c220 : Option (List Int)) (c216 : List Int → List Int → Option (List Int)) (N : Nat) : LoopF (((Sh.ar .u8)).T) := fun no =>
  match no with
  | _ => fun _ _ => none
theorem b214_2 (c218 : Int → Option (List Int)) (c220 : Option (List Int)) (c216 : List Int → List Int → Option (List Int)) (N n : Nat) (v : P214_2.T) (κ : (i : Nat) → (Q214_2 i).T → Option (((Sh.ar .u8)).T)) :
    evc (T214 c218 c220 c216) (rawOf RW0) (W214_2 c218 c220 c216 N) (retc k214.res (Sh.ar .u8)) (modeOf FT) 0 fuelC (bodyOf (loopN k214 2)) (P214_2.st v) (roundK 0 H214_2 P214_2 Q214_2 (u214_2 c218 c220 c216 N n) κ) = u214_2 c218 c220 c216 N (n + 1) v κ := by kernel_rfl
theorem o214_2 (c218 : Int → Option (List Int)) (c220 : Option (List Int)) (c216 : List Int → List Int → Option (List Int)) (hT : TabOK FT XT (T214 c218 c220 c216)) (hO : RawOK FT XT (rawOf (α := ((Sh.ar .u8)).T) RW0)) (N : Nat) {s : St} {κ : Ex → St → Option (((Sh.ar .u8)).T)} {a : ((Sh.ar .u8)).T} (h : lpOf 0 H214_2 P214_2 Q214_2 (u214_2 c218 c220 c216 N N) s κ = some a) : Out FT XT 0 (retc k214.res (Sh.ar .u8)) (loopN k214 2) s κ a := by
  rw [l214_2]
  exact loop_out (LP := W214_2 c218 c220 c216 N) (fu := fuelC) hT hO (fun _ _ => rfl) (b214_2 c218 c220 c216 N) loopOK_nil N h
def H214_1 : Trim := ⟨1, [], false, [2, 3, 4, 5, 6, 7], []⟩
theorem l214_1 : loopN k214 1 = .loop H214_1 (bodyOf (loopN k214 1)) := by kernel_rfl
def P214_1 : Ps := ⟨[(0, .u), (2, (.ptr 0 0)), (3, (.sl 1 1)), (4, (.ptr 2 0)), (5, (.int .i64)), (6, (.ptr 3 0)), (7, (.int .i64)), (8, .u), (9, .u), (21, .u), (25, .u), (40, .u)], [(.ints false .u8), (.ints false .u8), (.ints false .u32), (.ints false .u8)]⟩
def Q214_1 : Nat → Ps
  | 2 => ⟨[(0, .u), (2, (.ptr 0 0)), (3, (.sl 1 1)), (4, (.ptr 2 0)), (5, (.int .i64)), (6, (.ptr 3 0)), (7, .u), (8, .u), (9, .u), (21, .u), (25, .u), (40, .u)], [(.ints false .u8), (.ints false .u8), (.ints false .u32), (.ints false .u8)]⟩
  | _ => noPs
def u214_1 (c218 : Int → Option (List Int)) (c220 : Option (List Int)) (c216 : List Int → List Int → Option (List Int)) (N n : Nat) (v : P214_1.T) (κ : (i : Nat) → (Q214_1 i).T → Option (((Sh.ar .u8)).T)) : Option (((Sh.ar .u8)).T) :=
  L214_1 c218 c220 c216 N (fun (y0 : Nat) (y1 : Int) (y2 : List Int) (y3 : List Int) (y4 : List Int) (y5 : List Int) => κ 2 (((), ((), (y0, ((), (y1, ((), ((), ((), ((), ((), ((), ((), ())))))))))))), (y2, (y3, (y4, (y5, ())))))) n v.1.2.2.1 v.1.2.2.2.2.1 v.1.2.2.2.2.2.2.1 v.2.1 v.2.2.1 v.2.2.2.1 v.2.2.2.2.1
def W214_1 (c218 : Int → Option (List Int)) (c220 : Option (List Int)) (c216 : List Int → List Int → Option (List Int)) (N : Nat) : LoopF (((Sh.ar .u8)).T) := fun no =>
  match no with
  | _ => fun _ _ => none
theorem b214_1 (c218 : Int → Option (List Int)) (c220 : Option (List Int)) (c216 : List Int → List Int → Option (List Int)) (N n : Nat) (v : P214_1.T) (κ : (i : Nat) → (Q214_1 i).T → Option (((Sh.ar .u8)).T)) :
    evc (T214 c218 c220 c216) (rawOf RW0) (W214_1 c218 c220 c216 N) (retc k214.res (Sh.ar .u8)) (modeOf FT) 0 fuelC (bodyOf (loopN k214 1)) (P214_1.st v) (roundK 0 H214_1 P214_1 Q214_1 (u214_1 c218 c220 c216 N n) κ) = u214_1 c218 c220 c216 N (n + 1) v κ := by kernel_rfl
theorem o214_1 (c218 : Int → Option (List Int)) (c220 : Option (List Int)) (c216 : List Int → List Int → Option (List Int)) (hT : TabOK FT XT (T214 c218 c220 c216)) (hO : RawOK FT XT (rawOf (α := ((Sh.ar .u8)).T) RW0)) (N : Nat) {s : St} {κ : Ex → St → Option (((Sh.ar .u8)).T)} {a : ((Sh.ar .u8)).T} (h : lpOf 0 H214_1 P214_1 Q214_1 (u214_1 c218 c220 c216 N N) s κ = some a) : Out FT XT 0 (retc k214.res (Sh.ar .u8)) (loopN k214 1) s κ a := by
  rw [l214_1]
  exact loop_out (LP := W214_1 c218 c220 c216 N) (fu := fuelC) hT hO (fun _ _ => rfl) (b214_1 c218 c220 c216 N) loopOK_nil N h
def H214_0 : Trim := ⟨0, [], false, [2, 3, 4, 5], []⟩
theorem l214_0 : loopN k214 0 = .loop H214_0 (bodyOf (loopN k214 0)) := by kernel_rfl
def P214_0 : Ps := ⟨[(0, .u), (2, (.ptr 0 0)), (3, (.sl 1 1)), (4, (.ptr 2 0)), (5, (.int .i64)), (6, .u), (7, .u), (8, .u), (9, .u), (21, .u), (25, .u), (40, .u)], [(.ints false .u8), (.ints false .u8), (.ints false .u32)]⟩
def Q214_0 : Nat → Ps
  | 0 => ⟨[(0, .u), (2, (.ptr 0 0)), (3, .u), (4, (.ptr 1 0)), (5, .u), (6, .u), (7, .u), (8, .u), (9, .u), (21, .u), (25, .u), (40, .u)], [(.ints false .u8), (.ints false .u32)]⟩
  | _ => noPs
def u214_0 (c218 : Int → Option (List Int)) (c220 : Option (List Int)) (c216 : List Int → List Int → Option (List Int)) (N n : Nat) (v : P214_0.T) (κ : (i : Nat) → (Q214_0 i).T → Option (((Sh.ar .u8)).T)) : Option (((Sh.ar .u8)).T) :=
  L214_0 c218 c220 c216 N (fun (y0 : List Int) (y1 : List Int) => κ 0 (((), ((), ((), ((), ((), ((), ((), ((), ((), ((), ((), ((), ())))))))))))), (y0, (y1, ())))) n v.1.2.2.1 v.1.2.2.2.2.1 v.2.1 v.2.2.1 v.2.2.2.1
def W214_0 (c218 : Int → Option (List Int)) (c220 : Option (List Int)) (c216 : List Int → List Int → Option (List Int)) (N : Nat) : LoopF (((Sh.ar .u8)).T) := fun no =>
  match no with
  | 1 => lpOf 0 H214_1 P214_1 Q214_1 (u214_1 c218 c220 c216 N N)
  | _ => fun _ _ => none
theorem b214_0 (c218 : Int → Option (List Int)) (c220 : Option (List Int)) (c216 : List Int → List Int → Option (List Int)) (N n : Nat) (v : P214_0.T) (κ : (i : Nat) → (Q214_0 i).T → Option (((Sh.ar .u8)).T)) :
    evc (T214 c218 c220 c216) (rawOf RW0) (W214_0 c218 c220 c216 N) (retc k214.res (Sh.ar .u8)) (modeOf FT) 0 fuelC (bodyOf (loopN k214 0)) (P214_0.st v) (roundK 0 H214_0 P214_0 Q214_0 (u214_0 c218 c220 c216 N n) κ) = u214_0 c218 c220 c216 N (n + 1) v κ := by kernel_rfl
theorem o214_0 (c218 : Int → Option (List Int)) (c220 : Option (List Int)) (c216 : List Int → List Int → Option (List Int)) (hT : TabOK FT XT (T214 c218 c220 c216)) (hO : RawOK FT XT (rawOf (α := ((Sh.ar .u8)).T) RW0)) (N : Nat) {s : St} {κ : Ex → St → Option (((Sh.ar .u8)).T)} {a : ((Sh.ar .u8)).T} (h : lpOf 0 H214_0 P214_0 Q214_0 (u214_0 c218 c220 c216 N N) s κ = some a) : Out FT XT 0 (retc k214.res (Sh.ar .u8)) (loopN k214 0) s κ a := by
  rw [l214_0]
  exact loop_out (LP := W214_0 c218 c220 c216 N) (fu := fuelC) hT hO (fun _ _ => rfl) (b214_0 c218 c220 c216 N) (loopOK_cons l214_1 (fun s κ a h => o214_1 c218 c220 c216 hT hO N h) loopOK_nil) N h
def W214 (c218 : Int → Option (List Int)) (c220 : Option (List Int)) (c216 : List Int → List Int → Option (List Int)) (N : Nat) : LoopF (((Sh.ar .u8)).T) := fun no =>
  match no with
  | 0 => lpOf 0 H214_0 P214_0 Q214_0 (u214_0 c218 c220 c216 N N)
  | 2 => lpOf 0 H214_2 P214_2 Q214_2 (u214_2 c218 c220 c216 N N)
  | _ => fun _ _ => none
theorem e214 (c218 : Int → Option (List Int)) (c220 : Option (List Int)) (c216 : List Int → List Int → Option (List Int)) (N : Nat) (a0 : List Int) : evc (T214 c218 c220 c216) (rawOf RW0) (W214 c218 c220 c216 N) (retc k214.res (Sh.ar .u8)) (modeOf FT) 0 fuelC k214.body (env0 k214 (encL [(Sh.sl (Sh.int .u8))] (a0, ())), []) (endK (retc k214.res (Sh.ar .u8))) = p214 c218 c220 c216 N a0 := by kernel_rfl
theorem ok214 (c218 : Int → Option (List Int)) (c220 : Option (List Int)) (c216 : List Int → List Int → Option (List Int)) (h218 : EntOK FT XT 218 (en218 c218)) (h220 : EntOK FT XT 220 (en220 c220)) (h216 : EntOK FT XT 216 (en216 c216)) {f : List Int → Option (List Int)} (hf : ∀ a0 r, f a0 = some r → ∃ N, p214 c218 c220 c216 N a0 = some r) : EntOK FT XT 214 (en214 f) := by
  have hT : TabOK FT XT (T214 c218 c220 c216) := by
    intro g en hg
    unfold T214 at hg
    split at hg <;> first | (injection hg with hg; subst hg; assumption) | cases hg
  have hO0 : RawOK FT XT (rawOf (α := ((Sh.ar .u8)).T) RW0) := rawOK0
  have hO : RawOK FT XT (rawOf (α := ((Sh.ar .u8)).T) RW0) := hO0
  refine ⟨rfl, fun v r h => ?_⟩
  obtain ⟨a0, _⟩ := v
  obtain ⟨N, h1⟩ := hf _ _ h
  exact ans_c (R := (Sh.ar .u8)) (tab := T214 c218 c220 c216) (raw := (rawOf RW0)) (LP := W214 c218 c220 c216 N) (fu := fuelC) hT hO rfl rfl (Nat.le_of_ble_eq_true rfl) (loopOK_cons l214_0 (fun s κ a h => o214_0 c218 c220 c216 hT hO N h) (loopOK_cons l214_2 (fun s κ a h => o214_2 c218 c220 c216 hT hO N h) loopOK_nil)) ((e214 c218 c220 c216 N _).trans h1)

def T225 (c214 : List Int → Option (List Int)) : Nat → Option Ent
  | 214 => some (en214 c214)
  | _ => none
def H225_0 : Trim := ⟨0, [(0, (Sh.sl (Sh.int .u8)))], false, [0, 2, 4, 5], []⟩
theorem l225_0 : loopN k225 0 = .loop H225_0 (bodyOf (loopN k225 0)) := by kernel_rfl
def P225_0 : Ps := ⟨[(0, (.tb (Sh.int .u8))), (2, (.ptr 0 0)), (3, .u), (4, (.ptr 1 0)), (5, (.int .i64)), (8, .u), (15, .u)], [(.ints false .u8), (.ints false .u8)]⟩
def Q225_0 : Nat → Ps
  | 0 => ⟨[(0, .u), (2, (.ptr 0 0)), (3, .u), (4, (.ptr 1 0)), (5, .u), (8, .u), (15, .u)], [(.ints false .u8), (.ints false .u8)]⟩
  | _ => noPs
def u225_0 (c214 : List Int → Option (List Int)) (N n : Nat) (v : P225_0.T) (κ : (i : Nat) → (Q225_0 i).T → Option (((Sh.ar .u8)).T)) : Option (((Sh.ar .u8)).T) :=
  L225_0 c214 N (fun (y0 : List Int) (y1 : List Int) => κ 0 (((), ((), ((), ((), ((), ((), ((), ()))))))), (y0, (y1, ())))) n v.1.1 v.1.2.2.2.2.1 v.2.1 v.2.2.1
def W225_0 (c214 : List Int → Option (List Int)) (N : Nat) : LoopF (((Sh.ar .u8)).T) := fun no =>
  match no with
  | _ => fun _ _ => none
theorem b225_0 (c214 : List Int → Option (List Int)) (N n : Nat) (v : P225_0.T) (κ : (i : Nat) → (Q225_0 i).T → Option (((Sh.ar .u8)).T)) :
    evc (T225 c214) (rawOf RW0) (W225_0 c214 N) (retc k225.res (Sh.ar .u8)) (modeOf FT) 0 fuelC (bodyOf (loopN k225 0)) (P225_0.st v) (roundK 0 H225_0 P225_0 Q225_0 (u225_0 c214 N n) κ) = u225_0 c214 N (n + 1) v κ := by kernel_rfl
theorem o225_0 (c214 : List Int → Option (List Int)) (hT : TabOK FT XT (T225 c214)) (hO : RawOK FT XT (rawOf (α := ((Sh.ar .u8)).T) RW0)) (N : Nat) {s : St} {κ : Ex → St → Option (((Sh.ar .u8)).T)} {a : ((Sh.ar .u8)).T} (h : lpOf 0 H225_0 P225_0 Q225_0 (u225_0 c214 N N) s κ = some a) : Out FT XT 0 (retc k225.res (Sh.ar .u8)) (loopN k225 0) s κ a := by
  rw [l225_0]
  exact loop_out (LP := W225_0 c214 N) (fu := fuelC) hT hO (fun _ _ => rfl) (b225_0 c214 N) loopOK_nil N h
def W225 (c214 : List Int → Option (List Int)) (N : Nat) : LoopF (((Sh.ar .u8)).T) := fun no =>
  match no with
  | 0 => lpOf 0 H225_0 P225_0 Q225_0 (u225_0 c214 N N)
  | _ => fun _ _ => none
theorem e225 (c214 : List Int → Option (List Int)) (N : Nat) (a0 : List Int) : evc (T225 c214) (rawOf RW0) (W225 c214 N) (retc k225.res (Sh.ar .u8)) (modeOf FT) 0 fuelC k225.body (env0 k225 (encL [(Sh.sl (Sh.int .u8))] (a0, ())), []) (endK (retc k225.res (Sh.ar .u8))) = p225 c214 N a0 := by kernel_rfl
theorem ok225 (c214 : List Int → Option (List Int)) (h214 : EntOK FT XT 214 (en214 c214)) {f : List Int → Option (List Int)} (hf : ∀ a0 r, f a0 = some r → ∃ N, p225 c214 N a0 = some r) : EntOK FT XT 225 (en225 f) := by
  have hT : TabOK FT XT (T225 c214) := by
    intro g en hg
    unfold T225 at hg
    split at hg <;> first | (injection hg with hg; subst hg; assumption) | cases hg
  have hO0 : RawOK FT XT (rawOf (α := ((Sh.ar .u8)).T) RW0) := rawOK0
  have hO : RawOK FT XT (rawOf (α := ((Sh.ar .u8)).T) RW0) := hO0
  refine ⟨rfl, fun v r h => ?_⟩
  obtain ⟨a0, _⟩ := v
  obtain ⟨N, h1⟩ := hf _ _ h
  exact ans_c (R := (Sh.ar .u8)) (tab := T225 c214) (raw := (rawOf RW0)) (LP := W225 c214 N) (fu := fuelC) hT hO rfl rfl (Nat.le_of_ble_eq_true rfl) (loopOK_cons l225_0 (fun s κ a h => o225_0 c214 hT hO N h) loopOK_nil) ((e225 c214 N _).trans h1)

def T233 : Nat → Option Ent
  | _ => none
def H233_0 : Trim := ⟨0, [], false, [1, 2, 5, 6], [(5, (.ints .u8 []), 1)]⟩
theorem l233_0 : loopN k233 0 = .loop H233_0 (bodyOf (loopN k233 0)) := by kernel_rfl
def P233_0 : Ps := ⟨[(0, .u), (1, (.int .u8)), (2, (.ptr 0 0)), (4, .u), (5, (.sl 1 1)), (6, (.int .i64)), (8, .u)], [(.ints false .u8), (.ints false .u8)]⟩
def Q233_0 : Nat → Ps
  | 0 => ⟨[(0, .u), (1, .u), (2, .u), (4, .u), (5, (.sl 0 1)), (6, .u), (8, .u)], [(.ints false .u8)]⟩
  | _ => noPs
def u233_0 (N n : Nat) (v : P233_0.T) (κ : (i : Nat) → (Q233_0 i).T → Option (List Int)) : Option (List Int) :=
  L233_0 N (fun (y0 : Nat) (y1 : List Int) => κ 0 (((), ((), ((), ((), (y0, ((), ((), ()))))))), (y1, ()))) n v.1.2.1 v.1.2.2.2.2.1 v.1.2.2.2.2.2.1 v.2.1 v.2.2.1
def W233_0 (N : Nat) : LoopF (List Int) := fun no =>
  match no with
  | _ => fun _ _ => none
theorem b233_0 (N n : Nat) (v : P233_0.T) (κ : (i : Nat) → (Q233_0 i).T → Option (List Int)) :
    evc (T233) (rawOf RW0) (W233_0 N) (reto k233.res .u8) (modeOf FT) 0 fuelC (bodyOf (loopN k233 0)) (P233_0.st v) (roundK 0 H233_0 P233_0 Q233_0 (u233_0 N n) κ) = u233_0 N (n + 1) v κ := by kernel_rfl
theorem o233_0 (hT : TabOK FT XT (T233)) (hO : RawOK FT XT (rawOf (α := List Int) RW0)) (N : Nat) {s : St} {κ : Ex → St → Option (List Int)} {a : List Int} (h : lpOf 0 H233_0 P233_0 Q233_0 (u233_0 N N) s κ = some a) : Out FT XT 0 (reto k233.res .u8) (loopN k233 0) s κ a := by
  rw [l233_0]
  exact loop_out (LP := W233_0 N) (fu := fuelC) hT hO (fun _ _ => rfl) (b233_0 N) loopOK_nil N h
def W233 (N : Nat) : LoopF (List Int) := fun no =>
  match no with
  | 0 => lpOf 0 H233_0 P233_0 Q233_0 (u233_0 N N)
  | _ => fun _ _ => none
theorem e233 (N : Nat) (a0 : List Int) (a1 : Int) : evc (T233) (rawOf RW0) (W233 N) (reto k233.res .u8) (modeOf FT) 0 fuelC k233.body (env0 k233 (encL [(Sh.ar .u8), (Sh.int .u8)] (a0, (a1, ()))), []) (endK (reto k233.res .u8)) = p233 N a0 a1 := by kernel_rfl
theorem ok233 {f : List Int → Int → Option (List Int)} (hf : ∀ a0 a1 r, f a0 a1 = some r → ∃ N, p233 N a0 a1 = some r) : EntOK FT XT 233 (en233 f) := by
  have hT : TabOK FT XT (T233) := by
    intro g en hg
    unfold T233 at hg
    split at hg <;> first | (injection hg with hg; subst hg; assumption) | cases hg
  have hO0 : RawOK FT XT (rawOf (α := List Int) RW0) := rawOK0
  have hO : RawOK FT XT (rawOf (α := List Int) RW0) := hO0
  refine ⟨rfl, fun v r h => ?_⟩
  obtain ⟨a0, a1, _⟩ := v
  obtain ⟨N, h1⟩ := hf _ _ _ h
  exact ans_o (tab := T233) (raw := (rawOf RW0)) (LP := W233 N) (fu := fuelC) hT hO rfl rfl (Nat.le_of_ble_eq_true rfl) (loopOK_cons l233_0 (fun s κ a h => o233_0 hT hO N h) loopOK_nil) ((e233 N _ _).trans h1)

def T222 (c225 : List Int → Option (List Int)) (c233 : List Int → Int → Option (List Int)) (c214 : List Int → Option (List Int)) : Nat → Option Ent
  | 225 => some (en225 c225)
  | 233 => some (en233 c233)
  | 214 => some (en214 c214)
  | _ => none
def W222 (c225 : List Int → Option (List Int)) (c233 : List Int → Int → Option (List Int)) (c214 : List Int → Option (List Int)) (N : Nat) : LoopF (((Sh.ar .u8)).T) := fun no =>
  match no with
  | _ => fun _ _ => none
theorem e222 (c225 : List Int → Option (List Int)) (c233 : List Int → Int → Option (List Int)) (c214 : List Int → Option (List Int)) (N : Nat) (a0 : List Int) (a1 : List Int) : evc (T222 c225 c233 c214) (rawOf RW0) (W222 c225 c233 c214 N) (retc k222.res (Sh.ar .u8)) (modeOf FT) 0 fuelC k222.body (env0 k222 (encL [(Sh.sl (Sh.int .u8)), (Sh.sl (Sh.int .u8))] (a0, (a1, ()))), []) (endK (retc k222.res (Sh.ar .u8))) = p222 c225 c233 c214 N a0 a1 := by kernel_rfl
theorem ok222 (c225 : List Int → Option (List Int)) (c233 : List Int → Int → Option (List Int)) (c214 : List Int → Option (List Int)) (h225 : EntOK FT XT 225 (en225 c225)) (h233 : EntOK FT XT 233 (en233 c233)) (h214 : EntOK FT XT 214 (en214 c214)) {f : List Int → List Int → Option (List Int)} (hf : ∀ a0 a1 r, f a0 a1 = some r → ∃ N, p222 c225 c233 c214 N a0 a1 = some r) : EntOK FT XT 222 (en222 f) := by
  have hT : TabOK FT XT (T222 c225 c233 c214) := by
    intro g en hg
    unfold T222 at hg
    split at hg <;> first | (injection hg with hg; subst hg; assumption) | cases hg
  have hO0 : RawOK FT XT (rawOf (α := ((Sh.ar .u8)).T) RW0) := rawOK0
  have hO : RawOK FT XT (rawOf (α := ((Sh.ar .u8)).T) RW0) := hO0
  refine ⟨rfl, fun v r h => ?_⟩
  obtain ⟨a0, a1, _⟩ := v
  obtain ⟨N, h1⟩ := hf _ _ _ h
  exact ans_c (R := (Sh.ar .u8)) (tab := T222 c225 c233 c214) (raw := (rawOf RW0)) (LP := W222 c225 c233 c214 N) (fu := fuelC) hT hO rfl rfl (Nat.le_of_ble_eq_true rfl) loopOK_nil ((e222 c225 c233 c214 N _ _).trans h1)

def T224 (c213 : List (List Int) → Option (List Int)) : Nat → Option Ent
  | 213 => some (en213 c213)
  | _ => none
def W224 (c213 : List (List Int) → Option (List Int)) (N : Nat) : LoopF (((Sh.ar .u8)).T) := fun no =>
  match no with
  | _ => fun _ _ => none
theorem e224 (c213 : List (List Int) → Option (List Int)) (N : Nat) (a0 : List Int) : evc (T224 c213) (rawOf RW0) (W224 c213 N) (retc k224.res (Sh.ar .u8)) (modeOf FT) 0 fuelC k224.body (env0 k224 (encL [(Sh.sl (Sh.int .u8))] (a0, ())), []) (endK (retc k224.res (Sh.ar .u8))) = p224 c213 N a0 := by kernel_rfl
theorem ok224 (c213 : List (List Int) → Option (List Int)) (h213 : EntOK FT XT 213 (en213 c213)) {f : List Int → Option (List Int)} (hf : ∀ a0 r, f a0 = some r → ∃ N, p224 c213 N a0 = some r) : EntOK FT XT 224 (en224 f) := by
  have hT : TabOK FT XT (T224 c213) := by
    intro g en hg
    unfold T224 at hg
    split at hg <;> first | (injection hg with hg; subst hg; assumption) | cases hg
  have hO0 : RawOK FT XT (rawOf (α := ((Sh.ar .u8)).T) RW0) := rawOK0
  have hO : RawOK FT XT (rawOf (α := ((Sh.ar .u8)).T) RW0) := hO0
  refine ⟨rfl, fun v r h => ?_⟩
  obtain ⟨a0, _⟩ := v
  obtain ⟨N, h1⟩ := hf _ _ h
  exact ans_c (R := (Sh.ar .u8)) (tab := T224 c213) (raw := (rawOf RW0)) (LP := W224 c213 N) (fu := fuelC) hT hO rfl rfl (Nat.le_of_ble_eq_true rfl) loopOK_nil ((e224 c213 N _).trans h1)

def T234 (c224 : List Int → Option (List Int)) : Nat → Option Ent
  | 224 => some (en224 c224)
  | _ => none
def H234_0 : Trim := ⟨0, [], false, [1, 5, 9], []⟩
theorem l234_0 : loopN k234 0 = .loop H234_0 (bodyOf (loopN k234 0)) := by kernel_rfl
def P234_0 : Ps := ⟨[(0, .u), (1, (.int .u8)), (4, .u), (5, (.ptr 0 0)), (6, .u), (9, (.int .i64)), (10, .u)], [(.ints false .u8)]⟩
def Q234_0 : Nat → Ps
  | 0 => ⟨[(0, .u), (1, .u), (4, .u), (5, (.ptr 0 0)), (6, .u), (9, .u), (10, .u)], [(.ints false .u8)]⟩
  | _ => noPs
def u234_0 (c224 : List Int → Option (List Int)) (N n : Nat) (v : P234_0.T) (κ : (i : Nat) → (Q234_0 i).T → Option (((Sh.sl (Sh.int .u8))).T)) : Option (((Sh.sl (Sh.int .u8))).T) :=
  L234_0 c224 N (fun (y0 : List Int) => κ 0 (((), ((), ((), ((), ((), ((), ((), ()))))))), (y0, ()))) n v.1.2.1 v.1.2.2.2.2.2.1 v.2.1
def W234_0 (c224 : List Int → Option (List Int)) (N : Nat) : LoopF (((Sh.sl (Sh.int .u8))).T) := fun no =>
  match no with
  | _ => fun _ _ => none
theorem b234_0 (c224 : List Int → Option (List Int)) (N n : Nat) (v : P234_0.T) (κ : (i : Nat) → (Q234_0 i).T → Option (((Sh.sl (Sh.int .u8))).T)) :
    evc (T234 c224) (rawOf RW0) (W234_0 c224 N) (retc k234.res (Sh.sl (Sh.int .u8))) (modeOf FT) 0 fuelC (bodyOf (loopN k234 0)) (P234_0.st v) (roundK 0 H234_0 P234_0 Q234_0 (u234_0 c224 N n) κ) = u234_0 c224 N (n + 1) v κ := by kernel_rfl
theorem o234_0 (c224 : List Int → Option (List Int)) (hT : TabOK FT XT (T234 c224)) (hO : RawOK FT XT (rawOf (α := ((Sh.sl (Sh.int .u8))).T) RW0)) (N : Nat) {s : St} {κ : Ex → St → Option (((Sh.sl (Sh.int .u8))).T)} {a : ((Sh.sl (Sh.int .u8))).T} (h : lpOf 0 H234_0 P234_0 Q234_0 (u234_0 c224 N N) s κ = some a) : Out FT XT 0 (retc k234.res (Sh.sl (Sh.int .u8))) (loopN k234 0) s κ a := by
  rw [l234_0]
  exact loop_out (LP := W234_0 c224 N) (fu := fuelC) hT hO (fun _ _ => rfl) (b234_0 c224 N) loopOK_nil N h
def W234 (c224 : List Int → Option (List Int)) (N : Nat) : LoopF (((Sh.sl (Sh.int .u8))).T) := fun no =>
  match no with
  | 0 => lpOf 0 H234_0 P234_0 Q234_0 (u234_0 c224 N N)
  | _ => fun _ _ => none
theorem e234 (c224 : List Int → Option (List Int)) (N : Nat) (a0 : List Int) (a1 : Int) : evc (T234 c224) (rawOf RW0) (W234 c224 N) (retc k234.res (Sh.sl (Sh.int .u8))) (modeOf FT) 0 fuelC k234.body (env0 k234 (encL [(Sh.sl (Sh.int .u8)), (Sh.int .u8)] (a0, (a1, ()))), []) (endK (retc k234.res (Sh.sl (Sh.int .u8)))) = p234 c224 N a0 a1 := by kernel_rfl
theorem ok234 (c224 : List Int → Option (List Int)) (h224 : EntOK FT XT 224 (en224 c224)) {f : List Int → Int → Option (List Int)} (hf : ∀ a0 a1 r, f a0 a1 = some r → ∃ N, p234 c224 N a0 a1 = some r) : EntOK FT XT 234 (en234 f) := by
  have hT : TabOK FT XT (T234 c224) := by
    intro g en hg
    unfold T234 at hg
    split at hg <;> first | (injection hg with hg; subst hg; assumption) | cases hg
  have hO0 : RawOK FT XT (rawOf (α := ((Sh.sl (Sh.int .u8))).T) RW0) := rawOK0
  have hO : RawOK FT XT (rawOf (α := ((Sh.sl (Sh.int .u8))).T) RW0) := hO0
  refine ⟨rfl, fun v r h => ?_⟩
  obtain ⟨a0, a1, _⟩ := v
  obtain ⟨N, h1⟩ := hf _ _ _ h
  exact ans_c (R := (Sh.sl (Sh.int .u8))) (tab := T234 c224) (raw := (rawOf RW0)) (LP := W234 c224 N) (fu := fuelC) hT hO rfl rfl (Nat.le_of_ble_eq_true rfl) (loopOK_cons l234_0 (fun s κ a h => o234_0 c224 hT hO N h) loopOK_nil) ((e234 c224 N _ _).trans h1)

def T223 (c234 : List Int → Int → Option (List Int)) (c46 : List (List Int) → Option (List Int)) (c213 : List (List Int) → Option (List Int)) : Nat → Option Ent
  | 234 => some (en234 c234)
  | 46 => some (en46 c46)
  | 213 => some (en213 c213)
  | _ => none
def W223 (c234 : List Int → Int → Option (List Int)) (c46 : List (List Int) → Option (List Int)) (c213 : List (List Int) → Option (List Int)) (N : Nat) : LoopF (((Sh.ar .u8)).T) := fun no =>
  match no with
  | _ => fun _ _ => none
theorem e223 (c234 : List Int → Int → Option (List Int)) (c46 : List (List Int) → Option (List Int)) (c213 : List (List Int) → Option (List Int)) (N : Nat) (a0 : List Int) (a1 : List (List Int)) : evc (T223 c234 c46 c213) (rawOf RW0) (W223 c234 c46 c213 N) (retc k223.res (Sh.ar .u8)) (modeOf FT) 0 fuelC k223.body (env0 k223 (encL [(Sh.sl (Sh.int .u8)), (Sh.sl (Sh.sl (Sh.int .u8)))] (a0, (a1, ()))), []) (endK (retc k223.res (Sh.ar .u8))) = p223 c234 c46 c213 N a0 a1 := by kernel_rfl
theorem ok223 (c234 : List Int → Int → Option (List Int)) (c46 : List (List Int) → Option (List Int)) (c213 : List (List Int) → Option (List Int)) (h234 : EntOK FT XT 234 (en234 c234)) (h46 : EntOK FT XT 46 (en46 c46)) (h213 : EntOK FT XT 213 (en213 c213)) {f : List Int → List (List Int) → Option (List Int)} (hf : ∀ a0 a1 r, f a0 a1 = some r → ∃ N, p223 c234 c46 c213 N a0 a1 = some r) : EntOK FT XT 223 (en223 f) := by
  have hT : TabOK FT XT (T223 c234 c46 c213) := by
    intro g en hg
    unfold T223 at hg
    split at hg <;> first | (injection hg with hg; subst hg; assumption) | cases hg
  have hO0 : RawOK FT XT (rawOf (α := ((Sh.ar .u8)).T) RW0) := rawOK0
  have hO : RawOK FT XT (rawOf (α := ((Sh.ar .u8)).T) RW0) := hO0
  refine ⟨rfl, fun v r h => ?_⟩
  obtain ⟨a0, a1, _⟩ := v
  obtain ⟨N, h1⟩ := hf _ _ _ h
  exact ans_c (R := (Sh.ar .u8)) (tab := T223 c234 c46 c213) (raw := (rawOf RW0)) (LP := W223 c234 c46 c213 N) (fu := fuelC) hT hO rfl rfl (Nat.le_of_ble_eq_true rfl) loopOK_nil ((e223 c234 c46 c213 N _ _).trans h1)

def T226 (c223 : List Int → List (List Int) → Option (List Int)) (c47 : List Int → List Int → Option Bool) : Nat → Option Ent
  | 223 => some (en223 c223)
  | 47 => some (en47 c47)
  | _ => none
def W226 (c223 : List Int → List (List Int) → Option (List Int)) (c47 : List Int → List Int → Option Bool) (N : Nat) : LoopF (Sh.bool).T := fun no =>
  match no with
  | _ => fun _ _ => none
theorem e226 (c223 : List Int → List (List Int) → Option (List Int)) (c47 : List Int → List Int → Option Bool) (N : Nat) (a0 : List Int) (a1 : List Int) (a2 : List (List Int)) : evc (T226 c223 c47) (rawOf RW0) (W226 c223 c47 N) (retc k226.res Sh.bool) (modeOf FT) 0 fuelC k226.body (env0 k226 (encL [(Sh.sl (Sh.int .u8)), (Sh.sl (Sh.int .u8)), (Sh.sl (Sh.sl (Sh.int .u8)))] (a0, (a1, (a2, ())))), []) (endK (retc k226.res Sh.bool)) = p226 c223 c47 N a0 a1 a2 := by kernel_rfl
theorem ok226 (c223 : List Int → List (List Int) → Option (List Int)) (c47 : List Int → List Int → Option Bool) (h223 : EntOK FT XT 223 (en223 c223)) (h47 : EntOK FT XT 47 (en47 c47)) {f : List Int → List Int → List (List Int) → Option Bool} (hf : ∀ a0 a1 a2 r, f a0 a1 a2 = some r → ∃ N, p226 c223 c47 N a0 a1 a2 = some r) : EntOK FT XT 226 (en226 f) := by
  have hT : TabOK FT XT (T226 c223 c47) := by
    intro g en hg
    unfold T226 at hg
    split at hg <;> first | (injection hg with hg; subst hg; assumption) | cases hg
  have hO0 : RawOK FT XT (rawOf (α := (Sh.bool).T) RW0) := rawOK0
  have hO : RawOK FT XT (rawOf (α := (Sh.bool).T) RW0) := hO0
  refine ⟨rfl, fun v r h => ?_⟩
  obtain ⟨a0, a1, a2, _⟩ := v
  obtain ⟨N, h1⟩ := hf _ _ _ _ h
  exact ans_c (R := Sh.bool) (tab := T226 c223 c47) (raw := (rawOf RW0)) (LP := W226 c223 c47 N) (fu := fuelC) hT hO rfl rfl (Nat.le_of_ble_eq_true rfl) loopOK_nil ((e226 c223 c47 N _ _ _).trans h1)

def T307 : Nat → Option Ent
  | _ => none
def W307 (N : Nat) : LoopF (((Sh.int .i64)).T) := fun no =>
  match no with
  | _ => fun _ _ => none
theorem e307 (N : Nat) (a0 : Int) : evc (T307) (rawOf RW0) (W307 N) (retc k307.res (Sh.int .i64)) (modeOf FT) 0 fuelC k307.body (env0 k307 (encL [(Sh.int .i64)] (a0, ())), []) (endK (retc k307.res (Sh.int .i64))) = p307 N a0 := by kernel_rfl
theorem ok307 {f : Int → Option Int} (hf : ∀ a0 r, f a0 = some r → ∃ N, p307 N a0 = some r) : EntOK FT XT 307 (en307 f) := by
  have hT : TabOK FT XT (T307) := by
    intro g en hg
    unfold T307 at hg
    split at hg <;> first | (injection hg with hg; subst hg; assumption) | cases hg
  have hO0 : RawOK FT XT (rawOf (α := ((Sh.int .i64)).T) RW0) := rawOK0
  have hO : RawOK FT XT (rawOf (α := ((Sh.int .i64)).T) RW0) := hO0
  refine ⟨rfl, fun v r h => ?_⟩
  obtain ⟨a0, _⟩ := v
  obtain ⟨N, h1⟩ := hf _ _ h
  exact ans_c (R := (Sh.int .i64)) (tab := T307) (raw := (rawOf RW0)) (LP := W307 N) (fu := fuelC) hT hO rfl rfl (Nat.le_of_ble_eq_true rfl) loopOK_nil ((e307 N _).trans h1)

def T292 (c307 : Int → Option Int) : Nat → Option Ent
  | 307 => some (en307 c307)
  | _ => none
def W292 (c307 : Int → Option Int) (N : Nat) : LoopF (((Sh.int .i64)).T) := fun no =>
  match no with
  | _ => fun _ _ => none
theorem e292 (c307 : Int → Option Int) (N : Nat) (a0 : List Int) (a1 : List Int) (a2 : Int) : evc (T292 c307) (rawOf RW0) (W292 c307 N) (retc k292.res (Sh.int .i64)) (modeOf FT) 0 fuelC k292.body (env0 k292 (encL [(Sh.sl (Sh.int .u8)), (Sh.sl (Sh.int .u8)), (Sh.int .i64)] (a0, (a1, (a2, ())))), []) (endK (retc k292.res (Sh.int .i64))) = p292 c307 N a0 a1 a2 := by kernel_rfl
theorem ok292 (c307 : Int → Option Int) (h307 : EntOK FT XT 307 (en307 c307)) {f : List Int → List Int → Int → Option Int} (hf : ∀ a0 a1 a2 r, f a0 a1 a2 = some r → ∃ N, p292 c307 N a0 a1 a2 = some r) : EntOK FT XT 292 (en292 f) := by
  have hT : TabOK FT XT (T292 c307) := by
    intro g en hg
    unfold T292 at hg
    split at hg <;> first | (injection hg with hg; subst hg; assumption) | cases hg
  have hO0 : RawOK FT XT (rawOf (α := ((Sh.int .i64)).T) RW0) := rawOK0
  have hO : RawOK FT XT (rawOf (α := ((Sh.int .i64)).T) RW0) := hO0
  refine ⟨rfl, fun v r h => ?_⟩
  obtain ⟨a0, a1, a2, _⟩ := v
  obtain ⟨N, h1⟩ := hf _ _ _ _ h
  exact ans_c (R := (Sh.int .i64)) (tab := T292 c307) (raw := (rawOf RW0)) (LP := W292 c307 N) (fu := fuelC) hT hO rfl rfl (Nat.le_of_ble_eq_true rfl) loopOK_nil ((e292 c307 N _ _ _).trans h1)

def T308v2 (c223 : List Int → List (List Int) → Option (List Int)) : Nat → Option Ent
  | 223 => some (en223 c223)
  | _ => none
def W308v2 (c223 : List Int → List (List Int) → Option (List Int)) (N : Nat) : LoopF QR308v2.T := fun no =>
  match no with
  | _ => fun _ _ => none
theorem e308v2 (c223 : List Int → List (List Int) → Option (List Int)) (N : Nat) (v : PR308v2.T) : evc (T308v2 c223) (rawOf RW0) (W308v2 c223 N) (retr k308.res 6 QR308v2) (modeOf FT) 6 fuelC k308.body (env0 k308 (PR308v2.a.st v.1), stH PR308v2.h v.2) (endK (retr k308.res 6 QR308v2)) = p308v2 c223 N v.1.1 v.2.1.1 v.2.2.1.1 v.2.2.2.1.1 v.2.2.2.2.1.1 v.2.2.2.2.2.1.1 v.2.2.2.2.2.2.1 := by kernel_rfl
theorem ok308v2 (c223 : List Int → List (List Int) → Option (List Int)) (h223 : EntOK FT XT 223 (en223 c223)) {f : Int → List Int → List Int → List Int → List Int → Nat → List Int → Option ((Unit × Unit) × (((List Int) × Unit) × (((Nat × Nat) × Unit) × (((List Int) × Unit) × (((List Int) × Unit) × ((Nat × Unit) × (Unit × ((List Int) × ((List Int) × Unit)))))))))} (hf : ∀ a0 a1 a2 a3 a4 a5 a6 r, f a0 a1 a2 a3 a4 a5 a6 = some r → ∃ N, p308v2 c223 N a0 a1 a2 a3 a4 a5 a6 = some r) : REntOK FT XT 308 (rn308v2 f) := by
  have hT : TabOK FT XT (T308v2 c223) := by
    intro g en hg
    unfold T308v2 at hg
    split at hg <;> first | (injection hg with hg; subst hg; assumption) | cases hg
  have hO0 : RawOK FT XT (rawOf (α := QR308v2.T) RW0) := rawOK0
  have hO : RawOK FT XT (rawOf (α := QR308v2.T) RW0) := hO0
  intro v r w h hw
  obtain ⟨N, h1⟩ := hf _ _ _ _ _ _ _ _ h
  exact ans_r (Q := QR308v2) (tab := T308v2 c223) (raw := (rawOf RW0)) (LP := W308v2 c223 N) (fu := fuelC) hT hO rfl rfl (Nat.le_of_ble_eq_true rfl) rfl loopOK_nil ((e308v2 c223 N v).trans h1) hw

def T290 (c307 : Int → Option Int) (c19 : Int → Int → Bool → Option ((List Int) × Int)) (c292 : List Int → List Int → Int → Option Int) (d308v2 : Int → List Int → List Int → List Int → List Int → Nat → List Int → Option ((Unit × Unit) × (((List Int) × Unit) × (((Nat × Nat) × Unit) × (((List Int) × Unit) × (((List Int) × Unit) × ((Nat × Unit) × (Unit × ((List Int) × ((List Int) × Unit)))))))))) : Nat → Option Ent
  | 307 => some (en307 c307)
  | 19 => some (en19 c19)
  | 292 => some (en292 c292)
  | _ => none
def RW290 (c307 : Int → Option Int) (c19 : Int → Int → Bool → Option ((List Int) × Int)) (c292 : List Int → List Int → Int → Option Int) (d308v2 : Int → List Int → List Int → List Int → List Int → Nat → List Int → Option ((Unit × Unit) × (((List Int) × Unit) × (((Nat × Nat) × Unit) × (((List Int) × Unit) × (((List Int) × Unit) × ((Nat × Unit) × (Unit × ((List Int) × ((List Int) × Unit)))))))))) : Nat → List REnt
  | 308 => [rn308v2 d308v2]
  | _ => []
def H290_0 : Trim := ⟨0, [(11, (Sh.sl (Sh.int .u8)))], false, [2, 11, 12, 13, 30, 31], [(12, (.ints .u8 []), 1)]⟩
theorem l290_0 : loopN k290 0 = .loop H290_0 (bodyOf (loopN k290 0)) := by kernel_rfl
def P290_0 : Ps := ⟨[(0, .u), (1, .u), (2, (.int .i64)), (3, .u), (4, .u), (6, .u), (7, .u), (8, .u), (9, .u), (11, (.ptr 0 0)), (12, (.ptr 1 0)), (13, (.fn 308 (.cons (.ptr 3 0) (.cons (.ptr 0 0) (.cons (.ptr 4 0) (.cons (.ptr 5 0) (.cons (.ptr 1 0) .nil))))))), (14, .u), (18, .u), (30, (.int .i64)), (31, (.int .i64)), (32, .u)], [(.vals false (.cons (.tb (Sh.int .u8)) .nil)), (.vals false (.cons (.sl 2 1) .nil)), (.ints false .u8), (.vals false (.cons (.tb (Sh.int .u8)) .nil)), (.vals false (.cons (.tb (Sh.int .u8)) .nil)), (.vals false (.cons (.tb (Sh.int .u8)) .nil))]⟩
def Q290_0 : Nat → Ps
  | 0 => ⟨[(0, .u), (1, .u), (2, (.int .i64)), (3, .u), (4, .u), (6, .u), (7, .u), (8, .u), (9, .u), (11, (.ptr 0 0)), (12, (.ptr 1 0)), (13, .u), (14, .u), (18, .u), (30, .u), (31, .u), (32, .u)], [(.vals false (.cons (.tb (Sh.int .u8)) .nil)), (.vals false (.cons (.sl 2 1) .nil)), (.ints false .u8)]⟩
  | _ => noPs
def u290_0 (c307 : Int → Option Int) (c19 : Int → Int → Bool → Option ((List Int) × Int)) (c292 : List Int → List Int → Int → Option Int) (d308v2 : Int → List Int → List Int → List Int → List Int → Nat → List Int → Option ((Unit × Unit) × (((List Int) × Unit) × (((Nat × Nat) × Unit) × (((List Int) × Unit) × (((List Int) × Unit) × ((Nat × Unit) × (Unit × ((List Int) × ((List Int) × Unit)))))))))) (N n : Nat) (v : P290_0.T) (κ : (i : Nat) → (Q290_0 i).T → Option (((Sh.tu (Sh.pr (Sh.sl (Sh.int .u8)) (Sh.int .i64)))).T)) : Option (((Sh.tu (Sh.pr (Sh.sl (Sh.int .u8)) (Sh.int .i64)))).T) :=
  L290_0 c307 c19 c292 d308v2 N (fun (y0 : Int) (y1 : List Int) (y2 : Nat) (y3 : List Int) => κ 0 (((), ((), (y0, ((), ((), ((), ((), ((), ((), ((), ((), ((), ((), ((), ((), ((), ((), ()))))))))))))))))), ((y1, ()), ((y2, ()), (y3, ()))))) n v.1.2.2.1 v.1.2.2.2.2.2.2.2.2.2.2.2.2.2.2.1 v.1.2.2.2.2.2.2.2.2.2.2.2.2.2.2.2.1 v.2.1.1 v.2.2.1.1 v.2.2.2.1 v.2.2.2.2.1.1 v.2.2.2.2.2.1.1 v.2.2.2.2.2.2.1.1
def W290_0 (c307 : Int → Option Int) (c19 : Int → Int → Bool → Option ((List Int) × Int)) (c292 : List Int → List Int → Int → Option Int) (d308v2 : Int → List Int → List Int → List Int → List Int → Nat → List Int → Option ((Unit × Unit) × (((List Int) × Unit) × (((Nat × Nat) × Unit) × (((List Int) × Unit) × (((List Int) × Unit) × ((Nat × Unit) × (Unit × ((List Int) × ((List Int) × Unit)))))))))) (N : Nat) : LoopF (((Sh.tu (Sh.pr (Sh.sl (Sh.int .u8)) (Sh.int .i64)))).T) := fun no =>
  match no with
  | _ => fun _ _ => none
theorem b290_0 (c307 : Int → Option Int) (c19 : Int → Int → Bool → Option ((List Int) × Int)) (c292 : List Int → List Int → Int → Option Int) (d308v2 : Int → List Int → List Int → List Int → List Int → Nat → List Int → Option ((Unit × Unit) × (((List Int) × Unit) × (((Nat × Nat) × Unit) × (((List Int) × Unit) × (((List Int) × Unit) × ((Nat × Unit) × (Unit × ((List Int) × ((List Int) × Unit)))))))))) (N n : Nat) (v : P290_0.T) (κ : (i : Nat) → (Q290_0 i).T → Option (((Sh.tu (Sh.pr (Sh.sl (Sh.int .u8)) (Sh.int .i64)))).T)) :
    evc (T290 c307 c19 c292 d308v2) (rawOf (RW290 c307 c19 c292 d308v2)) (W290_0 c307 c19 c292 d308v2 N) (retc k290.res (Sh.tu (Sh.pr (Sh.sl (Sh.int .u8)) (Sh.int .i64)))) (modeOf FT) 0 fuelC (bodyOf (loopN k290 0)) (P290_0.st v) (roundK 0 H290_0 P290_0 Q290_0 (u290_0 c307 c19 c292 d308v2 N n) κ) = u290_0 c307 c19 c292 d308v2 N (n + 1) v κ := by kernel_rfl
theorem o290_0 (c307 : Int → Option Int) (c19 : Int → Int → Bool → Option ((List Int) × Int)) (c292 : List Int → List Int → Int → Option Int) (d308v2 : Int → List Int → List Int → List Int → List Int → Nat → List Int → Option ((Unit × Unit) × (((List Int) × Unit) × (((Nat × Nat) × Unit) × (((List Int) × Unit) × (((List Int) × Unit) × ((Nat × Unit) × (Unit × ((List Int) × ((List Int) × Unit)))))))))) (hT : TabOK FT XT (T290 c307 c19 c292 d308v2)) (hO : RawOK FT XT (rawOf (α := ((Sh.tu (Sh.pr (Sh.sl (Sh.int .u8)) (Sh.int .i64)))).T) (RW290 c307 c19 c292 d308v2))) (N : Nat) {s : St} {κ : Ex → St → Option (((Sh.tu (Sh.pr (Sh.sl (Sh.int .u8)) (Sh.int .i64)))).T)} {a : ((Sh.tu (Sh.pr (Sh.sl (Sh.int .u8)) (Sh.int .i64)))).T} (h : lpOf 0 H290_0 P290_0 Q290_0 (u290_0 c307 c19 c292 d308v2 N N) s κ = some a) : Out FT XT 0 (retc k290.res (Sh.tu (Sh.pr (Sh.sl (Sh.int .u8)) (Sh.int .i64)))) (loopN k290 0) s κ a := by
  rw [l290_0]
  exact loop_out (LP := W290_0 c307 c19 c292 d308v2 N) (fu := fuelC) hT hO (fun _ _ => rfl) (b290_0 c307 c19 c292 d308v2 N) loopOK_nil N h
def W290 (c307 : Int → Option Int) (c19 : Int → Int → Bool → Option ((List Int) × Int)) (c292 : List Int → List Int → Int → Option Int) (d308v2 : Int → List Int → List Int → List Int → List Int → Nat → List Int → Option ((Unit × Unit) × (((List Int) × Unit) × (((Nat × Nat) × Unit) × (((List Int) × Unit) × (((List Int) × Unit) × ((Nat × Unit) × (Unit × ((List Int) × ((List Int) × Unit)))))))))) (N : Nat) : LoopF (((Sh.tu (Sh.pr (Sh.sl (Sh.int .u8)) (Sh.int .i64)))).T) := fun no =>
  match no with
  | 0 => lpOf 0 H290_0 P290_0 Q290_0 (u290_0 c307 c19 c292 d308v2 N N)
  | _ => fun _ _ => none
theorem e290 (c307 : Int → Option Int) (c19 : Int → Int → Bool → Option ((List Int) × Int)) (c292 : List Int → List Int → Int → Option Int) (d308v2 : Int → List Int → List Int → List Int → List Int → Nat → List Int → Option ((Unit × Unit) × (((List Int) × Unit) × (((Nat × Nat) × Unit) × (((List Int) × Unit) × (((List Int) × Unit) × ((Nat × Unit) × (Unit × ((List Int) × ((List Int) × Unit)))))))))) (N : Nat) (a0 : List Int) (a1 : List Int) (a2 : Int) : evc (T290 c307 c19 c292 d308v2) (rawOf (RW290 c307 c19 c292 d308v2)) (W290 c307 c19 c292 d308v2 N) (retc k290.res (Sh.tu (Sh.pr (Sh.sl (Sh.int .u8)) (Sh.int .i64)))) (modeOf FT) 0 fuelC k290.body (env0 k290 (encL [(Sh.sl (Sh.int .u8)), (Sh.sl (Sh.int .u8)), (Sh.int .i64)] (a0, (a1, (a2, ())))), []) (endK (retc k290.res (Sh.tu (Sh.pr (Sh.sl (Sh.int .u8)) (Sh.int .i64))))) = p290 c307 c19 c292 d308v2 N a0 a1 a2 := by kernel_rfl
theorem ok290 (c307 : Int → Option Int) (c19 : Int → Int → Bool → Option ((List Int) × Int)) (c292 : List Int → List Int → Int → Option Int) (d308v2 : Int → List Int → List Int → List Int → List Int → Nat → List Int → Option ((Unit × Unit) × (((List Int) × Unit) × (((Nat × Nat) × Unit) × (((List Int) × Unit) × (((List Int) × Unit) × ((Nat × Unit) × (Unit × ((List Int) × ((List Int) × Unit)))))))))) (h307 : EntOK FT XT 307 (en307 c307)) (h19 : EntOK FT XT 19 (en19 c19)) (h292 : EntOK FT XT 292 (en292 c292)) (h308v2 : REntOK FT XT 308 (rn308v2 d308v2)) {f : List Int → List Int → Int → Option ((List Int) × Int)} (hf : ∀ a0 a1 a2 r, f a0 a1 a2 = some r → ∃ N, p290 c307 c19 c292 d308v2 N a0 a1 a2 = some r) : EntOK FT XT 290 (en290 f) := by
  have hT : TabOK FT XT (T290 c307 c19 c292 d308v2) := by
    intro g en hg
    unfold T290 at hg
    split at hg <;> first | (injection hg with hg; subst hg; assumption) | cases hg
  have hO0 : RawOK FT XT (rawOf (α := ((Sh.tu (Sh.pr (Sh.sl (Sh.int .u8)) (Sh.int .i64)))).T) (RW290 c307 c19 c292 d308v2)) := by
    refine rawOf_ok (fun g en hg => ?_)
    unfold RW290 at hg
    split at hg <;> simp only [List.mem_cons, List.not_mem_nil, or_false] at hg <;> first | (subst hg; assumption) | (rcases hg with rfl | rfl <;> assumption) | (rcases hg with rfl | rfl | rfl <;> assumption) | (rcases hg with rfl | rfl | rfl | rfl <;> assumption)
  have hO : RawOK FT XT (rawOf (α := ((Sh.tu (Sh.pr (Sh.sl (Sh.int .u8)) (Sh.int .i64)))).T) (RW290 c307 c19 c292 d308v2)) := hO0
  refine ⟨rfl, fun v r h => ?_⟩
  obtain ⟨a0, a1, a2, _⟩ := v
  obtain ⟨N, h1⟩ := hf _ _ _ _ h
  exact ans_c (R := (Sh.tu (Sh.pr (Sh.sl (Sh.int .u8)) (Sh.int .i64)))) (tab := T290 c307 c19 c292 d308v2) (raw := (rawOf (RW290 c307 c19 c292 d308v2))) (LP := W290 c307 c19 c292 d308v2 N) (fu := fuelC) hT hO rfl rfl (Nat.le_of_ble_eq_true rfl) (loopOK_cons l290_0 (fun s κ a h => o290_0 c307 c19 c292 d308v2 hT hO N h) loopOK_nil) ((e290 c307 c19 c292 d308v2 N _ _ _).trans h1)

def T293 (c290 : List Int → List Int → Int → Option ((List Int) × Int)) : Nat → Option Ent
  | 290 => some (en290 c290)
  | _ => none
def W293 (c290 : List Int → List Int → Int → Option ((List Int) × Int)) (N : Nat) : LoopF (((Sh.ar .u8)).T) := fun no =>
  match no with
  | _ => fun _ _ => none
theorem e293 (c290 : List Int → List Int → Int → Option ((List Int) × Int)) (N : Nat) (a0 : List Int) : evc (T293 c290) (rawOf RW0) (W293 c290 N) (retc k293.res (Sh.ar .u8)) (modeOf FT) 0 fuelC k293.body (env0 k293 (encL [(Sh.ar .u8)] (a0, ())), []) (endK (retc k293.res (Sh.ar .u8))) = p293 c290 N a0 := by kernel_rfl
theorem ok293 (c290 : List Int → List Int → Int → Option ((List Int) × Int)) (h290 : EntOK FT XT 290 (en290 c290)) {f : List Int → Option (List Int)} (hf : ∀ a0 r, f a0 = some r → ∃ N, p293 c290 N a0 = some r) : EntOK FT XT 293 (en293 f) := by
  have hT : TabOK FT XT (T293 c290) := by
    intro g en hg
    unfold T293 at hg
    split at hg <;> first | (injection hg with hg; subst hg; assumption) | cases hg
  have hO0 : RawOK FT XT (rawOf (α := ((Sh.ar .u8)).T) RW0) := rawOK0
  have hO : RawOK FT XT (rawOf (α := ((Sh.ar .u8)).T) RW0) := hO0
  refine ⟨rfl, fun v r h => ?_⟩
  obtain ⟨a0, _⟩ := v
  obtain ⟨N, h1⟩ := hf _ _ h
  exact ans_c (R := (Sh.ar .u8)) (tab := T293 c290) (raw := (rawOf RW0)) (LP := W293 c290 N) (fu := fuelC) hT hO rfl rfl (Nat.le_of_ble_eq_true rfl) loopOK_nil ((e293 c290 N _).trans h1)

def T295 (c223 : List Int → List (List Int) → Option (List Int)) : Nat → Option Ent
  | 223 => some (en223 c223)
  | _ => none
def W295 (c223 : List Int → List (List Int) → Option (List Int)) (N : Nat) : LoopF (((Sh.ar .u8)).T) := fun no =>
  match no with
  | _ => fun _ _ => none
theorem e295 (c223 : List Int → List (List Int) → Option (List Int)) (N : Nat) (a0 : List Int) (a1 : List Int) : evc (T295 c223) (rawOf RW0) (W295 c223 N) (retc k295.res (Sh.ar .u8)) (modeOf FT) 0 fuelC k295.body (env0 k295 (encL [(Sh.ar .u8), (Sh.sl (Sh.int .u8))] (a0, (a1, ()))), []) (endK (retc k295.res (Sh.ar .u8))) = p295 c223 N a0 a1 := by kernel_rfl
theorem ok295 (c223 : List Int → List (List Int) → Option (List Int)) (h223 : EntOK FT XT 223 (en223 c223)) {f : List Int → List Int → Option (List Int)} (hf : ∀ a0 a1 r, f a0 a1 = some r → ∃ N, p295 c223 N a0 a1 = some r) : EntOK FT XT 295 (en295 f) := by
  have hT : TabOK FT XT (T295 c223) := by
    intro g en hg
    unfold T295 at hg
    split at hg <;> first | (injection hg with hg; subst hg; assumption) | cases hg
  have hO0 : RawOK FT XT (rawOf (α := ((Sh.ar .u8)).T) RW0) := rawOK0
  have hO : RawOK FT XT (rawOf (α := ((Sh.ar .u8)).T) RW0) := hO0
  refine ⟨rfl, fun v r h => ?_⟩
  obtain ⟨a0, a1, _⟩ := v
  obtain ⟨N, h1⟩ := hf _ _ _ h
  exact ans_c (R := (Sh.ar .u8)) (tab := T295 c223) (raw := (rawOf RW0)) (LP := W295 c223 N) (fu := fuelC) hT hO rfl rfl (Nat.le_of_ble_eq_true rfl) loopOK_nil ((e295 c223 N _ _).trans h1)

def T296 (c226 : List Int → List Int → List (List Int) → Option Bool) : Nat → Option Ent
  | 226 => some (en226 c226)
  | _ => none
def W296 (c226 : List Int → List Int → List (List Int) → Option Bool) (N : Nat) : LoopF (Sh.bool).T := fun no =>
  match no with
  | _ => fun _ _ => none
theorem e296 (c226 : List Int → List Int → List (List Int) → Option Bool) (N : Nat) (a0 : List Int) (a1 : List Int) (a2 : List Int) : evc (T296 c226) (rawOf RW0) (W296 c226 N) (retc k296.res Sh.bool) (modeOf FT) 0 fuelC k296.body (env0 k296 (encL [(Sh.ar .u8), (Sh.sl (Sh.int .u8)), (Sh.sl (Sh.int .u8))] (a0, (a1, (a2, ())))), []) (endK (retc k296.res Sh.bool)) = p296 c226 N a0 a1 a2 := by kernel_rfl
theorem ok296 (c226 : List Int → List Int → List (List Int) → Option Bool) (h226 : EntOK FT XT 226 (en226 c226)) {f : List Int → List Int → List Int → Option Bool} (hf : ∀ a0 a1 a2 r, f a0 a1 a2 = some r → ∃ N, p296 c226 N a0 a1 a2 = some r) : EntOK FT XT 296 (en296 f) := by
  have hT : TabOK FT XT (T296 c226) := by
    intro g en hg
    unfold T296 at hg
    split at hg <;> first | (injection hg with hg; subst hg; assumption) | cases hg
  have hO0 : RawOK FT XT (rawOf (α := (Sh.bool).T) RW0) := rawOK0
  have hO : RawOK FT XT (rawOf (α := (Sh.bool).T) RW0) := hO0
  refine ⟨rfl, fun v r h => ?_⟩
  obtain ⟨a0, a1, a2, _⟩ := v
  obtain ⟨N, h1⟩ := hf _ _ _ _ h
  exact ans_c (R := Sh.bool) (tab := T296 c226) (raw := (rawOf RW0)) (LP := W296 c226 N) (fu := fuelC) hT hO rfl rfl (Nat.le_of_ble_eq_true rfl) loopOK_nil ((e296 c226 N _ _ _).trans h1)

def T289 (c290 : List Int → List Int → Int → Option ((List Int) × Int)) (c293 : List Int → Option (List Int)) (c295 : List Int → List Int → Option (List Int)) (c296 : List Int → List Int → List Int → Option Bool) (c292 : List Int → List Int → Int → Option Int) : Nat → Option Ent
  | 290 => some (en290 c290)
  | 293 => some (en293 c293)
  | 295 => some (en295 c295)
  | 296 => some (en296 c296)
  | 292 => some (en292 c292)
  | _ => none
def W289 (c290 : List Int → List Int → Int → Option ((List Int) × Int)) (c293 : List Int → Option (List Int)) (c295 : List Int → List Int → Option (List Int)) (c296 : List Int → List Int → List Int → Option Bool) (c292 : List Int → List Int → Int → Option Int) (N : Nat) : LoopF (Sh.bool).T := fun no =>
  match no with
  | _ => fun _ _ => none
theorem e289 (c290 : List Int → List Int → Int → Option ((List Int) × Int)) (c293 : List Int → Option (List Int)) (c295 : List Int → List Int → Option (List Int)) (c296 : List Int → List Int → List Int → Option Bool) (c292 : List Int → List Int → Int → Option Int) (N : Nat)  : evc (T289 c290 c293 c295 c296 c292) (rawOf RW0) (W289 c290 c293 c295 c296 c292 N) (retc k289.res Sh.bool) (modeOf FT) 0 fuelC k289.body (env0 k289 (encL [] ()), []) (endK (retc k289.res Sh.bool)) = p289 c290 c293 c295 c296 c292 N  := by kernel_rfl
theorem ok289 (c290 : List Int → List Int → Int → Option ((List Int) × Int)) (c293 : List Int → Option (List Int)) (c295 : List Int → List Int → Option (List Int)) (c296 : List Int → List Int → List Int → Option Bool) (c292 : List Int → List Int → Int → Option Int) (h290 : EntOK FT XT 290 (en290 c290)) (h293 : EntOK FT XT 293 (en293 c293)) (h295 : EntOK FT XT 295 (en295 c295)) (h296 : EntOK FT XT 296 (en296 c296)) (h292 : EntOK FT XT 292 (en292 c292)) {f : Option Bool} (hf : ∀  r, f  = some r → ∃ N, p289 c290 c293 c295 c296 c292 N  = some r) : EntOK FT XT 289 (en289 f) := by
  have hT : TabOK FT XT (T289 c290 c293 c295 c296 c292) := by
    intro g en hg
    unfold T289 at hg
    split at hg <;> first | (injection hg with hg; subst hg; assumption) | cases hg
  have hO0 : RawOK FT XT (rawOf (α := (Sh.bool).T) RW0) := rawOK0
  have hO : RawOK FT XT (rawOf (α := (Sh.bool).T) RW0) := hO0
  refine ⟨rfl, fun v r h => ?_⟩
  obtain ⟨N, h1⟩ := hf _ h
  exact ans_c (R := Sh.bool) (tab := T289 c290 c293 c295 c296 c292) (raw := (rawOf RW0)) (LP := W289 c290 c293 c295 c296 c292 N) (fu := fuelC) hT hO rfl rfl (Nat.le_of_ble_eq_true rfl) loopOK_nil ((e289 c290 c293 c295 c296 c292 N ).trans h1)

def T291 (c222 : List Int → List Int → Option (List Int)) : Nat → Option Ent
  | 222 => some (en222 c222)
  | _ => none
def H291_0 : Trim := ⟨0, [(10, (Sh.sl (Sh.int .u8)))], false, [0, 1, 2, 9, 10, 11], [(9, (.ints .u8 []), 1)]⟩
theorem l291_0 : loopN k291 0 = .loop H291_0 (bodyOf (loopN k291 0)) := by kernel_rfl
def P291_0 : Ps := ⟨[(0, (.tb (Sh.int .u8))), (1, (.tb (Sh.int .u8))), (2, (.int .i64)), (6, .u), (7, .u), (8, .u), (9, (.sl 0 1)), (10, (.tb (Sh.int .u8))), (11, (.int .i64)), (12, .u), (13, .u), (15, .u), (17, .u), (21, .u)], [(.ints false .u8)]⟩
def Q291_0 : Nat → Ps
  | 0 => ⟨[(0, .u), (1, .u), (2, (.int .i64)), (6, .u), (7, .u), (8, .u), (9, (.sl 0 1)), (10, .u), (11, (.int .i64)), (12, .u), (13, .u), (15, .u), (17, .u), (21, .u)], [(.ints false .u8)]⟩
  | _ => noPs
def u291_0 (c222 : List Int → List Int → Option (List Int)) (N n : Nat) (v : P291_0.T) (κ : (i : Nat) → (Q291_0 i).T → Option (((Sh.tu (Sh.pr (Sh.sl (Sh.int .u8)) (Sh.pr (Sh.int .i64) (Sh.int .i64))))).T)) : Option (((Sh.tu (Sh.pr (Sh.sl (Sh.int .u8)) (Sh.pr (Sh.int .i64) (Sh.int .i64))))).T) :=
  L291_0 c222 N (fun (y0 : Int) (y1 : Nat) (y2 : Int) (y3 : List Int) => κ 0 (((), ((), (y0, ((), ((), ((), (y1, ((), (y2, ((), ((), ((), ((), ((), ())))))))))))))), (y3, ()))) n v.1.1 v.1.2.1 v.1.2.2.1 v.1.2.2.2.2.2.2.1 v.1.2.2.2.2.2.2.2.1 v.1.2.2.2.2.2.2.2.2.1 v.2.1
def W291_0 (c222 : List Int → List Int → Option (List Int)) (N : Nat) : LoopF (((Sh.tu (Sh.pr (Sh.sl (Sh.int .u8)) (Sh.pr (Sh.int .i64) (Sh.int .i64))))).T) := fun no =>
  match no with
  | _ => fun _ _ => none
theorem b291_0 (c222 : List Int → List Int → Option (List Int)) (N n : Nat) (v : P291_0.T) (κ : (i : Nat) → (Q291_0 i).T → Option (((Sh.tu (Sh.pr (Sh.sl (Sh.int .u8)) (Sh.pr (Sh.int .i64) (Sh.int .i64))))).T)) :
    evc (T291 c222) (rawOf RW0) (W291_0 c222 N) (retc k291.res (Sh.tu (Sh.pr (Sh.sl (Sh.int .u8)) (Sh.pr (Sh.int .i64) (Sh.int .i64))))) (modeOf FT) 0 fuelC (bodyOf (loopN k291 0)) (P291_0.st v) (roundK 0 H291_0 P291_0 Q291_0 (u291_0 c222 N n) κ) = u291_0 c222 N (n + 1) v κ := by kernel_rfl
theorem o291_0 (c222 : List Int → List Int → Option (List Int)) (hT : TabOK FT XT (T291 c222)) (hO : RawOK FT XT (rawOf (α := ((Sh.tu (Sh.pr (Sh.sl (Sh.int .u8)) (Sh.pr (Sh.int .i64) (Sh.int .i64))))).T) RW0)) (N : Nat) {s : St} {κ : Ex → St → Option (((Sh.tu (Sh.pr (Sh.sl (Sh.int .u8)) (Sh.pr (Sh.int .i64) (Sh.int .i64))))).T)} {a : ((Sh.tu (Sh.pr (Sh.sl (Sh.int .u8)) (Sh.pr (Sh.int .i64) (Sh.int .i64))))).T} (h : lpOf 0 H291_0 P291_0 Q291_0 (u291_0 c222 N N) s κ = some a) : Out FT XT 0 (retc k291.res (Sh.tu (Sh.pr (Sh.sl (Sh.int .u8)) (Sh.pr (Sh.int .i64) (Sh.int .i64))))) (loopN k291 0) s κ a := by
  rw [l291_0]
  exact loop_out (LP := W291_0 c222 N) (fu := fuelC) hT hO (fun _ _ => rfl) (b291_0 c222 N) loopOK_nil N h
def W291 (c222 : List Int → List Int → Option (List Int)) (N : Nat) : LoopF (((Sh.tu (Sh.pr (Sh.sl (Sh.int .u8)) (Sh.pr (Sh.int .i64) (Sh.int .i64))))).T) := fun no =>
  match no with
  | 0 => lpOf 0 H291_0 P291_0 Q291_0 (u291_0 c222 N N)
  | _ => fun _ _ => none
theorem e291 (c222 : List Int → List Int → Option (List Int)) (N : Nat) (a0 : List Int) (a1 : List Int) (a2 : Int) : evc (T291 c222) (rawOf RW0) (W291 c222 N) (retc k291.res (Sh.tu (Sh.pr (Sh.sl (Sh.int .u8)) (Sh.pr (Sh.int .i64) (Sh.int .i64))))) (modeOf FT) 0 fuelC k291.body (env0 k291 (encL [(Sh.sl (Sh.int .u8)), (Sh.sl (Sh.int .u8)), (Sh.int .i64)] (a0, (a1, (a2, ())))), []) (endK (retc k291.res (Sh.tu (Sh.pr (Sh.sl (Sh.int .u8)) (Sh.pr (Sh.int .i64) (Sh.int .i64)))))) = p291 c222 N a0 a1 a2 := by kernel_rfl
theorem ok291 (c222 : List Int → List Int → Option (List Int)) (h222 : EntOK FT XT 222 (en222 c222)) {f : List Int → List Int → Int → Option ((List Int) × Int × Int)} (hf : ∀ a0 a1 a2 r, f a0 a1 a2 = some r → ∃ N, p291 c222 N a0 a1 a2 = some r) : EntOK FT XT 291 (en291 f) := by
  have hT : TabOK FT XT (T291 c222) := by
    intro g en hg
    unfold T291 at hg
    split at hg <;> first | (injection hg with hg; subst hg; assumption) | cases hg
  have hO0 : RawOK FT XT (rawOf (α := ((Sh.tu (Sh.pr (Sh.sl (Sh.int .u8)) (Sh.pr (Sh.int .i64) (Sh.int .i64))))).T) RW0) := rawOK0
  have hO : RawOK FT XT (rawOf (α := ((Sh.tu (Sh.pr (Sh.sl (Sh.int .u8)) (Sh.pr (Sh.int .i64) (Sh.int .i64))))).T) RW0) := hO0
  refine ⟨rfl, fun v r h => ?_⟩
  obtain ⟨a0, a1, a2, _⟩ := v
  obtain ⟨N, h1⟩ := hf _ _ _ _ h
  exact ans_c (R := (Sh.tu (Sh.pr (Sh.sl (Sh.int .u8)) (Sh.pr (Sh.int .i64) (Sh.int .i64))))) (tab := T291 c222) (raw := (rawOf RW0)) (LP := W291 c222 N) (fu := fuelC) hT hO rfl rfl (Nat.le_of_ble_eq_true rfl) (loopOK_cons l291_0 (fun s κ a h => o291_0 c222 hT hO N h) loopOK_nil) ((e291 c222 N _ _ _).trans h1)

def T284 (c289 : Option Bool) (c290 : List Int → List Int → Int → Option ((List Int) × Int)) (c291 : List Int → List Int → Int → Option ((List Int) × Int × Int)) (c23 : List Int → List Int → Option Bool) (c292 : List Int → List Int → Int → Option Int) : Nat → Option Ent
  | 289 => some (en289 c289)
  | 290 => some (en290 c290)
  | 291 => some (en291 c291)
  | 23 => some (en23 c23)
  | 292 => some (en292 c292)
  | _ => none
def W284 (c289 : Option Bool) (c290 : List Int → List Int → Int → Option ((List Int) × Int)) (c291 : List Int → List Int → Int → Option ((List Int) × Int × Int)) (c23 : List Int → List Int → Option Bool) (c292 : List Int → List Int → Int → Option Int) (N : Nat) : LoopF (Sh.bool).T := fun no =>
  match no with
  | _ => fun _ _ => none
theorem e284 (c289 : Option Bool) (c290 : List Int → List Int → Int → Option ((List Int) × Int)) (c291 : List Int → List Int → Int → Option ((List Int) × Int × Int)) (c23 : List Int → List Int → Option Bool) (c292 : List Int → List Int → Int → Option Int) (N : Nat) (a0 : List Int) (a1 : List Int) (a2 : Int) : evc (T284 c289 c290 c291 c23 c292) (rawOf RW0) (W284 c289 c290 c291 c23 c292 N) (retc k284.res Sh.bool) (modeOf FT) 0 fuelC k284.body (env0 k284 (encL [(Sh.sl (Sh.int .u8)), (Sh.sl (Sh.int .u8)), (Sh.int .i64)] (a0, (a1, (a2, ())))), []) (endK (retc k284.res Sh.bool)) = p284 c289 c290 c291 c23 c292 N a0 a1 a2 := by kernel_rfl
theorem ok284 (c289 : Option Bool) (c290 : List Int → List Int → Int → Option ((List Int) × Int)) (c291 : List Int → List Int → Int → Option ((List Int) × Int × Int)) (c23 : List Int → List Int → Option Bool) (c292 : List Int → List Int → Int → Option Int) (h289 : EntOK FT XT 289 (en289 c289)) (h290 : EntOK FT XT 290 (en290 c290)) (h291 : EntOK FT XT 291 (en291 c291)) (h23 : EntOK FT XT 23 (en23 c23)) (h292 : EntOK FT XT 292 (en292 c292)) {f : List Int → List Int → Int → Option Bool} (hf : ∀ a0 a1 a2 r, f a0 a1 a2 = some r → ∃ N, p284 c289 c290 c291 c23 c292 N a0 a1 a2 = some r) : EntOK FT XT 284 (en284 f) := by
  have hT : TabOK FT XT (T284 c289 c290 c291 c23 c292) := by
    intro g en hg
    unfold T284 at hg
    split at hg <;> first | (injection hg with hg; subst hg; assumption) | cases hg
  have hO0 : RawOK FT XT (rawOf (α := (Sh.bool).T) RW0) := rawOK0
  have hO : RawOK FT XT (rawOf (α := (Sh.bool).T) RW0) := hO0
  refine ⟨rfl, fun v r h => ?_⟩
  obtain ⟨a0, a1, a2, _⟩ := v
  obtain ⟨N, h1⟩ := hf _ _ _ _ h
  exact ans_c (R := Sh.bool) (tab := T284 c289 c290 c291 c23 c292) (raw := (rawOf RW0)) (LP := W284 c289 c290 c291 c23 c292 N) (fu := fuelC) hT hO rfl rfl (Nat.le_of_ble_eq_true rfl) loopOK_nil ((e284 c289 c290 c291 c23 c292 N _ _ _).trans h1)

def T294 (c291 : List Int → List Int → Int → Option ((List Int) × Int × Int)) : Nat → Option Ent
  | 291 => some (en291 c291)
  | _ => none
def H294_0 : Trim := ⟨0, [], false, [2, 3, 6, 7], []⟩
theorem l294_0 : loopN k294 0 = .loop H294_0 (bodyOf (loopN k294 0)) := by kernel_rfl
def P294_0 : Ps := ⟨[(0, .u), (1, .u), (2, (.ptr 0 0)), (3, (.tb (Sh.int .u8))), (6, (.ptr 1 0)), (7, (.int .i64)), (17, .u)], [(.ints false .u8), (.ints false .u8)]⟩
def Q294_0 : Nat → Ps
  | 0 => ⟨[(0, .u), (1, .u), (2, (.ptr 0 0)), (3, .u), (6, (.ptr 1 0)), (7, .u), (17, .u)], [(.ints false .u8), (.ints false .u8)]⟩
  | _ => noPs
def u294_0 (c291 : List Int → List Int → Int → Option ((List Int) × Int × Int)) (N n : Nat) (v : P294_0.T) (κ : (i : Nat) → (Q294_0 i).T → Option (((Sh.ar .u8)).T)) : Option (((Sh.ar .u8)).T) :=
  L294_0 c291 N (fun (y0 : List Int) (y1 : List Int) => κ 0 (((), ((), ((), ((), ((), ((), ((), ()))))))), (y0, (y1, ())))) n v.1.2.2.2.1 v.1.2.2.2.2.2.1 v.2.1 v.2.2.1
def W294_0 (c291 : List Int → List Int → Int → Option ((List Int) × Int × Int)) (N : Nat) : LoopF (((Sh.ar .u8)).T) := fun no =>
  match no with
  | _ => fun _ _ => none
theorem b294_0 (c291 : List Int → List Int → Int → Option ((List Int) × Int × Int)) (N n : Nat) (v : P294_0.T) (κ : (i : Nat) → (Q294_0 i).T → Option (((Sh.ar .u8)).T)) :
    evc (T294 c291) (rawOf RW0) (W294_0 c291 N) (retc k294.res (Sh.ar .u8)) (modeOf FT) 0 fuelC (bodyOf (loopN k294 0)) (P294_0.st v) (roundK 0 H294_0 P294_0 Q294_0 (u294_0 c291 N n) κ) = u294_0 c291 N (n + 1) v κ := by kernel_rfl
theorem o294_0 (c291 : List Int → List Int → Int → Option ((List Int) × Int × Int)) (hT : TabOK FT XT (T294 c291)) (hO : RawOK FT XT (rawOf (α := ((Sh.ar .u8)).T) RW0)) (N : Nat) {s : St} {κ : Ex → St → Option (((Sh.ar .u8)).T)} {a : ((Sh.ar .u8)).T} (h : lpOf 0 H294_0 P294_0 Q294_0 (u294_0 c291 N N) s κ = some a) : Out FT XT 0 (retc k294.res (Sh.ar .u8)) (loopN k294 0) s κ a := by
  rw [l294_0]
  exact loop_out (LP := W294_0 c291 N) (fu := fuelC) hT hO (fun _ _ => rfl) (b294_0 c291 N) loopOK_nil N h
def W294 (c291 : List Int → List Int → Int → Option ((List Int) × Int × Int)) (N : Nat) : LoopF (((Sh.ar .u8)).T) := fun no =>
  match no with
  | 0 => lpOf 0 H294_0 P294_0 Q294_0 (u294_0 c291 N N)
  | _ => fun _ _ => none
theorem e294 (c291 : List Int → List Int → Int → Option ((List Int) × Int × Int)) (N : Nat) (a0 : List Int) : evc (T294 c291) (rawOf RW0) (W294 c291 N) (retc k294.res (Sh.ar .u8)) (modeOf FT) 0 fuelC k294.body (env0 k294 (encL [(Sh.ar .u8)] (a0, ())), []) (endK (retc k294.res (Sh.ar .u8))) = p294 c291 N a0 := by kernel_rfl
theorem ok294 (c291 : List Int → List Int → Int → Option ((List Int) × Int × Int)) (h291 : EntOK FT XT 291 (en291 c291)) {f : List Int → Option (List Int)} (hf : ∀ a0 r, f a0 = some r → ∃ N, p294 c291 N a0 = some r) : EntOK FT XT 294 (en294 f) := by
  have hT : TabOK FT XT (T294 c291) := by
    intro g en hg
    unfold T294 at hg
    split at hg <;> first | (injection hg with hg; subst hg; assumption) | cases hg
  have hO0 : RawOK FT XT (rawOf (α := ((Sh.ar .u8)).T) RW0) := rawOK0
  have hO : RawOK FT XT (rawOf (α := ((Sh.ar .u8)).T) RW0) := hO0
  refine ⟨rfl, fun v r h => ?_⟩
  obtain ⟨a0, _⟩ := v
  obtain ⟨N, h1⟩ := hf _ _ h
  exact ans_c (R := (Sh.ar .u8)) (tab := T294 c291) (raw := (rawOf RW0)) (LP := W294 c291 N) (fu := fuelC) hT hO rfl rfl (Nat.le_of_ble_eq_true rfl) (loopOK_cons l294_0 (fun s κ a h => o294_0 c291 hT hO N h) loopOK_nil) ((e294 c291 N _).trans h1)

def T285 (c289 : Option Bool) (c293 : List Int → Option (List Int)) (c222 : List Int → List Int → Option (List Int)) (c294 : List Int → Option (List Int)) (c295 : List Int → List Int → Option (List Int)) (c296 : List Int → List Int → List Int → Option Bool) (c23 : List Int → List Int → Option Bool) : Nat → Option Ent
  | 289 => some (en289 c289)
  | 293 => some (en293 c293)
  | 222 => some (en222 c222)
  | 294 => some (en294 c294)
  | 295 => some (en295 c295)
  | 296 => some (en296 c296)
  | 23 => some (en23 c23)
  | _ => none
def W285 (c289 : Option Bool) (c293 : List Int → Option (List Int)) (c222 : List Int → List Int → Option (List Int)) (c294 : List Int → Option (List Int)) (c295 : List Int → List Int → Option (List Int)) (c296 : List Int → List Int → List Int → Option Bool) (c23 : List Int → List Int → Option Bool) (N : Nat) : LoopF (Sh.bool).T := fun no =>
  match no with
  | _ => fun _ _ => none
theorem e285 (c289 : Option Bool) (c293 : List Int → Option (List Int)) (c222 : List Int → List Int → Option (List Int)) (c294 : List Int → Option (List Int)) (c295 : List Int → List Int → Option (List Int)) (c296 : List Int → List Int → List Int → Option Bool) (c23 : List Int → List Int → Option Bool) (N : Nat) (a0 : List Int) (a1 : List Int) (a2 : List Int) : evc (T285 c289 c293 c222 c294 c295 c296 c23) (rawOf RW0) (W285 c289 c293 c222 c294 c295 c296 c23 N) (retc k285.res Sh.bool) (modeOf FT) 0 fuelC k285.body (env0 k285 (encL [(Sh.ar .u8), (Sh.sl (Sh.int .u8)), (Sh.sl (Sh.int .u8))] (a0, (a1, (a2, ())))), []) (endK (retc k285.res Sh.bool)) = p285 c289 c293 c222 c294 c295 c296 c23 N a0 a1 a2 := by kernel_rfl
theorem ok285 (c289 : Option Bool) (c293 : List Int → Option (List Int)) (c222 : List Int → List Int → Option (List Int)) (c294 : List Int → Option (List Int)) (c295 : List Int → List Int → Option (List Int)) (c296 : List Int → List Int → List Int → Option Bool) (c23 : List Int → List Int → Option Bool) (h289 : EntOK FT XT 289 (en289 c289)) (h293 : EntOK FT XT 293 (en293 c293)) (h222 : EntOK FT XT 222 (en222 c222)) (h294 : EntOK FT XT 294 (en294 c294)) (h295 : EntOK FT XT 295 (en295 c295)) (h296 : EntOK FT XT 296 (en296 c296)) (h23 : EntOK FT XT 23 (en23 c23)) {f : List Int → List Int → List Int → Option Bool} (hf : ∀ a0 a1 a2 r, f a0 a1 a2 = some r → ∃ N, p285 c289 c293 c222 c294 c295 c296 c23 N a0 a1 a2 = some r) : EntOK FT XT 285 (en285 f) := by
  have hT : TabOK FT XT (T285 c289 c293 c222 c294 c295 c296 c23) := by
    intro g en hg
    unfold T285 at hg
    split at hg <;> first | (injection hg with hg; subst hg; assumption) | cases hg
  have hO0 : RawOK FT XT (rawOf (α := (Sh.bool).T) RW0) := rawOK0
  have hO : RawOK FT XT (rawOf (α := (Sh.bool).T) RW0) := hO0
  refine ⟨rfl, fun v r h => ?_⟩
  obtain ⟨a0, a1, a2, _⟩ := v
  obtain ⟨N, h1⟩ := hf _ _ _ _ h
  exact ans_c (R := Sh.bool) (tab := T285 c289 c293 c222 c294 c295 c296 c23) (raw := (rawOf RW0)) (LP := W285 c289 c293 c222 c294 c295 c296 c23 N) (fu := fuelC) hT hO rfl rfl (Nat.le_of_ble_eq_true rfl) loopOK_nil ((e285 c289 c293 c222 c294 c295 c296 c23 N _ _ _).trans h1)

def T286 (c289 : Option Bool) (c290 : List Int → List Int → Int → Option ((List Int) × Int)) (c292 : List Int → List Int → Int → Option Int) (c23 : List Int → List Int → Option Bool) : Nat → Option Ent
  | 289 => some (en289 c289)
  | 290 => some (en290 c290)
  | 292 => some (en292 c292)
  | 23 => some (en23 c23)
  | _ => none
def W286 (c289 : Option Bool) (c290 : List Int → List Int → Int → Option ((List Int) × Int)) (c292 : List Int → List Int → Int → Option Int) (c23 : List Int → List Int → Option Bool) (N : Nat) : LoopF (Sh.bool).T := fun no =>
  match no with
  | _ => fun _ _ => none
theorem e286 (c289 : Option Bool) (c290 : List Int → List Int → Int → Option ((List Int) × Int)) (c292 : List Int → List Int → Int → Option Int) (c23 : List Int → List Int → Option Bool) (N : Nat) (a0 : List Int) (a1 : List Int) (a2 : List Int) : evc (T286 c289 c290 c292 c23) (rawOf RW0) (W286 c289 c290 c292 c23 N) (retc k286.res Sh.bool) (modeOf FT) 0 fuelC k286.body (env0 k286 (encL [(Sh.sl (Sh.int .u8)), (Sh.sl (Sh.int .u8)), (Sh.ar .u16)] (a0, (a1, (a2, ())))), []) (endK (retc k286.res Sh.bool)) = p286 c289 c290 c292 c23 N a0 a1 a2 := by kernel_rfl
theorem ok286 (c289 : Option Bool) (c290 : List Int → List Int → Int → Option ((List Int) × Int)) (c292 : List Int → List Int → Int → Option Int) (c23 : List Int → List Int → Option Bool) (h289 : EntOK FT XT 289 (en289 c289)) (h290 : EntOK FT XT 290 (en290 c290)) (h292 : EntOK FT XT 292 (en292 c292)) (h23 : EntOK FT XT 23 (en23 c23)) {f : List Int → List Int → List Int → Option Bool} (hf : ∀ a0 a1 a2 r, f a0 a1 a2 = some r → ∃ N, p286 c289 c290 c292 c23 N a0 a1 a2 = some r) : EntOK FT XT 286 (en286 f) := by
  have hT : TabOK FT XT (T286 c289 c290 c292 c23) := by
    intro g en hg
    unfold T286 at hg
    split at hg <;> first | (injection hg with hg; subst hg; assumption) | cases hg
  have hO0 : RawOK FT XT (rawOf (α := (Sh.bool).T) RW0) := rawOK0
  have hO : RawOK FT XT (rawOf (α := (Sh.bool).T) RW0) := hO0
  refine ⟨rfl, fun v r h => ?_⟩
  obtain ⟨a0, a1, a2, _⟩ := v
  obtain ⟨N, h1⟩ := hf _ _ _ _ h
  exact ans_c (R := Sh.bool) (tab := T286 c289 c290 c292 c23) (raw := (rawOf RW0)) (LP := W286 c289 c290 c292 c23 N) (fu := fuelC) hT hO rfl rfl (Nat.le_of_ble_eq_true rfl) loopOK_nil ((e286 c289 c290 c292 c23 N _ _ _).trans h1)
end Go.Proofs.YtciafmcbccgggaaE
