/- The plain functions are the evaluator's. -/
import Derived.Test.YtjkdflcccoeggaaEvGJ2
import Derived.KernelRfl
namespace Go.Proofs.YtjkdflcccoeggaaE
open Go
set_option linter.unusedVariables false
set_option linter.unusedSimpArgs false

def T64v0 : Nat → Option Ent
  | _ => none
def W64v0 (N : Nat) : LoopF QR64v0.T := fun no =>
  match no with
  | _ => fun _ _ => none
theorem e64v0 (N : Nat) (v : PR64v0.T) : evc (T64v0) (rawOf RW0) (W64v0 N) (retr k64.res 0 QR64v0) (modeOf FT) 0 fuelC k64.body (env0 k64 (PR64v0.a.st v.1), stH PR64v0.h v.2) (endK (retr k64.res 0 QR64v0)) = p64v0 N v.1.2.1 := by kernel_rfl
theorem ok64v0 {f : Int → Option ((Nat × Unit) × ((List Int) × Unit))} (hf : ∀ a0 r, f a0 = some r → ∃ N, p64v0 N a0 = some r) : REntOK FT XT 64 (rn64v0 f) := by
  have hT : TabOK FT XT (T64v0) := by
    intro g en hg
    unfold T64v0 at hg
    split at hg <;> first | (injection hg with hg; subst hg; assumption) | cases hg
  have hO0 : RawOK FT XT (rawOf (α := QR64v0.T) RW0) := rawOK0
  have hO : RawOK FT XT (rawOf (α := QR64v0.T) RW0) := hO0
  intro v r w h hw
  obtain ⟨N, h1⟩ := hf _ _ h
  exact ans_r (Q := QR64v0) (tab := T64v0) (raw := (rawOf RW0)) (LP := W64v0 N) (fu := fuelC) hT hO rfl rfl (Nat.le_of_ble_eq_true rfl) rfl loopOK_nil ((e64v0 N v).trans h1) hw

def T1 (d64v0 : Int → Option ((Nat × Unit) × ((List Int) × Unit))) : Nat → Option Ent
  | _ => none
def RW1 (d64v0 : Int → Option ((Nat × Unit) × ((List Int) × Unit))) : Nat → List REnt
  | 64 => [rn64v0 d64v0]
  | _ => []
def H1_1 : Trim := ⟨1, [], false, [6, 25, 26, 27], []⟩
theorem l1_1 : loopN k1 1 = .loop H1_1 (bodyOf (loopN k1 1)) := by kernel_rfl
def P1_1 : Ps := ⟨[(0, .u), (2, .u), (3, .u), (5, .u), (6, (.sl 0 1)), (8, .u), (9, .u), (10, .u), (11, .u), (12, .u), (20, .u), (25, (.tb (Sh.sl (Sh.int .u8)))), (26, (.int .i64)), (27, (.int .i64)), (28, .u)], [(.ints false .u8)]⟩
def Q1_1 : Nat → Ps
  | 2 => ⟨[(0, .u), (2, .u), (3, .u), (5, .u), (6, (.sl 0 1)), (8, .u), (9, .u), (10, .u), (11, .u), (12, .u), (20, .u), (25, .u), (26, .u), (27, .u), (28, .u)], [(.ints false .u8)]⟩
  | _ => noPs
def u1_1 (d64v0 : Int → Option ((Nat × Unit) × ((List Int) × Unit))) (N n : Nat) (v : P1_1.T) (κ : (i : Nat) → (Q1_1 i).T → Option (List Int)) : Option (List Int) :=
  L1_1 d64v0 N (fun (y0 : Nat) (y1 : List Int) => κ 2 (((), ((), ((), ((), (y0, ((), ((), ((), ((), ((), ((), ((), ((), ((), ((), ()))))))))))))))), (y1, ()))) n v.1.2.2.2.2.1 v.1.2.2.2.2.2.2.2.2.2.2.2.1 v.1.2.2.2.2.2.2.2.2.2.2.2.2.1 v.1.2.2.2.2.2.2.2.2.2.2.2.2.2.1 v.2.1
def W1_1 (d64v0 : Int → Option ((Nat × Unit) × ((List Int) × Unit))) (N : Nat) : LoopF (List Int) := fun no =>
  match no with
  | _ => fun _ _ => none
theorem b1_1 (d64v0 : Int → Option ((Nat × Unit) × ((List Int) × Unit))) (N n : Nat) (v : P1_1.T) (κ : (i : Nat) → (Q1_1 i).T → Option (List Int)) :
    evc (T1 d64v0) (rawOf (RW1 d64v0)) (W1_1 d64v0 N) (reto k1.res .u8) (modeOf FT) 0 fuelC (bodyOf (loopN k1 1)) (P1_1.st v) (roundK 0 H1_1 P1_1 Q1_1 (u1_1 d64v0 N n) κ) = u1_1 d64v0 N (n + 1) v κ := by kernel_rfl
theorem o1_1 (d64v0 : Int → Option ((Nat × Unit) × ((List Int) × Unit))) (hT : TabOK FT XT (T1 d64v0)) (hO : RawOK FT XT (rawOf (α := List Int) (RW1 d64v0))) (N : Nat) {s : St} {κ : Ex → St → Option (List Int)} {a : List Int} (h : lpOf 0 H1_1 P1_1 Q1_1 (u1_1 d64v0 N N) s κ = some a) : Out FT XT 0 (reto k1.res .u8) (loopN k1 1) s κ a := by
  rw [l1_1]
  exact loop_out (LP := W1_1 d64v0 N) (fu := fuelC) hT hO (fun _ _ => rfl) (b1_1 d64v0 N) loopOK_nil N h
def H1_0 : Trim := ⟨0, [], false, [0, 3, 9, 10, 11], []⟩
theorem l1_0 : loopN k1 0 = .loop H1_0 (bodyOf (loopN k1 0)) := by kernel_rfl
def P1_0 : Ps := ⟨[(0, (.tb (Sh.sl (Sh.int .u8)))), (2, .u), (3, (.int .i64)), (5, .u), (6, .u), (8, .u), (9, (.tb (Sh.sl (Sh.int .u8)))), (10, (.int .i64)), (11, (.int .i64)), (12, .u), (20, .u), (25, .u), (26, .u), (27, .u), (28, .u)], []⟩
def Q1_0 : Nat → Ps
  | 0 => ⟨[(0, (.tb (Sh.sl (Sh.int .u8)))), (2, .u), (3, (.int .i64)), (5, .u), (6, .u), (8, .u), (9, .u), (10, .u), (11, .u), (12, .u), (20, .u), (25, .u), (26, .u), (27, .u), (28, .u)], []⟩
  | _ => noPs
def u1_0 (d64v0 : Int → Option ((Nat × Unit) × ((List Int) × Unit))) (N n : Nat) (v : P1_0.T) (κ : (i : Nat) → (Q1_0 i).T → Option (List Int)) : Option (List Int) :=
  L1_0 d64v0 N (fun (y0 : List (List Int)) (y1 : Int) => κ 0 ((y0, ((), (y1, ((), ((), ((), ((), ((), ((), ((), ((), ((), ((), ((), ((), ()))))))))))))))), ())) n v.1.1 v.1.2.2.1 v.1.2.2.2.2.2.2.1 v.1.2.2.2.2.2.2.2.1 v.1.2.2.2.2.2.2.2.2.1
def W1_0 (d64v0 : Int → Option ((Nat × Unit) × ((List Int) × Unit))) (N : Nat) : LoopF (List Int) := fun no =>
  match no with
  | _ => fun _ _ => none
theorem b1_0 (d64v0 : Int → Option ((Nat × Unit) × ((List Int) × Unit))) (N n : Nat) (v : P1_0.T) (κ : (i : Nat) → (Q1_0 i).T → Option (List Int)) :
    evc (T1 d64v0) (rawOf (RW1 d64v0)) (W1_0 d64v0 N) (reto k1.res .u8) (modeOf FT) 0 fuelC (bodyOf (loopN k1 0)) (P1_0.st v) (roundK 0 H1_0 P1_0 Q1_0 (u1_0 d64v0 N n) κ) = u1_0 d64v0 N (n + 1) v κ := by kernel_rfl
theorem o1_0 (d64v0 : Int → Option ((Nat × Unit) × ((List Int) × Unit))) (hT : TabOK FT XT (T1 d64v0)) (hO : RawOK FT XT (rawOf (α := List Int) (RW1 d64v0))) (N : Nat) {s : St} {κ : Ex → St → Option (List Int)} {a : List Int} (h : lpOf 0 H1_0 P1_0 Q1_0 (u1_0 d64v0 N N) s κ = some a) : Out FT XT 0 (reto k1.res .u8) (loopN k1 0) s κ a := by
  rw [l1_0]
  exact loop_out (LP := W1_0 d64v0 N) (fu := fuelC) hT hO (fun _ _ => rfl) (b1_0 d64v0 N) loopOK_nil N h
def W1 (d64v0 : Int → Option ((Nat × Unit) × ((List Int) × Unit))) (N : Nat) : LoopF (List Int) := fun no =>
  match no with
  | 0 => lpOf 0 H1_0 P1_0 Q1_0 (u1_0 d64v0 N N)
  | 1 => lpOf 0 H1_1 P1_1 Q1_1 (u1_1 d64v0 N N)
  | _ => fun _ _ => none
theorem e1 (d64v0 : Int → Option ((Nat × Unit) × ((List Int) × Unit))) (N : Nat) (a0 : List (List Int)) : evc (T1 d64v0) (rawOf (RW1 d64v0)) (W1 d64v0 N) (reto k1.res .u8) (modeOf FT) 0 fuelC k1.body (env0 k1 (encL [(Sh.sl (Sh.sl (Sh.int .u8)))] (a0, ())), []) (endK (reto k1.res .u8)) = p1 d64v0 N a0 := by kernel_rfl
theorem ok1 (d64v0 : Int → Option ((Nat × Unit) × ((List Int) × Unit))) (h64v0 : REntOK FT XT 64 (rn64v0 d64v0)) {f : List (List Int) → Option (List Int)} (hf : ∀ a0 r, f a0 = some r → ∃ N, p1 d64v0 N a0 = some r) : EntOK FT XT 1 (en1 f) := by
  have hT : TabOK FT XT (T1 d64v0) := by
    intro g en hg
    unfold T1 at hg
    split at hg <;> first | (injection hg with hg; subst hg; assumption) | cases hg
  have hO0 : RawOK FT XT (rawOf (α := List Int) (RW1 d64v0)) := by
    refine rawOf_ok (fun g en hg => ?_)
    unfold RW1 at hg
    split at hg <;> simp only [List.mem_cons, List.not_mem_nil, or_false] at hg <;> first | (subst hg; assumption) | (rcases hg with rfl | rfl <;> assumption) | (rcases hg with rfl | rfl | rfl <;> assumption) | (rcases hg with rfl | rfl | rfl | rfl <;> assumption)
  have hO : RawOK FT XT (rawOf (α := List Int) (RW1 d64v0)) := hO0
  refine ⟨rfl, fun v r h => ?_⟩
  obtain ⟨a0, _⟩ := v
  obtain ⟨N, h1⟩ := hf _ _ h
  exact ans_o (tab := T1 d64v0) (raw := (rawOf (RW1 d64v0))) (LP := W1 d64v0 N) (fu := fuelC) hT hO rfl rfl (Nat.le_of_ble_eq_true rfl) (loopOK_cons l1_0 (fun s κ a h => o1_0 d64v0 hT hO N h) (loopOK_cons l1_1 (fun s κ a h => o1_1 d64v0 hT hO N h) loopOK_nil)) ((e1 d64v0 N _).trans h1)

def T48v0 : Nat → Option Ent
  | _ => none
def H48v0_0 : Trim := ⟨0, [], false, [0, 2, 3], []⟩
theorem l48v0_0 : loopN k48 0 = .loop H48v0_0 (bodyOf (loopN k48 0)) := by kernel_rfl
def P48v0_0 : Ps := ⟨[(0, (.slc 0 1)), (2, (.int .i64)), (3, (.int .i64)), (9, .u)], [(.ints false .u8)]⟩
def Q48v0_0 : Nat → Ps
  | 0 => ⟨[(0, .u), (2, .u), (3, .u), (9, .u)], [(.ints false .u8)]⟩
  | _ => noPs
def u48v0_0 (N n : Nat) (v : P48v0_0.T) (κ : (i : Nat) → (Q48v0_0 i).T → Option QR48v0.T) : Option QR48v0.T :=
  L48v0_0 N (fun (y0 : List Int) => κ 0 (((), ((), ((), ((), ())))), (y0, ()))) n v.1.1.1 v.1.1.2 v.1.2.1 v.1.2.2.1 v.2.1
def W48v0_0 (N : Nat) : LoopF QR48v0.T := fun no =>
  match no with
  | _ => fun _ _ => none
theorem b48v0_0 (N n : Nat) (v : P48v0_0.T) (κ : (i : Nat) → (Q48v0_0 i).T → Option QR48v0.T) :
    evc (T48v0) (rawOf RW0) (W48v0_0 N) (retr k48.res 1 QR48v0) (modeOf FT) 1 fuelC (bodyOf (loopN k48 0)) (P48v0_0.st v) (roundK 1 H48v0_0 P48v0_0 Q48v0_0 (u48v0_0 N n) κ) = u48v0_0 N (n + 1) v κ := by kernel_rfl
theorem o48v0_0 (hT : TabOK FT XT (T48v0)) (hO : RawOK FT XT (rawOf (α := QR48v0.T) RW0)) (N : Nat) {s : St} {κ : Ex → St → Option QR48v0.T} {a : QR48v0.T} (h : lpOf 1 H48v0_0 P48v0_0 Q48v0_0 (u48v0_0 N N) s κ = some a) : Out FT XT 1 (retr k48.res 1 QR48v0) (loopN k48 0) s κ a := by
  rw [l48v0_0]
  exact loop_out (LP := W48v0_0 N) (fu := fuelC) hT hO (fun _ _ => rfl) (b48v0_0 N) loopOK_nil N h
def W48v0 (N : Nat) : LoopF QR48v0.T := fun no =>
  match no with
  | 0 => lpOf 1 H48v0_0 P48v0_0 Q48v0_0 (u48v0_0 N N)
  | _ => fun _ _ => none
theorem e48v0 (N : Nat) (v : PR48v0.T) : evc (T48v0) (rawOf RW0) (W48v0 N) (retr k48.res 1 QR48v0) (modeOf FT) 1 fuelC k48.body (env0 k48 (PR48v0.a.st v.1), stH PR48v0.h v.2) (endK (retr k48.res 1 QR48v0)) = p48v0 N v.1.1.1 v.1.1.2 v.2.1 := by kernel_rfl
theorem ok48v0 {f : Nat → Nat → List Int → Option ((Unit × Unit) × ((List Int) × Unit))} (hf : ∀ a0 a1 a2 r, f a0 a1 a2 = some r → ∃ N, p48v0 N a0 a1 a2 = some r) : REntOK FT XT 48 (rn48v0 f) := by
  have hT : TabOK FT XT (T48v0) := by
    intro g en hg
    unfold T48v0 at hg
    split at hg <;> first | (injection hg with hg; subst hg; assumption) | cases hg
  have hO0 : RawOK FT XT (rawOf (α := QR48v0.T) RW0) := rawOK0
  have hO : RawOK FT XT (rawOf (α := QR48v0.T) RW0) := hO0
  intro v r w h hw
  obtain ⟨N, h1⟩ := hf _ _ _ _ h
  exact ans_r (Q := QR48v0) (tab := T48v0) (raw := (rawOf RW0)) (LP := W48v0 N) (fu := fuelC) hT hO rfl rfl (Nat.le_of_ble_eq_true rfl) rfl (loopOK_cons l48v0_0 (fun s κ a h => o48v0_0 hT hO N h) loopOK_nil) ((e48v0 N v).trans h1) hw

def T19 (d48v0 : Nat → Nat → List Int → Option ((Unit × Unit) × ((List Int) × Unit))) : Nat → Option Ent
  | _ => none
def RW19 (d48v0 : Nat → Nat → List Int → Option ((Unit × Unit) × ((List Int) × Unit))) : Nat → List REnt
  | 48 => [rn48v0 d48v0]
  | _ => []
def H19_0 : Trim := ⟨0, [], false, [0, 2, 8, 19, 20], []⟩
theorem l19_0 : loopN k19 0 = .loop H19_0 (bodyOf (loopN k19 0)) := by kernel_rfl
def P19_0 : Ps := ⟨[(0, (.int .u64)), (1, .u), (2, .bool), (6, .u), (7, .u), (8, (.slc 0 1)), (9, .u), (15, .u), (19, (.int .i64)), (20, (.int .i64)), (21, .u), (33, .u)], [(.ints false .u8)]⟩
def Q19_0 : Nat → Ps
  | 0 => ⟨[(0, .u), (1, .u), (2, .bool), (6, .u), (7, .u), (8, (.slc 0 1)), (9, .u), (15, .u), (19, .u), (20, .u), (21, .u), (33, .u)], [(.ints false .u8)]⟩
  | _ => noPs
def u19_0 (d48v0 : Nat → Nat → List Int → Option ((Unit × Unit) × ((List Int) × Unit))) (N n : Nat) (v : P19_0.T) (κ : (i : Nat) → (Q19_0 i).T → Option (((Sh.tu (Sh.pr (Sh.sl (Sh.int .u8)) (Sh.int .i64)))).T)) : Option (((Sh.tu (Sh.pr (Sh.sl (Sh.int .u8)) (Sh.int .i64)))).T) :=
  L19_0 d48v0 N (fun (y0 : Bool) (y1 : Nat) (y2 : Nat) (y3 : List Int) => κ 0 (((), ((), (y0, ((), ((), ((y1, y2), ((), ((), ((), ((), ((), ((), ())))))))))))), (y3, ()))) n v.1.1 v.1.2.2.1 v.1.2.2.2.2.2.1.1 v.1.2.2.2.2.2.1.2 v.1.2.2.2.2.2.2.2.2.1 v.1.2.2.2.2.2.2.2.2.2.1 v.2.1
def W19_0 (d48v0 : Nat → Nat → List Int → Option ((Unit × Unit) × ((List Int) × Unit))) (N : Nat) : LoopF (((Sh.tu (Sh.pr (Sh.sl (Sh.int .u8)) (Sh.int .i64)))).T) := fun no =>
  match no with
  | _ => fun _ _ => none
theorem b19_0 (d48v0 : Nat → Nat → List Int → Option ((Unit × Unit) × ((List Int) × Unit))) (N n : Nat) (v : P19_0.T) (κ : (i : Nat) → (Q19_0 i).T → Option (((Sh.tu (Sh.pr (Sh.sl (Sh.int .u8)) (Sh.int .i64)))).T)) :
    evc (T19 d48v0) (rawOf (RW19 d48v0)) (W19_0 d48v0 N) (retc k19.res (Sh.tu (Sh.pr (Sh.sl (Sh.int .u8)) (Sh.int .i64)))) (modeOf FT) 0 fuelC (bodyOf (loopN k19 0)) (P19_0.st v) (roundK 0 H19_0 P19_0 Q19_0 (u19_0 d48v0 N n) κ) = u19_0 d48v0 N (n + 1) v κ := by kernel_rfl
theorem o19_0 (d48v0 : Nat → Nat → List Int → Option ((Unit × Unit) × ((List Int) × Unit))) (hT : TabOK FT XT (T19 d48v0)) (hO : RawOK FT XT (rawOf (α := ((Sh.tu (Sh.pr (Sh.sl (Sh.int .u8)) (Sh.int .i64)))).T) (RW19 d48v0))) (N : Nat) {s : St} {κ : Ex → St → Option (((Sh.tu (Sh.pr (Sh.sl (Sh.int .u8)) (Sh.int .i64)))).T)} {a : ((Sh.tu (Sh.pr (Sh.sl (Sh.int .u8)) (Sh.int .i64)))).T} (h : lpOf 0 H19_0 P19_0 Q19_0 (u19_0 d48v0 N N) s κ = some a) : Out FT XT 0 (retc k19.res (Sh.tu (Sh.pr (Sh.sl (Sh.int .u8)) (Sh.int .i64)))) (loopN k19 0) s κ a := by
  rw [l19_0]
  exact loop_out (LP := W19_0 d48v0 N) (fu := fuelC) hT hO (fun _ _ => rfl) (b19_0 d48v0 N) loopOK_nil N h
def W19 (d48v0 : Nat → Nat → List Int → Option ((Unit × Unit) × ((List Int) × Unit))) (N : Nat) : LoopF (((Sh.tu (Sh.pr (Sh.sl (Sh.int .u8)) (Sh.int .i64)))).T) := fun no =>
  match no with
  | 0 => lpOf 0 H19_0 P19_0 Q19_0 (u19_0 d48v0 N N)
  | _ => fun _ _ => none
theorem e19 (d48v0 : Nat → Nat → List Int → Option ((Unit × Unit) × ((List Int) × Unit))) (N : Nat) (a0 : Int) (a1 : Int) (a2 : Bool) : evc (T19 d48v0) (rawOf (RW19 d48v0)) (W19 d48v0 N) (retc k19.res (Sh.tu (Sh.pr (Sh.sl (Sh.int .u8)) (Sh.int .i64)))) (modeOf FT) 0 fuelC k19.body (env0 k19 (encL [(Sh.int .u64), (Sh.int .i64), Sh.bool] (a0, (a1, (a2, ())))), []) (endK (retc k19.res (Sh.tu (Sh.pr (Sh.sl (Sh.int .u8)) (Sh.int .i64))))) = p19 d48v0 N a0 a1 a2 := by kernel_rfl
theorem ok19 (d48v0 : Nat → Nat → List Int → Option ((Unit × Unit) × ((List Int) × Unit))) (h48v0 : REntOK FT XT 48 (rn48v0 d48v0)) {f : Int → Int → Bool → Option ((List Int) × Int)} (hf : ∀ a0 a1 a2 r, f a0 a1 a2 = some r → ∃ N, p19 d48v0 N a0 a1 a2 = some r) : EntOK FT XT 19 (en19 f) := by
  have hT : TabOK FT XT (T19 d48v0) := by
    intro g en hg
    unfold T19 at hg
    split at hg <;> first | (injection hg with hg; subst hg; assumption) | cases hg
  have hO0 : RawOK FT XT (rawOf (α := ((Sh.tu (Sh.pr (Sh.sl (Sh.int .u8)) (Sh.int .i64)))).T) (RW19 d48v0)) := by
    refine rawOf_ok (fun g en hg => ?_)
    unfold RW19 at hg
    split at hg <;> simp only [List.mem_cons, List.not_mem_nil, or_false] at hg <;> first | (subst hg; assumption) | (rcases hg with rfl | rfl <;> assumption) | (rcases hg with rfl | rfl | rfl <;> assumption) | (rcases hg with rfl | rfl | rfl | rfl <;> assumption)
  have hO : RawOK FT XT (rawOf (α := ((Sh.tu (Sh.pr (Sh.sl (Sh.int .u8)) (Sh.int .i64)))).T) (RW19 d48v0)) := hO0
  refine ⟨rfl, fun v r h => ?_⟩
  obtain ⟨a0, a1, a2, _⟩ := v
  obtain ⟨N, h1⟩ := hf _ _ _ _ h
  exact ans_c (R := (Sh.tu (Sh.pr (Sh.sl (Sh.int .u8)) (Sh.int .i64)))) (tab := T19 d48v0) (raw := (rawOf (RW19 d48v0))) (LP := W19 d48v0 N) (fu := fuelC) hT hO rfl rfl (Nat.le_of_ble_eq_true rfl) (loopOK_cons l19_0 (fun s κ a h => o19_0 d48v0 hT hO N h) loopOK_nil) ((e19 d48v0 N _ _ _).trans h1)

def T21 : Nat → Option Ent
  | _ => none
def H21_0 : Trim := ⟨0, [], false, [1, 6, 17, 18, 19], []⟩
theorem l21_0 : loopN k21 0 = .loop H21_0 (bodyOf (loopN k21 0)) := by kernel_rfl
def P21_0 : Ps := ⟨[(0, .u), (1, .bool), (4, .u), (5, .u), (6, (.int .u64)), (7, .u), (8, .u), (16, .u), (17, (.tb (Sh.int .u8))), (18, (.int .i64)), (19, (.int .i64)), (20, .u), (24, .u)], []⟩
def Q21_0 : Nat → Ps
  | 0 => ⟨[(0, .u), (1, .u), (4, .u), (5, .u), (6, (.int .u64)), (7, .u), (8, .u), (16, .u), (17, .u), (18, .u), (19, .u), (20, .u), (24, .u)], []⟩
  | _ => noPs
def u21_0 (N n : Nat) (v : P21_0.T) (κ : (i : Nat) → (Q21_0 i).T → Option (((Sh.tu (Sh.pr (Sh.int .u64) (Sh.int .i64)))).T)) : Option (((Sh.tu (Sh.pr (Sh.int .u64) (Sh.int .i64)))).T) :=
  L21_0 N (fun (y0 : Int) => κ 0 (((), ((), ((), ((), (y0, ((), ((), ((), ((), ((), ((), ((), ((), ()))))))))))))), ())) n v.1.2.1 v.1.2.2.2.2.1 v.1.2.2.2.2.2.2.2.2.1 v.1.2.2.2.2.2.2.2.2.2.1 v.1.2.2.2.2.2.2.2.2.2.2.1
def W21_0 (N : Nat) : LoopF (((Sh.tu (Sh.pr (Sh.int .u64) (Sh.int .i64)))).T) := fun no =>
  match no with
  | _ => fun _ _ => none
theorem b21_0 (N n : Nat) (v : P21_0.T) (κ : (i : Nat) → (Q21_0 i).T → Option (((Sh.tu (Sh.pr (Sh.int .u64) (Sh.int .i64)))).T)) :
    evc (T21) (rawOf RW0) (W21_0 N) (retc k21.res (Sh.tu (Sh.pr (Sh.int .u64) (Sh.int .i64)))) (modeOf FT) 0 fuelC (bodyOf (loopN k21 0)) (P21_0.st v) (roundK 0 H21_0 P21_0 Q21_0 (u21_0 N n) κ) = u21_0 N (n + 1) v κ := by kernel_rfl
theorem o21_0 (hT : TabOK FT XT (T21)) (hO : RawOK FT XT (rawOf (α := ((Sh.tu (Sh.pr (Sh.int .u64) (Sh.int .i64)))).T) RW0)) (N : Nat) {s : St} {κ : Ex → St → Option (((Sh.tu (Sh.pr (Sh.int .u64) (Sh.int .i64)))).T)} {a : ((Sh.tu (Sh.pr (Sh.int .u64) (Sh.int .i64)))).T} (h : lpOf 0 H21_0 P21_0 Q21_0 (u21_0 N N) s κ = some a) : Out FT XT 0 (retc k21.res (Sh.tu (Sh.pr (Sh.int .u64) (Sh.int .i64)))) (loopN k21 0) s κ a := by
  rw [l21_0]
  exact loop_out (LP := W21_0 N) (fu := fuelC) hT hO (fun _ _ => rfl) (b21_0 N) loopOK_nil N h
def W21 (N : Nat) : LoopF (((Sh.tu (Sh.pr (Sh.int .u64) (Sh.int .i64)))).T) := fun no =>
  match no with
  | 0 => lpOf 0 H21_0 P21_0 Q21_0 (u21_0 N N)
  | _ => fun _ _ => none
theorem e21 (N : Nat) (a0 : List Int) (a1 : Bool) : evc (T21) (rawOf RW0) (W21 N) (retc k21.res (Sh.tu (Sh.pr (Sh.int .u64) (Sh.int .i64)))) (modeOf FT) 0 fuelC k21.body (env0 k21 (encL [(Sh.sl (Sh.int .u8)), Sh.bool] (a0, (a1, ()))), []) (endK (retc k21.res (Sh.tu (Sh.pr (Sh.int .u64) (Sh.int .i64))))) = p21 N a0 a1 := by kernel_rfl
theorem ok21 {f : List Int → Bool → Option (Int × Int)} (hf : ∀ a0 a1 r, f a0 a1 = some r → ∃ N, p21 N a0 a1 = some r) : EntOK FT XT 21 (en21 f) := by
  have hT : TabOK FT XT (T21) := by
    intro g en hg
    unfold T21 at hg
    split at hg <;> first | (injection hg with hg; subst hg; assumption) | cases hg
  have hO0 : RawOK FT XT (rawOf (α := ((Sh.tu (Sh.pr (Sh.int .u64) (Sh.int .i64)))).T) RW0) := rawOK0
  have hO : RawOK FT XT (rawOf (α := ((Sh.tu (Sh.pr (Sh.int .u64) (Sh.int .i64)))).T) RW0) := hO0
  refine ⟨rfl, fun v r h => ?_⟩
  obtain ⟨a0, a1, _⟩ := v
  obtain ⟨N, h1⟩ := hf _ _ _ h
  exact ans_c (R := (Sh.tu (Sh.pr (Sh.int .u64) (Sh.int .i64)))) (tab := T21) (raw := (rawOf RW0)) (LP := W21 N) (fu := fuelC) hT hO rfl rfl (Nat.le_of_ble_eq_true rfl) (loopOK_cons l21_0 (fun s κ a h => o21_0 hT hO N h) loopOK_nil) ((e21 N _ _).trans h1)

def T23 : Nat → Option Ent
  | _ => none
def H23_0 : Trim := ⟨0, [], false, [0, 1, 5], []⟩
theorem l23_0 : loopN k23 0 = .loop H23_0 (bodyOf (loopN k23 0)) := by kernel_rfl
def P23_0 : Ps := ⟨[(0, (.tb (Sh.int .u8))), (1, (.tb (Sh.int .u8))), (4, .u), (5, (.int .i64)), (10, .u), (14, .u), (25, .u)], []⟩
def Q23_0 : Nat → Ps
  | 0 => ⟨[(0, .u), (1, .u), (4, .u), (5, .u), (10, .u), (14, .u), (25, .u)], []⟩
  | _ => noPs
def u23_0 (N n : Nat) (v : P23_0.T) (κ : (i : Nat) → (Q23_0 i).T → Option (Sh.bool).T) : Option (Sh.bool).T :=
  L23_0 N (κ 0 (((), ((), ((), ((), ((), ((), ((), ()))))))), ())) n v.1.1 v.1.2.1 v.1.2.2.2.1
def W23_0 (N : Nat) : LoopF (Sh.bool).T := fun no =>
  match no with
  | _ => fun _ _ => none
theorem b23_0 (N n : Nat) (v : P23_0.T) (κ : (i : Nat) → (Q23_0 i).T → Option (Sh.bool).T) :
    evc (T23) (rawOf RW0) (W23_0 N) (retc k23.res Sh.bool) (modeOf FT) 0 fuelC (bodyOf (loopN k23 0)) (P23_0.st v) (roundK 0 H23_0 P23_0 Q23_0 (u23_0 N n) κ) = u23_0 N (n + 1) v κ := by kernel_rfl
theorem o23_0 (hT : TabOK FT XT (T23)) (hO : RawOK FT XT (rawOf (α := (Sh.bool).T) RW0)) (N : Nat) {s : St} {κ : Ex → St → Option (Sh.bool).T} {a : (Sh.bool).T} (h : lpOf 0 H23_0 P23_0 Q23_0 (u23_0 N N) s κ = some a) : Out FT XT 0 (retc k23.res Sh.bool) (loopN k23 0) s κ a := by
  rw [l23_0]
  exact loop_out (LP := W23_0 N) (fu := fuelC) hT hO (fun _ _ => rfl) (b23_0 N) loopOK_nil N h
def W23 (N : Nat) : LoopF (Sh.bool).T := fun no =>
  match no with
  | 0 => lpOf 0 H23_0 P23_0 Q23_0 (u23_0 N N)
  | _ => fun _ _ => none
theorem e23 (N : Nat) (a0 : List Int) (a1 : List Int) : evc (T23) (rawOf RW0) (W23 N) (retc k23.res Sh.bool) (modeOf FT) 0 fuelC k23.body (env0 k23 (encL [(Sh.sl (Sh.int .u8)), (Sh.sl (Sh.int .u8))] (a0, (a1, ()))), []) (endK (retc k23.res Sh.bool)) = p23 N a0 a1 := by kernel_rfl
theorem ok23 {f : List Int → List Int → Option Bool} (hf : ∀ a0 a1 r, f a0 a1 = some r → ∃ N, p23 N a0 a1 = some r) : EntOK FT XT 23 (en23 f) := by
  have hT : TabOK FT XT (T23) := by
    intro g en hg
    unfold T23 at hg
    split at hg <;> first | (injection hg with hg; subst hg; assumption) | cases hg
  have hO0 : RawOK FT XT (rawOf (α := (Sh.bool).T) RW0) := rawOK0
  have hO : RawOK FT XT (rawOf (α := (Sh.bool).T) RW0) := hO0
  refine ⟨rfl, fun v r h => ?_⟩
  obtain ⟨a0, a1, _⟩ := v
  obtain ⟨N, h1⟩ := hf _ _ _ h
  exact ans_c (R := Sh.bool) (tab := T23) (raw := (rawOf RW0)) (LP := W23 N) (fu := fuelC) hT hO rfl rfl (Nat.le_of_ble_eq_true rfl) (loopOK_cons l23_0 (fun s κ a h => o23_0 hT hO N h) loopOK_nil) ((e23 N _ _).trans h1)

def T46 (c1 : List (List Int) → Option (List Int)) : Nat → Option Ent
  | 1 => some (en1 c1)
  | _ => none
def W46 (c1 : List (List Int) → Option (List Int)) (N : Nat) : LoopF (List Int) := fun no =>
  match no with
  | _ => fun _ _ => none
theorem e46 (c1 : List (List Int) → Option (List Int)) (N : Nat) (a0 : List (List Int)) : evc (T46 c1) (rawOf RW0) (W46 c1 N) (reto k46.res .u8) (modeOf FT) 0 fuelC k46.body (env0 k46 (encL [(Sh.sl (Sh.sl (Sh.int .u8)))] (a0, ())), []) (endK (reto k46.res .u8)) = p46 c1 N a0 := by kernel_rfl
theorem ok46 (c1 : List (List Int) → Option (List Int)) (h1 : EntOK FT XT 1 (en1 c1)) {f : List (List Int) → Option (List Int)} (hf : ∀ a0 r, f a0 = some r → ∃ N, p46 c1 N a0 = some r) : EntOK FT XT 46 (en46 f) := by
  have hT : TabOK FT XT (T46 c1) := by
    intro g en hg
    unfold T46 at hg
    split at hg <;> first | (injection hg with hg; subst hg; assumption) | cases hg
  have hO0 : RawOK FT XT (rawOf (α := List Int) RW0) := rawOK0
  have hO : RawOK FT XT (rawOf (α := List Int) RW0) := hO0
  refine ⟨rfl, fun v r h => ?_⟩
  obtain ⟨a0, _⟩ := v
  obtain ⟨N, h1⟩ := hf _ _ h
  exact ans_o (tab := T46 c1) (raw := (rawOf RW0)) (LP := W46 c1 N) (fu := fuelC) hT hO rfl rfl (Nat.le_of_ble_eq_true rfl) loopOK_nil ((e46 c1 N _).trans h1)

def T50 : Nat → Option Ent
  | _ => none
def H50_0 : Trim := ⟨0, [], false, [0, 5, 6], []⟩
theorem l50_0 : loopN k50 0 = .loop H50_0 (bodyOf (loopN k50 0)) := by kernel_rfl
def P50_0 : Ps := ⟨[(0, (.int .u64)), (1, .u), (4, .u), (5, (.slc 0 1)), (6, (.int .i64)), (12, .u)], [(.ints false .u8)]⟩
def Q50_0 : Nat → Ps
  | 0 => ⟨[(0, .u), (1, .u), (4, .u), (5, (.slc 0 1)), (6, .u), (12, .u)], [(.ints false .u8)]⟩
  | _ => noPs
def u50_0 (N n : Nat) (v : P50_0.T) (κ : (i : Nat) → (Q50_0 i).T → Option (List Int)) : Option (List Int) :=
  L50_0 N (fun (y0 : Nat) (y1 : Nat) (y2 : List Int) => κ 0 (((), ((), ((), ((y0, y1), ((), ((), ())))))), (y2, ()))) n v.1.1 v.1.2.2.2.1.1 v.1.2.2.2.1.2 v.1.2.2.2.2.1 v.2.1
def W50_0 (N : Nat) : LoopF (List Int) := fun no =>
  match no with
  | _ => fun _ _ => none
theorem b50_0 (N n : Nat) (v : P50_0.T) (κ : (i : Nat) → (Q50_0 i).T → Option (List Int)) :
    evc (T50) (rawOf RW0) (W50_0 N) (reto k50.res .u8) (modeOf FT) 0 fuelC (bodyOf (loopN k50 0)) (P50_0.st v) (roundK 0 H50_0 P50_0 Q50_0 (u50_0 N n) κ) = u50_0 N (n + 1) v κ := by kernel_rfl
theorem o50_0 (hT : TabOK FT XT (T50)) (hO : RawOK FT XT (rawOf (α := List Int) RW0)) (N : Nat) {s : St} {κ : Ex → St → Option (List Int)} {a : List Int} (h : lpOf 0 H50_0 P50_0 Q50_0 (u50_0 N N) s κ = some a) : Out FT XT 0 (reto k50.res .u8) (loopN k50 0) s κ a := by
  rw [l50_0]
  exact loop_out (LP := W50_0 N) (fu := fuelC) hT hO (fun _ _ => rfl) (b50_0 N) loopOK_nil N h
def W50 (N : Nat) : LoopF (List Int) := fun no =>
  match no with
  | 0 => lpOf 0 H50_0 P50_0 Q50_0 (u50_0 N N)
  | _ => fun _ _ => none
theorem e50 (N : Nat) (a0 : Int) (a1 : Int) : evc (T50) (rawOf RW0) (W50 N) (reto k50.res .u8) (modeOf FT) 0 fuelC k50.body (env0 k50 (encL [(Sh.int .u64), (Sh.int .i64)] (a0, (a1, ()))), []) (endK (reto k50.res .u8)) = p50 N a0 a1 := by kernel_rfl
theorem ok50 {f : Int → Int → Option (List Int)} (hf : ∀ a0 a1 r, f a0 a1 = some r → ∃ N, p50 N a0 a1 = some r) : EntOK FT XT 50 (en50 f) := by
  have hT : TabOK FT XT (T50) := by
    intro g en hg
    unfold T50 at hg
    split at hg <;> first | (injection hg with hg; subst hg; assumption) | cases hg
  have hO0 : RawOK FT XT (rawOf (α := List Int) RW0) := rawOK0
  have hO : RawOK FT XT (rawOf (α := List Int) RW0) := hO0
  refine ⟨rfl, fun v r h => ?_⟩
  obtain ⟨a0, a1, _⟩ := v
  obtain ⟨N, h1⟩ := hf _ _ _ h
  exact ans_o (tab := T50) (raw := (rawOf RW0)) (LP := W50 N) (fu := fuelC) hT hO rfl rfl (Nat.le_of_ble_eq_true rfl) (loopOK_cons l50_0 (fun s κ a h => o50_0 hT hO N h) loopOK_nil) ((e50 N _ _).trans h1)

def T51 : Nat → Option Ent
  | _ => none
def H51_0 : Trim := ⟨0, [], false, [0, 3, 4], []⟩
theorem l51_0 : loopN k51 0 = .loop H51_0 (bodyOf (loopN k51 0)) := by kernel_rfl
def P51_0 : Ps := ⟨[(0, (.tb (Sh.int .u8))), (2, .u), (3, (.int .u64)), (4, (.int .i64)), (8, .u)], []⟩
def Q51_0 : Nat → Ps
  | 0 => ⟨[(0, .u), (2, .u), (3, (.int .u64)), (4, .u), (8, .u)], []⟩
  | _ => noPs
def u51_0 (N n : Nat) (v : P51_0.T) (κ : (i : Nat) → (Q51_0 i).T → Option (((Sh.int .u64)).T)) : Option (((Sh.int .u64)).T) :=
  L51_0 N (fun (y0 : Int) => κ 0 (((), ((), (y0, ((), ((), ()))))), ())) n v.1.1 v.1.2.2.1 v.1.2.2.2.1
def W51_0 (N : Nat) : LoopF (((Sh.int .u64)).T) := fun no =>
  match no with
  | _ => fun _ _ => none
theorem b51_0 (N n : Nat) (v : P51_0.T) (κ : (i : Nat) → (Q51_0 i).T → Option (((Sh.int .u64)).T)) :
    evc (T51) (rawOf RW0) (W51_0 N) (retc k51.res (Sh.int .u64)) (modeOf FT) 0 fuelC (bodyOf (loopN k51 0)) (P51_0.st v) (roundK 0 H51_0 P51_0 Q51_0 (u51_0 N n) κ) = u51_0 N (n + 1) v κ := by kernel_rfl
theorem o51_0 (hT : TabOK FT XT (T51)) (hO : RawOK FT XT (rawOf (α := ((Sh.int .u64)).T) RW0)) (N : Nat) {s : St} {κ : Ex → St → Option (((Sh.int .u64)).T)} {a : ((Sh.int .u64)).T} (h : lpOf 0 H51_0 P51_0 Q51_0 (u51_0 N N) s κ = some a) : Out FT XT 0 (retc k51.res (Sh.int .u64)) (loopN k51 0) s κ a := by
  rw [l51_0]
  exact loop_out (LP := W51_0 N) (fu := fuelC) hT hO (fun _ _ => rfl) (b51_0 N) loopOK_nil N h
def W51 (N : Nat) : LoopF (((Sh.int .u64)).T) := fun no =>
  match no with
  | 0 => lpOf 0 H51_0 P51_0 Q51_0 (u51_0 N N)
  | _ => fun _ _ => none
theorem e51 (N : Nat) (a0 : List Int) : evc (T51) (rawOf RW0) (W51 N) (retc k51.res (Sh.int .u64)) (modeOf FT) 0 fuelC k51.body (env0 k51 (encL [(Sh.sl (Sh.int .u8))] (a0, ())), []) (endK (retc k51.res (Sh.int .u64))) = p51 N a0 := by kernel_rfl
theorem ok51 {f : List Int → Option Int} (hf : ∀ a0 r, f a0 = some r → ∃ N, p51 N a0 = some r) : EntOK FT XT 51 (en51 f) := by
  have hT : TabOK FT XT (T51) := by
    intro g en hg
    unfold T51 at hg
    split at hg <;> first | (injection hg with hg; subst hg; assumption) | cases hg
  have hO0 : RawOK FT XT (rawOf (α := ((Sh.int .u64)).T) RW0) := rawOK0
  have hO : RawOK FT XT (rawOf (α := ((Sh.int .u64)).T) RW0) := hO0
  refine ⟨rfl, fun v r h => ?_⟩
  obtain ⟨a0, _⟩ := v
  obtain ⟨N, h1⟩ := hf _ _ h
  exact ans_c (R := (Sh.int .u64)) (tab := T51) (raw := (rawOf RW0)) (LP := W51 N) (fu := fuelC) hT hO rfl rfl (Nat.le_of_ble_eq_true rfl) (loopOK_cons l51_0 (fun s κ a h => o51_0 hT hO N h) loopOK_nil) ((e51 N _).trans h1)

def T160 : Nat → Option Ent
  | _ => none
def W160 (N : Nat) : LoopF (Sh.bool).T := fun no =>
  match no with
  | _ => fun _ _ => none
theorem e160 (N : Nat) (a0 : List Int) (a1 : List Int) : evc (T160) (rawOf RW0) (W160 N) (retc k160.res Sh.bool) (modeOf FT) 0 fuelC k160.body (env0 k160 (encL [(Sh.sl (Sh.int .u8)), (Sh.sl (Sh.int .u8))] (a0, (a1, ()))), []) (endK (retc k160.res Sh.bool)) = p160 N a0 a1 := by kernel_rfl
theorem ok160 {f : List Int → List Int → Option Bool} (hf : ∀ a0 a1 r, f a0 a1 = some r → ∃ N, p160 N a0 a1 = some r) : EntOK FT XT 160 (en160 f) := by
  have hT : TabOK FT XT (T160) := by
    intro g en hg
    unfold T160 at hg
    split at hg <;> first | (injection hg with hg; subst hg; assumption) | cases hg
  have hO0 : RawOK FT XT (rawOf (α := (Sh.bool).T) RW0) := rawOK0
  have hO : RawOK FT XT (rawOf (α := (Sh.bool).T) RW0) := hO0
  refine ⟨rfl, fun v r h => ?_⟩
  obtain ⟨a0, a1, _⟩ := v
  obtain ⟨N, h1⟩ := hf _ _ _ h
  exact ans_c (R := Sh.bool) (tab := T160) (raw := (rawOf RW0)) (LP := W160 N) (fu := fuelC) hT hO rfl rfl (Nat.le_of_ble_eq_true rfl) loopOK_nil ((e160 N _ _).trans h1)

def T164 (c160 : List Int → List Int → Option Bool) : Nat → Option Ent
  | 160 => some (en160 c160)
  | _ => none
def W164 (c160 : List Int → List Int → Option Bool) (N : Nat) : LoopF (Sh.bool).T := fun no =>
  match no with
  | _ => fun _ _ => none
theorem e164 (c160 : List Int → List Int → Option Bool) (N : Nat) (a0 : List Int) (a1 : List Int) : evc (T164 c160) (rawOf RW0) (W164 c160 N) (retc k164.res Sh.bool) (modeOf FT) 0 fuelC k164.body (env0 k164 (encL [(Sh.sl (Sh.int .u8)), (Sh.sl (Sh.int .u8))] (a0, (a1, ()))), []) (endK (retc k164.res Sh.bool)) = p164 c160 N a0 a1 := by kernel_rfl
theorem ok164 (c160 : List Int → List Int → Option Bool) (h160 : EntOK FT XT 160 (en160 c160)) {f : List Int → List Int → Option Bool} (hf : ∀ a0 a1 r, f a0 a1 = some r → ∃ N, p164 c160 N a0 a1 = some r) : EntOK FT XT 164 (en164 f) := by
  have hT : TabOK FT XT (T164 c160) := by
    intro g en hg
    unfold T164 at hg
    split at hg <;> first | (injection hg with hg; subst hg; assumption) | cases hg
  have hO0 : RawOK FT XT (rawOf (α := (Sh.bool).T) RW0) := rawOK0
  have hO : RawOK FT XT (rawOf (α := (Sh.bool).T) RW0) := hO0
  refine ⟨rfl, fun v r h => ?_⟩
  obtain ⟨a0, a1, _⟩ := v
  obtain ⟨N, h1⟩ := hf _ _ _ h
  exact ans_c (R := Sh.bool) (tab := T164 c160) (raw := (rawOf RW0)) (LP := W164 c160 N) (fu := fuelC) hT hO rfl rfl (Nat.le_of_ble_eq_true rfl) loopOK_nil ((e164 c160 N _ _).trans h1)

def T157 (c19 : Int → Int → Bool → Option ((List Int) × Int)) : Nat → Option Ent
  | 19 => some (en19 c19)
  | _ => none
def W157 (c19 : Int → Int → Bool → Option ((List Int) × Int)) (N : Nat) : LoopF (((Sh.st (Sh.pr (Sh.int .u8) (Sh.sl (Sh.int .u8))))).T) := fun no =>
  match no with
  | _ => fun _ _ => none
theorem e157 (c19 : Int → Int → Bool → Option ((List Int) × Int)) (N : Nat) (a0 : Int) : evc (T157 c19) (rawOf RW0) (W157 c19 N) (retc k157.res (Sh.st (Sh.pr (Sh.int .u8) (Sh.sl (Sh.int .u8))))) (modeOf FT) 0 fuelC k157.body (env0 k157 (encL [(Sh.int .u16)] (a0, ())), []) (endK (retc k157.res (Sh.st (Sh.pr (Sh.int .u8) (Sh.sl (Sh.int .u8)))))) = p157 c19 N a0 := by kernel_rfl
theorem ok157 (c19 : Int → Int → Bool → Option ((List Int) × Int)) (h19 : EntOK FT XT 19 (en19 c19)) {f : Int → Option (Int × (List Int))} (hf : ∀ a0 r, f a0 = some r → ∃ N, p157 c19 N a0 = some r) : EntOK FT XT 157 (en157 f) := by
  have hT : TabOK FT XT (T157 c19) := by
    intro g en hg
    unfold T157 at hg
    split at hg <;> first | (injection hg with hg; subst hg; assumption) | cases hg
  have hO0 : RawOK FT XT (rawOf (α := ((Sh.st (Sh.pr (Sh.int .u8) (Sh.sl (Sh.int .u8))))).T) RW0) := rawOK0
  have hO : RawOK FT XT (rawOf (α := ((Sh.st (Sh.pr (Sh.int .u8) (Sh.sl (Sh.int .u8))))).T) RW0) := hO0
  refine ⟨rfl, fun v r h => ?_⟩
  obtain ⟨a0, _⟩ := v
  obtain ⟨N, h1⟩ := hf _ _ h
  exact ans_c (R := (Sh.st (Sh.pr (Sh.int .u8) (Sh.sl (Sh.int .u8))))) (tab := T157 c19) (raw := (rawOf RW0)) (LP := W157 c19 N) (fu := fuelC) hT hO rfl rfl (Nat.le_of_ble_eq_true rfl) loopOK_nil ((e157 c19 N _).trans h1)

def T161 : Nat → Option Ent
  | _ => none
def W161 (N : Nat) : LoopF (Sh.bool).T := fun no =>
  match no with
  | _ => fun _ _ => none
theorem e161 (N : Nat) (a0 : Int) : evc (T161) (rawOf RW0) (W161 N) (retc k161.res Sh.bool) (modeOf FT) 0 fuelC k161.body (env0 k161 (encL [(Sh.int .u8)] (a0, ())), []) (endK (retc k161.res Sh.bool)) = p161 N a0 := by kernel_rfl
theorem ok161 {f : Int → Option Bool} (hf : ∀ a0 r, f a0 = some r → ∃ N, p161 N a0 = some r) : EntOK FT XT 161 (en161 f) := by
  have hT : TabOK FT XT (T161) := by
    intro g en hg
    unfold T161 at hg
    split at hg <;> first | (injection hg with hg; subst hg; assumption) | cases hg
  have hO0 : RawOK FT XT (rawOf (α := (Sh.bool).T) RW0) := rawOK0
  have hO : RawOK FT XT (rawOf (α := (Sh.bool).T) RW0) := hO0
  refine ⟨rfl, fun v r h => ?_⟩
  obtain ⟨a0, _⟩ := v
  obtain ⟨N, h1⟩ := hf _ _ h
  exact ans_c (R := Sh.bool) (tab := T161) (raw := (rawOf RW0)) (LP := W161 N) (fu := fuelC) hT hO rfl rfl (Nat.le_of_ble_eq_true rfl) loopOK_nil ((e161 N _).trans h1)

def T139 (c161 : Int → Option Bool) (c19 : Int → Int → Bool → Option ((List Int) × Int)) (c46 : List (List Int) → Option (List Int)) : Nat → Option Ent
  | 161 => some (en161 c161)
  | 19 => some (en19 c19)
  | 46 => some (en46 c46)
  | _ => none
def W139 (c161 : Int → Option Bool) (c19 : Int → Int → Bool → Option ((List Int) × Int)) (c46 : List (List Int) → Option (List Int)) (N : Nat) : LoopF (((Sh.tu (Sh.pr (Sh.sl (Sh.int .u8)) (Sh.int .i64)))).T) := fun no =>
  match no with
  | _ => fun _ _ => none
theorem e139 (c161 : Int → Option Bool) (c19 : Int → Int → Bool → Option ((List Int) × Int)) (c46 : List (List Int) → Option (List Int)) (N : Nat) (a0 : Int × (List Int)) : evc (T139 c161 c19 c46) (rawOf RW0) (W139 c161 c19 c46 N) (retc k139.res (Sh.tu (Sh.pr (Sh.sl (Sh.int .u8)) (Sh.int .i64)))) (modeOf FT) 0 fuelC k139.body (env0 k139 (encL [(Sh.st (Sh.pr (Sh.int .u8) (Sh.sl (Sh.int .u8))))] (a0, ())), []) (endK (retc k139.res (Sh.tu (Sh.pr (Sh.sl (Sh.int .u8)) (Sh.int .i64))))) = p139 c161 c19 c46 N a0 := by kernel_rfl
theorem ok139 (c161 : Int → Option Bool) (c19 : Int → Int → Bool → Option ((List Int) × Int)) (c46 : List (List Int) → Option (List Int)) (h161 : EntOK FT XT 161 (en161 c161)) (h19 : EntOK FT XT 19 (en19 c19)) (h46 : EntOK FT XT 46 (en46 c46)) {f : Int × (List Int) → Option ((List Int) × Int)} (hf : ∀ a0 r, f a0 = some r → ∃ N, p139 c161 c19 c46 N a0 = some r) : EntOK FT XT 139 (en139 f) := by
  have hT : TabOK FT XT (T139 c161 c19 c46) := by
    intro g en hg
    unfold T139 at hg
    split at hg <;> first | (injection hg with hg; subst hg; assumption) | cases hg
  have hO0 : RawOK FT XT (rawOf (α := ((Sh.tu (Sh.pr (Sh.sl (Sh.int .u8)) (Sh.int .i64)))).T) RW0) := rawOK0
  have hO : RawOK FT XT (rawOf (α := ((Sh.tu (Sh.pr (Sh.sl (Sh.int .u8)) (Sh.int .i64)))).T) RW0) := hO0
  refine ⟨rfl, fun v r h => ?_⟩
  obtain ⟨a0, _⟩ := v
  obtain ⟨N, h1⟩ := hf _ _ h
  exact ans_c (R := (Sh.tu (Sh.pr (Sh.sl (Sh.int .u8)) (Sh.int .i64)))) (tab := T139 c161 c19 c46) (raw := (rawOf RW0)) (LP := W139 c161 c19 c46 N) (fu := fuelC) hT hO rfl rfl (Nat.le_of_ble_eq_true rfl) loopOK_nil ((e139 c161 c19 c46 N _).trans h1)

def T142 (c21 : List Int → Bool → Option (Int × Int)) (c161 : Int → Option Bool) (c108 : List Int → Option (List Int)) : Nat → Option Ent
  | 21 => some (en21 c21)
  | 161 => some (en161 c161)
  | 108 => some (en108 c108)
  | _ => none
def W142 (c21 : List Int → Bool → Option (Int × Int)) (c161 : Int → Option Bool) (c108 : List Int → Option (List Int)) (N : Nat) : LoopF (((Sh.tu (Sh.pr (Sh.st (Sh.pr (Sh.int .u8) (Sh.sl (Sh.int .u8)))) (Sh.pr (Sh.int .i64) (Sh.int .i64))))).T) := fun no =>
  match no with
  | _ => fun _ _ => none
theorem e142 (c21 : List Int → Bool → Option (Int × Int)) (c161 : Int → Option Bool) (c108 : List Int → Option (List Int)) (N : Nat) (a0 : List Int) : evc (T142 c21 c161 c108) (rawOf RW0) (W142 c21 c161 c108 N) (retc k142.res (Sh.tu (Sh.pr (Sh.st (Sh.pr (Sh.int .u8) (Sh.sl (Sh.int .u8)))) (Sh.pr (Sh.int .i64) (Sh.int .i64))))) (modeOf FT) 0 fuelC k142.body (env0 k142 (encL [(Sh.sl (Sh.int .u8))] (a0, ())), []) (endK (retc k142.res (Sh.tu (Sh.pr (Sh.st (Sh.pr (Sh.int .u8) (Sh.sl (Sh.int .u8)))) (Sh.pr (Sh.int .i64) (Sh.int .i64)))))) = p142 c21 c161 c108 N a0 := by kernel_rfl
theorem ok142 (c21 : List Int → Bool → Option (Int × Int)) (c161 : Int → Option Bool) (c108 : List Int → Option (List Int)) (h21 : EntOK FT XT 21 (en21 c21)) (h161 : EntOK FT XT 161 (en161 c161)) (h108 : EntOK FT XT 108 (en108 c108)) {f : List Int → Option ((Int × (List Int)) × Int × Int)} (hf : ∀ a0 r, f a0 = some r → ∃ N, p142 c21 c161 c108 N a0 = some r) : EntOK FT XT 142 (en142 f) := by
  have hT : TabOK FT XT (T142 c21 c161 c108) := by
    intro g en hg
    unfold T142 at hg
    split at hg <;> first | (injection hg with hg; subst hg; assumption) | cases hg
  have hO0 : RawOK FT XT (rawOf (α := ((Sh.tu (Sh.pr (Sh.st (Sh.pr (Sh.int .u8) (Sh.sl (Sh.int .u8)))) (Sh.pr (Sh.int .i64) (Sh.int .i64))))).T) RW0) := rawOK0
  have hO : RawOK FT XT (rawOf (α := ((Sh.tu (Sh.pr (Sh.st (Sh.pr (Sh.int .u8) (Sh.sl (Sh.int .u8)))) (Sh.pr (Sh.int .i64) (Sh.int .i64))))).T) RW0) := hO0
  refine ⟨rfl, fun v r h => ?_⟩
  obtain ⟨a0, _⟩ := v
  obtain ⟨N, h1⟩ := hf _ _ h
  exact ans_c (R := (Sh.tu (Sh.pr (Sh.st (Sh.pr (Sh.int .u8) (Sh.sl (Sh.int .u8)))) (Sh.pr (Sh.int .i64) (Sh.int .i64))))) (tab := T142 c21 c161 c108) (raw := (rawOf RW0)) (LP := W142 c21 c161 c108 N) (fu := fuelC) hT hO rfl rfl (Nat.le_of_ble_eq_true rfl) loopOK_nil ((e142 c21 c161 c108 N _).trans h1)

def T163 : Nat → Option Ent
  | _ => none
def W163 (N : Nat) : LoopF (((Sh.tu (Sh.pr (Sh.int .i64) (Sh.pr (Sh.int .i64) (Sh.pr (Sh.int .u8) (Sh.int .u8)))))).T) := fun no =>
  match no with
  | _ => fun _ _ => none
theorem e163 (N : Nat) (a0 : Int) : evc (T163) (rawOf RW0) (W163 N) (retc k163.res (Sh.tu (Sh.pr (Sh.int .i64) (Sh.pr (Sh.int .i64) (Sh.pr (Sh.int .u8) (Sh.int .u8)))))) (modeOf FT) 0 fuelC k163.body (env0 k163 (encL [(Sh.int .u8)] (a0, ())), []) (endK (retc k163.res (Sh.tu (Sh.pr (Sh.int .i64) (Sh.pr (Sh.int .i64) (Sh.pr (Sh.int .u8) (Sh.int .u8))))))) = p163 N a0 := by kernel_rfl
theorem ok163 {f : Int → Option (Int × Int × Int × Int)} (hf : ∀ a0 r, f a0 = some r → ∃ N, p163 N a0 = some r) : EntOK FT XT 163 (en163 f) := by
  have hT : TabOK FT XT (T163) := by
    intro g en hg
    unfold T163 at hg
    split at hg <;> first | (injection hg with hg; subst hg; assumption) | cases hg
  have hO0 : RawOK FT XT (rawOf (α := ((Sh.tu (Sh.pr (Sh.int .i64) (Sh.pr (Sh.int .i64) (Sh.pr (Sh.int .u8) (Sh.int .u8)))))).T) RW0) := rawOK0
  have hO : RawOK FT XT (rawOf (α := ((Sh.tu (Sh.pr (Sh.int .i64) (Sh.pr (Sh.int .i64) (Sh.pr (Sh.int .u8) (Sh.int .u8)))))).T) RW0) := hO0
  refine ⟨rfl, fun v r h => ?_⟩
  obtain ⟨a0, _⟩ := v
  obtain ⟨N, h1⟩ := hf _ _ h
  exact ans_c (R := (Sh.tu (Sh.pr (Sh.int .i64) (Sh.pr (Sh.int .i64) (Sh.pr (Sh.int .u8) (Sh.int .u8)))))) (tab := T163) (raw := (rawOf RW0)) (LP := W163 N) (fu := fuelC) hT hO rfl rfl (Nat.le_of_ble_eq_true rfl) loopOK_nil ((e163 N _).trans h1)

def T145 (c163 : Int → Option (Int × Int × Int × Int)) (c161 : Int → Option Bool) (c164 : List Int → List Int → Option Bool) : Nat → Option Ent
  | 163 => some (en163 c163)
  | 161 => some (en161 c161)
  | 164 => some (en164 c164)
  | _ => none
def W145 (c163 : Int → Option (Int × Int × Int × Int)) (c161 : Int → Option Bool) (c164 : List Int → List Int → Option Bool) (N : Nat) : LoopF (((Sh.int .i64)).T) := fun no =>
  match no with
  | _ => fun _ _ => none
theorem e145 (c163 : Int → Option (Int × Int × Int × Int)) (c161 : Int → Option Bool) (c164 : List Int → List Int → Option Bool) (N : Nat) (a0 : Int × (List Int)) : evc (T145 c163 c161 c164) (rawOf RW0) (W145 c163 c161 c164 N) (retc k145.res (Sh.int .i64)) (modeOf FT) 0 fuelC k145.body (env0 k145 (encL [(Sh.st (Sh.pr (Sh.int .u8) (Sh.sl (Sh.int .u8))))] (a0, ())), []) (endK (retc k145.res (Sh.int .i64))) = p145 c163 c161 c164 N a0 := by kernel_rfl
theorem ok145 (c163 : Int → Option (Int × Int × Int × Int)) (c161 : Int → Option Bool) (c164 : List Int → List Int → Option Bool) (h163 : EntOK FT XT 163 (en163 c163)) (h161 : EntOK FT XT 161 (en161 c161)) (h164 : EntOK FT XT 164 (en164 c164)) {f : Int × (List Int) → Option Int} (hf : ∀ a0 r, f a0 = some r → ∃ N, p145 c163 c161 c164 N a0 = some r) : EntOK FT XT 145 (en145 f) := by
  have hT : TabOK FT XT (T145 c163 c161 c164) := by
    intro g en hg
    unfold T145 at hg
    split at hg <;> first | (injection hg with hg; subst hg; assumption) | cases hg
  have hO0 : RawOK FT XT (rawOf (α := ((Sh.int .i64)).T) RW0) := rawOK0
  have hO : RawOK FT XT (rawOf (α := ((Sh.int .i64)).T) RW0) := hO0
  refine ⟨rfl, fun v r h => ?_⟩
  obtain ⟨a0, _⟩ := v
  obtain ⟨N, h1⟩ := hf _ _ h
  exact ans_c (R := (Sh.int .i64)) (tab := T145 c163 c161 c164) (raw := (rawOf RW0)) (LP := W145 c163 c161 c164 N) (fu := fuelC) hT hO rfl rfl (Nat.le_of_ble_eq_true rfl) loopOK_nil ((e145 c163 c161 c164 N _).trans h1)

def T167 (c145 : Int × (List Int) → Option Int) : Nat → Option Ent
  | 145 => some (en145 c145)
  | _ => none
def W167 (c145 : Int × (List Int) → Option Int) (N : Nat) : LoopF (((Sh.int .i64)).T) := fun no =>
  match no with
  | _ => fun _ _ => none
theorem e167 (c145 : Int × (List Int) → Option Int) (N : Nat) (a0 : Int × (List Int)) (a1 : Int) : evc (T167 c145) (rawOf RW0) (W167 c145 N) (retc k167.res (Sh.int .i64)) (modeOf FT) 0 fuelC k167.body (env0 k167 (encL [(Sh.st (Sh.pr (Sh.int .u8) (Sh.sl (Sh.int .u8)))), (Sh.int .u8)] (a0, (a1, ()))), []) (endK (retc k167.res (Sh.int .i64))) = p167 c145 N a0 a1 := by kernel_rfl
theorem ok167 (c145 : Int × (List Int) → Option Int) (h145 : EntOK FT XT 145 (en145 c145)) {f : Int × (List Int) → Int → Option Int} (hf : ∀ a0 a1 r, f a0 a1 = some r → ∃ N, p167 c145 N a0 a1 = some r) : EntOK FT XT 167 (en167 f) := by
  have hT : TabOK FT XT (T167 c145) := by
    intro g en hg
    unfold T167 at hg
    split at hg <;> first | (injection hg with hg; subst hg; assumption) | cases hg
  have hO0 : RawOK FT XT (rawOf (α := ((Sh.int .i64)).T) RW0) := rawOK0
  have hO : RawOK FT XT (rawOf (α := ((Sh.int .i64)).T) RW0) := hO0
  refine ⟨rfl, fun v r h => ?_⟩
  obtain ⟨a0, a1, _⟩ := v
  obtain ⟨N, h1⟩ := hf _ _ _ h
  exact ans_c (R := (Sh.int .i64)) (tab := T167 c145) (raw := (rawOf RW0)) (LP := W167 c145 N) (fu := fuelC) hT hO rfl rfl (Nat.le_of_ble_eq_true rfl) loopOK_nil ((e167 c145 N _ _).trans h1)

def T156 (c167 : Int × (List Int) → Int → Option Int) (c21 : List Int → Bool → Option (Int × Int)) : Nat → Option Ent
  | 167 => some (en167 c167)
  | 21 => some (en21 c21)
  | _ => none
def W156 (c167 : Int × (List Int) → Int → Option Int) (c21 : List Int → Bool → Option (Int × Int)) (N : Nat) : LoopF (((Sh.tu (Sh.pr (Sh.int .u16) (Sh.int .i64)))).T) := fun no =>
  match no with
  | _ => fun _ _ => none
theorem e156 (c167 : Int × (List Int) → Int → Option Int) (c21 : List Int → Bool → Option (Int × Int)) (N : Nat) (a0 : Int × (List Int)) : evc (T156 c167 c21) (rawOf RW0) (W156 c167 c21 N) (retc k156.res (Sh.tu (Sh.pr (Sh.int .u16) (Sh.int .i64)))) (modeOf FT) 0 fuelC k156.body (env0 k156 (encL [(Sh.st (Sh.pr (Sh.int .u8) (Sh.sl (Sh.int .u8))))] (a0, ())), []) (endK (retc k156.res (Sh.tu (Sh.pr (Sh.int .u16) (Sh.int .i64))))) = p156 c167 c21 N a0 := by kernel_rfl
theorem ok156 (c167 : Int × (List Int) → Int → Option Int) (c21 : List Int → Bool → Option (Int × Int)) (h167 : EntOK FT XT 167 (en167 c167)) (h21 : EntOK FT XT 21 (en21 c21)) {f : Int × (List Int) → Option (Int × Int)} (hf : ∀ a0 r, f a0 = some r → ∃ N, p156 c167 c21 N a0 = some r) : EntOK FT XT 156 (en156 f) := by
  have hT : TabOK FT XT (T156 c167 c21) := by
    intro g en hg
    unfold T156 at hg
    split at hg <;> first | (injection hg with hg; subst hg; assumption) | cases hg
  have hO0 : RawOK FT XT (rawOf (α := ((Sh.tu (Sh.pr (Sh.int .u16) (Sh.int .i64)))).T) RW0) := rawOK0
  have hO : RawOK FT XT (rawOf (α := ((Sh.tu (Sh.pr (Sh.int .u16) (Sh.int .i64)))).T) RW0) := hO0
  refine ⟨rfl, fun v r h => ?_⟩
  obtain ⟨a0, _⟩ := v
  obtain ⟨N, h1⟩ := hf _ _ h
  exact ans_c (R := (Sh.tu (Sh.pr (Sh.int .u16) (Sh.int .i64)))) (tab := T156 c167 c21) (raw := (rawOf RW0)) (LP := W156 c167 c21 N) (fu := fuelC) hT hO rfl rfl (Nat.le_of_ble_eq_true rfl) loopOK_nil ((e156 c167 c21 N _).trans h1)

def T166 : Nat → Option Ent
  | _ => none
def W166 (N : Nat) : LoopF (((Sh.sl (Sh.int .u8))).T) := fun no =>
  match no with
  | _ => fun _ _ => none
theorem e166 (N : Nat) (a0 : Int) : evc (T166) (rawOf RW0) (W166 N) (retc k166.res (Sh.sl (Sh.int .u8))) (modeOf FT) 0 fuelC k166.body (env0 k166 (encL [(Sh.int .u8)] (a0, ())), []) (endK (retc k166.res (Sh.sl (Sh.int .u8)))) = p166 N a0 := by kernel_rfl
theorem ok166 {f : Int → Option (List Int)} (hf : ∀ a0 r, f a0 = some r → ∃ N, p166 N a0 = some r) : EntOK FT XT 166 (en166 f) := by
  have hT : TabOK FT XT (T166) := by
    intro g en hg
    unfold T166 at hg
    split at hg <;> first | (injection hg with hg; subst hg; assumption) | cases hg
  have hO0 : RawOK FT XT (rawOf (α := ((Sh.sl (Sh.int .u8))).T) RW0) := rawOK0
  have hO : RawOK FT XT (rawOf (α := ((Sh.sl (Sh.int .u8))).T) RW0) := hO0
  refine ⟨rfl, fun v r h => ?_⟩
  obtain ⟨a0, _⟩ := v
  obtain ⟨N, h1⟩ := hf _ _ h
  exact ans_c (R := (Sh.sl (Sh.int .u8))) (tab := T166) (raw := (rawOf RW0)) (LP := W166 N) (fu := fuelC) hT hO rfl rfl (Nat.le_of_ble_eq_true rfl) loopOK_nil ((e166 N _).trans h1)

def T149 (c166 : Int → Option (List Int)) (c46 : List (List Int) → Option (List Int)) : Nat → Option Ent
  | 166 => some (en166 c166)
  | 46 => some (en46 c46)
  | _ => none
def W149 (c166 : Int → Option (List Int)) (c46 : List (List Int) → Option (List Int)) (N : Nat) : LoopF (((Sh.st (Sh.pr (Sh.int .u8) (Sh.sl (Sh.int .u8))))).T) := fun no =>
  match no with
  | _ => fun _ _ => none
theorem e149 (c166 : Int → Option (List Int)) (c46 : List (List Int) → Option (List Int)) (N : Nat) (a0 : List Int) : evc (T149 c166 c46) (rawOf RW0) (W149 c166 c46 N) (retc k149.res (Sh.st (Sh.pr (Sh.int .u8) (Sh.sl (Sh.int .u8))))) (modeOf FT) 0 fuelC k149.body (env0 k149 (encL [(Sh.ar .u8)] (a0, ())), []) (endK (retc k149.res (Sh.st (Sh.pr (Sh.int .u8) (Sh.sl (Sh.int .u8)))))) = p149 c166 c46 N a0 := by kernel_rfl
theorem ok149 (c166 : Int → Option (List Int)) (c46 : List (List Int) → Option (List Int)) (h166 : EntOK FT XT 166 (en166 c166)) (h46 : EntOK FT XT 46 (en46 c46)) {f : List Int → Option (Int × (List Int))} (hf : ∀ a0 r, f a0 = some r → ∃ N, p149 c166 c46 N a0 = some r) : EntOK FT XT 149 (en149 f) := by
  have hT : TabOK FT XT (T149 c166 c46) := by
    intro g en hg
    unfold T149 at hg
    split at hg <;> first | (injection hg with hg; subst hg; assumption) | cases hg
  have hO0 : RawOK FT XT (rawOf (α := ((Sh.st (Sh.pr (Sh.int .u8) (Sh.sl (Sh.int .u8))))).T) RW0) := rawOK0
  have hO : RawOK FT XT (rawOf (α := ((Sh.st (Sh.pr (Sh.int .u8) (Sh.sl (Sh.int .u8))))).T) RW0) := hO0
  refine ⟨rfl, fun v r h => ?_⟩
  obtain ⟨a0, _⟩ := v
  obtain ⟨N, h1⟩ := hf _ _ h
  exact ans_c (R := (Sh.st (Sh.pr (Sh.int .u8) (Sh.sl (Sh.int .u8))))) (tab := T149 c166 c46) (raw := (rawOf RW0)) (LP := W149 c166 c46 N) (fu := fuelC) hT hO rfl rfl (Nat.le_of_ble_eq_true rfl) loopOK_nil ((e149 c166 c46 N _).trans h1)

def T155 (c167 : Int × (List Int) → Int → Option Int) : Nat → Option Ent
  | 167 => some (en167 c167)
  | _ => none
def W155 (c167 : Int × (List Int) → Int → Option Int) (N : Nat) : LoopF (((Sh.tu (Sh.pr (Sh.ar .u8) (Sh.int .i64)))).T) := fun no =>
  match no with
  | _ => fun _ _ => none
theorem e155 (c167 : Int × (List Int) → Int → Option Int) (N : Nat) (a0 : Int × (List Int)) : evc (T155 c167) (rawOf RW0) (W155 c167 N) (retc k155.res (Sh.tu (Sh.pr (Sh.ar .u8) (Sh.int .i64)))) (modeOf FT) 0 fuelC k155.body (env0 k155 (encL [(Sh.st (Sh.pr (Sh.int .u8) (Sh.sl (Sh.int .u8))))] (a0, ())), []) (endK (retc k155.res (Sh.tu (Sh.pr (Sh.ar .u8) (Sh.int .i64))))) = p155 c167 N a0 := by kernel_rfl
theorem ok155 (c167 : Int × (List Int) → Int → Option Int) (h167 : EntOK FT XT 167 (en167 c167)) {f : Int × (List Int) → Option ((List Int) × Int)} (hf : ∀ a0 r, f a0 = some r → ∃ N, p155 c167 N a0 = some r) : EntOK FT XT 155 (en155 f) := by
  have hT : TabOK FT XT (T155 c167) := by
    intro g en hg
    unfold T155 at hg
    split at hg <;> first | (injection hg with hg; subst hg; assumption) | cases hg
  have hO0 : RawOK FT XT (rawOf (α := ((Sh.tu (Sh.pr (Sh.ar .u8) (Sh.int .i64)))).T) RW0) := rawOK0
  have hO : RawOK FT XT (rawOf (α := ((Sh.tu (Sh.pr (Sh.ar .u8) (Sh.int .i64)))).T) RW0) := hO0
  refine ⟨rfl, fun v r h => ?_⟩
  obtain ⟨a0, _⟩ := v
  obtain ⟨N, h1⟩ := hf _ _ h
  exact ans_c (R := (Sh.tu (Sh.pr (Sh.ar .u8) (Sh.int .i64)))) (tab := T155 c167) (raw := (rawOf RW0)) (LP := W155 c167 N) (fu := fuelC) hT hO rfl rfl (Nat.le_of_ble_eq_true rfl) loopOK_nil ((e155 c167 N _).trans h1)

def T144 (c160 : List Int → List Int → Option Bool) : Nat → Option Ent
  | 160 => some (en160 c160)
  | _ => none
def W144 (c160 : List Int → List Int → Option Bool) (N : Nat) : LoopF (Sh.bool).T := fun no =>
  match no with
  | _ => fun _ _ => none
theorem e144 (c160 : List Int → List Int → Option Bool) (N : Nat) (a0 : Int × (List Int)) (a1 : Int × (List Int)) : evc (T144 c160) (rawOf RW0) (W144 c160 N) (retc k144.res Sh.bool) (modeOf FT) 0 fuelC k144.body (env0 k144 (encL [(Sh.st (Sh.pr (Sh.int .u8) (Sh.sl (Sh.int .u8)))), (Sh.st (Sh.pr (Sh.int .u8) (Sh.sl (Sh.int .u8))))] (a0, (a1, ()))), []) (endK (retc k144.res Sh.bool)) = p144 c160 N a0 a1 := by kernel_rfl
theorem ok144 (c160 : List Int → List Int → Option Bool) (h160 : EntOK FT XT 160 (en160 c160)) {f : Int × (List Int) → Int × (List Int) → Option Bool} (hf : ∀ a0 a1 r, f a0 a1 = some r → ∃ N, p144 c160 N a0 a1 = some r) : EntOK FT XT 144 (en144 f) := by
  have hT : TabOK FT XT (T144 c160) := by
    intro g en hg
    unfold T144 at hg
    split at hg <;> first | (injection hg with hg; subst hg; assumption) | cases hg
  have hO0 : RawOK FT XT (rawOf (α := (Sh.bool).T) RW0) := rawOK0
  have hO : RawOK FT XT (rawOf (α := (Sh.bool).T) RW0) := hO0
  refine ⟨rfl, fun v r h => ?_⟩
  obtain ⟨a0, a1, _⟩ := v
  obtain ⟨N, h1⟩ := hf _ _ _ h
  exact ans_c (R := Sh.bool) (tab := T144 c160) (raw := (rawOf RW0)) (LP := W144 c160 N) (fu := fuelC) hT hO rfl rfl (Nat.le_of_ble_eq_true rfl) loopOK_nil ((e144 c160 N _ _).trans h1)

def T138 (c157 : Int → Option (Int × (List Int))) (c139 : Int × (List Int) → Option ((List Int) × Int)) (c142 : List Int → Option ((Int × (List Int)) × Int × Int)) (c156 : Int × (List Int) → Option (Int × Int)) (c149 : List Int → Option (Int × (List Int))) (c155 : Int × (List Int) → Option ((List Int) × Int)) (c144 : Int × (List Int) → Int × (List Int) → Option Bool) : Nat → Option Ent
  | 157 => some (en157 c157)
  | 139 => some (en139 c139)
  | 142 => some (en142 c142)
  | 156 => some (en156 c156)
  | 149 => some (en149 c149)
  | 155 => some (en155 c155)
  | 144 => some (en144 c144)
  | _ => none
def W138 (c157 : Int → Option (Int × (List Int))) (c139 : Int × (List Int) → Option ((List Int) × Int)) (c142 : List Int → Option ((Int × (List Int)) × Int × Int)) (c156 : Int × (List Int) → Option (Int × Int)) (c149 : List Int → Option (Int × (List Int))) (c155 : Int × (List Int) → Option ((List Int) × Int)) (c144 : Int × (List Int) → Int × (List Int) → Option Bool) (N : Nat) : LoopF (Sh.bool).T := fun no =>
  match no with
  | _ => fun _ _ => none
theorem e138 (c157 : Int → Option (Int × (List Int))) (c139 : Int × (List Int) → Option ((List Int) × Int)) (c142 : List Int → Option ((Int × (List Int)) × Int × Int)) (c156 : Int × (List Int) → Option (Int × Int)) (c149 : List Int → Option (Int × (List Int))) (c155 : Int × (List Int) → Option ((List Int) × Int)) (c144 : Int × (List Int) → Int × (List Int) → Option Bool) (N : Nat)  : evc (T138 c157 c139 c142 c156 c149 c155 c144) (rawOf RW0) (W138 c157 c139 c142 c156 c149 c155 c144 N) (retc k138.res Sh.bool) (modeOf FT) 0 fuelC k138.body (env0 k138 (encL [] ()), []) (endK (retc k138.res Sh.bool)) = p138 c157 c139 c142 c156 c149 c155 c144 N  := by kernel_rfl
theorem ok138 (c157 : Int → Option (Int × (List Int))) (c139 : Int × (List Int) → Option ((List Int) × Int)) (c142 : List Int → Option ((Int × (List Int)) × Int × Int)) (c156 : Int × (List Int) → Option (Int × Int)) (c149 : List Int → Option (Int × (List Int))) (c155 : Int × (List Int) → Option ((List Int) × Int)) (c144 : Int × (List Int) → Int × (List Int) → Option Bool) (h157 : EntOK FT XT 157 (en157 c157)) (h139 : EntOK FT XT 139 (en139 c139)) (h142 : EntOK FT XT 142 (en142 c142)) (h156 : EntOK FT XT 156 (en156 c156)) (h149 : EntOK FT XT 149 (en149 c149)) (h155 : EntOK FT XT 155 (en155 c155)) (h144 : EntOK FT XT 144 (en144 c144)) {f : Option Bool} (hf : ∀  r, f  = some r → ∃ N, p138 c157 c139 c142 c156 c149 c155 c144 N  = some r) : EntOK FT XT 138 (en138 f) := by
  have hT : TabOK FT XT (T138 c157 c139 c142 c156 c149 c155 c144) := by
    intro g en hg
    unfold T138 at hg
    split at hg <;> first | (injection hg with hg; subst hg; assumption) | cases hg
  have hO0 : RawOK FT XT (rawOf (α := (Sh.bool).T) RW0) := rawOK0
  have hO : RawOK FT XT (rawOf (α := (Sh.bool).T) RW0) := hO0
  refine ⟨rfl, fun v r h => ?_⟩
  obtain ⟨N, h1⟩ := hf _ h
  exact ans_c (R := Sh.bool) (tab := T138 c157 c139 c142 c156 c149 c155 c144) (raw := (rawOf RW0)) (LP := W138 c157 c139 c142 c156 c149 c155 c144 N) (fu := fuelC) hT hO rfl rfl (Nat.le_of_ble_eq_true rfl) loopOK_nil ((e138 c157 c139 c142 c156 c149 c155 c144 N ).trans h1)

def T140 : Nat → Option Ent
  | _ => none
def W140 (N : Nat) : LoopF (((Sh.st (Sh.pr (Sh.int .u8) (Sh.sl (Sh.int .u8))))).T) := fun no =>
  match no with
  | _ => fun _ _ => none
theorem e140 (N : Nat) (a0 : Int × (List Int)) : evc (T140) (rawOf RW0) (W140 N) (retc k140.res (Sh.st (Sh.pr (Sh.int .u8) (Sh.sl (Sh.int .u8))))) (modeOf FT) 0 fuelC k140.body (env0 k140 (encL [(Sh.st (Sh.pr (Sh.int .u8) (Sh.sl (Sh.int .u8))))] (a0, ())), []) (endK (retc k140.res (Sh.st (Sh.pr (Sh.int .u8) (Sh.sl (Sh.int .u8)))))) = p140 N a0 := by kernel_rfl
theorem ok140 {f : Int × (List Int) → Option (Int × (List Int))} (hf : ∀ a0 r, f a0 = some r → ∃ N, p140 N a0 = some r) : EntOK FT XT 140 (en140 f) := by
  have hT : TabOK FT XT (T140) := by
    intro g en hg
    unfold T140 at hg
    split at hg <;> first | (injection hg with hg; subst hg; assumption) | cases hg
  have hO0 : RawOK FT XT (rawOf (α := ((Sh.st (Sh.pr (Sh.int .u8) (Sh.sl (Sh.int .u8))))).T) RW0) := rawOK0
  have hO : RawOK FT XT (rawOf (α := ((Sh.st (Sh.pr (Sh.int .u8) (Sh.sl (Sh.int .u8))))).T) RW0) := hO0
  refine ⟨rfl, fun v r h => ?_⟩
  obtain ⟨a0, _⟩ := v
  obtain ⟨N, h1⟩ := hf _ _ h
  exact ans_c (R := (Sh.st (Sh.pr (Sh.int .u8) (Sh.sl (Sh.int .u8))))) (tab := T140) (raw := (rawOf RW0)) (LP := W140 N) (fu := fuelC) hT hO rfl rfl (Nat.le_of_ble_eq_true rfl) loopOK_nil ((e140 N _).trans h1)

def T162 : Nat → Option Ent
  | _ => none
def W162 (N : Nat) : LoopF (Sh.bool).T := fun no =>
  match no with
  | _ => fun _ _ => none
theorem e162 (N : Nat) (a0 : Int) : evc (T162) (rawOf RW0) (W162 N) (retc k162.res Sh.bool) (modeOf FT) 0 fuelC k162.body (env0 k162 (encL [(Sh.int .u8)] (a0, ())), []) (endK (retc k162.res Sh.bool)) = p162 N a0 := by kernel_rfl
theorem ok162 {f : Int → Option Bool} (hf : ∀ a0 r, f a0 = some r → ∃ N, p162 N a0 = some r) : EntOK FT XT 162 (en162 f) := by
  have hT : TabOK FT XT (T162) := by
    intro g en hg
    unfold T162 at hg
    split at hg <;> first | (injection hg with hg; subst hg; assumption) | cases hg
  have hO0 : RawOK FT XT (rawOf (α := (Sh.bool).T) RW0) := rawOK0
  have hO : RawOK FT XT (rawOf (α := (Sh.bool).T) RW0) := hO0
  refine ⟨rfl, fun v r h => ?_⟩
  obtain ⟨a0, _⟩ := v
  obtain ⟨N, h1⟩ := hf _ _ h
  exact ans_c (R := Sh.bool) (tab := T162) (raw := (rawOf RW0)) (LP := W162 N) (fu := fuelC) hT hO rfl rfl (Nat.le_of_ble_eq_true rfl) loopOK_nil ((e162 N _).trans h1)

def T141 (c162 : Int → Option Bool) (c50 : Int → Int → Option (List Int)) : Nat → Option Ent
  | 162 => some (en162 c162)
  | 50 => some (en50 c50)
  | _ => none
def W141 (c162 : Int → Option Bool) (c50 : Int → Int → Option (List Int)) (N : Nat) : LoopF (((Sh.tu (Sh.pr (Sh.sl (Sh.int .u8)) (Sh.int .i64)))).T) := fun no =>
  match no with
  | _ => fun _ _ => none
theorem e141 (c162 : Int → Option Bool) (c50 : Int → Int → Option (List Int)) (N : Nat) (a0 : Int × (List Int)) : evc (T141 c162 c50) (rawOf RW0) (W141 c162 c50 N) (retc k141.res (Sh.tu (Sh.pr (Sh.sl (Sh.int .u8)) (Sh.int .i64)))) (modeOf FT) 0 fuelC k141.body (env0 k141 (encL [(Sh.st (Sh.pr (Sh.int .u8) (Sh.sl (Sh.int .u8))))] (a0, ())), []) (endK (retc k141.res (Sh.tu (Sh.pr (Sh.sl (Sh.int .u8)) (Sh.int .i64))))) = p141 c162 c50 N a0 := by kernel_rfl
theorem ok141 (c162 : Int → Option Bool) (c50 : Int → Int → Option (List Int)) (h162 : EntOK FT XT 162 (en162 c162)) (h50 : EntOK FT XT 50 (en50 c50)) {f : Int × (List Int) → Option ((List Int) × Int)} (hf : ∀ a0 r, f a0 = some r → ∃ N, p141 c162 c50 N a0 = some r) : EntOK FT XT 141 (en141 f) := by
  have hT : TabOK FT XT (T141 c162 c50) := by
    intro g en hg
    unfold T141 at hg
    split at hg <;> first | (injection hg with hg; subst hg; assumption) | cases hg
  have hO0 : RawOK FT XT (rawOf (α := ((Sh.tu (Sh.pr (Sh.sl (Sh.int .u8)) (Sh.int .i64)))).T) RW0) := rawOK0
  have hO : RawOK FT XT (rawOf (α := ((Sh.tu (Sh.pr (Sh.sl (Sh.int .u8)) (Sh.int .i64)))).T) RW0) := hO0
  refine ⟨rfl, fun v r h => ?_⟩
  obtain ⟨a0, _⟩ := v
  obtain ⟨N, h1⟩ := hf _ _ h
  exact ans_c (R := (Sh.tu (Sh.pr (Sh.sl (Sh.int .u8)) (Sh.int .i64)))) (tab := T141 c162 c50) (raw := (rawOf RW0)) (LP := W141 c162 c50 N) (fu := fuelC) hT hO rfl rfl (Nat.le_of_ble_eq_true rfl) loopOK_nil ((e141 c162 c50 N _).trans h1)

def T143 (c51 : List Int → Option Int) (c162 : Int → Option Bool) : Nat → Option Ent
  | 51 => some (en51 c51)
  | 162 => some (en162 c162)
  | _ => none
def W143 (c51 : List Int → Option Int) (c162 : Int → Option Bool) (N : Nat) : LoopF (((Sh.tu (Sh.pr (Sh.st (Sh.pr (Sh.int .u8) (Sh.sl (Sh.int .u8)))) (Sh.pr (Sh.int .i64) (Sh.int .i64))))).T) := fun no =>
  match no with
  | _ => fun _ _ => none
theorem e143 (c51 : List Int → Option Int) (c162 : Int → Option Bool) (N : Nat) (a0 : List Int) : evc (T143 c51 c162) (rawOf RW0) (W143 c51 c162 N) (retc k143.res (Sh.tu (Sh.pr (Sh.st (Sh.pr (Sh.int .u8) (Sh.sl (Sh.int .u8)))) (Sh.pr (Sh.int .i64) (Sh.int .i64))))) (modeOf FT) 0 fuelC k143.body (env0 k143 (encL [(Sh.sl (Sh.int .u8))] (a0, ())), []) (endK (retc k143.res (Sh.tu (Sh.pr (Sh.st (Sh.pr (Sh.int .u8) (Sh.sl (Sh.int .u8)))) (Sh.pr (Sh.int .i64) (Sh.int .i64)))))) = p143 c51 c162 N a0 := by kernel_rfl
theorem ok143 (c51 : List Int → Option Int) (c162 : Int → Option Bool) (h51 : EntOK FT XT 51 (en51 c51)) (h162 : EntOK FT XT 162 (en162 c162)) {f : List Int → Option ((Int × (List Int)) × Int × Int)} (hf : ∀ a0 r, f a0 = some r → ∃ N, p143 c51 c162 N a0 = some r) : EntOK FT XT 143 (en143 f) := by
  have hT : TabOK FT XT (T143 c51 c162) := by
    intro g en hg
    unfold T143 at hg
    split at hg <;> first | (injection hg with hg; subst hg; assumption) | cases hg
  have hO0 : RawOK FT XT (rawOf (α := ((Sh.tu (Sh.pr (Sh.st (Sh.pr (Sh.int .u8) (Sh.sl (Sh.int .u8)))) (Sh.pr (Sh.int .i64) (Sh.int .i64))))).T) RW0) := rawOK0
  have hO : RawOK FT XT (rawOf (α := ((Sh.tu (Sh.pr (Sh.st (Sh.pr (Sh.int .u8) (Sh.sl (Sh.int .u8)))) (Sh.pr (Sh.int .i64) (Sh.int .i64))))).T) RW0) := hO0
  refine ⟨rfl, fun v r h => ?_⟩
  obtain ⟨a0, _⟩ := v
  obtain ⟨N, h1⟩ := hf _ _ h
  exact ans_c (R := (Sh.tu (Sh.pr (Sh.st (Sh.pr (Sh.int .u8) (Sh.sl (Sh.int .u8)))) (Sh.pr (Sh.int .i64) (Sh.int .i64))))) (tab := T143 c51 c162) (raw := (rawOf RW0)) (LP := W143 c51 c162 N) (fu := fuelC) hT hO rfl rfl (Nat.le_of_ble_eq_true rfl) loopOK_nil ((e143 c51 c162 N _).trans h1)

def T165 : Nat → Option Ent
  | _ => none
def H165_0 : Trim := ⟨0, [], false, [0, 3], []⟩
theorem l165_0 : loopN k165 0 = .loop H165_0 (bodyOf (loopN k165 0)) := by kernel_rfl
def P165_0 : Ps := ⟨[(0, (.tb (Sh.int .u8))), (2, .u), (3, (.int .i64)), (7, .u), (14, .u)], []⟩
def Q165_0 : Nat → Ps
  | 0 => ⟨[(0, .u), (2, .u), (3, .u), (7, .u), (14, .u)], []⟩
  | _ => noPs
def u165_0 (N n : Nat) (v : P165_0.T) (κ : (i : Nat) → (Q165_0 i).T → Option (Sh.bool).T) : Option (Sh.bool).T :=
  L165_0 N (κ 0 (((), ((), ((), ((), ((), ()))))), ())) n v.1.1 v.1.2.2.1
def W165_0 (N : Nat) : LoopF (Sh.bool).T := fun no =>
  match no with
  | _ => fun _ _ => none
theorem b165_0 (N n : Nat) (v : P165_0.T) (κ : (i : Nat) → (Q165_0 i).T → Option (Sh.bool).T) :
    evc (T165) (rawOf RW0) (W165_0 N) (retc k165.res Sh.bool) (modeOf FT) 0 fuelC (bodyOf (loopN k165 0)) (P165_0.st v) (roundK 0 H165_0 P165_0 Q165_0 (u165_0 N n) κ) = u165_0 N (n + 1) v κ := by kernel_rfl
theorem o165_0 (hT : TabOK FT XT (T165)) (hO : RawOK FT XT (rawOf (α := (Sh.bool).T) RW0)) (N : Nat) {s : St} {κ : Ex → St → Option (Sh.bool).T} {a : (Sh.bool).T} (h : lpOf 0 H165_0 P165_0 Q165_0 (u165_0 N N) s κ = some a) : Out FT XT 0 (retc k165.res Sh.bool) (loopN k165 0) s κ a := by
  rw [l165_0]
  exact loop_out (LP := W165_0 N) (fu := fuelC) hT hO (fun _ _ => rfl) (b165_0 N) loopOK_nil N h
def W165 (N : Nat) : LoopF (Sh.bool).T := fun no =>
  match no with
  | 0 => lpOf 0 H165_0 P165_0 Q165_0 (u165_0 N N)
  | _ => fun _ _ => none
theorem e165 (N : Nat) (a0 : List Int) : evc (T165) (rawOf RW0) (W165 N) (retc k165.res Sh.bool) (modeOf FT) 0 fuelC k165.body (env0 k165 (encL [(Sh.sl (Sh.int .u8))] (a0, ())), []) (endK (retc k165.res Sh.bool)) = p165 N a0 := by kernel_rfl
theorem ok165 {f : List Int → Option Bool} (hf : ∀ a0 r, f a0 = some r → ∃ N, p165 N a0 = some r) : EntOK FT XT 165 (en165 f) := by
  have hT : TabOK FT XT (T165) := by
    intro g en hg
    unfold T165 at hg
    split at hg <;> first | (injection hg with hg; subst hg; assumption) | cases hg
  have hO0 : RawOK FT XT (rawOf (α := (Sh.bool).T) RW0) := rawOK0
  have hO : RawOK FT XT (rawOf (α := (Sh.bool).T) RW0) := hO0
  refine ⟨rfl, fun v r h => ?_⟩
  obtain ⟨a0, _⟩ := v
  obtain ⟨N, h1⟩ := hf _ _ h
  exact ans_c (R := Sh.bool) (tab := T165) (raw := (rawOf RW0)) (LP := W165 N) (fu := fuelC) hT hO rfl rfl (Nat.le_of_ble_eq_true rfl) (loopOK_cons l165_0 (fun s κ a h => o165_0 hT hO N h) loopOK_nil) ((e165 N _).trans h1)

def T146 (c162 : Int → Option Bool) (c165 : List Int → Option Bool) : Nat → Option Ent
  | 162 => some (en162 c162)
  | 165 => some (en165 c165)
  | _ => none
def W146 (c162 : Int → Option Bool) (c165 : List Int → Option Bool) (N : Nat) : LoopF (((Sh.int .i64)).T) := fun no =>
  match no with
  | _ => fun _ _ => none
theorem e146 (c162 : Int → Option Bool) (c165 : List Int → Option Bool) (N : Nat) (a0 : Int × (List Int)) : evc (T146 c162 c165) (rawOf RW0) (W146 c162 c165 N) (retc k146.res (Sh.int .i64)) (modeOf FT) 0 fuelC k146.body (env0 k146 (encL [(Sh.st (Sh.pr (Sh.int .u8) (Sh.sl (Sh.int .u8))))] (a0, ())), []) (endK (retc k146.res (Sh.int .i64))) = p146 c162 c165 N a0 := by kernel_rfl
theorem ok146 (c162 : Int → Option Bool) (c165 : List Int → Option Bool) (h162 : EntOK FT XT 162 (en162 c162)) (h165 : EntOK FT XT 165 (en165 c165)) {f : Int × (List Int) → Option Int} (hf : ∀ a0 r, f a0 = some r → ∃ N, p146 c162 c165 N a0 = some r) : EntOK FT XT 146 (en146 f) := by
  have hT : TabOK FT XT (T146 c162 c165) := by
    intro g en hg
    unfold T146 at hg
    split at hg <;> first | (injection hg with hg; subst hg; assumption) | cases hg
  have hO0 : RawOK FT XT (rawOf (α := ((Sh.int .i64)).T) RW0) := rawOK0
  have hO : RawOK FT XT (rawOf (α := ((Sh.int .i64)).T) RW0) := hO0
  refine ⟨rfl, fun v r h => ?_⟩
  obtain ⟨a0, _⟩ := v
  obtain ⟨N, h1⟩ := hf _ _ h
  exact ans_c (R := (Sh.int .i64)) (tab := T146 c162 c165) (raw := (rawOf RW0)) (LP := W146 c162 c165 N) (fu := fuelC) hT hO rfl rfl (Nat.le_of_ble_eq_true rfl) loopOK_nil ((e146 c162 c165 N _).trans h1)

def T124 (c138 : Option Bool) (c140 : Int × (List Int) → Option (Int × (List Int))) (c139 : Int × (List Int) → Option ((List Int) × Int)) (c141 : Int × (List Int) → Option ((List Int) × Int)) (c142 : List Int → Option ((Int × (List Int)) × Int × Int)) (c143 : List Int → Option ((Int × (List Int)) × Int × Int)) (c23 : List Int → List Int → Option Bool) (c144 : Int × (List Int) → Int × (List Int) → Option Bool) (c145 : Int × (List Int) → Option Int) (c146 : Int × (List Int) → Option Int) : Nat → Option Ent
  | 138 => some (en138 c138)
  | 140 => some (en140 c140)
  | 139 => some (en139 c139)
  | 141 => some (en141 c141)
  | 142 => some (en142 c142)
  | 143 => some (en143 c143)
  | 23 => some (en23 c23)
  | 144 => some (en144 c144)
  | 145 => some (en145 c145)
  | 146 => some (en146 c146)
  | _ => none
def W124 (c138 : Option Bool) (c140 : Int × (List Int) → Option (Int × (List Int))) (c139 : Int × (List Int) → Option ((List Int) × Int)) (c141 : Int × (List Int) → Option ((List Int) × Int)) (c142 : List Int → Option ((Int × (List Int)) × Int × Int)) (c143 : List Int → Option ((Int × (List Int)) × Int × Int)) (c23 : List Int → List Int → Option Bool) (c144 : Int × (List Int) → Int × (List Int) → Option Bool) (c145 : Int × (List Int) → Option Int) (c146 : Int × (List Int) → Option Int) (N : Nat) : LoopF (Sh.bool).T := fun no =>
  match no with
  | _ => fun _ _ => none
theorem e124 (c138 : Option Bool) (c140 : Int × (List Int) → Option (Int × (List Int))) (c139 : Int × (List Int) → Option ((List Int) × Int)) (c141 : Int × (List Int) → Option ((List Int) × Int)) (c142 : List Int → Option ((Int × (List Int)) × Int × Int)) (c143 : List Int → Option ((Int × (List Int)) × Int × Int)) (c23 : List Int → List Int → Option Bool) (c144 : Int × (List Int) → Int × (List Int) → Option Bool) (c145 : Int × (List Int) → Option Int) (c146 : Int × (List Int) → Option Int) (N : Nat) (a0 : Int × (List Int)) (a1 : List Int) : evc (T124 c138 c140 c139 c141 c142 c143 c23 c144 c145 c146) (rawOf RW0) (W124 c138 c140 c139 c141 c142 c143 c23 c144 c145 c146 N) (retc k124.res Sh.bool) (modeOf FT) 0 fuelC k124.body (env0 k124 (encL [(Sh.st (Sh.pr (Sh.int .u8) (Sh.sl (Sh.int .u8)))), (Sh.sl (Sh.int .u8))] (a0, (a1, ()))), []) (endK (retc k124.res Sh.bool)) = p124 c138 c140 c139 c141 c142 c143 c23 c144 c145 c146 N a0 a1 := by kernel_rfl
theorem ok124 (c138 : Option Bool) (c140 : Int × (List Int) → Option (Int × (List Int))) (c139 : Int × (List Int) → Option ((List Int) × Int)) (c141 : Int × (List Int) → Option ((List Int) × Int)) (c142 : List Int → Option ((Int × (List Int)) × Int × Int)) (c143 : List Int → Option ((Int × (List Int)) × Int × Int)) (c23 : List Int → List Int → Option Bool) (c144 : Int × (List Int) → Int × (List Int) → Option Bool) (c145 : Int × (List Int) → Option Int) (c146 : Int × (List Int) → Option Int) (h138 : EntOK FT XT 138 (en138 c138)) (h140 : EntOK FT XT 140 (en140 c140)) (h139 : EntOK FT XT 139 (en139 c139)) (h141 : EntOK FT XT 141 (en141 c141)) (h142 : EntOK FT XT 142 (en142 c142)) (h143 : EntOK FT XT 143 (en143 c143)) (h23 : EntOK FT XT 23 (en23 c23)) (h144 : EntOK FT XT 144 (en144 c144)) (h145 : EntOK FT XT 145 (en145 c145)) (h146 : EntOK FT XT 146 (en146 c146)) {f : Int × (List Int) → List Int → Option Bool} (hf : ∀ a0 a1 r, f a0 a1 = some r → ∃ N, p124 c138 c140 c139 c141 c142 c143 c23 c144 c145 c146 N a0 a1 = some r) : EntOK FT XT 124 (en124 f) := by
  have hT : TabOK FT XT (T124 c138 c140 c139 c141 c142 c143 c23 c144 c145 c146) := by
    intro g en hg
    unfold T124 at hg
    split at hg <;> first | (injection hg with hg; subst hg; assumption) | cases hg
  have hO0 : RawOK FT XT (rawOf (α := (Sh.bool).T) RW0) := rawOK0
  have hO : RawOK FT XT (rawOf (α := (Sh.bool).T) RW0) := hO0
  refine ⟨rfl, fun v r h => ?_⟩
  obtain ⟨a0, a1, _⟩ := v
  obtain ⟨N, h1⟩ := hf _ _ _ h
  exact ans_c (R := Sh.bool) (tab := T124 c138 c140 c139 c141 c142 c143 c23 c144 c145 c146) (raw := (rawOf RW0)) (LP := W124 c138 c140 c139 c141 c142 c143 c23 c144 c145 c146 N) (fu := fuelC) hT hO rfl rfl (Nat.le_of_ble_eq_true rfl) loopOK_nil ((e124 c138 c140 c139 c141 c142 c143 c23 c144 c145 c146 N _ _).trans h1)

def T147 (c19 : Int → Int → Bool → Option ((List Int) × Int)) (c166 : Int → Option (List Int)) (c46 : List (List Int) → Option (List Int)) : Nat → Option Ent
  | 19 => some (en19 c19)
  | 166 => some (en166 c166)
  | 46 => some (en46 c46)
  | _ => none
def W147 (c19 : Int → Int → Bool → Option ((List Int) × Int)) (c166 : Int → Option (List Int)) (c46 : List (List Int) → Option (List Int)) (N : Nat) : LoopF (((Sh.st (Sh.pr (Sh.int .u8) (Sh.sl (Sh.int .u8))))).T) := fun no =>
  match no with
  | _ => fun _ _ => none
theorem e147 (c19 : Int → Int → Bool → Option ((List Int) × Int)) (c166 : Int → Option (List Int)) (c46 : List (List Int) → Option (List Int)) (N : Nat) (a0 : Int × Int × (List Int)) : evc (T147 c19 c166 c46) (rawOf RW0) (W147 c19 c166 c46 N) (retc k147.res (Sh.st (Sh.pr (Sh.int .u8) (Sh.sl (Sh.int .u8))))) (modeOf FT) 0 fuelC k147.body (env0 k147 (encL [(Sh.st (Sh.pr (Sh.int .u8) (Sh.pr (Sh.int .u32) (Sh.sl (Sh.int .u8)))))] (a0, ())), []) (endK (retc k147.res (Sh.st (Sh.pr (Sh.int .u8) (Sh.sl (Sh.int .u8)))))) = p147 c19 c166 c46 N a0 := by kernel_rfl
theorem ok147 (c19 : Int → Int → Bool → Option ((List Int) × Int)) (c166 : Int → Option (List Int)) (c46 : List (List Int) → Option (List Int)) (h19 : EntOK FT XT 19 (en19 c19)) (h166 : EntOK FT XT 166 (en166 c166)) (h46 : EntOK FT XT 46 (en46 c46)) {f : Int × Int × (List Int) → Option (Int × (List Int))} (hf : ∀ a0 r, f a0 = some r → ∃ N, p147 c19 c166 c46 N a0 = some r) : EntOK FT XT 147 (en147 f) := by
  have hT : TabOK FT XT (T147 c19 c166 c46) := by
    intro g en hg
    unfold T147 at hg
    split at hg <;> first | (injection hg with hg; subst hg; assumption) | cases hg
  have hO0 : RawOK FT XT (rawOf (α := ((Sh.st (Sh.pr (Sh.int .u8) (Sh.sl (Sh.int .u8))))).T) RW0) := rawOK0
  have hO : RawOK FT XT (rawOf (α := ((Sh.st (Sh.pr (Sh.int .u8) (Sh.sl (Sh.int .u8))))).T) RW0) := hO0
  refine ⟨rfl, fun v r h => ?_⟩
  obtain ⟨a0, _⟩ := v
  obtain ⟨N, h1⟩ := hf _ _ h
  exact ans_c (R := (Sh.st (Sh.pr (Sh.int .u8) (Sh.sl (Sh.int .u8))))) (tab := T147 c19 c166 c46) (raw := (rawOf RW0)) (LP := W147 c19 c166 c46 N) (fu := fuelC) hT hO rfl rfl (Nat.le_of_ble_eq_true rfl) loopOK_nil ((e147 c19 c166 c46 N _).trans h1)

def T148 (c166 : Int → Option (List Int)) (c46 : List (List Int) → Option (List Int)) : Nat → Option Ent
  | 166 => some (en166 c166)
  | 46 => some (en46 c46)
  | _ => none
def W148 (c166 : Int → Option (List Int)) (c46 : List (List Int) → Option (List Int)) (N : Nat) : LoopF (((Sh.st (Sh.pr (Sh.int .u8) (Sh.sl (Sh.int .u8))))).T) := fun no =>
  match no with
  | _ => fun _ _ => none
theorem e148 (c166 : Int → Option (List Int)) (c46 : List (List Int) → Option (List Int)) (N : Nat) (a0 : List Int) : evc (T148 c166 c46) (rawOf RW0) (W148 c166 c46 N) (retc k148.res (Sh.st (Sh.pr (Sh.int .u8) (Sh.sl (Sh.int .u8))))) (modeOf FT) 0 fuelC k148.body (env0 k148 (encL [(Sh.ar .u8)] (a0, ())), []) (endK (retc k148.res (Sh.st (Sh.pr (Sh.int .u8) (Sh.sl (Sh.int .u8)))))) = p148 c166 c46 N a0 := by kernel_rfl
theorem ok148 (c166 : Int → Option (List Int)) (c46 : List (List Int) → Option (List Int)) (h166 : EntOK FT XT 166 (en166 c166)) (h46 : EntOK FT XT 46 (en46 c46)) {f : List Int → Option (Int × (List Int))} (hf : ∀ a0 r, f a0 = some r → ∃ N, p148 c166 c46 N a0 = some r) : EntOK FT XT 148 (en148 f) := by
  have hT : TabOK FT XT (T148 c166 c46) := by
    intro g en hg
    unfold T148 at hg
    split at hg <;> first | (injection hg with hg; subst hg; assumption) | cases hg
  have hO0 : RawOK FT XT (rawOf (α := ((Sh.st (Sh.pr (Sh.int .u8) (Sh.sl (Sh.int .u8))))).T) RW0) := rawOK0
  have hO : RawOK FT XT (rawOf (α := ((Sh.st (Sh.pr (Sh.int .u8) (Sh.sl (Sh.int .u8))))).T) RW0) := hO0
  refine ⟨rfl, fun v r h => ?_⟩
  obtain ⟨a0, _⟩ := v
  obtain ⟨N, h1⟩ := hf _ _ h
  exact ans_c (R := (Sh.st (Sh.pr (Sh.int .u8) (Sh.sl (Sh.int .u8))))) (tab := T148 c166 c46) (raw := (rawOf RW0)) (LP := W148 c166 c46 N) (fu := fuelC) hT hO rfl rfl (Nat.le_of_ble_eq_true rfl) loopOK_nil ((e148 c166 c46 N _).trans h1)

def T150 (c50 : Int → Int → Option (List Int)) : Nat → Option Ent
  | 50 => some (en50 c50)
  | _ => none
def W150 (c50 : Int → Int → Option (List Int)) (N : Nat) : LoopF (((Sh.st (Sh.pr (Sh.int .u8) (Sh.sl (Sh.int .u8))))).T) := fun no =>
  match no with
  | _ => fun _ _ => none
theorem e150 (c50 : Int → Int → Option (List Int)) (N : Nat) (a0 : Int) (a1 : Int) (a2 : List Int) : evc (T150 c50) (rawOf RW0) (W150 c50 N) (retc k150.res (Sh.st (Sh.pr (Sh.int .u8) (Sh.sl (Sh.int .u8))))) (modeOf FT) 0 fuelC k150.body (env0 k150 (encL [(Sh.int .u8), (Sh.int .u32), (Sh.sl (Sh.int .u8))] (a0, (a1, (a2, ())))), []) (endK (retc k150.res (Sh.st (Sh.pr (Sh.int .u8) (Sh.sl (Sh.int .u8)))))) = p150 c50 N a0 a1 a2 := by kernel_rfl
theorem ok150 (c50 : Int → Int → Option (List Int)) (h50 : EntOK FT XT 50 (en50 c50)) {f : Int → Int → List Int → Option (Int × (List Int))} (hf : ∀ a0 a1 a2 r, f a0 a1 a2 = some r → ∃ N, p150 c50 N a0 a1 a2 = some r) : EntOK FT XT 150 (en150 f) := by
  have hT : TabOK FT XT (T150 c50) := by
    intro g en hg
    unfold T150 at hg
    split at hg <;> first | (injection hg with hg; subst hg; assumption) | cases hg
  have hO0 : RawOK FT XT (rawOf (α := ((Sh.st (Sh.pr (Sh.int .u8) (Sh.sl (Sh.int .u8))))).T) RW0) := rawOK0
  have hO : RawOK FT XT (rawOf (α := ((Sh.st (Sh.pr (Sh.int .u8) (Sh.sl (Sh.int .u8))))).T) RW0) := hO0
  refine ⟨rfl, fun v r h => ?_⟩
  obtain ⟨a0, a1, a2, _⟩ := v
  obtain ⟨N, h1⟩ := hf _ _ _ _ h
  exact ans_c (R := (Sh.st (Sh.pr (Sh.int .u8) (Sh.sl (Sh.int .u8))))) (tab := T150 c50) (raw := (rawOf RW0)) (LP := W150 c50 N) (fu := fuelC) hT hO rfl rfl (Nat.le_of_ble_eq_true rfl) loopOK_nil ((e150 c50 N _ _ _).trans h1)

def T151 : Nat → Option Ent
  | _ => none
def W151 (N : Nat) : LoopF (((Sh.st (Sh.pr (Sh.int .u8) (Sh.sl (Sh.int .u8))))).T) := fun no =>
  match no with
  | _ => fun _ _ => none
theorem e151 (N : Nat) (a0 : Int) (a1 : List Int) (a2 : List Int) (a3 : List Int) : evc (T151) (rawOf RW0) (W151 N) (retc k151.res (Sh.st (Sh.pr (Sh.int .u8) (Sh.sl (Sh.int .u8))))) (modeOf FT) 0 fuelC k151.body (env0 k151 (encL [(Sh.int .u8), (Sh.ar .u8), (Sh.ar .u8), (Sh.ar .u8)] (a0, (a1, (a2, (a3, ()))))), []) (endK (retc k151.res (Sh.st (Sh.pr (Sh.int .u8) (Sh.sl (Sh.int .u8)))))) = p151 N a0 a1 a2 a3 := by kernel_rfl
theorem ok151 {f : Int → List Int → List Int → List Int → Option (Int × (List Int))} (hf : ∀ a0 a1 a2 a3 r, f a0 a1 a2 a3 = some r → ∃ N, p151 N a0 a1 a2 a3 = some r) : EntOK FT XT 151 (en151 f) := by
  have hT : TabOK FT XT (T151) := by
    intro g en hg
    unfold T151 at hg
    split at hg <;> first | (injection hg with hg; subst hg; assumption) | cases hg
  have hO0 : RawOK FT XT (rawOf (α := ((Sh.st (Sh.pr (Sh.int .u8) (Sh.sl (Sh.int .u8))))).T) RW0) := rawOK0
  have hO : RawOK FT XT (rawOf (α := ((Sh.st (Sh.pr (Sh.int .u8) (Sh.sl (Sh.int .u8))))).T) RW0) := hO0
  refine ⟨rfl, fun v r h => ?_⟩
  obtain ⟨a0, a1, a2, a3, _⟩ := v
  obtain ⟨N, h1⟩ := hf _ _ _ _ _ h
  exact ans_c (R := (Sh.st (Sh.pr (Sh.int .u8) (Sh.sl (Sh.int .u8))))) (tab := T151) (raw := (rawOf RW0)) (LP := W151 N) (fu := fuelC) hT hO rfl rfl (Nat.le_of_ble_eq_true rfl) loopOK_nil ((e151 N _ _ _ _).trans h1)

def T152 : Nat → Option Ent
  | _ => none
def W152 (N : Nat) : LoopF (((Sh.st (Sh.pr (Sh.int .u8) (Sh.sl (Sh.int .u8))))).T) := fun no =>
  match no with
  | _ => fun _ _ => none
theorem e152 (N : Nat) (a0 : Int) (a1 : List Int) : evc (T152) (rawOf RW0) (W152 N) (retc k152.res (Sh.st (Sh.pr (Sh.int .u8) (Sh.sl (Sh.int .u8))))) (modeOf FT) 0 fuelC k152.body (env0 k152 (encL [(Sh.int .u8), (Sh.ar .u8)] (a0, (a1, ()))), []) (endK (retc k152.res (Sh.st (Sh.pr (Sh.int .u8) (Sh.sl (Sh.int .u8)))))) = p152 N a0 a1 := by kernel_rfl
theorem ok152 {f : Int → List Int → Option (Int × (List Int))} (hf : ∀ a0 a1 r, f a0 a1 = some r → ∃ N, p152 N a0 a1 = some r) : EntOK FT XT 152 (en152 f) := by
  have hT : TabOK FT XT (T152) := by
    intro g en hg
    unfold T152 at hg
    split at hg <;> first | (injection hg with hg; subst hg; assumption) | cases hg
  have hO0 : RawOK FT XT (rawOf (α := ((Sh.st (Sh.pr (Sh.int .u8) (Sh.sl (Sh.int .u8))))).T) RW0) := rawOK0
  have hO : RawOK FT XT (rawOf (α := ((Sh.st (Sh.pr (Sh.int .u8) (Sh.sl (Sh.int .u8))))).T) RW0) := hO0
  refine ⟨rfl, fun v r h => ?_⟩
  obtain ⟨a0, a1, _⟩ := v
  obtain ⟨N, h1⟩ := hf _ _ _ h
  exact ans_c (R := (Sh.st (Sh.pr (Sh.int .u8) (Sh.sl (Sh.int .u8))))) (tab := T152) (raw := (rawOf RW0)) (LP := W152 N) (fu := fuelC) hT hO rfl rfl (Nat.le_of_ble_eq_true rfl) loopOK_nil ((e152 N _ _).trans h1)

def T153 (c167 : Int × (List Int) → Int → Option Int) (c21 : List Int → Bool → Option (Int × Int)) (c108 : List Int → Option (List Int)) : Nat → Option Ent
  | 167 => some (en167 c167)
  | 21 => some (en21 c21)
  | 108 => some (en108 c108)
  | _ => none
def W153 (c167 : Int × (List Int) → Int → Option Int) (c21 : List Int → Bool → Option (Int × Int)) (c108 : List Int → Option (List Int)) (N : Nat) : LoopF (((Sh.tu (Sh.pr (Sh.st (Sh.pr (Sh.int .u8) (Sh.pr (Sh.int .u32) (Sh.sl (Sh.int .u8))))) (Sh.int .i64)))).T) := fun no =>
  match no with
  | _ => fun _ _ => none
theorem e153 (c167 : Int × (List Int) → Int → Option Int) (c21 : List Int → Bool → Option (Int × Int)) (c108 : List Int → Option (List Int)) (N : Nat) (a0 : Int × (List Int)) : evc (T153 c167 c21 c108) (rawOf RW0) (W153 c167 c21 c108 N) (retc k153.res (Sh.tu (Sh.pr (Sh.st (Sh.pr (Sh.int .u8) (Sh.pr (Sh.int .u32) (Sh.sl (Sh.int .u8))))) (Sh.int .i64)))) (modeOf FT) 0 fuelC k153.body (env0 k153 (encL [(Sh.st (Sh.pr (Sh.int .u8) (Sh.sl (Sh.int .u8))))] (a0, ())), []) (endK (retc k153.res (Sh.tu (Sh.pr (Sh.st (Sh.pr (Sh.int .u8) (Sh.pr (Sh.int .u32) (Sh.sl (Sh.int .u8))))) (Sh.int .i64))))) = p153 c167 c21 c108 N a0 := by kernel_rfl
theorem ok153 (c167 : Int × (List Int) → Int → Option Int) (c21 : List Int → Bool → Option (Int × Int)) (c108 : List Int → Option (List Int)) (h167 : EntOK FT XT 167 (en167 c167)) (h21 : EntOK FT XT 21 (en21 c21)) (h108 : EntOK FT XT 108 (en108 c108)) {f : Int × (List Int) → Option ((Int × Int × (List Int)) × Int)} (hf : ∀ a0 r, f a0 = some r → ∃ N, p153 c167 c21 c108 N a0 = some r) : EntOK FT XT 153 (en153 f) := by
  have hT : TabOK FT XT (T153 c167 c21 c108) := by
    intro g en hg
    unfold T153 at hg
    split at hg <;> first | (injection hg with hg; subst hg; assumption) | cases hg
  have hO0 : RawOK FT XT (rawOf (α := ((Sh.tu (Sh.pr (Sh.st (Sh.pr (Sh.int .u8) (Sh.pr (Sh.int .u32) (Sh.sl (Sh.int .u8))))) (Sh.int .i64)))).T) RW0) := rawOK0
  have hO : RawOK FT XT (rawOf (α := ((Sh.tu (Sh.pr (Sh.st (Sh.pr (Sh.int .u8) (Sh.pr (Sh.int .u32) (Sh.sl (Sh.int .u8))))) (Sh.int .i64)))).T) RW0) := hO0
  refine ⟨rfl, fun v r h => ?_⟩
  obtain ⟨a0, _⟩ := v
  obtain ⟨N, h1⟩ := hf _ _ h
  exact ans_c (R := (Sh.tu (Sh.pr (Sh.st (Sh.pr (Sh.int .u8) (Sh.pr (Sh.int .u32) (Sh.sl (Sh.int .u8))))) (Sh.int .i64)))) (tab := T153 c167 c21 c108) (raw := (rawOf RW0)) (LP := W153 c167 c21 c108 N) (fu := fuelC) hT hO rfl rfl (Nat.le_of_ble_eq_true rfl) loopOK_nil ((e153 c167 c21 c108 N _).trans h1)

def T154 (c167 : Int × (List Int) → Int → Option Int) : Nat → Option Ent
  | 167 => some (en167 c167)
  | _ => none
def W154 (c167 : Int × (List Int) → Int → Option Int) (N : Nat) : LoopF (((Sh.tu (Sh.pr (Sh.ar .u8) (Sh.int .i64)))).T) := fun no =>
  match no with
  | _ => fun _ _ => none
theorem e154 (c167 : Int × (List Int) → Int → Option Int) (N : Nat) (a0 : Int × (List Int)) : evc (T154 c167) (rawOf RW0) (W154 c167 N) (retc k154.res (Sh.tu (Sh.pr (Sh.ar .u8) (Sh.int .i64)))) (modeOf FT) 0 fuelC k154.body (env0 k154 (encL [(Sh.st (Sh.pr (Sh.int .u8) (Sh.sl (Sh.int .u8))))] (a0, ())), []) (endK (retc k154.res (Sh.tu (Sh.pr (Sh.ar .u8) (Sh.int .i64))))) = p154 c167 N a0 := by kernel_rfl
theorem ok154 (c167 : Int × (List Int) → Int → Option Int) (h167 : EntOK FT XT 167 (en167 c167)) {f : Int × (List Int) → Option ((List Int) × Int)} (hf : ∀ a0 r, f a0 = some r → ∃ N, p154 c167 N a0 = some r) : EntOK FT XT 154 (en154 f) := by
  have hT : TabOK FT XT (T154 c167) := by
    intro g en hg
    unfold T154 at hg
    split at hg <;> first | (injection hg with hg; subst hg; assumption) | cases hg
  have hO0 : RawOK FT XT (rawOf (α := ((Sh.tu (Sh.pr (Sh.ar .u8) (Sh.int .i64)))).T) RW0) := rawOK0
  have hO : RawOK FT XT (rawOf (α := ((Sh.tu (Sh.pr (Sh.ar .u8) (Sh.int .i64)))).T) RW0) := hO0
  refine ⟨rfl, fun v r h => ?_⟩
  obtain ⟨a0, _⟩ := v
  obtain ⟨N, h1⟩ := hf _ _ h
  exact ans_c (R := (Sh.tu (Sh.pr (Sh.ar .u8) (Sh.int .i64)))) (tab := T154 c167) (raw := (rawOf RW0)) (LP := W154 c167 N) (fu := fuelC) hT hO rfl rfl (Nat.le_of_ble_eq_true rfl) loopOK_nil ((e154 c167 N _).trans h1)

def T125 (c138 : Option Bool) (c147 : Int × Int × (List Int) → Option (Int × (List Int))) (c148 : List Int → Option (Int × (List Int))) (c149 : List Int → Option (Int × (List Int))) (c150 : Int → Int → List Int → Option (Int × (List Int))) (c140 : Int × (List Int) → Option (Int × (List Int))) (c144 : Int × (List Int) → Int × (List Int) → Option Bool) (c151 : Int → List Int → List Int → List Int → Option (Int × (List Int))) (c152 : Int → List Int → Option (Int × (List Int))) (c153 : Int × (List Int) → Option ((Int × Int × (List Int)) × Int)) (c154 : Int × (List Int) → Option ((List Int) × Int)) (c155 : Int × (List Int) → Option ((List Int) × Int)) (c157 : Int → Option (Int × (List Int))) (c156 : Int × (List Int) → Option (Int × Int)) (c23 : List Int → List Int → Option Bool) : Nat → Option Ent
  | 138 => some (en138 c138)
  | 147 => some (en147 c147)
  | 148 => some (en148 c148)
  | 149 => some (en149 c149)
  | 150 => some (en150 c150)
  | 140 => some (en140 c140)
  | 144 => some (en144 c144)
  | 151 => some (en151 c151)
  | 152 => some (en152 c152)
  | 153 => some (en153 c153)
  | 154 => some (en154 c154)
  | 155 => some (en155 c155)
  | 157 => some (en157 c157)
  | 156 => some (en156 c156)
  | 23 => some (en23 c23)
  | _ => none
def W125 (c138 : Option Bool) (c147 : Int × Int × (List Int) → Option (Int × (List Int))) (c148 : List Int → Option (Int × (List Int))) (c149 : List Int → Option (Int × (List Int))) (c150 : Int → Int → List Int → Option (Int × (List Int))) (c140 : Int × (List Int) → Option (Int × (List Int))) (c144 : Int × (List Int) → Int × (List Int) → Option Bool) (c151 : Int → List Int → List Int → List Int → Option (Int × (List Int))) (c152 : Int → List Int → Option (Int × (List Int))) (c153 : Int × (List Int) → Option ((Int × Int × (List Int)) × Int)) (c154 : Int × (List Int) → Option ((List Int) × Int)) (c155 : Int × (List Int) → Option ((List Int) × Int)) (c157 : Int → Option (Int × (List Int))) (c156 : Int × (List Int) → Option (Int × Int)) (c23 : List Int → List Int → Option Bool) (N : Nat) : LoopF (Sh.bool).T := fun no =>
  match no with
  | _ => fun _ _ => none
theorem e125 (c138 : Option Bool) (c147 : Int × Int × (List Int) → Option (Int × (List Int))) (c148 : List Int → Option (Int × (List Int))) (c149 : List Int → Option (Int × (List Int))) (c150 : Int → Int → List Int → Option (Int × (List Int))) (c140 : Int × (List Int) → Option (Int × (List Int))) (c144 : Int × (List Int) → Int × (List Int) → Option Bool) (c151 : Int → List Int → List Int → List Int → Option (Int × (List Int))) (c152 : Int → List Int → Option (Int × (List Int))) (c153 : Int × (List Int) → Option ((Int × Int × (List Int)) × Int)) (c154 : Int × (List Int) → Option ((List Int) × Int)) (c155 : Int × (List Int) → Option ((List Int) × Int)) (c157 : Int → Option (Int × (List Int))) (c156 : Int × (List Int) → Option (Int × Int)) (c23 : List Int → List Int → Option Bool) (N : Nat) (a0 : Int × Int × (List Int)) (a1 : List Int) (a2 : List Int) : evc (T125 c138 c147 c148 c149 c150 c140 c144 c151 c152 c153 c154 c155 c157 c156 c23) (rawOf RW0) (W125 c138 c147 c148 c149 c150 c140 c144 c151 c152 c153 c154 c155 c157 c156 c23 N) (retc k125.res Sh.bool) (modeOf FT) 0 fuelC k125.body (env0 k125 (encL [(Sh.st (Sh.pr (Sh.int .u8) (Sh.pr (Sh.int .u32) (Sh.sl (Sh.int .u8))))), (Sh.ar .u8), (Sh.ar .u8)] (a0, (a1, (a2, ())))), []) (endK (retc k125.res Sh.bool)) = p125 c138 c147 c148 c149 c150 c140 c144 c151 c152 c153 c154 c155 c157 c156 c23 N a0 a1 a2 := by kernel_rfl
theorem ok125 (c138 : Option Bool) (c147 : Int × Int × (List Int) → Option (Int × (List Int))) (c148 : List Int → Option (Int × (List Int))) (c149 : List Int → Option (Int × (List Int))) (c150 : Int → Int → List Int → Option (Int × (List Int))) (c140 : Int × (List Int) → Option (Int × (List Int))) (c144 : Int × (List Int) → Int × (List Int) → Option Bool) (c151 : Int → List Int → List Int → List Int → Option (Int × (List Int))) (c152 : Int → List Int → Option (Int × (List Int))) (c153 : Int × (List Int) → Option ((Int × Int × (List Int)) × Int)) (c154 : Int × (List Int) → Option ((List Int) × Int)) (c155 : Int × (List Int) → Option ((List Int) × Int)) (c157 : Int → Option (Int × (List Int))) (c156 : Int × (List Int) → Option (Int × Int)) (c23 : List Int → List Int → Option Bool) (h138 : EntOK FT XT 138 (en138 c138)) (h147 : EntOK FT XT 147 (en147 c147)) (h148 : EntOK FT XT 148 (en148 c148)) (h149 : EntOK FT XT 149 (en149 c149)) (h150 : EntOK FT XT 150 (en150 c150)) (h140 : EntOK FT XT 140 (en140 c140)) (h144 : EntOK FT XT 144 (en144 c144)) (h151 : EntOK FT XT 151 (en151 c151)) (h152 : EntOK FT XT 152 (en152 c152)) (h153 : EntOK FT XT 153 (en153 c153)) (h154 : EntOK FT XT 154 (en154 c154)) (h155 : EntOK FT XT 155 (en155 c155)) (h157 : EntOK FT XT 157 (en157 c157)) (h156 : EntOK FT XT 156 (en156 c156)) (h23 : EntOK FT XT 23 (en23 c23)) {f : Int × Int × (List Int) → List Int → List Int → Option Bool} (hf : ∀ a0 a1 a2 r, f a0 a1 a2 = some r → ∃ N, p125 c138 c147 c148 c149 c150 c140 c144 c151 c152 c153 c154 c155 c157 c156 c23 N a0 a1 a2 = some r) : EntOK FT XT 125 (en125 f) := by
  have hT : TabOK FT XT (T125 c138 c147 c148 c149 c150 c140 c144 c151 c152 c153 c154 c155 c157 c156 c23) := by
    intro g en hg
    unfold T125 at hg
    split at hg <;> first | (injection hg with hg; subst hg; assumption) | cases hg
  have hO0 : RawOK FT XT (rawOf (α := (Sh.bool).T) RW0) := rawOK0
  have hO : RawOK FT XT (rawOf (α := (Sh.bool).T) RW0) := hO0
  refine ⟨rfl, fun v r h => ?_⟩
  obtain ⟨a0, a1, a2, _⟩ := v
  obtain ⟨N, h1⟩ := hf _ _ _ _ h
  exact ans_c (R := Sh.bool) (tab := T125 c138 c147 c148 c149 c150 c140 c144 c151 c152 c153 c154 c155 c157 c156 c23) (raw := (rawOf RW0)) (LP := W125 c138 c147 c148 c149 c150 c140 c144 c151 c152 c153 c154 c155 c157 c156 c23 N) (fu := fuelC) hT hO rfl rfl (Nat.le_of_ble_eq_true rfl) loopOK_nil ((e125 c138 c147 c148 c149 c150 c140 c144 c151 c152 c153 c154 c155 c157 c156 c23 N _ _ _).trans h1)

def T158 (c146 : Int × (List Int) → Option Int) : Nat → Option Ent
  | 146 => some (en146 c146)
  | _ => none
def W158 (c146 : Int × (List Int) → Option Int) (N : Nat) : LoopF (((Sh.int .i64)).T) := fun no =>
  match no with
  | _ => fun _ _ => none
theorem e158 (c146 : Int × (List Int) → Option Int) (N : Nat) (a0 : Int × (List Int)) (a1 : Int) : evc (T158 c146) (rawOf RW0) (W158 c146 N) (retc k158.res (Sh.int .i64)) (modeOf FT) 0 fuelC k158.body (env0 k158 (encL [(Sh.st (Sh.pr (Sh.int .u8) (Sh.sl (Sh.int .u8)))), (Sh.int .u8)] (a0, (a1, ()))), []) (endK (retc k158.res (Sh.int .i64))) = p158 c146 N a0 a1 := by kernel_rfl
theorem ok158 (c146 : Int × (List Int) → Option Int) (h146 : EntOK FT XT 146 (en146 c146)) {f : Int × (List Int) → Int → Option Int} (hf : ∀ a0 a1 r, f a0 a1 = some r → ∃ N, p158 c146 N a0 a1 = some r) : EntOK FT XT 158 (en158 f) := by
  have hT : TabOK FT XT (T158 c146) := by
    intro g en hg
    unfold T158 at hg
    split at hg <;> first | (injection hg with hg; subst hg; assumption) | cases hg
  have hO0 : RawOK FT XT (rawOf (α := ((Sh.int .i64)).T) RW0) := rawOK0
  have hO : RawOK FT XT (rawOf (α := ((Sh.int .i64)).T) RW0) := hO0
  refine ⟨rfl, fun v r h => ?_⟩
  obtain ⟨a0, a1, _⟩ := v
  obtain ⟨N, h1⟩ := hf _ _ _ h
  exact ans_c (R := (Sh.int .i64)) (tab := T158 c146) (raw := (rawOf RW0)) (LP := W158 c146 N) (fu := fuelC) hT hO rfl rfl (Nat.le_of_ble_eq_true rfl) loopOK_nil ((e158 c146 N _ _).trans h1)

def T126 (c138 : Option Bool) (c140 : Int × (List Int) → Option (Int × (List Int))) (c156 : Int × (List Int) → Option (Int × Int)) (c153 : Int × (List Int) → Option ((Int × Int × (List Int)) × Int)) (c154 : Int × (List Int) → Option ((List Int) × Int)) (c155 : Int × (List Int) → Option ((List Int) × Int)) (c158 : Int × (List Int) → Int → Option Int) (c149 : List Int → Option (Int × (List Int))) (c144 : Int × (List Int) → Int × (List Int) → Option Bool) (c148 : List Int → Option (Int × (List Int))) (c147 : Int × Int × (List Int) → Option (Int × (List Int))) (c157 : Int → Option (Int × (List Int))) : Nat → Option Ent
  | 138 => some (en138 c138)
  | 140 => some (en140 c140)
  | 156 => some (en156 c156)
  | 153 => some (en153 c153)
  | 154 => some (en154 c154)
  | 155 => some (en155 c155)
  | 158 => some (en158 c158)
  | 149 => some (en149 c149)
  | 144 => some (en144 c144)
  | 148 => some (en148 c148)
  | 147 => some (en147 c147)
  | 157 => some (en157 c157)
  | _ => none
def W126 (c138 : Option Bool) (c140 : Int × (List Int) → Option (Int × (List Int))) (c156 : Int × (List Int) → Option (Int × Int)) (c153 : Int × (List Int) → Option ((Int × Int × (List Int)) × Int)) (c154 : Int × (List Int) → Option ((List Int) × Int)) (c155 : Int × (List Int) → Option ((List Int) × Int)) (c158 : Int × (List Int) → Int → Option Int) (c149 : List Int → Option (Int × (List Int))) (c144 : Int × (List Int) → Int × (List Int) → Option Bool) (c148 : List Int → Option (Int × (List Int))) (c147 : Int × Int × (List Int) → Option (Int × (List Int))) (c157 : Int → Option (Int × (List Int))) (N : Nat) : LoopF (Sh.bool).T := fun no =>
  match no with
  | _ => fun _ _ => none
theorem e126 (c138 : Option Bool) (c140 : Int × (List Int) → Option (Int × (List Int))) (c156 : Int × (List Int) → Option (Int × Int)) (c153 : Int × (List Int) → Option ((Int × Int × (List Int)) × Int)) (c154 : Int × (List Int) → Option ((List Int) × Int)) (c155 : Int × (List Int) → Option ((List Int) × Int)) (c158 : Int × (List Int) → Int → Option Int) (c149 : List Int → Option (Int × (List Int))) (c144 : Int × (List Int) → Int × (List Int) → Option Bool) (c148 : List Int → Option (Int × (List Int))) (c147 : Int × Int × (List Int) → Option (Int × (List Int))) (c157 : Int → Option (Int × (List Int))) (N : Nat) (a0 : Int × (List Int)) : evc (T126 c138 c140 c156 c153 c154 c155 c158 c149 c144 c148 c147 c157) (rawOf RW0) (W126 c138 c140 c156 c153 c154 c155 c158 c149 c144 c148 c147 c157 N) (retc k126.res Sh.bool) (modeOf FT) 0 fuelC k126.body (env0 k126 (encL [(Sh.st (Sh.pr (Sh.int .u8) (Sh.sl (Sh.int .u8))))] (a0, ())), []) (endK (retc k126.res Sh.bool)) = p126 c138 c140 c156 c153 c154 c155 c158 c149 c144 c148 c147 c157 N a0 := by kernel_rfl
theorem ok126 (c138 : Option Bool) (c140 : Int × (List Int) → Option (Int × (List Int))) (c156 : Int × (List Int) → Option (Int × Int)) (c153 : Int × (List Int) → Option ((Int × Int × (List Int)) × Int)) (c154 : Int × (List Int) → Option ((List Int) × Int)) (c155 : Int × (List Int) → Option ((List Int) × Int)) (c158 : Int × (List Int) → Int → Option Int) (c149 : List Int → Option (Int × (List Int))) (c144 : Int × (List Int) → Int × (List Int) → Option Bool) (c148 : List Int → Option (Int × (List Int))) (c147 : Int × Int × (List Int) → Option (Int × (List Int))) (c157 : Int → Option (Int × (List Int))) (h138 : EntOK FT XT 138 (en138 c138)) (h140 : EntOK FT XT 140 (en140 c140)) (h156 : EntOK FT XT 156 (en156 c156)) (h153 : EntOK FT XT 153 (en153 c153)) (h154 : EntOK FT XT 154 (en154 c154)) (h155 : EntOK FT XT 155 (en155 c155)) (h158 : EntOK FT XT 158 (en158 c158)) (h149 : EntOK FT XT 149 (en149 c149)) (h144 : EntOK FT XT 144 (en144 c144)) (h148 : EntOK FT XT 148 (en148 c148)) (h147 : EntOK FT XT 147 (en147 c147)) (h157 : EntOK FT XT 157 (en157 c157)) {f : Int × (List Int) → Option Bool} (hf : ∀ a0 r, f a0 = some r → ∃ N, p126 c138 c140 c156 c153 c154 c155 c158 c149 c144 c148 c147 c157 N a0 = some r) : EntOK FT XT 126 (en126 f) := by
  have hT : TabOK FT XT (T126 c138 c140 c156 c153 c154 c155 c158 c149 c144 c148 c147 c157) := by
    intro g en hg
    unfold T126 at hg
    split at hg <;> first | (injection hg with hg; subst hg; assumption) | cases hg
  have hO0 : RawOK FT XT (rawOf (α := (Sh.bool).T) RW0) := rawOK0
  have hO : RawOK FT XT (rawOf (α := (Sh.bool).T) RW0) := hO0
  refine ⟨rfl, fun v r h => ?_⟩
  obtain ⟨a0, _⟩ := v
  obtain ⟨N, h1⟩ := hf _ _ h
  exact ans_c (R := Sh.bool) (tab := T126 c138 c140 c156 c153 c154 c155 c158 c149 c144 c148 c147 c157) (raw := (rawOf RW0)) (LP := W126 c138 c140 c156 c153 c154 c155 c158 c149 c144 c148 c147 c157 N) (fu := fuelC) hT hO rfl rfl (Nat.le_of_ble_eq_true rfl) loopOK_nil ((e126 c138 c140 c156 c153 c154 c155 c158 c149 c144 c148 c147 c157 N _).trans h1)
end Go.Proofs.YtjkdflcccoeggaaE
