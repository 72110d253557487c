/- The plain functions are the evaluator's. -/
import Derived.Test.YtjkdflcccoeggaaEvGJ1
import Derived.KernelRfl
import Derived.Test.YtjkdflcccoeggaaEvGo
namespace Go.Proofs.YtjkdflcccoeggaaE
open Go
set_option linter.unusedVariables false
set_option linter.unusedSimpArgs false

def T64v0 : Nat → Option Ent
  | _ => none
def W64v0 (N : Nat) : LoopF QR64v0.T := fun no =>
  match no with
  | _ => fun _ _ => none
theorem e64v0 (N : Nat) (v : PR64v0.T) : evc (T64v0) (rawOf RW0) (W64v0 N) (retr k64.res 0 QR64v0) (modeOf FT) 0 fuelC k64.body (env0 k64 (PR64v0.a.st v.1), stH PR64v0.h v.2) (endK (retr k64.res 0 QR64v0)) = p64v0 N v.1.2.1 := by kernel_rfl
theorem ok64v0 {f : Int → Option ((Nat × Unit) × ((List Int) × Unit))} (hf : ∀ a0 r, f a0 = some r → ∃ N, p64v0 N a0 = some r) : REntOK FT XT 64 (rn64v0 f) := by
  have hT : TabOK FT XT (T64v0) := by
    intro g en hg
    unfold T64v0 at hg
    split at hg <;> first | (injection hg with hg; subst hg; assumption) | cases hg
  have hO0 : RawOK FT XT (rawOf (α := QR64v0.T) RW0) := rawOK0
  have hO : RawOK FT XT (rawOf (α := QR64v0.T) RW0) := hO0
  intro v r w h hw
  obtain ⟨N, h1⟩ := hf _ _ h
  exact ans_r (Q := QR64v0) (tab := T64v0) (raw := (rawOf RW0)) (LP := W64v0 N) (fu := fuelC) hT hO rfl rfl (Nat.le_of_ble_eq_true rfl) rfl loopOK_nil ((e64v0 N v).trans h1) hw

def T1 (d64v0 : Int → Option ((Nat × Unit) × ((List Int) × Unit))) : Nat → Option Ent
  | _ => none
def RW1 (d64v0 : Int → Option ((Nat × Unit) × ((List Int) × Unit))) : Nat → List REnt
  | 64 => [rn64v0 d64v0]
  | _ => []
def H1_1 : Trim := ⟨1, [], false, [6, 25, 26, 27], []⟩
theorem l1_1 : loopN k1 1 = .loop H1_1 (bodyOf (loopN k1 1)) := by kernel_rfl
def P1_1 : Ps := ⟨[(0, .u), (2, .u), (3, .u), (5, .u), (6, (.sl 0 1)), (8, .u), (9, .u), (10, .u), (11, .u), (12, .u), (20, .u), (25, (.tb (Sh.sl (Sh.int .u8)))), (26, (.int .i64)), (27, (.int .i64)), (28, .u)], [(.ints false .u8)]⟩
def Q1_1 : Nat → Ps
  | 2 => ⟨[(0, .u), (2, .u), (3, .u), (5, .u), (6, (.sl 0 1)), (8, .u), (9, .u), (10, .u), (11, .u), (12, .u), (20, .u), (25, .u), (26, .u), (27, .u), (28, .u)], [(.ints false .u8)]⟩
  | _ => noPs
def u1_1 (d64v0 : Int → Option ((Nat × Unit) × ((List Int) × Unit))) (N n : Nat) (v : P1_1.T) (κ : (i : Nat) → (Q1_1 i).T → Option (List Int)) : Option (List Int) :=
  L1_1 d64v0 N (fun (y0 : Nat) (y1 : List Int) => κ 2 (((), ((), ((), ((), (y0, ((), ((), ((), ((), ((), ((), ((), ((), ((), ((), ()))))))))))))))), (y1, ()))) n v.1.2.2.2.2.1 v.1.2.2.2.2.2.2.2.2.2.2.2.1 v.1.2.2.2.2.2.2.2.2.2.2.2.2.1 v.1.2.2.2.2.2.2.2.2.2.2.2.2.2.1 v.2.1
def W1_1 (d64v0 : Int → Option ((Nat × Unit) × ((List Int) × Unit))) (N : Nat) : LoopF (List Int) := fun no =>
  match no with
  | _ => fun _ _ => none
theorem b1_1 (d64v0 : Int → Option ((Nat × Unit) × ((List Int) × Unit))) (N n : Nat) (v : P1_1.T) (κ : (i : Nat) → (Q1_1 i).T → Option (List Int)) :
    evc (T1 d64v0) (rawOf (RW1 d64v0)) (W1_1 d64v0 N) (reto k1.res .u8) (modeOf FT) 0 fuelC (bodyOf (loopN k1 1)) (P1_1.st v) (roundK 0 H1_1 P1_1 Q1_1 (u1_1 d64v0 N n) κ) = u1_1 d64v0 N (n + 1) v κ := by kernel_rfl
theorem o1_1 (d64v0 : Int → Option ((Nat × Unit) × ((List Int) × Unit))) (hT : TabOK FT XT (T1 d64v0)) (hO : RawOK FT XT (rawOf (α := List Int) (RW1 d64v0))) (N : Nat) {s : St} {κ : Ex → St → Option (List Int)} {a : List Int} (h : lpOf 0 H1_1 P1_1 Q1_1 (u1_1 d64v0 N N) s κ = some a) : Out FT XT 0 (reto k1.res .u8) (loopN k1 1) s κ a := by
  rw [l1_1]
  exact loop_out (LP := W1_1 d64v0 N) (fu := fuelC) hT hO (fun _ _ => rfl) (b1_1 d64v0 N) loopOK_nil N h
def H1_0 : Trim := ⟨0, [], false, [0, 3, 9, 10, 11], []⟩
theorem l1_0 : loopN k1 0 = .loop H1_0 (bodyOf (loopN k1 0)) := by kernel_rfl
def P1_0 : Ps := ⟨[(0, (.tb (Sh.sl (Sh.int .u8)))), (2, .u), (3, (.int .i64)), (5, .u), (6, .u), (8, .u), (9, (.tb (Sh.sl (Sh.int .u8)))), (10, (.int .i64)), (11, (.int .i64)), (12, .u), (20, .u), (25, .u), (26, .u), (27, .u), (28, .u)], []⟩
def Q1_0 : Nat → Ps
  | 0 => ⟨[(0, (.tb (Sh.sl (Sh.int .u8)))), (2, .u), (3, (.int .i64)), (5, .u), (6, .u), (8, .u), (9, .u), (10, .u), (11, .u), (12, .u), (20, .u), (25, .u), (26, .u), (27, .u), (28, .u)], []⟩
  | _ => noPs
def u1_0 (d64v0 : Int → Option ((Nat × Unit) × ((List Int) × Unit))) (N n : Nat) (v : P1_0.T) (κ : (i : Nat) → (Q1_0 i).T → Option (List Int)) : Option (List Int) :=
  L1_0 d64v0 N (fun (y0 : List (List Int)) (y1 : Int) => κ 0 ((y0, ((), (y1, ((), ((), ((), ((), ((), ((), ((), ((), ((), ((), ((), ((), ()))))))))))))))), ())) n v.1.1 v.1.2.2.1 v.1.2.2.2.2.2.2.1 v.1.2.2.2.2.2.2.2.1 v.1.2.2.2.2.2.2.2.2.1
def W1_0 (d64v0 : Int → Option ((Nat × Unit) × ((List Int) × Unit))) (N : Nat) : LoopF (List Int) := fun no =>
  match no with
  | _ => fun _ _ => none
theorem b1_0 (d64v0 : Int → Option ((Nat × Unit) × ((List Int) × Unit))) (N n : Nat) (v : P1_0.T) (κ : (i : Nat) → (Q1_0 i).T → Option (List Int)) :
    evc (T1 d64v0) (rawOf (RW1 d64v0)) (W1_0 d64v0 N) (reto k1.res .u8) (modeOf FT) 0 fuelC (bodyOf (loopN k1 0)) (P1_0.st v) (roundK 0 H1_0 P1_0 Q1_0 (u1_0 d64v0 N n) κ) = u1_0 d64v0 N (n + 1) v κ := by kernel_rfl
theorem o1_0 (d64v0 : Int → Option ((Nat × Unit) × ((List Int) × Unit))) (hT : TabOK FT XT (T1 d64v0)) (hO : RawOK FT XT (rawOf (α := List Int) (RW1 d64v0))) (N : Nat) {s : St} {κ : Ex → St → Option (List Int)} {a : List Int} (h : lpOf 0 H1_0 P1_0 Q1_0 (u1_0 d64v0 N N) s κ = some a) : Out FT XT 0 (reto k1.res .u8) (loopN k1 0) s κ a := by
  rw [l1_0]
  exact loop_out (LP := W1_0 d64v0 N) (fu := fuelC) hT hO (fun _ _ => rfl) (b1_0 d64v0 N) loopOK_nil N h
def W1 (d64v0 : Int → Option ((Nat × Unit) × ((List Int) × Unit))) (N : Nat) : LoopF (List Int) := fun no =>
  match no with
  | 0 => lpOf 0 H1_0 P1_0 Q1_0 (u1_0 d64v0 N N)
  | 1 => lpOf 0 H1_1 P1_1 Q1_1 (u1_1 d64v0 N N)
  | _ => fun _ _ => none
theorem e1 (d64v0 : Int → Option ((Nat × Unit) × ((List Int) × Unit))) (N : Nat) (a0 : List (List Int)) : evc (T1 d64v0) (rawOf (RW1 d64v0)) (W1 d64v0 N) (reto k1.res .u8) (modeOf FT) 0 fuelC k1.body (env0 k1 (encL [(Sh.sl (Sh.sl (Sh.int .u8)))] (a0, ())), []) (endK (reto k1.res .u8)) = p1 d64v0 N a0 := by kernel_rfl
theorem ok1 (d64v0 : Int → Option ((Nat × Unit) × ((List Int) × Unit))) (h64v0 : REntOK FT XT 64 (rn64v0 d64v0)) {f : List (List Int) → Option (List Int)} (hf : ∀ a0 r, f a0 = some r → ∃ N, p1 d64v0 N a0 = some r) : EntOK FT XT 1 (en1 f) := by
  have hT : TabOK FT XT (T1 d64v0) := by
    intro g en hg
    unfold T1 at hg
    split at hg <;> first | (injection hg with hg; subst hg; assumption) | cases hg
  have hO0 : RawOK FT XT (rawOf (α := List Int) (RW1 d64v0)) := by
    refine rawOf_ok (fun g en hg => ?_)
    unfold RW1 at hg
    split at hg <;> simp only [List.mem_cons, List.not_mem_nil, or_false] at hg <;> first | (subst hg; assumption) | (rcases hg with rfl | rfl <;> assumption) | (rcases hg with rfl | rfl | rfl <;> assumption) | (rcases hg with rfl | rfl | rfl | rfl <;> assumption)
  have hO : RawOK FT XT (rawOf (α := List Int) (RW1 d64v0)) := hO0
  refine ⟨rfl, fun v r h => ?_⟩
  obtain ⟨a0, _⟩ := v
  obtain ⟨N, h1⟩ := hf _ _ h
  exact ans_o (tab := T1 d64v0) (raw := (rawOf (RW1 d64v0))) (LP := W1 d64v0 N) (fu := fuelC) hT hO rfl rfl (Nat.le_of_ble_eq_true rfl) (loopOK_cons l1_0 (fun s κ a h => o1_0 d64v0 hT hO N h) (loopOK_cons l1_1 (fun s κ a h => o1_1 d64v0 hT hO N h) loopOK_nil)) ((e1 d64v0 N _).trans h1)

def T48v0 : Nat → Option Ent
  | _ => none
def H48v0_0 : Trim := ⟨0, [], false, [0, 2, 3], []⟩
theorem l48v0_0 : loopN k48 0 = .loop H48v0_0 (bodyOf (loopN k48 0)) := by kernel_rfl
def P48v0_0 : Ps := ⟨[(0, (.slc 0 1)), (2, (.int .i64)), (3, (.int .i64)), (9, .u)], [(.ints false .u8)]⟩
def Q48v0_0 : Nat → Ps
  | 0 => ⟨[(0, .u), (2, .u), (3, .u), (9, .u)], [(.ints false .u8)]⟩
  | _ => noPs
def u48v0_0 (N n : Nat) (v : P48v0_0.T) (κ : (i : Nat) → (Q48v0_0 i).T → Option QR48v0.T) : Option QR48v0.T :=
  L48v0_0 N (fun (y0 : List Int) => κ 0 (((), ((), ((), ((), ())))), (y0, ()))) n v.1.1.1 v.1.1.2 v.1.2.1 v.1.2.2.1 v.2.1
def W48v0_0 (N : Nat) : LoopF QR48v0.T := fun no =>
  match no with
  | _ => fun _ _ => none
theorem b48v0_0 (N n : Nat) (v : P48v0_0.T) (κ : (i : Nat) → (Q48v0_0 i).T → Option QR48v0.T) :
    evc (T48v0) (rawOf RW0) (W48v0_0 N) (retr k48.res 1 QR48v0) (modeOf FT) 1 fuelC (bodyOf (loopN k48 0)) (P48v0_0.st v) (roundK 1 H48v0_0 P48v0_0 Q48v0_0 (u48v0_0 N n) κ) = u48v0_0 N (n + 1) v κ := by kernel_rfl
theorem o48v0_0 (hT : TabOK FT XT (T48v0)) (hO : RawOK FT XT (rawOf (α := QR48v0.T) RW0)) (N : Nat) {s : St} {κ : Ex → St → Option QR48v0.T} {a : QR48v0.T} (h : lpOf 1 H48v0_0 P48v0_0 Q48v0_0 (u48v0_0 N N) s κ = some a) : Out FT XT 1 (retr k48.res 1 QR48v0) (loopN k48 0) s κ a := by
  rw [l48v0_0]
  exact loop_out (LP := W48v0_0 N) (fu := fuelC) hT hO (fun _ _ => rfl) (b48v0_0 N) loopOK_nil N h
def W48v0 (N : Nat) : LoopF QR48v0.T := fun no =>
  match no with
  | 0 => lpOf 1 H48v0_0 P48v0_0 Q48v0_0 (u48v0_0 N N)
  | _ => fun _ _ => none
theorem e48v0 (N : Nat) (v : PR48v0.T) : evc (T48v0) (rawOf RW0) (W48v0 N) (retr k48.res 1 QR48v0) (modeOf FT) 1 fuelC k48.body (env0 k48 (PR48v0.a.st v.1), stH PR48v0.h v.2) (endK (retr k48.res 1 QR48v0)) = p48v0 N v.1.1.1 v.1.1.2 v.2.1 := by kernel_rfl
theorem ok48v0 {f : Nat → Nat → List Int → Option ((Unit × Unit) × ((List Int) × Unit))} (hf : ∀ a0 a1 a2 r, f a0 a1 a2 = some r → ∃ N, p48v0 N a0 a1 a2 = some r) : REntOK FT XT 48 (rn48v0 f) := by
  have hT : TabOK FT XT (T48v0) := by
    intro g en hg
    unfold T48v0 at hg
    split at hg <;> first | (injection hg with hg; subst hg; assumption) | cases hg
  have hO0 : RawOK FT XT (rawOf (α := QR48v0.T) RW0) := rawOK0
  have hO : RawOK FT XT (rawOf (α := QR48v0.T) RW0) := hO0
  intro v r w h hw
  obtain ⟨N, h1⟩ := hf _ _ _ _ h
  exact ans_r (Q := QR48v0) (tab := T48v0) (raw := (rawOf RW0)) (LP := W48v0 N) (fu := fuelC) hT hO rfl rfl (Nat.le_of_ble_eq_true rfl) rfl (loopOK_cons l48v0_0 (fun s κ a h => o48v0_0 hT hO N h) loopOK_nil) ((e48v0 N v).trans h1) hw

def T19 (d48v0 : Nat → Nat → List Int → Option ((Unit × Unit) × ((List Int) × Unit))) : Nat → Option Ent
  | _ => none
def RW19 (d48v0 : Nat → Nat → List Int → Option ((Unit × Unit) × ((List Int) × Unit))) : Nat → List REnt
  | 48 => [rn48v0 d48v0]
  | _ => []
def H19_0 : Trim := ⟨0, [], false, [0, 2, 8, 19, 20], []⟩
theorem l19_0 : loopN k19 0 = .loop H19_0 (bodyOf (loopN k19 0)) := by kernel_rfl
def P19_0 : Ps := ⟨[(0, (.int .u64)), (1, .u), (2, .bool), (6, .u), (7, .u), (8, (.slc 0 1)), (9, .u), (15, .u), (19, (.int .i64)), (20, (.int .i64)), (21, .u), (33, .u)], [(.ints false .u8)]⟩
def Q19_0 : Nat → Ps
  | 0 => ⟨[(0, .u), (1, .u), (2, .bool), (6, .u), (7, .u), (8, (.slc 0 1)), (9, .u), (15, .u), (19, .u), (20, .u), (21, .u), (33, .u)], [(.ints false .u8)]⟩
  | _ => noPs
def u19_0 (d48v0 : Nat → Nat → List Int → Option ((Unit × Unit) × ((List Int) × Unit))) (N n : Nat) (v : P19_0.T) (κ : (i : Nat) → (Q19_0 i).T → Option (((Sh.tu (Sh.pr (Sh.sl (Sh.int .u8)) (Sh.int .i64)))).T)) : Option (((Sh.tu (Sh.pr (Sh.sl (Sh.int .u8)) (Sh.int .i64)))).T) :=
  L19_0 d48v0 N (fun (y0 : Bool) (y1 : Nat) (y2 : Nat) (y3 : List Int) => κ 0 (((), ((), (y0, ((), ((), ((y1, y2), ((), ((), ((), ((), ((), ((), ())))))))))))), (y3, ()))) n v.1.1 v.1.2.2.1 v.1.2.2.2.2.2.1.1 v.1.2.2.2.2.2.1.2 v.1.2.2.2.2.2.2.2.2.1 v.1.2.2.2.2.2.2.2.2.2.1 v.2.1
def W19_0 (d48v0 : Nat → Nat → List Int → Option ((Unit × Unit) × ((List Int) × Unit))) (N : Nat) : LoopF (((Sh.tu (Sh.pr (Sh.sl (Sh.int .u8)) (Sh.int .i64)))).T) := fun no =>
  match no with
  | _ => fun _ _ => none
theorem b19_0 (d48v0 : Nat → Nat → List Int → Option ((Unit × Unit) × ((List Int) × Unit))) (N n : Nat) (v : P19_0.T) (κ : (i : Nat) → (Q19_0 i).T → Option (((Sh.tu (Sh.pr (Sh.sl (Sh.int .u8)) (Sh.int .i64)))).T)) :
    evc (T19 d48v0) (rawOf (RW19 d48v0)) (W19_0 d48v0 N) (retc k19.res (Sh.tu (Sh.pr (Sh.sl (Sh.int .u8)) (Sh.int .i64)))) (modeOf FT) 0 fuelC (bodyOf (loopN k19 0)) (P19_0.st v) (roundK 0 H19_0 P19_0 Q19_0 (u19_0 d48v0 N n) κ) = u19_0 d48v0 N (n + 1) v κ := by kernel_rfl
theorem o19_0 (d48v0 : Nat → Nat → List Int → Option ((Unit × Unit) × ((List Int) × Unit))) (hT : TabOK FT XT (T19 d48v0)) (hO : RawOK FT XT (rawOf (α := ((Sh.tu (Sh.pr (Sh.sl (Sh.int .u8)) (Sh.int .i64)))).T) (RW19 d48v0))) (N : Nat) {s : St} {κ : Ex → St → Option (((Sh.tu (Sh.pr (Sh.sl (Sh.int .u8)) (Sh.int .i64)))).T)} {a : ((Sh.tu (Sh.pr (Sh.sl (Sh.int .u8)) (Sh.int .i64)))).T} (h : lpOf 0 H19_0 P19_0 Q19_0 (u19_0 d48v0 N N) s κ = some a) : Out FT XT 0 (retc k19.res (Sh.tu (Sh.pr (Sh.sl (Sh.int .u8)) (Sh.int .i64)))) (loopN k19 0) s κ a := by
  rw [l19_0]
  exact loop_out (LP := W19_0 d48v0 N) (fu := fuelC) hT hO (fun _ _ => rfl) (b19_0 d48v0 N) loopOK_nil N h
def W19 (d48v0 : Nat → Nat → List Int → Option ((Unit × Unit) × ((List Int) × Unit))) (N : Nat) : LoopF (((Sh.tu (Sh.pr (Sh.sl (Sh.int .u8)) (Sh.int .i64)))).T) := fun no =>
  match no with
  | 0 => lpOf 0 H19_0 P19_0 Q19_0 (u19_0 d48v0 N N)
  | _ => fun _ _ => none
theorem e19 (d48v0 : Nat → Nat → List Int → Option ((Unit × Unit) × ((List Int) × Unit))) (N : Nat) (a0 : Int) (a1 : Int) (a2 : Bool) : evc (T19 d48v0) (rawOf (RW19 d48v0)) (W19 d48v0 N) (retc k19.res (Sh.tu (Sh.pr (Sh.sl (Sh.int .u8)) (Sh.int .i64)))) (modeOf FT) 0 fuelC k19.body (env0 k19 (encL [(Sh.int .u64), (Sh.int .i64), Sh.bool] (a0, (a1, (a2, ())))), []) (endK (retc k19.res (Sh.tu (Sh.pr (Sh.sl (Sh.int .u8)) (Sh.int .i64))))) = p19 d48v0 N a0 a1 a2 := by kernel_rfl
theorem ok19 (d48v0 : Nat → Nat → List Int → Option ((Unit × Unit) × ((List Int) × Unit))) (h48v0 : REntOK FT XT 48 (rn48v0 d48v0)) {f : Int → Int → Bool → Option ((List Int) × Int)} (hf : ∀ a0 a1 a2 r, f a0 a1 a2 = some r → ∃ N, p19 d48v0 N a0 a1 a2 = some r) : EntOK FT XT 19 (en19 f) := by
  have hT : TabOK FT XT (T19 d48v0) := by
    intro g en hg
    unfold T19 at hg
    split at hg <;> first | (injection hg with hg; subst hg; assumption) | cases hg
  have hO0 : RawOK FT XT (rawOf (α := ((Sh.tu (Sh.pr (Sh.sl (Sh.int .u8)) (Sh.int .i64)))).T) (RW19 d48v0)) := by
    refine rawOf_ok (fun g en hg => ?_)
    unfold RW19 at hg
    split at hg <;> simp only [List.mem_cons, List.not_mem_nil, or_false] at hg <;> first | (subst hg; assumption) | (rcases hg with rfl | rfl <;> assumption) | (rcases hg with rfl | rfl | rfl <;> assumption) | (rcases hg with rfl | rfl | rfl | rfl <;> assumption)
  have hO : RawOK FT XT (rawOf (α := ((Sh.tu (Sh.pr (Sh.sl (Sh.int .u8)) (Sh.int .i64)))).T) (RW19 d48v0)) := hO0
  refine ⟨rfl, fun v r h => ?_⟩
  obtain ⟨a0, a1, a2, _⟩ := v
  obtain ⟨N, h1⟩ := hf _ _ _ _ h
  exact ans_c (R := (Sh.tu (Sh.pr (Sh.sl (Sh.int .u8)) (Sh.int .i64)))) (tab := T19 d48v0) (raw := (rawOf (RW19 d48v0))) (LP := W19 d48v0 N) (fu := fuelC) hT hO rfl rfl (Nat.le_of_ble_eq_true rfl) (loopOK_cons l19_0 (fun s κ a h => o19_0 d48v0 hT hO N h) loopOK_nil) ((e19 d48v0 N _ _ _).trans h1)

def T21 : Nat → Option Ent
  | _ => none
def H21_0 : Trim := ⟨0, [], false, [1, 6, 17, 18, 19], []⟩
theorem l21_0 : loopN k21 0 = .loop H21_0 (bodyOf (loopN k21 0)) := by kernel_rfl
def P21_0 : Ps := ⟨[(0, .u), (1, .bool), (4, .u), (5, .u), (6, (.int .u64)), (7, .u), (8, .u), (16, .u), (17, (.tb (Sh.int .u8))), (18, (.int .i64)), (19, (.int .i64)), (20, .u), (24, .u)], []⟩
def Q21_0 : Nat → Ps
  | 0 => ⟨[(0, .u), (1, .u), (4, .u), (5, .u), (6, (.int .u64)), (7, .u), (8, .u), (16, .u), (17, .u), (18, .u), (19, .u), (20, .u), (24, .u)], []⟩
  | _ => noPs
def u21_0 (N n : Nat) (v : P21_0.T) (κ : (i : Nat) → (Q21_0 i).T → Option (((Sh.tu (Sh.pr (Sh.int .u64) (Sh.int .i64)))).T)) : Option (((Sh.tu (Sh.pr (Sh.int .u64) (Sh.int .i64)))).T) :=
  L21_0 N (fun (y0 : Int) => κ 0 (((), ((), ((), ((), (y0, ((), ((), ((), ((), ((), ((), ((), ((), ()))))))))))))), ())) n v.1.2.1 v.1.2.2.2.2.1 v.1.2.2.2.2.2.2.2.2.1 v.1.2.2.2.2.2.2.2.2.2.1 v.1.2.2.2.2.2.2.2.2.2.2.1
def W21_0 (N : Nat) : LoopF (((Sh.tu (Sh.pr (Sh.int .u64) (Sh.int .i64)))).T) := fun no =>
  match no with
  | _ => fun _ _ => none
theorem b21_0 (N n : Nat) (v : P21_0.T) (κ : (i : Nat) → (Q21_0 i).T → Option (((Sh.tu (Sh.pr (Sh.int .u64) (Sh.int .i64)))).T)) :
    evc (T21) (rawOf RW0) (W21_0 N) (retc k21.res (Sh.tu (Sh.pr (Sh.int .u64) (Sh.int .i64)))) (modeOf FT) 0 fuelC (bodyOf (loopN k21 0)) (P21_0.st v) (roundK 0 H21_0 P21_0 Q21_0 (u21_0 N n) κ) = u21_0 N (n + 1) v κ := by kernel_rfl
theorem o21_0 (hT : TabOK FT XT (T21)) (hO : RawOK FT XT (rawOf (α := ((Sh.tu (Sh.pr (Sh.int .u64) (Sh.int .i64)))).T) RW0)) (N : Nat) {s : St} {κ : Ex → St → Option (((Sh.tu (Sh.pr (Sh.int .u64) (Sh.int .i64)))).T)} {a : ((Sh.tu (Sh.pr (Sh.int .u64) (Sh.int .i64)))).T} (h : lpOf 0 H21_0 P21_0 Q21_0 (u21_0 N N) s κ = some a) : Out FT XT 0 (retc k21.res (Sh.tu (Sh.pr (Sh.int .u64) (Sh.int .i64)))) (loopN k21 0) s κ a := by
  rw [l21_0]
  exact loop_out (LP := W21_0 N) (fu := fuelC) hT hO (fun _ _ => rfl) (b21_0 N) loopOK_nil N h
def W21 (N : Nat) : LoopF (((Sh.tu (Sh.pr (Sh.int .u64) (Sh.int .i64)))).T) := fun no =>
  match no with
  | 0 => lpOf 0 H21_0 P21_0 Q21_0 (u21_0 N N)
  | _ => fun _ _ => none
theorem e21 (N : Nat) (a0 : List Int) (a1 : Bool) : evc (T21) (rawOf RW0) (W21 N) (retc k21.res (Sh.tu (Sh.pr (Sh.int .u64) (Sh.int .i64)))) (modeOf FT) 0 fuelC k21.body (env0 k21 (encL [(Sh.sl (Sh.int .u8)), Sh.bool] (a0, (a1, ()))), []) (endK (retc k21.res (Sh.tu (Sh.pr (Sh.int .u64) (Sh.int .i64))))) = p21 N a0 a1 := by kernel_rfl
theorem ok21 {f : List Int → Bool → Option (Int × Int)} (hf : ∀ a0 a1 r, f a0 a1 = some r → ∃ N, p21 N a0 a1 = some r) : EntOK FT XT 21 (en21 f) := by
  have hT : TabOK FT XT (T21) := by
    intro g en hg
    unfold T21 at hg
    split at hg <;> first | (injection hg with hg; subst hg; assumption) | cases hg
  have hO0 : RawOK FT XT (rawOf (α := ((Sh.tu (Sh.pr (Sh.int .u64) (Sh.int .i64)))).T) RW0) := rawOK0
  have hO : RawOK FT XT (rawOf (α := ((Sh.tu (Sh.pr (Sh.int .u64) (Sh.int .i64)))).T) RW0) := hO0
  refine ⟨rfl, fun v r h => ?_⟩
  obtain ⟨a0, a1, _⟩ := v
  obtain ⟨N, h1⟩ := hf _ _ _ h
  exact ans_c (R := (Sh.tu (Sh.pr (Sh.int .u64) (Sh.int .i64)))) (tab := T21) (raw := (rawOf RW0)) (LP := W21 N) (fu := fuelC) hT hO rfl rfl (Nat.le_of_ble_eq_true rfl) (loopOK_cons l21_0 (fun s κ a h => o21_0 hT hO N h) loopOK_nil) ((e21 N _ _).trans h1)

def T42 : Nat → Option Ent
  | _ => none
def H42_0 : Trim := ⟨0, [], false, [3, 10, 11, 12], [(3, (.imm []), 1)]⟩
theorem l42_0 : loopN k42 0 = .loop H42_0 (bodyOf (loopN k42 0)) := by kernel_rfl
def P42_0 : Ps := ⟨[(0, .u), (2, .u), (3, (.sl 0 1)), (5, .u), (10, (.tb (Sh.int .u8))), (11, (.int .i64)), (12, (.int .i64)), (13, .u)], [(.ints false .u8)]⟩
def Q42_0 : Nat → Ps
  | 0 => ⟨[(0, .u), (2, .u), (3, (.sl 0 1)), (5, .u), (10, .u), (11, .u), (12, .u), (13, .u)], [(.ints false .u8)]⟩
  | _ => noPs
def u42_0 (N n : Nat) (v : P42_0.T) (κ : (i : Nat) → (Q42_0 i).T → Option (Sh.str).T) : Option (Sh.str).T :=
  L42_0 N (fun (y0 : Nat) (y1 : List Int) => κ 0 (((), ((), (y0, ((), ((), ((), ((), ((), ())))))))), (y1, ()))) n v.1.2.2.1 v.1.2.2.2.2.1 v.1.2.2.2.2.2.1 v.1.2.2.2.2.2.2.1 v.2.1
def W42_0 (N : Nat) : LoopF (Sh.str).T := fun no =>
  match no with
  | _ => fun _ _ => none
theorem b42_0 (N n : Nat) (v : P42_0.T) (κ : (i : Nat) → (Q42_0 i).T → Option (Sh.str).T) :
    evc (T42) (rawOf RW0) (W42_0 N) (retc k42.res Sh.str) (modeOf FT) 0 fuelC (bodyOf (loopN k42 0)) (P42_0.st v) (roundK 0 H42_0 P42_0 Q42_0 (u42_0 N n) κ) = u42_0 N (n + 1) v κ := by kernel_rfl
theorem o42_0 (hT : TabOK FT XT (T42)) (hO : RawOK FT XT (rawOf (α := (Sh.str).T) RW0)) (N : Nat) {s : St} {κ : Ex → St → Option (Sh.str).T} {a : (Sh.str).T} (h : lpOf 0 H42_0 P42_0 Q42_0 (u42_0 N N) s κ = some a) : Out FT XT 0 (retc k42.res Sh.str) (loopN k42 0) s κ a := by
  rw [l42_0]
  exact loop_out (LP := W42_0 N) (fu := fuelC) hT hO (fun _ _ => rfl) (b42_0 N) loopOK_nil N h
def W42 (N : Nat) : LoopF (Sh.str).T := fun no =>
  match no with
  | 0 => lpOf 0 H42_0 P42_0 Q42_0 (u42_0 N N)
  | _ => fun _ _ => none
theorem e42 (N : Nat) (a0 : List Int) : evc (T42) (rawOf RW0) (W42 N) (retc k42.res Sh.str) (modeOf FT) 0 fuelC k42.body (env0 k42 (encL [(Sh.sl (Sh.int .u8))] (a0, ())), []) (endK (retc k42.res Sh.str)) = p42 N a0 := by kernel_rfl
theorem ok42 {f : List Int → Option (List UInt8)} (hf : ∀ a0 r, f a0 = some r → ∃ N, p42 N a0 = some r) : EntOK FT XT 42 (en42 f) := by
  have hT : TabOK FT XT (T42) := by
    intro g en hg
    unfold T42 at hg
    split at hg <;> first | (injection hg with hg; subst hg; assumption) | cases hg
  have hO0 : RawOK FT XT (rawOf (α := (Sh.str).T) RW0) := rawOK0
  have hO : RawOK FT XT (rawOf (α := (Sh.str).T) RW0) := hO0
  refine ⟨rfl, fun v r h => ?_⟩
  obtain ⟨a0, _⟩ := v
  obtain ⟨N, h1⟩ := hf _ _ h
  exact ans_c (R := Sh.str) (tab := T42) (raw := (rawOf RW0)) (LP := W42 N) (fu := fuelC) hT hO rfl rfl (Nat.le_of_ble_eq_true rfl) (loopOK_cons l42_0 (fun s κ a h => o42_0 hT hO N h) loopOK_nil) ((e42 N _).trans h1)

def T47 : Nat → Option Ent
  | _ => none
def H47_0 : Trim := ⟨0, [], false, [1, 5, 13, 14, 15], []⟩
theorem l47_0 : loopN k47 0 = .loop H47_0 (bodyOf (loopN k47 0)) := by kernel_rfl
def P47_0 : Ps := ⟨[(0, .u), (1, (.tb (Sh.int .u8))), (4, .u), (5, (.int .u8)), (6, .u), (7, .u), (12, .u), (13, (.tb (Sh.int .u8))), (14, (.int .i64)), (15, (.int .i64)), (16, .u)], []⟩
def Q47_0 : Nat → Ps
  | 0 => ⟨[(0, .u), (1, .u), (4, .u), (5, (.int .u8)), (6, .u), (7, .u), (12, .u), (13, .u), (14, .u), (15, .u), (16, .u)], []⟩
  | _ => noPs
def u47_0 (N n : Nat) (v : P47_0.T) (κ : (i : Nat) → (Q47_0 i).T → Option (Sh.bool).T) : Option (Sh.bool).T :=
  L47_0 N (fun (y0 : Int) => κ 0 (((), ((), ((), (y0, ((), ((), ((), ((), ((), ((), ((), ()))))))))))), ())) n v.1.2.1 v.1.2.2.2.1 v.1.2.2.2.2.2.2.2.1 v.1.2.2.2.2.2.2.2.2.1 v.1.2.2.2.2.2.2.2.2.2.1
def W47_0 (N : Nat) : LoopF (Sh.bool).T := fun no =>
  match no with
  | _ => fun _ _ => none
theorem b47_0 (N n : Nat) (v : P47_0.T) (κ : (i : Nat) → (Q47_0 i).T → Option (Sh.bool).T) :
    evc (T47) (rawOf RW0) (W47_0 N) (retc k47.res Sh.bool) (modeOf FT) 0 fuelC (bodyOf (loopN k47 0)) (P47_0.st v) (roundK 0 H47_0 P47_0 Q47_0 (u47_0 N n) κ) = u47_0 N (n + 1) v κ := by kernel_rfl
theorem o47_0 (hT : TabOK FT XT (T47)) (hO : RawOK FT XT (rawOf (α := (Sh.bool).T) RW0)) (N : Nat) {s : St} {κ : Ex → St → Option (Sh.bool).T} {a : (Sh.bool).T} (h : lpOf 0 H47_0 P47_0 Q47_0 (u47_0 N N) s κ = some a) : Out FT XT 0 (retc k47.res Sh.bool) (loopN k47 0) s κ a := by
  rw [l47_0]
  exact loop_out (LP := W47_0 N) (fu := fuelC) hT hO (fun _ _ => rfl) (b47_0 N) loopOK_nil N h
def W47 (N : Nat) : LoopF (Sh.bool).T := fun no =>
  match no with
  | 0 => lpOf 0 H47_0 P47_0 Q47_0 (u47_0 N N)
  | _ => fun _ _ => none
theorem e47 (N : Nat) (a0 : List Int) (a1 : List Int) : evc (T47) (rawOf RW0) (W47 N) (retc k47.res Sh.bool) (modeOf FT) 0 fuelC k47.body (env0 k47 (encL [(Sh.sl (Sh.int .u8)), (Sh.sl (Sh.int .u8))] (a0, (a1, ()))), []) (endK (retc k47.res Sh.bool)) = p47 N a0 a1 := by kernel_rfl
theorem ok47 {f : List Int → List Int → Option Bool} (hf : ∀ a0 a1 r, f a0 a1 = some r → ∃ N, p47 N a0 a1 = some r) : EntOK FT XT 47 (en47 f) := by
  have hT : TabOK FT XT (T47) := by
    intro g en hg
    unfold T47 at hg
    split at hg <;> first | (injection hg with hg; subst hg; assumption) | cases hg
  have hO0 : RawOK FT XT (rawOf (α := (Sh.bool).T) RW0) := rawOK0
  have hO : RawOK FT XT (rawOf (α := (Sh.bool).T) RW0) := hO0
  refine ⟨rfl, fun v r h => ?_⟩
  obtain ⟨a0, a1, _⟩ := v
  obtain ⟨N, h1⟩ := hf _ _ _ h
  exact ans_c (R := Sh.bool) (tab := T47) (raw := (rawOf RW0)) (LP := W47 N) (fu := fuelC) hT hO rfl rfl (Nat.le_of_ble_eq_true rfl) (loopOK_cons l47_0 (fun s κ a h => o47_0 hT hO N h) loopOK_nil) ((e47 N _ _).trans h1)

def T18 (c19 : Int → Int → Bool → Option ((List Int) × Int)) (c21 : List Int → Bool → Option (Int × Int)) (c42 : List Int → Option (List UInt8)) (c47 : List Int → List Int → Option Bool) : Nat → Option Ent
  | 19 => some (en19 c19)
  | 21 => some (en21 c21)
  | 42 => some (en42 c42)
  | 47 => some (en47 c47)
  | _ => none
def W18 (c19 : Int → Int → Bool → Option ((List Int) × Int)) (c21 : List Int → Bool → Option (Int × Int)) (c42 : List Int → Option (List UInt8)) (c47 : List Int → List Int → Option Bool) (N : Nat) : LoopF (Sh.bool).T := fun no =>
  match no with
  | _ => fun _ _ => none
theorem e18 (c19 : Int → Int → Bool → Option ((List Int) × Int)) (c21 : List Int → Bool → Option (Int × Int)) (c42 : List Int → Option (List UInt8)) (c47 : List Int → List Int → Option Bool) (N : Nat)  : evc (T18 c19 c21 c42 c47) (rawOf RW0) (W18 c19 c21 c42 c47 N) (retc k18.res Sh.bool) (modeOf FT) 0 fuelC k18.body (env0 k18 (encL [] ()), []) (endK (retc k18.res Sh.bool)) = p18 c19 c21 c42 c47 N  := by kernel_rfl
theorem ok18 (c19 : Int → Int → Bool → Option ((List Int) × Int)) (c21 : List Int → Bool → Option (Int × Int)) (c42 : List Int → Option (List UInt8)) (c47 : List Int → List Int → Option Bool) (h19 : EntOK FT XT 19 (en19 c19)) (h21 : EntOK FT XT 21 (en21 c21)) (h42 : EntOK FT XT 42 (en42 c42)) (h47 : EntOK FT XT 47 (en47 c47)) {f : Option Bool} (hf : ∀  r, f  = some r → ∃ N, p18 c19 c21 c42 c47 N  = some r) : EntOK FT XT 18 (en18 f) := by
  have hT : TabOK FT XT (T18 c19 c21 c42 c47) := by
    intro g en hg
    unfold T18 at hg
    split at hg <;> first | (injection hg with hg; subst hg; assumption) | cases hg
  have hO0 : RawOK FT XT (rawOf (α := (Sh.bool).T) RW0) := rawOK0
  have hO : RawOK FT XT (rawOf (α := (Sh.bool).T) RW0) := hO0
  refine ⟨rfl, fun v r h => ?_⟩
  obtain ⟨N, h1⟩ := hf _ h
  exact ans_c (R := Sh.bool) (tab := T18 c19 c21 c42 c47) (raw := (rawOf RW0)) (LP := W18 c19 c21 c42 c47 N) (fu := fuelC) hT hO rfl rfl (Nat.le_of_ble_eq_true rfl) loopOK_nil ((e18 c19 c21 c42 c47 N ).trans h1)

def T65 (c66 : List UInt8 → Int → Option Int) : Nat → Option Ent
  | 66 => some (en66 c66)
  | _ => none
def W65 (c66 : List UInt8 → Int → Option Int) (N : Nat) : LoopF (((Sh.int .i64)).T) := fun no =>
  match no with
  | _ => fun _ _ => none
theorem e65 (c66 : List UInt8 → Int → Option Int) (N : Nat) (a0 : List UInt8) (a1 : Int) : evc (T65 c66) (rawOf RW0) (W65 c66 N) (retc k65.res (Sh.int .i64)) (modeOf FT) 0 fuelC k65.body (env0 k65 (encL [Sh.str, (Sh.int .u8)] (a0, (a1, ()))), []) (endK (retc k65.res (Sh.int .i64))) = p65 c66 N a0 a1 := by kernel_rfl
theorem ok65 (c66 : List UInt8 → Int → Option Int) (h66 : EntOK FT XT 66 (en66 c66)) {f : List UInt8 → Int → Option Int} (hf : ∀ a0 a1 r, f a0 a1 = some r → ∃ N, p65 c66 N a0 a1 = some r) : EntOK FT XT 65 (en65 f) := by
  have hT : TabOK FT XT (T65 c66) := by
    intro g en hg
    unfold T65 at hg
    split at hg <;> first | (injection hg with hg; subst hg; assumption) | cases hg
  have hO0 : RawOK FT XT (rawOf (α := ((Sh.int .i64)).T) RW0) := rawOK0
  have hO : RawOK FT XT (rawOf (α := ((Sh.int .i64)).T) RW0) := hO0
  refine ⟨rfl, fun v r h => ?_⟩
  obtain ⟨a0, a1, _⟩ := v
  obtain ⟨N, h1⟩ := hf _ _ _ h
  exact ans_c (R := (Sh.int .i64)) (tab := T65 c66) (raw := (rawOf RW0)) (LP := W65 c66 N) (fu := fuelC) hT hO rfl rfl (Nat.le_of_ble_eq_true rfl) loopOK_nil ((e65 c66 N _ _).trans h1)

def T63 (c65 : List UInt8 → Int → Option Int) : Nat → Option Ent
  | 65 => some (en65 c65)
  | _ => none
def W63 (c65 : List UInt8 → Int → Option Int) (N : Nat) : LoopF (((Sh.int .i64)).T) := fun no =>
  match no with
  | _ => fun _ _ => none
theorem e63 (c65 : List UInt8 → Int → Option Int) (N : Nat) (a0 : List UInt8) (a1 : Int) : evc (T63 c65) (rawOf RW0) (W63 c65 N) (retc k63.res (Sh.int .i64)) (modeOf FT) 0 fuelC k63.body (env0 k63 (encL [Sh.str, (Sh.int .u8)] (a0, (a1, ()))), []) (endK (retc k63.res (Sh.int .i64))) = p63 c65 N a0 a1 := by kernel_rfl
theorem ok63 (c65 : List UInt8 → Int → Option Int) (h65 : EntOK FT XT 65 (en65 c65)) {f : List UInt8 → Int → Option Int} (hf : ∀ a0 a1 r, f a0 a1 = some r → ∃ N, p63 c65 N a0 a1 = some r) : EntOK FT XT 63 (en63 f) := by
  have hT : TabOK FT XT (T63 c65) := by
    intro g en hg
    unfold T63 at hg
    split at hg <;> first | (injection hg with hg; subst hg; assumption) | cases hg
  have hO0 : RawOK FT XT (rawOf (α := ((Sh.int .i64)).T) RW0) := rawOK0
  have hO : RawOK FT XT (rawOf (α := ((Sh.int .i64)).T) RW0) := hO0
  refine ⟨rfl, fun v r h => ?_⟩
  obtain ⟨a0, a1, _⟩ := v
  obtain ⟨N, h1⟩ := hf _ _ _ h
  exact ans_c (R := (Sh.int .i64)) (tab := T63 c65) (raw := (rawOf RW0)) (LP := W63 c65 N) (fu := fuelC) hT hO rfl rfl (Nat.le_of_ble_eq_true rfl) loopOK_nil ((e63 c65 N _ _).trans h1)

def T59 (c63 : List UInt8 → Int → Option Int) : Nat → Option Ent
  | 63 => some (en63 c63)
  | _ => none
def W59 (c63 : List UInt8 → Int → Option Int) (N : Nat) : LoopF (((Sh.int .i64)).T) := fun no =>
  match no with
  | _ => fun _ _ => none
theorem e59 (c63 : List UInt8 → Int → Option Int) (N : Nat) (a0 : Int) : evc (T59 c63) (rawOf RW0) (W59 c63 N) (retc k59.res (Sh.int .i64)) (modeOf FT) 0 fuelC k59.body (env0 k59 (encL [(Sh.int .u8)] (a0, ())), []) (endK (retc k59.res (Sh.int .i64))) = p59 c63 N a0 := by kernel_rfl
theorem ok59 (c63 : List UInt8 → Int → Option Int) (h63 : EntOK FT XT 63 (en63 c63)) {f : Int → Option Int} (hf : ∀ a0 r, f a0 = some r → ∃ N, p59 c63 N a0 = some r) : EntOK FT XT 59 (en59 f) := by
  have hT : TabOK FT XT (T59 c63) := by
    intro g en hg
    unfold T59 at hg
    split at hg <;> first | (injection hg with hg; subst hg; assumption) | cases hg
  have hO0 : RawOK FT XT (rawOf (α := ((Sh.int .i64)).T) RW0) := rawOK0
  have hO : RawOK FT XT (rawOf (α := ((Sh.int .i64)).T) RW0) := hO0
  refine ⟨rfl, fun v r h => ?_⟩
  obtain ⟨a0, _⟩ := v
  obtain ⟨N, h1⟩ := hf _ _ h
  exact ans_c (R := (Sh.int .i64)) (tab := T59 c63) (raw := (rawOf RW0)) (LP := W59 c63 N) (fu := fuelC) hT hO rfl rfl (Nat.le_of_ble_eq_true rfl) loopOK_nil ((e59 c63 N _).trans h1)

def T40 (c59 : Int → Option Int) : Nat → Option Ent
  | 59 => some (en59 c59)
  | _ => none
def X40 : K := scopeOf k40.body
def Y40 : K := (findK X40 0).getD .skip
theorem fx40 : findK X40 0 = some Y40 := by kernel_rfl
def P40_0 : Ps := ⟨[(0, .str), (2, .u), (3, .u), (4, (.sl 0 1)), (5, .u), (9, .u), (11, .u), (22, .u)], [(.ints false .u8)]⟩
def u40_0 (c59 : Int → Option Int) (N n : Nat) (v : P40_0.T) : Option (((Sh.tu (Sh.pr (Sh.sl (Sh.int .u8)) (Sh.int .i64)))).T) :=
  L40_0 c59 N n v.1.1 v.1.2.2.2.1 v.2.1
def W40 (N : Nat) : LoopF (((Sh.tu (Sh.pr (Sh.sl (Sh.int .u8)) (Sh.int .i64)))).T) := fun _ _ _ => none
theorem b40_0 (c59 : Int → Option Int) (N n : Nat) (v : P40_0.T) : evc (T40 c59) (rawOf RW0) (W40 N) (retc k40.res (Sh.tu (Sh.pr (Sh.sl (Sh.int .u8)) (Sh.int .i64)))) (modeOf FT) 0 fuelC Y40 (P40_0.st v) (gotoK 0 P40_0 (u40_0 c59 N n)) = u40_0 c59 N (n + 1) v := by kernel_rfl
theorem e40 (c59 : Int → Option Int) (N : Nat) (a0 : List UInt8) : evc (T40 c59) (rawOf RW0) (W40 N) (retc k40.res (Sh.tu (Sh.pr (Sh.sl (Sh.int .u8)) (Sh.int .i64)))) (modeOf FT) 0 fuelC (.seq (headOf k40.body) X40) (env0 k40 (encL [Sh.str] (a0, ())), []) (gotoK 0 P40_0 (u40_0 c59 N N)) = p40 c59 N a0 := by kernel_rfl
theorem ok40 (c59 : Int → Option Int) (h59 : EntOK FT XT 59 (en59 c59)) {f : List UInt8 → Option ((List Int) × Int)} (hf : ∀ a0 r, f a0 = some r → ∃ N, p40 c59 N a0 = some r) : EntOK FT XT 40 (en40 f) := by
  have hT : TabOK FT XT (T40 c59) := by
    intro g en hg
    unfold T40 at hg
    split at hg <;> first | (injection hg with hg; subst hg; assumption) | cases hg
  have hO0 : RawOK FT XT (rawOf (α := ((Sh.tu (Sh.pr (Sh.sl (Sh.int .u8)) (Sh.int .i64)))).T) RW0) := rawOK0
  have hO : RawOK FT XT (rawOf (α := ((Sh.tu (Sh.pr (Sh.sl (Sh.int .u8)) (Sh.int .i64)))).T) RW0) := hO0
  refine ⟨rfl, fun v r h => ?_⟩
  obtain ⟨a0, _⟩ := v
  obtain ⟨N, h1⟩ := hf _ _ h
  exact goto_ans (R := (Sh.tu (Sh.pr (Sh.sl (Sh.int .u8)) (Sh.int .i64)))) (tab := T40 c59) (raw := (rawOf RW0)) (LP := W40 N) (fu := fuelC) (l := 0) (P := P40_0) (pL := u40_0 c59 N) hT hO rfl rfl (Nat.le_of_ble_eq_true rfl) (show k40.body = .seq (headOf k40.body) (.scope X40) from rfl) ⟨_, _, rfl⟩ fx40 loopOK_nil loopOK_nil (fun _ => rfl) (b40_0 c59 N) N ((e40 c59 N _).trans h1)

def T60 : Nat → Option Ent
  | _ => none
def W60 (N : Nat) : LoopF (((Sh.int .u8)).T) := fun no =>
  match no with
  | _ => fun _ _ => none
theorem e60 (N : Nat) (a0 : Int) : evc (T60) (rawOf RW0) (W60 N) (retc k60.res (Sh.int .u8)) (modeOf FT) 0 fuelC k60.body (env0 k60 (encL [(Sh.int .u8)] (a0, ())), []) (endK (retc k60.res (Sh.int .u8))) = p60 N a0 := by kernel_rfl
theorem ok60 {f : Int → Option Int} (hf : ∀ a0 r, f a0 = some r → ∃ N, p60 N a0 = some r) : EntOK FT XT 60 (en60 f) := by
  have hT : TabOK FT XT (T60) := by
    intro g en hg
    unfold T60 at hg
    split at hg <;> first | (injection hg with hg; subst hg; assumption) | cases hg
  have hO0 : RawOK FT XT (rawOf (α := ((Sh.int .u8)).T) RW0) := rawOK0
  have hO : RawOK FT XT (rawOf (α := ((Sh.int .u8)).T) RW0) := hO0
  refine ⟨rfl, fun v r h => ?_⟩
  obtain ⟨a0, _⟩ := v
  obtain ⟨N, h1⟩ := hf _ _ h
  exact ans_c (R := (Sh.int .u8)) (tab := T60) (raw := (rawOf RW0)) (LP := W60 N) (fu := fuelC) hT hO rfl rfl (Nat.le_of_ble_eq_true rfl) loopOK_nil ((e60 N _).trans h1)

def T41 (c60 : Int → Option Int) : Nat → Option Ent
  | 60 => some (en60 c60)
  | _ => none
def H41_0 : Trim := ⟨0, [], false, [0, 4, 5], [(4, (.ints .u8 []), 1)]⟩
theorem l41_0 : loopN k41 0 = .loop H41_0 (bodyOf (loopN k41 0)) := by kernel_rfl
def P41_0 : Ps := ⟨[(0, .str), (2, .u), (3, .u), (4, (.sl 0 1)), (5, (.int .i64)), (6, .u), (7, .u), (11, .u), (15, .u), (32, .u)], [(.ints false .u8)]⟩
def Q41_0 : Nat → Ps
  | 0 => ⟨[(0, .u), (2, .u), (3, .u), (4, (.sl 0 1)), (5, .u), (6, .u), (7, .u), (11, .u), (15, .u), (32, .u)], [(.ints false .u8)]⟩
  | _ => noPs
def u41_0 (c60 : Int → Option Int) (N n : Nat) (v : P41_0.T) (κ : (i : Nat) → (Q41_0 i).T → Option (((Sh.tu (Sh.pr (Sh.sl (Sh.int .u8)) (Sh.int .i64)))).T)) : Option (((Sh.tu (Sh.pr (Sh.sl (Sh.int .u8)) (Sh.int .i64)))).T) :=
  L41_0 c60 N (fun (y0 : Nat) (y1 : List Int) => κ 0 (((), ((), ((), (y0, ((), ((), ((), ((), ((), ((), ())))))))))), (y1, ()))) n v.1.1 v.1.2.2.2.1 v.1.2.2.2.2.1 v.2.1
def W41_0 (c60 : Int → Option Int) (N : Nat) : LoopF (((Sh.tu (Sh.pr (Sh.sl (Sh.int .u8)) (Sh.int .i64)))).T) := fun no =>
  match no with
  | _ => fun _ _ => none
theorem b41_0 (c60 : Int → Option Int) (N n : Nat) (v : P41_0.T) (κ : (i : Nat) → (Q41_0 i).T → Option (((Sh.tu (Sh.pr (Sh.sl (Sh.int .u8)) (Sh.int .i64)))).T)) :
    evc (T41 c60) (rawOf RW0) (W41_0 c60 N) (retc k41.res (Sh.tu (Sh.pr (Sh.sl (Sh.int .u8)) (Sh.int .i64)))) (modeOf FT) 0 fuelC (bodyOf (loopN k41 0)) (P41_0.st v) (roundK 0 H41_0 P41_0 Q41_0 (u41_0 c60 N n) κ) = u41_0 c60 N (n + 1) v κ := by kernel_rfl
theorem o41_0 (c60 : Int → Option Int) (hT : TabOK FT XT (T41 c60)) (hO : RawOK FT XT (rawOf (α := ((Sh.tu (Sh.pr (Sh.sl (Sh.int .u8)) (Sh.int .i64)))).T) RW0)) (N : Nat) {s : St} {κ : Ex → St → Option (((Sh.tu (Sh.pr (Sh.sl (Sh.int .u8)) (Sh.int .i64)))).T)} {a : ((Sh.tu (Sh.pr (Sh.sl (Sh.int .u8)) (Sh.int .i64)))).T} (h : lpOf 0 H41_0 P41_0 Q41_0 (u41_0 c60 N N) s κ = some a) : Out FT XT 0 (retc k41.res (Sh.tu (Sh.pr (Sh.sl (Sh.int .u8)) (Sh.int .i64)))) (loopN k41 0) s κ a := by
  rw [l41_0]
  exact loop_out (LP := W41_0 c60 N) (fu := fuelC) hT hO (fun _ _ => rfl) (b41_0 c60 N) loopOK_nil N h
def W41 (c60 : Int → Option Int) (N : Nat) : LoopF (((Sh.tu (Sh.pr (Sh.sl (Sh.int .u8)) (Sh.int .i64)))).T) := fun no =>
  match no with
  | 0 => lpOf 0 H41_0 P41_0 Q41_0 (u41_0 c60 N N)
  | _ => fun _ _ => none
theorem e41 (c60 : Int → Option Int) (N : Nat) (a0 : List UInt8) : evc (T41 c60) (rawOf RW0) (W41 c60 N) (retc k41.res (Sh.tu (Sh.pr (Sh.sl (Sh.int .u8)) (Sh.int .i64)))) (modeOf FT) 0 fuelC k41.body (env0 k41 (encL [Sh.str] (a0, ())), []) (endK (retc k41.res (Sh.tu (Sh.pr (Sh.sl (Sh.int .u8)) (Sh.int .i64))))) = p41 c60 N a0 := by kernel_rfl
theorem ok41 (c60 : Int → Option Int) (h60 : EntOK FT XT 60 (en60 c60)) {f : List UInt8 → Option ((List Int) × Int)} (hf : ∀ a0 r, f a0 = some r → ∃ N, p41 c60 N a0 = some r) : EntOK FT XT 41 (en41 f) := by
  have hT : TabOK FT XT (T41 c60) := by
    intro g en hg
    unfold T41 at hg
    split at hg <;> first | (injection hg with hg; subst hg; assumption) | cases hg
  have hO0 : RawOK FT XT (rawOf (α := ((Sh.tu (Sh.pr (Sh.sl (Sh.int .u8)) (Sh.int .i64)))).T) RW0) := rawOK0
  have hO : RawOK FT XT (rawOf (α := ((Sh.tu (Sh.pr (Sh.sl (Sh.int .u8)) (Sh.int .i64)))).T) RW0) := hO0
  refine ⟨rfl, fun v r h => ?_⟩
  obtain ⟨a0, _⟩ := v
  obtain ⟨N, h1⟩ := hf _ _ h
  exact ans_c (R := (Sh.tu (Sh.pr (Sh.sl (Sh.int .u8)) (Sh.int .i64)))) (tab := T41 c60) (raw := (rawOf RW0)) (LP := W41 c60 N) (fu := fuelC) hT hO rfl rfl (Nat.le_of_ble_eq_true rfl) (loopOK_cons l41_0 (fun s κ a h => o41_0 c60 hT hO N h) loopOK_nil) ((e41 c60 N _).trans h1)

def T43 : Nat → Option Ent
  | _ => none
def H43_0 : Trim := ⟨0, [], false, [0, 3, 4, 5], []⟩
theorem l43_0 : loopN k43 0 = .loop H43_0 (bodyOf (loopN k43 0)) := by kernel_rfl
def P43_0 : Ps := ⟨[(0, (.tb (Sh.int .u8))), (2, .u), (3, .str), (4, .str), (5, (.int .i64)), (6, .u), (7, .u), (11, .u)], []⟩
def Q43_0 : Nat → Ps
  | 0 => ⟨[(0, .u), (2, .u), (3, .u), (4, .str), (5, .u), (6, .u), (7, .u), (11, .u)], []⟩
  | _ => noPs
def u43_0 (N n : Nat) (v : P43_0.T) (κ : (i : Nat) → (Q43_0 i).T → Option (Sh.str).T) : Option (Sh.str).T :=
  L43_0 N (fun (y0 : List UInt8) => κ 0 (((), ((), ((), (y0, ((), ((), ((), ((), ())))))))), ())) n v.1.1 v.1.2.2.1 v.1.2.2.2.1 v.1.2.2.2.2.1
def W43_0 (N : Nat) : LoopF (Sh.str).T := fun no =>
  match no with
  | _ => fun _ _ => none
theorem b43_0 (N n : Nat) (v : P43_0.T) (κ : (i : Nat) → (Q43_0 i).T → Option (Sh.str).T) :
    evc (T43) (rawOf RW0) (W43_0 N) (retc k43.res Sh.str) (modeOf FT) 0 fuelC (bodyOf (loopN k43 0)) (P43_0.st v) (roundK 0 H43_0 P43_0 Q43_0 (u43_0 N n) κ) = u43_0 N (n + 1) v κ := by kernel_rfl
theorem o43_0 (hT : TabOK FT XT (T43)) (hO : RawOK FT XT (rawOf (α := (Sh.str).T) RW0)) (N : Nat) {s : St} {κ : Ex → St → Option (Sh.str).T} {a : (Sh.str).T} (h : lpOf 0 H43_0 P43_0 Q43_0 (u43_0 N N) s κ = some a) : Out FT XT 0 (retc k43.res Sh.str) (loopN k43 0) s κ a := by
  rw [l43_0]
  exact loop_out (LP := W43_0 N) (fu := fuelC) hT hO (fun _ _ => rfl) (b43_0 N) loopOK_nil N h
def W43 (N : Nat) : LoopF (Sh.str).T := fun no =>
  match no with
  | 0 => lpOf 0 H43_0 P43_0 Q43_0 (u43_0 N N)
  | _ => fun _ _ => none
theorem e43 (N : Nat) (a0 : List Int) : evc (T43) (rawOf RW0) (W43 N) (retc k43.res Sh.str) (modeOf FT) 0 fuelC k43.body (env0 k43 (encL [(Sh.sl (Sh.int .u8))] (a0, ())), []) (endK (retc k43.res Sh.str)) = p43 N a0 := by kernel_rfl
theorem ok43 {f : List Int → Option (List UInt8)} (hf : ∀ a0 r, f a0 = some r → ∃ N, p43 N a0 = some r) : EntOK FT XT 43 (en43 f) := by
  have hT : TabOK FT XT (T43) := by
    intro g en hg
    unfold T43 at hg
    split at hg <;> first | (injection hg with hg; subst hg; assumption) | cases hg
  have hO0 : RawOK FT XT (rawOf (α := (Sh.str).T) RW0) := rawOK0
  have hO : RawOK FT XT (rawOf (α := (Sh.str).T) RW0) := hO0
  refine ⟨rfl, fun v r h => ?_⟩
  obtain ⟨a0, _⟩ := v
  obtain ⟨N, h1⟩ := hf _ _ h
  exact ans_c (R := Sh.str) (tab := T43) (raw := (rawOf RW0)) (LP := W43 N) (fu := fuelC) hT hO rfl rfl (Nat.le_of_ble_eq_true rfl) (loopOK_cons l43_0 (fun s κ a h => o43_0 hT hO N h) loopOK_nil) ((e43 N _).trans h1)

def T23 : Nat → Option Ent
  | _ => none
def H23_0 : Trim := ⟨0, [], false, [0, 1, 5], []⟩
theorem l23_0 : loopN k23 0 = .loop H23_0 (bodyOf (loopN k23 0)) := by kernel_rfl
def P23_0 : Ps := ⟨[(0, (.tb (Sh.int .u8))), (1, (.tb (Sh.int .u8))), (4, .u), (5, (.int .i64)), (10, .u), (14, .u), (25, .u)], []⟩
def Q23_0 : Nat → Ps
  | 0 => ⟨[(0, .u), (1, .u), (4, .u), (5, .u), (10, .u), (14, .u), (25, .u)], []⟩
  | _ => noPs
def u23_0 (N n : Nat) (v : P23_0.T) (κ : (i : Nat) → (Q23_0 i).T → Option (Sh.bool).T) : Option (Sh.bool).T :=
  L23_0 N (κ 0 (((), ((), ((), ((), ((), ((), ((), ()))))))), ())) n v.1.1 v.1.2.1 v.1.2.2.2.1
def W23_0 (N : Nat) : LoopF (Sh.bool).T := fun no =>
  match no with
  | _ => fun _ _ => none
theorem b23_0 (N n : Nat) (v : P23_0.T) (κ : (i : Nat) → (Q23_0 i).T → Option (Sh.bool).T) :
    evc (T23) (rawOf RW0) (W23_0 N) (retc k23.res Sh.bool) (modeOf FT) 0 fuelC (bodyOf (loopN k23 0)) (P23_0.st v) (roundK 0 H23_0 P23_0 Q23_0 (u23_0 N n) κ) = u23_0 N (n + 1) v κ := by kernel_rfl
theorem o23_0 (hT : TabOK FT XT (T23)) (hO : RawOK FT XT (rawOf (α := (Sh.bool).T) RW0)) (N : Nat) {s : St} {κ : Ex → St → Option (Sh.bool).T} {a : (Sh.bool).T} (h : lpOf 0 H23_0 P23_0 Q23_0 (u23_0 N N) s κ = some a) : Out FT XT 0 (retc k23.res Sh.bool) (loopN k23 0) s κ a := by
  rw [l23_0]
  exact loop_out (LP := W23_0 N) (fu := fuelC) hT hO (fun _ _ => rfl) (b23_0 N) loopOK_nil N h
def W23 (N : Nat) : LoopF (Sh.bool).T := fun no =>
  match no with
  | 0 => lpOf 0 H23_0 P23_0 Q23_0 (u23_0 N N)
  | _ => fun _ _ => none
theorem e23 (N : Nat) (a0 : List Int) (a1 : List Int) : evc (T23) (rawOf RW0) (W23 N) (retc k23.res Sh.bool) (modeOf FT) 0 fuelC k23.body (env0 k23 (encL [(Sh.sl (Sh.int .u8)), (Sh.sl (Sh.int .u8))] (a0, (a1, ()))), []) (endK (retc k23.res Sh.bool)) = p23 N a0 a1 := by kernel_rfl
theorem ok23 {f : List Int → List Int → Option Bool} (hf : ∀ a0 a1 r, f a0 a1 = some r → ∃ N, p23 N a0 a1 = some r) : EntOK FT XT 23 (en23 f) := by
  have hT : TabOK FT XT (T23) := by
    intro g en hg
    unfold T23 at hg
    split at hg <;> first | (injection hg with hg; subst hg; assumption) | cases hg
  have hO0 : RawOK FT XT (rawOf (α := (Sh.bool).T) RW0) := rawOK0
  have hO : RawOK FT XT (rawOf (α := (Sh.bool).T) RW0) := hO0
  refine ⟨rfl, fun v r h => ?_⟩
  obtain ⟨a0, a1, _⟩ := v
  obtain ⟨N, h1⟩ := hf _ _ _ h
  exact ans_c (R := Sh.bool) (tab := T23) (raw := (rawOf RW0)) (LP := W23 N) (fu := fuelC) hT hO rfl rfl (Nat.le_of_ble_eq_true rfl) (loopOK_cons l23_0 (fun s κ a h => o23_0 hT hO N h) loopOK_nil) ((e23 N _ _).trans h1)

def T15 (c18 : Option Bool) (c40 : List UInt8 → Option ((List Int) × Int)) (c41 : List UInt8 → Option ((List Int) × Int)) (c42 : List Int → Option (List UInt8)) (c43 : List Int → Option (List UInt8)) (c23 : List Int → List Int → Option Bool) : Nat → Option Ent
  | 18 => some (en18 c18)
  | 40 => some (en40 c40)
  | 41 => some (en41 c41)
  | 42 => some (en42 c42)
  | 43 => some (en43 c43)
  | 23 => some (en23 c23)
  | _ => none
def W15 (c18 : Option Bool) (c40 : List UInt8 → Option ((List Int) × Int)) (c41 : List UInt8 → Option ((List Int) × Int)) (c42 : List Int → Option (List UInt8)) (c43 : List Int → Option (List UInt8)) (c23 : List Int → List Int → Option Bool) (N : Nat) : LoopF (Sh.bool).T := fun no =>
  match no with
  | _ => fun _ _ => none
theorem e15 (c18 : Option Bool) (c40 : List UInt8 → Option ((List Int) × Int)) (c41 : List UInt8 → Option ((List Int) × Int)) (c42 : List Int → Option (List UInt8)) (c43 : List Int → Option (List UInt8)) (c23 : List Int → List Int → Option Bool) (N : Nat) (a0 : List Int) (a1 : List UInt8) : evc (T15 c18 c40 c41 c42 c43 c23) (rawOf RW0) (W15 c18 c40 c41 c42 c43 c23 N) (retc k15.res Sh.bool) (modeOf FT) 0 fuelC k15.body (env0 k15 (encL [(Sh.sl (Sh.int .u8)), Sh.str] (a0, (a1, ()))), []) (endK (retc k15.res Sh.bool)) = p15 c18 c40 c41 c42 c43 c23 N a0 a1 := by kernel_rfl
theorem ok15 (c18 : Option Bool) (c40 : List UInt8 → Option ((List Int) × Int)) (c41 : List UInt8 → Option ((List Int) × Int)) (c42 : List Int → Option (List UInt8)) (c43 : List Int → Option (List UInt8)) (c23 : List Int → List Int → Option Bool) (h18 : EntOK FT XT 18 (en18 c18)) (h40 : EntOK FT XT 40 (en40 c40)) (h41 : EntOK FT XT 41 (en41 c41)) (h42 : EntOK FT XT 42 (en42 c42)) (h43 : EntOK FT XT 43 (en43 c43)) (h23 : EntOK FT XT 23 (en23 c23)) {f : List Int → List UInt8 → Option Bool} (hf : ∀ a0 a1 r, f a0 a1 = some r → ∃ N, p15 c18 c40 c41 c42 c43 c23 N a0 a1 = some r) : EntOK FT XT 15 (en15 f) := by
  have hT : TabOK FT XT (T15 c18 c40 c41 c42 c43 c23) := by
    intro g en hg
    unfold T15 at hg
    split at hg <;> first | (injection hg with hg; subst hg; assumption) | cases hg
  have hO0 : RawOK FT XT (rawOf (α := (Sh.bool).T) RW0) := rawOK0
  have hO : RawOK FT XT (rawOf (α := (Sh.bool).T) RW0) := hO0
  refine ⟨rfl, fun v r h => ?_⟩
  obtain ⟨a0, a1, _⟩ := v
  obtain ⟨N, h1⟩ := hf _ _ _ h
  exact ans_c (R := Sh.bool) (tab := T15 c18 c40 c41 c42 c43 c23) (raw := (rawOf RW0)) (LP := W15 c18 c40 c41 c42 c43 c23 N) (fu := fuelC) hT hO rfl rfl (Nat.le_of_ble_eq_true rfl) loopOK_nil ((e15 c18 c40 c41 c42 c43 c23 N _ _).trans h1)

def T44 (c61 : List Int → Option (List Int)) : Nat → Option Ent
  | 61 => some (en61 c61)
  | _ => none
def H44_0 : Trim := ⟨0, [], false, [6, 16, 17, 18], []⟩
theorem l44_0 : loopN k44 0 = .loop H44_0 (bodyOf (loopN k44 0)) := by kernel_rfl
def P44_0 : Ps := ⟨[(0, .u), (1, .u), (4, .u), (5, .u), (6, (.sl 0 1)), (7, .u), (8, .u), (13, .u), (16, (.tb (Sh.int .u8))), (17, (.int .i64)), (18, (.int .i64)), (19, .u)], [(.ints false .u8)]⟩
def Q44_0 : Nat → Ps
  | 0 => ⟨[(0, .u), (1, .u), (4, .u), (5, .u), (6, (.sl 0 1)), (7, .u), (8, .u), (13, .u), (16, .u), (17, .u), (18, .u), (19, .u)], [(.ints false .u8)]⟩
  | _ => noPs
def u44_0 (c61 : List Int → Option (List Int)) (N n : Nat) (v : P44_0.T) (κ : (i : Nat) → (Q44_0 i).T → Option (((Sh.tu (Sh.pr (Sh.sl (Sh.int .u8)) (Sh.int .i64)))).T)) : Option (((Sh.tu (Sh.pr (Sh.sl (Sh.int .u8)) (Sh.int .i64)))).T) :=
  L44_0 c61 N (fun (y0 : Nat) (y1 : List Int) => κ 0 (((), ((), ((), ((), (y0, ((), ((), ((), ((), ((), ((), ((), ())))))))))))), (y1, ()))) n v.1.2.2.2.2.1 v.1.2.2.2.2.2.2.2.2.1 v.1.2.2.2.2.2.2.2.2.2.1 v.1.2.2.2.2.2.2.2.2.2.2.1 v.2.1
def W44_0 (c61 : List Int → Option (List Int)) (N : Nat) : LoopF (((Sh.tu (Sh.pr (Sh.sl (Sh.int .u8)) (Sh.int .i64)))).T) := fun no =>
  match no with
  | _ => fun _ _ => none
theorem b44_0 (c61 : List Int → Option (List Int)) (N n : Nat) (v : P44_0.T) (κ : (i : Nat) → (Q44_0 i).T → Option (((Sh.tu (Sh.pr (Sh.sl (Sh.int .u8)) (Sh.int .i64)))).T)) :
    evc (T44 c61) (rawOf RW0) (W44_0 c61 N) (retc k44.res (Sh.tu (Sh.pr (Sh.sl (Sh.int .u8)) (Sh.int .i64)))) (modeOf FT) 0 fuelC (bodyOf (loopN k44 0)) (P44_0.st v) (roundK 0 H44_0 P44_0 Q44_0 (u44_0 c61 N n) κ) = u44_0 c61 N (n + 1) v κ := by kernel_rfl
theorem o44_0 (c61 : List Int → Option (List Int)) (hT : TabOK FT XT (T44 c61)) (hO : RawOK FT XT (rawOf (α := ((Sh.tu (Sh.pr (Sh.sl (Sh.int .u8)) (Sh.int .i64)))).T) RW0)) (N : Nat) {s : St} {κ : Ex → St → Option (((Sh.tu (Sh.pr (Sh.sl (Sh.int .u8)) (Sh.int .i64)))).T)} {a : ((Sh.tu (Sh.pr (Sh.sl (Sh.int .u8)) (Sh.int .i64)))).T} (h : lpOf 0 H44_0 P44_0 Q44_0 (u44_0 c61 N N) s κ = some a) : Out FT XT 0 (retc k44.res (Sh.tu (Sh.pr (Sh.sl (Sh.int .u8)) (Sh.int .i64)))) (loopN k44 0) s κ a := by
  rw [l44_0]
  exact loop_out (LP := W44_0 c61 N) (fu := fuelC) hT hO (fun _ _ => rfl) (b44_0 c61 N) loopOK_nil N h
def W44 (c61 : List Int → Option (List Int)) (N : Nat) : LoopF (((Sh.tu (Sh.pr (Sh.sl (Sh.int .u8)) (Sh.int .i64)))).T) := fun no =>
  match no with
  | 0 => lpOf 0 H44_0 P44_0 Q44_0 (u44_0 c61 N N)
  | _ => fun _ _ => none
theorem e44 (c61 : List Int → Option (List Int)) (N : Nat) (a0 : List Int) (a1 : List Int) : evc (T44 c61) (rawOf RW0) (W44 c61 N) (retc k44.res (Sh.tu (Sh.pr (Sh.sl (Sh.int .u8)) (Sh.int .i64)))) (modeOf FT) 0 fuelC k44.body (env0 k44 (encL [(Sh.sl (Sh.int .u8)), (Sh.sl (Sh.int .u8))] (a0, (a1, ()))), []) (endK (retc k44.res (Sh.tu (Sh.pr (Sh.sl (Sh.int .u8)) (Sh.int .i64))))) = p44 c61 N a0 a1 := by kernel_rfl
theorem ok44 (c61 : List Int → Option (List Int)) (h61 : EntOK FT XT 61 (en61 c61)) {f : List Int → List Int → Option ((List Int) × Int)} (hf : ∀ a0 a1 r, f a0 a1 = some r → ∃ N, p44 c61 N a0 a1 = some r) : EntOK FT XT 44 (en44 f) := by
  have hT : TabOK FT XT (T44 c61) := by
    intro g en hg
    unfold T44 at hg
    split at hg <;> first | (injection hg with hg; subst hg; assumption) | cases hg
  have hO0 : RawOK FT XT (rawOf (α := ((Sh.tu (Sh.pr (Sh.sl (Sh.int .u8)) (Sh.int .i64)))).T) RW0) := rawOK0
  have hO : RawOK FT XT (rawOf (α := ((Sh.tu (Sh.pr (Sh.sl (Sh.int .u8)) (Sh.int .i64)))).T) RW0) := hO0
  refine ⟨rfl, fun v r h => ?_⟩
  obtain ⟨a0, a1, _⟩ := v
  obtain ⟨N, h1⟩ := hf _ _ _ h
  exact ans_c (R := (Sh.tu (Sh.pr (Sh.sl (Sh.int .u8)) (Sh.int .i64)))) (tab := T44 c61) (raw := (rawOf RW0)) (LP := W44 c61 N) (fu := fuelC) hT hO rfl rfl (Nat.le_of_ble_eq_true rfl) (loopOK_cons l44_0 (fun s κ a h => o44_0 c61 hT hO N h) loopOK_nil) ((e44 c61 N _ _).trans h1)

def T45 : Nat → Option Ent
  | _ => none
def H45_0 : Trim := ⟨0, [], false, [0, 1, 6, 7], []⟩
theorem l45_0 : loopN k45 0 = .loop H45_0 (bodyOf (loopN k45 0)) := by kernel_rfl
def P45_0 : Ps := ⟨[(0, (.tb (Sh.int .u8))), (1, (.tb (Sh.int .u8))), (4, .u), (5, .u), (6, (.slc 0 1)), (7, (.int .i64)), (12, .u), (19, .u)], [(.ints false .u8)]⟩
def Q45_0 : Nat → Ps
  | 0 => ⟨[(0, .u), (1, .u), (4, .u), (5, .u), (6, (.slc 0 1)), (7, .u), (12, .u), (19, .u)], [(.ints false .u8)]⟩
  | _ => noPs
def u45_0 (N n : Nat) (v : P45_0.T) (κ : (i : Nat) → (Q45_0 i).T → Option (((Sh.tu (Sh.pr (Sh.sl (Sh.int .u8)) (Sh.int .i64)))).T)) : Option (((Sh.tu (Sh.pr (Sh.sl (Sh.int .u8)) (Sh.int .i64)))).T) :=
  L45_0 N (fun (y0 : Nat) (y1 : Nat) (y2 : List Int) => κ 0 (((), ((), ((), ((), ((y0, y1), ((), ((), ((), ())))))))), (y2, ()))) n v.1.1 v.1.2.1 v.1.2.2.2.2.1.1 v.1.2.2.2.2.1.2 v.1.2.2.2.2.2.1 v.2.1
def W45_0 (N : Nat) : LoopF (((Sh.tu (Sh.pr (Sh.sl (Sh.int .u8)) (Sh.int .i64)))).T) := fun no =>
  match no with
  | _ => fun _ _ => none
theorem b45_0 (N n : Nat) (v : P45_0.T) (κ : (i : Nat) → (Q45_0 i).T → Option (((Sh.tu (Sh.pr (Sh.sl (Sh.int .u8)) (Sh.int .i64)))).T)) :
    evc (T45) (rawOf RW0) (W45_0 N) (retc k45.res (Sh.tu (Sh.pr (Sh.sl (Sh.int .u8)) (Sh.int .i64)))) (modeOf FT) 0 fuelC (bodyOf (loopN k45 0)) (P45_0.st v) (roundK 0 H45_0 P45_0 Q45_0 (u45_0 N n) κ) = u45_0 N (n + 1) v κ := by kernel_rfl
theorem o45_0 (hT : TabOK FT XT (T45)) (hO : RawOK FT XT (rawOf (α := ((Sh.tu (Sh.pr (Sh.sl (Sh.int .u8)) (Sh.int .i64)))).T) RW0)) (N : Nat) {s : St} {κ : Ex → St → Option (((Sh.tu (Sh.pr (Sh.sl (Sh.int .u8)) (Sh.int .i64)))).T)} {a : ((Sh.tu (Sh.pr (Sh.sl (Sh.int .u8)) (Sh.int .i64)))).T} (h : lpOf 0 H45_0 P45_0 Q45_0 (u45_0 N N) s κ = some a) : Out FT XT 0 (retc k45.res (Sh.tu (Sh.pr (Sh.sl (Sh.int .u8)) (Sh.int .i64)))) (loopN k45 0) s κ a := by
  rw [l45_0]
  exact loop_out (LP := W45_0 N) (fu := fuelC) hT hO (fun _ _ => rfl) (b45_0 N) loopOK_nil N h
def W45 (N : Nat) : LoopF (((Sh.tu (Sh.pr (Sh.sl (Sh.int .u8)) (Sh.int .i64)))).T) := fun no =>
  match no with
  | 0 => lpOf 0 H45_0 P45_0 Q45_0 (u45_0 N N)
  | _ => fun _ _ => none
theorem e45 (N : Nat) (a0 : List Int) (a1 : List Int) : evc (T45) (rawOf RW0) (W45 N) (retc k45.res (Sh.tu (Sh.pr (Sh.sl (Sh.int .u8)) (Sh.int .i64)))) (modeOf FT) 0 fuelC k45.body (env0 k45 (encL [(Sh.sl (Sh.int .u8)), (Sh.sl (Sh.int .u8))] (a0, (a1, ()))), []) (endK (retc k45.res (Sh.tu (Sh.pr (Sh.sl (Sh.int .u8)) (Sh.int .i64))))) = p45 N a0 a1 := by kernel_rfl
theorem ok45 {f : List Int → List Int → Option ((List Int) × Int)} (hf : ∀ a0 a1 r, f a0 a1 = some r → ∃ N, p45 N a0 a1 = some r) : EntOK FT XT 45 (en45 f) := by
  have hT : TabOK FT XT (T45) := by
    intro g en hg
    unfold T45 at hg
    split at hg <;> first | (injection hg with hg; subst hg; assumption) | cases hg
  have hO0 : RawOK FT XT (rawOf (α := ((Sh.tu (Sh.pr (Sh.sl (Sh.int .u8)) (Sh.int .i64)))).T) RW0) := rawOK0
  have hO : RawOK FT XT (rawOf (α := ((Sh.tu (Sh.pr (Sh.sl (Sh.int .u8)) (Sh.int .i64)))).T) RW0) := hO0
  refine ⟨rfl, fun v r h => ?_⟩
  obtain ⟨a0, a1, _⟩ := v
  obtain ⟨N, h1⟩ := hf _ _ _ h
  exact ans_c (R := (Sh.tu (Sh.pr (Sh.sl (Sh.int .u8)) (Sh.int .i64)))) (tab := T45) (raw := (rawOf RW0)) (LP := W45 N) (fu := fuelC) hT hO rfl rfl (Nat.le_of_ble_eq_true rfl) (loopOK_cons l45_0 (fun s κ a h => o45_0 hT hO N h) loopOK_nil) ((e45 N _ _).trans h1)

def T46 (c1 : List (List Int) → Option (List Int)) : Nat → Option Ent
  | 1 => some (en1 c1)
  | _ => none
def W46 (c1 : List (List Int) → Option (List Int)) (N : Nat) : LoopF (List Int) := fun no =>
  match no with
  | _ => fun _ _ => none
theorem e46 (c1 : List (List Int) → Option (List Int)) (N : Nat) (a0 : List (List Int)) : evc (T46 c1) (rawOf RW0) (W46 c1 N) (reto k46.res .u8) (modeOf FT) 0 fuelC k46.body (env0 k46 (encL [(Sh.sl (Sh.sl (Sh.int .u8)))] (a0, ())), []) (endK (reto k46.res .u8)) = p46 c1 N a0 := by kernel_rfl
theorem ok46 (c1 : List (List Int) → Option (List Int)) (h1 : EntOK FT XT 1 (en1 c1)) {f : List (List Int) → Option (List Int)} (hf : ∀ a0 r, f a0 = some r → ∃ N, p46 c1 N a0 = some r) : EntOK FT XT 46 (en46 f) := by
  have hT : TabOK FT XT (T46 c1) := by
    intro g en hg
    unfold T46 at hg
    split at hg <;> first | (injection hg with hg; subst hg; assumption) | cases hg
  have hO0 : RawOK FT XT (rawOf (α := List Int) RW0) := rawOK0
  have hO : RawOK FT XT (rawOf (α := List Int) RW0) := hO0
  refine ⟨rfl, fun v r h => ?_⟩
  obtain ⟨a0, _⟩ := v
  obtain ⟨N, h1⟩ := hf _ _ h
  exact ans_o (tab := T46 c1) (raw := (rawOf RW0)) (LP := W46 c1 N) (fu := fuelC) hT hO rfl rfl (Nat.le_of_ble_eq_true rfl) loopOK_nil ((e46 c1 N _).trans h1)

def T16 (c18 : Option Bool) (c44 : List Int → List Int → Option ((List Int) × Int)) (c45 : List Int → List Int → Option ((List Int) × Int)) (c46 : List (List Int) → Option (List Int)) (c23 : List Int → List Int → Option Bool) (c47 : List Int → List Int → Option Bool) : Nat → Option Ent
  | 18 => some (en18 c18)
  | 44 => some (en44 c44)
  | 45 => some (en45 c45)
  | 46 => some (en46 c46)
  | 23 => some (en23 c23)
  | 47 => some (en47 c47)
  | _ => none
def W16 (c18 : Option Bool) (c44 : List Int → List Int → Option ((List Int) × Int)) (c45 : List Int → List Int → Option ((List Int) × Int)) (c46 : List (List Int) → Option (List Int)) (c23 : List Int → List Int → Option Bool) (c47 : List Int → List Int → Option Bool) (N : Nat) : LoopF (Sh.bool).T := fun no =>
  match no with
  | _ => fun _ _ => none
theorem e16 (c18 : Option Bool) (c44 : List Int → List Int → Option ((List Int) × Int)) (c45 : List Int → List Int → Option ((List Int) × Int)) (c46 : List (List Int) → Option (List Int)) (c23 : List Int → List Int → Option Bool) (c47 : List Int → List Int → Option Bool) (N : Nat) (a0 : List Int) (a1 : List Int) : evc (T16 c18 c44 c45 c46 c23 c47) (rawOf RW0) (W16 c18 c44 c45 c46 c23 c47 N) (retc k16.res Sh.bool) (modeOf FT) 0 fuelC k16.body (env0 k16 (encL [(Sh.sl (Sh.int .u8)), (Sh.sl (Sh.int .u8))] (a0, (a1, ()))), []) (endK (retc k16.res Sh.bool)) = p16 c18 c44 c45 c46 c23 c47 N a0 a1 := by kernel_rfl
theorem ok16 (c18 : Option Bool) (c44 : List Int → List Int → Option ((List Int) × Int)) (c45 : List Int → List Int → Option ((List Int) × Int)) (c46 : List (List Int) → Option (List Int)) (c23 : List Int → List Int → Option Bool) (c47 : List Int → List Int → Option Bool) (h18 : EntOK FT XT 18 (en18 c18)) (h44 : EntOK FT XT 44 (en44 c44)) (h45 : EntOK FT XT 45 (en45 c45)) (h46 : EntOK FT XT 46 (en46 c46)) (h23 : EntOK FT XT 23 (en23 c23)) (h47 : EntOK FT XT 47 (en47 c47)) {f : List Int → List Int → Option Bool} (hf : ∀ a0 a1 r, f a0 a1 = some r → ∃ N, p16 c18 c44 c45 c46 c23 c47 N a0 a1 = some r) : EntOK FT XT 16 (en16 f) := by
  have hT : TabOK FT XT (T16 c18 c44 c45 c46 c23 c47) := by
    intro g en hg
    unfold T16 at hg
    split at hg <;> first | (injection hg with hg; subst hg; assumption) | cases hg
  have hO0 : RawOK FT XT (rawOf (α := (Sh.bool).T) RW0) := rawOK0
  have hO : RawOK FT XT (rawOf (α := (Sh.bool).T) RW0) := hO0
  refine ⟨rfl, fun v r h => ?_⟩
  obtain ⟨a0, a1, _⟩ := v
  obtain ⟨N, h1⟩ := hf _ _ _ h
  exact ans_c (R := Sh.bool) (tab := T16 c18 c44 c45 c46 c23 c47) (raw := (rawOf RW0)) (LP := W16 c18 c44 c45 c46 c23 c47 N) (fu := fuelC) hT hO rfl rfl (Nat.le_of_ble_eq_true rfl) loopOK_nil ((e16 c18 c44 c45 c46 c23 c47 N _ _).trans h1)

def T17 (c18 : Option Bool) (c19 : Int → Int → Bool → Option ((List Int) × Int)) (c21 : List Int → Bool → Option (Int × Int)) (c44 : List Int → List Int → Option ((List Int) × Int)) (c42 : List Int → Option (List UInt8)) (c40 : List UInt8 → Option ((List Int) × Int)) (c23 : List Int → List Int → Option Bool) : Nat → Option Ent
  | 18 => some (en18 c18)
  | 19 => some (en19 c19)
  | 21 => some (en21 c21)
  | 44 => some (en44 c44)
  | 42 => some (en42 c42)
  | 40 => some (en40 c40)
  | 23 => some (en23 c23)
  | _ => none
def W17 (c18 : Option Bool) (c19 : Int → Int → Bool → Option ((List Int) × Int)) (c21 : List Int → Bool → Option (Int × Int)) (c44 : List Int → List Int → Option ((List Int) × Int)) (c42 : List Int → Option (List UInt8)) (c40 : List UInt8 → Option ((List Int) × Int)) (c23 : List Int → List Int → Option Bool) (N : Nat) : LoopF (Sh.bool).T := fun no =>
  match no with
  | _ => fun _ _ => none
theorem e17 (c18 : Option Bool) (c19 : Int → Int → Bool → Option ((List Int) × Int)) (c21 : List Int → Bool → Option (Int × Int)) (c44 : List Int → List Int → Option ((List Int) × Int)) (c42 : List Int → Option (List UInt8)) (c40 : List UInt8 → Option ((List Int) × Int)) (c23 : List Int → List Int → Option Bool) (N : Nat) (a0 : Int) (a1 : Int) (a2 : (List Int) × (List Int)) : evc (T17 c18 c19 c21 c44 c42 c40 c23) (rawOf RW0) (W17 c18 c19 c21 c44 c42 c40 c23 N) (retc k17.res Sh.bool) (modeOf FT) 0 fuelC k17.body (env0 k17 (encL [(Sh.int .u64), (Sh.int .i64), (Sh.st (Sh.pr (Sh.sl (Sh.int .u8)) (Sh.sl (Sh.int .u8))))] (a0, (a1, (a2, ())))), []) (endK (retc k17.res Sh.bool)) = p17 c18 c19 c21 c44 c42 c40 c23 N a0 a1 a2 := by kernel_rfl
theorem ok17 (c18 : Option Bool) (c19 : Int → Int → Bool → Option ((List Int) × Int)) (c21 : List Int → Bool → Option (Int × Int)) (c44 : List Int → List Int → Option ((List Int) × Int)) (c42 : List Int → Option (List UInt8)) (c40 : List UInt8 → Option ((List Int) × Int)) (c23 : List Int → List Int → Option Bool) (h18 : EntOK FT XT 18 (en18 c18)) (h19 : EntOK FT XT 19 (en19 c19)) (h21 : EntOK FT XT 21 (en21 c21)) (h44 : EntOK FT XT 44 (en44 c44)) (h42 : EntOK FT XT 42 (en42 c42)) (h40 : EntOK FT XT 40 (en40 c40)) (h23 : EntOK FT XT 23 (en23 c23)) {f : Int → Int → (List Int) × (List Int) → Option Bool} (hf : ∀ a0 a1 a2 r, f a0 a1 a2 = some r → ∃ N, p17 c18 c19 c21 c44 c42 c40 c23 N a0 a1 a2 = some r) : EntOK FT XT 17 (en17 f) := by
  have hT : TabOK FT XT (T17 c18 c19 c21 c44 c42 c40 c23) := by
    intro g en hg
    unfold T17 at hg
    split at hg <;> first | (injection hg with hg; subst hg; assumption) | cases hg
  have hO0 : RawOK FT XT (rawOf (α := (Sh.bool).T) RW0) := rawOK0
  have hO : RawOK FT XT (rawOf (α := (Sh.bool).T) RW0) := hO0
  refine ⟨rfl, fun v r h => ?_⟩
  obtain ⟨a0, a1, a2, _⟩ := v
  obtain ⟨N, h1⟩ := hf _ _ _ _ h
  exact ans_c (R := Sh.bool) (tab := T17 c18 c19 c21 c44 c42 c40 c23) (raw := (rawOf RW0)) (LP := W17 c18 c19 c21 c44 c42 c40 c23 N) (fu := fuelC) hT hO rfl rfl (Nat.le_of_ble_eq_true rfl) loopOK_nil ((e17 c18 c19 c21 c44 c42 c40 c23 N _ _ _).trans h1)
end Go.Proofs.YtjkdflcccoeggaaE
