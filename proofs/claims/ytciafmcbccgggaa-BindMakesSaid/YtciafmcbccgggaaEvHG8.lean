/- The plain functions are the evaluator's. -/
import Derived.Test.YtciafmcbccgggaaEvGG8
import Derived.KernelRfl
namespace Go.Proofs.YtciafmcbccgggaaE
open Go
set_option linter.unusedVariables false
set_option linter.unusedSimpArgs false

def T64v0 : Nat → Option Ent := tb []
def W64v0 (N : Nat) : LoopF QR64v0.T := fun no =>
  match no with
  | _ => fun _ _ => none
theorem e64v0 (N : Nat) (v : PR64v0.T) : evc (T64v0) (rawOf RW0) (W64v0 N) (retr k64.res 0 QR64v0) (modeOf FT) 0 fuelC k64.body (env0 k64 (PR64v0.a.st v.1), stH PR64v0.h v.2) (endK (retr k64.res 0 QR64v0)) = p64v0 N v.1.2.1 := by kernel_rfl
theorem ok64v0 {f : D64v0} (hf : ∀ a0 r, f a0 = some r → ∃ N, p64v0 N a0 = some r) : O64v0 f := by
  have hT : TabOK FT XT (T64v0) := tb0
  have hO0 : RawOK FT XT (rawOf (α := QR64v0.T) RW0) := rawOK0
  have hO : RawOK FT XT (rawOf (α := QR64v0.T) RW0) := hO0
  intro v r w h hw
  obtain ⟨N, h1⟩ := hf _ _ h
  exact ans_r (Q := QR64v0) (tab := T64v0) (raw := (rawOf RW0)) (LP := W64v0 N) (fu := fuelC) hT hO rfl rfl (Nat.le_of_ble_eq_true rfl) rfl loopOK_nil ((e64v0 N v).trans h1) hw

def T1 (d64v0 : D64v0) : Nat → Option Ent := tb []
def RW1 (d64v0 : D64v0) : Nat → List REnt
  | 64 => [rn64v0 d64v0]
  | _ => []
def H1_1 : Trim := ⟨1, [], false, [6, 25, 26, 27], []⟩
theorem l1_1 : loopN k1 1 = .loop H1_1 (bodyOf (loopN k1 1)) := by kernel_rfl
def P1_1 : Ps := ⟨[(0, .u), (2, .u), (3, .u), (5, .u), (6, (.sl 0 1)), (8, .u), (9, .u), (10, .u), (11, .u), (12, .u), (20, .u), (25, (.tb (Sh.sl (Sh.int .u8)))), (26, (.int .i64)), (27, (.int .i64)), (28, .u)], [(.ints false .u8)]⟩
def Q1_1 : Nat → Ps
  | 2 => ⟨[(0, .u), (2, .u), (3, .u), (5, .u), (6, (.sl 0 1)), (8, .u), (9, .u), (10, .u), (11, .u), (12, .u), (20, .u), (25, .u), (26, .u), (27, .u), (28, .u)], [(.ints false .u8)]⟩
  | _ => noPs
def u1_1 (d64v0 : D64v0) (N n : Nat) (v : P1_1.T) (κ : (i : Nat) → (Q1_1 i).T → Option (List Int)) : Option (List Int) :=
  L1_1 d64v0 N (fun (y0 : Nat) (y1 : List Int) => κ 2 (((), ((), ((), ((), (y0, ((), ((), ((), ((), ((), ((), ((), ((), ((), ((), ()))))))))))))))), (y1, ()))) n v.1.2.2.2.2.1 v.1.2.2.2.2.2.2.2.2.2.2.2.1 v.1.2.2.2.2.2.2.2.2.2.2.2.2.1 v.1.2.2.2.2.2.2.2.2.2.2.2.2.2.1 v.2.1
def W1_1 (d64v0 : D64v0) (N : Nat) : LoopF (List Int) := fun no =>
  match no with
  | _ => fun _ _ => none
theorem b1_1 (d64v0 : D64v0) (N n : Nat) (v : P1_1.T) (κ : (i : Nat) → (Q1_1 i).T → Option (List Int)) :
    evc (T1 d64v0) (rawOf (RW1 d64v0)) (W1_1 d64v0 N) (reto k1.res .u8) (modeOf FT) 0 fuelC (bodyOf (loopN k1 1)) (P1_1.st v) (roundK 0 H1_1 P1_1 Q1_1 (u1_1 d64v0 N n) κ) = u1_1 d64v0 N (n + 1) v κ := by kernel_rfl
theorem o1_1 (d64v0 : D64v0) (hT : TabOK FT XT (T1 d64v0)) (hO : RawOK FT XT (rawOf (α := List Int) (RW1 d64v0))) (N : Nat) {s : St} {κ : Ex → St → Option (List Int)} {a : List Int} (h : lpOf 0 H1_1 P1_1 Q1_1 (u1_1 d64v0 N N) s κ = some a) : Out FT XT 0 (reto k1.res .u8) (loopN k1 1) s κ a := by
  rw [l1_1]
  exact loop_out (LP := W1_1 d64v0 N) (fu := fuelC) hT hO (fun _ _ => rfl) (b1_1 d64v0 N) loopOK_nil N h
def H1_0 : Trim := ⟨0, [], false, [0, 3, 9, 10, 11], []⟩
theorem l1_0 : loopN k1 0 = .loop H1_0 (bodyOf (loopN k1 0)) := by kernel_rfl
def P1_0 : Ps := ⟨[(0, (.tb (Sh.sl (Sh.int .u8)))), (2, .u), (3, (.int .i64)), (5, .u), (6, .u), (8, .u), (9, (.tb (Sh.sl (Sh.int .u8)))), (10, (.int .i64)), (11, (.int .i64)), (12, .u), (20, .u), (25, .u), (26, .u), (27, .u), (28, .u)], []⟩
def Q1_0 : Nat → Ps
  | 0 => ⟨[(0, (.tb (Sh.sl (Sh.int .u8)))), (2, .u), (3, (.int .i64)), (5, .u), (6, .u), (8, .u), (9, .u), (10, .u), (11, .u), (12, .u), (20, .u), (25, .u), (26, .u), (27, .u), (28, .u)], []⟩
  | _ => noPs
def u1_0 (d64v0 : D64v0) (N n : Nat) (v : P1_0.T) (κ : (i : Nat) → (Q1_0 i).T → Option (List Int)) : Option (List Int) :=
  L1_0 d64v0 N (fun (y0 : List (List Int)) (y1 : Int) => κ 0 ((y0, ((), (y1, ((), ((), ((), ((), ((), ((), ((), ((), ((), ((), ((), ((), ()))))))))))))))), ())) n v.1.1 v.1.2.2.1 v.1.2.2.2.2.2.2.1 v.1.2.2.2.2.2.2.2.1 v.1.2.2.2.2.2.2.2.2.1
def W1_0 (d64v0 : D64v0) (N : Nat) : LoopF (List Int) := fun no =>
  match no with
  | _ => fun _ _ => none
theorem b1_0 (d64v0 : D64v0) (N n : Nat) (v : P1_0.T) (κ : (i : Nat) → (Q1_0 i).T → Option (List Int)) :
    evc (T1 d64v0) (rawOf (RW1 d64v0)) (W1_0 d64v0 N) (reto k1.res .u8) (modeOf FT) 0 fuelC (bodyOf (loopN k1 0)) (P1_0.st v) (roundK 0 H1_0 P1_0 Q1_0 (u1_0 d64v0 N n) κ) = u1_0 d64v0 N (n + 1) v κ := by kernel_rfl
theorem o1_0 (d64v0 : D64v0) (hT : TabOK FT XT (T1 d64v0)) (hO : RawOK FT XT (rawOf (α := List Int) (RW1 d64v0))) (N : Nat) {s : St} {κ : Ex → St → Option (List Int)} {a : List Int} (h : lpOf 0 H1_0 P1_0 Q1_0 (u1_0 d64v0 N N) s κ = some a) : Out FT XT 0 (reto k1.res .u8) (loopN k1 0) s κ a := by
  rw [l1_0]
  exact loop_out (LP := W1_0 d64v0 N) (fu := fuelC) hT hO (fun _ _ => rfl) (b1_0 d64v0 N) loopOK_nil N h
def W1 (d64v0 : D64v0) (N : Nat) : LoopF (List Int) := fun no =>
  match no with
  | 0 => lpOf 0 H1_0 P1_0 Q1_0 (u1_0 d64v0 N N)
  | 1 => lpOf 0 H1_1 P1_1 Q1_1 (u1_1 d64v0 N N)
  | _ => fun _ _ => none
theorem e1 (d64v0 : D64v0) (N : Nat) (a0 : List (List Int)) : evc (T1 d64v0) (rawOf (RW1 d64v0)) (W1 d64v0 N) (reto k1.res .u8) (modeOf FT) 0 fuelC k1.body (env0 k1 (encL [(Sh.sl (Sh.sl (Sh.int .u8)))] (a0, ())), []) (endK (reto k1.res .u8)) = p1 d64v0 N a0 := by kernel_rfl
theorem ok1 (d64v0 : D64v0) (h64v0 : O64v0 d64v0) {f : D1} (hf : ∀ a0 r, f a0 = some r → ∃ N, p1 d64v0 N a0 = some r) : O1 f := by
  have hT : TabOK FT XT (T1 d64v0) := tb0
  have hO0 : RawOK FT XT (rawOf (α := List Int) (RW1 d64v0)) := by
    refine rawOf_ok (fun g en hg => ?_)
    unfold RW1 at hg
    split at hg <;> simp only [List.mem_cons, List.not_mem_nil, or_false] at hg <;> first | (subst hg; assumption) | (rcases hg with rfl | rfl <;> assumption) | (rcases hg with rfl | rfl | rfl <;> assumption) | (rcases hg with rfl | rfl | rfl | rfl <;> assumption)
  have hO : RawOK FT XT (rawOf (α := List Int) (RW1 d64v0)) := hO0
  refine ⟨rfl, fun v r h => ?_⟩
  obtain ⟨a0, _⟩ := v
  obtain ⟨N, h1⟩ := hf _ _ h
  exact ans_o (tab := T1 d64v0) (raw := (rawOf (RW1 d64v0))) (LP := W1 d64v0 N) (fu := fuelC) hT hO rfl rfl (Nat.le_of_ble_eq_true rfl) (loopOK_cons l1_0 (fun s κ a h => o1_0 d64v0 hT hO N h) (loopOK_cons l1_1 (fun s κ a h => o1_1 d64v0 hT hO N h) loopOK_nil)) ((e1 d64v0 N _).trans h1)

def T48v0 : Nat → Option Ent := tb []
def H48v0_0 : Trim := ⟨0, [], false, [0, 2, 3], []⟩
theorem l48v0_0 : loopN k48 0 = .loop H48v0_0 (bodyOf (loopN k48 0)) := by kernel_rfl
def P48v0_0 : Ps := ⟨[(0, (.slc 0 1)), (2, (.int .i64)), (3, (.int .i64)), (9, .u)], [(.ints false .u8)]⟩
def Q48v0_0 : Nat → Ps
  | 0 => ⟨[(0, .u), (2, .u), (3, .u), (9, .u)], [(.ints false .u8)]⟩
  | _ => noPs
def u48v0_0 (N n : Nat) (v : P48v0_0.T) (κ : (i : Nat) → (Q48v0_0 i).T → Option QR48v0.T) : Option QR48v0.T :=
  L48v0_0 N (fun (y0 : List Int) => κ 0 (((), ((), ((), ((), ())))), (y0, ()))) n v.1.1.1 v.1.1.2 v.1.2.1 v.1.2.2.1 v.2.1
def W48v0_0 (N : Nat) : LoopF QR48v0.T := fun no =>
  match no with
  | _ => fun _ _ => none
theorem b48v0_0 (N n : Nat) (v : P48v0_0.T) (κ : (i : Nat) → (Q48v0_0 i).T → Option QR48v0.T) :
    evc (T48v0) (rawOf RW0) (W48v0_0 N) (retr k48.res 1 QR48v0) (modeOf FT) 1 fuelC (bodyOf (loopN k48 0)) (P48v0_0.st v) (roundK 1 H48v0_0 P48v0_0 Q48v0_0 (u48v0_0 N n) κ) = u48v0_0 N (n + 1) v κ := by kernel_rfl
theorem o48v0_0 (hT : TabOK FT XT (T48v0)) (hO : RawOK FT XT (rawOf (α := QR48v0.T) RW0)) (N : Nat) {s : St} {κ : Ex → St → Option QR48v0.T} {a : QR48v0.T} (h : lpOf 1 H48v0_0 P48v0_0 Q48v0_0 (u48v0_0 N N) s κ = some a) : Out FT XT 1 (retr k48.res 1 QR48v0) (loopN k48 0) s κ a := by
  rw [l48v0_0]
  exact loop_out (LP := W48v0_0 N) (fu := fuelC) hT hO (fun _ _ => rfl) (b48v0_0 N) loopOK_nil N h
def W48v0 (N : Nat) : LoopF QR48v0.T := fun no =>
  match no with
  | 0 => lpOf 1 H48v0_0 P48v0_0 Q48v0_0 (u48v0_0 N N)
  | _ => fun _ _ => none
theorem e48v0 (N : Nat) (v : PR48v0.T) : evc (T48v0) (rawOf RW0) (W48v0 N) (retr k48.res 1 QR48v0) (modeOf FT) 1 fuelC k48.body (env0 k48 (PR48v0.a.st v.1), stH PR48v0.h v.2) (endK (retr k48.res 1 QR48v0)) = p48v0 N v.1.1.1 v.1.1.2 v.2.1 := by kernel_rfl
theorem ok48v0 {f : D48v0} (hf : ∀ a0 a1 a2 r, f a0 a1 a2 = some r → ∃ N, p48v0 N a0 a1 a2 = some r) : O48v0 f := by
  have hT : TabOK FT XT (T48v0) := tb0
  have hO0 : RawOK FT XT (rawOf (α := QR48v0.T) RW0) := rawOK0
  have hO : RawOK FT XT (rawOf (α := QR48v0.T) RW0) := hO0
  intro v r w h hw
  obtain ⟨N, h1⟩ := hf _ _ _ _ h
  exact ans_r (Q := QR48v0) (tab := T48v0) (raw := (rawOf RW0)) (LP := W48v0 N) (fu := fuelC) hT hO rfl rfl (Nat.le_of_ble_eq_true rfl) rfl (loopOK_cons l48v0_0 (fun s κ a h => o48v0_0 hT hO N h) loopOK_nil) ((e48v0 N v).trans h1) hw

def T19 (d48v0 : D48v0) : Nat → Option Ent := tb []
def RW19 (d48v0 : D48v0) : Nat → List REnt
  | 48 => [rn48v0 d48v0]
  | _ => []
def H19_0 : Trim := ⟨0, [], false, [0, 2, 8, 19, 20], []⟩
theorem l19_0 : loopN k19 0 = .loop H19_0 (bodyOf (loopN k19 0)) := by kernel_rfl
def P19_0 : Ps := ⟨[(0, (.int .u64)), (1, .u), (2, .bool), (6, .u), (7, .u), (8, (.slc 0 1)), (9, .u), (15, .u), (19, (.int .i64)), (20, (.int .i64)), (21, .u), (33, .u)], [(.ints false .u8)]⟩
def Q19_0 : Nat → Ps
  | 0 => ⟨[(0, .u), (1, .u), (2, .bool), (6, .u), (7, .u), (8, (.slc 0 1)), (9, .u), (15, .u), (19, .u), (20, .u), (21, .u), (33, .u)], [(.ints false .u8)]⟩
  | _ => noPs
def u19_0 (d48v0 : D48v0) (N n : Nat) (v : P19_0.T) (κ : (i : Nat) → (Q19_0 i).T → Option (((Sh.tu (Sh.pr (Sh.sl (Sh.int .u8)) (Sh.int .i64)))).T)) : Option (((Sh.tu (Sh.pr (Sh.sl (Sh.int .u8)) (Sh.int .i64)))).T) :=
  L19_0 d48v0 N (fun (y0 : Bool) (y1 : Nat) (y2 : Nat) (y3 : List Int) => κ 0 (((), ((), (y0, ((), ((), ((y1, y2), ((), ((), ((), ((), ((), ((), ())))))))))))), (y3, ()))) n v.1.1 v.1.2.2.1 v.1.2.2.2.2.2.1.1 v.1.2.2.2.2.2.1.2 v.1.2.2.2.2.2.2.2.2.1 v.1.2.2.2.2.2.2.2.2.2.1 v.2.1
def W19_0 (d48v0 : D48v0) (N : Nat) : LoopF (((Sh.tu (Sh.pr (Sh.sl (Sh.int .u8)) (Sh.int .i64)))).T) := fun no =>
  match no with
  | _ => fun _ _ => none
theorem b19_0 (d48v0 : D48v0) (N n : Nat) (v : P19_0.T) (κ : (i : Nat) → (Q19_0 i).T → Option (((Sh.tu (Sh.pr (Sh.sl (Sh.int .u8)) (Sh.int .i64)))).T)) :
    evc (T19 d48v0) (rawOf (RW19 d48v0)) (W19_0 d48v0 N) (retc k19.res (Sh.tu (Sh.pr (Sh.sl (Sh.int .u8)) (Sh.int .i64)))) (modeOf FT) 0 fuelC (bodyOf (loopN k19 0)) (P19_0.st v) (roundK 0 H19_0 P19_0 Q19_0 (u19_0 d48v0 N n) κ) = u19_0 d48v0 N (n + 1) v κ := by kernel_rfl
theorem o19_0 (d48v0 : D48v0) (hT : TabOK FT XT (T19 d48v0)) (hO : RawOK FT XT (rawOf (α := ((Sh.tu (Sh.pr (Sh.sl (Sh.int .u8)) (Sh.int .i64)))).T) (RW19 d48v0))) (N : Nat) {s : St} {κ : Ex → St → Option (((Sh.tu (Sh.pr (Sh.sl (Sh.int .u8)) (Sh.int .i64)))).T)} {a : ((Sh.tu (Sh.pr (Sh.sl (Sh.int .u8)) (Sh.int .i64)))).T} (h : lpOf 0 H19_0 P19_0 Q19_0 (u19_0 d48v0 N N) s κ = some a) : Out FT XT 0 (retc k19.res (Sh.tu (Sh.pr (Sh.sl (Sh.int .u8)) (Sh.int .i64)))) (loopN k19 0) s κ a := by
  rw [l19_0]
  exact loop_out (LP := W19_0 d48v0 N) (fu := fuelC) hT hO (fun _ _ => rfl) (b19_0 d48v0 N) loopOK_nil N h
def W19 (d48v0 : D48v0) (N : Nat) : LoopF (((Sh.tu (Sh.pr (Sh.sl (Sh.int .u8)) (Sh.int .i64)))).T) := fun no =>
  match no with
  | 0 => lpOf 0 H19_0 P19_0 Q19_0 (u19_0 d48v0 N N)
  | _ => fun _ _ => none
theorem e19 (d48v0 : D48v0) (N : Nat) (a0 : Int) (a1 : Int) (a2 : Bool) : evc (T19 d48v0) (rawOf (RW19 d48v0)) (W19 d48v0 N) (retc k19.res (Sh.tu (Sh.pr (Sh.sl (Sh.int .u8)) (Sh.int .i64)))) (modeOf FT) 0 fuelC k19.body (env0 k19 (encL [(Sh.int .u64), (Sh.int .i64), Sh.bool] (a0, (a1, (a2, ())))), []) (endK (retc k19.res (Sh.tu (Sh.pr (Sh.sl (Sh.int .u8)) (Sh.int .i64))))) = p19 d48v0 N a0 a1 a2 := by kernel_rfl
theorem ok19 (d48v0 : D48v0) (h48v0 : O48v0 d48v0) {f : D19} (hf : ∀ a0 a1 a2 r, f a0 a1 a2 = some r → ∃ N, p19 d48v0 N a0 a1 a2 = some r) : O19 f := by
  have hT : TabOK FT XT (T19 d48v0) := tb0
  have hO0 : RawOK FT XT (rawOf (α := ((Sh.tu (Sh.pr (Sh.sl (Sh.int .u8)) (Sh.int .i64)))).T) (RW19 d48v0)) := by
    refine rawOf_ok (fun g en hg => ?_)
    unfold RW19 at hg
    split at hg <;> simp only [List.mem_cons, List.not_mem_nil, or_false] at hg <;> first | (subst hg; assumption) | (rcases hg with rfl | rfl <;> assumption) | (rcases hg with rfl | rfl | rfl <;> assumption) | (rcases hg with rfl | rfl | rfl | rfl <;> assumption)
  have hO : RawOK FT XT (rawOf (α := ((Sh.tu (Sh.pr (Sh.sl (Sh.int .u8)) (Sh.int .i64)))).T) (RW19 d48v0)) := hO0
  refine ⟨rfl, fun v r h => ?_⟩
  obtain ⟨a0, a1, a2, _⟩ := v
  obtain ⟨N, h1⟩ := hf _ _ _ _ h
  exact ans_c (R := (Sh.tu (Sh.pr (Sh.sl (Sh.int .u8)) (Sh.int .i64)))) (tab := T19 d48v0) (raw := (rawOf (RW19 d48v0))) (LP := W19 d48v0 N) (fu := fuelC) hT hO rfl rfl (Nat.le_of_ble_eq_true rfl) (loopOK_cons l19_0 (fun s κ a h => o19_0 d48v0 hT hO N h) loopOK_nil) ((e19 d48v0 N _ _ _).trans h1)

def T21 : Nat → Option Ent := tb []
def H21_0 : Trim := ⟨0, [], false, [1, 6, 17, 18, 19], []⟩
theorem l21_0 : loopN k21 0 = .loop H21_0 (bodyOf (loopN k21 0)) := by kernel_rfl
def P21_0 : Ps := ⟨[(0, .u), (1, .bool), (4, .u), (5, .u), (6, (.int .u64)), (7, .u), (8, .u), (16, .u), (17, (.tb (Sh.int .u8))), (18, (.int .i64)), (19, (.int .i64)), (20, .u), (24, .u)], []⟩
def Q21_0 : Nat → Ps
  | 0 => ⟨[(0, .u), (1, .u), (4, .u), (5, .u), (6, (.int .u64)), (7, .u), (8, .u), (16, .u), (17, .u), (18, .u), (19, .u), (20, .u), (24, .u)], []⟩
  | _ => noPs
def u21_0 (N n : Nat) (v : P21_0.T) (κ : (i : Nat) → (Q21_0 i).T → Option (((Sh.tu (Sh.pr (Sh.int .u64) (Sh.int .i64)))).T)) : Option (((Sh.tu (Sh.pr (Sh.int .u64) (Sh.int .i64)))).T) :=
  L21_0 N (fun (y0 : Int) => κ 0 (((), ((), ((), ((), (y0, ((), ((), ((), ((), ((), ((), ((), ((), ()))))))))))))), ())) n v.1.2.1 v.1.2.2.2.2.1 v.1.2.2.2.2.2.2.2.2.1 v.1.2.2.2.2.2.2.2.2.2.1 v.1.2.2.2.2.2.2.2.2.2.2.1
def W21_0 (N : Nat) : LoopF (((Sh.tu (Sh.pr (Sh.int .u64) (Sh.int .i64)))).T) := fun no =>
  match no with
  | _ => fun _ _ => none
theorem b21_0 (N n : Nat) (v : P21_0.T) (κ : (i : Nat) → (Q21_0 i).T → Option (((Sh.tu (Sh.pr (Sh.int .u64) (Sh.int .i64)))).T)) :
    evc (T21) (rawOf RW0) (W21_0 N) (retc k21.res (Sh.tu (Sh.pr (Sh.int .u64) (Sh.int .i64)))) (modeOf FT) 0 fuelC (bodyOf (loopN k21 0)) (P21_0.st v) (roundK 0 H21_0 P21_0 Q21_0 (u21_0 N n) κ) = u21_0 N (n + 1) v κ := by kernel_rfl
theorem o21_0 (hT : TabOK FT XT (T21)) (hO : RawOK FT XT (rawOf (α := ((Sh.tu (Sh.pr (Sh.int .u64) (Sh.int .i64)))).T) RW0)) (N : Nat) {s : St} {κ : Ex → St → Option (((Sh.tu (Sh.pr (Sh.int .u64) (Sh.int .i64)))).T)} {a : ((Sh.tu (Sh.pr (Sh.int .u64) (Sh.int .i64)))).T} (h : lpOf 0 H21_0 P21_0 Q21_0 (u21_0 N N) s κ = some a) : Out FT XT 0 (retc k21.res (Sh.tu (Sh.pr (Sh.int .u64) (Sh.int .i64)))) (loopN k21 0) s κ a := by
  rw [l21_0]
  exact loop_out (LP := W21_0 N) (fu := fuelC) hT hO (fun _ _ => rfl) (b21_0 N) loopOK_nil N h
def W21 (N : Nat) : LoopF (((Sh.tu (Sh.pr (Sh.int .u64) (Sh.int .i64)))).T) := fun no =>
  match no with
  | 0 => lpOf 0 H21_0 P21_0 Q21_0 (u21_0 N N)
  | _ => fun _ _ => none
theorem e21 (N : Nat) (a0 : List Int) (a1 : Bool) : evc (T21) (rawOf RW0) (W21 N) (retc k21.res (Sh.tu (Sh.pr (Sh.int .u64) (Sh.int .i64)))) (modeOf FT) 0 fuelC k21.body (env0 k21 (encL [(Sh.sl (Sh.int .u8)), Sh.bool] (a0, (a1, ()))), []) (endK (retc k21.res (Sh.tu (Sh.pr (Sh.int .u64) (Sh.int .i64))))) = p21 N a0 a1 := by kernel_rfl
theorem ok21 {f : D21} (hf : ∀ a0 a1 r, f a0 a1 = some r → ∃ N, p21 N a0 a1 = some r) : O21 f := by
  have hT : TabOK FT XT (T21) := tb0
  have hO0 : RawOK FT XT (rawOf (α := ((Sh.tu (Sh.pr (Sh.int .u64) (Sh.int .i64)))).T) RW0) := rawOK0
  have hO : RawOK FT XT (rawOf (α := ((Sh.tu (Sh.pr (Sh.int .u64) (Sh.int .i64)))).T) RW0) := hO0
  refine ⟨rfl, fun v r h => ?_⟩
  obtain ⟨a0, a1, _⟩ := v
  obtain ⟨N, h1⟩ := hf _ _ _ h
  exact ans_c (R := (Sh.tu (Sh.pr (Sh.int .u64) (Sh.int .i64)))) (tab := T21) (raw := (rawOf RW0)) (LP := W21 N) (fu := fuelC) hT hO rfl rfl (Nat.le_of_ble_eq_true rfl) (loopOK_cons l21_0 (fun s κ a h => o21_0 hT hO N h) loopOK_nil) ((e21 N _ _).trans h1)

def T46 (c1 : D1) : Nat → Option Ent := tb [(1, en1 c1)]
def W46 (c1 : D1) (N : Nat) : LoopF (List Int) := fun no =>
  match no with
  | _ => fun _ _ => none
theorem e46 (c1 : D1) (N : Nat) (a0 : List (List Int)) : evc (T46 c1) (rawOf RW0) (W46 c1 N) (reto k46.res .u8) (modeOf FT) 0 fuelC k46.body (env0 k46 (encL [(Sh.sl (Sh.sl (Sh.int .u8)))] (a0, ())), []) (endK (reto k46.res .u8)) = p46 c1 N a0 := by kernel_rfl
theorem ok46 (c1 : D1) (h1 : O1 c1) {f : D46} (hf : ∀ a0 r, f a0 = some r → ∃ N, p46 c1 N a0 = some r) : O46 f := by
  have hT : TabOK FT XT (T46 c1) := (tb1 h1 tb0)
  have hO0 : RawOK FT XT (rawOf (α := List Int) RW0) := rawOK0
  have hO : RawOK FT XT (rawOf (α := List Int) RW0) := hO0
  refine ⟨rfl, fun v r h => ?_⟩
  obtain ⟨a0, _⟩ := v
  obtain ⟨N, h1⟩ := hf _ _ h
  exact ans_o (tab := T46 c1) (raw := (rawOf RW0)) (LP := W46 c1 N) (fu := fuelC) hT hO rfl rfl (Nat.le_of_ble_eq_true rfl) loopOK_nil ((e46 c1 N _).trans h1)

def T47 : Nat → Option Ent := tb []
def H47_0 : Trim := ⟨0, [], false, [1, 5, 13, 14, 15], []⟩
theorem l47_0 : loopN k47 0 = .loop H47_0 (bodyOf (loopN k47 0)) := by kernel_rfl
def P47_0 : Ps := ⟨[(0, .u), (1, (.tb (Sh.int .u8))), (4, .u), (5, (.int .u8)), (6, .u), (7, .u), (12, .u), (13, (.tb (Sh.int .u8))), (14, (.int .i64)), (15, (.int .i64)), (16, .u)], []⟩
def Q47_0 : Nat → Ps
  | 0 => ⟨[(0, .u), (1, .u), (4, .u), (5, (.int .u8)), (6, .u), (7, .u), (12, .u), (13, .u), (14, .u), (15, .u), (16, .u)], []⟩
  | _ => noPs
def u47_0 (N n : Nat) (v : P47_0.T) (κ : (i : Nat) → (Q47_0 i).T → Option (Sh.bool).T) : Option (Sh.bool).T :=
  L47_0 N (fun (y0 : Int) => κ 0 (((), ((), ((), (y0, ((), ((), ((), ((), ((), ((), ((), ()))))))))))), ())) n v.1.2.1 v.1.2.2.2.1 v.1.2.2.2.2.2.2.2.1 v.1.2.2.2.2.2.2.2.2.1 v.1.2.2.2.2.2.2.2.2.2.1
def W47_0 (N : Nat) : LoopF (Sh.bool).T := fun no =>
  match no with
  | _ => fun _ _ => none
theorem b47_0 (N n : Nat) (v : P47_0.T) (κ : (i : Nat) → (Q47_0 i).T → Option (Sh.bool).T) :
    evc (T47) (rawOf RW0) (W47_0 N) (retc k47.res Sh.bool) (modeOf FT) 0 fuelC (bodyOf (loopN k47 0)) (P47_0.st v) (roundK 0 H47_0 P47_0 Q47_0 (u47_0 N n) κ) = u47_0 N (n + 1) v κ := by kernel_rfl
theorem o47_0 (hT : TabOK FT XT (T47)) (hO : RawOK FT XT (rawOf (α := (Sh.bool).T) RW0)) (N : Nat) {s : St} {κ : Ex → St → Option (Sh.bool).T} {a : (Sh.bool).T} (h : lpOf 0 H47_0 P47_0 Q47_0 (u47_0 N N) s κ = some a) : Out FT XT 0 (retc k47.res Sh.bool) (loopN k47 0) s κ a := by
  rw [l47_0]
  exact loop_out (LP := W47_0 N) (fu := fuelC) hT hO (fun _ _ => rfl) (b47_0 N) loopOK_nil N h
def W47 (N : Nat) : LoopF (Sh.bool).T := fun no =>
  match no with
  | 0 => lpOf 0 H47_0 P47_0 Q47_0 (u47_0 N N)
  | _ => fun _ _ => none
theorem e47 (N : Nat) (a0 : List Int) (a1 : List Int) : evc (T47) (rawOf RW0) (W47 N) (retc k47.res Sh.bool) (modeOf FT) 0 fuelC k47.body (env0 k47 (encL [(Sh.sl (Sh.int .u8)), (Sh.sl (Sh.int .u8))] (a0, (a1, ()))), []) (endK (retc k47.res Sh.bool)) = p47 N a0 a1 := by kernel_rfl
theorem ok47 {f : D47} (hf : ∀ a0 a1 r, f a0 a1 = some r → ∃ N, p47 N a0 a1 = some r) : O47 f := by
  have hT : TabOK FT XT (T47) := tb0
  have hO0 : RawOK FT XT (rawOf (α := (Sh.bool).T) RW0) := rawOK0
  have hO : RawOK FT XT (rawOf (α := (Sh.bool).T) RW0) := hO0
  refine ⟨rfl, fun v r h => ?_⟩
  obtain ⟨a0, a1, _⟩ := v
  obtain ⟨N, h1⟩ := hf _ _ _ h
  exact ans_c (R := Sh.bool) (tab := T47) (raw := (rawOf RW0)) (LP := W47 N) (fu := fuelC) hT hO rfl rfl (Nat.le_of_ble_eq_true rfl) (loopOK_cons l47_0 (fun s κ a h => o47_0 hT hO N h) loopOK_nil) ((e47 N _ _).trans h1)

def T50 : Nat → Option Ent := tb []
def H50_0 : Trim := ⟨0, [], false, [0, 5, 6], []⟩
theorem l50_0 : loopN k50 0 = .loop H50_0 (bodyOf (loopN k50 0)) := by kernel_rfl
def P50_0 : Ps := ⟨[(0, (.int .u64)), (1, .u), (4, .u), (5, (.slc 0 1)), (6, (.int .i64)), (12, .u)], [(.ints false .u8)]⟩
def Q50_0 : Nat → Ps
  | 0 => ⟨[(0, .u), (1, .u), (4, .u), (5, (.slc 0 1)), (6, .u), (12, .u)], [(.ints false .u8)]⟩
  | _ => noPs
def u50_0 (N n : Nat) (v : P50_0.T) (κ : (i : Nat) → (Q50_0 i).T → Option (List Int)) : Option (List Int) :=
  L50_0 N (fun (y0 : Nat) (y1 : Nat) (y2 : List Int) => κ 0 (((), ((), ((), ((y0, y1), ((), ((), ())))))), (y2, ()))) n v.1.1 v.1.2.2.2.1.1 v.1.2.2.2.1.2 v.1.2.2.2.2.1 v.2.1
def W50_0 (N : Nat) : LoopF (List Int) := fun no =>
  match no with
  | _ => fun _ _ => none
theorem b50_0 (N n : Nat) (v : P50_0.T) (κ : (i : Nat) → (Q50_0 i).T → Option (List Int)) :
    evc (T50) (rawOf RW0) (W50_0 N) (reto k50.res .u8) (modeOf FT) 0 fuelC (bodyOf (loopN k50 0)) (P50_0.st v) (roundK 0 H50_0 P50_0 Q50_0 (u50_0 N n) κ) = u50_0 N (n + 1) v κ := by kernel_rfl
theorem o50_0 (hT : TabOK FT XT (T50)) (hO : RawOK FT XT (rawOf (α := List Int) RW0)) (N : Nat) {s : St} {κ : Ex → St → Option (List Int)} {a : List Int} (h : lpOf 0 H50_0 P50_0 Q50_0 (u50_0 N N) s κ = some a) : Out FT XT 0 (reto k50.res .u8) (loopN k50 0) s κ a := by
  rw [l50_0]
  exact loop_out (LP := W50_0 N) (fu := fuelC) hT hO (fun _ _ => rfl) (b50_0 N) loopOK_nil N h
def W50 (N : Nat) : LoopF (List Int) := fun no =>
  match no with
  | 0 => lpOf 0 H50_0 P50_0 Q50_0 (u50_0 N N)
  | _ => fun _ _ => none
theorem e50 (N : Nat) (a0 : Int) (a1 : Int) : evc (T50) (rawOf RW0) (W50 N) (reto k50.res .u8) (modeOf FT) 0 fuelC k50.body (env0 k50 (encL [(Sh.int .u64), (Sh.int .i64)] (a0, (a1, ()))), []) (endK (reto k50.res .u8)) = p50 N a0 a1 := by kernel_rfl
theorem ok50 {f : D50} (hf : ∀ a0 a1 r, f a0 a1 = some r → ∃ N, p50 N a0 a1 = some r) : O50 f := by
  have hT : TabOK FT XT (T50) := tb0
  have hO0 : RawOK FT XT (rawOf (α := List Int) RW0) := rawOK0
  have hO : RawOK FT XT (rawOf (α := List Int) RW0) := hO0
  refine ⟨rfl, fun v r h => ?_⟩
  obtain ⟨a0, a1, _⟩ := v
  obtain ⟨N, h1⟩ := hf _ _ _ h
  exact ans_o (tab := T50) (raw := (rawOf RW0)) (LP := W50 N) (fu := fuelC) hT hO rfl rfl (Nat.le_of_ble_eq_true rfl) (loopOK_cons l50_0 (fun s κ a h => o50_0 hT hO N h) loopOK_nil) ((e50 N _ _).trans h1)

theorem ok100 {f : D100} (hf : ∀ a0 a1 a2 r, f a0 a1 a2 = some r → ∃ N, p100 N a0 a1 a2 = some r) : O100 f :=
 okc (fu := fuelC) tb0 rfl rfl rfl (fun _ => rfl) (fun v r h => by
 obtain ⟨N, h⟩ := hf v.1 v.2.1 v.2.2.1 r h
 refine Eq.trans ?_ h; kernel_rfl) rfl

theorem ok120 {f : D120} (hf : ∀ a0 a1 r, f a0 a1 = some r → ∃ N, p120 N a0 a1 = some r) : O120 f :=
 okc (fu := fuelC) tb0 rfl rfl rfl (fun _ => rfl) (fun v r h => by
 obtain ⟨N, h⟩ := hf v.1 v.2.1 r h
 refine Eq.trans ?_ h; kernel_rfl) rfl

theorem ok116 (c120 : D120) (h120 : O120 c120) {f : D116} (hf : ∀ a0 a1 a2 r, f a0 a1 a2 = some r → ∃ N, p116 c120 N a0 a1 a2 = some r) : O116 f :=
 okc (fu := fuelC) (tb1 h120 tb0) rfl rfl rfl (fun _ => rfl) (fun v r h => by
 obtain ⟨N, h⟩ := hf v.1 v.2.1 v.2.2.1 r h
 refine Eq.trans ?_ h; kernel_rfl) rfl

def T115v0 (c116 : D116) : Nat → Option Ent := tb [(116, en116 c116)]
def W115v0 (c116 : D116) (N : Nat) : LoopF QR115v0.T := fun no =>
  match no with
  | _ => fun _ _ => none
theorem e115v0 (c116 : D116) (N : Nat) (v : PR115v0.T) : evc (T115v0 c116) (rawOf RW0) (W115v0 c116 N) (retr k115.res 2 QR115v0) (modeOf FT) 2 fuelC k115.body (env0 k115 (PR115v0.a.st v.1), stH PR115v0.h v.2) (endK (retr k115.res 2 QR115v0)) = p115v0 c116 N v.1.1 v.2.1 v.2.2.1 := by kernel_rfl
theorem ok115v0 (c116 : D116) (h116 : O116 c116) {f : D115v0} (hf : ∀ a0 a1 a2 r, f a0 a1 a2 = some r → ∃ N, p115v0 c116 N a0 a1 a2 = some r) : O115v0 f := by
  have hT : TabOK FT XT (T115v0 c116) := (tb1 h116 tb0)
  have hO0 : RawOK FT XT (rawOf (α := QR115v0.T) RW0) := rawOK0
  have hO : RawOK FT XT (rawOf (α := QR115v0.T) RW0) := hO0
  intro v r w h hw
  obtain ⟨N, h1⟩ := hf _ _ _ _ h
  exact ans_r (Q := QR115v0) (tab := T115v0 c116) (raw := (rawOf RW0)) (LP := W115v0 c116 N) (fu := fuelC) hT hO rfl rfl (Nat.le_of_ble_eq_true rfl) rfl loopOK_nil ((e115v0 c116 N v).trans h1) hw

def T114v0 (d115v0 : D115v0) : Nat → Option Ent := tb []
def RW114v0 (d115v0 : D115v0) : Nat → List REnt
  | 115 => [rn115v0 d115v0]
  | _ => []
def H114v0_0 : Trim := ⟨0, [], false, [1, 5, 6], []⟩
theorem l114v0_0 : loopN k114 0 = .loop H114v0_0 (bodyOf (loopN k114 0)) := by kernel_rfl
def P114v0_0 : Ps := ⟨[(0, .u), (1, (.fn 115 (.cons (.ptr 0 0) (.cons (.ptr 1 0) .nil)))), (4, .u), (5, (.int .i64)), (6, (.int .i64)), (7, .u), (11, .u), (21, .u)], [(.ints false .i64), (.ints false .i64)]⟩
def Q114v0_0 : Nat → Ps
  | 0 => ⟨[(0, .u), (1, .u), (4, .u), (5, (.int .i64)), (6, .u), (7, .u), (11, .u), (21, .u)], [(.ints false .i64), (.ints false .i64)]⟩
  | _ => noPs
def u114v0_0 (d115v0 : D115v0) (N n : Nat) (v : P114v0_0.T) (κ : (i : Nat) → (Q114v0_0 i).T → Option QR114v0.T) : Option QR114v0.T :=
  L114v0_0 d115v0 N (fun (y0 : Int) (y1 : List Int) (y2 : List Int) => κ 0 (((), ((), ((), (y0, ((), ((), ((), ((), ())))))))), (y1, (y2, ())))) n v.1.2.2.2.1 v.1.2.2.2.2.1 v.2.1 v.2.2.1
def W114v0_0 (d115v0 : D115v0) (N : Nat) : LoopF QR114v0.T := fun no =>
  match no with
  | _ => fun _ _ => none
theorem b114v0_0 (d115v0 : D115v0) (N n : Nat) (v : P114v0_0.T) (κ : (i : Nat) → (Q114v0_0 i).T → Option QR114v0.T) :
    evc (T114v0 d115v0) (rawOf (RW114v0 d115v0)) (W114v0_0 d115v0 N) (retr k114.res 2 QR114v0) (modeOf FT) 2 fuelC (bodyOf (loopN k114 0)) (P114v0_0.st v) (roundK 2 H114v0_0 P114v0_0 Q114v0_0 (u114v0_0 d115v0 N n) κ) = u114v0_0 d115v0 N (n + 1) v κ := by kernel_rfl
theorem o114v0_0 (d115v0 : D115v0) (hT : TabOK FT XT (T114v0 d115v0)) (hO : RawOK FT XT (rawOf (α := QR114v0.T) (RW114v0 d115v0))) (N : Nat) {s : St} {κ : Ex → St → Option QR114v0.T} {a : QR114v0.T} (h : lpOf 2 H114v0_0 P114v0_0 Q114v0_0 (u114v0_0 d115v0 N N) s κ = some a) : Out FT XT 2 (retr k114.res 2 QR114v0) (loopN k114 0) s κ a := by
  rw [l114v0_0]
  exact loop_out (LP := W114v0_0 d115v0 N) (fu := fuelC) hT hO (fun _ _ => rfl) (b114v0_0 d115v0 N) loopOK_nil N h
def W114v0 (d115v0 : D115v0) (N : Nat) : LoopF QR114v0.T := fun no =>
  match no with
  | 0 => lpOf 2 H114v0_0 P114v0_0 Q114v0_0 (u114v0_0 d115v0 N N)
  | _ => fun _ _ => none
theorem e114v0 (d115v0 : D115v0) (N : Nat) (v : PR114v0.T) : evc (T114v0 d115v0) (rawOf (RW114v0 d115v0)) (W114v0 d115v0 N) (retr k114.res 2 QR114v0) (modeOf FT) 2 fuelC k114.body (env0 k114 (PR114v0.a.st v.1), stH PR114v0.h v.2) (endK (retr k114.res 2 QR114v0)) = p114v0 d115v0 N v.1.1 v.2.1 v.2.2.1 := by kernel_rfl
theorem ok114v0 (d115v0 : D115v0) (h115v0 : O115v0 d115v0) {f : D114v0} (hf : ∀ a0 a1 a2 r, f a0 a1 a2 = some r → ∃ N, p114v0 d115v0 N a0 a1 a2 = some r) : O114v0 f := by
  have hT : TabOK FT XT (T114v0 d115v0) := tb0
  have hO0 : RawOK FT XT (rawOf (α := QR114v0.T) (RW114v0 d115v0)) := by
    refine rawOf_ok (fun g en hg => ?_)
    unfold RW114v0 at hg
    split at hg <;> simp only [List.mem_cons, List.not_mem_nil, or_false] at hg <;> first | (subst hg; assumption) | (rcases hg with rfl | rfl <;> assumption) | (rcases hg with rfl | rfl | rfl <;> assumption) | (rcases hg with rfl | rfl | rfl | rfl <;> assumption)
  have hO : RawOK FT XT (rawOf (α := QR114v0.T) (RW114v0 d115v0)) := hO0
  intro v r w h hw
  obtain ⟨N, h1⟩ := hf _ _ _ _ h
  exact ans_r (Q := QR114v0) (tab := T114v0 d115v0) (raw := (rawOf (RW114v0 d115v0))) (LP := W114v0 d115v0 N) (fu := fuelC) hT hO rfl rfl (Nat.le_of_ble_eq_true rfl) rfl (loopOK_cons l114v0_0 (fun s κ a h => o114v0_0 d115v0 hT hO N h) loopOK_nil) ((e114v0 d115v0 N v).trans h1) hw

def T101 (d114v0 : D114v0) : Nat → Option Ent := tb []
def RW101 (d114v0 : D114v0) : Nat → List REnt
  | 114 => [rn114v0 d114v0]
  | _ => []
def W101 (d114v0 : D114v0) (N : Nat) : LoopF (((Sh.int .u64)).T) := fun no =>
  match no with
  | _ => fun _ _ => none
theorem e101 (d114v0 : D114v0) (N : Nat) (a0 : Int) (a1 : Int) : evc (T101 d114v0) (rawOf (RW101 d114v0)) (W101 d114v0 N) (retc k101.res (Sh.int .u64)) (modeOf FT) 0 fuelC k101.body (env0 k101 (encL [(Sh.int .i64), (Sh.int .i64)] (a0, (a1, ()))), []) (endK (retc k101.res (Sh.int .u64))) = p101 d114v0 N a0 a1 := by kernel_rfl
theorem ok101 (d114v0 : D114v0) (h114v0 : O114v0 d114v0) {f : D101} (hf : ∀ a0 a1 r, f a0 a1 = some r → ∃ N, p101 d114v0 N a0 a1 = some r) : O101 f := by
  have hT : TabOK FT XT (T101 d114v0) := tb0
  have hO0 : RawOK FT XT (rawOf (α := ((Sh.int .u64)).T) (RW101 d114v0)) := by
    refine rawOf_ok (fun g en hg => ?_)
    unfold RW101 at hg
    split at hg <;> simp only [List.mem_cons, List.not_mem_nil, or_false] at hg <;> first | (subst hg; assumption) | (rcases hg with rfl | rfl <;> assumption) | (rcases hg with rfl | rfl | rfl <;> assumption) | (rcases hg with rfl | rfl | rfl | rfl <;> assumption)
  have hO : RawOK FT XT (rawOf (α := ((Sh.int .u64)).T) (RW101 d114v0)) := hO0
  refine ⟨rfl, fun v r h => ?_⟩
  obtain ⟨a0, a1, _⟩ := v
  obtain ⟨N, h1⟩ := hf _ _ _ h
  exact ans_c (R := (Sh.int .u64)) (tab := T101 d114v0) (raw := (rawOf (RW101 d114v0))) (LP := W101 d114v0 N) (fu := fuelC) hT hO rfl rfl (Nat.le_of_ble_eq_true rfl) loopOK_nil ((e101 d114v0 N _ _).trans h1)

theorem ok75 (c100 : D100) (c101 : D101) (h100 : O100 c100) (h101 : O101 c101) {f : D75} (hf : ∀ a0 a1 a2 r, f a0 a1 a2 = some r → ∃ N, p75 c100 c101 N a0 a1 a2 = some r) : O75 f :=
 okc (fu := fuelC) (tb1 h100 (tb1 h101 tb0)) rfl rfl rfl (fun _ => rfl) (fun v r h => by
 obtain ⟨N, h⟩ := hf v.1 v.2.1 v.2.2.1 r h
 refine Eq.trans ?_ h; kernel_rfl) rfl

theorem ok78 (c75 : D75) (h75 : O75 c75) {f : D78} (hf : ∀ a0 a1 r, f a0 a1 = some r → ∃ N, p78 c75 N a0 a1 = some r) : O78 f :=
 okc (fu := fuelC) (tb1 h75 tb0) rfl rfl rfl (fun _ => rfl) (fun v r h => by
 obtain ⟨N, h⟩ := hf v.1 v.2.1 r h
 refine Eq.trans ?_ h; kernel_rfl) rfl

def T81 : Nat → Option Ent := tb []
def H81_1 : Trim := ⟨1, [], false, [0, 3, 4, 17, 18, 19], []⟩
theorem l81_1 : loopN k81 1 = .loop H81_1 (bodyOf (loopN k81 1)) := by kernel_rfl
def P81_1 : Ps := ⟨[(0, (.int .i64)), (2, .u), (3, (.sl 0 1)), (4, (.int .i64)), (6, .u), (14, .u), (17, (.sl 0 1)), (18, (.int .i64)), (19, (.int .i64)), (20, .u), (26, .u)], [(.ints false .i64)]⟩
def Q81_1 : Nat → Ps
  | 1 => ⟨[(0, (.int .i64)), (2, .u), (3, (.sl 0 1)), (4, (.int .i64)), (6, .u), (14, .u), (17, .u), (18, .u), (19, .u), (20, .u), (26, .u)], [(.ints false .i64)]⟩
  | 2 => ⟨[(0, (.int .i64)), (2, .u), (3, (.sl 0 1)), (4, (.int .i64)), (6, .u), (14, .u), (17, .u), (18, .u), (19, .u), (20, .u), (26, .u)], [(.ints false .i64)]⟩
  | _ => noPs
def u81_1 (N n : Nat) (v : P81_1.T) (κ : (i : Nat) → (Q81_1 i).T → Option (((Sh.sl (Sh.int .i64))).T)) : Option (((Sh.sl (Sh.int .i64))).T) :=
  L81_1 N (fun (y0 : Int) (y1 : Nat) (y2 : Int) (y3 : List Int) => κ 1 ((y0, ((), (y1, (y2, ((), ((), ((), ((), ((), ((), ((), ()))))))))))), (y3, ()))) (fun (y0 : Int) (y1 : Nat) (y2 : Int) (y3 : List Int) => κ 2 ((y0, ((), (y1, (y2, ((), ((), ((), ((), ((), ((), ((), ()))))))))))), (y3, ()))) n v.1.1 v.1.2.2.1 v.1.2.2.2.1 v.1.2.2.2.2.2.2.1 v.1.2.2.2.2.2.2.2.1 v.1.2.2.2.2.2.2.2.2.1 v.2.1
def W81_1 (N : Nat) : LoopF (((Sh.sl (Sh.int .i64))).T) := fun no =>
  match no with
  | _ => fun _ _ => none
theorem b81_1 (N n : Nat) (v : P81_1.T) (κ : (i : Nat) → (Q81_1 i).T → Option (((Sh.sl (Sh.int .i64))).T)) :
    evc (T81) (rawOf RW0) (W81_1 N) (retc k81.res (Sh.sl (Sh.int .i64))) (modeOf FT) 0 fuelC (bodyOf (loopN k81 1)) (P81_1.st v) (roundK 0 H81_1 P81_1 Q81_1 (u81_1 N n) κ) = u81_1 N (n + 1) v κ := by kernel_rfl
theorem o81_1 (hT : TabOK FT XT (T81)) (hO : RawOK FT XT (rawOf (α := ((Sh.sl (Sh.int .i64))).T) RW0)) (N : Nat) {s : St} {κ : Ex → St → Option (((Sh.sl (Sh.int .i64))).T)} {a : ((Sh.sl (Sh.int .i64))).T} (h : lpOf 0 H81_1 P81_1 Q81_1 (u81_1 N N) s κ = some a) : Out FT XT 0 (retc k81.res (Sh.sl (Sh.int .i64))) (loopN k81 1) s κ a := by
  rw [l81_1]
  exact loop_out (LP := W81_1 N) (fu := fuelC) hT hO (fun _ _ => rfl) (b81_1 N) loopOK_nil N h
def H81_0 : Trim := ⟨0, [], false, [0, 3, 4], [(3, (.ints .i64 []), 1)]⟩
theorem l81_0 : loopN k81 0 = .loop H81_0 (bodyOf (loopN k81 0)) := by kernel_rfl
def P81_0 : Ps := ⟨[(0, (.int .i64)), (2, .u), (3, (.sl 0 1)), (4, (.int .i64)), (6, .u), (14, .u), (17, .u), (18, .u), (19, .u), (20, .u), (26, .u)], [(.ints false .i64)]⟩
def Q81_0 : Nat → Ps
  | 0 => ⟨[(0, .u), (2, .u), (3, (.sl 0 1)), (4, .u), (6, .u), (14, .u), (17, .u), (18, .u), (19, .u), (20, .u), (26, .u)], [(.ints false .i64)]⟩
  | _ => noPs
def u81_0 (N n : Nat) (v : P81_0.T) (κ : (i : Nat) → (Q81_0 i).T → Option (((Sh.sl (Sh.int .i64))).T)) : Option (((Sh.sl (Sh.int .i64))).T) :=
  L81_0 N (fun (y0 : Nat) (y1 : List Int) => κ 0 (((), ((), (y0, ((), ((), ((), ((), ((), ((), ((), ((), ()))))))))))), (y1, ()))) n v.1.1 v.1.2.2.1 v.1.2.2.2.1 v.2.1
def W81_0 (N : Nat) : LoopF (((Sh.sl (Sh.int .i64))).T) := fun no =>
  match no with
  | 1 => lpOf 0 H81_1 P81_1 Q81_1 (u81_1 N N)
  | _ => fun _ _ => none
theorem b81_0 (N n : Nat) (v : P81_0.T) (κ : (i : Nat) → (Q81_0 i).T → Option (((Sh.sl (Sh.int .i64))).T)) :
    evc (T81) (rawOf RW0) (W81_0 N) (retc k81.res (Sh.sl (Sh.int .i64))) (modeOf FT) 0 fuelC (bodyOf (loopN k81 0)) (P81_0.st v) (roundK 0 H81_0 P81_0 Q81_0 (u81_0 N n) κ) = u81_0 N (n + 1) v κ := by kernel_rfl
theorem o81_0 (hT : TabOK FT XT (T81)) (hO : RawOK FT XT (rawOf (α := ((Sh.sl (Sh.int .i64))).T) RW0)) (N : Nat) {s : St} {κ : Ex → St → Option (((Sh.sl (Sh.int .i64))).T)} {a : ((Sh.sl (Sh.int .i64))).T} (h : lpOf 0 H81_0 P81_0 Q81_0 (u81_0 N N) s κ = some a) : Out FT XT 0 (retc k81.res (Sh.sl (Sh.int .i64))) (loopN k81 0) s κ a := by
  rw [l81_0]
  exact loop_out (LP := W81_0 N) (fu := fuelC) hT hO (fun _ _ => rfl) (b81_0 N) (loopOK_cons l81_1 (fun s κ a h => o81_1 hT hO N h) loopOK_nil) N h
def W81 (N : Nat) : LoopF (((Sh.sl (Sh.int .i64))).T) := fun no =>
  match no with
  | 0 => lpOf 0 H81_0 P81_0 Q81_0 (u81_0 N N)
  | _ => fun _ _ => none
theorem e81 (N : Nat) (a0 : Int) : evc (T81) (rawOf RW0) (W81 N) (retc k81.res (Sh.sl (Sh.int .i64))) (modeOf FT) 0 fuelC k81.body (env0 k81 (encL [(Sh.int .i64)] (a0, ())), []) (endK (retc k81.res (Sh.sl (Sh.int .i64)))) = p81 N a0 := by kernel_rfl
theorem ok81 {f : D81} (hf : ∀ a0 r, f a0 = some r → ∃ N, p81 N a0 = some r) : O81 f := by
  have hT : TabOK FT XT (T81) := tb0
  have hO0 : RawOK FT XT (rawOf (α := ((Sh.sl (Sh.int .i64))).T) RW0) := rawOK0
  have hO : RawOK FT XT (rawOf (α := ((Sh.sl (Sh.int .i64))).T) RW0) := hO0
  refine ⟨rfl, fun v r h => ?_⟩
  obtain ⟨a0, _⟩ := v
  obtain ⟨N, h1⟩ := hf _ _ h
  exact ans_c (R := (Sh.sl (Sh.int .i64))) (tab := T81) (raw := (rawOf RW0)) (LP := W81 N) (fu := fuelC) hT hO rfl rfl (Nat.le_of_ble_eq_true rfl) (loopOK_cons l81_0 (fun s κ a h => o81_0 hT hO N h) loopOK_nil) ((e81 N _).trans h1)

def T83 (c81 : D81) (c78 : D78) : Nat → Option Ent := tb [(81, en81 c81), (78, en78 c78)]
def H83_0 : Trim := ⟨0, [], false, [1, 5, 9, 10, 11], [(5, (.ints .u32 []), 1)]⟩
theorem l83_0 : loopN k83 0 = .loop H83_0 (bodyOf (loopN k83 0)) := by kernel_rfl
def P83_0 : Ps := ⟨[(0, .u), (1, (.int .i64)), (4, .u), (5, (.sl 0 1)), (7, .u), (9, (.tb (Sh.int .i64))), (10, (.int .i64)), (11, (.int .i64)), (12, .u)], [(.ints false .u32)]⟩
def Q83_0 : Nat → Ps
  | 0 => ⟨[(0, .u), (1, .u), (4, .u), (5, (.sl 0 1)), (7, .u), (9, .u), (10, .u), (11, .u), (12, .u)], [(.ints false .u32)]⟩
  | _ => noPs
def u83_0 (c81 : D81) (c78 : D78) (N n : Nat) (v : P83_0.T) (κ : (i : Nat) → (Q83_0 i).T → Option (((Sh.sl (Sh.int .u32))).T)) : Option (((Sh.sl (Sh.int .u32))).T) :=
  L83_0 c81 c78 N (fun (y0 : Nat) (y1 : List Int) => κ 0 (((), ((), ((), (y0, ((), ((), ((), ((), ((), ()))))))))), (y1, ()))) n v.1.2.1 v.1.2.2.2.1 v.1.2.2.2.2.2.1 v.1.2.2.2.2.2.2.1 v.1.2.2.2.2.2.2.2.1 v.2.1
def W83_0 (c81 : D81) (c78 : D78) (N : Nat) : LoopF (((Sh.sl (Sh.int .u32))).T) := fun no =>
  match no with
  | _ => fun _ _ => none
theorem b83_0 (c81 : D81) (c78 : D78) (N n : Nat) (v : P83_0.T) (κ : (i : Nat) → (Q83_0 i).T → Option (((Sh.sl (Sh.int .u32))).T)) :
    evc (T83 c81 c78) (rawOf RW0) (W83_0 c81 c78 N) (retc k83.res (Sh.sl (Sh.int .u32))) (modeOf FT) 0 fuelC (bodyOf (loopN k83 0)) (P83_0.st v) (roundK 0 H83_0 P83_0 Q83_0 (u83_0 c81 c78 N n) κ) = u83_0 c81 c78 N (n + 1) v κ := by kernel_rfl
theorem o83_0 (c81 : D81) (c78 : D78) (hT : TabOK FT XT (T83 c81 c78)) (hO : RawOK FT XT (rawOf (α := ((Sh.sl (Sh.int .u32))).T) RW0)) (N : Nat) {s : St} {κ : Ex → St → Option (((Sh.sl (Sh.int .u32))).T)} {a : ((Sh.sl (Sh.int .u32))).T} (h : lpOf 0 H83_0 P83_0 Q83_0 (u83_0 c81 c78 N N) s κ = some a) : Out FT XT 0 (retc k83.res (Sh.sl (Sh.int .u32))) (loopN k83 0) s κ a := by
  rw [l83_0]
  exact loop_out (LP := W83_0 c81 c78 N) (fu := fuelC) hT hO (fun _ _ => rfl) (b83_0 c81 c78 N) loopOK_nil N h
def W83 (c81 : D81) (c78 : D78) (N : Nat) : LoopF (((Sh.sl (Sh.int .u32))).T) := fun no =>
  match no with
  | 0 => lpOf 0 H83_0 P83_0 Q83_0 (u83_0 c81 c78 N N)
  | _ => fun _ _ => none
theorem e83 (c81 : D81) (c78 : D78) (N : Nat) (a0 : Int) (a1 : Int) : evc (T83 c81 c78) (rawOf RW0) (W83 c81 c78 N) (retc k83.res (Sh.sl (Sh.int .u32))) (modeOf FT) 0 fuelC k83.body (env0 k83 (encL [(Sh.int .i64), (Sh.int .i64)] (a0, (a1, ()))), []) (endK (retc k83.res (Sh.sl (Sh.int .u32)))) = p83 c81 c78 N a0 a1 := by kernel_rfl
theorem ok83 (c81 : D81) (c78 : D78) (h81 : O81 c81) (h78 : O78 c78) {f : D83} (hf : ∀ a0 a1 r, f a0 a1 = some r → ∃ N, p83 c81 c78 N a0 a1 = some r) : O83 f := by
  have hT : TabOK FT XT (T83 c81 c78) := (tb1 h81 (tb1 h78 tb0))
  have hO0 : RawOK FT XT (rawOf (α := ((Sh.sl (Sh.int .u32))).T) RW0) := rawOK0
  have hO : RawOK FT XT (rawOf (α := ((Sh.sl (Sh.int .u32))).T) RW0) := hO0
  refine ⟨rfl, fun v r h => ?_⟩
  obtain ⟨a0, a1, _⟩ := v
  obtain ⟨N, h1⟩ := hf _ _ _ h
  exact ans_c (R := (Sh.sl (Sh.int .u32))) (tab := T83 c81 c78) (raw := (rawOf RW0)) (LP := W83 c81 c78 N) (fu := fuelC) hT hO rfl rfl (Nat.le_of_ble_eq_true rfl) (loopOK_cons l83_0 (fun s κ a h => o83_0 c81 c78 hT hO N h) loopOK_nil) ((e83 c81 c78 N _ _).trans h1)

theorem ok161 {f : D161} (hf : ∀ a0 r, f a0 = some r → ∃ N, p161 N a0 = some r) : O161 f :=
 okc (fu := fuelC) tb0 rfl rfl rfl (fun _ => rfl) (fun v r h => by
 obtain ⟨N, h⟩ := hf v.1 r h
 refine Eq.trans ?_ h; kernel_rfl) rfl

theorem ok139 (c161 : D161) (c19 : D19) (c46 : D46) (h161 : O161 c161) (h19 : O19 c19) (h46 : O46 c46) {f : D139} (hf : ∀ a0 r, f a0 = some r → ∃ N, p139 c161 c19 c46 N a0 = some r) : O139 f :=
 okc (fu := fuelC) (tb1 h161 (tb1 h19 (tb1 h46 tb0))) rfl rfl rfl (fun _ => rfl) (fun v r h => by
 obtain ⟨N, h⟩ := hf v.1 r h
 refine Eq.trans ?_ h; kernel_rfl) rfl

theorem ok162 {f : D162} (hf : ∀ a0 r, f a0 = some r → ∃ N, p162 N a0 = some r) : O162 f :=
 okc (fu := fuelC) tb0 rfl rfl rfl (fun _ => rfl) (fun v r h => by
 obtain ⟨N, h⟩ := hf v.1 r h
 refine Eq.trans ?_ h; kernel_rfl) rfl

theorem ok141 (c162 : D162) (c50 : D50) (h162 : O162 c162) (h50 : O50 c50) {f : D141} (hf : ∀ a0 r, f a0 = some r → ∃ N, p141 c162 c50 N a0 = some r) : O141 f :=
 okc (fu := fuelC) (tb1 h162 (tb1 h50 tb0)) rfl rfl rfl (fun _ => rfl) (fun v r h => by
 obtain ⟨N, h⟩ := hf v.1 r h
 refine Eq.trans ?_ h; kernel_rfl) rfl

theorem ok160 {f : D160} (hf : ∀ a0 a1 r, f a0 a1 = some r → ∃ N, p160 N a0 a1 = some r) : O160 f :=
 okc (fu := fuelC) tb0 rfl rfl rfl (fun _ => rfl) (fun v r h => by
 obtain ⟨N, h⟩ := hf v.1 v.2.1 r h
 refine Eq.trans ?_ h; kernel_rfl) rfl

theorem ok144 (c160 : D160) (h160 : O160 c160) {f : D144} (hf : ∀ a0 a1 r, f a0 a1 = some r → ∃ N, p144 c160 N a0 a1 = some r) : O144 f :=
 okc (fu := fuelC) (tb1 h160 tb0) rfl rfl rfl (fun _ => rfl) (fun v r h => by
 obtain ⟨N, h⟩ := hf v.1 v.2.1 r h
 refine Eq.trans ?_ h; kernel_rfl) rfl

theorem ok163 {f : D163} (hf : ∀ a0 r, f a0 = some r → ∃ N, p163 N a0 = some r) : O163 f :=
 okc (fu := fuelC) tb0 rfl rfl rfl (fun _ => rfl) (fun v r h => by
 obtain ⟨N, h⟩ := hf v.1 r h
 refine Eq.trans ?_ h; kernel_rfl) rfl

theorem ok164 (c160 : D160) (h160 : O160 c160) {f : D164} (hf : ∀ a0 a1 r, f a0 a1 = some r → ∃ N, p164 c160 N a0 a1 = some r) : O164 f :=
 okc (fu := fuelC) (tb1 h160 tb0) rfl rfl rfl (fun _ => rfl) (fun v r h => by
 obtain ⟨N, h⟩ := hf v.1 v.2.1 r h
 refine Eq.trans ?_ h; kernel_rfl) rfl

theorem ok145 (c163 : D163) (c161 : D161) (c164 : D164) (h163 : O163 c163) (h161 : O161 c161) (h164 : O164 c164) {f : D145} (hf : ∀ a0 r, f a0 = some r → ∃ N, p145 c163 c161 c164 N a0 = some r) : O145 f :=
 okc (fu := fuelC) (tb1 h163 (tb1 h161 (tb1 h164 tb0))) rfl rfl rfl (fun _ => rfl) (fun v r h => by
 obtain ⟨N, h⟩ := hf v.1 r h
 refine Eq.trans ?_ h; kernel_rfl) rfl

theorem ok166 {f : D166} (hf : ∀ a0 r, f a0 = some r → ∃ N, p166 N a0 = some r) : O166 f :=
 okc (fu := fuelC) tb0 rfl rfl rfl (fun _ => rfl) (fun v r h => by
 obtain ⟨N, h⟩ := hf v.1 r h
 refine Eq.trans ?_ h; kernel_rfl) rfl

theorem ok148 (c166 : D166) (c46 : D46) (h166 : O166 c166) (h46 : O46 c46) {f : D148} (hf : ∀ a0 r, f a0 = some r → ∃ N, p148 c166 c46 N a0 = some r) : O148 f :=
 okc (fu := fuelC) (tb1 h166 (tb1 h46 tb0)) rfl rfl rfl (fun _ => rfl) (fun v r h => by
 obtain ⟨N, h⟩ := hf v.1 r h
 refine Eq.trans ?_ h; kernel_rfl) rfl

theorem ok149 (c166 : D166) (c46 : D46) (h166 : O166 c166) (h46 : O46 c46) {f : D149} (hf : ∀ a0 r, f a0 = some r → ∃ N, p149 c166 c46 N a0 = some r) : O149 f :=
 okc (fu := fuelC) (tb1 h166 (tb1 h46 tb0)) rfl rfl rfl (fun _ => rfl) (fun v r h => by
 obtain ⟨N, h⟩ := hf v.1 r h
 refine Eq.trans ?_ h; kernel_rfl) rfl

theorem ok151 {f : D151} (hf : ∀ a0 a1 a2 a3 r, f a0 a1 a2 a3 = some r → ∃ N, p151 N a0 a1 a2 a3 = some r) : O151 f :=
 okc (fu := fuelC) tb0 rfl rfl rfl (fun _ => rfl) (fun v r h => by
 obtain ⟨N, h⟩ := hf v.1 v.2.1 v.2.2.1 v.2.2.2.1 r h
 refine Eq.trans ?_ h; kernel_rfl) rfl

theorem ok152 {f : D152} (hf : ∀ a0 a1 r, f a0 a1 = some r → ∃ N, p152 N a0 a1 = some r) : O152 f :=
 okc (fu := fuelC) tb0 rfl rfl rfl (fun _ => rfl) (fun v r h => by
 obtain ⟨N, h⟩ := hf v.1 v.2.1 r h
 refine Eq.trans ?_ h; kernel_rfl) rfl

theorem ok167 (c145 : D145) (h145 : O145 c145) {f : D167} (hf : ∀ a0 a1 r, f a0 a1 = some r → ∃ N, p167 c145 N a0 a1 = some r) : O167 f :=
 okc (fu := fuelC) (tb1 h145 tb0) rfl rfl rfl (fun _ => rfl) (fun v r h => by
 obtain ⟨N, h⟩ := hf v.1 v.2.1 r h
 refine Eq.trans ?_ h; kernel_rfl) rfl

theorem ok154 (c167 : D167) (h167 : O167 c167) {f : D154} (hf : ∀ a0 r, f a0 = some r → ∃ N, p154 c167 N a0 = some r) : O154 f :=
 okc (fu := fuelC) (tb1 h167 tb0) rfl rfl rfl (fun _ => rfl) (fun v r h => by
 obtain ⟨N, h⟩ := hf v.1 r h
 refine Eq.trans ?_ h; kernel_rfl) rfl

theorem ok155 (c167 : D167) (h167 : O167 c167) {f : D155} (hf : ∀ a0 r, f a0 = some r → ∃ N, p155 c167 N a0 = some r) : O155 f :=
 okc (fu := fuelC) (tb1 h167 tb0) rfl rfl rfl (fun _ => rfl) (fun v r h => by
 obtain ⟨N, h⟩ := hf v.1 r h
 refine Eq.trans ?_ h; kernel_rfl) rfl

def T177 : Nat → Option Ent := tb []
def H177_1 : Trim := ⟨1, [], false, [3, 4, 5], []⟩
theorem l177_1 : loopN k177 1 = .loop H177_1 (bodyOf (loopN k177 1)) := by kernel_rfl
def P177_1 : Ps := ⟨[(0, .u), (2, .u), (3, (.sl 0 1)), (4, (.int .u64)), (5, (.int .i64)), (13, .u), (20, .u)], [(.ints false .u8)]⟩
def Q177_1 : Nat → Ps
  | 2 => ⟨[(0, .u), (2, .u), (3, (.sl 0 1)), (4, .u), (5, .u), (13, .u), (20, .u)], [(.ints false .u8)]⟩
  | _ => noPs
def u177_1 (N n : Nat) (v : P177_1.T) (κ : (i : Nat) → (Q177_1 i).T → Option (((Sh.sl (Sh.int .u8))).T)) : Option (((Sh.sl (Sh.int .u8))).T) :=
  L177_1 N (fun (y0 : Nat) (y1 : List Int) => κ 2 (((), ((), (y0, ((), ((), ((), ((), ()))))))), (y1, ()))) n v.1.2.2.1 v.1.2.2.2.1 v.1.2.2.2.2.1 v.2.1
def W177_1 (N : Nat) : LoopF (((Sh.sl (Sh.int .u8))).T) := fun no =>
  match no with
  | _ => fun _ _ => none
theorem b177_1 (N n : Nat) (v : P177_1.T) (κ : (i : Nat) → (Q177_1 i).T → Option (((Sh.sl (Sh.int .u8))).T)) :
    evc (T177) (rawOf RW0) (W177_1 N) (retc k177.res (Sh.sl (Sh.int .u8))) (modeOf FT) 0 fuelC (bodyOf (loopN k177 1)) (P177_1.st v) (roundK 0 H177_1 P177_1 Q177_1 (u177_1 N n) κ) = u177_1 N (n + 1) v κ := by kernel_rfl
theorem o177_1 (hT : TabOK FT XT (T177)) (hO : RawOK FT XT (rawOf (α := ((Sh.sl (Sh.int .u8))).T) RW0)) (N : Nat) {s : St} {κ : Ex → St → Option (((Sh.sl (Sh.int .u8))).T)} {a : ((Sh.sl (Sh.int .u8))).T} (h : lpOf 0 H177_1 P177_1 Q177_1 (u177_1 N N) s κ = some a) : Out FT XT 0 (retc k177.res (Sh.sl (Sh.int .u8))) (loopN k177 1) s κ a := by
  rw [l177_1]
  exact loop_out (LP := W177_1 N) (fu := fuelC) hT hO (fun _ _ => rfl) (b177_1 N) loopOK_nil N h
def H177_0 : Trim := ⟨0, [], false, [0, 3], [(3, (.imm []), 1)]⟩
theorem l177_0 : loopN k177 0 = .loop H177_0 (bodyOf (loopN k177 0)) := by kernel_rfl
def P177_0 : Ps := ⟨[(0, (.int .u64)), (2, .u), (3, (.sl 0 1)), (4, .u), (5, .u), (13, .u), (20, .u)], [(.ints false .u8)]⟩
def Q177_0 : Nat → Ps
  | 0 => ⟨[(0, (.int .u64)), (2, .u), (3, (.sl 0 1)), (4, .u), (5, .u), (13, .u), (20, .u)], [(.ints false .u8)]⟩
  | _ => noPs
def u177_0 (N n : Nat) (v : P177_0.T) (κ : (i : Nat) → (Q177_0 i).T → Option (((Sh.sl (Sh.int .u8))).T)) : Option (((Sh.sl (Sh.int .u8))).T) :=
  L177_0 N (fun (y0 : Int) (y1 : Nat) (y2 : List Int) => κ 0 ((y0, ((), (y1, ((), ((), ((), ((), ()))))))), (y2, ()))) n v.1.1 v.1.2.2.1 v.2.1
def W177_0 (N : Nat) : LoopF (((Sh.sl (Sh.int .u8))).T) := fun no =>
  match no with
  | _ => fun _ _ => none
theorem b177_0 (N n : Nat) (v : P177_0.T) (κ : (i : Nat) → (Q177_0 i).T → Option (((Sh.sl (Sh.int .u8))).T)) :
    evc (T177) (rawOf RW0) (W177_0 N) (retc k177.res (Sh.sl (Sh.int .u8))) (modeOf FT) 0 fuelC (bodyOf (loopN k177 0)) (P177_0.st v) (roundK 0 H177_0 P177_0 Q177_0 (u177_0 N n) κ) = u177_0 N (n + 1) v κ := by kernel_rfl
theorem o177_0 (hT : TabOK FT XT (T177)) (hO : RawOK FT XT (rawOf (α := ((Sh.sl (Sh.int .u8))).T) RW0)) (N : Nat) {s : St} {κ : Ex → St → Option (((Sh.sl (Sh.int .u8))).T)} {a : ((Sh.sl (Sh.int .u8))).T} (h : lpOf 0 H177_0 P177_0 Q177_0 (u177_0 N N) s κ = some a) : Out FT XT 0 (retc k177.res (Sh.sl (Sh.int .u8))) (loopN k177 0) s κ a := by
  rw [l177_0]
  exact loop_out (LP := W177_0 N) (fu := fuelC) hT hO (fun _ _ => rfl) (b177_0 N) loopOK_nil N h
def W177 (N : Nat) : LoopF (((Sh.sl (Sh.int .u8))).T) := fun no =>
  match no with
  | 0 => lpOf 0 H177_0 P177_0 Q177_0 (u177_0 N N)
  | 1 => lpOf 0 H177_1 P177_1 Q177_1 (u177_1 N N)
  | _ => fun _ _ => none
theorem e177 (N : Nat) (a0 : Int) : evc (T177) (rawOf RW0) (W177 N) (retc k177.res (Sh.sl (Sh.int .u8))) (modeOf FT) 0 fuelC k177.body (env0 k177 (encL [(Sh.int .u64)] (a0, ())), []) (endK (retc k177.res (Sh.sl (Sh.int .u8)))) = p177 N a0 := by kernel_rfl
theorem ok177 {f : D177} (hf : ∀ a0 r, f a0 = some r → ∃ N, p177 N a0 = some r) : O177 f := by
  have hT : TabOK FT XT (T177) := tb0
  have hO0 : RawOK FT XT (rawOf (α := ((Sh.sl (Sh.int .u8))).T) RW0) := rawOK0
  have hO : RawOK FT XT (rawOf (α := ((Sh.sl (Sh.int .u8))).T) RW0) := hO0
  refine ⟨rfl, fun v r h => ?_⟩
  obtain ⟨a0, _⟩ := v
  obtain ⟨N, h1⟩ := hf _ _ h
  exact ans_c (R := (Sh.sl (Sh.int .u8))) (tab := T177) (raw := (rawOf RW0)) (LP := W177 N) (fu := fuelC) hT hO rfl rfl (Nat.le_of_ble_eq_true rfl) (loopOK_cons l177_0 (fun s κ a h => o177_0 hT hO N h) (loopOK_cons l177_1 (fun s κ a h => o177_1 hT hO N h) loopOK_nil)) ((e177 N _).trans h1)

def T186 (c177 : D177) : Nat → Option Ent := tb [(177, en177 c177)]
def H186_0 : Trim := ⟨0, [], false, [3, 4, 5, 6], []⟩
theorem l186_0 : loopN k186 0 = .loop H186_0 (bodyOf (loopN k186 0)) := by kernel_rfl
def P186_0 : Ps := ⟨[(0, .u), (2, .u), (3, (.tb (Sh.int .u8))), (4, (.int .i64)), (5, (.sl 0 1)), (6, (.int .i64)), (17, .u)], [(.ints false .u8)]⟩
def Q186_0 : Nat → Ps
  | 0 => ⟨[(0, .u), (2, .u), (3, .u), (4, .u), (5, (.sl 0 1)), (6, .u), (17, .u)], [(.ints false .u8)]⟩
  | _ => noPs
def u186_0 (c177 : D177) (N n : Nat) (v : P186_0.T) (κ : (i : Nat) → (Q186_0 i).T → Option (((Sh.sl (Sh.int .u8))).T)) : Option (((Sh.sl (Sh.int .u8))).T) :=
  L186_0 c177 N (fun (y0 : Nat) (y1 : List Int) => κ 0 (((), ((), ((), ((), (y0, ((), ((), ()))))))), (y1, ()))) n v.1.2.2.1 v.1.2.2.2.1 v.1.2.2.2.2.1 v.1.2.2.2.2.2.1 v.2.1
def W186_0 (c177 : D177) (N : Nat) : LoopF (((Sh.sl (Sh.int .u8))).T) := fun no =>
  match no with
  | _ => fun _ _ => none
theorem b186_0 (c177 : D177) (N n : Nat) (v : P186_0.T) (κ : (i : Nat) → (Q186_0 i).T → Option (((Sh.sl (Sh.int .u8))).T)) :
    evc (T186 c177) (rawOf RW0) (W186_0 c177 N) (retc k186.res (Sh.sl (Sh.int .u8))) (modeOf FT) 0 fuelC (bodyOf (loopN k186 0)) (P186_0.st v) (roundK 0 H186_0 P186_0 Q186_0 (u186_0 c177 N n) κ) = u186_0 c177 N (n + 1) v κ := by kernel_rfl
theorem o186_0 (c177 : D177) (hT : TabOK FT XT (T186 c177)) (hO : RawOK FT XT (rawOf (α := ((Sh.sl (Sh.int .u8))).T) RW0)) (N : Nat) {s : St} {κ : Ex → St → Option (((Sh.sl (Sh.int .u8))).T)} {a : ((Sh.sl (Sh.int .u8))).T} (h : lpOf 0 H186_0 P186_0 Q186_0 (u186_0 c177 N N) s κ = some a) : Out FT XT 0 (retc k186.res (Sh.sl (Sh.int .u8))) (loopN k186 0) s κ a := by
  rw [l186_0]
  exact loop_out (LP := W186_0 c177 N) (fu := fuelC) hT hO (fun _ _ => rfl) (b186_0 c177 N) loopOK_nil N h
def W186 (c177 : D177) (N : Nat) : LoopF (((Sh.sl (Sh.int .u8))).T) := fun no =>
  match no with
  | 0 => lpOf 0 H186_0 P186_0 Q186_0 (u186_0 c177 N N)
  | _ => fun _ _ => none
theorem e186 (c177 : D177) (N : Nat) (a0 : Int) : evc (T186 c177) (rawOf RW0) (W186 c177 N) (retc k186.res (Sh.sl (Sh.int .u8))) (modeOf FT) 0 fuelC k186.body (env0 k186 (encL [(Sh.int .u64)] (a0, ())), []) (endK (retc k186.res (Sh.sl (Sh.int .u8)))) = p186 c177 N a0 := by kernel_rfl
theorem ok186 (c177 : D177) (h177 : O177 c177) {f : D186} (hf : ∀ a0 r, f a0 = some r → ∃ N, p186 c177 N a0 = some r) : O186 f := by
  have hT : TabOK FT XT (T186 c177) := (tb1 h177 tb0)
  have hO0 : RawOK FT XT (rawOf (α := ((Sh.sl (Sh.int .u8))).T) RW0) := rawOK0
  have hO : RawOK FT XT (rawOf (α := ((Sh.sl (Sh.int .u8))).T) RW0) := hO0
  refine ⟨rfl, fun v r h => ?_⟩
  obtain ⟨a0, _⟩ := v
  obtain ⟨N, h1⟩ := hf _ _ h
  exact ans_c (R := (Sh.sl (Sh.int .u8))) (tab := T186 c177) (raw := (rawOf RW0)) (LP := W186 c177 N) (fu := fuelC) hT hO rfl rfl (Nat.le_of_ble_eq_true rfl) (loopOK_cons l186_0 (fun s κ a h => o186_0 c177 hT hO N h) loopOK_nil) ((e186 c177 N _).trans h1)

theorem ok195 {f : D195} (hf : ∀ a0 a1 r, f a0 a1 = some r → ∃ N, p195 N a0 a1 = some r) : O195 f :=
 okc (fu := fuelC) tb0 rfl rfl rfl (fun _ => rfl) (fun v r h => by
 obtain ⟨N, h⟩ := hf v.1 v.2.1 r h
 refine Eq.trans ?_ h; kernel_rfl) rfl

theorem ok217 (c19 : D19) (h19 : O19 c19) {f : D217} (hf : ∀ a0 r, f a0 = some r → ∃ N, p217 c19 N a0 = some r) : O217 f :=
 okc (fu := fuelC) (tb1 h19 tb0) rfl rfl rfl (fun _ => rfl) (fun v r h => by
 obtain ⟨N, h⟩ := hf v.1 r h
 refine Eq.trans ?_ h; kernel_rfl) rfl

theorem ok219 (c83 : D83) (h83 : O83 c83) {f : D219} (hf : ∀  r, f  = some r → ∃ N, p219 c83 N  = some r) : O219 f :=
 okc (fu := fuelC) (tb1 h83 tb0) rfl rfl rfl (fun _ => rfl) (fun v r h => by
 obtain ⟨N, h⟩ := hf r h
 refine Eq.trans ?_ h; kernel_rfl) rfl

theorem ok238 (c195 : D195) (h195 : O195 c195) {f : D238} (hf : ∀ a0 a1 r, f a0 a1 = some r → ∃ N, p238 c195 N a0 a1 = some r) : O238 f :=
 okc (fu := fuelC) (tb1 h195 tb0) rfl rfl rfl (fun _ => rfl) (fun v r h => by
 obtain ⟨N, h⟩ := hf v.1 v.2.1 r h
 refine Eq.trans ?_ h; kernel_rfl) rfl

def T235 (c21 : D21) (c238 : D238) : Nat → Option Ent := tb [(21, en21 c21), (238, en238 c238)]
def H235_0 : Trim := ⟨0, [], false, [1, 2, 3, 7], []⟩
theorem l235_0 : loopN k235 0 = .loop H235_0 (bodyOf (loopN k235 0)) := by kernel_rfl
def P235_0 : Ps := ⟨[(0, .u), (1, (.ptr 0 0)), (2, (.ptr 1 0)), (3, (.ptr 2 0)), (4, .u), (5, .u), (7, (.int .i64)), (8, .u), (11, .u)], [(.ints false .u8), (.ints false .u32), (.ints false .u32)]⟩
def Q235_0 : Nat → Ps
  | 0 => ⟨[(0, .u), (1, .u), (2, (.ptr 0 0)), (3, (.ptr 1 0)), (4, .u), (5, .u), (7, .u), (8, .u), (11, .u)], [(.ints false .u32), (.ints false .u32)]⟩
  | _ => noPs
def u235_0 (c21 : D21) (c238 : D238) (N n : Nat) (v : P235_0.T) (κ : (i : Nat) → (Q235_0 i).T → Option (((Sh.ar .u32)).T)) : Option (((Sh.ar .u32)).T) :=
  L235_0 c21 c238 N (fun (y0 : List Int) (y1 : List Int) => κ 0 (((), ((), ((), ((), ((), ((), ((), ((), ((), ()))))))))), (y0, (y1, ())))) n v.1.2.2.2.2.2.2.1 v.2.1 v.2.2.1 v.2.2.2.1
def W235_0 (c21 : D21) (c238 : D238) (N : Nat) : LoopF (((Sh.ar .u32)).T) := fun no =>
  match no with
  | _ => fun _ _ => none
theorem b235_0 (c21 : D21) (c238 : D238) (N n : Nat) (v : P235_0.T) (κ : (i : Nat) → (Q235_0 i).T → Option (((Sh.ar .u32)).T)) :
    evc (T235 c21 c238) (rawOf RW0) (W235_0 c21 c238 N) (retc k235.res (Sh.ar .u32)) (modeOf FT) 0 fuelC (bodyOf (loopN k235 0)) (P235_0.st v) (roundK 0 H235_0 P235_0 Q235_0 (u235_0 c21 c238 N n) κ) = u235_0 c21 c238 N (n + 1) v κ := by kernel_rfl
theorem o235_0 (c21 : D21) (c238 : D238) (hT : TabOK FT XT (T235 c21 c238)) (hO : RawOK FT XT (rawOf (α := ((Sh.ar .u32)).T) RW0)) (N : Nat) {s : St} {κ : Ex → St → Option (((Sh.ar .u32)).T)} {a : ((Sh.ar .u32)).T} (h : lpOf 0 H235_0 P235_0 Q235_0 (u235_0 c21 c238 N N) s κ = some a) : Out FT XT 0 (retc k235.res (Sh.ar .u32)) (loopN k235 0) s κ a := by
  rw [l235_0]
  exact loop_out (LP := W235_0 c21 c238 N) (fu := fuelC) hT hO (fun _ _ => rfl) (b235_0 c21 c238 N) loopOK_nil N h
def W235 (c21 : D21) (c238 : D238) (N : Nat) : LoopF (((Sh.ar .u32)).T) := fun no =>
  match no with
  | 0 => lpOf 0 H235_0 P235_0 Q235_0 (u235_0 c21 c238 N N)
  | _ => fun _ _ => none
theorem e235 (c21 : D21) (c238 : D238) (N : Nat) (a0 : List Int) : evc (T235 c21 c238) (rawOf RW0) (W235 c21 c238 N) (retc k235.res (Sh.ar .u32)) (modeOf FT) 0 fuelC k235.body (env0 k235 (encL [(Sh.ar .u8)] (a0, ())), []) (endK (retc k235.res (Sh.ar .u32))) = p235 c21 c238 N a0 := by kernel_rfl
theorem ok235 (c21 : D21) (c238 : D238) (h21 : O21 c21) (h238 : O238 c238) {f : D235} (hf : ∀ a0 r, f a0 = some r → ∃ N, p235 c21 c238 N a0 = some r) : O235 f := by
  have hT : TabOK FT XT (T235 c21 c238) := (tb1 h21 (tb1 h238 tb0))
  have hO0 : RawOK FT XT (rawOf (α := ((Sh.ar .u32)).T) RW0) := rawOK0
  have hO : RawOK FT XT (rawOf (α := ((Sh.ar .u32)).T) RW0) := hO0
  refine ⟨rfl, fun v r h => ?_⟩
  obtain ⟨a0, _⟩ := v
  obtain ⟨N, h1⟩ := hf _ _ h
  exact ans_c (R := (Sh.ar .u32)) (tab := T235 c21 c238) (raw := (rawOf RW0)) (LP := W235 c21 c238 N) (fu := fuelC) hT hO rfl rfl (Nat.le_of_ble_eq_true rfl) (loopOK_cons l235_0 (fun s κ a h => o235_0 c21 c238 hT hO N h) loopOK_nil) ((e235 c21 c238 N _).trans h1)

theorem ok239 (c195 : D195) (h195 : O195 c195) {f : D239} (hf : ∀ a0 a1 r, f a0 a1 = some r → ∃ N, p239 c195 N a0 a1 = some r) : O239 f :=
 okc (fu := fuelC) (tb1 h195 tb0) rfl rfl rfl (fun _ => rfl) (fun v r h => by
 obtain ⟨N, h⟩ := hf v.1 v.2.1 r h
 refine Eq.trans ?_ h; kernel_rfl) rfl

theorem ok236 (c239 : D239) (h239 : O239 c239) {f : D236} (hf : ∀ a0 a1 r, f a0 a1 = some r → ∃ N, p236 c239 N a0 a1 = some r) : O236 f :=
 okc (fu := fuelC) (tb1 h239 tb0) rfl rfl rfl (fun _ => rfl) (fun v r h => by
 obtain ⟨N, h⟩ := hf v.1 v.2.1 r h
 refine Eq.trans ?_ h; kernel_rfl) rfl

def T229 (c235 : D235) (c236 : D236) : Nat → Option Ent := tb [(235, en235 c235), (236, en236 c236)]
def H229_1 : Trim := ⟨1, [], false, [3, 6, 7, 27], []⟩
theorem l229_1 : loopN k229 1 = .loop H229_1 (bodyOf (loopN k229 1)) := by kernel_rfl
def P229_1 : Ps := ⟨[(0, .u), (1, .u), (2, .u), (3, (.ptr 0 0)), (4, .u), (6, (.ptr 1 0)), (7, (.ptr 2 0)), (8, .u), (9, .u), (10, .u), (13, .u), (14, .u), (15, .u), (27, (.int .i64)), (28, .u)], [(.ints false .u32), (.ints false .u32), (.ints false .u32)]⟩
def Q229_1 : Nat → Ps
  | 2 => ⟨[(0, .u), (1, .u), (2, .u), (3, .u), (4, .u), (6, (.ptr 0 0)), (7, (.ptr 1 0)), (8, .u), (9, .u), (10, .u), (13, .u), (14, .u), (15, .u), (27, .u), (28, .u)], [(.ints false .u32), (.ints false .u32)]⟩
  | _ => noPs
def u229_1 (c235 : D235) (c236 : D236) (N n : Nat) (v : P229_1.T) (κ : (i : Nat) → (Q229_1 i).T → Option (((Sh.ar .u32)).T)) : Option (((Sh.ar .u32)).T) :=
  L229_1 c235 c236 N (fun (y0 : List Int) (y1 : List Int) => κ 2 (((), ((), ((), ((), ((), ((), ((), ((), ((), ((), ((), ((), ((), ((), ((), ()))))))))))))))), (y0, (y1, ())))) n v.1.2.2.2.2.2.2.2.2.2.2.2.2.2.1 v.2.1 v.2.2.1 v.2.2.2.1
def W229_1 (c235 : D235) (c236 : D236) (N : Nat) : LoopF (((Sh.ar .u32)).T) := fun no =>
  match no with
  | _ => fun _ _ => none
theorem b229_1 (c235 : D235) (c236 : D236) (N n : Nat) (v : P229_1.T) (κ : (i : Nat) → (Q229_1 i).T → Option (((Sh.ar .u32)).T)) :
    evc (T229 c235 c236) (rawOf RW0) (W229_1 c235 c236 N) (retc k229.res (Sh.ar .u32)) (modeOf FT) 0 fuelC (bodyOf (loopN k229 1)) (P229_1.st v) (roundK 0 H229_1 P229_1 Q229_1 (u229_1 c235 c236 N n) κ) = u229_1 c235 c236 N (n + 1) v κ := by kernel_rfl
theorem o229_1 (c235 : D235) (c236 : D236) (hT : TabOK FT XT (T229 c235 c236)) (hO : RawOK FT XT (rawOf (α := ((Sh.ar .u32)).T) RW0)) (N : Nat) {s : St} {κ : Ex → St → Option (((Sh.ar .u32)).T)} {a : ((Sh.ar .u32)).T} (h : lpOf 0 H229_1 P229_1 Q229_1 (u229_1 c235 c236 N N) s κ = some a) : Out FT XT 0 (retc k229.res (Sh.ar .u32)) (loopN k229 1) s κ a := by
  rw [l229_1]
  exact loop_out (LP := W229_1 c235 c236 N) (fu := fuelC) hT hO (fun _ _ => rfl) (b229_1 c235 c236 N) loopOK_nil N h
def H229_0 : Trim := ⟨0, [], false, [2, 3, 6, 7, 13, 14], []⟩
theorem l229_0 : loopN k229 0 = .loop H229_0 (bodyOf (loopN k229 0)) := by kernel_rfl
def P229_0 : Ps := ⟨[(0, .u), (1, .u), (2, (.tb (Sh.int .u32))), (3, (.ptr 0 0)), (4, .u), (6, (.ptr 1 0)), (7, (.ptr 2 0)), (8, .u), (9, .u), (10, .u), (13, (.ar .u32)), (14, (.int .i64)), (15, .u), (27, .u), (28, .u)], [(.ints false .u32), (.ints false .u32), (.ints false .u32)]⟩
def Q229_0 : Nat → Ps
  | 0 => ⟨[(0, .u), (1, .u), (2, .u), (3, (.ptr 0 0)), (4, .u), (6, (.ptr 1 0)), (7, (.ptr 2 0)), (8, .u), (9, .u), (10, .u), (13, .u), (14, .u), (15, .u), (27, .u), (28, .u)], [(.ints false .u32), (.ints false .u32), (.ints false .u32)]⟩
  | _ => noPs
def u229_0 (c235 : D235) (c236 : D236) (N n : Nat) (v : P229_0.T) (κ : (i : Nat) → (Q229_0 i).T → Option (((Sh.ar .u32)).T)) : Option (((Sh.ar .u32)).T) :=
  L229_0 c235 c236 N (fun (y0 : List Int) (y1 : List Int) (y2 : List Int) => κ 0 (((), ((), ((), ((), ((), ((), ((), ((), ((), ((), ((), ((), ((), ((), ((), ()))))))))))))))), (y0, (y1, (y2, ()))))) n v.1.2.2.1 v.1.2.2.2.2.2.2.2.2.2.2.1 v.1.2.2.2.2.2.2.2.2.2.2.2.1 v.2.1 v.2.2.1 v.2.2.2.1
def W229_0 (c235 : D235) (c236 : D236) (N : Nat) : LoopF (((Sh.ar .u32)).T) := fun no =>
  match no with
  | _ => fun _ _ => none
theorem b229_0 (c235 : D235) (c236 : D236) (N n : Nat) (v : P229_0.T) (κ : (i : Nat) → (Q229_0 i).T → Option (((Sh.ar .u32)).T)) :
    evc (T229 c235 c236) (rawOf RW0) (W229_0 c235 c236 N) (retc k229.res (Sh.ar .u32)) (modeOf FT) 0 fuelC (bodyOf (loopN k229 0)) (P229_0.st v) (roundK 0 H229_0 P229_0 Q229_0 (u229_0 c235 c236 N n) κ) = u229_0 c235 c236 N (n + 1) v κ := by kernel_rfl
theorem o229_0 (c235 : D235) (c236 : D236) (hT : TabOK FT XT (T229 c235 c236)) (hO : RawOK FT XT (rawOf (α := ((Sh.ar .u32)).T) RW0)) (N : Nat) {s : St} {κ : Ex → St → Option (((Sh.ar .u32)).T)} {a : ((Sh.ar .u32)).T} (h : lpOf 0 H229_0 P229_0 Q229_0 (u229_0 c235 c236 N N) s κ = some a) : Out FT XT 0 (retc k229.res (Sh.ar .u32)) (loopN k229 0) s κ a := by
  rw [l229_0]
  exact loop_out (LP := W229_0 c235 c236 N) (fu := fuelC) hT hO (fun _ _ => rfl) (b229_0 c235 c236 N) loopOK_nil N h
def W229 (c235 : D235) (c236 : D236) (N : Nat) : LoopF (((Sh.ar .u32)).T) := fun no =>
  match no with
  | 0 => lpOf 0 H229_0 P229_0 Q229_0 (u229_0 c235 c236 N N)
  | 1 => lpOf 0 H229_1 P229_1 Q229_1 (u229_1 c235 c236 N N)
  | _ => fun _ _ => none
theorem e229 (c235 : D235) (c236 : D236) (N : Nat) (a0 : List Int) (a1 : List Int) (a2 : List Int) : evc (T229 c235 c236) (rawOf RW0) (W229 c235 c236 N) (retc k229.res (Sh.ar .u32)) (modeOf FT) 0 fuelC k229.body (env0 k229 (encL [(Sh.ar .u32), (Sh.ar .u8), (Sh.sl (Sh.int .u32))] (a0, (a1, (a2, ())))), []) (endK (retc k229.res (Sh.ar .u32))) = p229 c235 c236 N a0 a1 a2 := by kernel_rfl
theorem ok229 (c235 : D235) (c236 : D236) (h235 : O235 c235) (h236 : O236 c236) {f : D229} (hf : ∀ a0 a1 a2 r, f a0 a1 a2 = some r → ∃ N, p229 c235 c236 N a0 a1 a2 = some r) : O229 f := by
  have hT : TabOK FT XT (T229 c235 c236) := (tb1 h235 (tb1 h236 tb0))
  have hO0 : RawOK FT XT (rawOf (α := ((Sh.ar .u32)).T) RW0) := rawOK0
  have hO : RawOK FT XT (rawOf (α := ((Sh.ar .u32)).T) RW0) := hO0
  refine ⟨rfl, fun v r h => ?_⟩
  obtain ⟨a0, a1, a2, _⟩ := v
  obtain ⟨N, h1⟩ := hf _ _ _ _ h
  exact ans_c (R := (Sh.ar .u32)) (tab := T229 c235 c236) (raw := (rawOf RW0)) (LP := W229 c235 c236 N) (fu := fuelC) hT hO rfl rfl (Nat.le_of_ble_eq_true rfl) (loopOK_cons l229_0 (fun s κ a h => o229_0 c235 c236 hT hO N h) (loopOK_cons l229_1 (fun s κ a h => o229_1 c235 c236 hT hO N h) loopOK_nil)) ((e229 c235 c236 N _ _ _).trans h1)

def T213 (c46 : D46) (c217 : D217) (c219 : D219) (c83 : D83) (c229 : D229) : Nat → Option Ent := tb [(46, en46 c46), (217, en217 c217), (219, en219 c219), (83, en83 c83), (229, en229 c229)]
def H213_1 : Trim := ⟨1, [], false, [2, 4, 6, 30], []⟩
theorem l213_1 : loopN k213 1 = .loop H213_1 (bodyOf (loopN k213 1)) := by kernel_rfl
def P213_1 : Ps := ⟨[(0, .u), (2, (.ptr 0 0)), (3, .u), (4, (.ptr 1 0)), (5, .u), (6, (.ptr 2 0)), (7, .u), (20, .u), (30, (.int .i64)), (31, .u)], [(.ints false .u8), (.ints false .u32), (.ints false .u8)]⟩
def Q213_1 : Nat → Ps
  | 2 => ⟨[(0, .u), (2, (.ptr 0 0)), (3, .u), (4, .u), (5, .u), (6, (.ptr 1 0)), (7, .u), (20, .u), (30, .u), (31, .u)], [(.ints false .u8), (.ints false .u8)]⟩
  | _ => noPs
def u213_1 (c46 : D46) (c217 : D217) (c219 : D219) (c83 : D83) (c229 : D229) (N n : Nat) (v : P213_1.T) (κ : (i : Nat) → (Q213_1 i).T → Option (((Sh.ar .u8)).T)) : Option (((Sh.ar .u8)).T) :=
  L213_1 c46 c217 c219 c83 c229 N (fun (y0 : List Int) (y1 : List Int) => κ 2 (((), ((), ((), ((), ((), ((), ((), ((), ((), ((), ())))))))))), (y0, (y1, ())))) n v.1.2.2.2.2.2.2.2.2.1 v.2.1 v.2.2.1 v.2.2.2.1
def W213_1 (c46 : D46) (c217 : D217) (c219 : D219) (c83 : D83) (c229 : D229) (N : Nat) : LoopF (((Sh.ar .u8)).T) := fun no =>
  match no with
  | _ => fun _ _ => none
theorem b213_1 (c46 : D46) (c217 : D217) (c219 : D219) (c83 : D83) (c229 : D229) (N n : Nat) (v : P213_1.T) (κ : (i : Nat) → (Q213_1 i).T → Option (((Sh.ar .u8)).T)) :
    evc (T213 c46 c217 c219 c83 c229) (rawOf RW0) (W213_1 c46 c217 c219 c83 c229 N) (retc k213.res (Sh.ar .u8)) (modeOf FT) 0 fuelC (bodyOf (loopN k213 1)) (P213_1.st v) (roundK 0 H213_1 P213_1 Q213_1 (u213_1 c46 c217 c219 c83 c229 N n) κ) = u213_1 c46 c217 c219 c83 c229 N (n + 1) v κ := by kernel_rfl
theorem o213_1 (c46 : D46) (c217 : D217) (c219 : D219) (c83 : D83) (c229 : D229) (hT : TabOK FT XT (T213 c46 c217 c219 c83 c229)) (hO : RawOK FT XT (rawOf (α := ((Sh.ar .u8)).T) RW0)) (N : Nat) {s : St} {κ : Ex → St → Option (((Sh.ar .u8)).T)} {a : ((Sh.ar .u8)).T} (h : lpOf 0 H213_1 P213_1 Q213_1 (u213_1 c46 c217 c219 c83 c229 N N) s κ = some a) : Out FT XT 0 (retc k213.res (Sh.ar .u8)) (loopN k213 1) s κ a := by
  rw [l213_1]
  exact loop_out (LP := W213_1 c46 c217 c219 c83 c229 N) (fu := fuelC) hT hO (fun _ _ => rfl) (b213_1 c46 c217 c219 c83 c229 N) loopOK_nil N h
def H213_0 : Trim := ⟨0, [(3, (Sh.sl (Sh.int .u8)))], false, [2, 3, 4, 5], []⟩
theorem l213_0 : loopN k213 0 = .loop H213_0 (bodyOf (loopN k213 0)) := by kernel_rfl
def P213_0 : Ps := ⟨[(0, .u), (2, (.ptr 0 0)), (3, (.tb (Sh.int .u8))), (4, (.ptr 1 0)), (5, (.tb (Sh.int .u32))), (6, .u), (7, .u), (20, .u), (30, .u), (31, .u)], [(.ints false .u8), (.ints false .u32)]⟩
def Q213_0 : Nat → Ps
  | 0 => ⟨[(0, .u), (2, (.ptr 0 0)), (3, .u), (4, (.ptr 1 0)), (5, .u), (6, .u), (7, .u), (20, .u), (30, .u), (31, .u)], [(.ints false .u8), (.ints false .u32)]⟩
  | _ => noPs
def u213_0 (c46 : D46) (c217 : D217) (c219 : D219) (c83 : D83) (c229 : D229) (N n : Nat) (v : P213_0.T) (κ : (i : Nat) → (Q213_0 i).T → Option (((Sh.ar .u8)).T)) : Option (((Sh.ar .u8)).T) :=
  L213_0 c46 c217 c219 c83 c229 N (fun (y0 : List Int) (y1 : List Int) => κ 0 (((), ((), ((), ((), ((), ((), ((), ((), ((), ((), ())))))))))), (y0, (y1, ())))) n v.1.2.2.1 v.1.2.2.2.2.1 v.2.1 v.2.2.1
def W213_0 (c46 : D46) (c217 : D217) (c219 : D219) (c83 : D83) (c229 : D229) (N : Nat) : LoopF (((Sh.ar .u8)).T) := fun no =>
  match no with
  | _ => fun _ _ => none
theorem b213_0 (c46 : D46) (c217 : D217) (c219 : D219) (c83 : D83) (c229 : D229) (N n : Nat) (v : P213_0.T) (κ : (i : Nat) → (Q213_0 i).T → Option (((Sh.ar .u8)).T)) :
    evc (T213 c46 c217 c219 c83 c229) (rawOf RW0) (W213_0 c46 c217 c219 c83 c229 N) (retc k213.res (Sh.ar .u8)) (modeOf FT) 0 fuelC (bodyOf (loopN k213 0)) (P213_0.st v) (roundK 0 H213_0 P213_0 Q213_0 (u213_0 c46 c217 c219 c83 c229 N n) κ) = u213_0 c46 c217 c219 c83 c229 N (n + 1) v κ := by kernel_rfl
theorem o213_0 (c46 : D46) (c217 : D217) (c219 : D219) (c83 : D83) (c229 : D229) (hT : TabOK FT XT (T213 c46 c217 c219 c83 c229)) (hO : RawOK FT XT (rawOf (α := ((Sh.ar .u8)).T) RW0)) (N : Nat) {s : St} {κ : Ex → St → Option (((Sh.ar .u8)).T)} {a : ((Sh.ar .u8)).T} (h : lpOf 0 H213_0 P213_0 Q213_0 (u213_0 c46 c217 c219 c83 c229 N N) s κ = some a) : Out FT XT 0 (retc k213.res (Sh.ar .u8)) (loopN k213 0) s κ a := by
  rw [l213_0]
  exact loop_out (LP := W213_0 c46 c217 c219 c83 c229 N) (fu := fuelC) hT hO (fun _ _ => rfl) (b213_0 c46 c217 c219 c83 c229 N) loopOK_nil N h
def W213 (c46 : D46) (c217 : D217) (c219 : D219) (c83 : D83) (c229 : D229) (N : Nat) : LoopF (((Sh.ar .u8)).T) := fun no =>
  match no with
  | 0 => lpOf 0 H213_0 P213_0 Q213_0 (u213_0 c46 c217 c219 c83 c229 N N)
  | 1 => lpOf 0 H213_1 P213_1 Q213_1 (u213_1 c46 c217 c219 c83 c229 N N)
  | _ => fun _ _ => none
theorem e213 (c46 : D46) (c217 : D217) (c219 : D219) (c83 : D83) (c229 : D229) (N : Nat) (a0 : List (List Int)) : evc (T213 c46 c217 c219 c83 c229) (rawOf RW0) (W213 c46 c217 c219 c83 c229 N) (retc k213.res (Sh.ar .u8)) (modeOf FT) 0 fuelC k213.body (env0 k213 (encL [(Sh.sl (Sh.sl (Sh.int .u8)))] (a0, ())), []) (endK (retc k213.res (Sh.ar .u8))) = p213 c46 c217 c219 c83 c229 N a0 := by kernel_rfl
theorem ok213 (c46 : D46) (c217 : D217) (c219 : D219) (c83 : D83) (c229 : D229) (h46 : O46 c46) (h217 : O217 c217) (h219 : O219 c219) (h83 : O83 c83) (h229 : O229 c229) {f : D213} (hf : ∀ a0 r, f a0 = some r → ∃ N, p213 c46 c217 c219 c83 c229 N a0 = some r) : O213 f := by
  have hT : TabOK FT XT (T213 c46 c217 c219 c83 c229) := (tb1 h46 (tb1 h217 (tb1 h219 (tb1 h83 (tb1 h229 tb0)))))
  have hO0 : RawOK FT XT (rawOf (α := ((Sh.ar .u8)).T) RW0) := rawOK0
  have hO : RawOK FT XT (rawOf (α := ((Sh.ar .u8)).T) RW0) := hO0
  refine ⟨rfl, fun v r h => ?_⟩
  obtain ⟨a0, _⟩ := v
  obtain ⟨N, h1⟩ := hf _ _ h
  exact ans_c (R := (Sh.ar .u8)) (tab := T213 c46 c217 c219 c83 c229) (raw := (rawOf RW0)) (LP := W213 c46 c217 c219 c83 c229 N) (fu := fuelC) hT hO rfl rfl (Nat.le_of_ble_eq_true rfl) (loopOK_cons l213_0 (fun s κ a h => o213_0 c46 c217 c219 c83 c229 hT hO N h) (loopOK_cons l213_1 (fun s κ a h => o213_1 c46 c217 c219 c83 c229 hT hO N h) loopOK_nil)) ((e213 c46 c217 c219 c83 c229 N _).trans h1)

theorem ok218 (c186 : D186) (h186 : O186 c186) {f : D218} (hf : ∀ a0 r, f a0 = some r → ∃ N, p218 c186 N a0 = some r) : O218 f :=
 okc (fu := fuelC) (tb1 h186 tb0) rfl rfl rfl (fun _ => rfl) (fun v r h => by
 obtain ⟨N, h⟩ := hf v.1 r h
 refine Eq.trans ?_ h; kernel_rfl) rfl

theorem ok220 {f : D220} (hf : ∀  r, f  = some r → ∃ N, p220 N  = some r) : O220 f :=
 okc (fu := fuelC) tb0 rfl rfl rfl (fun _ => rfl) (fun v r h => by
 obtain ⟨N, h⟩ := hf r h
 refine Eq.trans ?_ h; kernel_rfl) rfl

theorem ok237 {f : D237} (hf : ∀ a0 a1 r, f a0 a1 = some r → ∃ N, p237 N a0 a1 = some r) : O237 f :=
 okc (fu := fuelC) tb0 rfl rfl rfl (fun _ => rfl) (fun v r h => by
 obtain ⟨N, h⟩ := hf v.1 v.2.1 r h
 refine Eq.trans ?_ h; kernel_rfl) rfl

theorem ok230 (c237 : D237) (h237 : O237 c237) {f : D230} (hf : ∀ a0 a1 a2 a3 r, f a0 a1 a2 a3 = some r → ∃ N, p230 c237 N a0 a1 a2 a3 = some r) : O230 f :=
 okc (fu := fuelC) (tb1 h237 tb0) rfl rfl rfl (fun _ => rfl) (fun v r h => by
 obtain ⟨N, h⟩ := hf v.1 v.2.1 v.2.2.1 v.2.2.2.1 r h
 refine Eq.trans ?_ h; kernel_rfl) rfl

theorem ok231 {f : D231} (hf : ∀  r, f  = some r → ∃ N, p231 N  = some r) : O231 f :=
 okc (fu := fuelC) tb0 rfl rfl rfl (fun _ => rfl) (fun v r h => by
 obtain ⟨N, h⟩ := hf r h
 refine Eq.trans ?_ h; kernel_rfl) rfl

theorem ok232 (c237 : D237) (h237 : O237 c237) {f : D232} (hf : ∀ a0 a1 a2 a3 r, f a0 a1 a2 a3 = some r → ∃ N, p232 c237 N a0 a1 a2 a3 = some r) : O232 f :=
 okc (fu := fuelC) (tb1 h237 tb0) rfl rfl rfl (fun _ => rfl) (fun v r h => by
 obtain ⟨N, h⟩ := hf v.1 v.2.1 v.2.2.1 v.2.2.2.1 r h
 refine Eq.trans ?_ h; kernel_rfl) rfl

def T216 (c230 : D230) (c231 : D231) (c232 : D232) : Nat → Option Ent := tb [(230, en230 c230), (231, en231 c231), (232, en232 c232)]
def H216_2 : Trim := ⟨2, [], false, [2, 4, 8, 12], []⟩
theorem l216_2 : loopN k216 2 = .loop H216_2 (bodyOf (loopN k216 2)) := by kernel_rfl
def P216_2 : Ps := ⟨[(0, .u), (1, .u), (2, (.ptr 0 0)), (3, .u), (4, (.ptr 1 0)), (5, .u), (6, .u), (7, .u), (8, (.ptr 2 0)), (9, .u), (10, .u), (11, .u), (12, (.int .i64)), (14, .u), (18, .u), (76, .u), (149, .u)], [(.ints false .u32), (.ints false .u32), (.ints false .u32)]⟩
def Q216_2 : Nat → Ps
  | 4 => ⟨[(0, .u), (1, .u), (2, .u), (3, .u), (4, (.ptr 0 0)), (5, .u), (6, .u), (7, .u), (8, (.ptr 1 0)), (9, .u), (10, .u), (11, .u), (12, .u), (14, .u), (18, .u), (76, .u), (149, .u)], [(.ints false .u32), (.ints false .u32)]⟩
  | _ => noPs
def u216_2 (c230 : D230) (c231 : D231) (c232 : D232) (N n : Nat) (v : P216_2.T) (κ : (i : Nat) → (Q216_2 i).T → Option (((Sh.ar .u32)).T)) : Option (((Sh.ar .u32)).T) :=
  L216_2 c230 c231 c232 N (fun (y0 : List Int) (y1 : List Int) => κ 4 (((), ((), ((), ((), ((), ((), ((), ((), ((), ((), ((), ((), ((), ((), ((), ((), ((), ()))))))))))))))))), (y0, (y1, ())))) n v.1.2.2.2.2.2.2.2.2.2.2.2.2.1 v.2.1 v.2.2.1 v.2.2.2.1
def W216_2 (c230 : D230) (c231 : D231) (c232 : D232) (N : Nat) : LoopF (((Sh.ar .u32)).T) := fun no =>
  match no with
  | _ => fun _ _ => none
theorem b216_2 (c230 : D230) (c231 : D231) (c232 : D232) (N n : Nat) (v : P216_2.T) (κ : (i : Nat) → (Q216_2 i).T → Option (((Sh.ar .u32)).T)) :
    evc (T216 c230 c231 c232) (rawOf RW0) (W216_2 c230 c231 c232 N) (retc k216.res (Sh.ar .u32)) (modeOf FT) 0 fuelC (bodyOf (loopN k216 2)) (P216_2.st v) (roundK 0 H216_2 P216_2 Q216_2 (u216_2 c230 c231 c232 N n) κ) = u216_2 c230 c231 c232 N (n + 1) v κ := by kernel_rfl
theorem o216_2 (c230 : D230) (c231 : D231) (c232 : D232) (hT : TabOK FT XT (T216 c230 c231 c232)) (hO : RawOK FT XT (rawOf (α := ((Sh.ar .u32)).T) RW0)) (N : Nat) {s : St} {κ : Ex → St → Option (((Sh.ar .u32)).T)} {a : ((Sh.ar .u32)).T} (h : lpOf 0 H216_2 P216_2 Q216_2 (u216_2 c230 c231 c232 N N) s κ = some a) : Out FT XT 0 (retc k216.res (Sh.ar .u32)) (loopN k216 2) s κ a := by
  rw [l216_2]
  exact loop_out (LP := W216_2 c230 c231 c232 N) (fu := fuelC) hT hO (fun _ _ => rfl) (b216_2 c230 c231 c232 N) loopOK_nil N h
def H216_1 : Trim := ⟨1, [], false, [2, 4, 5, 7, 8, 9], []⟩
theorem l216_1 : loopN k216 1 = .loop H216_1 (bodyOf (loopN k216 1)) := by kernel_rfl
def P216_1 : Ps := ⟨[(0, .u), (1, .u), (2, (.ptr 0 0)), (3, .u), (4, (.ptr 1 0)), (5, (.ptr 2 0)), (6, .u), (7, (.tb (Sh.int .u32))), (8, (.ptr 3 0)), (9, (.int .i64)), (10, .u), (11, .u), (12, .u), (14, .u), (18, .u), (76, .u), (149, .u)], [(.ints false .u32), (.ints false .u32), (.ints false .u32), (.ints false .u32)]⟩
def Q216_1 : Nat → Ps
  | 2 => ⟨[(0, .u), (1, .u), (2, (.ptr 0 0)), (3, .u), (4, (.ptr 1 0)), (5, .u), (6, .u), (7, .u), (8, (.ptr 2 0)), (9, .u), (10, .u), (11, .u), (12, .u), (14, .u), (18, .u), (76, .u), (149, .u)], [(.ints false .u32), (.ints false .u32), (.ints false .u32)]⟩
  | _ => noPs
def u216_1 (c230 : D230) (c231 : D231) (c232 : D232) (N n : Nat) (v : P216_1.T) (κ : (i : Nat) → (Q216_1 i).T → Option (((Sh.ar .u32)).T)) : Option (((Sh.ar .u32)).T) :=
  L216_1 c230 c231 c232 N (fun (y0 : List Int) (y1 : List Int) (y2 : List Int) => κ 2 (((), ((), ((), ((), ((), ((), ((), ((), ((), ((), ((), ((), ((), ((), ((), ((), ((), ()))))))))))))))))), (y0, (y1, (y2, ()))))) n v.1.2.2.2.2.2.2.2.1 v.1.2.2.2.2.2.2.2.2.2.1 v.2.1 v.2.2.1 v.2.2.2.1 v.2.2.2.2.1
def W216_1 (c230 : D230) (c231 : D231) (c232 : D232) (N : Nat) : LoopF (((Sh.ar .u32)).T) := fun no =>
  match no with
  | _ => fun _ _ => none
theorem b216_1 (c230 : D230) (c231 : D231) (c232 : D232) (N n : Nat) (v : P216_1.T) (κ : (i : Nat) → (Q216_1 i).T → Option (((Sh.ar .u32)).T)) :
    evc (T216 c230 c231 c232) (rawOf RW0) (W216_1 c230 c231 c232 N) (retc k216.res (Sh.ar .u32)) (modeOf FT) 0 fuelC (bodyOf (loopN k216 1)) (P216_1.st v) (roundK 0 H216_1 P216_1 Q216_1 (u216_1 c230 c231 c232 N n) κ) = u216_1 c230 c231 c232 N (n + 1) v κ := by kernel_rfl
theorem o216_1 (c230 : D230) (c231 : D231) (c232 : D232) (hT : TabOK FT XT (T216 c230 c231 c232)) (hO : RawOK FT XT (rawOf (α := ((Sh.ar .u32)).T) RW0)) (N : Nat) {s : St} {κ : Ex → St → Option (((Sh.ar .u32)).T)} {a : ((Sh.ar .u32)).T} (h : lpOf 0 H216_1 P216_1 Q216_1 (u216_1 c230 c231 c232 N N) s κ = some a) : Out FT XT 0 (retc k216.res (Sh.ar .u32)) (loopN k216 1) s κ a := by
  rw [l216_1]
  exact loop_out (LP := W216_1 c230 c231 c232 N) (fu := fuelC) hT hO (fun _ _ => rfl) (b216_1 c230 c231 c232 N) loopOK_nil N h
def H216_0 : Trim := ⟨0, [], false, [2, 3, 4, 5, 6], []⟩
theorem l216_0 : loopN k216 0 = .loop H216_0 (bodyOf (loopN k216 0)) := by kernel_rfl
def P216_0 : Ps := ⟨[(0, .u), (1, .u), (2, (.ptr 0 0)), (3, (.ptr 1 0)), (4, (.ptr 2 0)), (5, (.ptr 3 0)), (6, (.int .i64)), (7, .u), (8, .u), (9, .u), (10, .u), (11, .u), (12, .u), (14, .u), (18, .u), (76, .u), (149, .u)], [(.ints false .u32), (.ints false .u8), (.ints false .u32), (.ints false .u32)]⟩
def Q216_0 : Nat → Ps
  | 0 => ⟨[(0, .u), (1, .u), (2, (.ptr 0 0)), (3, .u), (4, (.ptr 1 0)), (5, (.ptr 2 0)), (6, .u), (7, .u), (8, .u), (9, .u), (10, .u), (11, .u), (12, .u), (14, .u), (18, .u), (76, .u), (149, .u)], [(.ints false .u32), (.ints false .u32), (.ints false .u32)]⟩
  | _ => noPs
def u216_0 (c230 : D230) (c231 : D231) (c232 : D232) (N n : Nat) (v : P216_0.T) (κ : (i : Nat) → (Q216_0 i).T → Option (((Sh.ar .u32)).T)) : Option (((Sh.ar .u32)).T) :=
  L216_0 c230 c231 c232 N (fun (y0 : List Int) (y1 : List Int) (y2 : List Int) => κ 0 (((), ((), ((), ((), ((), ((), ((), ((), ((), ((), ((), ((), ((), ((), ((), ((), ((), ()))))))))))))))))), (y0, (y1, (y2, ()))))) n v.1.2.2.2.2.2.2.1 v.2.1 v.2.2.1 v.2.2.2.1 v.2.2.2.2.1
def W216_0 (c230 : D230) (c231 : D231) (c232 : D232) (N : Nat) : LoopF (((Sh.ar .u32)).T) := fun no =>
  match no with
  | _ => fun _ _ => none
theorem b216_0 (c230 : D230) (c231 : D231) (c232 : D232) (N n : Nat) (v : P216_0.T) (κ : (i : Nat) → (Q216_0 i).T → Option (((Sh.ar .u32)).T)) :
    evc (T216 c230 c231 c232) (rawOf RW0) (W216_0 c230 c231 c232 N) (retc k216.res (Sh.ar .u32)) (modeOf FT) 0 fuelC (bodyOf (loopN k216 0)) (P216_0.st v) (roundK 0 H216_0 P216_0 Q216_0 (u216_0 c230 c231 c232 N n) κ) = u216_0 c230 c231 c232 N (n + 1) v κ := by kernel_rfl
theorem o216_0 (c230 : D230) (c231 : D231) (c232 : D232) (hT : TabOK FT XT (T216 c230 c231 c232)) (hO : RawOK FT XT (rawOf (α := ((Sh.ar .u32)).T) RW0)) (N : Nat) {s : St} {κ : Ex → St → Option (((Sh.ar .u32)).T)} {a : ((Sh.ar .u32)).T} (h : lpOf 0 H216_0 P216_0 Q216_0 (u216_0 c230 c231 c232 N N) s κ = some a) : Out FT XT 0 (retc k216.res (Sh.ar .u32)) (loopN k216 0) s κ a := by
  rw [l216_0]
  exact loop_out (LP := W216_0 c230 c231 c232 N) (fu := fuelC) hT hO (fun _ _ => rfl) (b216_0 c230 c231 c232 N) loopOK_nil N h
def W216 (c230 : D230) (c231 : D231) (c232 : D232) (N : Nat) : LoopF (((Sh.ar .u32)).T) := fun no =>
  match no with
  | 0 => lpOf 0 H216_0 P216_0 Q216_0 (u216_0 c230 c231 c232 N N)
  | 1 => lpOf 0 H216_1 P216_1 Q216_1 (u216_1 c230 c231 c232 N N)
  | 2 => lpOf 0 H216_2 P216_2 Q216_2 (u216_2 c230 c231 c232 N N)
  | _ => fun _ _ => none
theorem e216 (c230 : D230) (c231 : D231) (c232 : D232) (N : Nat) (a0 : List Int) (a1 : List Int) : evc (T216 c230 c231 c232) (rawOf RW0) (W216 c230 c231 c232 N) (retc k216.res (Sh.ar .u32)) (modeOf FT) 0 fuelC k216.body (env0 k216 (encL [(Sh.ar .u32), (Sh.ar .u8)] (a0, (a1, ()))), []) (endK (retc k216.res (Sh.ar .u32))) = p216 c230 c231 c232 N a0 a1 := by kernel_rfl
theorem ok216 (c230 : D230) (c231 : D231) (c232 : D232) (h230 : O230 c230) (h231 : O231 c231) (h232 : O232 c232) {f : D216} (hf : ∀ a0 a1 r, f a0 a1 = some r → ∃ N, p216 c230 c231 c232 N a0 a1 = some r) : O216 f := by
  have hT : TabOK FT XT (T216 c230 c231 c232) := (tb1 h230 (tb1 h231 (tb1 h232 tb0)))
  have hO0 : RawOK FT XT (rawOf (α := ((Sh.ar .u32)).T) RW0) := rawOK0
  have hO : RawOK FT XT (rawOf (α := ((Sh.ar .u32)).T) RW0) := hO0
  refine ⟨rfl, fun v r h => ?_⟩
  obtain ⟨a0, a1, _⟩ := v
  obtain ⟨N, h1⟩ := hf _ _ _ h
  exact ans_c (R := (Sh.ar .u32)) (tab := T216 c230 c231 c232) (raw := (rawOf RW0)) (LP := W216 c230 c231 c232 N) (fu := fuelC) hT hO rfl rfl (Nat.le_of_ble_eq_true rfl) (loopOK_cons l216_0 (fun s κ a h => o216_0 c230 c231 c232 hT hO N h) (loopOK_cons l216_1 (fun s κ a h => o216_1 c230 c231 c232 hT hO N h) (loopOK_cons l216_2 (fun s κ a h => o216_2 c230 c231 c232 hT hO N h) loopOK_nil))) ((e216 c230 c231 c232 N _ _).trans h1)

def T214 (c218 : D218) (c220 : D220) (c216 : D216) : Nat → Option Ent := tb [(218, en218 c218), (220, en220 c220), (216, en216 c216)]
def H214_2 : Trim := ⟨2, [], false, [2, 4, 8, 9], []⟩
theorem l214_2 : loopN k214 2 = .loop H214_2 (bodyOf (loopN k214 2)) := by kernel_rfl
def P214_2 : Ps := ⟨[(0, .u), (2, (.ptr 0 0)), (3, .u), (4, (.ptr 1 0)), (5, .u), (6, .u), (7, .u), (8, (.ptr 2 0)), (9, (.int .i64)), (21, .u), (25, .u), (40, .u)], [(.ints false .u8), (.ints false .u32), (.ints false .u8)]⟩
def Q214_2 : Nat → Ps
  | 4 => ⟨[(0, .u), (2, (.ptr 0 0)), (3, .u), (4, .u), (5, .u), (6, .u), (7, .u), (8, (.ptr 1 0)), (9, .u), (21, .u), (25, .u), (40, .u)], [(.ints false .u8), (.ints false .u8)]⟩
  | _ => noPs
def u214_2 (c218 : D218) (c220 : D220) (c216 : D216) (N n : Nat) (v : P214_2.T) (κ : (i : Nat) → (Q214_2 i).T → Option (((Sh.ar .u8)).T)) : Option (((Sh.ar .u8)).T) :=
  L214_2 c218 c220 c216 N (fun (y0 : List Int) (y1 : List Int) => κ 4 (((), ((), ((), ((), ((), ((), ((), ((), ((), ((), ((), ((), ())))))))))))), (y0, (y1, ())))) n v.1.2.2.2.2.2.2.2.2.1 v.2.1 v.2.2.1 v.2.2.2.1
def W214_2 (c218 : D218) (c220 : D220) (c216 : D216) (N : Nat) : LoopF (((Sh.ar .u8)).T) := fun no =>
  match no with
  | _ => fun _ _ => none
theorem b214_2 (c218 : D218) (c220 : D220) (c216 : D216) (N n : Nat) (v : P214_2.T) (κ : (i : Nat) → (Q214_2 i).T → Option (((Sh.ar .u8)).T)) :
    evc (T214 c218 c220 c216) (rawOf RW0) (W214_2 c218 c220 c216 N) (retc k214.res (Sh.ar .u8)) (modeOf FT) 0 fuelC (bodyOf (loopN k214 2)) (P214_2.st v) (roundK 0 H214_2 P214_2 Q214_2 (u214_2 c218 c220 c216 N n) κ) = u214_2 c218 c220 c216 N (n + 1) v κ := by kernel_rfl
theorem o214_2 (c218 : D218) (c220 : D220) (c216 : D216) (hT : TabOK FT XT (T214 c218 c220 c216)) (hO : RawOK FT XT (rawOf (α := ((Sh.ar .u8)).T) RW0)) (N : Nat) {s : St} {κ : Ex → St → Option (((Sh.ar .u8)).T)} {a : ((Sh.ar .u8)).T} (h : lpOf 0 H214_2 P214_2 Q214_2 (u214_2 c218 c220 c216 N N) s κ = some a) : Out FT XT 0 (retc k214.res (Sh.ar .u8)) (loopN k214 2) s κ a := by
  rw [l214_2]
  exact loop_out (LP := W214_2 c218 c220 c216 N) (fu := fuelC) hT hO (fun _ _ => rfl) (b214_2 c218 c220 c216 N) loopOK_nil N h
def H214_1 : Trim := ⟨1, [], false, [2, 3, 4, 5, 6, 7], []⟩
theorem l214_1 : loopN k214 1 = .loop H214_1 (bodyOf (loopN k214 1)) := by kernel_rfl
def P214_1 : Ps := ⟨[(0, .u), (2, (.ptr 0 0)), (3, (.sl 1 1)), (4, (.ptr 2 0)), (5, (.int .i64)), (6, (.ptr 3 0)), (7, (.int .i64)), (8, .u), (9, .u), (21, .u), (25, .u), (40, .u)], [(.ints false .u8), (.ints false .u8), (.ints false .u32), (.ints false .u8)]⟩
def Q214_1 : Nat → Ps
  | 2 => ⟨[(0, .u), (2, (.ptr 0 0)), (3, (.sl 1 1)), (4, (.ptr 2 0)), (5, (.int .i64)), (6, (.ptr 3 0)), (7, .u), (8, .u), (9, .u), (21, .u), (25, .u), (40, .u)], [(.ints false .u8), (.ints false .u8), (.ints false .u32), (.ints false .u8)]⟩
  | _ => noPs
def u214_1 (c218 : D218) (c220 : D220) (c216 : D216) (N n : Nat) (v : P214_1.T) (κ : (i : Nat) → (Q214_1 i).T → Option (((Sh.ar .u8)).T)) : Option (((Sh.ar .u8)).T) :=
  L214_1 c218 c220 c216 N (fun (y0 : Nat) (y1 : Int) (y2 : List Int) (y3 : List Int) (y4 : List Int) (y5 : List Int) => κ 2 (((), ((), (y0, ((), (y1, ((), ((), ((), ((), ((), ((), ((), ())))))))))))), (y2, (y3, (y4, (y5, ())))))) n v.1.2.2.1 v.1.2.2.2.2.1 v.1.2.2.2.2.2.2.1 v.2.1 v.2.2.1 v.2.2.2.1 v.2.2.2.2.1
def W214_1 (c218 : D218) (c220 : D220) (c216 : D216) (N : Nat) : LoopF (((Sh.ar .u8)).T) := fun no =>
  match no with
  | _ => fun _ _ => none
theorem b214_1 (c218 : D218) (c220 : D220) (c216 : D216) (N n : Nat) (v : P214_1.T) (κ : (i : Nat) → (Q214_1 i).T → Option (((Sh.ar .u8)).T)) :
    evc (T214 c218 c220 c216) (rawOf RW0) (W214_1 c218 c220 c216 N) (retc k214.res (Sh.ar .u8)) (modeOf FT) 0 fuelC (bodyOf (loopN k214 1)) (P214_1.st v) (roundK 0 H214_1 P214_1 Q214_1 (u214_1 c218 c220 c216 N n) κ) = u214_1 c218 c220 c216 N (n + 1) v κ := by kernel_rfl
theorem o214_1 (c218 : D218) (c220 : D220) (c216 : D216) (hT : TabOK FT XT (T214 c218 c220 c216)) (hO : RawOK FT XT (rawOf (α := ((Sh.ar .u8)).T) RW0)) (N : Nat) {s : St} {κ : Ex → St → Option (((Sh.ar .u8)).T)} {a : ((Sh.ar .u8)).T} (h : lpOf 0 H214_1 P214_1 Q214_1 (u214_1 c218 c220 c216 N N) s κ = some a) : Out FT XT 0 (retc k214.res (Sh.ar .u8)) (loopN k214 1) s κ a := by
  rw [l214_1]
  exact loop_out (LP := W214_1 c218 c220 c216 N) (fu := fuelC) hT hO (fun _ _ => rfl) (b214_1 c218 c220 c216 N) loopOK_nil N h
def H214_0 : Trim := ⟨0, [], false, [2, 3, 4, 5], []⟩
theorem l214_0 : loopN k214 0 = .loop H214_0 (bodyOf (loopN k214 0)) := by kernel_rfl
def P214_0 : Ps := ⟨[(0, .u), (2, (.ptr 0 0)), (3, (.sl 1 1)), (4, (.ptr 2 0)), (5, (.int .i64)), (6, .u), (7, .u), (8, .u), (9, .u), (21, .u), (25, .u), (40, .u)], [(.ints false .u8), (.ints false .u8), (.ints false .u32)]⟩
def Q214_0 : Nat → Ps
  | 0 => ⟨[(0, .u), (2, (.ptr 0 0)), (3, .u), (4, (.ptr 1 0)), (5, .u), (6, .u), (7, .u), (8, .u), (9, .u), (21, .u), (25, .u), (40, .u)], [(.ints false .u8), (.ints false .u32)]⟩
  | _ => noPs
def u214_0 (c218 : D218) (c220 : D220) (c216 : D216) (N n : Nat) (v : P214_0.T) (κ : (i : Nat) → (Q214_0 i).T → Option (((Sh.ar .u8)).T)) : Option (((Sh.ar .u8)).T) :=
  L214_0 c218 c220 c216 N (fun (y0 : List Int) (y1 : List Int) => κ 0 (((), ((), ((), ((), ((), ((), ((), ((), ((), ((), ((), ((), ())))))))))))), (y0, (y1, ())))) n v.1.2.2.1 v.1.2.2.2.2.1 v.2.1 v.2.2.1 v.2.2.2.1
def W214_0 (c218 : D218) (c220 : D220) (c216 : D216) (N : Nat) : LoopF (((Sh.ar .u8)).T) := fun no =>
  match no with
  | 1 => lpOf 0 H214_1 P214_1 Q214_1 (u214_1 c218 c220 c216 N N)
  | _ => fun _ _ => none
theorem b214_0 (c218 : D218) (c220 : D220) (c216 : D216) (N n : Nat) (v : P214_0.T) (κ : (i : Nat) → (Q214_0 i).T → Option (((Sh.ar .u8)).T)) :
    evc (T214 c218 c220 c216) (rawOf RW0) (W214_0 c218 c220 c216 N) (retc k214.res (Sh.ar .u8)) (modeOf FT) 0 fuelC (bodyOf (loopN k214 0)) (P214_0.st v) (roundK 0 H214_0 P214_0 Q214_0 (u214_0 c218 c220 c216 N n) κ) = u214_0 c218 c220 c216 N (n + 1) v κ := by kernel_rfl
theorem o214_0 (c218 : D218) (c220 : D220) (c216 : D216) (hT : TabOK FT XT (T214 c218 c220 c216)) (hO : RawOK FT XT (rawOf (α := ((Sh.ar .u8)).T) RW0)) (N : Nat) {s : St} {κ : Ex → St → Option (((Sh.ar .u8)).T)} {a : ((Sh.ar .u8)).T} (h : lpOf 0 H214_0 P214_0 Q214_0 (u214_0 c218 c220 c216 N N) s κ = some a) : Out FT XT 0 (retc k214.res (Sh.ar .u8)) (loopN k214 0) s κ a := by
  rw [l214_0]
  exact loop_out (LP := W214_0 c218 c220 c216 N) (fu := fuelC) hT hO (fun _ _ => rfl) (b214_0 c218 c220 c216 N) (loopOK_cons l214_1 (fun s κ a h => o214_1 c218 c220 c216 hT hO N h) loopOK_nil) N h
def W214 (c218 : D218) (c220 : D220) (c216 : D216) (N : Nat) : LoopF (((Sh.ar .u8)).T) := fun no =>
  match no with
  | 0 => lpOf 0 H214_0 P214_0 Q214_0 (u214_0 c218 c220 c216 N N)
  | 2 => lpOf 0 H214_2 P214_2 Q214_2 (u214_2 c218 c220 c216 N N)
  | _ => fun _ _ => none
theorem e214 (c218 : D218) (c220 : D220) (c216 : D216) (N : Nat) (a0 : List Int) : evc (T214 c218 c220 c216) (rawOf RW0) (W214 c218 c220 c216 N) (retc k214.res (Sh.ar .u8)) (modeOf FT) 0 fuelC k214.body (env0 k214 (encL [(Sh.sl (Sh.int .u8))] (a0, ())), []) (endK (retc k214.res (Sh.ar .u8))) = p214 c218 c220 c216 N a0 := by kernel_rfl
theorem ok214 (c218 : D218) (c220 : D220) (c216 : D216) (h218 : O218 c218) (h220 : O220 c220) (h216 : O216 c216) {f : D214} (hf : ∀ a0 r, f a0 = some r → ∃ N, p214 c218 c220 c216 N a0 = some r) : O214 f := by
  have hT : TabOK FT XT (T214 c218 c220 c216) := (tb1 h218 (tb1 h220 (tb1 h216 tb0)))
  have hO0 : RawOK FT XT (rawOf (α := ((Sh.ar .u8)).T) RW0) := rawOK0
  have hO : RawOK FT XT (rawOf (α := ((Sh.ar .u8)).T) RW0) := hO0
  refine ⟨rfl, fun v r h => ?_⟩
  obtain ⟨a0, _⟩ := v
  obtain ⟨N, h1⟩ := hf _ _ h
  exact ans_c (R := (Sh.ar .u8)) (tab := T214 c218 c220 c216) (raw := (rawOf RW0)) (LP := W214 c218 c220 c216 N) (fu := fuelC) hT hO rfl rfl (Nat.le_of_ble_eq_true rfl) (loopOK_cons l214_0 (fun s κ a h => o214_0 c218 c220 c216 hT hO N h) (loopOK_cons l214_2 (fun s κ a h => o214_2 c218 c220 c216 hT hO N h) loopOK_nil)) ((e214 c218 c220 c216 N _).trans h1)

def T225 (c214 : D214) : Nat → Option Ent := tb [(214, en214 c214)]
def H225_0 : Trim := ⟨0, [(0, (Sh.sl (Sh.int .u8)))], false, [0, 2, 4, 5], []⟩
theorem l225_0 : loopN k225 0 = .loop H225_0 (bodyOf (loopN k225 0)) := by kernel_rfl
def P225_0 : Ps := ⟨[(0, (.tb (Sh.int .u8))), (2, (.ptr 0 0)), (3, .u), (4, (.ptr 1 0)), (5, (.int .i64)), (8, .u), (15, .u)], [(.ints false .u8), (.ints false .u8)]⟩
def Q225_0 : Nat → Ps
  | 0 => ⟨[(0, .u), (2, (.ptr 0 0)), (3, .u), (4, (.ptr 1 0)), (5, .u), (8, .u), (15, .u)], [(.ints false .u8), (.ints false .u8)]⟩
  | _ => noPs
def u225_0 (c214 : D214) (N n : Nat) (v : P225_0.T) (κ : (i : Nat) → (Q225_0 i).T → Option (((Sh.ar .u8)).T)) : Option (((Sh.ar .u8)).T) :=
  L225_0 c214 N (fun (y0 : List Int) (y1 : List Int) => κ 0 (((), ((), ((), ((), ((), ((), ((), ()))))))), (y0, (y1, ())))) n v.1.1 v.1.2.2.2.2.1 v.2.1 v.2.2.1
def W225_0 (c214 : D214) (N : Nat) : LoopF (((Sh.ar .u8)).T) := fun no =>
  match no with
  | _ => fun _ _ => none
theorem b225_0 (c214 : D214) (N n : Nat) (v : P225_0.T) (κ : (i : Nat) → (Q225_0 i).T → Option (((Sh.ar .u8)).T)) :
    evc (T225 c214) (rawOf RW0) (W225_0 c214 N) (retc k225.res (Sh.ar .u8)) (modeOf FT) 0 fuelC (bodyOf (loopN k225 0)) (P225_0.st v) (roundK 0 H225_0 P225_0 Q225_0 (u225_0 c214 N n) κ) = u225_0 c214 N (n + 1) v κ := by kernel_rfl
theorem o225_0 (c214 : D214) (hT : TabOK FT XT (T225 c214)) (hO : RawOK FT XT (rawOf (α := ((Sh.ar .u8)).T) RW0)) (N : Nat) {s : St} {κ : Ex → St → Option (((Sh.ar .u8)).T)} {a : ((Sh.ar .u8)).T} (h : lpOf 0 H225_0 P225_0 Q225_0 (u225_0 c214 N N) s κ = some a) : Out FT XT 0 (retc k225.res (Sh.ar .u8)) (loopN k225 0) s κ a := by
  rw [l225_0]
  exact loop_out (LP := W225_0 c214 N) (fu := fuelC) hT hO (fun _ _ => rfl) (b225_0 c214 N) loopOK_nil N h
def W225 (c214 : D214) (N : Nat) : LoopF (((Sh.ar .u8)).T) := fun no =>
  match no with
  | 0 => lpOf 0 H225_0 P225_0 Q225_0 (u225_0 c214 N N)
  | _ => fun _ _ => none
theorem e225 (c214 : D214) (N : Nat) (a0 : List Int) : evc (T225 c214) (rawOf RW0) (W225 c214 N) (retc k225.res (Sh.ar .u8)) (modeOf FT) 0 fuelC k225.body (env0 k225 (encL [(Sh.sl (Sh.int .u8))] (a0, ())), []) (endK (retc k225.res (Sh.ar .u8))) = p225 c214 N a0 := by kernel_rfl
theorem ok225 (c214 : D214) (h214 : O214 c214) {f : D225} (hf : ∀ a0 r, f a0 = some r → ∃ N, p225 c214 N a0 = some r) : O225 f := by
  have hT : TabOK FT XT (T225 c214) := (tb1 h214 tb0)
  have hO0 : RawOK FT XT (rawOf (α := ((Sh.ar .u8)).T) RW0) := rawOK0
  have hO : RawOK FT XT (rawOf (α := ((Sh.ar .u8)).T) RW0) := hO0
  refine ⟨rfl, fun v r h => ?_⟩
  obtain ⟨a0, _⟩ := v
  obtain ⟨N, h1⟩ := hf _ _ h
  exact ans_c (R := (Sh.ar .u8)) (tab := T225 c214) (raw := (rawOf RW0)) (LP := W225 c214 N) (fu := fuelC) hT hO rfl rfl (Nat.le_of_ble_eq_true rfl) (loopOK_cons l225_0 (fun s κ a h => o225_0 c214 hT hO N h) loopOK_nil) ((e225 c214 N _).trans h1)

def T233 : Nat → Option Ent := tb []
def H233_0 : Trim := ⟨0, [], false, [1, 2, 5, 6], [(5, (.ints .u8 []), 1)]⟩
theorem l233_0 : loopN k233 0 = .loop H233_0 (bodyOf (loopN k233 0)) := by kernel_rfl
def P233_0 : Ps := ⟨[(0, .u), (1, (.int .u8)), (2, (.ptr 0 0)), (4, .u), (5, (.sl 1 1)), (6, (.int .i64)), (8, .u)], [(.ints false .u8), (.ints false .u8)]⟩
def Q233_0 : Nat → Ps
  | 0 => ⟨[(0, .u), (1, .u), (2, .u), (4, .u), (5, (.sl 0 1)), (6, .u), (8, .u)], [(.ints false .u8)]⟩
  | _ => noPs
def u233_0 (N n : Nat) (v : P233_0.T) (κ : (i : Nat) → (Q233_0 i).T → Option (List Int)) : Option (List Int) :=
  L233_0 N (fun (y0 : Nat) (y1 : List Int) => κ 0 (((), ((), ((), ((), (y0, ((), ((), ()))))))), (y1, ()))) n v.1.2.1 v.1.2.2.2.2.1 v.1.2.2.2.2.2.1 v.2.1 v.2.2.1
def W233_0 (N : Nat) : LoopF (List Int) := fun no =>
  match no with
  | _ => fun _ _ => none
theorem b233_0 (N n : Nat) (v : P233_0.T) (κ : (i : Nat) → (Q233_0 i).T → Option (List Int)) :
    evc (T233) (rawOf RW0) (W233_0 N) (reto k233.res .u8) (modeOf FT) 0 fuelC (bodyOf (loopN k233 0)) (P233_0.st v) (roundK 0 H233_0 P233_0 Q233_0 (u233_0 N n) κ) = u233_0 N (n + 1) v κ := by kernel_rfl
theorem o233_0 (hT : TabOK FT XT (T233)) (hO : RawOK FT XT (rawOf (α := List Int) RW0)) (N : Nat) {s : St} {κ : Ex → St → Option (List Int)} {a : List Int} (h : lpOf 0 H233_0 P233_0 Q233_0 (u233_0 N N) s κ = some a) : Out FT XT 0 (reto k233.res .u8) (loopN k233 0) s κ a := by
  rw [l233_0]
  exact loop_out (LP := W233_0 N) (fu := fuelC) hT hO (fun _ _ => rfl) (b233_0 N) loopOK_nil N h
def W233 (N : Nat) : LoopF (List Int) := fun no =>
  match no with
  | 0 => lpOf 0 H233_0 P233_0 Q233_0 (u233_0 N N)
  | _ => fun _ _ => none
theorem e233 (N : Nat) (a0 : List Int) (a1 : Int) : evc (T233) (rawOf RW0) (W233 N) (reto k233.res .u8) (modeOf FT) 0 fuelC k233.body (env0 k233 (encL [(Sh.ar .u8), (Sh.int .u8)] (a0, (a1, ()))), []) (endK (reto k233.res .u8)) = p233 N a0 a1 := by kernel_rfl
theorem ok233 {f : D233} (hf : ∀ a0 a1 r, f a0 a1 = some r → ∃ N, p233 N a0 a1 = some r) : O233 f := by
  have hT : TabOK FT XT (T233) := tb0
  have hO0 : RawOK FT XT (rawOf (α := List Int) RW0) := rawOK0
  have hO : RawOK FT XT (rawOf (α := List Int) RW0) := hO0
  refine ⟨rfl, fun v r h => ?_⟩
  obtain ⟨a0, a1, _⟩ := v
  obtain ⟨N, h1⟩ := hf _ _ _ h
  exact ans_o (tab := T233) (raw := (rawOf RW0)) (LP := W233 N) (fu := fuelC) hT hO rfl rfl (Nat.le_of_ble_eq_true rfl) (loopOK_cons l233_0 (fun s κ a h => o233_0 hT hO N h) loopOK_nil) ((e233 N _ _).trans h1)

theorem ok222 (c225 : D225) (c233 : D233) (c214 : D214) (h225 : O225 c225) (h233 : O233 c233) (h214 : O214 c214) {f : D222} (hf : ∀ a0 a1 r, f a0 a1 = some r → ∃ N, p222 c225 c233 c214 N a0 a1 = some r) : O222 f :=
 okc (fu := fuelC) (tb1 h225 (tb1 h233 (tb1 h214 tb0))) rfl rfl rfl (fun _ => rfl) (fun v r h => by
 obtain ⟨N, h⟩ := hf v.1 v.2.1 r h
 refine Eq.trans ?_ h; kernel_rfl) rfl

theorem ok224 (c213 : D213) (h213 : O213 c213) {f : D224} (hf : ∀ a0 r, f a0 = some r → ∃ N, p224 c213 N a0 = some r) : O224 f :=
 okc (fu := fuelC) (tb1 h213 tb0) rfl rfl rfl (fun _ => rfl) (fun v r h => by
 obtain ⟨N, h⟩ := hf v.1 r h
 refine Eq.trans ?_ h; kernel_rfl) rfl

def T234 (c224 : D224) : Nat → Option Ent := tb [(224, en224 c224)]
def H234_0 : Trim := ⟨0, [], false, [1, 5, 9], []⟩
theorem l234_0 : loopN k234 0 = .loop H234_0 (bodyOf (loopN k234 0)) := by kernel_rfl
def P234_0 : Ps := ⟨[(0, .u), (1, (.int .u8)), (4, .u), (5, (.ptr 0 0)), (6, .u), (9, (.int .i64)), (10, .u)], [(.ints false .u8)]⟩
def Q234_0 : Nat → Ps
  | 0 => ⟨[(0, .u), (1, .u), (4, .u), (5, (.ptr 0 0)), (6, .u), (9, .u), (10, .u)], [(.ints false .u8)]⟩
  | _ => noPs
def u234_0 (c224 : D224) (N n : Nat) (v : P234_0.T) (κ : (i : Nat) → (Q234_0 i).T → Option (((Sh.sl (Sh.int .u8))).T)) : Option (((Sh.sl (Sh.int .u8))).T) :=
  L234_0 c224 N (fun (y0 : List Int) => κ 0 (((), ((), ((), ((), ((), ((), ((), ()))))))), (y0, ()))) n v.1.2.1 v.1.2.2.2.2.2.1 v.2.1
def W234_0 (c224 : D224) (N : Nat) : LoopF (((Sh.sl (Sh.int .u8))).T) := fun no =>
  match no with
  | _ => fun _ _ => none
theorem b234_0 (c224 : D224) (N n : Nat) (v : P234_0.T) (κ : (i : Nat) → (Q234_0 i).T → Option (((Sh.sl (Sh.int .u8))).T)) :
    evc (T234 c224) (rawOf RW0) (W234_0 c224 N) (retc k234.res (Sh.sl (Sh.int .u8))) (modeOf FT) 0 fuelC (bodyOf (loopN k234 0)) (P234_0.st v) (roundK 0 H234_0 P234_0 Q234_0 (u234_0 c224 N n) κ) = u234_0 c224 N (n + 1) v κ := by kernel_rfl
theorem o234_0 (c224 : D224) (hT : TabOK FT XT (T234 c224)) (hO : RawOK FT XT (rawOf (α := ((Sh.sl (Sh.int .u8))).T) RW0)) (N : Nat) {s : St} {κ : Ex → St → Option (((Sh.sl (Sh.int .u8))).T)} {a : ((Sh.sl (Sh.int .u8))).T} (h : lpOf 0 H234_0 P234_0 Q234_0 (u234_0 c224 N N) s κ = some a) : Out FT XT 0 (retc k234.res (Sh.sl (Sh.int .u8))) (loopN k234 0) s κ a := by
  rw [l234_0]
  exact loop_out (LP := W234_0 c224 N) (fu := fuelC) hT hO (fun _ _ => rfl) (b234_0 c224 N) loopOK_nil N h
def W234 (c224 : D224) (N : Nat) : LoopF (((Sh.sl (Sh.int .u8))).T) := fun no =>
  match no with
  | 0 => lpOf 0 H234_0 P234_0 Q234_0 (u234_0 c224 N N)
  | _ => fun _ _ => none
theorem e234 (c224 : D224) (N : Nat) (a0 : List Int) (a1 : Int) : evc (T234 c224) (rawOf RW0) (W234 c224 N) (retc k234.res (Sh.sl (Sh.int .u8))) (modeOf FT) 0 fuelC k234.body (env0 k234 (encL [(Sh.sl (Sh.int .u8)), (Sh.int .u8)] (a0, (a1, ()))), []) (endK (retc k234.res (Sh.sl (Sh.int .u8)))) = p234 c224 N a0 a1 := by kernel_rfl
theorem ok234 (c224 : D224) (h224 : O224 c224) {f : D234} (hf : ∀ a0 a1 r, f a0 a1 = some r → ∃ N, p234 c224 N a0 a1 = some r) : O234 f := by
  have hT : TabOK FT XT (T234 c224) := (tb1 h224 tb0)
  have hO0 : RawOK FT XT (rawOf (α := ((Sh.sl (Sh.int .u8))).T) RW0) := rawOK0
  have hO : RawOK FT XT (rawOf (α := ((Sh.sl (Sh.int .u8))).T) RW0) := hO0
  refine ⟨rfl, fun v r h => ?_⟩
  obtain ⟨a0, a1, _⟩ := v
  obtain ⟨N, h1⟩ := hf _ _ _ h
  exact ans_c (R := (Sh.sl (Sh.int .u8))) (tab := T234 c224) (raw := (rawOf RW0)) (LP := W234 c224 N) (fu := fuelC) hT hO rfl rfl (Nat.le_of_ble_eq_true rfl) (loopOK_cons l234_0 (fun s κ a h => o234_0 c224 hT hO N h) loopOK_nil) ((e234 c224 N _ _).trans h1)

theorem ok223 (c234 : D234) (c46 : D46) (c213 : D213) (h234 : O234 c234) (h46 : O46 c46) (h213 : O213 c213) {f : D223} (hf : ∀ a0 a1 r, f a0 a1 = some r → ∃ N, p223 c234 c46 c213 N a0 a1 = some r) : O223 f :=
 okc (fu := fuelC) (tb1 h234 (tb1 h46 (tb1 h213 tb0))) rfl rfl rfl (fun _ => rfl) (fun v r h => by
 obtain ⟨N, h⟩ := hf v.1 v.2.1 r h
 refine Eq.trans ?_ h; kernel_rfl) rfl

theorem ok307 {f : D307} (hf : ∀ a0 r, f a0 = some r → ∃ N, p307 N a0 = some r) : O307 f :=
 okc (fu := fuelC) tb0 rfl rfl rfl (fun _ => rfl) (fun v r h => by
 obtain ⟨N, h⟩ := hf v.1 r h
 refine Eq.trans ?_ h; kernel_rfl) rfl

theorem ok292 (c307 : D307) (h307 : O307 c307) {f : D292} (hf : ∀ a0 a1 a2 r, f a0 a1 a2 = some r → ∃ N, p292 c307 N a0 a1 a2 = some r) : O292 f :=
 okc (fu := fuelC) (tb1 h307 tb0) rfl rfl rfl (fun _ => rfl) (fun v r h => by
 obtain ⟨N, h⟩ := hf v.1 v.2.1 v.2.2.1 r h
 refine Eq.trans ?_ h; kernel_rfl) rfl

def T308v0 (c223 : D223) : Nat → Option Ent := tb [(223, en223 c223)]
def W308v0 (c223 : D223) (N : Nat) : LoopF QR308v0.T := fun no =>
  match no with
  | _ => fun _ _ => none
theorem e308v0 (c223 : D223) (N : Nat) (v : PR308v0.T) : evc (T308v0 c223) (rawOf RW0) (W308v0 c223 N) (retr k308.res 6 QR308v0) (modeOf FT) 6 fuelC k308.body (env0 k308 (PR308v0.a.st v.1), stH PR308v0.h v.2) (endK (retr k308.res 6 QR308v0)) = p308v0 c223 N v.1.1 v.2.1.1 v.2.2.1.1 v.2.2.2.1.1 v.2.2.2.2.1.1 v.2.2.2.2.2.1.1 v.2.2.2.2.2.2.1 := by kernel_rfl
theorem ok308v0 (c223 : D223) (h223 : O223 c223) {f : D308v0} (hf : ∀ a0 a1 a2 a3 a4 a5 a6 r, f a0 a1 a2 a3 a4 a5 a6 = some r → ∃ N, p308v0 c223 N a0 a1 a2 a3 a4 a5 a6 = some r) : O308v0 f := by
  have hT : TabOK FT XT (T308v0 c223) := (tb1 h223 tb0)
  have hO0 : RawOK FT XT (rawOf (α := QR308v0.T) RW0) := rawOK0
  have hO : RawOK FT XT (rawOf (α := QR308v0.T) RW0) := hO0
  intro v r w h hw
  obtain ⟨N, h1⟩ := hf _ _ _ _ _ _ _ _ h
  exact ans_r (Q := QR308v0) (tab := T308v0 c223) (raw := (rawOf RW0)) (LP := W308v0 c223 N) (fu := fuelC) hT hO rfl rfl (Nat.le_of_ble_eq_true rfl) rfl loopOK_nil ((e308v0 c223 N v).trans h1) hw

def T290 (c307 : D307) (c19 : D19) (c292 : D292) (d308v0 : D308v0) : Nat → Option Ent := tb [(307, en307 c307), (19, en19 c19), (292, en292 c292)]
def RW290 (c307 : D307) (c19 : D19) (c292 : D292) (d308v0 : D308v0) : Nat → List REnt
  | 308 => [rn308v0 d308v0]
  | _ => []
def H290_0 : Trim := ⟨0, [(11, (Sh.sl (Sh.int .u8)))], false, [2, 11, 12, 13, 30, 31], [(12, (.ints .u8 []), 1)]⟩
theorem l290_0 : loopN k290 0 = .loop H290_0 (bodyOf (loopN k290 0)) := by kernel_rfl
def P290_0 : Ps := ⟨[(0, .u), (1, .u), (2, (.int .i64)), (3, .u), (4, .u), (6, .u), (7, .u), (8, .u), (9, .u), (11, (.ptr 0 0)), (12, (.ptr 1 0)), (13, (.fn 308 (.cons (.ptr 3 0) (.cons (.ptr 0 0) (.cons (.ptr 4 0) (.cons (.ptr 5 0) (.cons (.ptr 1 0) .nil))))))), (14, .u), (18, .u), (30, (.int .i64)), (31, (.int .i64)), (32, .u)], [(.vals false (.cons (.tb (Sh.int .u8)) .nil)), (.vals false (.cons (.sl 2 1) .nil)), (.ints false .u8), (.vals false (.cons (.tb (Sh.int .u8)) .nil)), (.vals false (.cons (.tb (Sh.int .u8)) .nil)), (.vals false (.cons (.tb (Sh.int .u8)) .nil))]⟩
def Q290_0 : Nat → Ps
  | 0 => ⟨[(0, .u), (1, .u), (2, (.int .i64)), (3, .u), (4, .u), (6, .u), (7, .u), (8, .u), (9, .u), (11, (.ptr 0 0)), (12, (.ptr 1 0)), (13, .u), (14, .u), (18, .u), (30, .u), (31, .u), (32, .u)], [(.vals false (.cons (.tb (Sh.int .u8)) .nil)), (.vals false (.cons (.sl 2 1) .nil)), (.ints false .u8)]⟩
  | _ => noPs
def u290_0 (c307 : D307) (c19 : D19) (c292 : D292) (d308v0 : D308v0) (N n : Nat) (v : P290_0.T) (κ : (i : Nat) → (Q290_0 i).T → Option (((Sh.tu (Sh.pr (Sh.sl (Sh.int .u8)) (Sh.int .i64)))).T)) : Option (((Sh.tu (Sh.pr (Sh.sl (Sh.int .u8)) (Sh.int .i64)))).T) :=
  L290_0 c307 c19 c292 d308v0 N (fun (y0 : Int) (y1 : List Int) (y2 : Nat) (y3 : List Int) => κ 0 (((), ((), (y0, ((), ((), ((), ((), ((), ((), ((), ((), ((), ((), ((), ((), ((), ((), ()))))))))))))))))), ((y1, ()), ((y2, ()), (y3, ()))))) n v.1.2.2.1 v.1.2.2.2.2.2.2.2.2.2.2.2.2.2.2.1 v.1.2.2.2.2.2.2.2.2.2.2.2.2.2.2.2.1 v.2.1.1 v.2.2.1.1 v.2.2.2.1 v.2.2.2.2.1.1 v.2.2.2.2.2.1.1 v.2.2.2.2.2.2.1.1
def W290_0 (c307 : D307) (c19 : D19) (c292 : D292) (d308v0 : D308v0) (N : Nat) : LoopF (((Sh.tu (Sh.pr (Sh.sl (Sh.int .u8)) (Sh.int .i64)))).T) := fun no =>
  match no with
  | _ => fun _ _ => none
theorem b290_0 (c307 : D307) (c19 : D19) (c292 : D292) (d308v0 : D308v0) (N n : Nat) (v : P290_0.T) (κ : (i : Nat) → (Q290_0 i).T → Option (((Sh.tu (Sh.pr (Sh.sl (Sh.int .u8)) (Sh.int .i64)))).T)) :
    evc (T290 c307 c19 c292 d308v0) (rawOf (RW290 c307 c19 c292 d308v0)) (W290_0 c307 c19 c292 d308v0 N) (retc k290.res (Sh.tu (Sh.pr (Sh.sl (Sh.int .u8)) (Sh.int .i64)))) (modeOf FT) 0 fuelC (bodyOf (loopN k290 0)) (P290_0.st v) (roundK 0 H290_0 P290_0 Q290_0 (u290_0 c307 c19 c292 d308v0 N n) κ) = u290_0 c307 c19 c292 d308v0 N (n + 1) v κ := by kernel_rfl
theorem o290_0 (c307 : D307) (c19 : D19) (c292 : D292) (d308v0 : D308v0) (hT : TabOK FT XT (T290 c307 c19 c292 d308v0)) (hO : RawOK FT XT (rawOf (α := ((Sh.tu (Sh.pr (Sh.sl (Sh.int .u8)) (Sh.int .i64)))).T) (RW290 c307 c19 c292 d308v0))) (N : Nat) {s : St} {κ : Ex → St → Option (((Sh.tu (Sh.pr (Sh.sl (Sh.int .u8)) (Sh.int .i64)))).T)} {a : ((Sh.tu (Sh.pr (Sh.sl (Sh.int .u8)) (Sh.int .i64)))).T} (h : lpOf 0 H290_0 P290_0 Q290_0 (u290_0 c307 c19 c292 d308v0 N N) s κ = some a) : Out FT XT 0 (retc k290.res (Sh.tu (Sh.pr (Sh.sl (Sh.int .u8)) (Sh.int .i64)))) (loopN k290 0) s κ a := by
  rw [l290_0]
  exact loop_out (LP := W290_0 c307 c19 c292 d308v0 N) (fu := fuelC) hT hO (fun _ _ => rfl) (b290_0 c307 c19 c292 d308v0 N) loopOK_nil N h
def W290 (c307 : D307) (c19 : D19) (c292 : D292) (d308v0 : D308v0) (N : Nat) : LoopF (((Sh.tu (Sh.pr (Sh.sl (Sh.int .u8)) (Sh.int .i64)))).T) := fun no =>
  match no with
  | 0 => lpOf 0 H290_0 P290_0 Q290_0 (u290_0 c307 c19 c292 d308v0 N N)
  | _ => fun _ _ => none
theorem e290 (c307 : D307) (c19 : D19) (c292 : D292) (d308v0 : D308v0) (N : Nat) (a0 : List Int) (a1 : List Int) (a2 : Int) : evc (T290 c307 c19 c292 d308v0) (rawOf (RW290 c307 c19 c292 d308v0)) (W290 c307 c19 c292 d308v0 N) (retc k290.res (Sh.tu (Sh.pr (Sh.sl (Sh.int .u8)) (Sh.int .i64)))) (modeOf FT) 0 fuelC k290.body (env0 k290 (encL [(Sh.sl (Sh.int .u8)), (Sh.sl (Sh.int .u8)), (Sh.int .i64)] (a0, (a1, (a2, ())))), []) (endK (retc k290.res (Sh.tu (Sh.pr (Sh.sl (Sh.int .u8)) (Sh.int .i64))))) = p290 c307 c19 c292 d308v0 N a0 a1 a2 := by kernel_rfl
theorem ok290 (c307 : D307) (c19 : D19) (c292 : D292) (d308v0 : D308v0) (h307 : O307 c307) (h19 : O19 c19) (h292 : O292 c292) (h308v0 : O308v0 d308v0) {f : D290} (hf : ∀ a0 a1 a2 r, f a0 a1 a2 = some r → ∃ N, p290 c307 c19 c292 d308v0 N a0 a1 a2 = some r) : O290 f := by
  have hT : TabOK FT XT (T290 c307 c19 c292 d308v0) := (tb1 h307 (tb1 h19 (tb1 h292 tb0)))
  have hO0 : RawOK FT XT (rawOf (α := ((Sh.tu (Sh.pr (Sh.sl (Sh.int .u8)) (Sh.int .i64)))).T) (RW290 c307 c19 c292 d308v0)) := by
    refine rawOf_ok (fun g en hg => ?_)
    unfold RW290 at hg
    split at hg <;> simp only [List.mem_cons, List.not_mem_nil, or_false] at hg <;> first | (subst hg; assumption) | (rcases hg with rfl | rfl <;> assumption) | (rcases hg with rfl | rfl | rfl <;> assumption) | (rcases hg with rfl | rfl | rfl | rfl <;> assumption)
  have hO : RawOK FT XT (rawOf (α := ((Sh.tu (Sh.pr (Sh.sl (Sh.int .u8)) (Sh.int .i64)))).T) (RW290 c307 c19 c292 d308v0)) := hO0
  refine ⟨rfl, fun v r h => ?_⟩
  obtain ⟨a0, a1, a2, _⟩ := v
  obtain ⟨N, h1⟩ := hf _ _ _ _ h
  exact ans_c (R := (Sh.tu (Sh.pr (Sh.sl (Sh.int .u8)) (Sh.int .i64)))) (tab := T290 c307 c19 c292 d308v0) (raw := (rawOf (RW290 c307 c19 c292 d308v0))) (LP := W290 c307 c19 c292 d308v0 N) (fu := fuelC) hT hO rfl rfl (Nat.le_of_ble_eq_true rfl) (loopOK_cons l290_0 (fun s κ a h => o290_0 c307 c19 c292 d308v0 hT hO N h) loopOK_nil) ((e290 c307 c19 c292 d308v0 N _ _ _).trans h1)

theorem ok293 (c290 : D290) (h290 : O290 c290) {f : D293} (hf : ∀ a0 r, f a0 = some r → ∃ N, p293 c290 N a0 = some r) : O293 f :=
 okc (fu := fuelC) (tb1 h290 tb0) rfl rfl rfl (fun _ => rfl) (fun v r h => by
 obtain ⟨N, h⟩ := hf v.1 r h
 refine Eq.trans ?_ h; kernel_rfl) rfl

theorem ok295 (c223 : D223) (h223 : O223 c223) {f : D295} (hf : ∀ a0 a1 r, f a0 a1 = some r → ∃ N, p295 c223 N a0 a1 = some r) : O295 f :=
 okc (fu := fuelC) (tb1 h223 tb0) rfl rfl rfl (fun _ => rfl) (fun v r h => by
 obtain ⟨N, h⟩ := hf v.1 v.2.1 r h
 refine Eq.trans ?_ h; kernel_rfl) rfl

def T291 (c222 : D222) : Nat → Option Ent := tb [(222, en222 c222)]
def H291_0 : Trim := ⟨0, [(10, (Sh.sl (Sh.int .u8)))], false, [0, 1, 2, 9, 10, 11], [(9, (.ints .u8 []), 1)]⟩
theorem l291_0 : loopN k291 0 = .loop H291_0 (bodyOf (loopN k291 0)) := by kernel_rfl
def P291_0 : Ps := ⟨[(0, (.tb (Sh.int .u8))), (1, (.tb (Sh.int .u8))), (2, (.int .i64)), (6, .u), (7, .u), (8, .u), (9, (.sl 0 1)), (10, (.tb (Sh.int .u8))), (11, (.int .i64)), (12, .u), (13, .u), (15, .u), (17, .u), (21, .u)], [(.ints false .u8)]⟩
def Q291_0 : Nat → Ps
  | 0 => ⟨[(0, .u), (1, .u), (2, (.int .i64)), (6, .u), (7, .u), (8, .u), (9, (.sl 0 1)), (10, .u), (11, (.int .i64)), (12, .u), (13, .u), (15, .u), (17, .u), (21, .u)], [(.ints false .u8)]⟩
  | _ => noPs
def u291_0 (c222 : D222) (N n : Nat) (v : P291_0.T) (κ : (i : Nat) → (Q291_0 i).T → Option (((Sh.tu (Sh.pr (Sh.sl (Sh.int .u8)) (Sh.pr (Sh.int .i64) (Sh.int .i64))))).T)) : Option (((Sh.tu (Sh.pr (Sh.sl (Sh.int .u8)) (Sh.pr (Sh.int .i64) (Sh.int .i64))))).T) :=
  L291_0 c222 N (fun (y0 : Int) (y1 : Nat) (y2 : Int) (y3 : List Int) => κ 0 (((), ((), (y0, ((), ((), ((), (y1, ((), (y2, ((), ((), ((), ((), ((), ())))))))))))))), (y3, ()))) n v.1.1 v.1.2.1 v.1.2.2.1 v.1.2.2.2.2.2.2.1 v.1.2.2.2.2.2.2.2.1 v.1.2.2.2.2.2.2.2.2.1 v.2.1
def W291_0 (c222 : D222) (N : Nat) : LoopF (((Sh.tu (Sh.pr (Sh.sl (Sh.int .u8)) (Sh.pr (Sh.int .i64) (Sh.int .i64))))).T) := fun no =>
  match no with
  | _ => fun _ _ => none
theorem b291_0 (c222 : D222) (N n : Nat) (v : P291_0.T) (κ : (i : Nat) → (Q291_0 i).T → Option (((Sh.tu (Sh.pr (Sh.sl (Sh.int .u8)) (Sh.pr (Sh.int .i64) (Sh.int .i64))))).T)) :
    evc (T291 c222) (rawOf RW0) (W291_0 c222 N) (retc k291.res (Sh.tu (Sh.pr (Sh.sl (Sh.int .u8)) (Sh.pr (Sh.int .i64) (Sh.int .i64))))) (modeOf FT) 0 fuelC (bodyOf (loopN k291 0)) (P291_0.st v) (roundK 0 H291_0 P291_0 Q291_0 (u291_0 c222 N n) κ) = u291_0 c222 N (n + 1) v κ := by kernel_rfl
theorem o291_0 (c222 : D222) (hT : TabOK FT XT (T291 c222)) (hO : RawOK FT XT (rawOf (α := ((Sh.tu (Sh.pr (Sh.sl (Sh.int .u8)) (Sh.pr (Sh.int .i64) (Sh.int .i64))))).T) RW0)) (N : Nat) {s : St} {κ : Ex → St → Option (((Sh.tu (Sh.pr (Sh.sl (Sh.int .u8)) (Sh.pr (Sh.int .i64) (Sh.int .i64))))).T)} {a : ((Sh.tu (Sh.pr (Sh.sl (Sh.int .u8)) (Sh.pr (Sh.int .i64) (Sh.int .i64))))).T} (h : lpOf 0 H291_0 P291_0 Q291_0 (u291_0 c222 N N) s κ = some a) : Out FT XT 0 (retc k291.res (Sh.tu (Sh.pr (Sh.sl (Sh.int .u8)) (Sh.pr (Sh.int .i64) (Sh.int .i64))))) (loopN k291 0) s κ a := by
  rw [l291_0]
  exact loop_out (LP := W291_0 c222 N) (fu := fuelC) hT hO (fun _ _ => rfl) (b291_0 c222 N) loopOK_nil N h
def W291 (c222 : D222) (N : Nat) : LoopF (((Sh.tu (Sh.pr (Sh.sl (Sh.int .u8)) (Sh.pr (Sh.int .i64) (Sh.int .i64))))).T) := fun no =>
  match no with
  | 0 => lpOf 0 H291_0 P291_0 Q291_0 (u291_0 c222 N N)
  | _ => fun _ _ => none
theorem e291 (c222 : D222) (N : Nat) (a0 : List Int) (a1 : List Int) (a2 : Int) : evc (T291 c222) (rawOf RW0) (W291 c222 N) (retc k291.res (Sh.tu (Sh.pr (Sh.sl (Sh.int .u8)) (Sh.pr (Sh.int .i64) (Sh.int .i64))))) (modeOf FT) 0 fuelC k291.body (env0 k291 (encL [(Sh.sl (Sh.int .u8)), (Sh.sl (Sh.int .u8)), (Sh.int .i64)] (a0, (a1, (a2, ())))), []) (endK (retc k291.res (Sh.tu (Sh.pr (Sh.sl (Sh.int .u8)) (Sh.pr (Sh.int .i64) (Sh.int .i64)))))) = p291 c222 N a0 a1 a2 := by kernel_rfl
theorem ok291 (c222 : D222) (h222 : O222 c222) {f : D291} (hf : ∀ a0 a1 a2 r, f a0 a1 a2 = some r → ∃ N, p291 c222 N a0 a1 a2 = some r) : O291 f := by
  have hT : TabOK FT XT (T291 c222) := (tb1 h222 tb0)
  have hO0 : RawOK FT XT (rawOf (α := ((Sh.tu (Sh.pr (Sh.sl (Sh.int .u8)) (Sh.pr (Sh.int .i64) (Sh.int .i64))))).T) RW0) := rawOK0
  have hO : RawOK FT XT (rawOf (α := ((Sh.tu (Sh.pr (Sh.sl (Sh.int .u8)) (Sh.pr (Sh.int .i64) (Sh.int .i64))))).T) RW0) := hO0
  refine ⟨rfl, fun v r h => ?_⟩
  obtain ⟨a0, a1, a2, _⟩ := v
  obtain ⟨N, h1⟩ := hf _ _ _ _ h
  exact ans_c (R := (Sh.tu (Sh.pr (Sh.sl (Sh.int .u8)) (Sh.pr (Sh.int .i64) (Sh.int .i64))))) (tab := T291 c222) (raw := (rawOf RW0)) (LP := W291 c222 N) (fu := fuelC) hT hO rfl rfl (Nat.le_of_ble_eq_true rfl) (loopOK_cons l291_0 (fun s κ a h => o291_0 c222 hT hO N h) loopOK_nil) ((e291 c222 N _ _ _).trans h1)

def T294 (c291 : D291) : Nat → Option Ent := tb [(291, en291 c291)]
def H294_0 : Trim := ⟨0, [], false, [2, 3, 6, 7], []⟩
theorem l294_0 : loopN k294 0 = .loop H294_0 (bodyOf (loopN k294 0)) := by kernel_rfl
def P294_0 : Ps := ⟨[(0, .u), (1, .u), (2, (.ptr 0 0)), (3, (.tb (Sh.int .u8))), (6, (.ptr 1 0)), (7, (.int .i64)), (17, .u)], [(.ints false .u8), (.ints false .u8)]⟩
def Q294_0 : Nat → Ps
  | 0 => ⟨[(0, .u), (1, .u), (2, (.ptr 0 0)), (3, .u), (6, (.ptr 1 0)), (7, .u), (17, .u)], [(.ints false .u8), (.ints false .u8)]⟩
  | _ => noPs
def u294_0 (c291 : D291) (N n : Nat) (v : P294_0.T) (κ : (i : Nat) → (Q294_0 i).T → Option (((Sh.ar .u8)).T)) : Option (((Sh.ar .u8)).T) :=
  L294_0 c291 N (fun (y0 : List Int) (y1 : List Int) => κ 0 (((), ((), ((), ((), ((), ((), ((), ()))))))), (y0, (y1, ())))) n v.1.2.2.2.1 v.1.2.2.2.2.2.1 v.2.1 v.2.2.1
def W294_0 (c291 : D291) (N : Nat) : LoopF (((Sh.ar .u8)).T) := fun no =>
  match no with
  | _ => fun _ _ => none
theorem b294_0 (c291 : D291) (N n : Nat) (v : P294_0.T) (κ : (i : Nat) → (Q294_0 i).T → Option (((Sh.ar .u8)).T)) :
    evc (T294 c291) (rawOf RW0) (W294_0 c291 N) (retc k294.res (Sh.ar .u8)) (modeOf FT) 0 fuelC (bodyOf (loopN k294 0)) (P294_0.st v) (roundK 0 H294_0 P294_0 Q294_0 (u294_0 c291 N n) κ) = u294_0 c291 N (n + 1) v κ := by kernel_rfl
theorem o294_0 (c291 : D291) (hT : TabOK FT XT (T294 c291)) (hO : RawOK FT XT (rawOf (α := ((Sh.ar .u8)).T) RW0)) (N : Nat) {s : St} {κ : Ex → St → Option (((Sh.ar .u8)).T)} {a : ((Sh.ar .u8)).T} (h : lpOf 0 H294_0 P294_0 Q294_0 (u294_0 c291 N N) s κ = some a) : Out FT XT 0 (retc k294.res (Sh.ar .u8)) (loopN k294 0) s κ a := by
  rw [l294_0]
  exact loop_out (LP := W294_0 c291 N) (fu := fuelC) hT hO (fun _ _ => rfl) (b294_0 c291 N) loopOK_nil N h
def W294 (c291 : D291) (N : Nat) : LoopF (((Sh.ar .u8)).T) := fun no =>
  match no with
  | 0 => lpOf 0 H294_0 P294_0 Q294_0 (u294_0 c291 N N)
  | _ => fun _ _ => none
theorem e294 (c291 : D291) (N : Nat) (a0 : List Int) : evc (T294 c291) (rawOf RW0) (W294 c291 N) (retc k294.res (Sh.ar .u8)) (modeOf FT) 0 fuelC k294.body (env0 k294 (encL [(Sh.ar .u8)] (a0, ())), []) (endK (retc k294.res (Sh.ar .u8))) = p294 c291 N a0 := by kernel_rfl
theorem ok294 (c291 : D291) (h291 : O291 c291) {f : D294} (hf : ∀ a0 r, f a0 = some r → ∃ N, p294 c291 N a0 = some r) : O294 f := by
  have hT : TabOK FT XT (T294 c291) := (tb1 h291 tb0)
  have hO0 : RawOK FT XT (rawOf (α := ((Sh.ar .u8)).T) RW0) := rawOK0
  have hO : RawOK FT XT (rawOf (α := ((Sh.ar .u8)).T) RW0) := hO0
  refine ⟨rfl, fun v r h => ?_⟩
  obtain ⟨a0, _⟩ := v
  obtain ⟨N, h1⟩ := hf _ _ h
  exact ans_c (R := (Sh.ar .u8)) (tab := T294 c291) (raw := (rawOf RW0)) (LP := W294 c291 N) (fu := fuelC) hT hO rfl rfl (Nat.le_of_ble_eq_true rfl) (loopOK_cons l294_0 (fun s κ a h => o294_0 c291 hT hO N h) loopOK_nil) ((e294 c291 N _).trans h1)

theorem ok316 (c320 : D320) (h320 : O320 c320) {f : D316} (hf : ∀ a0 a1 r, f a0 a1 = some r → ∃ N, p316 c320 N a0 a1 = some r) : O316 f :=
 okc (fu := fuelC) (tb1 h320 tb0) rfl rfl rfl (fun _ => rfl) (fun v r h => by
 obtain ⟨N, h⟩ := hf v.1 v.2.1 r h
 refine Eq.trans ?_ h; kernel_rfl) rfl

theorem ok310 (c148 : D148) (c316 : D316) (h148 : O148 c148) (h316 : O316 c316) {f : D310} (hf : ∀ a0 r, f a0 = some r → ∃ N, p310 c148 c316 N a0 = some r) : O310 f :=
 okc (fu := fuelC) (tb1 h148 (tb1 h316 tb0)) rfl rfl rfl (fun _ => rfl) (fun v r h => by
 obtain ⟨N, h⟩ := hf v.1 r h
 refine Eq.trans ?_ h; kernel_rfl) rfl

theorem ok322 (c19 : D19) (h19 : O19 c19) {f : D322} (hf : ∀ a0 r, f a0 = some r → ∃ N, p322 c19 N a0 = some r) : O322 f :=
 okc (fu := fuelC) (tb1 h19 tb0) rfl rfl rfl (fun _ => rfl) (fun v r h => by
 obtain ⟨N, h⟩ := hf v.1 r h
 refine Eq.trans ?_ h; kernel_rfl) rfl

def T321 (c322 : D322) (c46 : D46) (c139 : D139) : Nat → Option Ent := tb [(322, en322 c322), (46, en46 c46), (139, en139 c139)]
def H321_0 : Trim := ⟨0, [], false, [4, 41, 42, 43], []⟩
theorem l321_0 : loopN k321 0 = .loop H321_0 (bodyOf (loopN k321 0)) := by kernel_rfl
def P321_0 : Ps := ⟨[(0, .u), (1, .u), (2, .u), (3, .u), (4, (.sl 0 1)), (6, .u), (7, .u), (8, .u), (9, .u), (19, .u), (25, .u), (41, (.tb (Sh.pr (Sh.int .u8) (Sh.sl (Sh.int .u8))))), (42, (.int .i64)), (43, (.int .i64)), (44, .u), (53, .u)], [(.ints false .u8)]⟩
def Q321_0 : Nat → Ps
  | 1 => ⟨[(0, .u), (1, .u), (2, .u), (3, .u), (4, (.sl 0 1)), (6, .u), (7, .u), (8, .u), (9, .u), (19, .u), (25, .u), (41, .u), (42, .u), (43, .u), (44, .u), (53, .u)], [(.ints false .u8)]⟩
  | _ => noPs
def u321_0 (c322 : D322) (c46 : D46) (c139 : D139) (N n : Nat) (v : P321_0.T) (κ : (i : Nat) → (Q321_0 i).T → Option (((Sh.tu (Sh.pr (Sh.sl (Sh.int .u8)) (Sh.int .i64)))).T)) : Option (((Sh.tu (Sh.pr (Sh.sl (Sh.int .u8)) (Sh.int .i64)))).T) :=
  L321_0 c322 c46 c139 N (fun (y0 : Nat) (y1 : List Int) => κ 1 (((), ((), ((), ((), (y0, ((), ((), ((), ((), ((), ((), ((), ((), ((), ((), ((), ())))))))))))))))), (y1, ()))) n v.1.2.2.2.2.1 v.1.2.2.2.2.2.2.2.2.2.2.2.1 v.1.2.2.2.2.2.2.2.2.2.2.2.2.1 v.1.2.2.2.2.2.2.2.2.2.2.2.2.2.1 v.2.1
def W321_0 (c322 : D322) (c46 : D46) (c139 : D139) (N : Nat) : LoopF (((Sh.tu (Sh.pr (Sh.sl (Sh.int .u8)) (Sh.int .i64)))).T) := fun no =>
  match no with
  | _ => fun _ _ => none
theorem b321_0 (c322 : D322) (c46 : D46) (c139 : D139) (N n : Nat) (v : P321_0.T) (κ : (i : Nat) → (Q321_0 i).T → Option (((Sh.tu (Sh.pr (Sh.sl (Sh.int .u8)) (Sh.int .i64)))).T)) :
    evc (T321 c322 c46 c139) (rawOf RW0) (W321_0 c322 c46 c139 N) (retc k321.res (Sh.tu (Sh.pr (Sh.sl (Sh.int .u8)) (Sh.int .i64)))) (modeOf FT) 0 fuelC (bodyOf (loopN k321 0)) (P321_0.st v) (roundK 0 H321_0 P321_0 Q321_0 (u321_0 c322 c46 c139 N n) κ) = u321_0 c322 c46 c139 N (n + 1) v κ := by kernel_rfl
theorem o321_0 (c322 : D322) (c46 : D46) (c139 : D139) (hT : TabOK FT XT (T321 c322 c46 c139)) (hO : RawOK FT XT (rawOf (α := ((Sh.tu (Sh.pr (Sh.sl (Sh.int .u8)) (Sh.int .i64)))).T) RW0)) (N : Nat) {s : St} {κ : Ex → St → Option (((Sh.tu (Sh.pr (Sh.sl (Sh.int .u8)) (Sh.int .i64)))).T)} {a : ((Sh.tu (Sh.pr (Sh.sl (Sh.int .u8)) (Sh.int .i64)))).T} (h : lpOf 0 H321_0 P321_0 Q321_0 (u321_0 c322 c46 c139 N N) s κ = some a) : Out FT XT 0 (retc k321.res (Sh.tu (Sh.pr (Sh.sl (Sh.int .u8)) (Sh.int .i64)))) (loopN k321 0) s κ a := by
  rw [l321_0]
  exact loop_out (LP := W321_0 c322 c46 c139 N) (fu := fuelC) hT hO (fun _ _ => rfl) (b321_0 c322 c46 c139 N) loopOK_nil N h
def W321 (c322 : D322) (c46 : D46) (c139 : D139) (N : Nat) : LoopF (((Sh.tu (Sh.pr (Sh.sl (Sh.int .u8)) (Sh.int .i64)))).T) := fun no =>
  match no with
  | 0 => lpOf 0 H321_0 P321_0 Q321_0 (u321_0 c322 c46 c139 N N)
  | _ => fun _ _ => none
theorem e321 (c322 : D322) (c46 : D46) (c139 : D139) (N : Nat) (a0 : Bool × Int × (List (Int × (List Int))) × (List Int)) : evc (T321 c322 c46 c139) (rawOf RW0) (W321 c322 c46 c139 N) (retc k321.res (Sh.tu (Sh.pr (Sh.sl (Sh.int .u8)) (Sh.int .i64)))) (modeOf FT) 0 fuelC k321.body (env0 k321 (encL [(Sh.st (Sh.pr Sh.bool (Sh.pr (Sh.int .u16) (Sh.pr (Sh.sl (Sh.pr (Sh.int .u8) (Sh.sl (Sh.int .u8)))) (Sh.sl (Sh.int .u8))))))] (a0, ())), []) (endK (retc k321.res (Sh.tu (Sh.pr (Sh.sl (Sh.int .u8)) (Sh.int .i64))))) = p321 c322 c46 c139 N a0 := by kernel_rfl
theorem ok321 (c322 : D322) (c46 : D46) (c139 : D139) (h322 : O322 c322) (h46 : O46 c46) (h139 : O139 c139) {f : D321} (hf : ∀ a0 r, f a0 = some r → ∃ N, p321 c322 c46 c139 N a0 = some r) : O321 f := by
  have hT : TabOK FT XT (T321 c322 c46 c139) := (tb1 h322 (tb1 h46 (tb1 h139 tb0)))
  have hO0 : RawOK FT XT (rawOf (α := ((Sh.tu (Sh.pr (Sh.sl (Sh.int .u8)) (Sh.int .i64)))).T) RW0) := rawOK0
  have hO : RawOK FT XT (rawOf (α := ((Sh.tu (Sh.pr (Sh.sl (Sh.int .u8)) (Sh.int .i64)))).T) RW0) := hO0
  refine ⟨rfl, fun v r h => ?_⟩
  obtain ⟨a0, _⟩ := v
  obtain ⟨N, h1⟩ := hf _ _ h
  exact ans_c (R := (Sh.tu (Sh.pr (Sh.sl (Sh.int .u8)) (Sh.int .i64)))) (tab := T321 c322 c46 c139) (raw := (rawOf RW0)) (LP := W321 c322 c46 c139 N) (fu := fuelC) hT hO rfl rfl (Nat.le_of_ble_eq_true rfl) (loopOK_cons l321_0 (fun s κ a h => o321_0 c322 c46 c139 hT hO N h) loopOK_nil) ((e321 c322 c46 c139 N _).trans h1)

theorem ok317 (c321 : D321) (c322 : D322) (c46 : D46) (h321 : O321 c321) (h322 : O322 c322) (h46 : O46 c46) {f : D317} (hf : ∀ a0 r, f a0 = some r → ∃ N, p317 c321 c322 c46 N a0 = some r) : O317 f :=
 okc (fu := fuelC) (tb1 h321 (tb1 h322 (tb1 h46 tb0))) rfl rfl rfl (fun _ => rfl) (fun v r h => by
 obtain ⟨N, h⟩ := hf v.1 r h
 refine Eq.trans ?_ h; kernel_rfl) rfl

theorem ok309 (c310 : D310) (c317 : D317) (c293 : D293) (c295 : D295) (h310 : O310 c310) (h317 : O317 c317) (h293 : O293 c293) (h295 : O295 c295) {f : D309} (hf : ∀ a0 a1 r, f a0 a1 = some r → ∃ N, p309 c310 c317 c293 c295 N a0 a1 = some r) : O309 f :=
 okc (fu := fuelC) (tb1 h310 (tb1 h317 (tb1 h293 (tb1 h295 tb0)))) rfl rfl rfl (fun _ => rfl) (fun v r h => by
 obtain ⟨N, h⟩ := hf v.1 v.2.1 r h
 refine Eq.trans ?_ h; kernel_rfl) rfl

theorem ok297 (c309 : D309) (c310 : D310) (h309 : O309 c309) (h310 : O310 c310) {f : D297} (hf : ∀ a0 a1 a2 r, f a0 a1 a2 = some r → ∃ N, p297 c309 c310 N a0 a1 a2 = some r) : O297 f :=
 okc (fu := fuelC) (tb1 h309 (tb1 h310 tb0)) rfl rfl rfl (fun _ => rfl) (fun v r h => by
 obtain ⟨N, h⟩ := hf v.1 v.2.1 v.2.2.1 r h
 refine Eq.trans ?_ h; kernel_rfl) rfl

theorem ok324 {f : D324} (hf : ∀ a0 r, f a0 = some r → ∃ N, p324 N a0 = some r) : O324 f :=
 okc (fu := fuelC) tb0 rfl rfl rfl (fun _ => rfl) (fun v r h => by
 obtain ⟨N, h⟩ := hf v.1 r h
 refine Eq.trans ?_ h; kernel_rfl) rfl

def T326v0 : Nat → Option Ent := tb []
def W326v0 (N : Nat) : LoopF QR326v0.T := fun no =>
  match no with
  | _ => fun _ _ => none
theorem e326v0 (N : Nat) (v : PR326v0.T) : evc (T326v0) (rawOf RW0) (W326v0 N) (retr k326.res 1 QR326v0) (modeOf FT) 1 fuelC k326.body (env0 k326 (PR326v0.a.st v.1), stH PR326v0.h v.2) (endK (retr k326.res 1 QR326v0)) = p326v0 N v.1.1.1 v.1.1.2.1 v.2.1 := by kernel_rfl
theorem ok326v0 {f : D326v0} (hf : ∀ a0 a1 a2 r, f a0 a1 a2 = some r → ∃ N, p326v0 N a0 a1 a2 = some r) : O326v0 f := by
  have hT : TabOK FT XT (T326v0) := tb0
  have hO0 : RawOK FT XT (rawOf (α := QR326v0.T) RW0) := rawOK0
  have hO : RawOK FT XT (rawOf (α := QR326v0.T) RW0) := hO0
  intro v r w h hw
  obtain ⟨N, h1⟩ := hf _ _ _ _ h
  exact ans_r (Q := QR326v0) (tab := T326v0) (raw := (rawOf RW0)) (LP := W326v0 N) (fu := fuelC) hT hO rfl rfl (Nat.le_of_ble_eq_true rfl) rfl loopOK_nil ((e326v0 N v).trans h1) hw

def T327v0 (d326v0 : D326v0) : Nat → Option Ent := tb []
def RW327v0 (d326v0 : D326v0) : Nat → List REnt
  | 326 => [rn326v0 d326v0]
  | _ => []
def H327v0_0 : Trim := ⟨0, [], false, [0, 1, 7, 8], []⟩
theorem l327v0_0 : loopN k327 0 = .loop H327v0_0 (bodyOf (loopN k327 0)) := by kernel_rfl
def P327v0_0 : Ps := ⟨[(0, (.tb (Sh.pr (Sh.int .u8) (Sh.sl (Sh.int .u8))))), (1, (.fn 326 (.cons (.ptr 0 0) .nil))), (4, .u), (5, .u), (7, (.int .i64)), (8, (.int .i64)), (9, .u), (16, .u)], [(.ints false .u8)]⟩
def Q327v0_0 : Nat → Ps
  | 0 => ⟨[(0, .u), (1, .u), (4, .u), (5, .u), (7, .u), (8, .u), (9, .u), (16, .u)], [(.ints false .u8)]⟩
  | _ => noPs
def u327v0_0 (d326v0 : D326v0) (N n : Nat) (v : P327v0_0.T) (κ : (i : Nat) → (Q327v0_0 i).T → Option QR327v0.T) : Option QR327v0.T :=
  L327v0_0 d326v0 N (fun (y0 : List Int) => κ 0 (((), ((), ((), ((), ((), ((), ((), ((), ())))))))), (y0, ()))) n v.1.1 v.1.2.2.2.2.1 v.1.2.2.2.2.2.1 v.2.1
def W327v0_0 (d326v0 : D326v0) (N : Nat) : LoopF QR327v0.T := fun no =>
  match no with
  | _ => fun _ _ => none
theorem b327v0_0 (d326v0 : D326v0) (N n : Nat) (v : P327v0_0.T) (κ : (i : Nat) → (Q327v0_0 i).T → Option QR327v0.T) :
    evc (T327v0 d326v0) (rawOf (RW327v0 d326v0)) (W327v0_0 d326v0 N) (retr k327.res 1 QR327v0) (modeOf FT) 1 fuelC (bodyOf (loopN k327 0)) (P327v0_0.st v) (roundK 1 H327v0_0 P327v0_0 Q327v0_0 (u327v0_0 d326v0 N n) κ) = u327v0_0 d326v0 N (n + 1) v κ := by kernel_rfl
theorem o327v0_0 (d326v0 : D326v0) (hT : TabOK FT XT (T327v0 d326v0)) (hO : RawOK FT XT (rawOf (α := QR327v0.T) (RW327v0 d326v0))) (N : Nat) {s : St} {κ : Ex → St → Option QR327v0.T} {a : QR327v0.T} (h : lpOf 1 H327v0_0 P327v0_0 Q327v0_0 (u327v0_0 d326v0 N N) s κ = some a) : Out FT XT 1 (retr k327.res 1 QR327v0) (loopN k327 0) s κ a := by
  rw [l327v0_0]
  exact loop_out (LP := W327v0_0 d326v0 N) (fu := fuelC) hT hO (fun _ _ => rfl) (b327v0_0 d326v0 N) loopOK_nil N h
def W327v0 (d326v0 : D326v0) (N : Nat) : LoopF QR327v0.T := fun no =>
  match no with
  | 0 => lpOf 1 H327v0_0 P327v0_0 Q327v0_0 (u327v0_0 d326v0 N N)
  | _ => fun _ _ => none
theorem e327v0 (d326v0 : D326v0) (N : Nat) (v : PR327v0.T) : evc (T327v0 d326v0) (rawOf (RW327v0 d326v0)) (W327v0 d326v0 N) (retr k327.res 1 QR327v0) (modeOf FT) 1 fuelC k327.body (env0 k327 (PR327v0.a.st v.1), stH PR327v0.h v.2) (endK (retr k327.res 1 QR327v0)) = p327v0 d326v0 N v.1.1 v.2.1 := by kernel_rfl
theorem ok327v0 (d326v0 : D326v0) (h326v0 : O326v0 d326v0) {f : D327v0} (hf : ∀ a0 a1 r, f a0 a1 = some r → ∃ N, p327v0 d326v0 N a0 a1 = some r) : O327v0 f := by
  have hT : TabOK FT XT (T327v0 d326v0) := tb0
  have hO0 : RawOK FT XT (rawOf (α := QR327v0.T) (RW327v0 d326v0)) := by
    refine rawOf_ok (fun g en hg => ?_)
    unfold RW327v0 at hg
    split at hg <;> simp only [List.mem_cons, List.not_mem_nil, or_false] at hg <;> first | (subst hg; assumption) | (rcases hg with rfl | rfl <;> assumption) | (rcases hg with rfl | rfl | rfl <;> assumption) | (rcases hg with rfl | rfl | rfl | rfl <;> assumption)
  have hO : RawOK FT XT (rawOf (α := QR327v0.T) (RW327v0 d326v0)) := hO0
  intro v r w h hw
  obtain ⟨N, h1⟩ := hf _ _ _ h
  exact ans_r (Q := QR327v0) (tab := T327v0 d326v0) (raw := (rawOf (RW327v0 d326v0))) (LP := W327v0 d326v0 N) (fu := fuelC) hT hO rfl rfl (Nat.le_of_ble_eq_true rfl) rfl (loopOK_cons l327v0_0 (fun s κ a h => o327v0_0 d326v0 hT hO N h) loopOK_nil) ((e327v0 d326v0 N v).trans h1) hw

def T325v0 (d327v0 : D327v0) : Nat → Option Ent := tb []
def RW325v0 (d327v0 : D327v0) : Nat → List REnt
  | 327 => [rn327v0 d327v0]
  | _ => []
def W325v0 (d327v0 : D327v0) (N : Nat) : LoopF QR325v0.T := fun no =>
  match no with
  | _ => fun _ _ => none
theorem e325v0 (d327v0 : D327v0) (N : Nat) (v : PR325v0.T) : evc (T325v0 d327v0) (rawOf (RW325v0 d327v0)) (W325v0 d327v0 N) (retr k325.res 1 QR325v0) (modeOf FT) 1 fuelC k325.body (env0 k325 (PR325v0.a.st v.1), stH PR325v0.h v.2) (endK (retr k325.res 1 QR325v0)) = p325v0 d327v0 N v.1.1 v.2.1 := by kernel_rfl
theorem ok325v0 (d327v0 : D327v0) (h327v0 : O327v0 d327v0) {f : D325v0} (hf : ∀ a0 a1 r, f a0 a1 = some r → ∃ N, p325v0 d327v0 N a0 a1 = some r) : O325v0 f := by
  have hT : TabOK FT XT (T325v0 d327v0) := tb0
  have hO0 : RawOK FT XT (rawOf (α := QR325v0.T) (RW325v0 d327v0)) := by
    refine rawOf_ok (fun g en hg => ?_)
    unfold RW325v0 at hg
    split at hg <;> simp only [List.mem_cons, List.not_mem_nil, or_false] at hg <;> first | (subst hg; assumption) | (rcases hg with rfl | rfl <;> assumption) | (rcases hg with rfl | rfl | rfl <;> assumption) | (rcases hg with rfl | rfl | rfl | rfl <;> assumption)
  have hO : RawOK FT XT (rawOf (α := QR325v0.T) (RW325v0 d327v0)) := hO0
  intro v r w h hw
  obtain ⟨N, h1⟩ := hf _ _ _ h
  exact ans_r (Q := QR325v0) (tab := T325v0 d327v0) (raw := (rawOf (RW325v0 d327v0))) (LP := W325v0 d327v0 N) (fu := fuelC) hT hO rfl rfl (Nat.le_of_ble_eq_true rfl) rfl loopOK_nil ((e325v0 d327v0 N v).trans h1) hw

def T323 (c324 : D324) (d325v0 : D325v0) (c145 : D145) : Nat → Option Ent := tb [(324, en324 c324), (145, en145 c145)]
def RW323 (c324 : D324) (d325v0 : D325v0) (c145 : D145) : Nat → List REnt
  | 325 => [rn325v0 d325v0]
  | _ => []
def H323_0 : Trim := ⟨0, [], false, [49, 50, 51], []⟩
theorem l323_0 : loopN k323 0 = .loop H323_0 (bodyOf (loopN k323 0)) := by kernel_rfl
def P323_0 : Ps := ⟨[(0, .u), (1, .u), (2, .u), (3, .u), (4, .u), (5, .u), (6, .u), (8, .u), (9, .u), (20, .u), (24, .u), (33, .u), (49, (.tb (Sh.pr (Sh.int .u8) (Sh.sl (Sh.int .u8))))), (50, (.int .i64)), (51, (.int .i64)), (52, .u), (58, .u)], []⟩
def Q323_0 : Nat → Ps
  | 1 => ⟨[(0, .u), (1, .u), (2, .u), (3, .u), (4, .u), (5, .u), (6, .u), (8, .u), (9, .u), (20, .u), (24, .u), (33, .u), (49, .u), (50, .u), (51, .u), (52, .u), (58, .u)], []⟩
  | _ => noPs
def u323_0 (c324 : D324) (d325v0 : D325v0) (c145 : D145) (N n : Nat) (v : P323_0.T) (κ : (i : Nat) → (Q323_0 i).T → Option (((Sh.int .i64)).T)) : Option (((Sh.int .i64)).T) :=
  L323_0 c324 d325v0 c145 N (κ 1 (((), ((), ((), ((), ((), ((), ((), ((), ((), ((), ((), ((), ((), ((), ((), ((), ((), ()))))))))))))))))), ())) n v.1.2.2.2.2.2.2.2.2.2.2.2.2.1 v.1.2.2.2.2.2.2.2.2.2.2.2.2.2.1 v.1.2.2.2.2.2.2.2.2.2.2.2.2.2.2.1
def W323_0 (c324 : D324) (d325v0 : D325v0) (c145 : D145) (N : Nat) : LoopF (((Sh.int .i64)).T) := fun no =>
  match no with
  | _ => fun _ _ => none
theorem b323_0 (c324 : D324) (d325v0 : D325v0) (c145 : D145) (N n : Nat) (v : P323_0.T) (κ : (i : Nat) → (Q323_0 i).T → Option (((Sh.int .i64)).T)) :
    evc (T323 c324 d325v0 c145) (rawOf (RW323 c324 d325v0 c145)) (W323_0 c324 d325v0 c145 N) (retc k323.res (Sh.int .i64)) (modeOf FT) 0 fuelC (bodyOf (loopN k323 0)) (P323_0.st v) (roundK 0 H323_0 P323_0 Q323_0 (u323_0 c324 d325v0 c145 N n) κ) = u323_0 c324 d325v0 c145 N (n + 1) v κ := by kernel_rfl
theorem o323_0 (c324 : D324) (d325v0 : D325v0) (c145 : D145) (hT : TabOK FT XT (T323 c324 d325v0 c145)) (hO : RawOK FT XT (rawOf (α := ((Sh.int .i64)).T) (RW323 c324 d325v0 c145))) (N : Nat) {s : St} {κ : Ex → St → Option (((Sh.int .i64)).T)} {a : ((Sh.int .i64)).T} (h : lpOf 0 H323_0 P323_0 Q323_0 (u323_0 c324 d325v0 c145 N N) s κ = some a) : Out FT XT 0 (retc k323.res (Sh.int .i64)) (loopN k323 0) s κ a := by
  rw [l323_0]
  exact loop_out (LP := W323_0 c324 d325v0 c145 N) (fu := fuelC) hT hO (fun _ _ => rfl) (b323_0 c324 d325v0 c145 N) loopOK_nil N h
def W323 (c324 : D324) (d325v0 : D325v0) (c145 : D145) (N : Nat) : LoopF (((Sh.int .i64)).T) := fun no =>
  match no with
  | 0 => lpOf 0 H323_0 P323_0 Q323_0 (u323_0 c324 d325v0 c145 N N)
  | _ => fun _ _ => none
theorem e323 (c324 : D324) (d325v0 : D325v0) (c145 : D145) (N : Nat) (a0 : Bool × Int × (List (Int × (List Int))) × (List Int)) : evc (T323 c324 d325v0 c145) (rawOf (RW323 c324 d325v0 c145)) (W323 c324 d325v0 c145 N) (retc k323.res (Sh.int .i64)) (modeOf FT) 0 fuelC k323.body (env0 k323 (encL [(Sh.st (Sh.pr Sh.bool (Sh.pr (Sh.int .u16) (Sh.pr (Sh.sl (Sh.pr (Sh.int .u8) (Sh.sl (Sh.int .u8)))) (Sh.sl (Sh.int .u8))))))] (a0, ())), []) (endK (retc k323.res (Sh.int .i64))) = p323 c324 d325v0 c145 N a0 := by kernel_rfl
theorem ok323 (c324 : D324) (d325v0 : D325v0) (c145 : D145) (h324 : O324 c324) (h145 : O145 c145) (h325v0 : O325v0 d325v0) {f : D323} (hf : ∀ a0 r, f a0 = some r → ∃ N, p323 c324 d325v0 c145 N a0 = some r) : O323 f := by
  have hT : TabOK FT XT (T323 c324 d325v0 c145) := (tb1 h324 (tb1 h145 tb0))
  have hO0 : RawOK FT XT (rawOf (α := ((Sh.int .i64)).T) (RW323 c324 d325v0 c145)) := by
    refine rawOf_ok (fun g en hg => ?_)
    unfold RW323 at hg
    split at hg <;> simp only [List.mem_cons, List.not_mem_nil, or_false] at hg <;> first | (subst hg; assumption) | (rcases hg with rfl | rfl <;> assumption) | (rcases hg with rfl | rfl | rfl <;> assumption) | (rcases hg with rfl | rfl | rfl | rfl <;> assumption)
  have hO : RawOK FT XT (rawOf (α := ((Sh.int .i64)).T) (RW323 c324 d325v0 c145)) := hO0
  refine ⟨rfl, fun v r h => ?_⟩
  obtain ⟨a0, _⟩ := v
  obtain ⟨N, h1⟩ := hf _ _ h
  exact ans_c (R := (Sh.int .i64)) (tab := T323 c324 d325v0 c145) (raw := (rawOf (RW323 c324 d325v0 c145))) (LP := W323 c324 d325v0 c145 N) (fu := fuelC) hT hO rfl rfl (Nat.le_of_ble_eq_true rfl) (loopOK_cons l323_0 (fun s κ a h => o323_0 c324 d325v0 c145 hT hO N h) loopOK_nil) ((e323 c324 d325v0 c145 N _).trans h1)

theorem ok318 (c323 : D323) (h323 : O323 c323) {f : D318} (hf : ∀ a0 a1 r, f a0 a1 = some r → ∃ N, p318 c323 N a0 a1 = some r) : O318 f :=
 okc (fu := fuelC) (tb1 h323 tb0) rfl rfl rfl (fun _ => rfl) (fun v r h => by
 obtain ⟨N, h⟩ := hf v.1 v.2.1 r h
 refine Eq.trans ?_ h; kernel_rfl) rfl

theorem ok311 (c318 : D318) (c154 : D154) (h318 : O318 c318) (h154 : O154 c154) {f : D311} (hf : ∀ a0 r, f a0 = some r → ∃ N, p311 c318 c154 N a0 = some r) : O311 f :=
 okc (fu := fuelC) (tb1 h318 (tb1 h154 tb0)) rfl rfl rfl (fun _ => rfl) (fun v r h => by
 obtain ⟨N, h⟩ := hf v.1 r h
 refine Eq.trans ?_ h; kernel_rfl) rfl

theorem ok298 (c311 : D311) (c309 : D309) (c47 : D47) (h311 : O311 c311) (h309 : O309 c309) (h47 : O47 c47) {f : D298} (hf : ∀ a0 a1 a2 a3 r, f a0 a1 a2 a3 = some r → ∃ N, p298 c311 c309 c47 N a0 a1 a2 a3 = some r) : O298 f :=
 okc (fu := fuelC) (tb1 h311 (tb1 h309 (tb1 h47 tb0))) rfl rfl rfl (fun _ => rfl) (fun v r h => by
 obtain ⟨N, h⟩ := hf v.1 v.2.1 v.2.2.1 v.2.2.2.1 r h
 refine Eq.trans ?_ h; kernel_rfl) rfl

theorem ok305 (c149 : D149) (c316 : D316) (h149 : O149 c149) (h316 : O316 c316) {f : D305} (hf : ∀ a0 r, f a0 = some r → ∃ N, p305 c149 c316 N a0 = some r) : O305 f :=
 okc (fu := fuelC) (tb1 h149 (tb1 h316 tb0)) rfl rfl rfl (fun _ => rfl) (fun v r h => by
 obtain ⟨N, h⟩ := hf v.1 r h
 refine Eq.trans ?_ h; kernel_rfl) rfl

theorem ok312 (c318 : D318) (c155 : D155) (h318 : O318 c318) (h155 : O155 c155) {f : D312} (hf : ∀ a0 r, f a0 = some r → ∃ N, p312 c318 c155 N a0 = some r) : O312 f :=
 okc (fu := fuelC) (tb1 h318 (tb1 h155 tb0)) rfl rfl rfl (fun _ => rfl) (fun v r h => by
 obtain ⟨N, h⟩ := hf v.1 r h
 refine Eq.trans ?_ h; kernel_rfl) rfl

theorem ok301 (c297 : D297) (c305 : D305) (c312 : D312) (c298 : D298) (h297 : O297 c297) (h305 : O305 c305) (h312 : O312 c312) (h298 : O298 c298) {f : D301} (hf : ∀  r, f  = some r → ∃ N, p301 c297 c305 c312 c298 N  = some r) : O301 f :=
 okc (fu := fuelC) (tb1 h297 (tb1 h305 (tb1 h312 (tb1 h298 tb0)))) rfl rfl rfl (fun _ => rfl) (fun v r h => by
 obtain ⟨N, h⟩ := hf r h
 refine Eq.trans ?_ h; kernel_rfl) rfl

theorem ok314 (c151 : D151) (h151 : O151 c151) {f : D314} (hf : ∀ a0 a1 a2 a3 r, f a0 a1 a2 a3 = some r → ∃ N, p314 c151 N a0 a1 a2 a3 = some r) : O314 f :=
 okc (fu := fuelC) (tb1 h151 tb0) rfl rfl rfl (fun _ => rfl) (fun v r h => by
 obtain ⟨N, h⟩ := hf v.1 v.2.1 v.2.2.1 v.2.2.2.1 r h
 refine Eq.trans ?_ h; kernel_rfl) rfl

def T319 (c50 : D50) (c141 : D141) : Nat → Option Ent := tb [(50, en50 c50), (141, en141 c141)]
def H319_0 : Trim := ⟨0, [], false, [1, 4, 5, 6], []⟩
theorem l319_0 : loopN k319 0 = .loop H319_0 (bodyOf (loopN k319 0)) := by kernel_rfl
def P319_0 : Ps := ⟨[(0, .u), (1, (.ptr 0 0)), (2, .u), (3, .u), (4, (.sl 1 1)), (5, (.int .u8)), (6, (.int .i64)), (7, .u), (8, .u), (12, .u), (16, .u), (31, .u), (44, .u), (51, .u), (55, .u)], [(.vals false (.cons .bool (.cons (.int .u16) (.cons (.tb (Sh.pr (Sh.int .u8) (Sh.sl (Sh.int .u8)))) (.cons (.tb (Sh.int .u8)) .nil))))), (.ints false .u8)]⟩
def Q319_0 : Nat → Ps
  | 0 => ⟨[(0, .u), (1, .u), (2, .u), (3, .u), (4, (.sl 0 1)), (5, (.int .u8)), (6, .u), (7, .u), (8, .u), (12, .u), (16, .u), (31, .u), (44, .u), (51, .u), (55, .u)], [(.ints false .u8)]⟩
  | _ => noPs
def u319_0 (c50 : D50) (c141 : D141) (N n : Nat) (v : P319_0.T) (κ : (i : Nat) → (Q319_0 i).T → Option (((Sh.tu (Sh.pr (Sh.sl (Sh.int .u8)) (Sh.int .i64)))).T)) : Option (((Sh.tu (Sh.pr (Sh.sl (Sh.int .u8)) (Sh.int .i64)))).T) :=
  L319_0 c50 c141 N (fun (y0 : Nat) (y1 : Int) (y2 : List Int) => κ 0 (((), ((), ((), ((), (y0, (y1, ((), ((), ((), ((), ((), ((), ((), ((), ((), ()))))))))))))))), (y2, ()))) n v.1.2.2.2.2.1 v.1.2.2.2.2.2.1 v.1.2.2.2.2.2.2.1 v.2.1.1 v.2.1.2.1 v.2.1.2.2.1 v.2.1.2.2.2.1 v.2.2.1
def W319_0 (c50 : D50) (c141 : D141) (N : Nat) : LoopF (((Sh.tu (Sh.pr (Sh.sl (Sh.int .u8)) (Sh.int .i64)))).T) := fun no =>
  match no with
  | _ => fun _ _ => none
theorem b319_0 (c50 : D50) (c141 : D141) (N n : Nat) (v : P319_0.T) (κ : (i : Nat) → (Q319_0 i).T → Option (((Sh.tu (Sh.pr (Sh.sl (Sh.int .u8)) (Sh.int .i64)))).T)) :
    evc (T319 c50 c141) (rawOf RW0) (W319_0 c50 c141 N) (retc k319.res (Sh.tu (Sh.pr (Sh.sl (Sh.int .u8)) (Sh.int .i64)))) (modeOf FT) 0 fuelC (bodyOf (loopN k319 0)) (P319_0.st v) (roundK 0 H319_0 P319_0 Q319_0 (u319_0 c50 c141 N n) κ) = u319_0 c50 c141 N (n + 1) v κ := by kernel_rfl
theorem o319_0 (c50 : D50) (c141 : D141) (hT : TabOK FT XT (T319 c50 c141)) (hO : RawOK FT XT (rawOf (α := ((Sh.tu (Sh.pr (Sh.sl (Sh.int .u8)) (Sh.int .i64)))).T) RW0)) (N : Nat) {s : St} {κ : Ex → St → Option (((Sh.tu (Sh.pr (Sh.sl (Sh.int .u8)) (Sh.int .i64)))).T)} {a : ((Sh.tu (Sh.pr (Sh.sl (Sh.int .u8)) (Sh.int .i64)))).T} (h : lpOf 0 H319_0 P319_0 Q319_0 (u319_0 c50 c141 N N) s κ = some a) : Out FT XT 0 (retc k319.res (Sh.tu (Sh.pr (Sh.sl (Sh.int .u8)) (Sh.int .i64)))) (loopN k319 0) s κ a := by
  rw [l319_0]
  exact loop_out (LP := W319_0 c50 c141 N) (fu := fuelC) hT hO (fun _ _ => rfl) (b319_0 c50 c141 N) loopOK_nil N h
def W319 (c50 : D50) (c141 : D141) (N : Nat) : LoopF (((Sh.tu (Sh.pr (Sh.sl (Sh.int .u8)) (Sh.int .i64)))).T) := fun no =>
  match no with
  | 0 => lpOf 0 H319_0 P319_0 Q319_0 (u319_0 c50 c141 N N)
  | _ => fun _ _ => none
theorem e319 (c50 : D50) (c141 : D141) (N : Nat) (a0 : Bool × Int × (List (Int × (List Int))) × (List Int)) : evc (T319 c50 c141) (rawOf RW0) (W319 c50 c141 N) (retc k319.res (Sh.tu (Sh.pr (Sh.sl (Sh.int .u8)) (Sh.int .i64)))) (modeOf FT) 0 fuelC k319.body (env0 k319 (encL [(Sh.st (Sh.pr Sh.bool (Sh.pr (Sh.int .u16) (Sh.pr (Sh.sl (Sh.pr (Sh.int .u8) (Sh.sl (Sh.int .u8)))) (Sh.sl (Sh.int .u8))))))] (a0, ())), []) (endK (retc k319.res (Sh.tu (Sh.pr (Sh.sl (Sh.int .u8)) (Sh.int .i64))))) = p319 c50 c141 N a0 := by kernel_rfl
theorem ok319 (c50 : D50) (c141 : D141) (h50 : O50 c50) (h141 : O141 c141) {f : D319} (hf : ∀ a0 r, f a0 = some r → ∃ N, p319 c50 c141 N a0 = some r) : O319 f := by
  have hT : TabOK FT XT (T319 c50 c141) := (tb1 h50 (tb1 h141 tb0))
  have hO0 : RawOK FT XT (rawOf (α := ((Sh.tu (Sh.pr (Sh.sl (Sh.int .u8)) (Sh.int .i64)))).T) RW0) := rawOK0
  have hO : RawOK FT XT (rawOf (α := ((Sh.tu (Sh.pr (Sh.sl (Sh.int .u8)) (Sh.int .i64)))).T) RW0) := hO0
  refine ⟨rfl, fun v r h => ?_⟩
  obtain ⟨a0, _⟩ := v
  obtain ⟨N, h1⟩ := hf _ _ h
  exact ans_c (R := (Sh.tu (Sh.pr (Sh.sl (Sh.int .u8)) (Sh.int .i64)))) (tab := T319 c50 c141) (raw := (rawOf RW0)) (LP := W319 c50 c141 N) (fu := fuelC) hT hO rfl rfl (Nat.le_of_ble_eq_true rfl) (loopOK_cons l319_0 (fun s κ a h => o319_0 c50 c141 hT hO N h) loopOK_nil) ((e319 c50 c141 N _).trans h1)

theorem ok315 (c319 : D319) (c294 : D294) (c222 : D222) (h319 : O319 c319) (h294 : O294 c294) (h222 : O222 c222) {f : D315} (hf : ∀ a0 a1 r, f a0 a1 = some r → ∃ N, p315 c319 c294 c222 N a0 a1 = some r) : O315 f :=
 okc (fu := fuelC) (tb1 h319 (tb1 h294 (tb1 h222 tb0))) rfl rfl rfl (fun _ => rfl) (fun v r h => by
 obtain ⟨N, h⟩ := hf v.1 v.2.1 r h
 refine Eq.trans ?_ h; kernel_rfl) rfl

theorem ok304 (c314 : D314) (c315 : D315) (h314 : O314 c314) (h315 : O315 c315) {f : D304} (hf : ∀ a0 a1 a2 r, f a0 a1 a2 = some r → ∃ N, p304 c314 c315 N a0 a1 a2 = some r) : O304 f :=
 okc (fu := fuelC) (tb1 h314 (tb1 h315 tb0)) rfl rfl rfl (fun _ => rfl) (fun v r h => by
 obtain ⟨N, h⟩ := hf v.1 v.2.1 v.2.2.1 r h
 refine Eq.trans ?_ h; kernel_rfl) rfl

def T303 : Nat → Option Ent := tb []
def H303_0 : Trim := ⟨0, [], false, [2, 3, 14, 15, 16], [(3, (.imm []), 2002)]⟩
theorem l303_0 : loopN k303 0 = .loop H303_0 (bodyOf (loopN k303 0)) := by kernel_rfl
def P303_0 : Ps := ⟨[(0, .u), (1, .u), (2, (.ptr 0 0)), (3, (.ptr 1 0)), (5, .u), (14, (.tb (Sh.pr (Sh.int .u8) (Sh.sl (Sh.int .u8))))), (15, (.int .i64)), (16, (.int .i64)), (17, .u)], [(.vals false (.cons .bool (.cons (.int .u16) (.cons .nils (.cons .nils .nil))))), (.vals false (.cons .bool (.cons (.int .u16) (.cons (.sl 2 2) (.cons (.tb (Sh.int .u8)) .nil))))), (.imm false)]⟩
def Q303_0 : Nat → Ps
  | 0 => ⟨[(0, .u), (1, .u), (2, (.ptr 0 0)), (3, (.ptr 1 0)), (5, .u), (14, .u), (15, .u), (16, .u), (17, .u)], [(.vals false (.cons .bool (.cons (.int .u16) (.cons .nils (.cons .nils .nil))))), (.vals false (.cons .bool (.cons (.int .u16) (.cons (.sl 2 2) (.cons (.tb (Sh.int .u8)) .nil))))), (.imm false)]⟩
  | _ => noPs
def u303_0 (N n : Nat) (v : P303_0.T) (κ : (i : Nat) → (Q303_0 i).T → Option (((Sh.st (Sh.pr Sh.bool (Sh.pr (Sh.int .u16) (Sh.pr (Sh.sl (Sh.pr (Sh.int .u8) (Sh.sl (Sh.int .u8)))) (Sh.sl (Sh.int .u8))))))).T)) : Option (((Sh.st (Sh.pr Sh.bool (Sh.pr (Sh.int .u16) (Sh.pr (Sh.sl (Sh.pr (Sh.int .u8) (Sh.sl (Sh.int .u8)))) (Sh.sl (Sh.int .u8))))))).T) :=
  L303_0 N (fun (y0 : Bool) (y1 : Int) (y2 : Bool) (y3 : Int) (y4 : Nat) (y5 : List Int) (y6 : List V) => κ 0 (((), ((), ((), ((), ((), ((), ((), ((), ((), ()))))))))), ((y0, (y1, ((), ((), ())))), ((y2, (y3, (y4, (y5, ())))), (y6, ()))))) n v.1.2.2.2.2.2.1 v.1.2.2.2.2.2.2.1 v.1.2.2.2.2.2.2.2.1 v.2.1.1 v.2.1.2.1 v.2.2.1.1 v.2.2.1.2.1 v.2.2.1.2.2.1 v.2.2.1.2.2.2.1 v.2.2.2.1
def W303_0 (N : Nat) : LoopF (((Sh.st (Sh.pr Sh.bool (Sh.pr (Sh.int .u16) (Sh.pr (Sh.sl (Sh.pr (Sh.int .u8) (Sh.sl (Sh.int .u8)))) (Sh.sl (Sh.int .u8))))))).T) := fun no =>
  match no with
  | _ => fun _ _ => none
theorem b303_0 (N n : Nat) (v : P303_0.T) (κ : (i : Nat) → (Q303_0 i).T → Option (((Sh.st (Sh.pr Sh.bool (Sh.pr (Sh.int .u16) (Sh.pr (Sh.sl (Sh.pr (Sh.int .u8) (Sh.sl (Sh.int .u8)))) (Sh.sl (Sh.int .u8))))))).T)) :
    evc (T303) (rawOf RW0) (W303_0 N) (retc k303.res (Sh.st (Sh.pr Sh.bool (Sh.pr (Sh.int .u16) (Sh.pr (Sh.sl (Sh.pr (Sh.int .u8) (Sh.sl (Sh.int .u8)))) (Sh.sl (Sh.int .u8))))))) (modeOf FT) 0 fuelC (bodyOf (loopN k303 0)) (P303_0.st v) (roundK 0 H303_0 P303_0 Q303_0 (u303_0 N n) κ) = u303_0 N (n + 1) v κ := by kernel_rfl
theorem o303_0 (hT : TabOK FT XT (T303)) (hO : RawOK FT XT (rawOf (α := ((Sh.st (Sh.pr Sh.bool (Sh.pr (Sh.int .u16) (Sh.pr (Sh.sl (Sh.pr (Sh.int .u8) (Sh.sl (Sh.int .u8)))) (Sh.sl (Sh.int .u8))))))).T) RW0)) (N : Nat) {s : St} {κ : Ex → St → Option (((Sh.st (Sh.pr Sh.bool (Sh.pr (Sh.int .u16) (Sh.pr (Sh.sl (Sh.pr (Sh.int .u8) (Sh.sl (Sh.int .u8)))) (Sh.sl (Sh.int .u8))))))).T)} {a : ((Sh.st (Sh.pr Sh.bool (Sh.pr (Sh.int .u16) (Sh.pr (Sh.sl (Sh.pr (Sh.int .u8) (Sh.sl (Sh.int .u8)))) (Sh.sl (Sh.int .u8))))))).T} (h : lpOf 0 H303_0 P303_0 Q303_0 (u303_0 N N) s κ = some a) : Out FT XT 0 (retc k303.res (Sh.st (Sh.pr Sh.bool (Sh.pr (Sh.int .u16) (Sh.pr (Sh.sl (Sh.pr (Sh.int .u8) (Sh.sl (Sh.int .u8)))) (Sh.sl (Sh.int .u8))))))) (loopN k303 0) s κ a := by
  rw [l303_0]
  exact loop_out (LP := W303_0 N) (fu := fuelC) hT hO (fun _ _ => rfl) (b303_0 N) loopOK_nil N h
def W303 (N : Nat) : LoopF (((Sh.st (Sh.pr Sh.bool (Sh.pr (Sh.int .u16) (Sh.pr (Sh.sl (Sh.pr (Sh.int .u8) (Sh.sl (Sh.int .u8)))) (Sh.sl (Sh.int .u8))))))).T) := fun no =>
  match no with
  | 0 => lpOf 0 H303_0 P303_0 Q303_0 (u303_0 N N)
  | _ => fun _ _ => none
theorem e303 (N : Nat) (a0 : Bool × Int × (List (Int × (List Int))) × (List Int)) : evc (T303) (rawOf RW0) (W303 N) (retc k303.res (Sh.st (Sh.pr Sh.bool (Sh.pr (Sh.int .u16) (Sh.pr (Sh.sl (Sh.pr (Sh.int .u8) (Sh.sl (Sh.int .u8)))) (Sh.sl (Sh.int .u8))))))) (modeOf FT) 0 fuelC k303.body (env0 k303 (encL [(Sh.st (Sh.pr Sh.bool (Sh.pr (Sh.int .u16) (Sh.pr (Sh.sl (Sh.pr (Sh.int .u8) (Sh.sl (Sh.int .u8)))) (Sh.sl (Sh.int .u8))))))] (a0, ())), []) (endK (retc k303.res (Sh.st (Sh.pr Sh.bool (Sh.pr (Sh.int .u16) (Sh.pr (Sh.sl (Sh.pr (Sh.int .u8) (Sh.sl (Sh.int .u8)))) (Sh.sl (Sh.int .u8)))))))) = p303 N a0 := by kernel_rfl
theorem ok303 {f : D303} (hf : ∀ a0 r, f a0 = some r → ∃ N, p303 N a0 = some r) : O303 f := by
  have hT : TabOK FT XT (T303) := tb0
  have hO0 : RawOK FT XT (rawOf (α := ((Sh.st (Sh.pr Sh.bool (Sh.pr (Sh.int .u16) (Sh.pr (Sh.sl (Sh.pr (Sh.int .u8) (Sh.sl (Sh.int .u8)))) (Sh.sl (Sh.int .u8))))))).T) RW0) := rawOK0
  have hO : RawOK FT XT (rawOf (α := ((Sh.st (Sh.pr Sh.bool (Sh.pr (Sh.int .u16) (Sh.pr (Sh.sl (Sh.pr (Sh.int .u8) (Sh.sl (Sh.int .u8)))) (Sh.sl (Sh.int .u8))))))).T) RW0) := hO0
  refine ⟨rfl, fun v r h => ?_⟩
  obtain ⟨a0, _⟩ := v
  obtain ⟨N, h1⟩ := hf _ _ h
  exact ans_c (R := (Sh.st (Sh.pr Sh.bool (Sh.pr (Sh.int .u16) (Sh.pr (Sh.sl (Sh.pr (Sh.int .u8) (Sh.sl (Sh.int .u8)))) (Sh.sl (Sh.int .u8))))))) (tab := T303) (raw := (rawOf RW0)) (LP := W303 N) (fu := fuelC) hT hO rfl rfl (Nat.le_of_ble_eq_true rfl) (loopOK_cons l303_0 (fun s κ a h => o303_0 hT hO N h) loopOK_nil) ((e303 N _).trans h1)

def T313v0 (c144 : D144) : Nat → Option Ent := tb [(144, en144 c144)]
def H313v0_0 : Trim := ⟨0, [], false, [1, 2, 15, 16, 17], []⟩
theorem l313v0_0 : loopN k313 0 = .loop H313v0_0 (bodyOf (loopN k313 0)) := by kernel_rfl
def P313v0_0 : Ps := ⟨[(0, .u), (1, (.tb (Sh.pr (Sh.int .u8) (Sh.sl (Sh.int .u8))))), (2, (.fn 144 .nil)), (6, .u), (7, .u), (8, .u), (9, .u), (14, .u), (15, (.tb (Sh.pr (Sh.int .u8) (Sh.sl (Sh.int .u8))))), (16, (.int .i64)), (17, (.int .i64)), (18, .u), (30, .u)], []⟩
def Q313v0_0 : Nat → Ps
  | 0 => ⟨[(0, .u), (1, .u), (2, .u), (6, .u), (7, .u), (8, .u), (9, .u), (14, .u), (15, .u), (16, .u), (17, .u), (18, .u), (30, .u)], []⟩
  | _ => noPs
def u313v0_0 (c144 : D144) (N n : Nat) (v : P313v0_0.T) (κ : (i : Nat) → (Q313v0_0 i).T → Option QR313v0.T) : Option QR313v0.T :=
  L313v0_0 c144 N (κ 0 (((), ((), ((), ((), ((), ((), ((), ((), ((), ((), ((), ((), ((), ()))))))))))))), ())) n v.1.2.1 v.1.2.2.2.2.2.2.2.2.1 v.1.2.2.2.2.2.2.2.2.2.1 v.1.2.2.2.2.2.2.2.2.2.2.1
def W313v0_0 (c144 : D144) (N : Nat) : LoopF QR313v0.T := fun no =>
  match no with
  | _ => fun _ _ => none
theorem b313v0_0 (c144 : D144) (N n : Nat) (v : P313v0_0.T) (κ : (i : Nat) → (Q313v0_0 i).T → Option QR313v0.T) :
    evc (T313v0 c144) (rawOf RW0) (W313v0_0 c144 N) (retr k313.res 0 QR313v0) (modeOf FT) 0 fuelC (bodyOf (loopN k313 0)) (P313v0_0.st v) (roundK 0 H313v0_0 P313v0_0 Q313v0_0 (u313v0_0 c144 N n) κ) = u313v0_0 c144 N (n + 1) v κ := by kernel_rfl
theorem o313v0_0 (c144 : D144) (hT : TabOK FT XT (T313v0 c144)) (hO : RawOK FT XT (rawOf (α := QR313v0.T) RW0)) (N : Nat) {s : St} {κ : Ex → St → Option QR313v0.T} {a : QR313v0.T} (h : lpOf 0 H313v0_0 P313v0_0 Q313v0_0 (u313v0_0 c144 N N) s κ = some a) : Out FT XT 0 (retr k313.res 0 QR313v0) (loopN k313 0) s κ a := by
  rw [l313v0_0]
  exact loop_out (LP := W313v0_0 c144 N) (fu := fuelC) hT hO (fun _ _ => rfl) (b313v0_0 c144 N) loopOK_nil N h
def W313v0 (c144 : D144) (N : Nat) : LoopF QR313v0.T := fun no =>
  match no with
  | 0 => lpOf 0 H313v0_0 P313v0_0 Q313v0_0 (u313v0_0 c144 N N)
  | _ => fun _ _ => none
theorem e313v0 (c144 : D144) (N : Nat) (v : PR313v0.T) : evc (T313v0 c144) (rawOf RW0) (W313v0 c144 N) (retr k313.res 0 QR313v0) (modeOf FT) 0 fuelC k313.body (env0 k313 (PR313v0.a.st v.1), stH PR313v0.h v.2) (endK (retr k313.res 0 QR313v0)) = p313v0 c144 N v.1.1 v.1.2.1 := by kernel_rfl
theorem ok313v0 (c144 : D144) (h144 : O144 c144) {f : D313v0} (hf : ∀ a0 a1 r, f a0 a1 = some r → ∃ N, p313v0 c144 N a0 a1 = some r) : O313v0 f := by
  have hT : TabOK FT XT (T313v0 c144) := (tb1 h144 tb0)
  have hO0 : RawOK FT XT (rawOf (α := QR313v0.T) RW0) := rawOK0
  have hO : RawOK FT XT (rawOf (α := QR313v0.T) RW0) := hO0
  intro v r w h hw
  obtain ⟨N, h1⟩ := hf _ _ _ h
  exact ans_r (Q := QR313v0) (tab := T313v0 c144) (raw := (rawOf RW0)) (LP := W313v0 c144 N) (fu := fuelC) hT hO rfl rfl (Nat.le_of_ble_eq_true rfl) rfl (loopOK_cons l313v0_0 (fun s κ a h => o313v0_0 c144 hT hO N h) loopOK_nil) ((e313v0 c144 N v).trans h1) hw

def T302 (d313v0 : D313v0) (c160 : D160) : Nat → Option Ent := tb [(160, en160 c160)]
def RW302 (d313v0 : D313v0) (c160 : D160) : Nat → List REnt
  | 313 => [rn313v0 d313v0]
  | _ => []
def W302 (d313v0 : D313v0) (c160 : D160) (N : Nat) : LoopF (Sh.bool).T := fun no =>
  match no with
  | _ => fun _ _ => none
theorem e302 (d313v0 : D313v0) (c160 : D160) (N : Nat) (a0 : Bool × Int × (List (Int × (List Int))) × (List Int)) (a1 : Bool × Int × (List (Int × (List Int))) × (List Int)) : evc (T302 d313v0 c160) (rawOf (RW302 d313v0 c160)) (W302 d313v0 c160 N) (retc k302.res Sh.bool) (modeOf FT) 0 fuelC k302.body (env0 k302 (encL [(Sh.st (Sh.pr Sh.bool (Sh.pr (Sh.int .u16) (Sh.pr (Sh.sl (Sh.pr (Sh.int .u8) (Sh.sl (Sh.int .u8)))) (Sh.sl (Sh.int .u8)))))), (Sh.st (Sh.pr Sh.bool (Sh.pr (Sh.int .u16) (Sh.pr (Sh.sl (Sh.pr (Sh.int .u8) (Sh.sl (Sh.int .u8)))) (Sh.sl (Sh.int .u8))))))] (a0, (a1, ()))), []) (endK (retc k302.res Sh.bool)) = p302 d313v0 c160 N a0 a1 := by kernel_rfl
theorem ok302 (d313v0 : D313v0) (c160 : D160) (h160 : O160 c160) (h313v0 : O313v0 d313v0) {f : D302} (hf : ∀ a0 a1 r, f a0 a1 = some r → ∃ N, p302 d313v0 c160 N a0 a1 = some r) : O302 f := by
  have hT : TabOK FT XT (T302 d313v0 c160) := (tb1 h160 tb0)
  have hO0 : RawOK FT XT (rawOf (α := (Sh.bool).T) (RW302 d313v0 c160)) := by
    refine rawOf_ok (fun g en hg => ?_)
    unfold RW302 at hg
    split at hg <;> simp only [List.mem_cons, List.not_mem_nil, or_false] at hg <;> first | (subst hg; assumption) | (rcases hg with rfl | rfl <;> assumption) | (rcases hg with rfl | rfl | rfl <;> assumption) | (rcases hg with rfl | rfl | rfl | rfl <;> assumption)
  have hO : RawOK FT XT (rawOf (α := (Sh.bool).T) (RW302 d313v0 c160)) := hO0
  refine ⟨rfl, fun v r h => ?_⟩
  obtain ⟨a0, a1, _⟩ := v
  obtain ⟨N, h1⟩ := hf _ _ _ h
  exact ans_c (R := Sh.bool) (tab := T302 d313v0 c160) (raw := (rawOf (RW302 d313v0 c160))) (LP := W302 d313v0 c160 N) (fu := fuelC) hT hO rfl rfl (Nat.le_of_ble_eq_true rfl) loopOK_nil ((e302 d313v0 c160 N _ _).trans h1)

theorem ok306 (c152 : D152) (h152 : O152 c152) {f : D306} (hf : ∀ a0 r, f a0 = some r → ∃ N, p306 c152 N a0 = some r) : O306 f :=
 okc (fu := fuelC) (tb1 h152 tb0) rfl rfl rfl (fun _ => rfl) (fun v r h => by
 obtain ⟨N, h⟩ := hf v.1 r h
 refine Eq.trans ?_ h; kernel_rfl) rfl

theorem ok288 (c297 : D297) (c304 : D304) (c303 : D303) (c302 : D302) (c305 : D305) (c306 : D306) (c301 : D301) (h297 : O297 c297) (h304 : O304 c304) (h303 : O303 c303) (h302 : O302 c302) (h305 : O305 c305) (h306 : O306 c306) (h301 : O301 c301) {f : D288} (hf : ∀ a0 r, f a0 = some r → ∃ N, p288 c297 c304 c303 c302 c305 c306 c301 N a0 = some r) : O288 f :=
 okc (fu := fuelC) (tb1 h297 (tb1 h304 (tb1 h303 (tb1 h302 (tb1 h305 (tb1 h306 (tb1 h301 tb0))))))) rfl rfl rfl (fun _ => rfl) (fun v r h => by
 obtain ⟨N, h⟩ := hf v.1 r h
 refine Eq.trans ?_ h; kernel_rfl) rfl
end Go.Proofs.YtciafmcbccgggaaE
