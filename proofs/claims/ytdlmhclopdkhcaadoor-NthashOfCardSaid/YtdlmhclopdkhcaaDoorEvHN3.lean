/- The plain functions are the evaluator's. -/
import Derived.Test.YtdlmhclopdkhcaaDoorEvGN3
import Derived.KernelRfl
namespace Go.Proofs.YtdlmhclopdkhcaaDoorE
open Go
set_option linter.unusedVariables false
set_option linter.unusedSimpArgs false

def T64v0 : Nat → Option Ent := tb []
def W64v0 (N : Nat) : LoopF QR64v0.T := fun no =>
  match no with
  | _ => fun _ _ => none
theorem e64v0 (N : Nat) (v : PR64v0.T) : evc (T64v0) (rawOf RW0) (W64v0 N) (retr k64.res 0 QR64v0) (modeOf FT) 0 fuelC k64.body (env0 k64 (PR64v0.a.st v.1), stH PR64v0.h v.2) (endK (retr k64.res 0 QR64v0)) = p64v0 N v.1.2.1 := by kernel_rfl
theorem ok64v0 {f : D64v0} (hf : ∀ a0 r, f a0 = some r → ∃ N, p64v0 N a0 = some r) : O64v0 f := by
  have hT : TabOK FT XT (T64v0) := tb0
  have hO0 : RawOK FT XT (rawOf (α := QR64v0.T) RW0) := rawOK0
  have hO : RawOK FT XT (rawOf (α := QR64v0.T) RW0) := hO0
  intro v r w h hw
  obtain ⟨N, h1⟩ := hf _ _ h
  exact ans_r (Q := QR64v0) (tab := T64v0) (raw := (rawOf RW0)) (LP := W64v0 N) (fu := fuelC) hT hO rfl rfl (Nat.le_of_ble_eq_true rfl) rfl loopOK_nil ((e64v0 N v).trans h1) hw

def T1 (d64v0 : D64v0) : Nat → Option Ent := tb []
def RW1 (d64v0 : D64v0) : Nat → List REnt
  | 64 => [rn64v0 d64v0]
  | _ => []
def H1_1 : Trim := ⟨1, [], false, [6, 25, 26, 27], []⟩
theorem l1_1 : loopN k1 1 = .loop H1_1 (bodyOf (loopN k1 1)) := by kernel_rfl
def P1_1 : Ps := ⟨[(0, .u), (2, .u), (3, .u), (5, .u), (6, (.sl 0 1)), (8, .u), (9, .u), (10, .u), (11, .u), (12, .u), (20, .u), (25, (.tb (Sh.sl (Sh.int .u8)))), (26, (.int .i64)), (27, (.int .i64)), (28, .u)], [(.ints false .u8)]⟩
def Q1_1 : Nat → Ps
  | 2 => ⟨[(0, .u), (2, .u), (3, .u), (5, .u), (6, (.sl 0 1)), (8, .u), (9, .u), (10, .u), (11, .u), (12, .u), (20, .u), (25, .u), (26, .u), (27, .u), (28, .u)], [(.ints false .u8)]⟩
  | _ => noPs
def u1_1 (d64v0 : D64v0) (N n : Nat) (v : P1_1.T) (κ : (i : Nat) → (Q1_1 i).T → Option (List Int)) : Option (List Int) :=
  L1_1 d64v0 N (fun (y0 : Nat) (y1 : List Int) => κ 2 (((), ((), ((), ((), (y0, ((), ((), ((), ((), ((), ((), ((), ((), ((), ((), ()))))))))))))))), (y1, ()))) n v.1.2.2.2.2.1 v.1.2.2.2.2.2.2.2.2.2.2.2.1 v.1.2.2.2.2.2.2.2.2.2.2.2.2.1 v.1.2.2.2.2.2.2.2.2.2.2.2.2.2.1 v.2.1
def W1_1 (d64v0 : D64v0) (N : Nat) : LoopF (List Int) := fun no =>
  match no with
  | _ => fun _ _ => none
theorem b1_1 (d64v0 : D64v0) (N n : Nat) (v : P1_1.T) (κ : (i : Nat) → (Q1_1 i).T → Option (List Int)) :
    evc (T1 d64v0) (rawOf (RW1 d64v0)) (W1_1 d64v0 N) (reto k1.res .u8) (modeOf FT) 0 fuelC (bodyOf (loopN k1 1)) (P1_1.st v) (roundK 0 H1_1 P1_1 Q1_1 (u1_1 d64v0 N n) κ) = u1_1 d64v0 N (n + 1) v κ := by kernel_rfl
theorem o1_1 (d64v0 : D64v0) (hT : TabOK FT XT (T1 d64v0)) (hO : RawOK FT XT (rawOf (α := List Int) (RW1 d64v0))) (N : Nat) {s : St} {κ : Ex → St → Option (List Int)} {a : List Int} (h : lpOf 0 H1_1 P1_1 Q1_1 (u1_1 d64v0 N N) s κ = some a) : Out FT XT 0 (reto k1.res .u8) (loopN k1 1) s κ a := by
  rw [l1_1]
  exact loop_out (LP := W1_1 d64v0 N) (fu := fuelC) hT hO (fun _ _ => rfl) (b1_1 d64v0 N) loopOK_nil N h
def H1_0 : Trim := ⟨0, [], false, [0, 3, 9, 10, 11], []⟩
theorem l1_0 : loopN k1 0 = .loop H1_0 (bodyOf (loopN k1 0)) := by kernel_rfl
def P1_0 : Ps := ⟨[(0, (.tb (Sh.sl (Sh.int .u8)))), (2, .u), (3, (.int .i64)), (5, .u), (6, .u), (8, .u), (9, (.tb (Sh.sl (Sh.int .u8)))), (10, (.int .i64)), (11, (.int .i64)), (12, .u), (20, .u), (25, .u), (26, .u), (27, .u), (28, .u)], []⟩
def Q1_0 : Nat → Ps
  | 0 => ⟨[(0, (.tb (Sh.sl (Sh.int .u8)))), (2, .u), (3, (.int .i64)), (5, .u), (6, .u), (8, .u), (9, .u), (10, .u), (11, .u), (12, .u), (20, .u), (25, .u), (26, .u), (27, .u), (28, .u)], []⟩
  | _ => noPs
def u1_0 (d64v0 : D64v0) (N n : Nat) (v : P1_0.T) (κ : (i : Nat) → (Q1_0 i).T → Option (List Int)) : Option (List Int) :=
  L1_0 d64v0 N (fun (y0 : List (List Int)) (y1 : Int) => κ 0 ((y0, ((), (y1, ((), ((), ((), ((), ((), ((), ((), ((), ((), ((), ((), ((), ()))))))))))))))), ())) n v.1.1 v.1.2.2.1 v.1.2.2.2.2.2.2.1 v.1.2.2.2.2.2.2.2.1 v.1.2.2.2.2.2.2.2.2.1
def W1_0 (d64v0 : D64v0) (N : Nat) : LoopF (List Int) := fun no =>
  match no with
  | _ => fun _ _ => none
theorem b1_0 (d64v0 : D64v0) (N n : Nat) (v : P1_0.T) (κ : (i : Nat) → (Q1_0 i).T → Option (List Int)) :
    evc (T1 d64v0) (rawOf (RW1 d64v0)) (W1_0 d64v0 N) (reto k1.res .u8) (modeOf FT) 0 fuelC (bodyOf (loopN k1 0)) (P1_0.st v) (roundK 0 H1_0 P1_0 Q1_0 (u1_0 d64v0 N n) κ) = u1_0 d64v0 N (n + 1) v κ := by kernel_rfl
theorem o1_0 (d64v0 : D64v0) (hT : TabOK FT XT (T1 d64v0)) (hO : RawOK FT XT (rawOf (α := List Int) (RW1 d64v0))) (N : Nat) {s : St} {κ : Ex → St → Option (List Int)} {a : List Int} (h : lpOf 0 H1_0 P1_0 Q1_0 (u1_0 d64v0 N N) s κ = some a) : Out FT XT 0 (reto k1.res .u8) (loopN k1 0) s κ a := by
  rw [l1_0]
  exact loop_out (LP := W1_0 d64v0 N) (fu := fuelC) hT hO (fun _ _ => rfl) (b1_0 d64v0 N) loopOK_nil N h
def W1 (d64v0 : D64v0) (N : Nat) : LoopF (List Int) := fun no =>
  match no with
  | 0 => lpOf 0 H1_0 P1_0 Q1_0 (u1_0 d64v0 N N)
  | 1 => lpOf 0 H1_1 P1_1 Q1_1 (u1_1 d64v0 N N)
  | _ => fun _ _ => none
theorem e1 (d64v0 : D64v0) (N : Nat) (a0 : List (List Int)) : evc (T1 d64v0) (rawOf (RW1 d64v0)) (W1 d64v0 N) (reto k1.res .u8) (modeOf FT) 0 fuelC k1.body (env0 k1 (encL [(Sh.sl (Sh.sl (Sh.int .u8)))] (a0, ())), []) (endK (reto k1.res .u8)) = p1 d64v0 N a0 := by kernel_rfl
theorem ok1 (d64v0 : D64v0) (h64v0 : O64v0 d64v0) {f : D1} (hf : ∀ a0 r, f a0 = some r → ∃ N, p1 d64v0 N a0 = some r) : O1 f := by
  have hT : TabOK FT XT (T1 d64v0) := tb0
  have hO0 : RawOK FT XT (rawOf (α := List Int) (RW1 d64v0)) := by
    refine rawOf_ok (fun g en hg => ?_)
    unfold RW1 at hg
    split at hg <;> simp only [List.mem_cons, List.not_mem_nil, or_false] at hg <;> first | (subst hg; assumption) | (rcases hg with rfl | rfl <;> assumption) | (rcases hg with rfl | rfl | rfl <;> assumption) | (rcases hg with rfl | rfl | rfl | rfl <;> assumption)
  have hO : RawOK FT XT (rawOf (α := List Int) (RW1 d64v0)) := hO0
  refine ⟨rfl, fun v r h => ?_⟩
  obtain ⟨a0, _⟩ := v
  obtain ⟨N, h1⟩ := hf _ _ h
  exact ans_o (tab := T1 d64v0) (raw := (rawOf (RW1 d64v0))) (LP := W1 d64v0 N) (fu := fuelC) hT hO rfl rfl (Nat.le_of_ble_eq_true rfl) (loopOK_cons l1_0 (fun s κ a h => o1_0 d64v0 hT hO N h) (loopOK_cons l1_1 (fun s κ a h => o1_1 d64v0 hT hO N h) loopOK_nil)) ((e1 d64v0 N _).trans h1)

def T48v0 : Nat → Option Ent := tb []
def H48v0_0 : Trim := ⟨0, [], false, [0, 2, 3], []⟩
theorem l48v0_0 : loopN k48 0 = .loop H48v0_0 (bodyOf (loopN k48 0)) := by kernel_rfl
def P48v0_0 : Ps := ⟨[(0, (.slc 0 1)), (2, (.int .i64)), (3, (.int .i64)), (9, .u)], [(.ints false .u8)]⟩
def Q48v0_0 : Nat → Ps
  | 0 => ⟨[(0, .u), (2, .u), (3, .u), (9, .u)], [(.ints false .u8)]⟩
  | _ => noPs
def u48v0_0 (N n : Nat) (v : P48v0_0.T) (κ : (i : Nat) → (Q48v0_0 i).T → Option QR48v0.T) : Option QR48v0.T :=
  L48v0_0 N (fun (y0 : List Int) => κ 0 (((), ((), ((), ((), ())))), (y0, ()))) n v.1.1.1 v.1.1.2 v.1.2.1 v.1.2.2.1 v.2.1
def W48v0_0 (N : Nat) : LoopF QR48v0.T := fun no =>
  match no with
  | _ => fun _ _ => none
theorem b48v0_0 (N n : Nat) (v : P48v0_0.T) (κ : (i : Nat) → (Q48v0_0 i).T → Option QR48v0.T) :
    evc (T48v0) (rawOf RW0) (W48v0_0 N) (retr k48.res 1 QR48v0) (modeOf FT) 1 fuelC (bodyOf (loopN k48 0)) (P48v0_0.st v) (roundK 1 H48v0_0 P48v0_0 Q48v0_0 (u48v0_0 N n) κ) = u48v0_0 N (n + 1) v κ := by kernel_rfl
theorem o48v0_0 (hT : TabOK FT XT (T48v0)) (hO : RawOK FT XT (rawOf (α := QR48v0.T) RW0)) (N : Nat) {s : St} {κ : Ex → St → Option QR48v0.T} {a : QR48v0.T} (h : lpOf 1 H48v0_0 P48v0_0 Q48v0_0 (u48v0_0 N N) s κ = some a) : Out FT XT 1 (retr k48.res 1 QR48v0) (loopN k48 0) s κ a := by
  rw [l48v0_0]
  exact loop_out (LP := W48v0_0 N) (fu := fuelC) hT hO (fun _ _ => rfl) (b48v0_0 N) loopOK_nil N h
def W48v0 (N : Nat) : LoopF QR48v0.T := fun no =>
  match no with
  | 0 => lpOf 1 H48v0_0 P48v0_0 Q48v0_0 (u48v0_0 N N)
  | _ => fun _ _ => none
theorem e48v0 (N : Nat) (v : PR48v0.T) : evc (T48v0) (rawOf RW0) (W48v0 N) (retr k48.res 1 QR48v0) (modeOf FT) 1 fuelC k48.body (env0 k48 (PR48v0.a.st v.1), stH PR48v0.h v.2) (endK (retr k48.res 1 QR48v0)) = p48v0 N v.1.1.1 v.1.1.2 v.2.1 := by kernel_rfl
theorem ok48v0 {f : D48v0} (hf : ∀ a0 a1 a2 r, f a0 a1 a2 = some r → ∃ N, p48v0 N a0 a1 a2 = some r) : O48v0 f := by
  have hT : TabOK FT XT (T48v0) := tb0
  have hO0 : RawOK FT XT (rawOf (α := QR48v0.T) RW0) := rawOK0
  have hO : RawOK FT XT (rawOf (α := QR48v0.T) RW0) := hO0
  intro v r w h hw
  obtain ⟨N, h1⟩ := hf _ _ _ _ h
  exact ans_r (Q := QR48v0) (tab := T48v0) (raw := (rawOf RW0)) (LP := W48v0 N) (fu := fuelC) hT hO rfl rfl (Nat.le_of_ble_eq_true rfl) rfl (loopOK_cons l48v0_0 (fun s κ a h => o48v0_0 hT hO N h) loopOK_nil) ((e48v0 N v).trans h1) hw

def T19 (d48v0 : D48v0) : Nat → Option Ent := tb []
def RW19 (d48v0 : D48v0) : Nat → List REnt
  | 48 => [rn48v0 d48v0]
  | _ => []
def H19_0 : Trim := ⟨0, [], false, [0, 2, 8, 19, 20], []⟩
theorem l19_0 : loopN k19 0 = .loop H19_0 (bodyOf (loopN k19 0)) := by kernel_rfl
def P19_0 : Ps := ⟨[(0, (.int .u64)), (1, .u), (2, .bool), (6, .u), (7, .u), (8, (.slc 0 1)), (9, .u), (15, .u), (19, (.int .i64)), (20, (.int .i64)), (21, .u), (33, .u)], [(.ints false .u8)]⟩
def Q19_0 : Nat → Ps
  | 0 => ⟨[(0, .u), (1, .u), (2, .bool), (6, .u), (7, .u), (8, (.slc 0 1)), (9, .u), (15, .u), (19, .u), (20, .u), (21, .u), (33, .u)], [(.ints false .u8)]⟩
  | _ => noPs
def u19_0 (d48v0 : D48v0) (N n : Nat) (v : P19_0.T) (κ : (i : Nat) → (Q19_0 i).T → Option (((Sh.tu (Sh.pr (Sh.sl (Sh.int .u8)) (Sh.int .i64)))).T)) : Option (((Sh.tu (Sh.pr (Sh.sl (Sh.int .u8)) (Sh.int .i64)))).T) :=
  L19_0 d48v0 N (fun (y0 : Bool) (y1 : Nat) (y2 : Nat) (y3 : List Int) => κ 0 (((), ((), (y0, ((), ((), ((y1, y2), ((), ((), ((), ((), ((), ((), ())))))))))))), (y3, ()))) n v.1.1 v.1.2.2.1 v.1.2.2.2.2.2.1.1 v.1.2.2.2.2.2.1.2 v.1.2.2.2.2.2.2.2.2.1 v.1.2.2.2.2.2.2.2.2.2.1 v.2.1
def W19_0 (d48v0 : D48v0) (N : Nat) : LoopF (((Sh.tu (Sh.pr (Sh.sl (Sh.int .u8)) (Sh.int .i64)))).T) := fun no =>
  match no with
  | _ => fun _ _ => none
theorem b19_0 (d48v0 : D48v0) (N n : Nat) (v : P19_0.T) (κ : (i : Nat) → (Q19_0 i).T → Option (((Sh.tu (Sh.pr (Sh.sl (Sh.int .u8)) (Sh.int .i64)))).T)) :
    evc (T19 d48v0) (rawOf (RW19 d48v0)) (W19_0 d48v0 N) (retc k19.res (Sh.tu (Sh.pr (Sh.sl (Sh.int .u8)) (Sh.int .i64)))) (modeOf FT) 0 fuelC (bodyOf (loopN k19 0)) (P19_0.st v) (roundK 0 H19_0 P19_0 Q19_0 (u19_0 d48v0 N n) κ) = u19_0 d48v0 N (n + 1) v κ := by kernel_rfl
theorem o19_0 (d48v0 : D48v0) (hT : TabOK FT XT (T19 d48v0)) (hO : RawOK FT XT (rawOf (α := ((Sh.tu (Sh.pr (Sh.sl (Sh.int .u8)) (Sh.int .i64)))).T) (RW19 d48v0))) (N : Nat) {s : St} {κ : Ex → St → Option (((Sh.tu (Sh.pr (Sh.sl (Sh.int .u8)) (Sh.int .i64)))).T)} {a : ((Sh.tu (Sh.pr (Sh.sl (Sh.int .u8)) (Sh.int .i64)))).T} (h : lpOf 0 H19_0 P19_0 Q19_0 (u19_0 d48v0 N N) s κ = some a) : Out FT XT 0 (retc k19.res (Sh.tu (Sh.pr (Sh.sl (Sh.int .u8)) (Sh.int .i64)))) (loopN k19 0) s κ a := by
  rw [l19_0]
  exact loop_out (LP := W19_0 d48v0 N) (fu := fuelC) hT hO (fun _ _ => rfl) (b19_0 d48v0 N) loopOK_nil N h
def W19 (d48v0 : D48v0) (N : Nat) : LoopF (((Sh.tu (Sh.pr (Sh.sl (Sh.int .u8)) (Sh.int .i64)))).T) := fun no =>
  match no with
  | 0 => lpOf 0 H19_0 P19_0 Q19_0 (u19_0 d48v0 N N)
  | _ => fun _ _ => none
theorem e19 (d48v0 : D48v0) (N : Nat) (a0 : Int) (a1 : Int) (a2 : Bool) : evc (T19 d48v0) (rawOf (RW19 d48v0)) (W19 d48v0 N) (retc k19.res (Sh.tu (Sh.pr (Sh.sl (Sh.int .u8)) (Sh.int .i64)))) (modeOf FT) 0 fuelC k19.body (env0 k19 (encL [(Sh.int .u64), (Sh.int .i64), Sh.bool] (a0, (a1, (a2, ())))), []) (endK (retc k19.res (Sh.tu (Sh.pr (Sh.sl (Sh.int .u8)) (Sh.int .i64))))) = p19 d48v0 N a0 a1 a2 := by kernel_rfl
theorem ok19 (d48v0 : D48v0) (h48v0 : O48v0 d48v0) {f : D19} (hf : ∀ a0 a1 a2 r, f a0 a1 a2 = some r → ∃ N, p19 d48v0 N a0 a1 a2 = some r) : O19 f := by
  have hT : TabOK FT XT (T19 d48v0) := tb0
  have hO0 : RawOK FT XT (rawOf (α := ((Sh.tu (Sh.pr (Sh.sl (Sh.int .u8)) (Sh.int .i64)))).T) (RW19 d48v0)) := by
    refine rawOf_ok (fun g en hg => ?_)
    unfold RW19 at hg
    split at hg <;> simp only [List.mem_cons, List.not_mem_nil, or_false] at hg <;> first | (subst hg; assumption) | (rcases hg with rfl | rfl <;> assumption) | (rcases hg with rfl | rfl | rfl <;> assumption) | (rcases hg with rfl | rfl | rfl | rfl <;> assumption)
  have hO : RawOK FT XT (rawOf (α := ((Sh.tu (Sh.pr (Sh.sl (Sh.int .u8)) (Sh.int .i64)))).T) (RW19 d48v0)) := hO0
  refine ⟨rfl, fun v r h => ?_⟩
  obtain ⟨a0, a1, a2, _⟩ := v
  obtain ⟨N, h1⟩ := hf _ _ _ _ h
  exact ans_c (R := (Sh.tu (Sh.pr (Sh.sl (Sh.int .u8)) (Sh.int .i64)))) (tab := T19 d48v0) (raw := (rawOf (RW19 d48v0))) (LP := W19 d48v0 N) (fu := fuelC) hT hO rfl rfl (Nat.le_of_ble_eq_true rfl) (loopOK_cons l19_0 (fun s κ a h => o19_0 d48v0 hT hO N h) loopOK_nil) ((e19 d48v0 N _ _ _).trans h1)

def T21 : Nat → Option Ent := tb []
def H21_0 : Trim := ⟨0, [], false, [1, 6, 17, 18, 19], []⟩
theorem l21_0 : loopN k21 0 = .loop H21_0 (bodyOf (loopN k21 0)) := by kernel_rfl
def P21_0 : Ps := ⟨[(0, .u), (1, .bool), (4, .u), (5, .u), (6, (.int .u64)), (7, .u), (8, .u), (16, .u), (17, (.tb (Sh.int .u8))), (18, (.int .i64)), (19, (.int .i64)), (20, .u), (24, .u)], []⟩
def Q21_0 : Nat → Ps
  | 0 => ⟨[(0, .u), (1, .u), (4, .u), (5, .u), (6, (.int .u64)), (7, .u), (8, .u), (16, .u), (17, .u), (18, .u), (19, .u), (20, .u), (24, .u)], []⟩
  | _ => noPs
def u21_0 (N n : Nat) (v : P21_0.T) (κ : (i : Nat) → (Q21_0 i).T → Option (((Sh.tu (Sh.pr (Sh.int .u64) (Sh.int .i64)))).T)) : Option (((Sh.tu (Sh.pr (Sh.int .u64) (Sh.int .i64)))).T) :=
  L21_0 N (fun (y0 : Int) => κ 0 (((), ((), ((), ((), (y0, ((), ((), ((), ((), ((), ((), ((), ((), ()))))))))))))), ())) n v.1.2.1 v.1.2.2.2.2.1 v.1.2.2.2.2.2.2.2.2.1 v.1.2.2.2.2.2.2.2.2.2.1 v.1.2.2.2.2.2.2.2.2.2.2.1
def W21_0 (N : Nat) : LoopF (((Sh.tu (Sh.pr (Sh.int .u64) (Sh.int .i64)))).T) := fun no =>
  match no with
  | _ => fun _ _ => none
theorem b21_0 (N n : Nat) (v : P21_0.T) (κ : (i : Nat) → (Q21_0 i).T → Option (((Sh.tu (Sh.pr (Sh.int .u64) (Sh.int .i64)))).T)) :
    evc (T21) (rawOf RW0) (W21_0 N) (retc k21.res (Sh.tu (Sh.pr (Sh.int .u64) (Sh.int .i64)))) (modeOf FT) 0 fuelC (bodyOf (loopN k21 0)) (P21_0.st v) (roundK 0 H21_0 P21_0 Q21_0 (u21_0 N n) κ) = u21_0 N (n + 1) v κ := by kernel_rfl
theorem o21_0 (hT : TabOK FT XT (T21)) (hO : RawOK FT XT (rawOf (α := ((Sh.tu (Sh.pr (Sh.int .u64) (Sh.int .i64)))).T) RW0)) (N : Nat) {s : St} {κ : Ex → St → Option (((Sh.tu (Sh.pr (Sh.int .u64) (Sh.int .i64)))).T)} {a : ((Sh.tu (Sh.pr (Sh.int .u64) (Sh.int .i64)))).T} (h : lpOf 0 H21_0 P21_0 Q21_0 (u21_0 N N) s κ = some a) : Out FT XT 0 (retc k21.res (Sh.tu (Sh.pr (Sh.int .u64) (Sh.int .i64)))) (loopN k21 0) s κ a := by
  rw [l21_0]
  exact loop_out (LP := W21_0 N) (fu := fuelC) hT hO (fun _ _ => rfl) (b21_0 N) loopOK_nil N h
def W21 (N : Nat) : LoopF (((Sh.tu (Sh.pr (Sh.int .u64) (Sh.int .i64)))).T) := fun no =>
  match no with
  | 0 => lpOf 0 H21_0 P21_0 Q21_0 (u21_0 N N)
  | _ => fun _ _ => none
theorem e21 (N : Nat) (a0 : List Int) (a1 : Bool) : evc (T21) (rawOf RW0) (W21 N) (retc k21.res (Sh.tu (Sh.pr (Sh.int .u64) (Sh.int .i64)))) (modeOf FT) 0 fuelC k21.body (env0 k21 (encL [(Sh.sl (Sh.int .u8)), Sh.bool] (a0, (a1, ()))), []) (endK (retc k21.res (Sh.tu (Sh.pr (Sh.int .u64) (Sh.int .i64))))) = p21 N a0 a1 := by kernel_rfl
theorem ok21 {f : D21} (hf : ∀ a0 a1 r, f a0 a1 = some r → ∃ N, p21 N a0 a1 = some r) : O21 f := by
  have hT : TabOK FT XT (T21) := tb0
  have hO0 : RawOK FT XT (rawOf (α := ((Sh.tu (Sh.pr (Sh.int .u64) (Sh.int .i64)))).T) RW0) := rawOK0
  have hO : RawOK FT XT (rawOf (α := ((Sh.tu (Sh.pr (Sh.int .u64) (Sh.int .i64)))).T) RW0) := hO0
  refine ⟨rfl, fun v r h => ?_⟩
  obtain ⟨a0, a1, _⟩ := v
  obtain ⟨N, h1⟩ := hf _ _ _ h
  exact ans_c (R := (Sh.tu (Sh.pr (Sh.int .u64) (Sh.int .i64)))) (tab := T21) (raw := (rawOf RW0)) (LP := W21 N) (fu := fuelC) hT hO rfl rfl (Nat.le_of_ble_eq_true rfl) (loopOK_cons l21_0 (fun s κ a h => o21_0 hT hO N h) loopOK_nil) ((e21 N _ _).trans h1)

def T46 (c1 : D1) : Nat → Option Ent := tb [(1, en1 c1)]
def W46 (c1 : D1) (N : Nat) : LoopF (List Int) := fun no =>
  match no with
  | _ => fun _ _ => none
theorem e46 (c1 : D1) (N : Nat) (a0 : List (List Int)) : evc (T46 c1) (rawOf RW0) (W46 c1 N) (reto k46.res .u8) (modeOf FT) 0 fuelC k46.body (env0 k46 (encL [(Sh.sl (Sh.sl (Sh.int .u8)))] (a0, ())), []) (endK (reto k46.res .u8)) = p46 c1 N a0 := by kernel_rfl
theorem ok46 (c1 : D1) (h1 : O1 c1) {f : D46} (hf : ∀ a0 r, f a0 = some r → ∃ N, p46 c1 N a0 = some r) : O46 f := by
  have hT : TabOK FT XT (T46 c1) := (tb1 h1 tb0)
  have hO0 : RawOK FT XT (rawOf (α := List Int) RW0) := rawOK0
  have hO : RawOK FT XT (rawOf (α := List Int) RW0) := hO0
  refine ⟨rfl, fun v r h => ?_⟩
  obtain ⟨a0, _⟩ := v
  obtain ⟨N, h1⟩ := hf _ _ h
  exact ans_o (tab := T46 c1) (raw := (rawOf RW0)) (LP := W46 c1 N) (fu := fuelC) hT hO rfl rfl (Nat.le_of_ble_eq_true rfl) loopOK_nil ((e46 c1 N _).trans h1)

theorem ok100 {f : D100} (hf : ∀ a0 a1 a2 r, f a0 a1 a2 = some r → ∃ N, p100 N a0 a1 a2 = some r) : O100 f :=
 okc (fu := fuelC) tb0 rfl rfl rfl (fun _ => rfl) (fun v r h => by
 obtain ⟨N, h⟩ := hf v.1 v.2.1 v.2.2.1 r h
 refine Eq.trans ?_ h; kernel_rfl) rfl

theorem ok120 {f : D120} (hf : ∀ a0 a1 r, f a0 a1 = some r → ∃ N, p120 N a0 a1 = some r) : O120 f :=
 okc (fu := fuelC) tb0 rfl rfl rfl (fun _ => rfl) (fun v r h => by
 obtain ⟨N, h⟩ := hf v.1 v.2.1 r h
 refine Eq.trans ?_ h; kernel_rfl) rfl

theorem ok116 (c120 : D120) (h120 : O120 c120) {f : D116} (hf : ∀ a0 a1 a2 r, f a0 a1 a2 = some r → ∃ N, p116 c120 N a0 a1 a2 = some r) : O116 f :=
 okc (fu := fuelC) (tb1 h120 tb0) rfl rfl rfl (fun _ => rfl) (fun v r h => by
 obtain ⟨N, h⟩ := hf v.1 v.2.1 v.2.2.1 r h
 refine Eq.trans ?_ h; kernel_rfl) rfl

def T115v0 (c116 : D116) : Nat → Option Ent := tb [(116, en116 c116)]
def W115v0 (c116 : D116) (N : Nat) : LoopF QR115v0.T := fun no =>
  match no with
  | _ => fun _ _ => none
theorem e115v0 (c116 : D116) (N : Nat) (v : PR115v0.T) : evc (T115v0 c116) (rawOf RW0) (W115v0 c116 N) (retr k115.res 2 QR115v0) (modeOf FT) 2 fuelC k115.body (env0 k115 (PR115v0.a.st v.1), stH PR115v0.h v.2) (endK (retr k115.res 2 QR115v0)) = p115v0 c116 N v.1.1 v.2.1 v.2.2.1 := by kernel_rfl
theorem ok115v0 (c116 : D116) (h116 : O116 c116) {f : D115v0} (hf : ∀ a0 a1 a2 r, f a0 a1 a2 = some r → ∃ N, p115v0 c116 N a0 a1 a2 = some r) : O115v0 f := by
  have hT : TabOK FT XT (T115v0 c116) := (tb1 h116 tb0)
  have hO0 : RawOK FT XT (rawOf (α := QR115v0.T) RW0) := rawOK0
  have hO : RawOK FT XT (rawOf (α := QR115v0.T) RW0) := hO0
  intro v r w h hw
  obtain ⟨N, h1⟩ := hf _ _ _ _ h
  exact ans_r (Q := QR115v0) (tab := T115v0 c116) (raw := (rawOf RW0)) (LP := W115v0 c116 N) (fu := fuelC) hT hO rfl rfl (Nat.le_of_ble_eq_true rfl) rfl loopOK_nil ((e115v0 c116 N v).trans h1) hw

def T114v0 (d115v0 : D115v0) : Nat → Option Ent := tb []
def RW114v0 (d115v0 : D115v0) : Nat → List REnt
  | 115 => [rn115v0 d115v0]
  | _ => []
def H114v0_0 : Trim := ⟨0, [], false, [1, 5, 6], []⟩
theorem l114v0_0 : loopN k114 0 = .loop H114v0_0 (bodyOf (loopN k114 0)) := by kernel_rfl
def P114v0_0 : Ps := ⟨[(0, .u), (1, (.fn 115 (.cons (.ptr 0 0) (.cons (.ptr 1 0) .nil)))), (4, .u), (5, (.int .i64)), (6, (.int .i64)), (7, .u), (11, .u), (21, .u)], [(.ints false .i64), (.ints false .i64)]⟩
def Q114v0_0 : Nat → Ps
  | 0 => ⟨[(0, .u), (1, .u), (4, .u), (5, (.int .i64)), (6, .u), (7, .u), (11, .u), (21, .u)], [(.ints false .i64), (.ints false .i64)]⟩
  | _ => noPs
def u114v0_0 (d115v0 : D115v0) (N n : Nat) (v : P114v0_0.T) (κ : (i : Nat) → (Q114v0_0 i).T → Option QR114v0.T) : Option QR114v0.T :=
  L114v0_0 d115v0 N (fun (y0 : Int) (y1 : List Int) (y2 : List Int) => κ 0 (((), ((), ((), (y0, ((), ((), ((), ((), ())))))))), (y1, (y2, ())))) n v.1.2.2.2.1 v.1.2.2.2.2.1 v.2.1 v.2.2.1
def W114v0_0 (d115v0 : D115v0) (N : Nat) : LoopF QR114v0.T := fun no =>
  match no with
  | _ => fun _ _ => none
theorem b114v0_0 (d115v0 : D115v0) (N n : Nat) (v : P114v0_0.T) (κ : (i : Nat) → (Q114v0_0 i).T → Option QR114v0.T) :
    evc (T114v0 d115v0) (rawOf (RW114v0 d115v0)) (W114v0_0 d115v0 N) (retr k114.res 2 QR114v0) (modeOf FT) 2 fuelC (bodyOf (loopN k114 0)) (P114v0_0.st v) (roundK 2 H114v0_0 P114v0_0 Q114v0_0 (u114v0_0 d115v0 N n) κ) = u114v0_0 d115v0 N (n + 1) v κ := by kernel_rfl
theorem o114v0_0 (d115v0 : D115v0) (hT : TabOK FT XT (T114v0 d115v0)) (hO : RawOK FT XT (rawOf (α := QR114v0.T) (RW114v0 d115v0))) (N : Nat) {s : St} {κ : Ex → St → Option QR114v0.T} {a : QR114v0.T} (h : lpOf 2 H114v0_0 P114v0_0 Q114v0_0 (u114v0_0 d115v0 N N) s κ = some a) : Out FT XT 2 (retr k114.res 2 QR114v0) (loopN k114 0) s κ a := by
  rw [l114v0_0]
  exact loop_out (LP := W114v0_0 d115v0 N) (fu := fuelC) hT hO (fun _ _ => rfl) (b114v0_0 d115v0 N) loopOK_nil N h
def W114v0 (d115v0 : D115v0) (N : Nat) : LoopF QR114v0.T := fun no =>
  match no with
  | 0 => lpOf 2 H114v0_0 P114v0_0 Q114v0_0 (u114v0_0 d115v0 N N)
  | _ => fun _ _ => none
theorem e114v0 (d115v0 : D115v0) (N : Nat) (v : PR114v0.T) : evc (T114v0 d115v0) (rawOf (RW114v0 d115v0)) (W114v0 d115v0 N) (retr k114.res 2 QR114v0) (modeOf FT) 2 fuelC k114.body (env0 k114 (PR114v0.a.st v.1), stH PR114v0.h v.2) (endK (retr k114.res 2 QR114v0)) = p114v0 d115v0 N v.1.1 v.2.1 v.2.2.1 := by kernel_rfl
theorem ok114v0 (d115v0 : D115v0) (h115v0 : O115v0 d115v0) {f : D114v0} (hf : ∀ a0 a1 a2 r, f a0 a1 a2 = some r → ∃ N, p114v0 d115v0 N a0 a1 a2 = some r) : O114v0 f := by
  have hT : TabOK FT XT (T114v0 d115v0) := tb0
  have hO0 : RawOK FT XT (rawOf (α := QR114v0.T) (RW114v0 d115v0)) := by
    refine rawOf_ok (fun g en hg => ?_)
    unfold RW114v0 at hg
    split at hg <;> simp only [List.mem_cons, List.not_mem_nil, or_false] at hg <;> first | (subst hg; assumption) | (rcases hg with rfl | rfl <;> assumption) | (rcases hg with rfl | rfl | rfl <;> assumption) | (rcases hg with rfl | rfl | rfl | rfl <;> assumption)
  have hO : RawOK FT XT (rawOf (α := QR114v0.T) (RW114v0 d115v0)) := hO0
  intro v r w h hw
  obtain ⟨N, h1⟩ := hf _ _ _ _ h
  exact ans_r (Q := QR114v0) (tab := T114v0 d115v0) (raw := (rawOf (RW114v0 d115v0))) (LP := W114v0 d115v0 N) (fu := fuelC) hT hO rfl rfl (Nat.le_of_ble_eq_true rfl) rfl (loopOK_cons l114v0_0 (fun s κ a h => o114v0_0 d115v0 hT hO N h) loopOK_nil) ((e114v0 d115v0 N v).trans h1) hw

def T101 (d114v0 : D114v0) : Nat → Option Ent := tb []
def RW101 (d114v0 : D114v0) : Nat → List REnt
  | 114 => [rn114v0 d114v0]
  | _ => []
def W101 (d114v0 : D114v0) (N : Nat) : LoopF (((Sh.int .u64)).T) := fun no =>
  match no with
  | _ => fun _ _ => none
theorem e101 (d114v0 : D114v0) (N : Nat) (a0 : Int) (a1 : Int) : evc (T101 d114v0) (rawOf (RW101 d114v0)) (W101 d114v0 N) (retc k101.res (Sh.int .u64)) (modeOf FT) 0 fuelC k101.body (env0 k101 (encL [(Sh.int .i64), (Sh.int .i64)] (a0, (a1, ()))), []) (endK (retc k101.res (Sh.int .u64))) = p101 d114v0 N a0 a1 := by kernel_rfl
theorem ok101 (d114v0 : D114v0) (h114v0 : O114v0 d114v0) {f : D101} (hf : ∀ a0 a1 r, f a0 a1 = some r → ∃ N, p101 d114v0 N a0 a1 = some r) : O101 f := by
  have hT : TabOK FT XT (T101 d114v0) := tb0
  have hO0 : RawOK FT XT (rawOf (α := ((Sh.int .u64)).T) (RW101 d114v0)) := by
    refine rawOf_ok (fun g en hg => ?_)
    unfold RW101 at hg
    split at hg <;> simp only [List.mem_cons, List.not_mem_nil, or_false] at hg <;> first | (subst hg; assumption) | (rcases hg with rfl | rfl <;> assumption) | (rcases hg with rfl | rfl | rfl <;> assumption) | (rcases hg with rfl | rfl | rfl | rfl <;> assumption)
  have hO : RawOK FT XT (rawOf (α := ((Sh.int .u64)).T) (RW101 d114v0)) := hO0
  refine ⟨rfl, fun v r h => ?_⟩
  obtain ⟨a0, a1, _⟩ := v
  obtain ⟨N, h1⟩ := hf _ _ _ h
  exact ans_c (R := (Sh.int .u64)) (tab := T101 d114v0) (raw := (rawOf (RW101 d114v0))) (LP := W101 d114v0 N) (fu := fuelC) hT hO rfl rfl (Nat.le_of_ble_eq_true rfl) loopOK_nil ((e101 d114v0 N _ _).trans h1)

theorem ok75 (c100 : D100) (c101 : D101) (h100 : O100 c100) (h101 : O101 c101) {f : D75} (hf : ∀ a0 a1 a2 r, f a0 a1 a2 = some r → ∃ N, p75 c100 c101 N a0 a1 a2 = some r) : O75 f :=
 okc (fu := fuelC) (tb1 h100 (tb1 h101 tb0)) rfl rfl rfl (fun _ => rfl) (fun v r h => by
 obtain ⟨N, h⟩ := hf v.1 v.2.1 v.2.2.1 r h
 refine Eq.trans ?_ h; kernel_rfl) rfl

def T192 (c21 : D21) : Nat → Option Ent := tb [(21, en21 c21)]
def H192_0 : Trim := ⟨0, [], false, [1, 2, 3, 7], []⟩
theorem l192_0 : loopN k192 0 = .loop H192_0 (bodyOf (loopN k192 0)) := by kernel_rfl
def P192_0 : Ps := ⟨[(0, .u), (1, (.ptr 0 0)), (2, (.ptr 1 0)), (3, (.ptr 2 0)), (4, .u), (5, .u), (7, (.int .i64)), (8, .u)], [(.ints false .u8), (.ints false .u32), (.ints false .u32)]⟩
def Q192_0 : Nat → Ps
  | 0 => ⟨[(0, .u), (1, .u), (2, (.ptr 0 0)), (3, (.ptr 1 0)), (4, .u), (5, .u), (7, .u), (8, .u)], [(.ints false .u32), (.ints false .u32)]⟩
  | _ => noPs
def u192_0 (c21 : D21) (N n : Nat) (v : P192_0.T) (κ : (i : Nat) → (Q192_0 i).T → Option (((Sh.ar .u32)).T)) : Option (((Sh.ar .u32)).T) :=
  L192_0 c21 N (fun (y0 : List Int) (y1 : List Int) => κ 0 (((), ((), ((), ((), ((), ((), ((), ((), ())))))))), (y0, (y1, ())))) n v.1.2.2.2.2.2.2.1 v.2.1 v.2.2.1 v.2.2.2.1
def W192_0 (c21 : D21) (N : Nat) : LoopF (((Sh.ar .u32)).T) := fun no =>
  match no with
  | _ => fun _ _ => none
theorem b192_0 (c21 : D21) (N n : Nat) (v : P192_0.T) (κ : (i : Nat) → (Q192_0 i).T → Option (((Sh.ar .u32)).T)) :
    evc (T192 c21) (rawOf RW0) (W192_0 c21 N) (retc k192.res (Sh.ar .u32)) (modeOf FT) 0 fuelC (bodyOf (loopN k192 0)) (P192_0.st v) (roundK 0 H192_0 P192_0 Q192_0 (u192_0 c21 N n) κ) = u192_0 c21 N (n + 1) v κ := by kernel_rfl
theorem o192_0 (c21 : D21) (hT : TabOK FT XT (T192 c21)) (hO : RawOK FT XT (rawOf (α := ((Sh.ar .u32)).T) RW0)) (N : Nat) {s : St} {κ : Ex → St → Option (((Sh.ar .u32)).T)} {a : ((Sh.ar .u32)).T} (h : lpOf 0 H192_0 P192_0 Q192_0 (u192_0 c21 N N) s κ = some a) : Out FT XT 0 (retc k192.res (Sh.ar .u32)) (loopN k192 0) s κ a := by
  rw [l192_0]
  exact loop_out (LP := W192_0 c21 N) (fu := fuelC) hT hO (fun _ _ => rfl) (b192_0 c21 N) loopOK_nil N h
def W192 (c21 : D21) (N : Nat) : LoopF (((Sh.ar .u32)).T) := fun no =>
  match no with
  | 0 => lpOf 0 H192_0 P192_0 Q192_0 (u192_0 c21 N N)
  | _ => fun _ _ => none
theorem e192 (c21 : D21) (N : Nat) (a0 : List Int) : evc (T192 c21) (rawOf RW0) (W192 c21 N) (retc k192.res (Sh.ar .u32)) (modeOf FT) 0 fuelC k192.body (env0 k192 (encL [(Sh.ar .u8)] (a0, ())), []) (endK (retc k192.res (Sh.ar .u32))) = p192 c21 N a0 := by kernel_rfl
theorem ok192 (c21 : D21) (h21 : O21 c21) {f : D192} (hf : ∀ a0 r, f a0 = some r → ∃ N, p192 c21 N a0 = some r) : O192 f := by
  have hT : TabOK FT XT (T192 c21) := (tb1 h21 tb0)
  have hO0 : RawOK FT XT (rawOf (α := ((Sh.ar .u32)).T) RW0) := rawOK0
  have hO : RawOK FT XT (rawOf (α := ((Sh.ar .u32)).T) RW0) := hO0
  refine ⟨rfl, fun v r h => ?_⟩
  obtain ⟨a0, _⟩ := v
  obtain ⟨N, h1⟩ := hf _ _ h
  exact ans_c (R := (Sh.ar .u32)) (tab := T192 c21) (raw := (rawOf RW0)) (LP := W192 c21 N) (fu := fuelC) hT hO rfl rfl (Nat.le_of_ble_eq_true rfl) (loopOK_cons l192_0 (fun s κ a h => o192_0 c21 hT hO N h) loopOK_nil) ((e192 c21 N _).trans h1)

def T193v0 (c75 : D75) : Nat → Option Ent := tb [(75, en75 c75)]
def W193v0 (c75 : D75) (N : Nat) : LoopF QR193v0.T := fun no =>
  match no with
  | _ => fun _ _ => none
theorem e193v0 (c75 : D75) (N : Nat) (v : PR193v0.T) : evc (T193v0 c75) (rawOf RW0) (W193v0 c75 N) (retr k193.res 0 QR193v0) (modeOf FT) 0 fuelC k193.body (env0 k193 (PR193v0.a.st v.1), stH PR193v0.h v.2) (endK (retr k193.res 0 QR193v0)) = p193v0 c75 N  := by kernel_rfl
theorem ok193v0 (c75 : D75) (h75 : O75 c75) {f : D193v0} (hf : ∀  r, f  = some r → ∃ N, p193v0 c75 N  = some r) : O193v0 f := by
  have hT : TabOK FT XT (T193v0 c75) := (tb1 h75 tb0)
  have hO0 : RawOK FT XT (rawOf (α := QR193v0.T) RW0) := rawOK0
  have hO : RawOK FT XT (rawOf (α := QR193v0.T) RW0) := hO0
  intro v r w h hw
  obtain ⟨N, h1⟩ := hf  _ h
  exact ans_r (Q := QR193v0) (tab := T193v0 c75) (raw := (rawOf RW0)) (LP := W193v0 c75 N) (fu := fuelC) hT hO rfl rfl (Nat.le_of_ble_eq_true rfl) rfl loopOK_nil ((e193v0 c75 N v).trans h1) hw

theorem ok194 {f : D194} (hf : ∀ a0 a1 a2 a3 r, f a0 a1 a2 a3 = some r → ∃ N, p194 N a0 a1 a2 a3 = some r) : O194 f :=
 okc (fu := fuelC) tb0 rfl rfl rfl (fun _ => rfl) (fun v r h => by
 obtain ⟨N, h⟩ := hf v.1 v.2.1 v.2.2.1 v.2.2.2.1 r h
 refine Eq.trans ?_ h; kernel_rfl) rfl

theorem ok195 {f : D195} (hf : ∀ a0 a1 r, f a0 a1 = some r → ∃ N, p195 N a0 a1 = some r) : O195 f :=
 okc (fu := fuelC) tb0 rfl rfl rfl (fun _ => rfl) (fun v r h => by
 obtain ⟨N, h⟩ := hf v.1 v.2.1 r h
 refine Eq.trans ?_ h; kernel_rfl) rfl

def T174 (c192 : D192) (d193v0 : D193v0) (c194 : D194) (c195 : D195) : Nat → Option Ent := tb [(192, en192 c192), (194, en194 c194), (195, en195 c195)]
def RW174 (c192 : D192) (d193v0 : D193v0) (c194 : D194) (c195 : D195) : Nat → List REnt
  | 193 => [rn193v0 d193v0]
  | _ => []
def H174_2 : Trim := ⟨2, [], false, [2, 4, 6, 61], []⟩
theorem l174_2 : loopN k174 2 = .loop H174_2 (bodyOf (loopN k174 2)) := by kernel_rfl
def P174_2 : Ps := ⟨[(0, .u), (1, .u), (2, (.ptr 0 0)), (3, .u), (4, (.ptr 1 0)), (5, .u), (6, (.ptr 2 0)), (7, .u), (8, .u), (9, .u), (10, .u), (11, .u), (12, .u), (16, .u), (17, .u), (18, .u), (22, .u), (23, .u), (24, .u), (61, (.int .i64)), (62, .u)], [(.ints false .u32), (.ints false .u32), (.ints false .u32)]⟩
def Q174_2 : Nat → Ps
  | 4 => ⟨[(0, .u), (1, .u), (2, .u), (3, .u), (4, (.ptr 0 0)), (5, .u), (6, (.ptr 1 0)), (7, .u), (8, .u), (9, .u), (10, .u), (11, .u), (12, .u), (16, .u), (17, .u), (18, .u), (22, .u), (23, .u), (24, .u), (61, .u), (62, .u)], [(.ints false .u32), (.ints false .u32)]⟩
  | _ => noPs
def u174_2 (c192 : D192) (d193v0 : D193v0) (c194 : D194) (c195 : D195) (N n : Nat) (v : P174_2.T) (κ : (i : Nat) → (Q174_2 i).T → Option (((Sh.ar .u32)).T)) : Option (((Sh.ar .u32)).T) :=
  L174_2 c192 d193v0 c194 c195 N (fun (y0 : List Int) (y1 : List Int) => κ 4 (((), ((), ((), ((), ((), ((), ((), ((), ((), ((), ((), ((), ((), ((), ((), ((), ((), ((), ((), ((), ((), ()))))))))))))))))))))), (y0, (y1, ())))) n v.1.2.2.2.2.2.2.2.2.2.2.2.2.2.2.2.2.2.2.2.1 v.2.1 v.2.2.1 v.2.2.2.1
def W174_2 (c192 : D192) (d193v0 : D193v0) (c194 : D194) (c195 : D195) (N : Nat) : LoopF (((Sh.ar .u32)).T) := fun no =>
  match no with
  | _ => fun _ _ => none
theorem b174_2 (c192 : D192) (d193v0 : D193v0) (c194 : D194) (c195 : D195) (N n : Nat) (v : P174_2.T) (κ : (i : Nat) → (Q174_2 i).T → Option (((Sh.ar .u32)).T)) :
    evc (T174 c192 d193v0 c194 c195) (rawOf (RW174 c192 d193v0 c194 c195)) (W174_2 c192 d193v0 c194 c195 N) (retc k174.res (Sh.ar .u32)) (modeOf FT) 0 fuelC (bodyOf (loopN k174 2)) (P174_2.st v) (roundK 0 H174_2 P174_2 Q174_2 (u174_2 c192 d193v0 c194 c195 N n) κ) = u174_2 c192 d193v0 c194 c195 N (n + 1) v κ := by kernel_rfl
theorem o174_2 (c192 : D192) (d193v0 : D193v0) (c194 : D194) (c195 : D195) (hT : TabOK FT XT (T174 c192 d193v0 c194 c195)) (hO : RawOK FT XT (rawOf (α := ((Sh.ar .u32)).T) (RW174 c192 d193v0 c194 c195))) (N : Nat) {s : St} {κ : Ex → St → Option (((Sh.ar .u32)).T)} {a : ((Sh.ar .u32)).T} (h : lpOf 0 H174_2 P174_2 Q174_2 (u174_2 c192 d193v0 c194 c195 N N) s κ = some a) : Out FT XT 0 (retc k174.res (Sh.ar .u32)) (loopN k174 2) s κ a := by
  rw [l174_2]
  exact loop_out (LP := W174_2 c192 d193v0 c194 c195 N) (fu := fuelC) hT hO (fun _ _ => rfl) (b174_2 c192 d193v0 c194 c195 N) loopOK_nil N h
def H174_1 : Trim := ⟨1, [], false, [2, 4, 5, 6, 7, 8, 16, 17, 22, 23], []⟩
theorem l174_1 : loopN k174 1 = .loop H174_1 (bodyOf (loopN k174 1)) := by kernel_rfl
def P174_1 : Ps := ⟨[(0, .u), (1, .u), (2, (.ptr 0 0)), (3, .u), (4, (.ptr 1 0)), (5, (.ptr 2 0)), (6, (.ptr 3 0)), (7, (.int .i64)), (8, (.ptr 4 0)), (9, .u), (10, .u), (11, .u), (12, .u), (16, (.vs (.cons (.int .u32) (.cons (.int .i64) (.cons (.int .i64) (.cons (.int .i64) (.cons (.int .i64) (.cons (.int .i64) (.cons (.int .i64) (.cons (.int .i64) (.cons (.int .i64) (.cons (.int .i64) (.cons (.int .i64) (.cons (.int .i64) (.cons (.int .i64) (.cons (.int .i64) (.cons (.int .i64) (.cons (.int .i64) (.cons (.int .i64) (.cons (.int .i64) (.cons (.int .i64) (.cons (.int .i64) (.cons (.int .i64) (.cons (.int .u32) (.cons (.int .i64) (.cons (.int .i64) (.cons (.int .i64) (.cons (.int .i64) (.cons (.int .i64) (.cons (.int .i64) (.cons (.int .i64) (.cons (.int .i64) (.cons (.int .i64) (.cons (.int .i64) (.cons (.int .i64) (.cons (.int .i64) (.cons (.int .i64) (.cons (.int .i64) (.cons (.int .i64) (.cons (.int .i64) (.cons (.int .i64) (.cons (.int .i64) (.cons (.int .i64) (.cons (.int .i64) (.cons (.int .u32) (.cons (.int .i64) (.cons (.int .i64) (.cons (.int .i64) (.cons (.int .i64) (.cons (.int .i64) (.cons (.int .i64) (.cons (.int .i64) (.cons (.int .i64) (.cons (.int .i64) (.cons (.int .i64) (.cons (.int .i64) (.cons (.int .i64) (.cons (.int .i64) (.cons (.int .i64) (.cons (.int .i64) (.cons (.int .i64) (.cons (.int .i64) (.cons (.int .i64) (.cons (.int .i64) (.cons (.int .i64) .nil))))))))))))))))))))))))))))))))))))))))))))))))))))))))))))))))), (17, (.int .i64)), (18, .u), (22, (.ar .i64)), (23, (.int .i64)), (24, .u), (61, .u), (62, .u)], [(.ints false .u32), (.ints false .u32), (.ints false .u32), (.ints false .u32), (.vals false (.cons (.int .u32) (.cons (.int .i64) (.cons (.int .i64) (.cons (.int .i64) (.cons (.int .i64) (.cons (.int .i64) (.cons (.int .i64) (.cons (.int .i64) (.cons (.int .i64) (.cons (.int .i64) (.cons (.int .i64) (.cons (.int .i64) (.cons (.int .i64) (.cons (.int .i64) (.cons (.int .i64) (.cons (.int .i64) (.cons (.int .i64) (.cons (.int .i64) (.cons (.int .i64) (.cons (.int .i64) (.cons (.int .i64) .nil))))))))))))))))))))))]⟩
def Q174_1 : Nat → Ps
  | 2 => ⟨[(0, .u), (1, .u), (2, (.ptr 0 0)), (3, .u), (4, (.ptr 1 0)), (5, (.ptr 2 0)), (6, (.ptr 3 0)), (7, .u), (8, .u), (9, .u), (10, .u), (11, .u), (12, .u), (16, (.vs (.cons (.int .u32) (.cons (.int .i64) (.cons (.int .i64) (.cons (.int .i64) (.cons (.int .i64) (.cons (.int .i64) (.cons (.int .i64) (.cons (.int .i64) (.cons (.int .i64) (.cons (.int .i64) (.cons (.int .i64) (.cons (.int .i64) (.cons (.int .i64) (.cons (.int .i64) (.cons (.int .i64) (.cons (.int .i64) (.cons (.int .i64) (.cons (.int .i64) (.cons (.int .i64) (.cons (.int .i64) (.cons (.int .i64) (.cons (.int .u32) (.cons (.int .i64) (.cons (.int .i64) (.cons (.int .i64) (.cons (.int .i64) (.cons (.int .i64) (.cons (.int .i64) (.cons (.int .i64) (.cons (.int .i64) (.cons (.int .i64) (.cons (.int .i64) (.cons (.int .i64) (.cons (.int .i64) (.cons (.int .i64) (.cons (.int .i64) (.cons (.int .i64) (.cons (.int .i64) (.cons (.int .i64) (.cons (.int .i64) (.cons (.int .i64) (.cons (.int .i64) (.cons (.int .u32) (.cons (.int .i64) (.cons (.int .i64) (.cons (.int .i64) (.cons (.int .i64) (.cons (.int .i64) (.cons (.int .i64) (.cons (.int .i64) (.cons (.int .i64) (.cons (.int .i64) (.cons (.int .i64) (.cons (.int .i64) (.cons (.int .i64) (.cons (.int .i64) (.cons (.int .i64) (.cons (.int .i64) (.cons (.int .i64) (.cons (.int .i64) (.cons (.int .i64) (.cons (.int .i64) (.cons (.int .i64) .nil))))))))))))))))))))))))))))))))))))))))))))))))))))))))))))))))), (17, (.int .i64)), (18, .u), (22, .u), (23, .u), (24, .u), (61, .u), (62, .u)], [(.ints false .u32), (.ints false .u32), (.ints false .u32), (.ints false .u32)]⟩
  | _ => noPs
def u174_1 (c192 : D192) (d193v0 : D193v0) (c194 : D194) (c195 : D195) (N n : Nat) (v : P174_1.T) (κ : (i : Nat) → (Q174_1 i).T → Option (((Sh.ar .u32)).T)) : Option (((Sh.ar .u32)).T) :=
  L174_1 c192 d193v0 c194 c195 N (fun (y0 : Int) (y1 : Int) (y2 : Int) (y3 : Int) (y4 : Int) (y5 : Int) (y6 : Int) (y7 : Int) (y8 : Int) (y9 : Int) (y10 : Int) (y11 : Int) (y12 : Int) (y13 : Int) (y14 : Int) (y15 : Int) (y16 : Int) (y17 : Int) (y18 : Int) (y19 : Int) (y20 : Int) (y21 : Int) (y22 : Int) (y23 : Int) (y24 : Int) (y25 : Int) (y26 : Int) (y27 : Int) (y28 : Int) (y29 : Int) (y30 : Int) (y31 : Int) (y32 : Int) (y33 : Int) (y34 : Int) (y35 : Int) (y36 : Int) (y37 : Int) (y38 : Int) (y39 : Int) (y40 : Int) (y41 : Int) (y42 : Int) (y43 : Int) (y44 : Int) (y45 : Int) (y46 : Int) (y47 : Int) (y48 : Int) (y49 : Int) (y50 : Int) (y51 : Int) (y52 : Int) (y53 : Int) (y54 : Int) (y55 : Int) (y56 : Int) (y57 : Int) (y58 : Int) (y59 : Int) (y60 : Int) (y61 : Int) (y62 : Int) (y63 : Int) (y64 : List Int) (y65 : List Int) (y66 : List Int) (y67 : List Int) => κ 2 (((), ((), ((), ((), ((), ((), ((), ((), ((), ((), ((), ((), ((), ((y0, (y1, (y2, (y3, (y4, (y5, (y6, (y7, (y8, (y9, (y10, (y11, (y12, (y13, (y14, (y15, (y16, (y17, (y18, (y19, (y20, (y21, (y22, (y23, (y24, (y25, (y26, (y27, (y28, (y29, (y30, (y31, (y32, (y33, (y34, (y35, (y36, (y37, (y38, (y39, (y40, (y41, (y42, (y43, (y44, (y45, (y46, (y47, (y48, (y49, (y50, (y51, (y52, (y53, (y54, (y55, (y56, (y57, (y58, (y59, (y60, (y61, (y62, ()))))))))))))))))))))))))))))))))))))))))))))))))))))))))))))))), (y63, ((), ((), ((), ((), ((), ((), ()))))))))))))))))))))), (y64, (y65, (y66, (y67, ())))))) n v.1.2.2.2.2.2.2.2.1 v.1.2.2.2.2.2.2.2.2.2.2.2.2.2.1.1 v.1.2.2.2.2.2.2.2.2.2.2.2.2.2.1.2.1 v.1.2.2.2.2.2.2.2.2.2.2.2.2.2.1.2.2.1 v.1.2.2.2.2.2.2.2.2.2.2.2.2.2.1.2.2.2.1 v.1.2.2.2.2.2.2.2.2.2.2.2.2.2.1.2.2.2.2.1 v.1.2.2.2.2.2.2.2.2.2.2.2.2.2.1.2.2.2.2.2.1 v.1.2.2.2.2.2.2.2.2.2.2.2.2.2.1.2.2.2.2.2.2.1 v.1.2.2.2.2.2.2.2.2.2.2.2.2.2.1.2.2.2.2.2.2.2.1 v.1.2.2.2.2.2.2.2.2.2.2.2.2.2.1.2.2.2.2.2.2.2.2.1 v.1.2.2.2.2.2.2.2.2.2.2.2.2.2.1.2.2.2.2.2.2.2.2.2.1 v.1.2.2.2.2.2.2.2.2.2.2.2.2.2.1.2.2.2.2.2.2.2.2.2.2.1 v.1.2.2.2.2.2.2.2.2.2.2.2.2.2.1.2.2.2.2.2.2.2.2.2.2.2.1 v.1.2.2.2.2.2.2.2.2.2.2.2.2.2.1.2.2.2.2.2.2.2.2.2.2.2.2.1 v.1.2.2.2.2.2.2.2.2.2.2.2.2.2.1.2.2.2.2.2.2.2.2.2.2.2.2.2.1 v.1.2.2.2.2.2.2.2.2.2.2.2.2.2.1.2.2.2.2.2.2.2.2.2.2.2.2.2.2.1 v.1.2.2.2.2.2.2.2.2.2.2.2.2.2.1.2.2.2.2.2.2.2.2.2.2.2.2.2.2.2.1 v.1.2.2.2.2.2.2.2.2.2.2.2.2.2.1.2.2.2.2.2.2.2.2.2.2.2.2.2.2.2.2.1 v.1.2.2.2.2.2.2.2.2.2.2.2.2.2.1.2.2.2.2.2.2.2.2.2.2.2.2.2.2.2.2.2.1 v.1.2.2.2.2.2.2.2.2.2.2.2.2.2.1.2.2.2.2.2.2.2.2.2.2.2.2.2.2.2.2.2.2.1 v.1.2.2.2.2.2.2.2.2.2.2.2.2.2.1.2.2.2.2.2.2.2.2.2.2.2.2.2.2.2.2.2.2.2.1 v.1.2.2.2.2.2.2.2.2.2.2.2.2.2.1.2.2.2.2.2.2.2.2.2.2.2.2.2.2.2.2.2.2.2.2.1 v.1.2.2.2.2.2.2.2.2.2.2.2.2.2.1.2.2.2.2.2.2.2.2.2.2.2.2.2.2.2.2.2.2.2.2.2.1 v.1.2.2.2.2.2.2.2.2.2.2.2.2.2.1.2.2.2.2.2.2.2.2.2.2.2.2.2.2.2.2.2.2.2.2.2.2.1 v.1.2.2.2.2.2.2.2.2.2.2.2.2.2.1.2.2.2.2.2.2.2.2.2.2.2.2.2.2.2.2.2.2.2.2.2.2.2.1 v.1.2.2.2.2.2.2.2.2.2.2.2.2.2.1.2.2.2.2.2.2.2.2.2.2.2.2.2.2.2.2.2.2.2.2.2.2.2.2.1 v.1.2.2.2.2.2.2.2.2.2.2.2.2.2.1.2.2.2.2.2.2.2.2.2.2.2.2.2.2.2.2.2.2.2.2.2.2.2.2.2.1 v.1.2.2.2.2.2.2.2.2.2.2.2.2.2.1.2.2.2.2.2.2.2.2.2.2.2.2.2.2.2.2.2.2.2.2.2.2.2.2.2.2.1 v.1.2.2.2.2.2.2.2.2.2.2.2.2.2.1.2.2.2.2.2.2.2.2.2.2.2.2.2.2.2.2.2.2.2.2.2.2.2.2.2.2.2.1 v.1.2.2.2.2.2.2.2.2.2.2.2.2.2.1.2.2.2.2.2.2.2.2.2.2.2.2.2.2.2.2.2.2.2.2.2.2.2.2.2.2.2.2.1 v.1.2.2.2.2.2.2.2.2.2.2.2.2.2.1.2.2.2.2.2.2.2.2.2.2.2.2.2.2.2.2.2.2.2.2.2.2.2.2.2.2.2.2.2.1 v.1.2.2.2.2.2.2.2.2.2.2.2.2.2.1.2.2.2.2.2.2.2.2.2.2.2.2.2.2.2.2.2.2.2.2.2.2.2.2.2.2.2.2.2.2.1 v.1.2.2.2.2.2.2.2.2.2.2.2.2.2.1.2.2.2.2.2.2.2.2.2.2.2.2.2.2.2.2.2.2.2.2.2.2.2.2.2.2.2.2.2.2.2.1 v.1.2.2.2.2.2.2.2.2.2.2.2.2.2.1.2.2.2.2.2.2.2.2.2.2.2.2.2.2.2.2.2.2.2.2.2.2.2.2.2.2.2.2.2.2.2.2.1 v.1.2.2.2.2.2.2.2.2.2.2.2.2.2.1.2.2.2.2.2.2.2.2.2.2.2.2.2.2.2.2.2.2.2.2.2.2.2.2.2.2.2.2.2.2.2.2.2.1 v.1.2.2.2.2.2.2.2.2.2.2.2.2.2.1.2.2.2.2.2.2.2.2.2.2.2.2.2.2.2.2.2.2.2.2.2.2.2.2.2.2.2.2.2.2.2.2.2.2.1 v.1.2.2.2.2.2.2.2.2.2.2.2.2.2.1.2.2.2.2.2.2.2.2.2.2.2.2.2.2.2.2.2.2.2.2.2.2.2.2.2.2.2.2.2.2.2.2.2.2.2.1 v.1.2.2.2.2.2.2.2.2.2.2.2.2.2.1.2.2.2.2.2.2.2.2.2.2.2.2.2.2.2.2.2.2.2.2.2.2.2.2.2.2.2.2.2.2.2.2.2.2.2.2.1 v.1.2.2.2.2.2.2.2.2.2.2.2.2.2.1.2.2.2.2.2.2.2.2.2.2.2.2.2.2.2.2.2.2.2.2.2.2.2.2.2.2.2.2.2.2.2.2.2.2.2.2.2.1 v.1.2.2.2.2.2.2.2.2.2.2.2.2.2.1.2.2.2.2.2.2.2.2.2.2.2.2.2.2.2.2.2.2.2.2.2.2.2.2.2.2.2.2.2.2.2.2.2.2.2.2.2.2.1 v.1.2.2.2.2.2.2.2.2.2.2.2.2.2.1.2.2.2.2.2.2.2.2.2.2.2.2.2.2.2.2.2.2.2.2.2.2.2.2.2.2.2.2.2.2.2.2.2.2.2.2.2.2.2.1 v.1.2.2.2.2.2.2.2.2.2.2.2.2.2.1.2.2.2.2.2.2.2.2.2.2.2.2.2.2.2.2.2.2.2.2.2.2.2.2.2.2.2.2.2.2.2.2.2.2.2.2.2.2.2.2.1 v.1.2.2.2.2.2.2.2.2.2.2.2.2.2.1.2.2.2.2.2.2.2.2.2.2.2.2.2.2.2.2.2.2.2.2.2.2.2.2.2.2.2.2.2.2.2.2.2.2.2.2.2.2.2.2.2.1 v.1.2.2.2.2.2.2.2.2.2.2.2.2.2.1.2.2.2.2.2.2.2.2.2.2.2.2.2.2.2.2.2.2.2.2.2.2.2.2.2.2.2.2.2.2.2.2.2.2.2.2.2.2.2.2.2.2.1 v.1.2.2.2.2.2.2.2.2.2.2.2.2.2.1.2.2.2.2.2.2.2.2.2.2.2.2.2.2.2.2.2.2.2.2.2.2.2.2.2.2.2.2.2.2.2.2.2.2.2.2.2.2.2.2.2.2.2.1 v.1.2.2.2.2.2.2.2.2.2.2.2.2.2.1.2.2.2.2.2.2.2.2.2.2.2.2.2.2.2.2.2.2.2.2.2.2.2.2.2.2.2.2.2.2.2.2.2.2.2.2.2.2.2.2.2.2.2.2.1 v.1.2.2.2.2.2.2.2.2.2.2.2.2.2.1.2.2.2.2.2.2.2.2.2.2.2.2.2.2.2.2.2.2.2.2.2.2.2.2.2.2.2.2.2.2.2.2.2.2.2.2.2.2.2.2.2.2.2.2.2.1 v.1.2.2.2.2.2.2.2.2.2.2.2.2.2.1.2.2.2.2.2.2.2.2.2.2.2.2.2.2.2.2.2.2.2.2.2.2.2.2.2.2.2.2.2.2.2.2.2.2.2.2.2.2.2.2.2.2.2.2.2.2.1 v.1.2.2.2.2.2.2.2.2.2.2.2.2.2.1.2.2.2.2.2.2.2.2.2.2.2.2.2.2.2.2.2.2.2.2.2.2.2.2.2.2.2.2.2.2.2.2.2.2.2.2.2.2.2.2.2.2.2.2.2.2.2.1 v.1.2.2.2.2.2.2.2.2.2.2.2.2.2.1.2.2.2.2.2.2.2.2.2.2.2.2.2.2.2.2.2.2.2.2.2.2.2.2.2.2.2.2.2.2.2.2.2.2.2.2.2.2.2.2.2.2.2.2.2.2.2.2.1 v.1.2.2.2.2.2.2.2.2.2.2.2.2.2.1.2.2.2.2.2.2.2.2.2.2.2.2.2.2.2.2.2.2.2.2.2.2.2.2.2.2.2.2.2.2.2.2.2.2.2.2.2.2.2.2.2.2.2.2.2.2.2.2.2.1 v.1.2.2.2.2.2.2.2.2.2.2.2.2.2.1.2.2.2.2.2.2.2.2.2.2.2.2.2.2.2.2.2.2.2.2.2.2.2.2.2.2.2.2.2.2.2.2.2.2.2.2.2.2.2.2.2.2.2.2.2.2.2.2.2.2.1 v.1.2.2.2.2.2.2.2.2.2.2.2.2.2.1.2.2.2.2.2.2.2.2.2.2.2.2.2.2.2.2.2.2.2.2.2.2.2.2.2.2.2.2.2.2.2.2.2.2.2.2.2.2.2.2.2.2.2.2.2.2.2.2.2.2.2.1 v.1.2.2.2.2.2.2.2.2.2.2.2.2.2.1.2.2.2.2.2.2.2.2.2.2.2.2.2.2.2.2.2.2.2.2.2.2.2.2.2.2.2.2.2.2.2.2.2.2.2.2.2.2.2.2.2.2.2.2.2.2.2.2.2.2.2.2.1 v.1.2.2.2.2.2.2.2.2.2.2.2.2.2.1.2.2.2.2.2.2.2.2.2.2.2.2.2.2.2.2.2.2.2.2.2.2.2.2.2.2.2.2.2.2.2.2.2.2.2.2.2.2.2.2.2.2.2.2.2.2.2.2.2.2.2.2.2.1 v.1.2.2.2.2.2.2.2.2.2.2.2.2.2.1.2.2.2.2.2.2.2.2.2.2.2.2.2.2.2.2.2.2.2.2.2.2.2.2.2.2.2.2.2.2.2.2.2.2.2.2.2.2.2.2.2.2.2.2.2.2.2.2.2.2.2.2.2.2.1 v.1.2.2.2.2.2.2.2.2.2.2.2.2.2.1.2.2.2.2.2.2.2.2.2.2.2.2.2.2.2.2.2.2.2.2.2.2.2.2.2.2.2.2.2.2.2.2.2.2.2.2.2.2.2.2.2.2.2.2.2.2.2.2.2.2.2.2.2.2.2.1 v.1.2.2.2.2.2.2.2.2.2.2.2.2.2.1.2.2.2.2.2.2.2.2.2.2.2.2.2.2.2.2.2.2.2.2.2.2.2.2.2.2.2.2.2.2.2.2.2.2.2.2.2.2.2.2.2.2.2.2.2.2.2.2.2.2.2.2.2.2.2.2.1 v.1.2.2.2.2.2.2.2.2.2.2.2.2.2.1.2.2.2.2.2.2.2.2.2.2.2.2.2.2.2.2.2.2.2.2.2.2.2.2.2.2.2.2.2.2.2.2.2.2.2.2.2.2.2.2.2.2.2.2.2.2.2.2.2.2.2.2.2.2.2.2.2.1 v.1.2.2.2.2.2.2.2.2.2.2.2.2.2.1.2.2.2.2.2.2.2.2.2.2.2.2.2.2.2.2.2.2.2.2.2.2.2.2.2.2.2.2.2.2.2.2.2.2.2.2.2.2.2.2.2.2.2.2.2.2.2.2.2.2.2.2.2.2.2.2.2.2.1 v.1.2.2.2.2.2.2.2.2.2.2.2.2.2.1.2.2.2.2.2.2.2.2.2.2.2.2.2.2.2.2.2.2.2.2.2.2.2.2.2.2.2.2.2.2.2.2.2.2.2.2.2.2.2.2.2.2.2.2.2.2.2.2.2.2.2.2.2.2.2.2.2.2.2.1 v.1.2.2.2.2.2.2.2.2.2.2.2.2.2.1.2.2.2.2.2.2.2.2.2.2.2.2.2.2.2.2.2.2.2.2.2.2.2.2.2.2.2.2.2.2.2.2.2.2.2.2.2.2.2.2.2.2.2.2.2.2.2.2.2.2.2.2.2.2.2.2.2.2.2.2.1 v.1.2.2.2.2.2.2.2.2.2.2.2.2.2.1.2.2.2.2.2.2.2.2.2.2.2.2.2.2.2.2.2.2.2.2.2.2.2.2.2.2.2.2.2.2.2.2.2.2.2.2.2.2.2.2.2.2.2.2.2.2.2.2.2.2.2.2.2.2.2.2.2.2.2.2.2.1 v.1.2.2.2.2.2.2.2.2.2.2.2.2.2.1.2.2.2.2.2.2.2.2.2.2.2.2.2.2.2.2.2.2.2.2.2.2.2.2.2.2.2.2.2.2.2.2.2.2.2.2.2.2.2.2.2.2.2.2.2.2.2.2.2.2.2.2.2.2.2.2.2.2.2.2.2.2.1 v.1.2.2.2.2.2.2.2.2.2.2.2.2.2.2.1 v.1.2.2.2.2.2.2.2.2.2.2.2.2.2.2.2.2.1 v.1.2.2.2.2.2.2.2.2.2.2.2.2.2.2.2.2.2.1 v.2.1 v.2.2.1 v.2.2.2.1 v.2.2.2.2.1 v.2.2.2.2.2.1.1 v.2.2.2.2.2.1.2.1 v.2.2.2.2.2.1.2.2.1 v.2.2.2.2.2.1.2.2.2.1 v.2.2.2.2.2.1.2.2.2.2.1 v.2.2.2.2.2.1.2.2.2.2.2.1 v.2.2.2.2.2.1.2.2.2.2.2.2.1 v.2.2.2.2.2.1.2.2.2.2.2.2.2.1 v.2.2.2.2.2.1.2.2.2.2.2.2.2.2.1 v.2.2.2.2.2.1.2.2.2.2.2.2.2.2.2.1 v.2.2.2.2.2.1.2.2.2.2.2.2.2.2.2.2.1 v.2.2.2.2.2.1.2.2.2.2.2.2.2.2.2.2.2.1 v.2.2.2.2.2.1.2.2.2.2.2.2.2.2.2.2.2.2.1 v.2.2.2.2.2.1.2.2.2.2.2.2.2.2.2.2.2.2.2.1 v.2.2.2.2.2.1.2.2.2.2.2.2.2.2.2.2.2.2.2.2.1 v.2.2.2.2.2.1.2.2.2.2.2.2.2.2.2.2.2.2.2.2.2.1 v.2.2.2.2.2.1.2.2.2.2.2.2.2.2.2.2.2.2.2.2.2.2.1 v.2.2.2.2.2.1.2.2.2.2.2.2.2.2.2.2.2.2.2.2.2.2.2.1 v.2.2.2.2.2.1.2.2.2.2.2.2.2.2.2.2.2.2.2.2.2.2.2.2.1 v.2.2.2.2.2.1.2.2.2.2.2.2.2.2.2.2.2.2.2.2.2.2.2.2.2.1 v.2.2.2.2.2.1.2.2.2.2.2.2.2.2.2.2.2.2.2.2.2.2.2.2.2.2.1
def W174_1 (c192 : D192) (d193v0 : D193v0) (c194 : D194) (c195 : D195) (N : Nat) : LoopF (((Sh.ar .u32)).T) := fun no =>
  match no with
  | _ => fun _ _ => none
theorem b174_1 (c192 : D192) (d193v0 : D193v0) (c194 : D194) (c195 : D195) (N n : Nat) (v : P174_1.T) (κ : (i : Nat) → (Q174_1 i).T → Option (((Sh.ar .u32)).T)) :
    evc (T174 c192 d193v0 c194 c195) (rawOf (RW174 c192 d193v0 c194 c195)) (W174_1 c192 d193v0 c194 c195 N) (retc k174.res (Sh.ar .u32)) (modeOf FT) 0 fuelC (bodyOf (loopN k174 1)) (P174_1.st v) (roundK 0 H174_1 P174_1 Q174_1 (u174_1 c192 d193v0 c194 c195 N n) κ) = u174_1 c192 d193v0 c194 c195 N (n + 1) v κ := by kernel_rfl
theorem o174_1 (c192 : D192) (d193v0 : D193v0) (c194 : D194) (c195 : D195) (hT : TabOK FT XT (T174 c192 d193v0 c194 c195)) (hO : RawOK FT XT (rawOf (α := ((Sh.ar .u32)).T) (RW174 c192 d193v0 c194 c195))) (N : Nat) {s : St} {κ : Ex → St → Option (((Sh.ar .u32)).T)} {a : ((Sh.ar .u32)).T} (h : lpOf 0 H174_1 P174_1 Q174_1 (u174_1 c192 d193v0 c194 c195 N N) s κ = some a) : Out FT XT 0 (retc k174.res (Sh.ar .u32)) (loopN k174 1) s κ a := by
  rw [l174_1]
  exact loop_out (LP := W174_1 c192 d193v0 c194 c195 N) (fu := fuelC) hT hO (fun _ _ => rfl) (b174_1 c192 d193v0 c194 c195 N) loopOK_nil N h
def H174_0 : Trim := ⟨0, [], false, [2, 4, 5, 6, 16, 17], []⟩
theorem l174_0 : loopN k174 0 = .loop H174_0 (bodyOf (loopN k174 0)) := by kernel_rfl
def P174_0 : Ps := ⟨[(0, .u), (1, .u), (2, (.ptr 0 0)), (3, .u), (4, (.ptr 1 0)), (5, (.ptr 2 0)), (6, (.ptr 3 0)), (7, .u), (8, .u), (9, .u), (10, .u), (11, .u), (12, .u), (16, (.vs (.cons (.int .u32) (.cons (.int .i64) (.cons (.int .i64) (.cons (.int .i64) (.cons (.int .i64) (.cons (.int .i64) (.cons (.int .i64) (.cons (.int .i64) (.cons (.int .i64) (.cons (.int .i64) (.cons (.int .i64) (.cons (.int .i64) (.cons (.int .i64) (.cons (.int .i64) (.cons (.int .i64) (.cons (.int .i64) (.cons (.int .i64) (.cons (.int .i64) (.cons (.int .i64) (.cons (.int .i64) (.cons (.int .i64) (.cons (.int .u32) (.cons (.int .i64) (.cons (.int .i64) (.cons (.int .i64) (.cons (.int .i64) (.cons (.int .i64) (.cons (.int .i64) (.cons (.int .i64) (.cons (.int .i64) (.cons (.int .i64) (.cons (.int .i64) (.cons (.int .i64) (.cons (.int .i64) (.cons (.int .i64) (.cons (.int .i64) (.cons (.int .i64) (.cons (.int .i64) (.cons (.int .i64) (.cons (.int .i64) (.cons (.int .i64) (.cons (.int .i64) (.cons (.int .u32) (.cons (.int .i64) (.cons (.int .i64) (.cons (.int .i64) (.cons (.int .i64) (.cons (.int .i64) (.cons (.int .i64) (.cons (.int .i64) (.cons (.int .i64) (.cons (.int .i64) (.cons (.int .i64) (.cons (.int .i64) (.cons (.int .i64) (.cons (.int .i64) (.cons (.int .i64) (.cons (.int .i64) (.cons (.int .i64) (.cons (.int .i64) (.cons (.int .i64) (.cons (.int .i64) (.cons (.int .i64) .nil))))))))))))))))))))))))))))))))))))))))))))))))))))))))))))))))), (17, (.int .i64)), (18, .u), (22, .u), (23, .u), (24, .u), (61, .u), (62, .u)], [(.ints false .u32), (.ints false .u32), (.ints false .u32), (.ints false .u32)]⟩
def Q174_0 : Nat → Ps
  | 0 => ⟨[(0, .u), (1, .u), (2, (.ptr 0 0)), (3, .u), (4, (.ptr 1 0)), (5, .u), (6, (.ptr 2 0)), (7, .u), (8, .u), (9, .u), (10, .u), (11, .u), (12, .u), (16, .u), (17, .u), (18, .u), (22, .u), (23, .u), (24, .u), (61, .u), (62, .u)], [(.ints false .u32), (.ints false .u32), (.ints false .u32)]⟩
  | _ => noPs
def u174_0 (c192 : D192) (d193v0 : D193v0) (c194 : D194) (c195 : D195) (N n : Nat) (v : P174_0.T) (κ : (i : Nat) → (Q174_0 i).T → Option (((Sh.ar .u32)).T)) : Option (((Sh.ar .u32)).T) :=
  L174_0 c192 d193v0 c194 c195 N (fun (y0 : List Int) (y1 : List Int) (y2 : List Int) => κ 0 (((), ((), ((), ((), ((), ((), ((), ((), ((), ((), ((), ((), ((), ((), ((), ((), ((), ((), ((), ((), ((), ()))))))))))))))))))))), (y0, (y1, (y2, ()))))) n v.1.2.2.2.2.2.2.2.2.2.2.2.2.2.1.1 v.1.2.2.2.2.2.2.2.2.2.2.2.2.2.1.2.1 v.1.2.2.2.2.2.2.2.2.2.2.2.2.2.1.2.2.1 v.1.2.2.2.2.2.2.2.2.2.2.2.2.2.1.2.2.2.1 v.1.2.2.2.2.2.2.2.2.2.2.2.2.2.1.2.2.2.2.1 v.1.2.2.2.2.2.2.2.2.2.2.2.2.2.1.2.2.2.2.2.1 v.1.2.2.2.2.2.2.2.2.2.2.2.2.2.1.2.2.2.2.2.2.1 v.1.2.2.2.2.2.2.2.2.2.2.2.2.2.1.2.2.2.2.2.2.2.1 v.1.2.2.2.2.2.2.2.2.2.2.2.2.2.1.2.2.2.2.2.2.2.2.1 v.1.2.2.2.2.2.2.2.2.2.2.2.2.2.1.2.2.2.2.2.2.2.2.2.1 v.1.2.2.2.2.2.2.2.2.2.2.2.2.2.1.2.2.2.2.2.2.2.2.2.2.1 v.1.2.2.2.2.2.2.2.2.2.2.2.2.2.1.2.2.2.2.2.2.2.2.2.2.2.1 v.1.2.2.2.2.2.2.2.2.2.2.2.2.2.1.2.2.2.2.2.2.2.2.2.2.2.2.1 v.1.2.2.2.2.2.2.2.2.2.2.2.2.2.1.2.2.2.2.2.2.2.2.2.2.2.2.2.1 v.1.2.2.2.2.2.2.2.2.2.2.2.2.2.1.2.2.2.2.2.2.2.2.2.2.2.2.2.2.1 v.1.2.2.2.2.2.2.2.2.2.2.2.2.2.1.2.2.2.2.2.2.2.2.2.2.2.2.2.2.2.1 v.1.2.2.2.2.2.2.2.2.2.2.2.2.2.1.2.2.2.2.2.2.2.2.2.2.2.2.2.2.2.2.1 v.1.2.2.2.2.2.2.2.2.2.2.2.2.2.1.2.2.2.2.2.2.2.2.2.2.2.2.2.2.2.2.2.1 v.1.2.2.2.2.2.2.2.2.2.2.2.2.2.1.2.2.2.2.2.2.2.2.2.2.2.2.2.2.2.2.2.2.1 v.1.2.2.2.2.2.2.2.2.2.2.2.2.2.1.2.2.2.2.2.2.2.2.2.2.2.2.2.2.2.2.2.2.2.1 v.1.2.2.2.2.2.2.2.2.2.2.2.2.2.1.2.2.2.2.2.2.2.2.2.2.2.2.2.2.2.2.2.2.2.2.1 v.1.2.2.2.2.2.2.2.2.2.2.2.2.2.1.2.2.2.2.2.2.2.2.2.2.2.2.2.2.2.2.2.2.2.2.2.1 v.1.2.2.2.2.2.2.2.2.2.2.2.2.2.1.2.2.2.2.2.2.2.2.2.2.2.2.2.2.2.2.2.2.2.2.2.2.1 v.1.2.2.2.2.2.2.2.2.2.2.2.2.2.1.2.2.2.2.2.2.2.2.2.2.2.2.2.2.2.2.2.2.2.2.2.2.2.1 v.1.2.2.2.2.2.2.2.2.2.2.2.2.2.1.2.2.2.2.2.2.2.2.2.2.2.2.2.2.2.2.2.2.2.2.2.2.2.2.1 v.1.2.2.2.2.2.2.2.2.2.2.2.2.2.1.2.2.2.2.2.2.2.2.2.2.2.2.2.2.2.2.2.2.2.2.2.2.2.2.2.1 v.1.2.2.2.2.2.2.2.2.2.2.2.2.2.1.2.2.2.2.2.2.2.2.2.2.2.2.2.2.2.2.2.2.2.2.2.2.2.2.2.2.1 v.1.2.2.2.2.2.2.2.2.2.2.2.2.2.1.2.2.2.2.2.2.2.2.2.2.2.2.2.2.2.2.2.2.2.2.2.2.2.2.2.2.2.1 v.1.2.2.2.2.2.2.2.2.2.2.2.2.2.1.2.2.2.2.2.2.2.2.2.2.2.2.2.2.2.2.2.2.2.2.2.2.2.2.2.2.2.2.1 v.1.2.2.2.2.2.2.2.2.2.2.2.2.2.1.2.2.2.2.2.2.2.2.2.2.2.2.2.2.2.2.2.2.2.2.2.2.2.2.2.2.2.2.2.1 v.1.2.2.2.2.2.2.2.2.2.2.2.2.2.1.2.2.2.2.2.2.2.2.2.2.2.2.2.2.2.2.2.2.2.2.2.2.2.2.2.2.2.2.2.2.1 v.1.2.2.2.2.2.2.2.2.2.2.2.2.2.1.2.2.2.2.2.2.2.2.2.2.2.2.2.2.2.2.2.2.2.2.2.2.2.2.2.2.2.2.2.2.2.1 v.1.2.2.2.2.2.2.2.2.2.2.2.2.2.1.2.2.2.2.2.2.2.2.2.2.2.2.2.2.2.2.2.2.2.2.2.2.2.2.2.2.2.2.2.2.2.2.1 v.1.2.2.2.2.2.2.2.2.2.2.2.2.2.1.2.2.2.2.2.2.2.2.2.2.2.2.2.2.2.2.2.2.2.2.2.2.2.2.2.2.2.2.2.2.2.2.2.1 v.1.2.2.2.2.2.2.2.2.2.2.2.2.2.1.2.2.2.2.2.2.2.2.2.2.2.2.2.2.2.2.2.2.2.2.2.2.2.2.2.2.2.2.2.2.2.2.2.2.1 v.1.2.2.2.2.2.2.2.2.2.2.2.2.2.1.2.2.2.2.2.2.2.2.2.2.2.2.2.2.2.2.2.2.2.2.2.2.2.2.2.2.2.2.2.2.2.2.2.2.2.1 v.1.2.2.2.2.2.2.2.2.2.2.2.2.2.1.2.2.2.2.2.2.2.2.2.2.2.2.2.2.2.2.2.2.2.2.2.2.2.2.2.2.2.2.2.2.2.2.2.2.2.2.1 v.1.2.2.2.2.2.2.2.2.2.2.2.2.2.1.2.2.2.2.2.2.2.2.2.2.2.2.2.2.2.2.2.2.2.2.2.2.2.2.2.2.2.2.2.2.2.2.2.2.2.2.2.1 v.1.2.2.2.2.2.2.2.2.2.2.2.2.2.1.2.2.2.2.2.2.2.2.2.2.2.2.2.2.2.2.2.2.2.2.2.2.2.2.2.2.2.2.2.2.2.2.2.2.2.2.2.2.1 v.1.2.2.2.2.2.2.2.2.2.2.2.2.2.1.2.2.2.2.2.2.2.2.2.2.2.2.2.2.2.2.2.2.2.2.2.2.2.2.2.2.2.2.2.2.2.2.2.2.2.2.2.2.2.1 v.1.2.2.2.2.2.2.2.2.2.2.2.2.2.1.2.2.2.2.2.2.2.2.2.2.2.2.2.2.2.2.2.2.2.2.2.2.2.2.2.2.2.2.2.2.2.2.2.2.2.2.2.2.2.2.1 v.1.2.2.2.2.2.2.2.2.2.2.2.2.2.1.2.2.2.2.2.2.2.2.2.2.2.2.2.2.2.2.2.2.2.2.2.2.2.2.2.2.2.2.2.2.2.2.2.2.2.2.2.2.2.2.2.1 v.1.2.2.2.2.2.2.2.2.2.2.2.2.2.1.2.2.2.2.2.2.2.2.2.2.2.2.2.2.2.2.2.2.2.2.2.2.2.2.2.2.2.2.2.2.2.2.2.2.2.2.2.2.2.2.2.2.1 v.1.2.2.2.2.2.2.2.2.2.2.2.2.2.1.2.2.2.2.2.2.2.2.2.2.2.2.2.2.2.2.2.2.2.2.2.2.2.2.2.2.2.2.2.2.2.2.2.2.2.2.2.2.2.2.2.2.2.1 v.1.2.2.2.2.2.2.2.2.2.2.2.2.2.1.2.2.2.2.2.2.2.2.2.2.2.2.2.2.2.2.2.2.2.2.2.2.2.2.2.2.2.2.2.2.2.2.2.2.2.2.2.2.2.2.2.2.2.2.1 v.1.2.2.2.2.2.2.2.2.2.2.2.2.2.1.2.2.2.2.2.2.2.2.2.2.2.2.2.2.2.2.2.2.2.2.2.2.2.2.2.2.2.2.2.2.2.2.2.2.2.2.2.2.2.2.2.2.2.2.2.1 v.1.2.2.2.2.2.2.2.2.2.2.2.2.2.1.2.2.2.2.2.2.2.2.2.2.2.2.2.2.2.2.2.2.2.2.2.2.2.2.2.2.2.2.2.2.2.2.2.2.2.2.2.2.2.2.2.2.2.2.2.2.1 v.1.2.2.2.2.2.2.2.2.2.2.2.2.2.1.2.2.2.2.2.2.2.2.2.2.2.2.2.2.2.2.2.2.2.2.2.2.2.2.2.2.2.2.2.2.2.2.2.2.2.2.2.2.2.2.2.2.2.2.2.2.2.1 v.1.2.2.2.2.2.2.2.2.2.2.2.2.2.1.2.2.2.2.2.2.2.2.2.2.2.2.2.2.2.2.2.2.2.2.2.2.2.2.2.2.2.2.2.2.2.2.2.2.2.2.2.2.2.2.2.2.2.2.2.2.2.2.1 v.1.2.2.2.2.2.2.2.2.2.2.2.2.2.1.2.2.2.2.2.2.2.2.2.2.2.2.2.2.2.2.2.2.2.2.2.2.2.2.2.2.2.2.2.2.2.2.2.2.2.2.2.2.2.2.2.2.2.2.2.2.2.2.2.1 v.1.2.2.2.2.2.2.2.2.2.2.2.2.2.1.2.2.2.2.2.2.2.2.2.2.2.2.2.2.2.2.2.2.2.2.2.2.2.2.2.2.2.2.2.2.2.2.2.2.2.2.2.2.2.2.2.2.2.2.2.2.2.2.2.2.1 v.1.2.2.2.2.2.2.2.2.2.2.2.2.2.1.2.2.2.2.2.2.2.2.2.2.2.2.2.2.2.2.2.2.2.2.2.2.2.2.2.2.2.2.2.2.2.2.2.2.2.2.2.2.2.2.2.2.2.2.2.2.2.2.2.2.2.1 v.1.2.2.2.2.2.2.2.2.2.2.2.2.2.1.2.2.2.2.2.2.2.2.2.2.2.2.2.2.2.2.2.2.2.2.2.2.2.2.2.2.2.2.2.2.2.2.2.2.2.2.2.2.2.2.2.2.2.2.2.2.2.2.2.2.2.2.1 v.1.2.2.2.2.2.2.2.2.2.2.2.2.2.1.2.2.2.2.2.2.2.2.2.2.2.2.2.2.2.2.2.2.2.2.2.2.2.2.2.2.2.2.2.2.2.2.2.2.2.2.2.2.2.2.2.2.2.2.2.2.2.2.2.2.2.2.2.1 v.1.2.2.2.2.2.2.2.2.2.2.2.2.2.1.2.2.2.2.2.2.2.2.2.2.2.2.2.2.2.2.2.2.2.2.2.2.2.2.2.2.2.2.2.2.2.2.2.2.2.2.2.2.2.2.2.2.2.2.2.2.2.2.2.2.2.2.2.2.1 v.1.2.2.2.2.2.2.2.2.2.2.2.2.2.1.2.2.2.2.2.2.2.2.2.2.2.2.2.2.2.2.2.2.2.2.2.2.2.2.2.2.2.2.2.2.2.2.2.2.2.2.2.2.2.2.2.2.2.2.2.2.2.2.2.2.2.2.2.2.2.1 v.1.2.2.2.2.2.2.2.2.2.2.2.2.2.1.2.2.2.2.2.2.2.2.2.2.2.2.2.2.2.2.2.2.2.2.2.2.2.2.2.2.2.2.2.2.2.2.2.2.2.2.2.2.2.2.2.2.2.2.2.2.2.2.2.2.2.2.2.2.2.2.1 v.1.2.2.2.2.2.2.2.2.2.2.2.2.2.1.2.2.2.2.2.2.2.2.2.2.2.2.2.2.2.2.2.2.2.2.2.2.2.2.2.2.2.2.2.2.2.2.2.2.2.2.2.2.2.2.2.2.2.2.2.2.2.2.2.2.2.2.2.2.2.2.2.1 v.1.2.2.2.2.2.2.2.2.2.2.2.2.2.1.2.2.2.2.2.2.2.2.2.2.2.2.2.2.2.2.2.2.2.2.2.2.2.2.2.2.2.2.2.2.2.2.2.2.2.2.2.2.2.2.2.2.2.2.2.2.2.2.2.2.2.2.2.2.2.2.2.2.1 v.1.2.2.2.2.2.2.2.2.2.2.2.2.2.1.2.2.2.2.2.2.2.2.2.2.2.2.2.2.2.2.2.2.2.2.2.2.2.2.2.2.2.2.2.2.2.2.2.2.2.2.2.2.2.2.2.2.2.2.2.2.2.2.2.2.2.2.2.2.2.2.2.2.2.1 v.1.2.2.2.2.2.2.2.2.2.2.2.2.2.1.2.2.2.2.2.2.2.2.2.2.2.2.2.2.2.2.2.2.2.2.2.2.2.2.2.2.2.2.2.2.2.2.2.2.2.2.2.2.2.2.2.2.2.2.2.2.2.2.2.2.2.2.2.2.2.2.2.2.2.2.1 v.1.2.2.2.2.2.2.2.2.2.2.2.2.2.1.2.2.2.2.2.2.2.2.2.2.2.2.2.2.2.2.2.2.2.2.2.2.2.2.2.2.2.2.2.2.2.2.2.2.2.2.2.2.2.2.2.2.2.2.2.2.2.2.2.2.2.2.2.2.2.2.2.2.2.2.2.1 v.1.2.2.2.2.2.2.2.2.2.2.2.2.2.1.2.2.2.2.2.2.2.2.2.2.2.2.2.2.2.2.2.2.2.2.2.2.2.2.2.2.2.2.2.2.2.2.2.2.2.2.2.2.2.2.2.2.2.2.2.2.2.2.2.2.2.2.2.2.2.2.2.2.2.2.2.2.1 v.1.2.2.2.2.2.2.2.2.2.2.2.2.2.2.1 v.2.1 v.2.2.1 v.2.2.2.1 v.2.2.2.2.1
def W174_0 (c192 : D192) (d193v0 : D193v0) (c194 : D194) (c195 : D195) (N : Nat) : LoopF (((Sh.ar .u32)).T) := fun no =>
  match no with
  | 1 => lpOf 0 H174_1 P174_1 Q174_1 (u174_1 c192 d193v0 c194 c195 N N)
  | _ => fun _ _ => none
theorem b174_0 (c192 : D192) (d193v0 : D193v0) (c194 : D194) (c195 : D195) (N n : Nat) (v : P174_0.T) (κ : (i : Nat) → (Q174_0 i).T → Option (((Sh.ar .u32)).T)) :
    evc (T174 c192 d193v0 c194 c195) (rawOf (RW174 c192 d193v0 c194 c195)) (W174_0 c192 d193v0 c194 c195 N) (retc k174.res (Sh.ar .u32)) (modeOf FT) 0 fuelC (bodyOf (loopN k174 0)) (P174_0.st v) (roundK 0 H174_0 P174_0 Q174_0 (u174_0 c192 d193v0 c194 c195 N n) κ) = u174_0 c192 d193v0 c194 c195 N (n + 1) v κ := by kernel_rfl
theorem o174_0 (c192 : D192) (d193v0 : D193v0) (c194 : D194) (c195 : D195) (hT : TabOK FT XT (T174 c192 d193v0 c194 c195)) (hO : RawOK FT XT (rawOf (α := ((Sh.ar .u32)).T) (RW174 c192 d193v0 c194 c195))) (N : Nat) {s : St} {κ : Ex → St → Option (((Sh.ar .u32)).T)} {a : ((Sh.ar .u32)).T} (h : lpOf 0 H174_0 P174_0 Q174_0 (u174_0 c192 d193v0 c194 c195 N N) s κ = some a) : Out FT XT 0 (retc k174.res (Sh.ar .u32)) (loopN k174 0) s κ a := by
  rw [l174_0]
  exact loop_out (LP := W174_0 c192 d193v0 c194 c195 N) (fu := fuelC) hT hO (fun _ _ => rfl) (b174_0 c192 d193v0 c194 c195 N) (loopOK_cons l174_1 (fun s κ a h => o174_1 c192 d193v0 c194 c195 hT hO N h) loopOK_nil) N h
def W174 (c192 : D192) (d193v0 : D193v0) (c194 : D194) (c195 : D195) (N : Nat) : LoopF (((Sh.ar .u32)).T) := fun no =>
  match no with
  | 0 => lpOf 0 H174_0 P174_0 Q174_0 (u174_0 c192 d193v0 c194 c195 N N)
  | 2 => lpOf 0 H174_2 P174_2 Q174_2 (u174_2 c192 d193v0 c194 c195 N N)
  | _ => fun _ _ => none
theorem e174 (c192 : D192) (d193v0 : D193v0) (c194 : D194) (c195 : D195) (N : Nat) (a0 : List Int) (a1 : List Int) : evc (T174 c192 d193v0 c194 c195) (rawOf (RW174 c192 d193v0 c194 c195)) (W174 c192 d193v0 c194 c195 N) (retc k174.res (Sh.ar .u32)) (modeOf FT) 0 fuelC k174.body (env0 k174 (encL [(Sh.ar .u32), (Sh.ar .u8)] (a0, (a1, ()))), []) (endK (retc k174.res (Sh.ar .u32))) = p174 c192 d193v0 c194 c195 N a0 a1 := by kernel_rfl
theorem ok174 (c192 : D192) (d193v0 : D193v0) (c194 : D194) (c195 : D195) (h192 : O192 c192) (h194 : O194 c194) (h195 : O195 c195) (h193v0 : O193v0 d193v0) {f : D174} (hf : ∀ a0 a1 r, f a0 a1 = some r → ∃ N, p174 c192 d193v0 c194 c195 N a0 a1 = some r) : O174 f := by
  have hT : TabOK FT XT (T174 c192 d193v0 c194 c195) := (tb1 h192 (tb1 h194 (tb1 h195 tb0)))
  have hO0 : RawOK FT XT (rawOf (α := ((Sh.ar .u32)).T) (RW174 c192 d193v0 c194 c195)) := by
    refine rawOf_ok (fun g en hg => ?_)
    unfold RW174 at hg
    split at hg <;> simp only [List.mem_cons, List.not_mem_nil, or_false] at hg <;> first | (subst hg; assumption) | (rcases hg with rfl | rfl <;> assumption) | (rcases hg with rfl | rfl | rfl <;> assumption) | (rcases hg with rfl | rfl | rfl | rfl <;> assumption)
  have hO : RawOK FT XT (rawOf (α := ((Sh.ar .u32)).T) (RW174 c192 d193v0 c194 c195)) := hO0
  refine ⟨rfl, fun v r h => ?_⟩
  obtain ⟨a0, a1, _⟩ := v
  obtain ⟨N, h1⟩ := hf _ _ _ h
  exact ans_c (R := (Sh.ar .u32)) (tab := T174 c192 d193v0 c194 c195) (raw := (rawOf (RW174 c192 d193v0 c194 c195))) (LP := W174 c192 d193v0 c194 c195 N) (fu := fuelC) hT hO rfl rfl (Nat.le_of_ble_eq_true rfl) (loopOK_cons l174_0 (fun s κ a h => o174_0 c192 d193v0 c194 c195 hT hO N h) (loopOK_cons l174_2 (fun s κ a h => o174_2 c192 d193v0 c194 c195 hT hO N h) loopOK_nil)) ((e174 c192 d193v0 c194 c195 N _ _).trans h1)

theorem ok196 {f : D196} (hf : ∀ a0 r, f a0 = some r → ∃ N, p196 N a0 = some r) : O196 f :=
 okc (fu := fuelC) tb0 rfl rfl rfl (fun _ => rfl) (fun v r h => by
 obtain ⟨N, h⟩ := hf v.1 r h
 refine Eq.trans ?_ h; kernel_rfl) rfl

theorem ok204 {f : D204} (hf : ∀ a0 a1 a2 r, f a0 a1 a2 = some r → ∃ N, p204 N a0 a1 a2 = some r) : O204 f :=
 okc (fu := fuelC) tb0 rfl rfl rfl (fun _ => rfl) (fun v r h => by
 obtain ⟨N, h⟩ := hf v.1 v.2.1 v.2.2.1 r h
 refine Eq.trans ?_ h; kernel_rfl) rfl

theorem ok198 (c204 : D204) (h204 : O204 c204) {f : D198} (hf : ∀ a0 a1 a2 a3 r, f a0 a1 a2 a3 = some r → ∃ N, p198 c204 N a0 a1 a2 a3 = some r) : O198 f :=
 okc (fu := fuelC) (tb1 h204 tb0) rfl rfl rfl (fun _ => rfl) (fun v r h => by
 obtain ⟨N, h⟩ := hf v.1 v.2.1 v.2.2.1 v.2.2.2.1 r h
 refine Eq.trans ?_ h; kernel_rfl) rfl

theorem ok197 {f : D197} (hf : ∀ a0 a1 r, f a0 a1 = some r → ∃ N, p197 N a0 a1 = some r) : O197 f :=
 okc (fu := fuelC) tb0 rfl rfl rfl (fun _ => rfl) (fun v r h => by
 obtain ⟨N, h⟩ := hf v.1 v.2.1 r h
 refine Eq.trans ?_ h; kernel_rfl) rfl

def T175 (c196 : D196) (c198 : D198) (c197 : D197) : Nat → Option Ent := tb [(196, en196 c196), (198, en198 c198), (197, en197 c197)]
def H175_1 : Trim := ⟨1, [], false, [2, 4, 6, 11], []⟩
theorem l175_1 : loopN k175 1 = .loop H175_1 (bodyOf (loopN k175 1)) := by kernel_rfl
def P175_1 : Ps := ⟨[(0, .u), (1, .u), (2, (.ptr 0 0)), (3, .u), (4, (.ptr 1 0)), (5, .u), (6, (.ptr 2 0)), (7, .u), (8, .u), (9, .u), (10, .u), (11, (.int .i64)), (18, .u), (82, .u)], [(.ints false .u32), (.ints false .u32), (.ints false .u32)]⟩
def Q175_1 : Nat → Ps
  | 2 => ⟨[(0, .u), (1, .u), (2, .u), (3, .u), (4, (.ptr 0 0)), (5, .u), (6, (.ptr 1 0)), (7, .u), (8, .u), (9, .u), (10, .u), (11, .u), (18, .u), (82, .u)], [(.ints false .u32), (.ints false .u32)]⟩
  | _ => noPs
def u175_1 (c196 : D196) (c198 : D198) (c197 : D197) (N n : Nat) (v : P175_1.T) (κ : (i : Nat) → (Q175_1 i).T → Option (((Sh.ar .u32)).T)) : Option (((Sh.ar .u32)).T) :=
  L175_1 c196 c198 c197 N (fun (y0 : List Int) (y1 : List Int) => κ 2 (((), ((), ((), ((), ((), ((), ((), ((), ((), ((), ((), ((), ((), ((), ())))))))))))))), (y0, (y1, ())))) n v.1.2.2.2.2.2.2.2.2.2.2.2.1 v.2.1 v.2.2.1 v.2.2.2.1
def W175_1 (c196 : D196) (c198 : D198) (c197 : D197) (N : Nat) : LoopF (((Sh.ar .u32)).T) := fun no =>
  match no with
  | _ => fun _ _ => none
theorem b175_1 (c196 : D196) (c198 : D198) (c197 : D197) (N n : Nat) (v : P175_1.T) (κ : (i : Nat) → (Q175_1 i).T → Option (((Sh.ar .u32)).T)) :
    evc (T175 c196 c198 c197) (rawOf RW0) (W175_1 c196 c198 c197 N) (retc k175.res (Sh.ar .u32)) (modeOf FT) 0 fuelC (bodyOf (loopN k175 1)) (P175_1.st v) (roundK 0 H175_1 P175_1 Q175_1 (u175_1 c196 c198 c197 N n) κ) = u175_1 c196 c198 c197 N (n + 1) v κ := by kernel_rfl
theorem o175_1 (c196 : D196) (c198 : D198) (c197 : D197) (hT : TabOK FT XT (T175 c196 c198 c197)) (hO : RawOK FT XT (rawOf (α := ((Sh.ar .u32)).T) RW0)) (N : Nat) {s : St} {κ : Ex → St → Option (((Sh.ar .u32)).T)} {a : ((Sh.ar .u32)).T} (h : lpOf 0 H175_1 P175_1 Q175_1 (u175_1 c196 c198 c197 N N) s κ = some a) : Out FT XT 0 (retc k175.res (Sh.ar .u32)) (loopN k175 1) s κ a := by
  rw [l175_1]
  exact loop_out (LP := W175_1 c196 c198 c197 N) (fu := fuelC) hT hO (fun _ _ => rfl) (b175_1 c196 c198 c197 N) loopOK_nil N h
def H175_0 : Trim := ⟨0, [(5, (Sh.sl (Sh.sl (Sh.int .i64))))], false, [2, 3, 4, 5, 6, 7], []⟩
theorem l175_0 : loopN k175 0 = .loop H175_0 (bodyOf (loopN k175 0)) := by kernel_rfl
def P175_0 : Ps := ⟨[(0, .u), (1, .u), (2, (.ptr 0 0)), (3, (.ptr 1 0)), (4, (.ptr 2 0)), (5, (.tb (Sh.sl (Sh.int .i64)))), (6, (.ptr 3 0)), (7, (.int .i64)), (8, .u), (9, .u), (10, .u), (11, .u), (18, .u), (82, .u)], [(.ints false .u32), (.ints false .u8), (.ints false .u32), (.ints false .u32)]⟩
def Q175_0 : Nat → Ps
  | 0 => ⟨[(0, .u), (1, .u), (2, (.ptr 0 0)), (3, .u), (4, (.ptr 1 0)), (5, .u), (6, (.ptr 2 0)), (7, .u), (8, .u), (9, .u), (10, .u), (11, .u), (18, .u), (82, .u)], [(.ints false .u32), (.ints false .u32), (.ints false .u32)]⟩
  | _ => noPs
def u175_0 (c196 : D196) (c198 : D198) (c197 : D197) (N n : Nat) (v : P175_0.T) (κ : (i : Nat) → (Q175_0 i).T → Option (((Sh.ar .u32)).T)) : Option (((Sh.ar .u32)).T) :=
  L175_0 c196 c198 c197 N (fun (y0 : List Int) (y1 : List Int) (y2 : List Int) => κ 0 (((), ((), ((), ((), ((), ((), ((), ((), ((), ((), ((), ((), ((), ((), ())))))))))))))), (y0, (y1, (y2, ()))))) n v.1.2.2.2.2.2.1 v.1.2.2.2.2.2.2.2.1 v.2.1 v.2.2.1 v.2.2.2.1 v.2.2.2.2.1
def W175_0 (c196 : D196) (c198 : D198) (c197 : D197) (N : Nat) : LoopF (((Sh.ar .u32)).T) := fun no =>
  match no with
  | _ => fun _ _ => none
theorem b175_0 (c196 : D196) (c198 : D198) (c197 : D197) (N n : Nat) (v : P175_0.T) (κ : (i : Nat) → (Q175_0 i).T → Option (((Sh.ar .u32)).T)) :
    evc (T175 c196 c198 c197) (rawOf RW0) (W175_0 c196 c198 c197 N) (retc k175.res (Sh.ar .u32)) (modeOf FT) 0 fuelC (bodyOf (loopN k175 0)) (P175_0.st v) (roundK 0 H175_0 P175_0 Q175_0 (u175_0 c196 c198 c197 N n) κ) = u175_0 c196 c198 c197 N (n + 1) v κ := by kernel_rfl
theorem o175_0 (c196 : D196) (c198 : D198) (c197 : D197) (hT : TabOK FT XT (T175 c196 c198 c197)) (hO : RawOK FT XT (rawOf (α := ((Sh.ar .u32)).T) RW0)) (N : Nat) {s : St} {κ : Ex → St → Option (((Sh.ar .u32)).T)} {a : ((Sh.ar .u32)).T} (h : lpOf 0 H175_0 P175_0 Q175_0 (u175_0 c196 c198 c197 N N) s κ = some a) : Out FT XT 0 (retc k175.res (Sh.ar .u32)) (loopN k175 0) s κ a := by
  rw [l175_0]
  exact loop_out (LP := W175_0 c196 c198 c197 N) (fu := fuelC) hT hO (fun _ _ => rfl) (b175_0 c196 c198 c197 N) loopOK_nil N h
def W175 (c196 : D196) (c198 : D198) (c197 : D197) (N : Nat) : LoopF (((Sh.ar .u32)).T) := fun no =>
  match no with
  | 0 => lpOf 0 H175_0 P175_0 Q175_0 (u175_0 c196 c198 c197 N N)
  | 1 => lpOf 0 H175_1 P175_1 Q175_1 (u175_1 c196 c198 c197 N N)
  | _ => fun _ _ => none
theorem e175 (c196 : D196) (c198 : D198) (c197 : D197) (N : Nat) (a0 : List Int) (a1 : List Int) : evc (T175 c196 c198 c197) (rawOf RW0) (W175 c196 c198 c197 N) (retc k175.res (Sh.ar .u32)) (modeOf FT) 0 fuelC k175.body (env0 k175 (encL [(Sh.ar .u32), (Sh.ar .u8)] (a0, (a1, ()))), []) (endK (retc k175.res (Sh.ar .u32))) = p175 c196 c198 c197 N a0 a1 := by kernel_rfl
theorem ok175 (c196 : D196) (c198 : D198) (c197 : D197) (h196 : O196 c196) (h198 : O198 c198) (h197 : O197 c197) {f : D175} (hf : ∀ a0 a1 r, f a0 a1 = some r → ∃ N, p175 c196 c198 c197 N a0 a1 = some r) : O175 f := by
  have hT : TabOK FT XT (T175 c196 c198 c197) := (tb1 h196 (tb1 h198 (tb1 h197 tb0)))
  have hO0 : RawOK FT XT (rawOf (α := ((Sh.ar .u32)).T) RW0) := rawOK0
  have hO : RawOK FT XT (rawOf (α := ((Sh.ar .u32)).T) RW0) := hO0
  refine ⟨rfl, fun v r h => ?_⟩
  obtain ⟨a0, a1, _⟩ := v
  obtain ⟨N, h1⟩ := hf _ _ _ h
  exact ans_c (R := (Sh.ar .u32)) (tab := T175 c196 c198 c197) (raw := (rawOf RW0)) (LP := W175 c196 c198 c197 N) (fu := fuelC) hT hO rfl rfl (Nat.le_of_ble_eq_true rfl) (loopOK_cons l175_0 (fun s κ a h => o175_0 c196 c198 c197 hT hO N h) (loopOK_cons l175_1 (fun s κ a h => o175_1 c196 c198 c197 hT hO N h) loopOK_nil)) ((e175 c196 c198 c197 N _ _).trans h1)

theorem ok176 (c19 : D19) (h19 : O19 c19) {f : D176} (hf : ∀ a0 r, f a0 = some r → ∃ N, p176 c19 N a0 = some r) : O176 f :=
 okc (fu := fuelC) (tb1 h19 tb0) rfl rfl rfl (fun _ => rfl) (fun v r h => by
 obtain ⟨N, h⟩ := hf v.1 r h
 refine Eq.trans ?_ h; kernel_rfl) rfl

def T177 : Nat → Option Ent := tb []
def H177_1 : Trim := ⟨1, [], false, [3, 4, 5], []⟩
theorem l177_1 : loopN k177 1 = .loop H177_1 (bodyOf (loopN k177 1)) := by kernel_rfl
def P177_1 : Ps := ⟨[(0, .u), (2, .u), (3, (.sl 0 1)), (4, (.int .u64)), (5, (.int .i64)), (13, .u), (20, .u)], [(.ints false .u8)]⟩
def Q177_1 : Nat → Ps
  | 2 => ⟨[(0, .u), (2, .u), (3, (.sl 0 1)), (4, .u), (5, .u), (13, .u), (20, .u)], [(.ints false .u8)]⟩
  | _ => noPs
def u177_1 (N n : Nat) (v : P177_1.T) (κ : (i : Nat) → (Q177_1 i).T → Option (((Sh.sl (Sh.int .u8))).T)) : Option (((Sh.sl (Sh.int .u8))).T) :=
  L177_1 N (fun (y0 : Nat) (y1 : List Int) => κ 2 (((), ((), (y0, ((), ((), ((), ((), ()))))))), (y1, ()))) n v.1.2.2.1 v.1.2.2.2.1 v.1.2.2.2.2.1 v.2.1
def W177_1 (N : Nat) : LoopF (((Sh.sl (Sh.int .u8))).T) := fun no =>
  match no with
  | _ => fun _ _ => none
theorem b177_1 (N n : Nat) (v : P177_1.T) (κ : (i : Nat) → (Q177_1 i).T → Option (((Sh.sl (Sh.int .u8))).T)) :
    evc (T177) (rawOf RW0) (W177_1 N) (retc k177.res (Sh.sl (Sh.int .u8))) (modeOf FT) 0 fuelC (bodyOf (loopN k177 1)) (P177_1.st v) (roundK 0 H177_1 P177_1 Q177_1 (u177_1 N n) κ) = u177_1 N (n + 1) v κ := by kernel_rfl
theorem o177_1 (hT : TabOK FT XT (T177)) (hO : RawOK FT XT (rawOf (α := ((Sh.sl (Sh.int .u8))).T) RW0)) (N : Nat) {s : St} {κ : Ex → St → Option (((Sh.sl (Sh.int .u8))).T)} {a : ((Sh.sl (Sh.int .u8))).T} (h : lpOf 0 H177_1 P177_1 Q177_1 (u177_1 N N) s κ = some a) : Out FT XT 0 (retc k177.res (Sh.sl (Sh.int .u8))) (loopN k177 1) s κ a := by
  rw [l177_1]
  exact loop_out (LP := W177_1 N) (fu := fuelC) hT hO (fun _ _ => rfl) (b177_1 N) loopOK_nil N h
def H177_0 : Trim := ⟨0, [], false, [0, 3], [(3, (.imm []), 1)]⟩
theorem l177_0 : loopN k177 0 = .loop H177_0 (bodyOf (loopN k177 0)) := by kernel_rfl
def P177_0 : Ps := ⟨[(0, (.int .u64)), (2, .u), (3, (.sl 0 1)), (4, .u), (5, .u), (13, .u), (20, .u)], [(.ints false .u8)]⟩
def Q177_0 : Nat → Ps
  | 0 => ⟨[(0, (.int .u64)), (2, .u), (3, (.sl 0 1)), (4, .u), (5, .u), (13, .u), (20, .u)], [(.ints false .u8)]⟩
  | _ => noPs
def u177_0 (N n : Nat) (v : P177_0.T) (κ : (i : Nat) → (Q177_0 i).T → Option (((Sh.sl (Sh.int .u8))).T)) : Option (((Sh.sl (Sh.int .u8))).T) :=
  L177_0 N (fun (y0 : Int) (y1 : Nat) (y2 : List Int) => κ 0 ((y0, ((), (y1, ((), ((), ((), ((), ()))))))), (y2, ()))) n v.1.1 v.1.2.2.1 v.2.1
def W177_0 (N : Nat) : LoopF (((Sh.sl (Sh.int .u8))).T) := fun no =>
  match no with
  | _ => fun _ _ => none
theorem b177_0 (N n : Nat) (v : P177_0.T) (κ : (i : Nat) → (Q177_0 i).T → Option (((Sh.sl (Sh.int .u8))).T)) :
    evc (T177) (rawOf RW0) (W177_0 N) (retc k177.res (Sh.sl (Sh.int .u8))) (modeOf FT) 0 fuelC (bodyOf (loopN k177 0)) (P177_0.st v) (roundK 0 H177_0 P177_0 Q177_0 (u177_0 N n) κ) = u177_0 N (n + 1) v κ := by kernel_rfl
theorem o177_0 (hT : TabOK FT XT (T177)) (hO : RawOK FT XT (rawOf (α := ((Sh.sl (Sh.int .u8))).T) RW0)) (N : Nat) {s : St} {κ : Ex → St → Option (((Sh.sl (Sh.int .u8))).T)} {a : ((Sh.sl (Sh.int .u8))).T} (h : lpOf 0 H177_0 P177_0 Q177_0 (u177_0 N N) s κ = some a) : Out FT XT 0 (retc k177.res (Sh.sl (Sh.int .u8))) (loopN k177 0) s κ a := by
  rw [l177_0]
  exact loop_out (LP := W177_0 N) (fu := fuelC) hT hO (fun _ _ => rfl) (b177_0 N) loopOK_nil N h
def W177 (N : Nat) : LoopF (((Sh.sl (Sh.int .u8))).T) := fun no =>
  match no with
  | 0 => lpOf 0 H177_0 P177_0 Q177_0 (u177_0 N N)
  | 1 => lpOf 0 H177_1 P177_1 Q177_1 (u177_1 N N)
  | _ => fun _ _ => none
theorem e177 (N : Nat) (a0 : Int) : evc (T177) (rawOf RW0) (W177 N) (retc k177.res (Sh.sl (Sh.int .u8))) (modeOf FT) 0 fuelC k177.body (env0 k177 (encL [(Sh.int .u64)] (a0, ())), []) (endK (retc k177.res (Sh.sl (Sh.int .u8)))) = p177 N a0 := by kernel_rfl
theorem ok177 {f : D177} (hf : ∀ a0 r, f a0 = some r → ∃ N, p177 N a0 = some r) : O177 f := by
  have hT : TabOK FT XT (T177) := tb0
  have hO0 : RawOK FT XT (rawOf (α := ((Sh.sl (Sh.int .u8))).T) RW0) := rawOK0
  have hO : RawOK FT XT (rawOf (α := ((Sh.sl (Sh.int .u8))).T) RW0) := hO0
  refine ⟨rfl, fun v r h => ?_⟩
  obtain ⟨a0, _⟩ := v
  obtain ⟨N, h1⟩ := hf _ _ h
  exact ans_c (R := (Sh.sl (Sh.int .u8))) (tab := T177) (raw := (rawOf RW0)) (LP := W177 N) (fu := fuelC) hT hO rfl rfl (Nat.le_of_ble_eq_true rfl) (loopOK_cons l177_0 (fun s κ a h => o177_0 hT hO N h) (loopOK_cons l177_1 (fun s κ a h => o177_1 hT hO N h) loopOK_nil)) ((e177 N _).trans h1)

theorem ok178 {f : D178} (hf : ∀  r, f  = some r → ∃ N, p178 N  = some r) : O178 f :=
 okc (fu := fuelC) tb0 rfl rfl rfl (fun _ => rfl) (fun v r h => by
 obtain ⟨N, h⟩ := hf r h
 refine Eq.trans ?_ h; kernel_rfl) rfl

theorem ok179 {f : D179} (hf : ∀  r, f  = some r → ∃ N, p179 N  = some r) : O179 f :=
 okc (fu := fuelC) tb0 rfl rfl rfl (fun _ => rfl) (fun v r h => by
 obtain ⟨N, h⟩ := hf r h
 refine Eq.trans ?_ h; kernel_rfl) rfl

def T181 (c46 : D46) (c176 : D176) (c178 : D178) (c174 : D174) : Nat → Option Ent := tb [(46, en46 c46), (176, en176 c176), (178, en178 c178), (174, en174 c174)]
def H181_1 : Trim := ⟨1, [], false, [2, 4, 5, 27], []⟩
theorem l181_1 : loopN k181 1 = .loop H181_1 (bodyOf (loopN k181 1)) := by kernel_rfl
def P181_1 : Ps := ⟨[(0, .u), (2, (.ptr 0 0)), (3, .u), (4, (.ptr 1 0)), (5, (.ptr 2 0)), (6, .u), (18, .u), (27, (.int .i64)), (28, .u)], [(.ints false .u8), (.ints false .u32), (.ints false .u8)]⟩
def Q181_1 : Nat → Ps
  | 2 => ⟨[(0, .u), (2, (.ptr 0 0)), (3, .u), (4, .u), (5, (.ptr 1 0)), (6, .u), (18, .u), (27, .u), (28, .u)], [(.ints false .u8), (.ints false .u8)]⟩
  | _ => noPs
def u181_1 (c46 : D46) (c176 : D176) (c178 : D178) (c174 : D174) (N n : Nat) (v : P181_1.T) (κ : (i : Nat) → (Q181_1 i).T → Option (((Sh.ar .u8)).T)) : Option (((Sh.ar .u8)).T) :=
  L181_1 c46 c176 c178 c174 N (fun (y0 : List Int) (y1 : List Int) => κ 2 (((), ((), ((), ((), ((), ((), ((), ((), ((), ()))))))))), (y0, (y1, ())))) n v.1.2.2.2.2.2.2.2.1 v.2.1 v.2.2.1 v.2.2.2.1
def W181_1 (c46 : D46) (c176 : D176) (c178 : D178) (c174 : D174) (N : Nat) : LoopF (((Sh.ar .u8)).T) := fun no =>
  match no with
  | _ => fun _ _ => none
theorem b181_1 (c46 : D46) (c176 : D176) (c178 : D178) (c174 : D174) (N n : Nat) (v : P181_1.T) (κ : (i : Nat) → (Q181_1 i).T → Option (((Sh.ar .u8)).T)) :
    evc (T181 c46 c176 c178 c174) (rawOf RW0) (W181_1 c46 c176 c178 c174 N) (retc k181.res (Sh.ar .u8)) (modeOf FT) 0 fuelC (bodyOf (loopN k181 1)) (P181_1.st v) (roundK 0 H181_1 P181_1 Q181_1 (u181_1 c46 c176 c178 c174 N n) κ) = u181_1 c46 c176 c178 c174 N (n + 1) v κ := by kernel_rfl
theorem o181_1 (c46 : D46) (c176 : D176) (c178 : D178) (c174 : D174) (hT : TabOK FT XT (T181 c46 c176 c178 c174)) (hO : RawOK FT XT (rawOf (α := ((Sh.ar .u8)).T) RW0)) (N : Nat) {s : St} {κ : Ex → St → Option (((Sh.ar .u8)).T)} {a : ((Sh.ar .u8)).T} (h : lpOf 0 H181_1 P181_1 Q181_1 (u181_1 c46 c176 c178 c174 N N) s κ = some a) : Out FT XT 0 (retc k181.res (Sh.ar .u8)) (loopN k181 1) s κ a := by
  rw [l181_1]
  exact loop_out (LP := W181_1 c46 c176 c178 c174 N) (fu := fuelC) hT hO (fun _ _ => rfl) (b181_1 c46 c176 c178 c174 N) loopOK_nil N h
def H181_0 : Trim := ⟨0, [(3, (Sh.sl (Sh.int .u8)))], false, [2, 3, 4], []⟩
theorem l181_0 : loopN k181 0 = .loop H181_0 (bodyOf (loopN k181 0)) := by kernel_rfl
def P181_0 : Ps := ⟨[(0, .u), (2, (.ptr 0 0)), (3, (.tb (Sh.int .u8))), (4, (.ptr 1 0)), (5, .u), (6, .u), (18, .u), (27, .u), (28, .u)], [(.ints false .u8), (.ints false .u32)]⟩
def Q181_0 : Nat → Ps
  | 0 => ⟨[(0, .u), (2, (.ptr 0 0)), (3, .u), (4, (.ptr 1 0)), (5, .u), (6, .u), (18, .u), (27, .u), (28, .u)], [(.ints false .u8), (.ints false .u32)]⟩
  | _ => noPs
def u181_0 (c46 : D46) (c176 : D176) (c178 : D178) (c174 : D174) (N n : Nat) (v : P181_0.T) (κ : (i : Nat) → (Q181_0 i).T → Option (((Sh.ar .u8)).T)) : Option (((Sh.ar .u8)).T) :=
  L181_0 c46 c176 c178 c174 N (fun (y0 : List Int) (y1 : List Int) => κ 0 (((), ((), ((), ((), ((), ((), ((), ((), ((), ()))))))))), (y0, (y1, ())))) n v.1.2.2.1 v.2.1 v.2.2.1
def W181_0 (c46 : D46) (c176 : D176) (c178 : D178) (c174 : D174) (N : Nat) : LoopF (((Sh.ar .u8)).T) := fun no =>
  match no with
  | _ => fun _ _ => none
theorem b181_0 (c46 : D46) (c176 : D176) (c178 : D178) (c174 : D174) (N n : Nat) (v : P181_0.T) (κ : (i : Nat) → (Q181_0 i).T → Option (((Sh.ar .u8)).T)) :
    evc (T181 c46 c176 c178 c174) (rawOf RW0) (W181_0 c46 c176 c178 c174 N) (retc k181.res (Sh.ar .u8)) (modeOf FT) 0 fuelC (bodyOf (loopN k181 0)) (P181_0.st v) (roundK 0 H181_0 P181_0 Q181_0 (u181_0 c46 c176 c178 c174 N n) κ) = u181_0 c46 c176 c178 c174 N (n + 1) v κ := by kernel_rfl
theorem o181_0 (c46 : D46) (c176 : D176) (c178 : D178) (c174 : D174) (hT : TabOK FT XT (T181 c46 c176 c178 c174)) (hO : RawOK FT XT (rawOf (α := ((Sh.ar .u8)).T) RW0)) (N : Nat) {s : St} {κ : Ex → St → Option (((Sh.ar .u8)).T)} {a : ((Sh.ar .u8)).T} (h : lpOf 0 H181_0 P181_0 Q181_0 (u181_0 c46 c176 c178 c174 N N) s κ = some a) : Out FT XT 0 (retc k181.res (Sh.ar .u8)) (loopN k181 0) s κ a := by
  rw [l181_0]
  exact loop_out (LP := W181_0 c46 c176 c178 c174 N) (fu := fuelC) hT hO (fun _ _ => rfl) (b181_0 c46 c176 c178 c174 N) loopOK_nil N h
def W181 (c46 : D46) (c176 : D176) (c178 : D178) (c174 : D174) (N : Nat) : LoopF (((Sh.ar .u8)).T) := fun no =>
  match no with
  | 0 => lpOf 0 H181_0 P181_0 Q181_0 (u181_0 c46 c176 c178 c174 N N)
  | 1 => lpOf 0 H181_1 P181_1 Q181_1 (u181_1 c46 c176 c178 c174 N N)
  | _ => fun _ _ => none
theorem e181 (c46 : D46) (c176 : D176) (c178 : D178) (c174 : D174) (N : Nat) (a0 : List (List Int)) : evc (T181 c46 c176 c178 c174) (rawOf RW0) (W181 c46 c176 c178 c174 N) (retc k181.res (Sh.ar .u8)) (modeOf FT) 0 fuelC k181.body (env0 k181 (encL [(Sh.sl (Sh.sl (Sh.int .u8)))] (a0, ())), []) (endK (retc k181.res (Sh.ar .u8))) = p181 c46 c176 c178 c174 N a0 := by kernel_rfl
theorem ok181 (c46 : D46) (c176 : D176) (c178 : D178) (c174 : D174) (h46 : O46 c46) (h176 : O176 c176) (h178 : O178 c178) (h174 : O174 c174) {f : D181} (hf : ∀ a0 r, f a0 = some r → ∃ N, p181 c46 c176 c178 c174 N a0 = some r) : O181 f := by
  have hT : TabOK FT XT (T181 c46 c176 c178 c174) := (tb1 h46 (tb1 h176 (tb1 h178 (tb1 h174 tb0))))
  have hO0 : RawOK FT XT (rawOf (α := ((Sh.ar .u8)).T) RW0) := rawOK0
  have hO : RawOK FT XT (rawOf (α := ((Sh.ar .u8)).T) RW0) := hO0
  refine ⟨rfl, fun v r h => ?_⟩
  obtain ⟨a0, _⟩ := v
  obtain ⟨N, h1⟩ := hf _ _ h
  exact ans_c (R := (Sh.ar .u8)) (tab := T181 c46 c176 c178 c174) (raw := (rawOf RW0)) (LP := W181 c46 c176 c178 c174 N) (fu := fuelC) hT hO rfl rfl (Nat.le_of_ble_eq_true rfl) (loopOK_cons l181_0 (fun s κ a h => o181_0 c46 c176 c178 c174 hT hO N h) (loopOK_cons l181_1 (fun s κ a h => o181_1 c46 c176 c178 c174 hT hO N h) loopOK_nil)) ((e181 c46 c176 c178 c174 N _).trans h1)

def T182 (c177 : D177) (c179 : D179) (c175 : D175) : Nat → Option Ent := tb [(177, en177 c177), (179, en179 c179), (175, en175 c175)]
def H182_2 : Trim := ⟨2, [], false, [2, 4, 8, 9], []⟩
theorem l182_2 : loopN k182 2 = .loop H182_2 (bodyOf (loopN k182 2)) := by kernel_rfl
def P182_2 : Ps := ⟨[(0, .u), (2, (.ptr 0 0)), (3, .u), (4, (.ptr 1 0)), (5, .u), (6, .u), (7, .u), (8, (.ptr 2 0)), (9, (.int .i64)), (21, .u), (25, .u), (40, .u)], [(.ints false .u8), (.ints false .u32), (.ints false .u8)]⟩
def Q182_2 : Nat → Ps
  | 4 => ⟨[(0, .u), (2, (.ptr 0 0)), (3, .u), (4, .u), (5, .u), (6, .u), (7, .u), (8, (.ptr 1 0)), (9, .u), (21, .u), (25, .u), (40, .u)], [(.ints false .u8), (.ints false .u8)]⟩
  | _ => noPs
def u182_2 (c177 : D177) (c179 : D179) (c175 : D175) (N n : Nat) (v : P182_2.T) (κ : (i : Nat) → (Q182_2 i).T → Option (((Sh.ar .u8)).T)) : Option (((Sh.ar .u8)).T) :=
  L182_2 c177 c179 c175 N (fun (y0 : List Int) (y1 : List Int) => κ 4 (((), ((), ((), ((), ((), ((), ((), ((), ((), ((), ((), ((), ())))))))))))), (y0, (y1, ())))) n v.1.2.2.2.2.2.2.2.2.1 v.2.1 v.2.2.1 v.2.2.2.1
def W182_2 (c177 : D177) (c179 : D179) (c175 : D175) (N : Nat) : LoopF (((Sh.ar .u8)).T) := fun no =>
  match no with
  | _ => fun _ _ => none
theorem b182_2 (c177 : D177) (c179 : D179) (c175 : D175) (N n : Nat) (v : P182_2.T) (κ : (i : Nat) → (Q182_2 i).T → Option (((Sh.ar .u8)).T)) :
    evc (T182 c177 c179 c175) (rawOf RW0) (W182_2 c177 c179 c175 N) (retc k182.res (Sh.ar .u8)) (modeOf FT) 0 fuelC (bodyOf (loopN k182 2)) (P182_2.st v) (roundK 0 H182_2 P182_2 Q182_2 (u182_2 c177 c179 c175 N n) κ) = u182_2 c177 c179 c175 N (n + 1) v κ := by kernel_rfl
theorem o182_2 (c177 : D177) (c179 : D179) (c175 : D175) (hT : TabOK FT XT (T182 c177 c179 c175)) (hO : RawOK FT XT (rawOf (α := ((Sh.ar .u8)).T) RW0)) (N : Nat) {s : St} {κ : Ex → St → Option (((Sh.ar .u8)).T)} {a : ((Sh.ar .u8)).T} (h : lpOf 0 H182_2 P182_2 Q182_2 (u182_2 c177 c179 c175 N N) s κ = some a) : Out FT XT 0 (retc k182.res (Sh.ar .u8)) (loopN k182 2) s κ a := by
  rw [l182_2]
  exact loop_out (LP := W182_2 c177 c179 c175 N) (fu := fuelC) hT hO (fun _ _ => rfl) (b182_2 c177 c179 c175 N) loopOK_nil N h
def H182_1 : Trim := ⟨1, [], false, [2, 3, 4, 5, 6, 7], []⟩
theorem l182_1 : loopN k182 1 = .loop H182_1 (bodyOf (loopN k182 1)) := by kernel_rfl
def P182_1 : Ps := ⟨[(0, .u), (2, (.ptr 0 0)), (3, (.sl 1 1)), (4, (.ptr 2 0)), (5, (.int .i64)), (6, (.ptr 3 0)), (7, (.int .i64)), (8, .u), (9, .u), (21, .u), (25, .u), (40, .u)], [(.ints false .u8), (.ints false .u8), (.ints false .u32), (.ints false .u8)]⟩
def Q182_1 : Nat → Ps
  | 2 => ⟨[(0, .u), (2, (.ptr 0 0)), (3, (.sl 1 1)), (4, (.ptr 2 0)), (5, (.int .i64)), (6, (.ptr 3 0)), (7, .u), (8, .u), (9, .u), (21, .u), (25, .u), (40, .u)], [(.ints false .u8), (.ints false .u8), (.ints false .u32), (.ints false .u8)]⟩
  | _ => noPs
def u182_1 (c177 : D177) (c179 : D179) (c175 : D175) (N n : Nat) (v : P182_1.T) (κ : (i : Nat) → (Q182_1 i).T → Option (((Sh.ar .u8)).T)) : Option (((Sh.ar .u8)).T) :=
  L182_1 c177 c179 c175 N (fun (y0 : Nat) (y1 : Int) (y2 : List Int) (y3 : List Int) (y4 : List Int) (y5 : List Int) => κ 2 (((), ((), (y0, ((), (y1, ((), ((), ((), ((), ((), ((), ((), ())))))))))))), (y2, (y3, (y4, (y5, ())))))) n v.1.2.2.1 v.1.2.2.2.2.1 v.1.2.2.2.2.2.2.1 v.2.1 v.2.2.1 v.2.2.2.1 v.2.2.2.2.1
def W182_1 (c177 : D177) (c179 : D179) (c175 : D175) (N : Nat) : LoopF (((Sh.ar .u8)).T) := fun no =>
  match no with
  | _ => fun _ _ => none
theorem b182_1 (c177 : D177) (c179 : D179) (c175 : D175) (N n : Nat) (v : P182_1.T) (κ : (i : Nat) → (Q182_1 i).T → Option (((Sh.ar .u8)).T)) :
    evc (T182 c177 c179 c175) (rawOf RW0) (W182_1 c177 c179 c175 N) (retc k182.res (Sh.ar .u8)) (modeOf FT) 0 fuelC (bodyOf (loopN k182 1)) (P182_1.st v) (roundK 0 H182_1 P182_1 Q182_1 (u182_1 c177 c179 c175 N n) κ) = u182_1 c177 c179 c175 N (n + 1) v κ := by kernel_rfl
theorem o182_1 (c177 : D177) (c179 : D179) (c175 : D175) (hT : TabOK FT XT (T182 c177 c179 c175)) (hO : RawOK FT XT (rawOf (α := ((Sh.ar .u8)).T) RW0)) (N : Nat) {s : St} {κ : Ex → St → Option (((Sh.ar .u8)).T)} {a : ((Sh.ar .u8)).T} (h : lpOf 0 H182_1 P182_1 Q182_1 (u182_1 c177 c179 c175 N N) s κ = some a) : Out FT XT 0 (retc k182.res (Sh.ar .u8)) (loopN k182 1) s κ a := by
  rw [l182_1]
  exact loop_out (LP := W182_1 c177 c179 c175 N) (fu := fuelC) hT hO (fun _ _ => rfl) (b182_1 c177 c179 c175 N) loopOK_nil N h
def H182_0 : Trim := ⟨0, [], false, [2, 3, 4, 5], []⟩
theorem l182_0 : loopN k182 0 = .loop H182_0 (bodyOf (loopN k182 0)) := by kernel_rfl
def P182_0 : Ps := ⟨[(0, .u), (2, (.ptr 0 0)), (3, (.sl 1 1)), (4, (.ptr 2 0)), (5, (.int .i64)), (6, .u), (7, .u), (8, .u), (9, .u), (21, .u), (25, .u), (40, .u)], [(.ints false .u8), (.ints false .u8), (.ints false .u32)]⟩
def Q182_0 : Nat → Ps
  | 0 => ⟨[(0, .u), (2, (.ptr 0 0)), (3, .u), (4, (.ptr 1 0)), (5, .u), (6, .u), (7, .u), (8, .u), (9, .u), (21, .u), (25, .u), (40, .u)], [(.ints false .u8), (.ints false .u32)]⟩
  | _ => noPs
def u182_0 (c177 : D177) (c179 : D179) (c175 : D175) (N n : Nat) (v : P182_0.T) (κ : (i : Nat) → (Q182_0 i).T → Option (((Sh.ar .u8)).T)) : Option (((Sh.ar .u8)).T) :=
  L182_0 c177 c179 c175 N (fun (y0 : List Int) (y1 : List Int) => κ 0 (((), ((), ((), ((), ((), ((), ((), ((), ((), ((), ((), ((), ())))))))))))), (y0, (y1, ())))) n v.1.2.2.1 v.1.2.2.2.2.1 v.2.1 v.2.2.1 v.2.2.2.1
def W182_0 (c177 : D177) (c179 : D179) (c175 : D175) (N : Nat) : LoopF (((Sh.ar .u8)).T) := fun no =>
  match no with
  | 1 => lpOf 0 H182_1 P182_1 Q182_1 (u182_1 c177 c179 c175 N N)
  | _ => fun _ _ => none
theorem b182_0 (c177 : D177) (c179 : D179) (c175 : D175) (N n : Nat) (v : P182_0.T) (κ : (i : Nat) → (Q182_0 i).T → Option (((Sh.ar .u8)).T)) :
    evc (T182 c177 c179 c175) (rawOf RW0) (W182_0 c177 c179 c175 N) (retc k182.res (Sh.ar .u8)) (modeOf FT) 0 fuelC (bodyOf (loopN k182 0)) (P182_0.st v) (roundK 0 H182_0 P182_0 Q182_0 (u182_0 c177 c179 c175 N n) κ) = u182_0 c177 c179 c175 N (n + 1) v κ := by kernel_rfl
theorem o182_0 (c177 : D177) (c179 : D179) (c175 : D175) (hT : TabOK FT XT (T182 c177 c179 c175)) (hO : RawOK FT XT (rawOf (α := ((Sh.ar .u8)).T) RW0)) (N : Nat) {s : St} {κ : Ex → St → Option (((Sh.ar .u8)).T)} {a : ((Sh.ar .u8)).T} (h : lpOf 0 H182_0 P182_0 Q182_0 (u182_0 c177 c179 c175 N N) s κ = some a) : Out FT XT 0 (retc k182.res (Sh.ar .u8)) (loopN k182 0) s κ a := by
  rw [l182_0]
  exact loop_out (LP := W182_0 c177 c179 c175 N) (fu := fuelC) hT hO (fun _ _ => rfl) (b182_0 c177 c179 c175 N) (loopOK_cons l182_1 (fun s κ a h => o182_1 c177 c179 c175 hT hO N h) loopOK_nil) N h
def W182 (c177 : D177) (c179 : D179) (c175 : D175) (N : Nat) : LoopF (((Sh.ar .u8)).T) := fun no =>
  match no with
  | 0 => lpOf 0 H182_0 P182_0 Q182_0 (u182_0 c177 c179 c175 N N)
  | 2 => lpOf 0 H182_2 P182_2 Q182_2 (u182_2 c177 c179 c175 N N)
  | _ => fun _ _ => none
theorem e182 (c177 : D177) (c179 : D179) (c175 : D175) (N : Nat) (a0 : List Int) : evc (T182 c177 c179 c175) (rawOf RW0) (W182 c177 c179 c175 N) (retc k182.res (Sh.ar .u8)) (modeOf FT) 0 fuelC k182.body (env0 k182 (encL [(Sh.sl (Sh.int .u8))] (a0, ())), []) (endK (retc k182.res (Sh.ar .u8))) = p182 c177 c179 c175 N a0 := by kernel_rfl
theorem ok182 (c177 : D177) (c179 : D179) (c175 : D175) (h177 : O177 c177) (h179 : O179 c179) (h175 : O175 c175) {f : D182} (hf : ∀ a0 r, f a0 = some r → ∃ N, p182 c177 c179 c175 N a0 = some r) : O182 f := by
  have hT : TabOK FT XT (T182 c177 c179 c175) := (tb1 h177 (tb1 h179 (tb1 h175 tb0)))
  have hO0 : RawOK FT XT (rawOf (α := ((Sh.ar .u8)).T) RW0) := rawOK0
  have hO : RawOK FT XT (rawOf (α := ((Sh.ar .u8)).T) RW0) := hO0
  refine ⟨rfl, fun v r h => ?_⟩
  obtain ⟨a0, _⟩ := v
  obtain ⟨N, h1⟩ := hf _ _ h
  exact ans_c (R := (Sh.ar .u8)) (tab := T182 c177 c179 c175) (raw := (rawOf RW0)) (LP := W182 c177 c179 c175 N) (fu := fuelC) hT hO rfl rfl (Nat.le_of_ble_eq_true rfl) (loopOK_cons l182_0 (fun s κ a h => o182_0 c177 c179 c175 hT hO N h) (loopOK_cons l182_2 (fun s κ a h => o182_2 c177 c179 c175 hT hO N h) loopOK_nil)) ((e182 c177 c179 c175 N _).trans h1)

theorem ok401 {f : D401} (hf : ∀ a0 r, f a0 = some r → ∃ N, p401 N a0 = some r) : O401 f :=
 okc (fu := fuelC) tb0 rfl rfl rfl (fun _ => rfl) (fun v r h => by
 obtain ⟨N, h⟩ := hf v.1 r h
 refine Eq.trans ?_ h; kernel_rfl) rfl

def T396 (c401 : D401) : Nat → Option Ent := tb [(401, en401 c401)]
def H396_1 : Trim := ⟨1, [], false, [0], []⟩
theorem l396_1 : loopN k396 1 = .loop H396_1 (bodyOf (loopN k396 1)) := by kernel_rfl
def P396_1 : Ps := ⟨[(0, .str), (2, .u), (3, .u), (4, .u), (5, .u), (6, .u), (9, .u), (13, .u), (24, .u), (39, .u), (62, .u), (75, .u), (76, .u), (94, .u), (97, .u), (125, .u), (128, .u), (166, .u)], []⟩
def Q396_1 : Nat → Ps
  | 2 => ⟨[(0, .str), (2, .u), (3, .u), (4, .u), (5, .u), (6, .u), (9, .u), (13, .u), (24, .u), (39, .u), (62, .u), (75, .u), (76, .u), (94, .u), (97, .u), (125, .u), (128, .u), (166, .u)], []⟩
  | _ => noPs
def u396_1 (c401 : D401) (N n : Nat) (v : P396_1.T) (κ : (i : Nat) → (Q396_1 i).T → Option (Sh.bool).T) : Option (Sh.bool).T :=
  L396_1 c401 N (fun (y0 : List UInt8) => κ 2 ((y0, ((), ((), ((), ((), ((), ((), ((), ((), ((), ((), ((), ((), ((), ((), ((), ((), ((), ())))))))))))))))))), ())) n v.1.1
def W396_1 (c401 : D401) (N : Nat) : LoopF (Sh.bool).T := fun no =>
  match no with
  | _ => fun _ _ => none
theorem b396_1 (c401 : D401) (N n : Nat) (v : P396_1.T) (κ : (i : Nat) → (Q396_1 i).T → Option (Sh.bool).T) :
    evc (T396 c401) (rawOf RW0) (W396_1 c401 N) (retc k396.res Sh.bool) (modeOf FT) 0 fuelC (bodyOf (loopN k396 1)) (P396_1.st v) (roundK 0 H396_1 P396_1 Q396_1 (u396_1 c401 N n) κ) = u396_1 c401 N (n + 1) v κ := by kernel_rfl
theorem o396_1 (c401 : D401) (hT : TabOK FT XT (T396 c401)) (hO : RawOK FT XT (rawOf (α := (Sh.bool).T) RW0)) (N : Nat) {s : St} {κ : Ex → St → Option (Sh.bool).T} {a : (Sh.bool).T} (h : lpOf 0 H396_1 P396_1 Q396_1 (u396_1 c401 N N) s κ = some a) : Out FT XT 0 (retc k396.res Sh.bool) (loopN k396 1) s κ a := by
  rw [l396_1]
  exact loop_out (LP := W396_1 c401 N) (fu := fuelC) hT hO (fun _ _ => rfl) (b396_1 c401 N) loopOK_nil N h
def H396_0 : Trim := ⟨0, [], false, [0], []⟩
theorem l396_0 : loopN k396 0 = .loop H396_0 (bodyOf (loopN k396 0)) := by kernel_rfl
def P396_0 : Ps := ⟨[(0, .str), (2, .u), (3, .u), (4, .u), (5, .u), (6, .u), (9, .u), (13, .u), (24, .u), (39, .u), (62, .u), (75, .u), (76, .u), (94, .u), (97, .u), (125, .u), (128, .u), (166, .u)], []⟩
def Q396_0 : Nat → Ps
  | 0 => ⟨[(0, .u), (2, .u), (3, .u), (4, .u), (5, .u), (6, .u), (9, .u), (13, .u), (24, .u), (39, .u), (62, .u), (75, .u), (76, .u), (94, .u), (97, .u), (125, .u), (128, .u), (166, .u)], []⟩
  | _ => noPs
def u396_0 (c401 : D401) (N n : Nat) (v : P396_0.T) (κ : (i : Nat) → (Q396_0 i).T → Option (Sh.bool).T) : Option (Sh.bool).T :=
  L396_0 c401 N (κ 0 (((), ((), ((), ((), ((), ((), ((), ((), ((), ((), ((), ((), ((), ((), ((), ((), ((), ((), ())))))))))))))))))), ())) n v.1.1
def W396_0 (c401 : D401) (N : Nat) : LoopF (Sh.bool).T := fun no =>
  match no with
  | 1 => lpOf 0 H396_1 P396_1 Q396_1 (u396_1 c401 N N)
  | _ => fun _ _ => none
theorem b396_0 (c401 : D401) (N n : Nat) (v : P396_0.T) (κ : (i : Nat) → (Q396_0 i).T → Option (Sh.bool).T) :
    evc (T396 c401) (rawOf RW0) (W396_0 c401 N) (retc k396.res Sh.bool) (modeOf FT) 0 fuelC (bodyOf (loopN k396 0)) (P396_0.st v) (roundK 0 H396_0 P396_0 Q396_0 (u396_0 c401 N n) κ) = u396_0 c401 N (n + 1) v κ := by kernel_rfl
theorem o396_0 (c401 : D401) (hT : TabOK FT XT (T396 c401)) (hO : RawOK FT XT (rawOf (α := (Sh.bool).T) RW0)) (N : Nat) {s : St} {κ : Ex → St → Option (Sh.bool).T} {a : (Sh.bool).T} (h : lpOf 0 H396_0 P396_0 Q396_0 (u396_0 c401 N N) s κ = some a) : Out FT XT 0 (retc k396.res Sh.bool) (loopN k396 0) s κ a := by
  rw [l396_0]
  exact loop_out (LP := W396_0 c401 N) (fu := fuelC) hT hO (fun _ _ => rfl) (b396_0 c401 N) (loopOK_cons l396_1 (fun s κ a h => o396_1 c401 hT hO N h) loopOK_nil) N h
def W396 (c401 : D401) (N : Nat) : LoopF (Sh.bool).T := fun no =>
  match no with
  | 0 => lpOf 0 H396_0 P396_0 Q396_0 (u396_0 c401 N N)
  | _ => fun _ _ => none
theorem e396 (c401 : D401) (N : Nat) (a0 : List UInt8) : evc (T396 c401) (rawOf RW0) (W396 c401 N) (retc k396.res Sh.bool) (modeOf FT) 0 fuelC k396.body (env0 k396 (encL [Sh.str] (a0, ())), []) (endK (retc k396.res Sh.bool)) = p396 c401 N a0 := by kernel_rfl
theorem ok396 (c401 : D401) (h401 : O401 c401) {f : D396} (hf : ∀ a0 r, f a0 = some r → ∃ N, p396 c401 N a0 = some r) : O396 f := by
  have hT : TabOK FT XT (T396 c401) := (tb1 h401 tb0)
  have hO0 : RawOK FT XT (rawOf (α := (Sh.bool).T) RW0) := rawOK0
  have hO : RawOK FT XT (rawOf (α := (Sh.bool).T) RW0) := hO0
  refine ⟨rfl, fun v r h => ?_⟩
  obtain ⟨a0, _⟩ := v
  obtain ⟨N, h1⟩ := hf _ _ h
  exact ans_c (R := Sh.bool) (tab := T396 c401) (raw := (rawOf RW0)) (LP := W396 c401 N) (fu := fuelC) hT hO rfl rfl (Nat.le_of_ble_eq_true rfl) (loopOK_cons l396_0 (fun s κ a h => o396_0 c401 hT hO N h) loopOK_nil) ((e396 c401 N _).trans h1)

def T397 : Nat → Option Ent := tb []
def H397_0 : Trim := ⟨0, [], false, [2, 4], []⟩
theorem l397_0 : loopN k397 0 = .loop H397_0 (bodyOf (loopN k397 0)) := by kernel_rfl
def P397_0 : Ps := ⟨[(0, .u), (2, (.int .i64)), (4, (.ptr 0 0)), (6, .u)], [.iter]⟩
def Q397_0 : Nat → Ps
  | 0 => ⟨[(0, .u), (2, (.int .i64)), (4, .u), (6, .u)], []⟩
  | _ => noPs
def u397_0 (N n : Nat) (v : P397_0.T) (κ : (i : Nat) → (Q397_0 i).T → Option (((Sh.int .i64)).T)) : Option (((Sh.int .i64)).T) :=
  L397_0 N (fun (y0 : Int) => κ 0 (((), (y0, ((), ((), ())))), ())) n v.1.2.1 v.2.1.1 v.2.1.2
def W397_0 (N : Nat) : LoopF (((Sh.int .i64)).T) := fun no =>
  match no with
  | _ => fun _ _ => none
theorem b397_0 (N n : Nat) (v : P397_0.T) (κ : (i : Nat) → (Q397_0 i).T → Option (((Sh.int .i64)).T)) :
    evc (T397) (rawOf RW0) (W397_0 N) (retc k397.res (Sh.int .i64)) (modeOf FT) 0 fuelC (bodyOf (loopN k397 0)) (P397_0.st v) (roundK 0 H397_0 P397_0 Q397_0 (u397_0 N n) κ) = u397_0 N (n + 1) v κ := by kernel_rfl
theorem o397_0 (hT : TabOK FT XT (T397)) (hO : RawOK FT XT (rawOf (α := ((Sh.int .i64)).T) RW0)) (N : Nat) {s : St} {κ : Ex → St → Option (((Sh.int .i64)).T)} {a : ((Sh.int .i64)).T} (h : lpOf 0 H397_0 P397_0 Q397_0 (u397_0 N N) s κ = some a) : Out FT XT 0 (retc k397.res (Sh.int .i64)) (loopN k397 0) s κ a := by
  rw [l397_0]
  exact loop_out (LP := W397_0 N) (fu := fuelC) hT hO (fun _ _ => rfl) (b397_0 N) loopOK_nil N h
def W397 (N : Nat) : LoopF (((Sh.int .i64)).T) := fun no =>
  match no with
  | 0 => lpOf 0 H397_0 P397_0 Q397_0 (u397_0 N N)
  | _ => fun _ _ => none
theorem e397 (N : Nat) (a0 : List UInt8) : evc (T397) (rawOf RW0) (W397 N) (retc k397.res (Sh.int .i64)) (modeOf FT) 0 fuelC k397.body (env0 k397 (encL [Sh.str] (a0, ())), []) (endK (retc k397.res (Sh.int .i64))) = p397 N a0 := by kernel_rfl
theorem ok397 {f : D397} (hf : ∀ a0 r, f a0 = some r → ∃ N, p397 N a0 = some r) : O397 f := by
  have hT : TabOK FT XT (T397) := tb0
  have hO0 : RawOK FT XT (rawOf (α := ((Sh.int .i64)).T) RW0) := rawOK0
  have hO : RawOK FT XT (rawOf (α := ((Sh.int .i64)).T) RW0) := hO0
  refine ⟨rfl, fun v r h => ?_⟩
  obtain ⟨a0, _⟩ := v
  obtain ⟨N, h1⟩ := hf _ _ h
  exact ans_c (R := (Sh.int .i64)) (tab := T397) (raw := (rawOf RW0)) (LP := W397 N) (fu := fuelC) hT hO rfl rfl (Nat.le_of_ble_eq_true rfl) (loopOK_cons l397_0 (fun s κ a h => o397_0 hT hO N h) loopOK_nil) ((e397 N _).trans h1)

theorem ok391 (c396 : D396) (c397 : D397) (h396 : O396 c396) (h397 : O397 c397) {f : D391} (hf : ∀ a0 r, f a0 = some r → ∃ N, p391 c396 c397 N a0 = some r) : O391 f :=
 okc (fu := fuelC) (tb1 h396 (tb1 h397 tb0)) rfl rfl rfl (fun _ => rfl) (fun v r h => by
 obtain ⟨N, h⟩ := hf v.1 r h
 refine Eq.trans ?_ h; kernel_rfl) rfl

def T392 (c391 : D391) : Nat → Option Ent := tb [(391, en391 c391)]
def H392_0 : Trim := ⟨0, [], false, [3, 10], [(3, (.ints .u16 []), 1)]⟩
theorem l392_0 : loopN k392 0 = .loop H392_0 (bodyOf (loopN k392 0)) := by kernel_rfl
def P392_0 : Ps := ⟨[(0, .u), (2, .u), (3, (.sl 0 1)), (5, .u), (8, .u), (10, (.ptr 1 0)), (11, .u), (12, .u), (15, .u)], [(.ints false .u16), .iter]⟩
def Q392_0 : Nat → Ps
  | 0 => ⟨[(0, .u), (2, .u), (3, (.sl 0 1)), (5, .u), (8, .u), (10, .u), (11, .u), (12, .u), (15, .u)], [(.ints false .u16)]⟩
  | _ => noPs
def u392_0 (c391 : D391) (N n : Nat) (v : P392_0.T) (κ : (i : Nat) → (Q392_0 i).T → Option (((Sh.sl (Sh.int .u16))).T)) : Option (((Sh.sl (Sh.int .u16))).T) :=
  L392_0 c391 N (fun (y0 : Nat) (y1 : List Int) => κ 0 (((), ((), (y0, ((), ((), ((), ((), ((), ((), ()))))))))), (y1, ()))) n v.1.2.2.1 v.2.1 v.2.2.1.1 v.2.2.1.2
def W392_0 (c391 : D391) (N : Nat) : LoopF (((Sh.sl (Sh.int .u16))).T) := fun no =>
  match no with
  | _ => fun _ _ => none
set_option maxRecDepth 100000 in
theorem b392_0 (c391 : D391) (N n : Nat) (v : P392_0.T) (κ : (i : Nat) → (Q392_0 i).T → Option (((Sh.sl (Sh.int .u16))).T)) :
    evc (T392 c391) (rawOf RW0) (W392_0 c391 N) (retc k392.res (Sh.sl (Sh.int .u16))) (modeOf FT) 0 fuelC (bodyOf (loopN k392 0)) (P392_0.st v) (roundK 0 H392_0 P392_0 Q392_0 (u392_0 c391 N n) κ) = u392_0 c391 N (n + 1) v κ := by kernel_rfl
theorem o392_0 (c391 : D391) (hT : TabOK FT XT (T392 c391)) (hO : RawOK FT XT (rawOf (α := ((Sh.sl (Sh.int .u16))).T) RW0)) (N : Nat) {s : St} {κ : Ex → St → Option (((Sh.sl (Sh.int .u16))).T)} {a : ((Sh.sl (Sh.int .u16))).T} (h : lpOf 0 H392_0 P392_0 Q392_0 (u392_0 c391 N N) s κ = some a) : Out FT XT 0 (retc k392.res (Sh.sl (Sh.int .u16))) (loopN k392 0) s κ a := by
  rw [l392_0]
  exact loop_out (LP := W392_0 c391 N) (fu := fuelC) hT hO (fun _ _ => rfl) (b392_0 c391 N) loopOK_nil N h
def W392 (c391 : D391) (N : Nat) : LoopF (((Sh.sl (Sh.int .u16))).T) := fun no =>
  match no with
  | 0 => lpOf 0 H392_0 P392_0 Q392_0 (u392_0 c391 N N)
  | _ => fun _ _ => none
theorem e392 (c391 : D391) (N : Nat) (a0 : List UInt8) : evc (T392 c391) (rawOf RW0) (W392 c391 N) (retc k392.res (Sh.sl (Sh.int .u16))) (modeOf FT) 0 fuelC k392.body (env0 k392 (encL [Sh.str] (a0, ())), []) (endK (retc k392.res (Sh.sl (Sh.int .u16)))) = p392 c391 N a0 := by kernel_rfl
theorem ok392 (c391 : D391) (h391 : O391 c391) {f : D392} (hf : ∀ a0 r, f a0 = some r → ∃ N, p392 c391 N a0 = some r) : O392 f := by
  have hT : TabOK FT XT (T392 c391) := (tb1 h391 tb0)
  have hO0 : RawOK FT XT (rawOf (α := ((Sh.sl (Sh.int .u16))).T) RW0) := rawOK0
  have hO : RawOK FT XT (rawOf (α := ((Sh.sl (Sh.int .u16))).T) RW0) := hO0
  refine ⟨rfl, fun v r h => ?_⟩
  obtain ⟨a0, _⟩ := v
  obtain ⟨N, h1⟩ := hf _ _ h
  exact ans_c (R := (Sh.sl (Sh.int .u16))) (tab := T392 c391) (raw := (rawOf RW0)) (LP := W392 c391 N) (fu := fuelC) hT hO rfl rfl (Nat.le_of_ble_eq_true rfl) (loopOK_cons l392_0 (fun s κ a h => o392_0 c391 hT hO N h) loopOK_nil) ((e392 c391 N _).trans h1)

def T387 (c391 : D391) (c392 : D392) (c19 : D19) : Nat → Option Ent := tb [(391, en391 c391), (392, en392 c392), (19, en19 c19)]
def H387_0 : Trim := ⟨0, [], false, [5, 16, 17, 18], [(5, (.ints .u8 []), 1)]⟩
theorem l387_0 : loopN k387 0 = .loop H387_0 (bodyOf (loopN k387 0)) := by kernel_rfl
def P387_0 : Ps := ⟨[(0, .u), (2, .u), (3, .u), (4, .u), (5, (.sl 0 1)), (7, .u), (8, .u), (13, .u), (16, (.tb (Sh.int .u16))), (17, (.int .i64)), (18, (.int .i64)), (19, .u)], [(.ints false .u8)]⟩
def Q387_0 : Nat → Ps
  | 0 => ⟨[(0, .u), (2, .u), (3, .u), (4, .u), (5, (.sl 0 1)), (7, .u), (8, .u), (13, .u), (16, .u), (17, .u), (18, .u), (19, .u)], [(.ints false .u8)]⟩
  | _ => noPs
def u387_0 (c391 : D391) (c392 : D392) (c19 : D19) (N n : Nat) (v : P387_0.T) (κ : (i : Nat) → (Q387_0 i).T → Option (((Sh.tu (Sh.pr (Sh.sl (Sh.int .u8)) (Sh.int .i64)))).T)) : Option (((Sh.tu (Sh.pr (Sh.sl (Sh.int .u8)) (Sh.int .i64)))).T) :=
  L387_0 c391 c392 c19 N (fun (y0 : Nat) (y1 : List Int) => κ 0 (((), ((), ((), ((), (y0, ((), ((), ((), ((), ((), ((), ((), ())))))))))))), (y1, ()))) n v.1.2.2.2.2.1 v.1.2.2.2.2.2.2.2.2.1 v.1.2.2.2.2.2.2.2.2.2.1 v.1.2.2.2.2.2.2.2.2.2.2.1 v.2.1
def W387_0 (c391 : D391) (c392 : D392) (c19 : D19) (N : Nat) : LoopF (((Sh.tu (Sh.pr (Sh.sl (Sh.int .u8)) (Sh.int .i64)))).T) := fun no =>
  match no with
  | _ => fun _ _ => none
theorem b387_0 (c391 : D391) (c392 : D392) (c19 : D19) (N n : Nat) (v : P387_0.T) (κ : (i : Nat) → (Q387_0 i).T → Option (((Sh.tu (Sh.pr (Sh.sl (Sh.int .u8)) (Sh.int .i64)))).T)) :
    evc (T387 c391 c392 c19) (rawOf RW0) (W387_0 c391 c392 c19 N) (retc k387.res (Sh.tu (Sh.pr (Sh.sl (Sh.int .u8)) (Sh.int .i64)))) (modeOf FT) 0 fuelC (bodyOf (loopN k387 0)) (P387_0.st v) (roundK 0 H387_0 P387_0 Q387_0 (u387_0 c391 c392 c19 N n) κ) = u387_0 c391 c392 c19 N (n + 1) v κ := by kernel_rfl
theorem o387_0 (c391 : D391) (c392 : D392) (c19 : D19) (hT : TabOK FT XT (T387 c391 c392 c19)) (hO : RawOK FT XT (rawOf (α := ((Sh.tu (Sh.pr (Sh.sl (Sh.int .u8)) (Sh.int .i64)))).T) RW0)) (N : Nat) {s : St} {κ : Ex → St → Option (((Sh.tu (Sh.pr (Sh.sl (Sh.int .u8)) (Sh.int .i64)))).T)} {a : ((Sh.tu (Sh.pr (Sh.sl (Sh.int .u8)) (Sh.int .i64)))).T} (h : lpOf 0 H387_0 P387_0 Q387_0 (u387_0 c391 c392 c19 N N) s κ = some a) : Out FT XT 0 (retc k387.res (Sh.tu (Sh.pr (Sh.sl (Sh.int .u8)) (Sh.int .i64)))) (loopN k387 0) s κ a := by
  rw [l387_0]
  exact loop_out (LP := W387_0 c391 c392 c19 N) (fu := fuelC) hT hO (fun _ _ => rfl) (b387_0 c391 c392 c19 N) loopOK_nil N h
def W387 (c391 : D391) (c392 : D392) (c19 : D19) (N : Nat) : LoopF (((Sh.tu (Sh.pr (Sh.sl (Sh.int .u8)) (Sh.int .i64)))).T) := fun no =>
  match no with
  | 0 => lpOf 0 H387_0 P387_0 Q387_0 (u387_0 c391 c392 c19 N N)
  | _ => fun _ _ => none
theorem e387 (c391 : D391) (c392 : D392) (c19 : D19) (N : Nat) (a0 : List UInt8) : evc (T387 c391 c392 c19) (rawOf RW0) (W387 c391 c392 c19 N) (retc k387.res (Sh.tu (Sh.pr (Sh.sl (Sh.int .u8)) (Sh.int .i64)))) (modeOf FT) 0 fuelC k387.body (env0 k387 (encL [Sh.str] (a0, ())), []) (endK (retc k387.res (Sh.tu (Sh.pr (Sh.sl (Sh.int .u8)) (Sh.int .i64))))) = p387 c391 c392 c19 N a0 := by kernel_rfl
theorem ok387 (c391 : D391) (c392 : D392) (c19 : D19) (h391 : O391 c391) (h392 : O392 c392) (h19 : O19 c19) {f : D387} (hf : ∀ a0 r, f a0 = some r → ∃ N, p387 c391 c392 c19 N a0 = some r) : O387 f := by
  have hT : TabOK FT XT (T387 c391 c392 c19) := (tb1 h391 (tb1 h392 (tb1 h19 tb0)))
  have hO0 : RawOK FT XT (rawOf (α := ((Sh.tu (Sh.pr (Sh.sl (Sh.int .u8)) (Sh.int .i64)))).T) RW0) := rawOK0
  have hO : RawOK FT XT (rawOf (α := ((Sh.tu (Sh.pr (Sh.sl (Sh.int .u8)) (Sh.int .i64)))).T) RW0) := hO0
  refine ⟨rfl, fun v r h => ?_⟩
  obtain ⟨a0, _⟩ := v
  obtain ⟨N, h1⟩ := hf _ _ h
  exact ans_c (R := (Sh.tu (Sh.pr (Sh.sl (Sh.int .u8)) (Sh.int .i64)))) (tab := T387 c391 c392 c19) (raw := (rawOf RW0)) (LP := W387 c391 c392 c19 N) (fu := fuelC) hT hO rfl rfl (Nat.le_of_ble_eq_true rfl) (loopOK_cons l387_0 (fun s κ a h => o387_0 c391 c392 c19 hT hO N h) loopOK_nil) ((e387 c391 c392 c19 N _).trans h1)

theorem ok370 (c387 : D387) (c181 : D181) (h387 : O387 c387) (h181 : O181 c181) {f : D370} (hf : ∀ a0 r, f a0 = some r → ∃ N, p370 c387 c181 N a0 = some r) : O370 f :=
 okc (fu := fuelC) (tb1 h387 (tb1 h181 tb0)) rfl rfl rfl (fun _ => rfl) (fun v r h => by
 obtain ⟨N, h⟩ := hf v.1 r h
 refine Eq.trans ?_ h; kernel_rfl) rfl

theorem ok372 (c181 : D181) (h181 : O181 c181) {f : D372} (hf : ∀ a0 r, f a0 = some r → ∃ N, p372 c181 N a0 = some r) : O372 f :=
 okc (fu := fuelC) (tb1 h181 tb0) rfl rfl rfl (fun _ => rfl) (fun v r h => by
 obtain ⟨N, h⟩ := hf v.1 r h
 refine Eq.trans ?_ h; kernel_rfl) rfl

theorem ok369 (c370 : D370) (c372 : D372) (h370 : O370 c370) (h372 : O372 c372) {f : D369} (hf : ∀  r, f  = some r → ∃ N, p369 c370 c372 N  = some r) : O369 f :=
 okc (fu := fuelC) (tb1 h370 (tb1 h372 tb0)) rfl rfl rfl (fun _ => rfl) (fun v r h => by
 obtain ⟨N, h⟩ := hf r h
 refine Eq.trans ?_ h; kernel_rfl) rfl

theorem ok404 {f : D404} (hf : ∀ a0 a1 r, f a0 a1 = some r → ∃ N, p404 N a0 a1 = some r) : O404 f :=
 okc (fu := fuelC) tb0 rfl rfl rfl (fun _ => rfl) (fun v r h => by
 obtain ⟨N, h⟩ := hf v.1 v.2.1 r h
 refine Eq.trans ?_ h; kernel_rfl) rfl

def T402 (c404 : D404) : Nat → Option Ent := tb [(404, en404 c404)]
def H402_0 : Trim := ⟨0, [], false, [0, 1, 7, 8, 9, 10], []⟩
theorem l402_0 : loopN k402 0 = .loop H402_0 (bodyOf (loopN k402 0)) := by kernel_rfl
def P402_0 : Ps := ⟨[(0, .str), (1, (.int .i64)), (4, .u), (5, .u), (6, .u), (7, (.int .i64)), (8, (.int .i64)), (9, (.int .i64)), (10, (.int .i64)), (11, .u), (12, .u), (17, .u), (21, .u), (30, .u), (39, .u), (50, .u), (62, .u), (81, .u)], []⟩
def Q402_0 : Nat → Ps
  | 1 => ⟨[(0, .u), (1, .u), (4, .u), (5, .u), (6, .u), (7, (.int .i64)), (8, (.int .i64)), (9, (.int .i64)), (10, .u), (11, .u), (12, .u), (17, .u), (21, .u), (30, .u), (39, .u), (50, .u), (62, .u), (81, .u)], []⟩
  | _ => noPs
def u402_0 (c404 : D404) (N n : Nat) (v : P402_0.T) (κ : (i : Nat) → (Q402_0 i).T → Option (((Sh.tu (Sh.pr (Sh.int .i64) (Sh.int .i64)))).T)) : Option (((Sh.tu (Sh.pr (Sh.int .i64) (Sh.int .i64)))).T) :=
  L402_0 c404 N (fun (y0 : Int) (y1 : Int) (y2 : Int) => κ 1 (((), ((), ((), ((), ((), (y0, (y1, (y2, ((), ((), ((), ((), ((), ((), ((), ((), ((), ((), ())))))))))))))))))), ())) n v.1.1 v.1.2.1 v.1.2.2.2.2.2.1 v.1.2.2.2.2.2.2.1 v.1.2.2.2.2.2.2.2.1 v.1.2.2.2.2.2.2.2.2.1
def W402_0 (c404 : D404) (N : Nat) : LoopF (((Sh.tu (Sh.pr (Sh.int .i64) (Sh.int .i64)))).T) := fun no =>
  match no with
  | _ => fun _ _ => none
theorem b402_0 (c404 : D404) (N n : Nat) (v : P402_0.T) (κ : (i : Nat) → (Q402_0 i).T → Option (((Sh.tu (Sh.pr (Sh.int .i64) (Sh.int .i64)))).T)) :
    evc (T402 c404) (rawOf RW0) (W402_0 c404 N) (retc k402.res (Sh.tu (Sh.pr (Sh.int .i64) (Sh.int .i64)))) (modeOf FT) 0 fuelC (bodyOf (loopN k402 0)) (P402_0.st v) (roundK 0 H402_0 P402_0 Q402_0 (u402_0 c404 N n) κ) = u402_0 c404 N (n + 1) v κ := by kernel_rfl
theorem o402_0 (c404 : D404) (hT : TabOK FT XT (T402 c404)) (hO : RawOK FT XT (rawOf (α := ((Sh.tu (Sh.pr (Sh.int .i64) (Sh.int .i64)))).T) RW0)) (N : Nat) {s : St} {κ : Ex → St → Option (((Sh.tu (Sh.pr (Sh.int .i64) (Sh.int .i64)))).T)} {a : ((Sh.tu (Sh.pr (Sh.int .i64) (Sh.int .i64)))).T} (h : lpOf 0 H402_0 P402_0 Q402_0 (u402_0 c404 N N) s κ = some a) : Out FT XT 0 (retc k402.res (Sh.tu (Sh.pr (Sh.int .i64) (Sh.int .i64)))) (loopN k402 0) s κ a := by
  rw [l402_0]
  exact loop_out (LP := W402_0 c404 N) (fu := fuelC) hT hO (fun _ _ => rfl) (b402_0 c404 N) loopOK_nil N h
def W402 (c404 : D404) (N : Nat) : LoopF (((Sh.tu (Sh.pr (Sh.int .i64) (Sh.int .i64)))).T) := fun no =>
  match no with
  | 0 => lpOf 0 H402_0 P402_0 Q402_0 (u402_0 c404 N N)
  | _ => fun _ _ => none
theorem e402 (c404 : D404) (N : Nat) (a0 : List UInt8) (a1 : Int) : evc (T402 c404) (rawOf RW0) (W402 c404 N) (retc k402.res (Sh.tu (Sh.pr (Sh.int .i64) (Sh.int .i64)))) (modeOf FT) 0 fuelC k402.body (env0 k402 (encL [Sh.str, (Sh.int .i64)] (a0, (a1, ()))), []) (endK (retc k402.res (Sh.tu (Sh.pr (Sh.int .i64) (Sh.int .i64))))) = p402 c404 N a0 a1 := by kernel_rfl
theorem ok402 (c404 : D404) (h404 : O404 c404) {f : D402} (hf : ∀ a0 a1 r, f a0 a1 = some r → ∃ N, p402 c404 N a0 a1 = some r) : O402 f := by
  have hT : TabOK FT XT (T402 c404) := (tb1 h404 tb0)
  have hO0 : RawOK FT XT (rawOf (α := ((Sh.tu (Sh.pr (Sh.int .i64) (Sh.int .i64)))).T) RW0) := rawOK0
  have hO : RawOK FT XT (rawOf (α := ((Sh.tu (Sh.pr (Sh.int .i64) (Sh.int .i64)))).T) RW0) := hO0
  refine ⟨rfl, fun v r h => ?_⟩
  obtain ⟨a0, a1, _⟩ := v
  obtain ⟨N, h1⟩ := hf _ _ _ h
  exact ans_c (R := (Sh.tu (Sh.pr (Sh.int .i64) (Sh.int .i64)))) (tab := T402 c404) (raw := (rawOf RW0)) (LP := W402 c404 N) (fu := fuelC) hT hO rfl rfl (Nat.le_of_ble_eq_true rfl) (loopOK_cons l402_0 (fun s κ a h => o402_0 c404 hT hO N h) loopOK_nil) ((e402 c404 N _ _).trans h1)

def T398 (c402 : D402) : Nat → Option Ent := tb [(402, en402 c402)]
def H398_0 : Trim := ⟨0, [], false, [0, 4, 5], [(4, (.ints .i64 []), 1)]⟩
theorem l398_0 : loopN k398 0 = .loop H398_0 (bodyOf (loopN k398 0)) := by kernel_rfl
def P398_0 : Ps := ⟨[(0, .str), (2, .u), (3, .u), (4, (.sl 0 1)), (5, (.int .i64)), (6, .u), (7, .u), (11, .u), (19, .u)], [(.ints false .i64)]⟩
def Q398_0 : Nat → Ps
  | 0 => ⟨[(0, .u), (2, .u), (3, .u), (4, (.sl 0 1)), (5, .u), (6, .u), (7, .u), (11, .u), (19, .u)], [(.ints false .i64)]⟩
  | _ => noPs
def u398_0 (c402 : D402) (N n : Nat) (v : P398_0.T) (κ : (i : Nat) → (Q398_0 i).T → Option (((Sh.tu (Sh.pr (Sh.sl (Sh.int .i64)) Sh.bool))).T)) : Option (((Sh.tu (Sh.pr (Sh.sl (Sh.int .i64)) Sh.bool))).T) :=
  L398_0 c402 N (fun (y0 : Nat) (y1 : List Int) => κ 0 (((), ((), ((), (y0, ((), ((), ((), ((), ((), ()))))))))), (y1, ()))) n v.1.1 v.1.2.2.2.1 v.1.2.2.2.2.1 v.2.1
def W398_0 (c402 : D402) (N : Nat) : LoopF (((Sh.tu (Sh.pr (Sh.sl (Sh.int .i64)) Sh.bool))).T) := fun no =>
  match no with
  | _ => fun _ _ => none
theorem b398_0 (c402 : D402) (N n : Nat) (v : P398_0.T) (κ : (i : Nat) → (Q398_0 i).T → Option (((Sh.tu (Sh.pr (Sh.sl (Sh.int .i64)) Sh.bool))).T)) :
    evc (T398 c402) (rawOf RW0) (W398_0 c402 N) (retc k398.res (Sh.tu (Sh.pr (Sh.sl (Sh.int .i64)) Sh.bool))) (modeOf FT) 0 fuelC (bodyOf (loopN k398 0)) (P398_0.st v) (roundK 0 H398_0 P398_0 Q398_0 (u398_0 c402 N n) κ) = u398_0 c402 N (n + 1) v κ := by kernel_rfl
theorem o398_0 (c402 : D402) (hT : TabOK FT XT (T398 c402)) (hO : RawOK FT XT (rawOf (α := ((Sh.tu (Sh.pr (Sh.sl (Sh.int .i64)) Sh.bool))).T) RW0)) (N : Nat) {s : St} {κ : Ex → St → Option (((Sh.tu (Sh.pr (Sh.sl (Sh.int .i64)) Sh.bool))).T)} {a : ((Sh.tu (Sh.pr (Sh.sl (Sh.int .i64)) Sh.bool))).T} (h : lpOf 0 H398_0 P398_0 Q398_0 (u398_0 c402 N N) s κ = some a) : Out FT XT 0 (retc k398.res (Sh.tu (Sh.pr (Sh.sl (Sh.int .i64)) Sh.bool))) (loopN k398 0) s κ a := by
  rw [l398_0]
  exact loop_out (LP := W398_0 c402 N) (fu := fuelC) hT hO (fun _ _ => rfl) (b398_0 c402 N) loopOK_nil N h
def W398 (c402 : D402) (N : Nat) : LoopF (((Sh.tu (Sh.pr (Sh.sl (Sh.int .i64)) Sh.bool))).T) := fun no =>
  match no with
  | 0 => lpOf 0 H398_0 P398_0 Q398_0 (u398_0 c402 N N)
  | _ => fun _ _ => none
theorem e398 (c402 : D402) (N : Nat) (a0 : List UInt8) : evc (T398 c402) (rawOf RW0) (W398 c402 N) (retc k398.res (Sh.tu (Sh.pr (Sh.sl (Sh.int .i64)) Sh.bool))) (modeOf FT) 0 fuelC k398.body (env0 k398 (encL [Sh.str] (a0, ())), []) (endK (retc k398.res (Sh.tu (Sh.pr (Sh.sl (Sh.int .i64)) Sh.bool)))) = p398 c402 N a0 := by kernel_rfl
theorem ok398 (c402 : D402) (h402 : O402 c402) {f : D398} (hf : ∀ a0 r, f a0 = some r → ∃ N, p398 c402 N a0 = some r) : O398 f := by
  have hT : TabOK FT XT (T398 c402) := (tb1 h402 tb0)
  have hO0 : RawOK FT XT (rawOf (α := ((Sh.tu (Sh.pr (Sh.sl (Sh.int .i64)) Sh.bool))).T) RW0) := rawOK0
  have hO : RawOK FT XT (rawOf (α := ((Sh.tu (Sh.pr (Sh.sl (Sh.int .i64)) Sh.bool))).T) RW0) := hO0
  refine ⟨rfl, fun v r h => ?_⟩
  obtain ⟨a0, _⟩ := v
  obtain ⟨N, h1⟩ := hf _ _ h
  exact ans_c (R := (Sh.tu (Sh.pr (Sh.sl (Sh.int .i64)) Sh.bool))) (tab := T398 c402) (raw := (rawOf RW0)) (LP := W398 c402 N) (fu := fuelC) hT hO rfl rfl (Nat.le_of_ble_eq_true rfl) (loopOK_cons l398_0 (fun s κ a h => o398_0 c402 hT hO N h) loopOK_nil) ((e398 c402 N _).trans h1)

theorem ok393 (c398 : D398) (h398 : O398 c398) {f : D393} (hf : ∀ a0 r, f a0 = some r → ∃ N, p393 c398 N a0 = some r) : O393 f :=
 okc (fu := fuelC) (tb1 h398 tb0) rfl rfl rfl (fun _ => rfl) (fun v r h => by
 obtain ⟨N, h⟩ := hf v.1 r h
 refine Eq.trans ?_ h; kernel_rfl) rfl

def T394 (c393 : D393) (c398 : D398) : Nat → Option Ent := tb [(393, en393 c393), (398, en398 c398)]
def H394_0 : Trim := ⟨0, [], false, [3, 5, 6], [(5, (.ints .u16 []), 1)]⟩
theorem l394_0 : loopN k394 0 = .loop H394_0 (bodyOf (loopN k394 0)) := by kernel_rfl
def P394_0 : Ps := ⟨[(0, .u), (2, .u), (3, (.tb (Sh.int .i64))), (5, (.sl 0 1)), (6, (.int .i64)), (7, .u), (10, .u), (19, .u), (26, .u)], [(.ints false .u16)]⟩
def Q394_0 : Nat → Ps
  | 0 => ⟨[(0, .u), (2, .u), (3, .u), (5, (.sl 0 1)), (6, .u), (7, .u), (10, .u), (19, .u), (26, .u)], [(.ints false .u16)]⟩
  | _ => noPs
def u394_0 (c393 : D393) (c398 : D398) (N n : Nat) (v : P394_0.T) (κ : (i : Nat) → (Q394_0 i).T → Option (((Sh.sl (Sh.int .u16))).T)) : Option (((Sh.sl (Sh.int .u16))).T) :=
  L394_0 c393 c398 N (fun (y0 : Nat) (y1 : List Int) => κ 0 (((), ((), ((), (y0, ((), ((), ((), ((), ((), ()))))))))), (y1, ()))) n v.1.2.2.1 v.1.2.2.2.1 v.1.2.2.2.2.1 v.2.1
def W394_0 (c393 : D393) (c398 : D398) (N : Nat) : LoopF (((Sh.sl (Sh.int .u16))).T) := fun no =>
  match no with
  | _ => fun _ _ => none
theorem b394_0 (c393 : D393) (c398 : D398) (N n : Nat) (v : P394_0.T) (κ : (i : Nat) → (Q394_0 i).T → Option (((Sh.sl (Sh.int .u16))).T)) :
    evc (T394 c393 c398) (rawOf RW0) (W394_0 c393 c398 N) (retc k394.res (Sh.sl (Sh.int .u16))) (modeOf FT) 0 fuelC (bodyOf (loopN k394 0)) (P394_0.st v) (roundK 0 H394_0 P394_0 Q394_0 (u394_0 c393 c398 N n) κ) = u394_0 c393 c398 N (n + 1) v κ := by kernel_rfl
theorem o394_0 (c393 : D393) (c398 : D398) (hT : TabOK FT XT (T394 c393 c398)) (hO : RawOK FT XT (rawOf (α := ((Sh.sl (Sh.int .u16))).T) RW0)) (N : Nat) {s : St} {κ : Ex → St → Option (((Sh.sl (Sh.int .u16))).T)} {a : ((Sh.sl (Sh.int .u16))).T} (h : lpOf 0 H394_0 P394_0 Q394_0 (u394_0 c393 c398 N N) s κ = some a) : Out FT XT 0 (retc k394.res (Sh.sl (Sh.int .u16))) (loopN k394 0) s κ a := by
  rw [l394_0]
  exact loop_out (LP := W394_0 c393 c398 N) (fu := fuelC) hT hO (fun _ _ => rfl) (b394_0 c393 c398 N) loopOK_nil N h
def W394 (c393 : D393) (c398 : D398) (N : Nat) : LoopF (((Sh.sl (Sh.int .u16))).T) := fun no =>
  match no with
  | 0 => lpOf 0 H394_0 P394_0 Q394_0 (u394_0 c393 c398 N N)
  | _ => fun _ _ => none
theorem e394 (c393 : D393) (c398 : D398) (N : Nat) (a0 : List UInt8) : evc (T394 c393 c398) (rawOf RW0) (W394 c393 c398 N) (retc k394.res (Sh.sl (Sh.int .u16))) (modeOf FT) 0 fuelC k394.body (env0 k394 (encL [Sh.str] (a0, ())), []) (endK (retc k394.res (Sh.sl (Sh.int .u16)))) = p394 c393 c398 N a0 := by kernel_rfl
theorem ok394 (c393 : D393) (c398 : D398) (h393 : O393 c393) (h398 : O398 c398) {f : D394} (hf : ∀ a0 r, f a0 = some r → ∃ N, p394 c393 c398 N a0 = some r) : O394 f := by
  have hT : TabOK FT XT (T394 c393 c398) := (tb1 h393 (tb1 h398 tb0))
  have hO0 : RawOK FT XT (rawOf (α := ((Sh.sl (Sh.int .u16))).T) RW0) := rawOK0
  have hO : RawOK FT XT (rawOf (α := ((Sh.sl (Sh.int .u16))).T) RW0) := hO0
  refine ⟨rfl, fun v r h => ?_⟩
  obtain ⟨a0, _⟩ := v
  obtain ⟨N, h1⟩ := hf _ _ h
  exact ans_c (R := (Sh.sl (Sh.int .u16))) (tab := T394 c393 c398) (raw := (rawOf RW0)) (LP := W394 c393 c398 N) (fu := fuelC) hT hO rfl rfl (Nat.le_of_ble_eq_true rfl) (loopOK_cons l394_0 (fun s κ a h => o394_0 c393 c398 hT hO N h) loopOK_nil) ((e394 c393 c398 N _).trans h1)

def T388 (c393 : D393) (c394 : D394) : Nat → Option Ent := tb [(393, en393 c393), (394, en394 c394)]
def H388_0 : Trim := ⟨0, [], false, [5, 6, 7], [(5, (.ints .u8 []), 1)]⟩
theorem l388_0 : loopN k388 0 = .loop H388_0 (bodyOf (loopN k388 0)) := by kernel_rfl
def P388_0 : Ps := ⟨[(0, .u), (2, .u), (3, .u), (4, .u), (5, (.sl 0 1)), (6, (.tb (Sh.int .u16))), (7, (.int .i64)), (11, .u), (18, .u)], [(.ints false .u8)]⟩
def Q388_0 : Nat → Ps
  | 0 => ⟨[(0, .u), (2, .u), (3, .u), (4, .u), (5, (.sl 0 1)), (6, .u), (7, .u), (11, .u), (18, .u)], [(.ints false .u8)]⟩
  | _ => noPs
def u388_0 (c393 : D393) (c394 : D394) (N n : Nat) (v : P388_0.T) (κ : (i : Nat) → (Q388_0 i).T → Option (((Sh.tu (Sh.pr (Sh.sl (Sh.int .u8)) (Sh.int .i64)))).T)) : Option (((Sh.tu (Sh.pr (Sh.sl (Sh.int .u8)) (Sh.int .i64)))).T) :=
  L388_0 c393 c394 N (fun (y0 : Nat) (y1 : List Int) => κ 0 (((), ((), ((), ((), (y0, ((), ((), ((), ((), ()))))))))), (y1, ()))) n v.1.2.2.2.2.1 v.1.2.2.2.2.2.1 v.1.2.2.2.2.2.2.1 v.2.1
def W388_0 (c393 : D393) (c394 : D394) (N : Nat) : LoopF (((Sh.tu (Sh.pr (Sh.sl (Sh.int .u8)) (Sh.int .i64)))).T) := fun no =>
  match no with
  | _ => fun _ _ => none
theorem b388_0 (c393 : D393) (c394 : D394) (N n : Nat) (v : P388_0.T) (κ : (i : Nat) → (Q388_0 i).T → Option (((Sh.tu (Sh.pr (Sh.sl (Sh.int .u8)) (Sh.int .i64)))).T)) :
    evc (T388 c393 c394) (rawOf RW0) (W388_0 c393 c394 N) (retc k388.res (Sh.tu (Sh.pr (Sh.sl (Sh.int .u8)) (Sh.int .i64)))) (modeOf FT) 0 fuelC (bodyOf (loopN k388 0)) (P388_0.st v) (roundK 0 H388_0 P388_0 Q388_0 (u388_0 c393 c394 N n) κ) = u388_0 c393 c394 N (n + 1) v κ := by kernel_rfl
theorem o388_0 (c393 : D393) (c394 : D394) (hT : TabOK FT XT (T388 c393 c394)) (hO : RawOK FT XT (rawOf (α := ((Sh.tu (Sh.pr (Sh.sl (Sh.int .u8)) (Sh.int .i64)))).T) RW0)) (N : Nat) {s : St} {κ : Ex → St → Option (((Sh.tu (Sh.pr (Sh.sl (Sh.int .u8)) (Sh.int .i64)))).T)} {a : ((Sh.tu (Sh.pr (Sh.sl (Sh.int .u8)) (Sh.int .i64)))).T} (h : lpOf 0 H388_0 P388_0 Q388_0 (u388_0 c393 c394 N N) s κ = some a) : Out FT XT 0 (retc k388.res (Sh.tu (Sh.pr (Sh.sl (Sh.int .u8)) (Sh.int .i64)))) (loopN k388 0) s κ a := by
  rw [l388_0]
  exact loop_out (LP := W388_0 c393 c394 N) (fu := fuelC) hT hO (fun _ _ => rfl) (b388_0 c393 c394 N) loopOK_nil N h
def W388 (c393 : D393) (c394 : D394) (N : Nat) : LoopF (((Sh.tu (Sh.pr (Sh.sl (Sh.int .u8)) (Sh.int .i64)))).T) := fun no =>
  match no with
  | 0 => lpOf 0 H388_0 P388_0 Q388_0 (u388_0 c393 c394 N N)
  | _ => fun _ _ => none
theorem e388 (c393 : D393) (c394 : D394) (N : Nat) (a0 : List UInt8) : evc (T388 c393 c394) (rawOf RW0) (W388 c393 c394 N) (retc k388.res (Sh.tu (Sh.pr (Sh.sl (Sh.int .u8)) (Sh.int .i64)))) (modeOf FT) 0 fuelC k388.body (env0 k388 (encL [Sh.str] (a0, ())), []) (endK (retc k388.res (Sh.tu (Sh.pr (Sh.sl (Sh.int .u8)) (Sh.int .i64))))) = p388 c393 c394 N a0 := by kernel_rfl
theorem ok388 (c393 : D393) (c394 : D394) (h393 : O393 c393) (h394 : O394 c394) {f : D388} (hf : ∀ a0 r, f a0 = some r → ∃ N, p388 c393 c394 N a0 = some r) : O388 f := by
  have hT : TabOK FT XT (T388 c393 c394) := (tb1 h393 (tb1 h394 tb0))
  have hO0 : RawOK FT XT (rawOf (α := ((Sh.tu (Sh.pr (Sh.sl (Sh.int .u8)) (Sh.int .i64)))).T) RW0) := rawOK0
  have hO : RawOK FT XT (rawOf (α := ((Sh.tu (Sh.pr (Sh.sl (Sh.int .u8)) (Sh.int .i64)))).T) RW0) := hO0
  refine ⟨rfl, fun v r h => ?_⟩
  obtain ⟨a0, _⟩ := v
  obtain ⟨N, h1⟩ := hf _ _ h
  exact ans_c (R := (Sh.tu (Sh.pr (Sh.sl (Sh.int .u8)) (Sh.int .i64)))) (tab := T388 c393 c394) (raw := (rawOf RW0)) (LP := W388 c393 c394 N) (fu := fuelC) hT hO rfl rfl (Nat.le_of_ble_eq_true rfl) (loopOK_cons l388_0 (fun s κ a h => o388_0 c393 c394 hT hO N h) loopOK_nil) ((e388 c393 c394 N _).trans h1)

theorem ok371 (c388 : D388) (c182 : D182) (h388 : O388 c388) (h182 : O182 c182) {f : D371} (hf : ∀ a0 r, f a0 = some r → ∃ N, p371 c388 c182 N a0 = some r) : O371 f :=
 okc (fu := fuelC) (tb1 h388 (tb1 h182 tb0)) rfl rfl rfl (fun _ => rfl) (fun v r h => by
 obtain ⟨N, h⟩ := hf v.1 r h
 refine Eq.trans ?_ h; kernel_rfl) rfl

theorem ok373 (c182 : D182) (h182 : O182 c182) {f : D373} (hf : ∀ a0 r, f a0 = some r → ∃ N, p373 c182 N a0 = some r) : O373 f :=
 okc (fu := fuelC) (tb1 h182 tb0) rfl rfl rfl (fun _ => rfl) (fun v r h => by
 obtain ⟨N, h⟩ := hf v.1 r h
 refine Eq.trans ?_ h; kernel_rfl) rfl

theorem ok364 (c369 : D369) (c370 : D370) (c371 : D371) (c372 : D372) (c373 : D373) (h369 : O369 c369) (h370 : O370 c370) (h371 : O371 c371) (h372 : O372 c372) (h373 : O373 c373) {f : D364} (hf : ∀ a0 a1 r, f a0 a1 = some r → ∃ N, p364 c369 c370 c371 c372 c373 N a0 a1 = some r) : O364 f :=
 okc (fu := fuelC) (tb1 h369 (tb1 h370 (tb1 h371 (tb1 h372 (tb1 h373 tb0))))) rfl rfl rfl (fun _ => rfl) (fun v r h => by
 obtain ⟨N, h⟩ := hf v.1 v.2.1 r h
 refine Eq.trans ?_ h; kernel_rfl) rfl

theorem ok403 {f : D403} (hf : ∀ a0 a1 r, f a0 a1 = some r → ∃ N, p403 N a0 a1 = some r) : O403 f :=
 okc (fu := fuelC) tb0 rfl rfl rfl (fun _ => rfl) (fun v r h => by
 obtain ⟨N, h⟩ := hf v.1 v.2.1 r h
 refine Eq.trans ?_ h; kernel_rfl) rfl
end Go.Proofs.YtdlmhclopdkhcaaDoorE
