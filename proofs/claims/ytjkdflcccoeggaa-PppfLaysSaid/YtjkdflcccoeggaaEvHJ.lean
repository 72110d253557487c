/- The plain functions are the evaluator's. -/
import Derived.Test.YtjkdflcccoeggaaEvGJ
import Derived.KernelRfl
namespace Go.Proofs.YtjkdflcccoeggaaE
open Go
set_option linter.unusedVariables false
set_option linter.unusedSimpArgs false

def T64v0 : Nat → Option Ent
  | _ => none
def RW64v0 : Nat → List REnt
  | _ => []
def W64v0 (N : Nat) : LoopF QR64v0.T := fun no =>
  match no with
  | _ => fun _ _ => none
theorem e64v0 (N : Nat) (v : PR64v0.T) : evc (T64v0) (rawOf (RW64v0)) (W64v0 N) (retr k64.res 0 QR64v0) (modeOf FT) 0 fuelC k64.body (env0 k64 (PR64v0.a.st v.1), stH PR64v0.h v.2) (endK (retr k64.res 0 QR64v0)) = p64v0 N v.1.2.1 := by kernel_rfl
theorem ok64v0 {f : Int → Option ((Nat × Unit) × ((List Int) × Unit))} (hf : ∀ a0 r, f a0 = some r → ∃ N, p64v0 N a0 = some r) : REntOK FT XT 64 (rn64v0 f) := by
  have hT : TabOK FT XT (T64v0) := by
    intro g en hg
    unfold T64v0 at hg
    split at hg <;> first | (injection hg with hg; subst hg; assumption) | cases hg
  have hO0 : RawOK FT XT (rawOf (α := QR64v0.T) (RW64v0)) := by
    refine rawOf_ok (fun g en hg => ?_)
    unfold RW64v0 at hg
    split at hg <;> simp only [List.mem_cons, List.not_mem_nil, or_false] at hg <;> first | (subst hg; assumption) | (rcases hg with rfl | rfl <;> assumption) | (rcases hg with rfl | rfl | rfl <;> assumption) | (rcases hg with rfl | rfl | rfl | rfl <;> assumption)
  have hO : RawOK FT XT (rawOf (α := QR64v0.T) (RW64v0)) := hO0
  intro v r w h hw
  obtain ⟨N, h1⟩ := hf _ _ h
  exact ans_r (Q := QR64v0) (tab := T64v0) (raw := (rawOf (RW64v0))) (LP := W64v0 N) (fu := fuelC) hT hO rfl rfl (Nat.le_of_ble_eq_true rfl) rfl loopOK_nil ((e64v0 N v).trans h1) hw

def T1 (d64v0 : Int → Option ((Nat × Unit) × ((List Int) × Unit))) : Nat → Option Ent
  | _ => none
def RW1 (d64v0 : Int → Option ((Nat × Unit) × ((List Int) × Unit))) : Nat → List REnt
  | 64 => [rn64v0 d64v0]
  | _ => []
def H1_1 : Trim := ⟨1, [], false, [6, 25, 26, 27], []⟩
theorem l1_1 : loopN k1 1 = .loop H1_1 (bodyOf (loopN k1 1)) := by kernel_rfl
def P1_1 : Ps := ⟨[(0, .u), (2, .u), (3, .u), (5, .u), (6, (.sl 0 1)), (8, .u), (9, .u), (10, .u), (11, .u), (12, .u), (20, .u), (25, (.tb (Sh.sl (Sh.int .u8)))), (26, (.int .i64)), (27, (.int .i64)), (28, .u)], [(.ints false .u8)]⟩
def Q1_1 : Nat → Ps
  | 2 => ⟨[(0, .u), (2, .u), (3, .u), (5, .u), (6, (.sl 0 1)), (8, .u), (9, .u), (10, .u), (11, .u), (12, .u), (20, .u), (25, .u), (26, .u), (27, .u), (28, .u)], [(.ints false .u8)]⟩
  | _ => noPs
def u1_1 (d64v0 : Int → Option ((Nat × Unit) × ((List Int) × Unit))) (N n : Nat) (v : P1_1.T) (κ : (i : Nat) → (Q1_1 i).T → Option (List Int)) : Option (List Int) :=
  L1_1 d64v0 N (fun (y0 : Nat) (y1 : List Int) => κ 2 (((), ((), ((), ((), (y0, ((), ((), ((), ((), ((), ((), ((), ((), ((), ((), ()))))))))))))))), (y1, ()))) n v.1.2.2.2.2.1 v.1.2.2.2.2.2.2.2.2.2.2.2.1 v.1.2.2.2.2.2.2.2.2.2.2.2.2.1 v.1.2.2.2.2.2.2.2.2.2.2.2.2.2.1 v.2.1
def W1_1 (d64v0 : Int → Option ((Nat × Unit) × ((List Int) × Unit))) (N : Nat) : LoopF (List Int) := fun no =>
  match no with
  | _ => fun _ _ => none
theorem b1_1 (d64v0 : Int → Option ((Nat × Unit) × ((List Int) × Unit))) (N n : Nat) (v : P1_1.T) (κ : (i : Nat) → (Q1_1 i).T → Option (List Int)) :
    evc (T1 d64v0) (rawOf (RW1 d64v0)) (W1_1 d64v0 N) (reto k1.res .u8) (modeOf FT) 0 fuelC (bodyOf (loopN k1 1)) (P1_1.st v) (roundK 0 H1_1 P1_1 Q1_1 (u1_1 d64v0 N n) κ) = u1_1 d64v0 N (n + 1) v κ := by kernel_rfl
theorem o1_1 (d64v0 : Int → Option ((Nat × Unit) × ((List Int) × Unit))) (hT : TabOK FT XT (T1 d64v0)) (hO : RawOK FT XT (rawOf (α := List Int) (RW1 d64v0))) (N : Nat) {s : St} {κ : Ex → St → Option (List Int)} {a : List Int} (h : lpOf 0 H1_1 P1_1 Q1_1 (u1_1 d64v0 N N) s κ = some a) : Out FT XT 0 (reto k1.res .u8) (loopN k1 1) s κ a := by
  rw [l1_1]
  exact loop_out (LP := W1_1 d64v0 N) (fu := fuelC) hT hO (fun _ _ => rfl) (b1_1 d64v0 N) loopOK_nil N h
def H1_0 : Trim := ⟨0, [], false, [0, 3, 9, 10, 11], []⟩
theorem l1_0 : loopN k1 0 = .loop H1_0 (bodyOf (loopN k1 0)) := by kernel_rfl
def P1_0 : Ps := ⟨[(0, (.tb (Sh.sl (Sh.int .u8)))), (2, .u), (3, (.int .i64)), (5, .u), (6, .u), (8, .u), (9, (.tb (Sh.sl (Sh.int .u8)))), (10, (.int .i64)), (11, (.int .i64)), (12, .u), (20, .u), (25, .u), (26, .u), (27, .u), (28, .u)], []⟩
def Q1_0 : Nat → Ps
  | 0 => ⟨[(0, (.tb (Sh.sl (Sh.int .u8)))), (2, .u), (3, (.int .i64)), (5, .u), (6, .u), (8, .u), (9, .u), (10, .u), (11, .u), (12, .u), (20, .u), (25, .u), (26, .u), (27, .u), (28, .u)], []⟩
  | _ => noPs
def u1_0 (d64v0 : Int → Option ((Nat × Unit) × ((List Int) × Unit))) (N n : Nat) (v : P1_0.T) (κ : (i : Nat) → (Q1_0 i).T → Option (List Int)) : Option (List Int) :=
  L1_0 d64v0 N (fun (y0 : List (List Int)) (y1 : Int) => κ 0 ((y0, ((), (y1, ((), ((), ((), ((), ((), ((), ((), ((), ((), ((), ((), ((), ()))))))))))))))), ())) n v.1.1 v.1.2.2.1 v.1.2.2.2.2.2.2.1 v.1.2.2.2.2.2.2.2.1 v.1.2.2.2.2.2.2.2.2.1
def W1_0 (d64v0 : Int → Option ((Nat × Unit) × ((List Int) × Unit))) (N : Nat) : LoopF (List Int) := fun no =>
  match no with
  | _ => fun _ _ => none
theorem b1_0 (d64v0 : Int → Option ((Nat × Unit) × ((List Int) × Unit))) (N n : Nat) (v : P1_0.T) (κ : (i : Nat) → (Q1_0 i).T → Option (List Int)) :
    evc (T1 d64v0) (rawOf (RW1 d64v0)) (W1_0 d64v0 N) (reto k1.res .u8) (modeOf FT) 0 fuelC (bodyOf (loopN k1 0)) (P1_0.st v) (roundK 0 H1_0 P1_0 Q1_0 (u1_0 d64v0 N n) κ) = u1_0 d64v0 N (n + 1) v κ := by kernel_rfl
theorem o1_0 (d64v0 : Int → Option ((Nat × Unit) × ((List Int) × Unit))) (hT : TabOK FT XT (T1 d64v0)) (hO : RawOK FT XT (rawOf (α := List Int) (RW1 d64v0))) (N : Nat) {s : St} {κ : Ex → St → Option (List Int)} {a : List Int} (h : lpOf 0 H1_0 P1_0 Q1_0 (u1_0 d64v0 N N) s κ = some a) : Out FT XT 0 (reto k1.res .u8) (loopN k1 0) s κ a := by
  rw [l1_0]
  exact loop_out (LP := W1_0 d64v0 N) (fu := fuelC) hT hO (fun _ _ => rfl) (b1_0 d64v0 N) loopOK_nil N h
def W1 (d64v0 : Int → Option ((Nat × Unit) × ((List Int) × Unit))) (N : Nat) : LoopF (List Int) := fun no =>
  match no with
  | 0 => lpOf 0 H1_0 P1_0 Q1_0 (u1_0 d64v0 N N)
  | 1 => lpOf 0 H1_1 P1_1 Q1_1 (u1_1 d64v0 N N)
  | _ => fun _ _ => none
theorem e1 (d64v0 : Int → Option ((Nat × Unit) × ((List Int) × Unit))) (N : Nat) (a0 : List (List Int)) : evc (T1 d64v0) (rawOf (RW1 d64v0)) (W1 d64v0 N) (reto k1.res .u8) (modeOf FT) 0 fuelC k1.body (env0 k1 (encL [(Sh.sl (Sh.sl (Sh.int .u8)))] (a0, ())), []) (endK (reto k1.res .u8)) = p1 d64v0 N a0 := by kernel_rfl
theorem ok1 (d64v0 : Int → Option ((Nat × Unit) × ((List Int) × Unit))) (h64v0 : REntOK FT XT 64 (rn64v0 d64v0)) {f : List (List Int) → Option (List Int)} (hf : ∀ a0 r, f a0 = some r → ∃ N, p1 d64v0 N a0 = some r) : EntOK FT XT 1 (en1 f) := by
  have hT : TabOK FT XT (T1 d64v0) := by
    intro g en hg
    unfold T1 at hg
    split at hg <;> first | (injection hg with hg; subst hg; assumption) | cases hg
  have hO0 : RawOK FT XT (rawOf (α := List Int) (RW1 d64v0)) := by
    refine rawOf_ok (fun g en hg => ?_)
    unfold RW1 at hg
    split at hg <;> simp only [List.mem_cons, List.not_mem_nil, or_false] at hg <;> first | (subst hg; assumption) | (rcases hg with rfl | rfl <;> assumption) | (rcases hg with rfl | rfl | rfl <;> assumption) | (rcases hg with rfl | rfl | rfl | rfl <;> assumption)
  have hO : RawOK FT XT (rawOf (α := List Int) (RW1 d64v0)) := hO0
  refine ⟨rfl, fun v r h => ?_⟩
  obtain ⟨a0, _⟩ := v
  obtain ⟨N, h1⟩ := hf _ _ h
  exact ans_o (tab := T1 d64v0) (raw := (rawOf (RW1 d64v0))) (LP := W1 d64v0 N) (fu := fuelC) hT hO rfl rfl (Nat.le_of_ble_eq_true rfl) (loopOK_cons l1_0 (fun s κ a h => o1_0 d64v0 hT hO N h) (loopOK_cons l1_1 (fun s κ a h => o1_1 d64v0 hT hO N h) loopOK_nil)) ((e1 d64v0 N _).trans h1)

def T48v0 : Nat → Option Ent
  | _ => none
def RW48v0 : Nat → List REnt
  | _ => []
def H48v0_0 : Trim := ⟨0, [], false, [0, 2, 3], []⟩
theorem l48v0_0 : loopN k48 0 = .loop H48v0_0 (bodyOf (loopN k48 0)) := by kernel_rfl
def P48v0_0 : Ps := ⟨[(0, (.slc 0 1)), (2, (.int .i64)), (3, (.int .i64)), (9, .u)], [(.ints false .u8)]⟩
def Q48v0_0 : Nat → Ps
  | 0 => ⟨[(0, .u), (2, .u), (3, .u), (9, .u)], [(.ints false .u8)]⟩
  | _ => noPs
def u48v0_0 (N n : Nat) (v : P48v0_0.T) (κ : (i : Nat) → (Q48v0_0 i).T → Option QR48v0.T) : Option QR48v0.T :=
  L48v0_0 N (fun (y0 : List Int) => κ 0 (((), ((), ((), ((), ())))), (y0, ()))) n v.1.1.1 v.1.1.2 v.1.2.1 v.1.2.2.1 v.2.1
def W48v0_0 (N : Nat) : LoopF QR48v0.T := fun no =>
  match no with
  | _ => fun _ _ => none
theorem b48v0_0 (N n : Nat) (v : P48v0_0.T) (κ : (i : Nat) → (Q48v0_0 i).T → Option QR48v0.T) :
    evc (T48v0) (rawOf (RW48v0)) (W48v0_0 N) (retr k48.res 1 QR48v0) (modeOf FT) 1 fuelC (bodyOf (loopN k48 0)) (P48v0_0.st v) (roundK 1 H48v0_0 P48v0_0 Q48v0_0 (u48v0_0 N n) κ) = u48v0_0 N (n + 1) v κ := by kernel_rfl
theorem o48v0_0 (hT : TabOK FT XT (T48v0)) (hO : RawOK FT XT (rawOf (α := QR48v0.T) (RW48v0))) (N : Nat) {s : St} {κ : Ex → St → Option QR48v0.T} {a : QR48v0.T} (h : lpOf 1 H48v0_0 P48v0_0 Q48v0_0 (u48v0_0 N N) s κ = some a) : Out FT XT 1 (retr k48.res 1 QR48v0) (loopN k48 0) s κ a := by
  rw [l48v0_0]
  exact loop_out (LP := W48v0_0 N) (fu := fuelC) hT hO (fun _ _ => rfl) (b48v0_0 N) loopOK_nil N h
def W48v0 (N : Nat) : LoopF QR48v0.T := fun no =>
  match no with
  | 0 => lpOf 1 H48v0_0 P48v0_0 Q48v0_0 (u48v0_0 N N)
  | _ => fun _ _ => none
theorem e48v0 (N : Nat) (v : PR48v0.T) : evc (T48v0) (rawOf (RW48v0)) (W48v0 N) (retr k48.res 1 QR48v0) (modeOf FT) 1 fuelC k48.body (env0 k48 (PR48v0.a.st v.1), stH PR48v0.h v.2) (endK (retr k48.res 1 QR48v0)) = p48v0 N v.1.1.1 v.1.1.2 v.2.1 := by kernel_rfl
theorem ok48v0 {f : Nat → Nat → List Int → Option ((Unit × Unit) × ((List Int) × Unit))} (hf : ∀ a0 a1 a2 r, f a0 a1 a2 = some r → ∃ N, p48v0 N a0 a1 a2 = some r) : REntOK FT XT 48 (rn48v0 f) := by
  have hT : TabOK FT XT (T48v0) := by
    intro g en hg
    unfold T48v0 at hg
    split at hg <;> first | (injection hg with hg; subst hg; assumption) | cases hg
  have hO0 : RawOK FT XT (rawOf (α := QR48v0.T) (RW48v0)) := by
    refine rawOf_ok (fun g en hg => ?_)
    unfold RW48v0 at hg
    split at hg <;> simp only [List.mem_cons, List.not_mem_nil, or_false] at hg <;> first | (subst hg; assumption) | (rcases hg with rfl | rfl <;> assumption) | (rcases hg with rfl | rfl | rfl <;> assumption) | (rcases hg with rfl | rfl | rfl | rfl <;> assumption)
  have hO : RawOK FT XT (rawOf (α := QR48v0.T) (RW48v0)) := hO0
  intro v r w h hw
  obtain ⟨N, h1⟩ := hf _ _ _ _ h
  exact ans_r (Q := QR48v0) (tab := T48v0) (raw := (rawOf (RW48v0))) (LP := W48v0 N) (fu := fuelC) hT hO rfl rfl (Nat.le_of_ble_eq_true rfl) rfl (loopOK_cons l48v0_0 (fun s κ a h => o48v0_0 hT hO N h) loopOK_nil) ((e48v0 N v).trans h1) hw

def T19 (d48v0 : Nat → Nat → List Int → Option ((Unit × Unit) × ((List Int) × Unit))) : Nat → Option Ent
  | _ => none
def RW19 (d48v0 : Nat → Nat → List Int → Option ((Unit × Unit) × ((List Int) × Unit))) : Nat → List REnt
  | 48 => [rn48v0 d48v0]
  | _ => []
def H19_0 : Trim := ⟨0, [], false, [0, 2, 8, 19, 20], []⟩
theorem l19_0 : loopN k19 0 = .loop H19_0 (bodyOf (loopN k19 0)) := by kernel_rfl
def P19_0 : Ps := ⟨[(0, (.int .u64)), (1, .u), (2, .bool), (6, .u), (7, .u), (8, (.slc 0 1)), (9, .u), (15, .u), (19, (.int .i64)), (20, (.int .i64)), (21, .u), (33, .u)], [(.ints false .u8)]⟩
def Q19_0 : Nat → Ps
  | 0 => ⟨[(0, .u), (1, .u), (2, .bool), (6, .u), (7, .u), (8, (.slc 0 1)), (9, .u), (15, .u), (19, .u), (20, .u), (21, .u), (33, .u)], [(.ints false .u8)]⟩
  | _ => noPs
def u19_0 (d48v0 : Nat → Nat → List Int → Option ((Unit × Unit) × ((List Int) × Unit))) (N n : Nat) (v : P19_0.T) (κ : (i : Nat) → (Q19_0 i).T → Option (((Sh.tu (Sh.pr (Sh.sl (Sh.int .u8)) (Sh.int .i64)))).T)) : Option (((Sh.tu (Sh.pr (Sh.sl (Sh.int .u8)) (Sh.int .i64)))).T) :=
  L19_0 d48v0 N (fun (y0 : Bool) (y1 : Nat) (y2 : Nat) (y3 : List Int) => κ 0 (((), ((), (y0, ((), ((), ((y1, y2), ((), ((), ((), ((), ((), ((), ())))))))))))), (y3, ()))) n v.1.1 v.1.2.2.1 v.1.2.2.2.2.2.1.1 v.1.2.2.2.2.2.1.2 v.1.2.2.2.2.2.2.2.2.1 v.1.2.2.2.2.2.2.2.2.2.1 v.2.1
def W19_0 (d48v0 : Nat → Nat → List Int → Option ((Unit × Unit) × ((List Int) × Unit))) (N : Nat) : LoopF (((Sh.tu (Sh.pr (Sh.sl (Sh.int .u8)) (Sh.int .i64)))).T) := fun no =>
  match no with
  | _ => fun _ _ => none
theorem b19_0 (d48v0 : Nat → Nat → List Int → Option ((Unit × Unit) × ((List Int) × Unit))) (N n : Nat) (v : P19_0.T) (κ : (i : Nat) → (Q19_0 i).T → Option (((Sh.tu (Sh.pr (Sh.sl (Sh.int .u8)) (Sh.int .i64)))).T)) :
    evc (T19 d48v0) (rawOf (RW19 d48v0)) (W19_0 d48v0 N) (retc k19.res (Sh.tu (Sh.pr (Sh.sl (Sh.int .u8)) (Sh.int .i64)))) (modeOf FT) 0 fuelC (bodyOf (loopN k19 0)) (P19_0.st v) (roundK 0 H19_0 P19_0 Q19_0 (u19_0 d48v0 N n) κ) = u19_0 d48v0 N (n + 1) v κ := by kernel_rfl
theorem o19_0 (d48v0 : Nat → Nat → List Int → Option ((Unit × Unit) × ((List Int) × Unit))) (hT : TabOK FT XT (T19 d48v0)) (hO : RawOK FT XT (rawOf (α := ((Sh.tu (Sh.pr (Sh.sl (Sh.int .u8)) (Sh.int .i64)))).T) (RW19 d48v0))) (N : Nat) {s : St} {κ : Ex → St → Option (((Sh.tu (Sh.pr (Sh.sl (Sh.int .u8)) (Sh.int .i64)))).T)} {a : ((Sh.tu (Sh.pr (Sh.sl (Sh.int .u8)) (Sh.int .i64)))).T} (h : lpOf 0 H19_0 P19_0 Q19_0 (u19_0 d48v0 N N) s κ = some a) : Out FT XT 0 (retc k19.res (Sh.tu (Sh.pr (Sh.sl (Sh.int .u8)) (Sh.int .i64)))) (loopN k19 0) s κ a := by
  rw [l19_0]
  exact loop_out (LP := W19_0 d48v0 N) (fu := fuelC) hT hO (fun _ _ => rfl) (b19_0 d48v0 N) loopOK_nil N h
def W19 (d48v0 : Nat → Nat → List Int → Option ((Unit × Unit) × ((List Int) × Unit))) (N : Nat) : LoopF (((Sh.tu (Sh.pr (Sh.sl (Sh.int .u8)) (Sh.int .i64)))).T) := fun no =>
  match no with
  | 0 => lpOf 0 H19_0 P19_0 Q19_0 (u19_0 d48v0 N N)
  | _ => fun _ _ => none
theorem e19 (d48v0 : Nat → Nat → List Int → Option ((Unit × Unit) × ((List Int) × Unit))) (N : Nat) (a0 : Int) (a1 : Int) (a2 : Bool) : evc (T19 d48v0) (rawOf (RW19 d48v0)) (W19 d48v0 N) (retc k19.res (Sh.tu (Sh.pr (Sh.sl (Sh.int .u8)) (Sh.int .i64)))) (modeOf FT) 0 fuelC k19.body (env0 k19 (encL [(Sh.int .u64), (Sh.int .i64), Sh.bool] (a0, (a1, (a2, ())))), []) (endK (retc k19.res (Sh.tu (Sh.pr (Sh.sl (Sh.int .u8)) (Sh.int .i64))))) = p19 d48v0 N a0 a1 a2 := by kernel_rfl
theorem ok19 (d48v0 : Nat → Nat → List Int → Option ((Unit × Unit) × ((List Int) × Unit))) (h48v0 : REntOK FT XT 48 (rn48v0 d48v0)) {f : Int → Int → Bool → Option ((List Int) × Int)} (hf : ∀ a0 a1 a2 r, f a0 a1 a2 = some r → ∃ N, p19 d48v0 N a0 a1 a2 = some r) : EntOK FT XT 19 (en19 f) := by
  have hT : TabOK FT XT (T19 d48v0) := by
    intro g en hg
    unfold T19 at hg
    split at hg <;> first | (injection hg with hg; subst hg; assumption) | cases hg
  have hO0 : RawOK FT XT (rawOf (α := ((Sh.tu (Sh.pr (Sh.sl (Sh.int .u8)) (Sh.int .i64)))).T) (RW19 d48v0)) := by
    refine rawOf_ok (fun g en hg => ?_)
    unfold RW19 at hg
    split at hg <;> simp only [List.mem_cons, List.not_mem_nil, or_false] at hg <;> first | (subst hg; assumption) | (rcases hg with rfl | rfl <;> assumption) | (rcases hg with rfl | rfl | rfl <;> assumption) | (rcases hg with rfl | rfl | rfl | rfl <;> assumption)
  have hO : RawOK FT XT (rawOf (α := ((Sh.tu (Sh.pr (Sh.sl (Sh.int .u8)) (Sh.int .i64)))).T) (RW19 d48v0)) := hO0
  refine ⟨rfl, fun v r h => ?_⟩
  obtain ⟨a0, a1, a2, _⟩ := v
  obtain ⟨N, h1⟩ := hf _ _ _ _ h
  exact ans_c (R := (Sh.tu (Sh.pr (Sh.sl (Sh.int .u8)) (Sh.int .i64)))) (tab := T19 d48v0) (raw := (rawOf (RW19 d48v0))) (LP := W19 d48v0 N) (fu := fuelC) hT hO rfl rfl (Nat.le_of_ble_eq_true rfl) (loopOK_cons l19_0 (fun s κ a h => o19_0 d48v0 hT hO N h) loopOK_nil) ((e19 d48v0 N _ _ _).trans h1)

def T21 : Nat → Option Ent
  | _ => none
def RW21 : Nat → List REnt
  | _ => []
def H21_0 : Trim := ⟨0, [], false, [1, 6, 17, 18, 19], []⟩
theorem l21_0 : loopN k21 0 = .loop H21_0 (bodyOf (loopN k21 0)) := by kernel_rfl
def P21_0 : Ps := ⟨[(0, .u), (1, .bool), (4, .u), (5, .u), (6, (.int .u64)), (7, .u), (8, .u), (16, .u), (17, (.tb (Sh.int .u8))), (18, (.int .i64)), (19, (.int .i64)), (20, .u), (24, .u)], []⟩
def Q21_0 : Nat → Ps
  | 0 => ⟨[(0, .u), (1, .u), (4, .u), (5, .u), (6, (.int .u64)), (7, .u), (8, .u), (16, .u), (17, .u), (18, .u), (19, .u), (20, .u), (24, .u)], []⟩
  | _ => noPs
def u21_0 (N n : Nat) (v : P21_0.T) (κ : (i : Nat) → (Q21_0 i).T → Option (((Sh.tu (Sh.pr (Sh.int .u64) (Sh.int .i64)))).T)) : Option (((Sh.tu (Sh.pr (Sh.int .u64) (Sh.int .i64)))).T) :=
  L21_0 N (fun (y0 : Int) => κ 0 (((), ((), ((), ((), (y0, ((), ((), ((), ((), ((), ((), ((), ((), ()))))))))))))), ())) n v.1.2.1 v.1.2.2.2.2.1 v.1.2.2.2.2.2.2.2.2.1 v.1.2.2.2.2.2.2.2.2.2.1 v.1.2.2.2.2.2.2.2.2.2.2.1
def W21_0 (N : Nat) : LoopF (((Sh.tu (Sh.pr (Sh.int .u64) (Sh.int .i64)))).T) := fun no =>
  match no with
  | _ => fun _ _ => none
theorem b21_0 (N n : Nat) (v : P21_0.T) (κ : (i : Nat) → (Q21_0 i).T → Option (((Sh.tu (Sh.pr (Sh.int .u64) (Sh.int .i64)))).T)) :
    evc (T21) (rawOf (RW21)) (W21_0 N) (retc k21.res (Sh.tu (Sh.pr (Sh.int .u64) (Sh.int .i64)))) (modeOf FT) 0 fuelC (bodyOf (loopN k21 0)) (P21_0.st v) (roundK 0 H21_0 P21_0 Q21_0 (u21_0 N n) κ) = u21_0 N (n + 1) v κ := by kernel_rfl
theorem o21_0 (hT : TabOK FT XT (T21)) (hO : RawOK FT XT (rawOf (α := ((Sh.tu (Sh.pr (Sh.int .u64) (Sh.int .i64)))).T) (RW21))) (N : Nat) {s : St} {κ : Ex → St → Option (((Sh.tu (Sh.pr (Sh.int .u64) (Sh.int .i64)))).T)} {a : ((Sh.tu (Sh.pr (Sh.int .u64) (Sh.int .i64)))).T} (h : lpOf 0 H21_0 P21_0 Q21_0 (u21_0 N N) s κ = some a) : Out FT XT 0 (retc k21.res (Sh.tu (Sh.pr (Sh.int .u64) (Sh.int .i64)))) (loopN k21 0) s κ a := by
  rw [l21_0]
  exact loop_out (LP := W21_0 N) (fu := fuelC) hT hO (fun _ _ => rfl) (b21_0 N) loopOK_nil N h
def W21 (N : Nat) : LoopF (((Sh.tu (Sh.pr (Sh.int .u64) (Sh.int .i64)))).T) := fun no =>
  match no with
  | 0 => lpOf 0 H21_0 P21_0 Q21_0 (u21_0 N N)
  | _ => fun _ _ => none
theorem e21 (N : Nat) (a0 : List Int) (a1 : Bool) : evc (T21) (rawOf (RW21)) (W21 N) (retc k21.res (Sh.tu (Sh.pr (Sh.int .u64) (Sh.int .i64)))) (modeOf FT) 0 fuelC k21.body (env0 k21 (encL [(Sh.sl (Sh.int .u8)), Sh.bool] (a0, (a1, ()))), []) (endK (retc k21.res (Sh.tu (Sh.pr (Sh.int .u64) (Sh.int .i64))))) = p21 N a0 a1 := by kernel_rfl
theorem ok21 {f : List Int → Bool → Option (Int × Int)} (hf : ∀ a0 a1 r, f a0 a1 = some r → ∃ N, p21 N a0 a1 = some r) : EntOK FT XT 21 (en21 f) := by
  have hT : TabOK FT XT (T21) := by
    intro g en hg
    unfold T21 at hg
    split at hg <;> first | (injection hg with hg; subst hg; assumption) | cases hg
  have hO0 : RawOK FT XT (rawOf (α := ((Sh.tu (Sh.pr (Sh.int .u64) (Sh.int .i64)))).T) (RW21)) := by
    refine rawOf_ok (fun g en hg => ?_)
    unfold RW21 at hg
    split at hg <;> simp only [List.mem_cons, List.not_mem_nil, or_false] at hg <;> first | (subst hg; assumption) | (rcases hg with rfl | rfl <;> assumption) | (rcases hg with rfl | rfl | rfl <;> assumption) | (rcases hg with rfl | rfl | rfl | rfl <;> assumption)
  have hO : RawOK FT XT (rawOf (α := ((Sh.tu (Sh.pr (Sh.int .u64) (Sh.int .i64)))).T) (RW21)) := hO0
  refine ⟨rfl, fun v r h => ?_⟩
  obtain ⟨a0, a1, _⟩ := v
  obtain ⟨N, h1⟩ := hf _ _ _ h
  exact ans_c (R := (Sh.tu (Sh.pr (Sh.int .u64) (Sh.int .i64)))) (tab := T21) (raw := (rawOf (RW21))) (LP := W21 N) (fu := fuelC) hT hO rfl rfl (Nat.le_of_ble_eq_true rfl) (loopOK_cons l21_0 (fun s κ a h => o21_0 hT hO N h) loopOK_nil) ((e21 N _ _).trans h1)

def T42 : Nat → Option Ent
  | _ => none
def RW42 : Nat → List REnt
  | _ => []
def H42_0 : Trim := ⟨0, [], false, [3, 10, 11, 12], [(3, (.imm []), 1)]⟩
theorem l42_0 : loopN k42 0 = .loop H42_0 (bodyOf (loopN k42 0)) := by kernel_rfl
def P42_0 : Ps := ⟨[(0, .u), (2, .u), (3, (.sl 0 1)), (5, .u), (10, (.tb (Sh.int .u8))), (11, (.int .i64)), (12, (.int .i64)), (13, .u)], [(.ints false .u8)]⟩
def Q42_0 : Nat → Ps
  | 0 => ⟨[(0, .u), (2, .u), (3, (.sl 0 1)), (5, .u), (10, .u), (11, .u), (12, .u), (13, .u)], [(.ints false .u8)]⟩
  | _ => noPs
def u42_0 (N n : Nat) (v : P42_0.T) (κ : (i : Nat) → (Q42_0 i).T → Option (Sh.str).T) : Option (Sh.str).T :=
  L42_0 N (fun (y0 : Nat) (y1 : List Int) => κ 0 (((), ((), (y0, ((), ((), ((), ((), ((), ())))))))), (y1, ()))) n v.1.2.2.1 v.1.2.2.2.2.1 v.1.2.2.2.2.2.1 v.1.2.2.2.2.2.2.1 v.2.1
def W42_0 (N : Nat) : LoopF (Sh.str).T := fun no =>
  match no with
  | _ => fun _ _ => none
theorem b42_0 (N n : Nat) (v : P42_0.T) (κ : (i : Nat) → (Q42_0 i).T → Option (Sh.str).T) :
    evc (T42) (rawOf (RW42)) (W42_0 N) (retc k42.res Sh.str) (modeOf FT) 0 fuelC (bodyOf (loopN k42 0)) (P42_0.st v) (roundK 0 H42_0 P42_0 Q42_0 (u42_0 N n) κ) = u42_0 N (n + 1) v κ := by kernel_rfl
theorem o42_0 (hT : TabOK FT XT (T42)) (hO : RawOK FT XT (rawOf (α := (Sh.str).T) (RW42))) (N : Nat) {s : St} {κ : Ex → St → Option (Sh.str).T} {a : (Sh.str).T} (h : lpOf 0 H42_0 P42_0 Q42_0 (u42_0 N N) s κ = some a) : Out FT XT 0 (retc k42.res Sh.str) (loopN k42 0) s κ a := by
  rw [l42_0]
  exact loop_out (LP := W42_0 N) (fu := fuelC) hT hO (fun _ _ => rfl) (b42_0 N) loopOK_nil N h
def W42 (N : Nat) : LoopF (Sh.str).T := fun no =>
  match no with
  | 0 => lpOf 0 H42_0 P42_0 Q42_0 (u42_0 N N)
  | _ => fun _ _ => none
theorem e42 (N : Nat) (a0 : List Int) : evc (T42) (rawOf (RW42)) (W42 N) (retc k42.res Sh.str) (modeOf FT) 0 fuelC k42.body (env0 k42 (encL [(Sh.sl (Sh.int .u8))] (a0, ())), []) (endK (retc k42.res Sh.str)) = p42 N a0 := by kernel_rfl
theorem ok42 {f : List Int → Option (List UInt8)} (hf : ∀ a0 r, f a0 = some r → ∃ N, p42 N a0 = some r) : EntOK FT XT 42 (en42 f) := by
  have hT : TabOK FT XT (T42) := by
    intro g en hg
    unfold T42 at hg
    split at hg <;> first | (injection hg with hg; subst hg; assumption) | cases hg
  have hO0 : RawOK FT XT (rawOf (α := (Sh.str).T) (RW42)) := by
    refine rawOf_ok (fun g en hg => ?_)
    unfold RW42 at hg
    split at hg <;> simp only [List.mem_cons, List.not_mem_nil, or_false] at hg <;> first | (subst hg; assumption) | (rcases hg with rfl | rfl <;> assumption) | (rcases hg with rfl | rfl | rfl <;> assumption) | (rcases hg with rfl | rfl | rfl | rfl <;> assumption)
  have hO : RawOK FT XT (rawOf (α := (Sh.str).T) (RW42)) := hO0
  refine ⟨rfl, fun v r h => ?_⟩
  obtain ⟨a0, _⟩ := v
  obtain ⟨N, h1⟩ := hf _ _ h
  exact ans_c (R := Sh.str) (tab := T42) (raw := (rawOf (RW42))) (LP := W42 N) (fu := fuelC) hT hO rfl rfl (Nat.le_of_ble_eq_true rfl) (loopOK_cons l42_0 (fun s κ a h => o42_0 hT hO N h) loopOK_nil) ((e42 N _).trans h1)

def T47 : Nat → Option Ent
  | _ => none
def RW47 : Nat → List REnt
  | _ => []
def H47_0 : Trim := ⟨0, [], false, [1, 5, 13, 14, 15], []⟩
theorem l47_0 : loopN k47 0 = .loop H47_0 (bodyOf (loopN k47 0)) := by kernel_rfl
def P47_0 : Ps := ⟨[(0, .u), (1, (.tb (Sh.int .u8))), (4, .u), (5, (.int .u8)), (6, .u), (7, .u), (12, .u), (13, (.tb (Sh.int .u8))), (14, (.int .i64)), (15, (.int .i64)), (16, .u)], []⟩
def Q47_0 : Nat → Ps
  | 0 => ⟨[(0, .u), (1, .u), (4, .u), (5, (.int .u8)), (6, .u), (7, .u), (12, .u), (13, .u), (14, .u), (15, .u), (16, .u)], []⟩
  | _ => noPs
def u47_0 (N n : Nat) (v : P47_0.T) (κ : (i : Nat) → (Q47_0 i).T → Option (Sh.bool).T) : Option (Sh.bool).T :=
  L47_0 N (fun (y0 : Int) => κ 0 (((), ((), ((), (y0, ((), ((), ((), ((), ((), ((), ((), ()))))))))))), ())) n v.1.2.1 v.1.2.2.2.1 v.1.2.2.2.2.2.2.2.1 v.1.2.2.2.2.2.2.2.2.1 v.1.2.2.2.2.2.2.2.2.2.1
def W47_0 (N : Nat) : LoopF (Sh.bool).T := fun no =>
  match no with
  | _ => fun _ _ => none
theorem b47_0 (N n : Nat) (v : P47_0.T) (κ : (i : Nat) → (Q47_0 i).T → Option (Sh.bool).T) :
    evc (T47) (rawOf (RW47)) (W47_0 N) (retc k47.res Sh.bool) (modeOf FT) 0 fuelC (bodyOf (loopN k47 0)) (P47_0.st v) (roundK 0 H47_0 P47_0 Q47_0 (u47_0 N n) κ) = u47_0 N (n + 1) v κ := by kernel_rfl
theorem o47_0 (hT : TabOK FT XT (T47)) (hO : RawOK FT XT (rawOf (α := (Sh.bool).T) (RW47))) (N : Nat) {s : St} {κ : Ex → St → Option (Sh.bool).T} {a : (Sh.bool).T} (h : lpOf 0 H47_0 P47_0 Q47_0 (u47_0 N N) s κ = some a) : Out FT XT 0 (retc k47.res Sh.bool) (loopN k47 0) s κ a := by
  rw [l47_0]
  exact loop_out (LP := W47_0 N) (fu := fuelC) hT hO (fun _ _ => rfl) (b47_0 N) loopOK_nil N h
def W47 (N : Nat) : LoopF (Sh.bool).T := fun no =>
  match no with
  | 0 => lpOf 0 H47_0 P47_0 Q47_0 (u47_0 N N)
  | _ => fun _ _ => none
theorem e47 (N : Nat) (a0 : List Int) (a1 : List Int) : evc (T47) (rawOf (RW47)) (W47 N) (retc k47.res Sh.bool) (modeOf FT) 0 fuelC k47.body (env0 k47 (encL [(Sh.sl (Sh.int .u8)), (Sh.sl (Sh.int .u8))] (a0, (a1, ()))), []) (endK (retc k47.res Sh.bool)) = p47 N a0 a1 := by kernel_rfl
theorem ok47 {f : List Int → List Int → Option Bool} (hf : ∀ a0 a1 r, f a0 a1 = some r → ∃ N, p47 N a0 a1 = some r) : EntOK FT XT 47 (en47 f) := by
  have hT : TabOK FT XT (T47) := by
    intro g en hg
    unfold T47 at hg
    split at hg <;> first | (injection hg with hg; subst hg; assumption) | cases hg
  have hO0 : RawOK FT XT (rawOf (α := (Sh.bool).T) (RW47)) := by
    refine rawOf_ok (fun g en hg => ?_)
    unfold RW47 at hg
    split at hg <;> simp only [List.mem_cons, List.not_mem_nil, or_false] at hg <;> first | (subst hg; assumption) | (rcases hg with rfl | rfl <;> assumption) | (rcases hg with rfl | rfl | rfl <;> assumption) | (rcases hg with rfl | rfl | rfl | rfl <;> assumption)
  have hO : RawOK FT XT (rawOf (α := (Sh.bool).T) (RW47)) := hO0
  refine ⟨rfl, fun v r h => ?_⟩
  obtain ⟨a0, a1, _⟩ := v
  obtain ⟨N, h1⟩ := hf _ _ _ h
  exact ans_c (R := Sh.bool) (tab := T47) (raw := (rawOf (RW47))) (LP := W47 N) (fu := fuelC) hT hO rfl rfl (Nat.le_of_ble_eq_true rfl) (loopOK_cons l47_0 (fun s κ a h => o47_0 hT hO N h) loopOK_nil) ((e47 N _ _).trans h1)

def T18 (c19 : Int → Int → Bool → Option ((List Int) × Int)) (c21 : List Int → Bool → Option (Int × Int)) (c42 : List Int → Option (List UInt8)) (c47 : List Int → List Int → Option Bool) : Nat → Option Ent
  | 19 => some (en19 c19)
  | 21 => some (en21 c21)
  | 42 => some (en42 c42)
  | 47 => some (en47 c47)
  | _ => none
def RW18 (c19 : Int → Int → Bool → Option ((List Int) × Int)) (c21 : List Int → Bool → Option (Int × Int)) (c42 : List Int → Option (List UInt8)) (c47 : List Int → List Int → Option Bool) : Nat → List REnt
  | _ => []
def W18 (c19 : Int → Int → Bool → Option ((List Int) × Int)) (c21 : List Int → Bool → Option (Int × Int)) (c42 : List Int → Option (List UInt8)) (c47 : List Int → List Int → Option Bool) (N : Nat) : LoopF (Sh.bool).T := fun no =>
  match no with
  | _ => fun _ _ => none
theorem e18 (c19 : Int → Int → Bool → Option ((List Int) × Int)) (c21 : List Int → Bool → Option (Int × Int)) (c42 : List Int → Option (List UInt8)) (c47 : List Int → List Int → Option Bool) (N : Nat)  : evc (T18 c19 c21 c42 c47) (rawOf (RW18 c19 c21 c42 c47)) (W18 c19 c21 c42 c47 N) (retc k18.res Sh.bool) (modeOf FT) 0 fuelC k18.body (env0 k18 (encL [] ()), []) (endK (retc k18.res Sh.bool)) = p18 c19 c21 c42 c47 N  := by kernel_rfl
theorem ok18 (c19 : Int → Int → Bool → Option ((List Int) × Int)) (c21 : List Int → Bool → Option (Int × Int)) (c42 : List Int → Option (List UInt8)) (c47 : List Int → List Int → Option Bool) (h19 : EntOK FT XT 19 (en19 c19)) (h21 : EntOK FT XT 21 (en21 c21)) (h42 : EntOK FT XT 42 (en42 c42)) (h47 : EntOK FT XT 47 (en47 c47)) {f : Option Bool} (hf : ∀  r, f  = some r → ∃ N, p18 c19 c21 c42 c47 N  = some r) : EntOK FT XT 18 (en18 f) := by
  have hT : TabOK FT XT (T18 c19 c21 c42 c47) := by
    intro g en hg
    unfold T18 at hg
    split at hg <;> first | (injection hg with hg; subst hg; assumption) | cases hg
  have hO0 : RawOK FT XT (rawOf (α := (Sh.bool).T) (RW18 c19 c21 c42 c47)) := by
    refine rawOf_ok (fun g en hg => ?_)
    unfold RW18 at hg
    split at hg <;> simp only [List.mem_cons, List.not_mem_nil, or_false] at hg <;> first | (subst hg; assumption) | (rcases hg with rfl | rfl <;> assumption) | (rcases hg with rfl | rfl | rfl <;> assumption) | (rcases hg with rfl | rfl | rfl | rfl <;> assumption)
  have hO : RawOK FT XT (rawOf (α := (Sh.bool).T) (RW18 c19 c21 c42 c47)) := hO0
  refine ⟨rfl, fun v r h => ?_⟩
  obtain ⟨N, h1⟩ := hf _ h
  exact ans_c (R := Sh.bool) (tab := T18 c19 c21 c42 c47) (raw := (rawOf (RW18 c19 c21 c42 c47))) (LP := W18 c19 c21 c42 c47 N) (fu := fuelC) hT hO rfl rfl (Nat.le_of_ble_eq_true rfl) loopOK_nil ((e18 c19 c21 c42 c47 N ).trans h1)

def T60 : Nat → Option Ent
  | _ => none
def RW60 : Nat → List REnt
  | _ => []
def W60 (N : Nat) : LoopF (((Sh.int .u8)).T) := fun no =>
  match no with
  | _ => fun _ _ => none
theorem e60 (N : Nat) (a0 : Int) : evc (T60) (rawOf (RW60)) (W60 N) (retc k60.res (Sh.int .u8)) (modeOf FT) 0 fuelC k60.body (env0 k60 (encL [(Sh.int .u8)] (a0, ())), []) (endK (retc k60.res (Sh.int .u8))) = p60 N a0 := by kernel_rfl
theorem ok60 {f : Int → Option Int} (hf : ∀ a0 r, f a0 = some r → ∃ N, p60 N a0 = some r) : EntOK FT XT 60 (en60 f) := by
  have hT : TabOK FT XT (T60) := by
    intro g en hg
    unfold T60 at hg
    split at hg <;> first | (injection hg with hg; subst hg; assumption) | cases hg
  have hO0 : RawOK FT XT (rawOf (α := ((Sh.int .u8)).T) (RW60)) := by
    refine rawOf_ok (fun g en hg => ?_)
    unfold RW60 at hg
    split at hg <;> simp only [List.mem_cons, List.not_mem_nil, or_false] at hg <;> first | (subst hg; assumption) | (rcases hg with rfl | rfl <;> assumption) | (rcases hg with rfl | rfl | rfl <;> assumption) | (rcases hg with rfl | rfl | rfl | rfl <;> assumption)
  have hO : RawOK FT XT (rawOf (α := ((Sh.int .u8)).T) (RW60)) := hO0
  refine ⟨rfl, fun v r h => ?_⟩
  obtain ⟨a0, _⟩ := v
  obtain ⟨N, h1⟩ := hf _ _ h
  exact ans_c (R := (Sh.int .u8)) (tab := T60) (raw := (rawOf (RW60))) (LP := W60 N) (fu := fuelC) hT hO rfl rfl (Nat.le_of_ble_eq_true rfl) loopOK_nil ((e60 N _).trans h1)

def T41 (c60 : Int → Option Int) : Nat → Option Ent
  | 60 => some (en60 c60)
  | _ => none
def RW41 (c60 : Int → Option Int) : Nat → List REnt
  | _ => []
def H41_0 : Trim := ⟨0, [], false, [0, 4, 5], [(4, (.ints .u8 []), 1)]⟩
theorem l41_0 : loopN k41 0 = .loop H41_0 (bodyOf (loopN k41 0)) := by kernel_rfl
def P41_0 : Ps := ⟨[(0, .str), (2, .u), (3, .u), (4, (.sl 0 1)), (5, (.int .i64)), (6, .u), (7, .u), (11, .u), (15, .u), (32, .u)], [(.ints false .u8)]⟩
def Q41_0 : Nat → Ps
  | 0 => ⟨[(0, .u), (2, .u), (3, .u), (4, (.sl 0 1)), (5, .u), (6, .u), (7, .u), (11, .u), (15, .u), (32, .u)], [(.ints false .u8)]⟩
  | _ => noPs
def u41_0 (c60 : Int → Option Int) (N n : Nat) (v : P41_0.T) (κ : (i : Nat) → (Q41_0 i).T → Option (((Sh.tu (Sh.pr (Sh.sl (Sh.int .u8)) (Sh.int .i64)))).T)) : Option (((Sh.tu (Sh.pr (Sh.sl (Sh.int .u8)) (Sh.int .i64)))).T) :=
  L41_0 c60 N (fun (y0 : Nat) (y1 : List Int) => κ 0 (((), ((), ((), (y0, ((), ((), ((), ((), ((), ((), ())))))))))), (y1, ()))) n v.1.1 v.1.2.2.2.1 v.1.2.2.2.2.1 v.2.1
def W41_0 (c60 : Int → Option Int) (N : Nat) : LoopF (((Sh.tu (Sh.pr (Sh.sl (Sh.int .u8)) (Sh.int .i64)))).T) := fun no =>
  match no with
  | _ => fun _ _ => none
theorem b41_0 (c60 : Int → Option Int) (N n : Nat) (v : P41_0.T) (κ : (i : Nat) → (Q41_0 i).T → Option (((Sh.tu (Sh.pr (Sh.sl (Sh.int .u8)) (Sh.int .i64)))).T)) :
    evc (T41 c60) (rawOf (RW41 c60)) (W41_0 c60 N) (retc k41.res (Sh.tu (Sh.pr (Sh.sl (Sh.int .u8)) (Sh.int .i64)))) (modeOf FT) 0 fuelC (bodyOf (loopN k41 0)) (P41_0.st v) (roundK 0 H41_0 P41_0 Q41_0 (u41_0 c60 N n) κ) = u41_0 c60 N (n + 1) v κ := by kernel_rfl
theorem o41_0 (c60 : Int → Option Int) (hT : TabOK FT XT (T41 c60)) (hO : RawOK FT XT (rawOf (α := ((Sh.tu (Sh.pr (Sh.sl (Sh.int .u8)) (Sh.int .i64)))).T) (RW41 c60))) (N : Nat) {s : St} {κ : Ex → St → Option (((Sh.tu (Sh.pr (Sh.sl (Sh.int .u8)) (Sh.int .i64)))).T)} {a : ((Sh.tu (Sh.pr (Sh.sl (Sh.int .u8)) (Sh.int .i64)))).T} (h : lpOf 0 H41_0 P41_0 Q41_0 (u41_0 c60 N N) s κ = some a) : Out FT XT 0 (retc k41.res (Sh.tu (Sh.pr (Sh.sl (Sh.int .u8)) (Sh.int .i64)))) (loopN k41 0) s κ a := by
  rw [l41_0]
  exact loop_out (LP := W41_0 c60 N) (fu := fuelC) hT hO (fun _ _ => rfl) (b41_0 c60 N) loopOK_nil N h
def W41 (c60 : Int → Option Int) (N : Nat) : LoopF (((Sh.tu (Sh.pr (Sh.sl (Sh.int .u8)) (Sh.int .i64)))).T) := fun no =>
  match no with
  | 0 => lpOf 0 H41_0 P41_0 Q41_0 (u41_0 c60 N N)
  | _ => fun _ _ => none
theorem e41 (c60 : Int → Option Int) (N : Nat) (a0 : List UInt8) : evc (T41 c60) (rawOf (RW41 c60)) (W41 c60 N) (retc k41.res (Sh.tu (Sh.pr (Sh.sl (Sh.int .u8)) (Sh.int .i64)))) (modeOf FT) 0 fuelC k41.body (env0 k41 (encL [Sh.str] (a0, ())), []) (endK (retc k41.res (Sh.tu (Sh.pr (Sh.sl (Sh.int .u8)) (Sh.int .i64))))) = p41 c60 N a0 := by kernel_rfl
theorem ok41 (c60 : Int → Option Int) (h60 : EntOK FT XT 60 (en60 c60)) {f : List UInt8 → Option ((List Int) × Int)} (hf : ∀ a0 r, f a0 = some r → ∃ N, p41 c60 N a0 = some r) : EntOK FT XT 41 (en41 f) := by
  have hT : TabOK FT XT (T41 c60) := by
    intro g en hg
    unfold T41 at hg
    split at hg <;> first | (injection hg with hg; subst hg; assumption) | cases hg
  have hO0 : RawOK FT XT (rawOf (α := ((Sh.tu (Sh.pr (Sh.sl (Sh.int .u8)) (Sh.int .i64)))).T) (RW41 c60)) := by
    refine rawOf_ok (fun g en hg => ?_)
    unfold RW41 at hg
    split at hg <;> simp only [List.mem_cons, List.not_mem_nil, or_false] at hg <;> first | (subst hg; assumption) | (rcases hg with rfl | rfl <;> assumption) | (rcases hg with rfl | rfl | rfl <;> assumption) | (rcases hg with rfl | rfl | rfl | rfl <;> assumption)
  have hO : RawOK FT XT (rawOf (α := ((Sh.tu (Sh.pr (Sh.sl (Sh.int .u8)) (Sh.int .i64)))).T) (RW41 c60)) := hO0
  refine ⟨rfl, fun v r h => ?_⟩
  obtain ⟨a0, _⟩ := v
  obtain ⟨N, h1⟩ := hf _ _ h
  exact ans_c (R := (Sh.tu (Sh.pr (Sh.sl (Sh.int .u8)) (Sh.int .i64)))) (tab := T41 c60) (raw := (rawOf (RW41 c60))) (LP := W41 c60 N) (fu := fuelC) hT hO rfl rfl (Nat.le_of_ble_eq_true rfl) (loopOK_cons l41_0 (fun s κ a h => o41_0 c60 hT hO N h) loopOK_nil) ((e41 c60 N _).trans h1)

def T43 : Nat → Option Ent
  | _ => none
def RW43 : Nat → List REnt
  | _ => []
def H43_0 : Trim := ⟨0, [], false, [0, 3, 4, 5], []⟩
theorem l43_0 : loopN k43 0 = .loop H43_0 (bodyOf (loopN k43 0)) := by kernel_rfl
def P43_0 : Ps := ⟨[(0, (.tb (Sh.int .u8))), (2, .u), (3, .str), (4, .str), (5, (.int .i64)), (6, .u), (7, .u), (11, .u)], []⟩
def Q43_0 : Nat → Ps
  | 0 => ⟨[(0, .u), (2, .u), (3, .u), (4, .str), (5, .u), (6, .u), (7, .u), (11, .u)], []⟩
  | _ => noPs
def u43_0 (N n : Nat) (v : P43_0.T) (κ : (i : Nat) → (Q43_0 i).T → Option (Sh.str).T) : Option (Sh.str).T :=
  L43_0 N (fun (y0 : List UInt8) => κ 0 (((), ((), ((), (y0, ((), ((), ((), ((), ())))))))), ())) n v.1.1 v.1.2.2.1 v.1.2.2.2.1 v.1.2.2.2.2.1
def W43_0 (N : Nat) : LoopF (Sh.str).T := fun no =>
  match no with
  | _ => fun _ _ => none
theorem b43_0 (N n : Nat) (v : P43_0.T) (κ : (i : Nat) → (Q43_0 i).T → Option (Sh.str).T) :
    evc (T43) (rawOf (RW43)) (W43_0 N) (retc k43.res Sh.str) (modeOf FT) 0 fuelC (bodyOf (loopN k43 0)) (P43_0.st v) (roundK 0 H43_0 P43_0 Q43_0 (u43_0 N n) κ) = u43_0 N (n + 1) v κ := by kernel_rfl
theorem o43_0 (hT : TabOK FT XT (T43)) (hO : RawOK FT XT (rawOf (α := (Sh.str).T) (RW43))) (N : Nat) {s : St} {κ : Ex → St → Option (Sh.str).T} {a : (Sh.str).T} (h : lpOf 0 H43_0 P43_0 Q43_0 (u43_0 N N) s κ = some a) : Out FT XT 0 (retc k43.res Sh.str) (loopN k43 0) s κ a := by
  rw [l43_0]
  exact loop_out (LP := W43_0 N) (fu := fuelC) hT hO (fun _ _ => rfl) (b43_0 N) loopOK_nil N h
def W43 (N : Nat) : LoopF (Sh.str).T := fun no =>
  match no with
  | 0 => lpOf 0 H43_0 P43_0 Q43_0 (u43_0 N N)
  | _ => fun _ _ => none
theorem e43 (N : Nat) (a0 : List Int) : evc (T43) (rawOf (RW43)) (W43 N) (retc k43.res Sh.str) (modeOf FT) 0 fuelC k43.body (env0 k43 (encL [(Sh.sl (Sh.int .u8))] (a0, ())), []) (endK (retc k43.res Sh.str)) = p43 N a0 := by kernel_rfl
theorem ok43 {f : List Int → Option (List UInt8)} (hf : ∀ a0 r, f a0 = some r → ∃ N, p43 N a0 = some r) : EntOK FT XT 43 (en43 f) := by
  have hT : TabOK FT XT (T43) := by
    intro g en hg
    unfold T43 at hg
    split at hg <;> first | (injection hg with hg; subst hg; assumption) | cases hg
  have hO0 : RawOK FT XT (rawOf (α := (Sh.str).T) (RW43)) := by
    refine rawOf_ok (fun g en hg => ?_)
    unfold RW43 at hg
    split at hg <;> simp only [List.mem_cons, List.not_mem_nil, or_false] at hg <;> first | (subst hg; assumption) | (rcases hg with rfl | rfl <;> assumption) | (rcases hg with rfl | rfl | rfl <;> assumption) | (rcases hg with rfl | rfl | rfl | rfl <;> assumption)
  have hO : RawOK FT XT (rawOf (α := (Sh.str).T) (RW43)) := hO0
  refine ⟨rfl, fun v r h => ?_⟩
  obtain ⟨a0, _⟩ := v
  obtain ⟨N, h1⟩ := hf _ _ h
  exact ans_c (R := Sh.str) (tab := T43) (raw := (rawOf (RW43))) (LP := W43 N) (fu := fuelC) hT hO rfl rfl (Nat.le_of_ble_eq_true rfl) (loopOK_cons l43_0 (fun s κ a h => o43_0 hT hO N h) loopOK_nil) ((e43 N _).trans h1)

def T23 : Nat → Option Ent
  | _ => none
def RW23 : Nat → List REnt
  | _ => []
def H23_0 : Trim := ⟨0, [], false, [0, 1, 5], []⟩
theorem l23_0 : loopN k23 0 = .loop H23_0 (bodyOf (loopN k23 0)) := by kernel_rfl
def P23_0 : Ps := ⟨[(0, (.tb (Sh.int .u8))), (1, (.tb (Sh.int .u8))), (4, .u), (5, (.int .i64)), (10, .u), (14, .u), (25, .u)], []⟩
def Q23_0 : Nat → Ps
  | 0 => ⟨[(0, .u), (1, .u), (4, .u), (5, .u), (10, .u), (14, .u), (25, .u)], []⟩
  | _ => noPs
def u23_0 (N n : Nat) (v : P23_0.T) (κ : (i : Nat) → (Q23_0 i).T → Option (Sh.bool).T) : Option (Sh.bool).T :=
  L23_0 N (κ 0 (((), ((), ((), ((), ((), ((), ((), ()))))))), ())) n v.1.1 v.1.2.1 v.1.2.2.2.1
def W23_0 (N : Nat) : LoopF (Sh.bool).T := fun no =>
  match no with
  | _ => fun _ _ => none
theorem b23_0 (N n : Nat) (v : P23_0.T) (κ : (i : Nat) → (Q23_0 i).T → Option (Sh.bool).T) :
    evc (T23) (rawOf (RW23)) (W23_0 N) (retc k23.res Sh.bool) (modeOf FT) 0 fuelC (bodyOf (loopN k23 0)) (P23_0.st v) (roundK 0 H23_0 P23_0 Q23_0 (u23_0 N n) κ) = u23_0 N (n + 1) v κ := by kernel_rfl
theorem o23_0 (hT : TabOK FT XT (T23)) (hO : RawOK FT XT (rawOf (α := (Sh.bool).T) (RW23))) (N : Nat) {s : St} {κ : Ex → St → Option (Sh.bool).T} {a : (Sh.bool).T} (h : lpOf 0 H23_0 P23_0 Q23_0 (u23_0 N N) s κ = some a) : Out FT XT 0 (retc k23.res Sh.bool) (loopN k23 0) s κ a := by
  rw [l23_0]
  exact loop_out (LP := W23_0 N) (fu := fuelC) hT hO (fun _ _ => rfl) (b23_0 N) loopOK_nil N h
def W23 (N : Nat) : LoopF (Sh.bool).T := fun no =>
  match no with
  | 0 => lpOf 0 H23_0 P23_0 Q23_0 (u23_0 N N)
  | _ => fun _ _ => none
theorem e23 (N : Nat) (a0 : List Int) (a1 : List Int) : evc (T23) (rawOf (RW23)) (W23 N) (retc k23.res Sh.bool) (modeOf FT) 0 fuelC k23.body (env0 k23 (encL [(Sh.sl (Sh.int .u8)), (Sh.sl (Sh.int .u8))] (a0, (a1, ()))), []) (endK (retc k23.res Sh.bool)) = p23 N a0 a1 := by kernel_rfl
theorem ok23 {f : List Int → List Int → Option Bool} (hf : ∀ a0 a1 r, f a0 a1 = some r → ∃ N, p23 N a0 a1 = some r) : EntOK FT XT 23 (en23 f) := by
  have hT : TabOK FT XT (T23) := by
    intro g en hg
    unfold T23 at hg
    split at hg <;> first | (injection hg with hg; subst hg; assumption) | cases hg
  have hO0 : RawOK FT XT (rawOf (α := (Sh.bool).T) (RW23)) := by
    refine rawOf_ok (fun g en hg => ?_)
    unfold RW23 at hg
    split at hg <;> simp only [List.mem_cons, List.not_mem_nil, or_false] at hg <;> first | (subst hg; assumption) | (rcases hg with rfl | rfl <;> assumption) | (rcases hg with rfl | rfl | rfl <;> assumption) | (rcases hg with rfl | rfl | rfl | rfl <;> assumption)
  have hO : RawOK FT XT (rawOf (α := (Sh.bool).T) (RW23)) := hO0
  refine ⟨rfl, fun v r h => ?_⟩
  obtain ⟨a0, a1, _⟩ := v
  obtain ⟨N, h1⟩ := hf _ _ _ h
  exact ans_c (R := Sh.bool) (tab := T23) (raw := (rawOf (RW23))) (LP := W23 N) (fu := fuelC) hT hO rfl rfl (Nat.le_of_ble_eq_true rfl) (loopOK_cons l23_0 (fun s κ a h => o23_0 hT hO N h) loopOK_nil) ((e23 N _ _).trans h1)

def T15 (c18 : Option Bool) (c40 : List UInt8 → Option ((List Int) × Int)) (c41 : List UInt8 → Option ((List Int) × Int)) (c42 : List Int → Option (List UInt8)) (c43 : List Int → Option (List UInt8)) (c23 : List Int → List Int → Option Bool) : Nat → Option Ent
  | 18 => some (en18 c18)
  | 40 => some (en40 c40)
  | 41 => some (en41 c41)
  | 42 => some (en42 c42)
  | 43 => some (en43 c43)
  | 23 => some (en23 c23)
  | _ => none
def RW15 (c18 : Option Bool) (c40 : List UInt8 → Option ((List Int) × Int)) (c41 : List UInt8 → Option ((List Int) × Int)) (c42 : List Int → Option (List UInt8)) (c43 : List Int → Option (List UInt8)) (c23 : List Int → List Int → Option Bool) : Nat → List REnt
  | _ => []
def W15 (c18 : Option Bool) (c40 : List UInt8 → Option ((List Int) × Int)) (c41 : List UInt8 → Option ((List Int) × Int)) (c42 : List Int → Option (List UInt8)) (c43 : List Int → Option (List UInt8)) (c23 : List Int → List Int → Option Bool) (N : Nat) : LoopF (Sh.bool).T := fun no =>
  match no with
  | _ => fun _ _ => none
theorem e15 (c18 : Option Bool) (c40 : List UInt8 → Option ((List Int) × Int)) (c41 : List UInt8 → Option ((List Int) × Int)) (c42 : List Int → Option (List UInt8)) (c43 : List Int → Option (List UInt8)) (c23 : List Int → List Int → Option Bool) (N : Nat) (a0 : List Int) (a1 : List UInt8) : evc (T15 c18 c40 c41 c42 c43 c23) (rawOf (RW15 c18 c40 c41 c42 c43 c23)) (W15 c18 c40 c41 c42 c43 c23 N) (retc k15.res Sh.bool) (modeOf FT) 0 fuelC k15.body (env0 k15 (encL [(Sh.sl (Sh.int .u8)), Sh.str] (a0, (a1, ()))), []) (endK (retc k15.res Sh.bool)) = p15 c18 c40 c41 c42 c43 c23 N a0 a1 := by kernel_rfl
theorem ok15 (c18 : Option Bool) (c40 : List UInt8 → Option ((List Int) × Int)) (c41 : List UInt8 → Option ((List Int) × Int)) (c42 : List Int → Option (List UInt8)) (c43 : List Int → Option (List UInt8)) (c23 : List Int → List Int → Option Bool) (h18 : EntOK FT XT 18 (en18 c18)) (h40 : EntOK FT XT 40 (en40 c40)) (h41 : EntOK FT XT 41 (en41 c41)) (h42 : EntOK FT XT 42 (en42 c42)) (h43 : EntOK FT XT 43 (en43 c43)) (h23 : EntOK FT XT 23 (en23 c23)) {f : List Int → List UInt8 → Option Bool} (hf : ∀ a0 a1 r, f a0 a1 = some r → ∃ N, p15 c18 c40 c41 c42 c43 c23 N a0 a1 = some r) : EntOK FT XT 15 (en15 f) := by
  have hT : TabOK FT XT (T15 c18 c40 c41 c42 c43 c23) := by
    intro g en hg
    unfold T15 at hg
    split at hg <;> first | (injection hg with hg; subst hg; assumption) | cases hg
  have hO0 : RawOK FT XT (rawOf (α := (Sh.bool).T) (RW15 c18 c40 c41 c42 c43 c23)) := by
    refine rawOf_ok (fun g en hg => ?_)
    unfold RW15 at hg
    split at hg <;> simp only [List.mem_cons, List.not_mem_nil, or_false] at hg <;> first | (subst hg; assumption) | (rcases hg with rfl | rfl <;> assumption) | (rcases hg with rfl | rfl | rfl <;> assumption) | (rcases hg with rfl | rfl | rfl | rfl <;> assumption)
  have hO : RawOK FT XT (rawOf (α := (Sh.bool).T) (RW15 c18 c40 c41 c42 c43 c23)) := hO0
  refine ⟨rfl, fun v r h => ?_⟩
  obtain ⟨a0, a1, _⟩ := v
  obtain ⟨N, h1⟩ := hf _ _ _ h
  exact ans_c (R := Sh.bool) (tab := T15 c18 c40 c41 c42 c43 c23) (raw := (rawOf (RW15 c18 c40 c41 c42 c43 c23))) (LP := W15 c18 c40 c41 c42 c43 c23 N) (fu := fuelC) hT hO rfl rfl (Nat.le_of_ble_eq_true rfl) loopOK_nil ((e15 c18 c40 c41 c42 c43 c23 N _ _).trans h1)

def T44 (c61 : List Int → Option (List Int)) : Nat → Option Ent
  | 61 => some (en61 c61)
  | _ => none
def RW44 (c61 : List Int → Option (List Int)) : Nat → List REnt
  | _ => []
def H44_0 : Trim := ⟨0, [], false, [6, 16, 17, 18], []⟩
theorem l44_0 : loopN k44 0 = .loop H44_0 (bodyOf (loopN k44 0)) := by kernel_rfl
def P44_0 : Ps := ⟨[(0, .u), (1, .u), (4, .u), (5, .u), (6, (.sl 0 1)), (7, .u), (8, .u), (13, .u), (16, (.tb (Sh.int .u8))), (17, (.int .i64)), (18, (.int .i64)), (19, .u)], [(.ints false .u8)]⟩
def Q44_0 : Nat → Ps
  | 0 => ⟨[(0, .u), (1, .u), (4, .u), (5, .u), (6, (.sl 0 1)), (7, .u), (8, .u), (13, .u), (16, .u), (17, .u), (18, .u), (19, .u)], [(.ints false .u8)]⟩
  | _ => noPs
def u44_0 (c61 : List Int → Option (List Int)) (N n : Nat) (v : P44_0.T) (κ : (i : Nat) → (Q44_0 i).T → Option (((Sh.tu (Sh.pr (Sh.sl (Sh.int .u8)) (Sh.int .i64)))).T)) : Option (((Sh.tu (Sh.pr (Sh.sl (Sh.int .u8)) (Sh.int .i64)))).T) :=
  L44_0 c61 N (fun (y0 : Nat) (y1 : List Int) => κ 0 (((), ((), ((), ((), (y0, ((), ((), ((), ((), ((), ((), ((), ())))))))))))), (y1, ()))) n v.1.2.2.2.2.1 v.1.2.2.2.2.2.2.2.2.1 v.1.2.2.2.2.2.2.2.2.2.1 v.1.2.2.2.2.2.2.2.2.2.2.1 v.2.1
def W44_0 (c61 : List Int → Option (List Int)) (N : Nat) : LoopF (((Sh.tu (Sh.pr (Sh.sl (Sh.int .u8)) (Sh.int .i64)))).T) := fun no =>
  match no with
  | _ => fun _ _ => none
theorem b44_0 (c61 : List Int → Option (List Int)) (N n : Nat) (v : P44_0.T) (κ : (i : Nat) → (Q44_0 i).T → Option (((Sh.tu (Sh.pr (Sh.sl (Sh.int .u8)) (Sh.int .i64)))).T)) :
    evc (T44 c61) (rawOf (RW44 c61)) (W44_0 c61 N) (retc k44.res (Sh.tu (Sh.pr (Sh.sl (Sh.int .u8)) (Sh.int .i64)))) (modeOf FT) 0 fuelC (bodyOf (loopN k44 0)) (P44_0.st v) (roundK 0 H44_0 P44_0 Q44_0 (u44_0 c61 N n) κ) = u44_0 c61 N (n + 1) v κ := by kernel_rfl
theorem o44_0 (c61 : List Int → Option (List Int)) (hT : TabOK FT XT (T44 c61)) (hO : RawOK FT XT (rawOf (α := ((Sh.tu (Sh.pr (Sh.sl (Sh.int .u8)) (Sh.int .i64)))).T) (RW44 c61))) (N : Nat) {s : St} {κ : Ex → St → Option (((Sh.tu (Sh.pr (Sh.sl (Sh.int .u8)) (Sh.int .i64)))).T)} {a : ((Sh.tu (Sh.pr (Sh.sl (Sh.int .u8)) (Sh.int .i64)))).T} (h : lpOf 0 H44_0 P44_0 Q44_0 (u44_0 c61 N N) s κ = some a) : Out FT XT 0 (retc k44.res (Sh.tu (Sh.pr (Sh.sl (Sh.int .u8)) (Sh.int .i64)))) (loopN k44 0) s κ a := by
  rw [l44_0]
  exact loop_out (LP := W44_0 c61 N) (fu := fuelC) hT hO (fun _ _ => rfl) (b44_0 c61 N) loopOK_nil N h
def W44 (c61 : List Int → Option (List Int)) (N : Nat) : LoopF (((Sh.tu (Sh.pr (Sh.sl (Sh.int .u8)) (Sh.int .i64)))).T) := fun no =>
  match no with
  | 0 => lpOf 0 H44_0 P44_0 Q44_0 (u44_0 c61 N N)
  | _ => fun _ _ => none
theorem e44 (c61 : List Int → Option (List Int)) (N : Nat) (a0 : List Int) (a1 : List Int) : evc (T44 c61) (rawOf (RW44 c61)) (W44 c61 N) (retc k44.res (Sh.tu (Sh.pr (Sh.sl (Sh.int .u8)) (Sh.int .i64)))) (modeOf FT) 0 fuelC k44.body (env0 k44 (encL [(Sh.sl (Sh.int .u8)), (Sh.sl (Sh.int .u8))] (a0, (a1, ()))), []) (endK (retc k44.res (Sh.tu (Sh.pr (Sh.sl (Sh.int .u8)) (Sh.int .i64))))) = p44 c61 N a0 a1 := by kernel_rfl
theorem ok44 (c61 : List Int → Option (List Int)) (h61 : EntOK FT XT 61 (en61 c61)) {f : List Int → List Int → Option ((List Int) × Int)} (hf : ∀ a0 a1 r, f a0 a1 = some r → ∃ N, p44 c61 N a0 a1 = some r) : EntOK FT XT 44 (en44 f) := by
  have hT : TabOK FT XT (T44 c61) := by
    intro g en hg
    unfold T44 at hg
    split at hg <;> first | (injection hg with hg; subst hg; assumption) | cases hg
  have hO0 : RawOK FT XT (rawOf (α := ((Sh.tu (Sh.pr (Sh.sl (Sh.int .u8)) (Sh.int .i64)))).T) (RW44 c61)) := by
    refine rawOf_ok (fun g en hg => ?_)
    unfold RW44 at hg
    split at hg <;> simp only [List.mem_cons, List.not_mem_nil, or_false] at hg <;> first | (subst hg; assumption) | (rcases hg with rfl | rfl <;> assumption) | (rcases hg with rfl | rfl | rfl <;> assumption) | (rcases hg with rfl | rfl | rfl | rfl <;> assumption)
  have hO : RawOK FT XT (rawOf (α := ((Sh.tu (Sh.pr (Sh.sl (Sh.int .u8)) (Sh.int .i64)))).T) (RW44 c61)) := hO0
  refine ⟨rfl, fun v r h => ?_⟩
  obtain ⟨a0, a1, _⟩ := v
  obtain ⟨N, h1⟩ := hf _ _ _ h
  exact ans_c (R := (Sh.tu (Sh.pr (Sh.sl (Sh.int .u8)) (Sh.int .i64)))) (tab := T44 c61) (raw := (rawOf (RW44 c61))) (LP := W44 c61 N) (fu := fuelC) hT hO rfl rfl (Nat.le_of_ble_eq_true rfl) (loopOK_cons l44_0 (fun s κ a h => o44_0 c61 hT hO N h) loopOK_nil) ((e44 c61 N _ _).trans h1)

def T45 : Nat → Option Ent
  | _ => none
def RW45 : Nat → List REnt
  | _ => []
def H45_0 : Trim := ⟨0, [], false, [0, 1, 6, 7], []⟩
theorem l45_0 : loopN k45 0 = .loop H45_0 (bodyOf (loopN k45 0)) := by kernel_rfl
def P45_0 : Ps := ⟨[(0, (.tb (Sh.int .u8))), (1, (.tb (Sh.int .u8))), (4, .u), (5, .u), (6, (.slc 0 1)), (7, (.int .i64)), (12, .u), (19, .u)], [(.ints false .u8)]⟩
def Q45_0 : Nat → Ps
  | 0 => ⟨[(0, .u), (1, .u), (4, .u), (5, .u), (6, (.slc 0 1)), (7, .u), (12, .u), (19, .u)], [(.ints false .u8)]⟩
  | _ => noPs
def u45_0 (N n : Nat) (v : P45_0.T) (κ : (i : Nat) → (Q45_0 i).T → Option (((Sh.tu (Sh.pr (Sh.sl (Sh.int .u8)) (Sh.int .i64)))).T)) : Option (((Sh.tu (Sh.pr (Sh.sl (Sh.int .u8)) (Sh.int .i64)))).T) :=
  L45_0 N (fun (y0 : Nat) (y1 : Nat) (y2 : List Int) => κ 0 (((), ((), ((), ((), ((y0, y1), ((), ((), ((), ())))))))), (y2, ()))) n v.1.1 v.1.2.1 v.1.2.2.2.2.1.1 v.1.2.2.2.2.1.2 v.1.2.2.2.2.2.1 v.2.1
def W45_0 (N : Nat) : LoopF (((Sh.tu (Sh.pr (Sh.sl (Sh.int .u8)) (Sh.int .i64)))).T) := fun no =>
  match no with
  | _ => fun _ _ => none
theorem b45_0 (N n : Nat) (v : P45_0.T) (κ : (i : Nat) → (Q45_0 i).T → Option (((Sh.tu (Sh.pr (Sh.sl (Sh.int .u8)) (Sh.int .i64)))).T)) :
    evc (T45) (rawOf (RW45)) (W45_0 N) (retc k45.res (Sh.tu (Sh.pr (Sh.sl (Sh.int .u8)) (Sh.int .i64)))) (modeOf FT) 0 fuelC (bodyOf (loopN k45 0)) (P45_0.st v) (roundK 0 H45_0 P45_0 Q45_0 (u45_0 N n) κ) = u45_0 N (n + 1) v κ := by kernel_rfl
theorem o45_0 (hT : TabOK FT XT (T45)) (hO : RawOK FT XT (rawOf (α := ((Sh.tu (Sh.pr (Sh.sl (Sh.int .u8)) (Sh.int .i64)))).T) (RW45))) (N : Nat) {s : St} {κ : Ex → St → Option (((Sh.tu (Sh.pr (Sh.sl (Sh.int .u8)) (Sh.int .i64)))).T)} {a : ((Sh.tu (Sh.pr (Sh.sl (Sh.int .u8)) (Sh.int .i64)))).T} (h : lpOf 0 H45_0 P45_0 Q45_0 (u45_0 N N) s κ = some a) : Out FT XT 0 (retc k45.res (Sh.tu (Sh.pr (Sh.sl (Sh.int .u8)) (Sh.int .i64)))) (loopN k45 0) s κ a := by
  rw [l45_0]
  exact loop_out (LP := W45_0 N) (fu := fuelC) hT hO (fun _ _ => rfl) (b45_0 N) loopOK_nil N h
def W45 (N : Nat) : LoopF (((Sh.tu (Sh.pr (Sh.sl (Sh.int .u8)) (Sh.int .i64)))).T) := fun no =>
  match no with
  | 0 => lpOf 0 H45_0 P45_0 Q45_0 (u45_0 N N)
  | _ => fun _ _ => none
theorem e45 (N : Nat) (a0 : List Int) (a1 : List Int) : evc (T45) (rawOf (RW45)) (W45 N) (retc k45.res (Sh.tu (Sh.pr (Sh.sl (Sh.int .u8)) (Sh.int .i64)))) (modeOf FT) 0 fuelC k45.body (env0 k45 (encL [(Sh.sl (Sh.int .u8)), (Sh.sl (Sh.int .u8))] (a0, (a1, ()))), []) (endK (retc k45.res (Sh.tu (Sh.pr (Sh.sl (Sh.int .u8)) (Sh.int .i64))))) = p45 N a0 a1 := by kernel_rfl
theorem ok45 {f : List Int → List Int → Option ((List Int) × Int)} (hf : ∀ a0 a1 r, f a0 a1 = some r → ∃ N, p45 N a0 a1 = some r) : EntOK FT XT 45 (en45 f) := by
  have hT : TabOK FT XT (T45) := by
    intro g en hg
    unfold T45 at hg
    split at hg <;> first | (injection hg with hg; subst hg; assumption) | cases hg
  have hO0 : RawOK FT XT (rawOf (α := ((Sh.tu (Sh.pr (Sh.sl (Sh.int .u8)) (Sh.int .i64)))).T) (RW45)) := by
    refine rawOf_ok (fun g en hg => ?_)
    unfold RW45 at hg
    split at hg <;> simp only [List.mem_cons, List.not_mem_nil, or_false] at hg <;> first | (subst hg; assumption) | (rcases hg with rfl | rfl <;> assumption) | (rcases hg with rfl | rfl | rfl <;> assumption) | (rcases hg with rfl | rfl | rfl | rfl <;> assumption)
  have hO : RawOK FT XT (rawOf (α := ((Sh.tu (Sh.pr (Sh.sl (Sh.int .u8)) (Sh.int .i64)))).T) (RW45)) := hO0
  refine ⟨rfl, fun v r h => ?_⟩
  obtain ⟨a0, a1, _⟩ := v
  obtain ⟨N, h1⟩ := hf _ _ _ h
  exact ans_c (R := (Sh.tu (Sh.pr (Sh.sl (Sh.int .u8)) (Sh.int .i64)))) (tab := T45) (raw := (rawOf (RW45))) (LP := W45 N) (fu := fuelC) hT hO rfl rfl (Nat.le_of_ble_eq_true rfl) (loopOK_cons l45_0 (fun s κ a h => o45_0 hT hO N h) loopOK_nil) ((e45 N _ _).trans h1)

def T46 (c1 : List (List Int) → Option (List Int)) : Nat → Option Ent
  | 1 => some (en1 c1)
  | _ => none
def RW46 (c1 : List (List Int) → Option (List Int)) : Nat → List REnt
  | _ => []
def W46 (c1 : List (List Int) → Option (List Int)) (N : Nat) : LoopF (List Int) := fun no =>
  match no with
  | _ => fun _ _ => none
theorem e46 (c1 : List (List Int) → Option (List Int)) (N : Nat) (a0 : List (List Int)) : evc (T46 c1) (rawOf (RW46 c1)) (W46 c1 N) (reto k46.res .u8) (modeOf FT) 0 fuelC k46.body (env0 k46 (encL [(Sh.sl (Sh.sl (Sh.int .u8)))] (a0, ())), []) (endK (reto k46.res .u8)) = p46 c1 N a0 := by kernel_rfl
theorem ok46 (c1 : List (List Int) → Option (List Int)) (h1 : EntOK FT XT 1 (en1 c1)) {f : List (List Int) → Option (List Int)} (hf : ∀ a0 r, f a0 = some r → ∃ N, p46 c1 N a0 = some r) : EntOK FT XT 46 (en46 f) := by
  have hT : TabOK FT XT (T46 c1) := by
    intro g en hg
    unfold T46 at hg
    split at hg <;> first | (injection hg with hg; subst hg; assumption) | cases hg
  have hO0 : RawOK FT XT (rawOf (α := List Int) (RW46 c1)) := by
    refine rawOf_ok (fun g en hg => ?_)
    unfold RW46 at hg
    split at hg <;> simp only [List.mem_cons, List.not_mem_nil, or_false] at hg <;> first | (subst hg; assumption) | (rcases hg with rfl | rfl <;> assumption) | (rcases hg with rfl | rfl | rfl <;> assumption) | (rcases hg with rfl | rfl | rfl | rfl <;> assumption)
  have hO : RawOK FT XT (rawOf (α := List Int) (RW46 c1)) := hO0
  refine ⟨rfl, fun v r h => ?_⟩
  obtain ⟨a0, _⟩ := v
  obtain ⟨N, h1⟩ := hf _ _ h
  exact ans_o (tab := T46 c1) (raw := (rawOf (RW46 c1))) (LP := W46 c1 N) (fu := fuelC) hT hO rfl rfl (Nat.le_of_ble_eq_true rfl) loopOK_nil ((e46 c1 N _).trans h1)

def T16 (c18 : Option Bool) (c44 : List Int → List Int → Option ((List Int) × Int)) (c45 : List Int → List Int → Option ((List Int) × Int)) (c46 : List (List Int) → Option (List Int)) (c23 : List Int → List Int → Option Bool) (c47 : List Int → List Int → Option Bool) : Nat → Option Ent
  | 18 => some (en18 c18)
  | 44 => some (en44 c44)
  | 45 => some (en45 c45)
  | 46 => some (en46 c46)
  | 23 => some (en23 c23)
  | 47 => some (en47 c47)
  | _ => none
def RW16 (c18 : Option Bool) (c44 : List Int → List Int → Option ((List Int) × Int)) (c45 : List Int → List Int → Option ((List Int) × Int)) (c46 : List (List Int) → Option (List Int)) (c23 : List Int → List Int → Option Bool) (c47 : List Int → List Int → Option Bool) : Nat → List REnt
  | _ => []
def W16 (c18 : Option Bool) (c44 : List Int → List Int → Option ((List Int) × Int)) (c45 : List Int → List Int → Option ((List Int) × Int)) (c46 : List (List Int) → Option (List Int)) (c23 : List Int → List Int → Option Bool) (c47 : List Int → List Int → Option Bool) (N : Nat) : LoopF (Sh.bool).T := fun no =>
  match no with
  | _ => fun _ _ => none
theorem e16 (c18 : Option Bool) (c44 : List Int → List Int → Option ((List Int) × Int)) (c45 : List Int → List Int → Option ((List Int) × Int)) (c46 : List (List Int) → Option (List Int)) (c23 : List Int → List Int → Option Bool) (c47 : List Int → List Int → Option Bool) (N : Nat) (a0 : List Int) (a1 : List Int) : evc (T16 c18 c44 c45 c46 c23 c47) (rawOf (RW16 c18 c44 c45 c46 c23 c47)) (W16 c18 c44 c45 c46 c23 c47 N) (retc k16.res Sh.bool) (modeOf FT) 0 fuelC k16.body (env0 k16 (encL [(Sh.sl (Sh.int .u8)), (Sh.sl (Sh.int .u8))] (a0, (a1, ()))), []) (endK (retc k16.res Sh.bool)) = p16 c18 c44 c45 c46 c23 c47 N a0 a1 := by kernel_rfl
theorem ok16 (c18 : Option Bool) (c44 : List Int → List Int → Option ((List Int) × Int)) (c45 : List Int → List Int → Option ((List Int) × Int)) (c46 : List (List Int) → Option (List Int)) (c23 : List Int → List Int → Option Bool) (c47 : List Int → List Int → Option Bool) (h18 : EntOK FT XT 18 (en18 c18)) (h44 : EntOK FT XT 44 (en44 c44)) (h45 : EntOK FT XT 45 (en45 c45)) (h46 : EntOK FT XT 46 (en46 c46)) (h23 : EntOK FT XT 23 (en23 c23)) (h47 : EntOK FT XT 47 (en47 c47)) {f : List Int → List Int → Option Bool} (hf : ∀ a0 a1 r, f a0 a1 = some r → ∃ N, p16 c18 c44 c45 c46 c23 c47 N a0 a1 = some r) : EntOK FT XT 16 (en16 f) := by
  have hT : TabOK FT XT (T16 c18 c44 c45 c46 c23 c47) := by
    intro g en hg
    unfold T16 at hg
    split at hg <;> first | (injection hg with hg; subst hg; assumption) | cases hg
  have hO0 : RawOK FT XT (rawOf (α := (Sh.bool).T) (RW16 c18 c44 c45 c46 c23 c47)) := by
    refine rawOf_ok (fun g en hg => ?_)
    unfold RW16 at hg
    split at hg <;> simp only [List.mem_cons, List.not_mem_nil, or_false] at hg <;> first | (subst hg; assumption) | (rcases hg with rfl | rfl <;> assumption) | (rcases hg with rfl | rfl | rfl <;> assumption) | (rcases hg with rfl | rfl | rfl | rfl <;> assumption)
  have hO : RawOK FT XT (rawOf (α := (Sh.bool).T) (RW16 c18 c44 c45 c46 c23 c47)) := hO0
  refine ⟨rfl, fun v r h => ?_⟩
  obtain ⟨a0, a1, _⟩ := v
  obtain ⟨N, h1⟩ := hf _ _ _ h
  exact ans_c (R := Sh.bool) (tab := T16 c18 c44 c45 c46 c23 c47) (raw := (rawOf (RW16 c18 c44 c45 c46 c23 c47))) (LP := W16 c18 c44 c45 c46 c23 c47 N) (fu := fuelC) hT hO rfl rfl (Nat.le_of_ble_eq_true rfl) loopOK_nil ((e16 c18 c44 c45 c46 c23 c47 N _ _).trans h1)

def T17 (c18 : Option Bool) (c19 : Int → Int → Bool → Option ((List Int) × Int)) (c21 : List Int → Bool → Option (Int × Int)) (c44 : List Int → List Int → Option ((List Int) × Int)) (c42 : List Int → Option (List UInt8)) (c40 : List UInt8 → Option ((List Int) × Int)) (c23 : List Int → List Int → Option Bool) : Nat → Option Ent
  | 18 => some (en18 c18)
  | 19 => some (en19 c19)
  | 21 => some (en21 c21)
  | 44 => some (en44 c44)
  | 42 => some (en42 c42)
  | 40 => some (en40 c40)
  | 23 => some (en23 c23)
  | _ => none
def RW17 (c18 : Option Bool) (c19 : Int → Int → Bool → Option ((List Int) × Int)) (c21 : List Int → Bool → Option (Int × Int)) (c44 : List Int → List Int → Option ((List Int) × Int)) (c42 : List Int → Option (List UInt8)) (c40 : List UInt8 → Option ((List Int) × Int)) (c23 : List Int → List Int → Option Bool) : Nat → List REnt
  | _ => []
def W17 (c18 : Option Bool) (c19 : Int → Int → Bool → Option ((List Int) × Int)) (c21 : List Int → Bool → Option (Int × Int)) (c44 : List Int → List Int → Option ((List Int) × Int)) (c42 : List Int → Option (List UInt8)) (c40 : List UInt8 → Option ((List Int) × Int)) (c23 : List Int → List Int → Option Bool) (N : Nat) : LoopF (Sh.bool).T := fun no =>
  match no with
  | _ => fun _ _ => none
theorem e17 (c18 : Option Bool) (c19 : Int → Int → Bool → Option ((List Int) × Int)) (c21 : List Int → Bool → Option (Int × Int)) (c44 : List Int → List Int → Option ((List Int) × Int)) (c42 : List Int → Option (List UInt8)) (c40 : List UInt8 → Option ((List Int) × Int)) (c23 : List Int → List Int → Option Bool) (N : Nat) (a0 : Int) (a1 : Int) (a2 : (List Int) × (List Int)) : evc (T17 c18 c19 c21 c44 c42 c40 c23) (rawOf (RW17 c18 c19 c21 c44 c42 c40 c23)) (W17 c18 c19 c21 c44 c42 c40 c23 N) (retc k17.res Sh.bool) (modeOf FT) 0 fuelC k17.body (env0 k17 (encL [(Sh.int .u64), (Sh.int .i64), (Sh.st (Sh.pr (Sh.sl (Sh.int .u8)) (Sh.sl (Sh.int .u8))))] (a0, (a1, (a2, ())))), []) (endK (retc k17.res Sh.bool)) = p17 c18 c19 c21 c44 c42 c40 c23 N a0 a1 a2 := by kernel_rfl
theorem ok17 (c18 : Option Bool) (c19 : Int → Int → Bool → Option ((List Int) × Int)) (c21 : List Int → Bool → Option (Int × Int)) (c44 : List Int → List Int → Option ((List Int) × Int)) (c42 : List Int → Option (List UInt8)) (c40 : List UInt8 → Option ((List Int) × Int)) (c23 : List Int → List Int → Option Bool) (h18 : EntOK FT XT 18 (en18 c18)) (h19 : EntOK FT XT 19 (en19 c19)) (h21 : EntOK FT XT 21 (en21 c21)) (h44 : EntOK FT XT 44 (en44 c44)) (h42 : EntOK FT XT 42 (en42 c42)) (h40 : EntOK FT XT 40 (en40 c40)) (h23 : EntOK FT XT 23 (en23 c23)) {f : Int → Int → (List Int) × (List Int) → Option Bool} (hf : ∀ a0 a1 a2 r, f a0 a1 a2 = some r → ∃ N, p17 c18 c19 c21 c44 c42 c40 c23 N a0 a1 a2 = some r) : EntOK FT XT 17 (en17 f) := by
  have hT : TabOK FT XT (T17 c18 c19 c21 c44 c42 c40 c23) := by
    intro g en hg
    unfold T17 at hg
    split at hg <;> first | (injection hg with hg; subst hg; assumption) | cases hg
  have hO0 : RawOK FT XT (rawOf (α := (Sh.bool).T) (RW17 c18 c19 c21 c44 c42 c40 c23)) := by
    refine rawOf_ok (fun g en hg => ?_)
    unfold RW17 at hg
    split at hg <;> simp only [List.mem_cons, List.not_mem_nil, or_false] at hg <;> first | (subst hg; assumption) | (rcases hg with rfl | rfl <;> assumption) | (rcases hg with rfl | rfl | rfl <;> assumption) | (rcases hg with rfl | rfl | rfl | rfl <;> assumption)
  have hO : RawOK FT XT (rawOf (α := (Sh.bool).T) (RW17 c18 c19 c21 c44 c42 c40 c23)) := hO0
  refine ⟨rfl, fun v r h => ?_⟩
  obtain ⟨a0, a1, a2, _⟩ := v
  obtain ⟨N, h1⟩ := hf _ _ _ _ h
  exact ans_c (R := Sh.bool) (tab := T17 c18 c19 c21 c44 c42 c40 c23) (raw := (rawOf (RW17 c18 c19 c21 c44 c42 c40 c23))) (LP := W17 c18 c19 c21 c44 c42 c40 c23 N) (fu := fuelC) hT hO rfl rfl (Nat.le_of_ble_eq_true rfl) loopOK_nil ((e17 c18 c19 c21 c44 c42 c40 c23 N _ _ _).trans h1)

def T50 : Nat → Option Ent
  | _ => none
def RW50 : Nat → List REnt
  | _ => []
def H50_0 : Trim := ⟨0, [], false, [0, 5, 6], []⟩
theorem l50_0 : loopN k50 0 = .loop H50_0 (bodyOf (loopN k50 0)) := by kernel_rfl
def P50_0 : Ps := ⟨[(0, (.int .u64)), (1, .u), (4, .u), (5, (.slc 0 1)), (6, (.int .i64)), (12, .u)], [(.ints false .u8)]⟩
def Q50_0 : Nat → Ps
  | 0 => ⟨[(0, .u), (1, .u), (4, .u), (5, (.slc 0 1)), (6, .u), (12, .u)], [(.ints false .u8)]⟩
  | _ => noPs
def u50_0 (N n : Nat) (v : P50_0.T) (κ : (i : Nat) → (Q50_0 i).T → Option (((Sh.sl (Sh.int .u8))).T)) : Option (((Sh.sl (Sh.int .u8))).T) :=
  L50_0 N (fun (y0 : Nat) (y1 : Nat) (y2 : List Int) => κ 0 (((), ((), ((), ((y0, y1), ((), ((), ())))))), (y2, ()))) n v.1.1 v.1.2.2.2.1.1 v.1.2.2.2.1.2 v.1.2.2.2.2.1 v.2.1
def W50_0 (N : Nat) : LoopF (((Sh.sl (Sh.int .u8))).T) := fun no =>
  match no with
  | _ => fun _ _ => none
theorem b50_0 (N n : Nat) (v : P50_0.T) (κ : (i : Nat) → (Q50_0 i).T → Option (((Sh.sl (Sh.int .u8))).T)) :
    evc (T50) (rawOf (RW50)) (W50_0 N) (retc k50.res (Sh.sl (Sh.int .u8))) (modeOf FT) 0 fuelC (bodyOf (loopN k50 0)) (P50_0.st v) (roundK 0 H50_0 P50_0 Q50_0 (u50_0 N n) κ) = u50_0 N (n + 1) v κ := by kernel_rfl
theorem o50_0 (hT : TabOK FT XT (T50)) (hO : RawOK FT XT (rawOf (α := ((Sh.sl (Sh.int .u8))).T) (RW50))) (N : Nat) {s : St} {κ : Ex → St → Option (((Sh.sl (Sh.int .u8))).T)} {a : ((Sh.sl (Sh.int .u8))).T} (h : lpOf 0 H50_0 P50_0 Q50_0 (u50_0 N N) s κ = some a) : Out FT XT 0 (retc k50.res (Sh.sl (Sh.int .u8))) (loopN k50 0) s κ a := by
  rw [l50_0]
  exact loop_out (LP := W50_0 N) (fu := fuelC) hT hO (fun _ _ => rfl) (b50_0 N) loopOK_nil N h
def W50 (N : Nat) : LoopF (((Sh.sl (Sh.int .u8))).T) := fun no =>
  match no with
  | 0 => lpOf 0 H50_0 P50_0 Q50_0 (u50_0 N N)
  | _ => fun _ _ => none
theorem e50 (N : Nat) (a0 : Int) (a1 : Int) : evc (T50) (rawOf (RW50)) (W50 N) (retc k50.res (Sh.sl (Sh.int .u8))) (modeOf FT) 0 fuelC k50.body (env0 k50 (encL [(Sh.int .u64), (Sh.int .i64)] (a0, (a1, ()))), []) (endK (retc k50.res (Sh.sl (Sh.int .u8)))) = p50 N a0 a1 := by kernel_rfl
theorem ok50 {f : Int → Int → Option (List Int)} (hf : ∀ a0 a1 r, f a0 a1 = some r → ∃ N, p50 N a0 a1 = some r) : EntOK FT XT 50 (en50 f) := by
  have hT : TabOK FT XT (T50) := by
    intro g en hg
    unfold T50 at hg
    split at hg <;> first | (injection hg with hg; subst hg; assumption) | cases hg
  have hO0 : RawOK FT XT (rawOf (α := ((Sh.sl (Sh.int .u8))).T) (RW50)) := by
    refine rawOf_ok (fun g en hg => ?_)
    unfold RW50 at hg
    split at hg <;> simp only [List.mem_cons, List.not_mem_nil, or_false] at hg <;> first | (subst hg; assumption) | (rcases hg with rfl | rfl <;> assumption) | (rcases hg with rfl | rfl | rfl <;> assumption) | (rcases hg with rfl | rfl | rfl | rfl <;> assumption)
  have hO : RawOK FT XT (rawOf (α := ((Sh.sl (Sh.int .u8))).T) (RW50)) := hO0
  refine ⟨rfl, fun v r h => ?_⟩
  obtain ⟨a0, a1, _⟩ := v
  obtain ⟨N, h1⟩ := hf _ _ _ h
  exact ans_c (R := (Sh.sl (Sh.int .u8))) (tab := T50) (raw := (rawOf (RW50))) (LP := W50 N) (fu := fuelC) hT hO rfl rfl (Nat.le_of_ble_eq_true rfl) (loopOK_cons l50_0 (fun s κ a h => o50_0 hT hO N h) loopOK_nil) ((e50 N _ _).trans h1)

def T51 : Nat → Option Ent
  | _ => none
def RW51 : Nat → List REnt
  | _ => []
def H51_0 : Trim := ⟨0, [], false, [0, 3, 4], []⟩
theorem l51_0 : loopN k51 0 = .loop H51_0 (bodyOf (loopN k51 0)) := by kernel_rfl
def P51_0 : Ps := ⟨[(0, (.tb (Sh.int .u8))), (2, .u), (3, (.int .u64)), (4, (.int .i64)), (8, .u)], []⟩
def Q51_0 : Nat → Ps
  | 0 => ⟨[(0, .u), (2, .u), (3, (.int .u64)), (4, .u), (8, .u)], []⟩
  | _ => noPs
def u51_0 (N n : Nat) (v : P51_0.T) (κ : (i : Nat) → (Q51_0 i).T → Option (((Sh.int .u64)).T)) : Option (((Sh.int .u64)).T) :=
  L51_0 N (fun (y0 : Int) => κ 0 (((), ((), (y0, ((), ((), ()))))), ())) n v.1.1 v.1.2.2.1 v.1.2.2.2.1
def W51_0 (N : Nat) : LoopF (((Sh.int .u64)).T) := fun no =>
  match no with
  | _ => fun _ _ => none
theorem b51_0 (N n : Nat) (v : P51_0.T) (κ : (i : Nat) → (Q51_0 i).T → Option (((Sh.int .u64)).T)) :
    evc (T51) (rawOf (RW51)) (W51_0 N) (retc k51.res (Sh.int .u64)) (modeOf FT) 0 fuelC (bodyOf (loopN k51 0)) (P51_0.st v) (roundK 0 H51_0 P51_0 Q51_0 (u51_0 N n) κ) = u51_0 N (n + 1) v κ := by kernel_rfl
theorem o51_0 (hT : TabOK FT XT (T51)) (hO : RawOK FT XT (rawOf (α := ((Sh.int .u64)).T) (RW51))) (N : Nat) {s : St} {κ : Ex → St → Option (((Sh.int .u64)).T)} {a : ((Sh.int .u64)).T} (h : lpOf 0 H51_0 P51_0 Q51_0 (u51_0 N N) s κ = some a) : Out FT XT 0 (retc k51.res (Sh.int .u64)) (loopN k51 0) s κ a := by
  rw [l51_0]
  exact loop_out (LP := W51_0 N) (fu := fuelC) hT hO (fun _ _ => rfl) (b51_0 N) loopOK_nil N h
def W51 (N : Nat) : LoopF (((Sh.int .u64)).T) := fun no =>
  match no with
  | 0 => lpOf 0 H51_0 P51_0 Q51_0 (u51_0 N N)
  | _ => fun _ _ => none
theorem e51 (N : Nat) (a0 : List Int) : evc (T51) (rawOf (RW51)) (W51 N) (retc k51.res (Sh.int .u64)) (modeOf FT) 0 fuelC k51.body (env0 k51 (encL [(Sh.sl (Sh.int .u8))] (a0, ())), []) (endK (retc k51.res (Sh.int .u64))) = p51 N a0 := by kernel_rfl
theorem ok51 {f : List Int → Option Int} (hf : ∀ a0 r, f a0 = some r → ∃ N, p51 N a0 = some r) : EntOK FT XT 51 (en51 f) := by
  have hT : TabOK FT XT (T51) := by
    intro g en hg
    unfold T51 at hg
    split at hg <;> first | (injection hg with hg; subst hg; assumption) | cases hg
  have hO0 : RawOK FT XT (rawOf (α := ((Sh.int .u64)).T) (RW51)) := by
    refine rawOf_ok (fun g en hg => ?_)
    unfold RW51 at hg
    split at hg <;> simp only [List.mem_cons, List.not_mem_nil, or_false] at hg <;> first | (subst hg; assumption) | (rcases hg with rfl | rfl <;> assumption) | (rcases hg with rfl | rfl | rfl <;> assumption) | (rcases hg with rfl | rfl | rfl | rfl <;> assumption)
  have hO : RawOK FT XT (rawOf (α := ((Sh.int .u64)).T) (RW51)) := hO0
  refine ⟨rfl, fun v r h => ?_⟩
  obtain ⟨a0, _⟩ := v
  obtain ⟨N, h1⟩ := hf _ _ h
  exact ans_c (R := (Sh.int .u64)) (tab := T51) (raw := (rawOf (RW51))) (LP := W51 N) (fu := fuelC) hT hO rfl rfl (Nat.le_of_ble_eq_true rfl) (loopOK_cons l51_0 (fun s κ a h => o51_0 hT hO N h) loopOK_nil) ((e51 N _).trans h1)

def T65 (c66 : List UInt8 → Int → Option Int) : Nat → Option Ent
  | 66 => some (en66 c66)
  | _ => none
def RW65 (c66 : List UInt8 → Int → Option Int) : Nat → List REnt
  | _ => []
def W65 (c66 : List UInt8 → Int → Option Int) (N : Nat) : LoopF (((Sh.int .i64)).T) := fun no =>
  match no with
  | _ => fun _ _ => none
theorem e65 (c66 : List UInt8 → Int → Option Int) (N : Nat) (a0 : List UInt8) (a1 : Int) : evc (T65 c66) (rawOf (RW65 c66)) (W65 c66 N) (retc k65.res (Sh.int .i64)) (modeOf FT) 0 fuelC k65.body (env0 k65 (encL [Sh.str, (Sh.int .u8)] (a0, (a1, ()))), []) (endK (retc k65.res (Sh.int .i64))) = p65 c66 N a0 a1 := by kernel_rfl
theorem ok65 (c66 : List UInt8 → Int → Option Int) (h66 : EntOK FT XT 66 (en66 c66)) {f : List UInt8 → Int → Option Int} (hf : ∀ a0 a1 r, f a0 a1 = some r → ∃ N, p65 c66 N a0 a1 = some r) : EntOK FT XT 65 (en65 f) := by
  have hT : TabOK FT XT (T65 c66) := by
    intro g en hg
    unfold T65 at hg
    split at hg <;> first | (injection hg with hg; subst hg; assumption) | cases hg
  have hO0 : RawOK FT XT (rawOf (α := ((Sh.int .i64)).T) (RW65 c66)) := by
    refine rawOf_ok (fun g en hg => ?_)
    unfold RW65 at hg
    split at hg <;> simp only [List.mem_cons, List.not_mem_nil, or_false] at hg <;> first | (subst hg; assumption) | (rcases hg with rfl | rfl <;> assumption) | (rcases hg with rfl | rfl | rfl <;> assumption) | (rcases hg with rfl | rfl | rfl | rfl <;> assumption)
  have hO : RawOK FT XT (rawOf (α := ((Sh.int .i64)).T) (RW65 c66)) := hO0
  refine ⟨rfl, fun v r h => ?_⟩
  obtain ⟨a0, a1, _⟩ := v
  obtain ⟨N, h1⟩ := hf _ _ _ h
  exact ans_c (R := (Sh.int .i64)) (tab := T65 c66) (raw := (rawOf (RW65 c66))) (LP := W65 c66 N) (fu := fuelC) hT hO rfl rfl (Nat.le_of_ble_eq_true rfl) loopOK_nil ((e65 c66 N _ _).trans h1)

def T63 (c65 : List UInt8 → Int → Option Int) : Nat → Option Ent
  | 65 => some (en65 c65)
  | _ => none
def RW63 (c65 : List UInt8 → Int → Option Int) : Nat → List REnt
  | _ => []
def W63 (c65 : List UInt8 → Int → Option Int) (N : Nat) : LoopF (((Sh.int .i64)).T) := fun no =>
  match no with
  | _ => fun _ _ => none
theorem e63 (c65 : List UInt8 → Int → Option Int) (N : Nat) (a0 : List UInt8) (a1 : Int) : evc (T63 c65) (rawOf (RW63 c65)) (W63 c65 N) (retc k63.res (Sh.int .i64)) (modeOf FT) 0 fuelC k63.body (env0 k63 (encL [Sh.str, (Sh.int .u8)] (a0, (a1, ()))), []) (endK (retc k63.res (Sh.int .i64))) = p63 c65 N a0 a1 := by kernel_rfl
theorem ok63 (c65 : List UInt8 → Int → Option Int) (h65 : EntOK FT XT 65 (en65 c65)) {f : List UInt8 → Int → Option Int} (hf : ∀ a0 a1 r, f a0 a1 = some r → ∃ N, p63 c65 N a0 a1 = some r) : EntOK FT XT 63 (en63 f) := by
  have hT : TabOK FT XT (T63 c65) := by
    intro g en hg
    unfold T63 at hg
    split at hg <;> first | (injection hg with hg; subst hg; assumption) | cases hg
  have hO0 : RawOK FT XT (rawOf (α := ((Sh.int .i64)).T) (RW63 c65)) := by
    refine rawOf_ok (fun g en hg => ?_)
    unfold RW63 at hg
    split at hg <;> simp only [List.mem_cons, List.not_mem_nil, or_false] at hg <;> first | (subst hg; assumption) | (rcases hg with rfl | rfl <;> assumption) | (rcases hg with rfl | rfl | rfl <;> assumption) | (rcases hg with rfl | rfl | rfl | rfl <;> assumption)
  have hO : RawOK FT XT (rawOf (α := ((Sh.int .i64)).T) (RW63 c65)) := hO0
  refine ⟨rfl, fun v r h => ?_⟩
  obtain ⟨a0, a1, _⟩ := v
  obtain ⟨N, h1⟩ := hf _ _ _ h
  exact ans_c (R := (Sh.int .i64)) (tab := T63 c65) (raw := (rawOf (RW63 c65))) (LP := W63 c65 N) (fu := fuelC) hT hO rfl rfl (Nat.le_of_ble_eq_true rfl) loopOK_nil ((e63 c65 N _ _).trans h1)

def T59 (c63 : List UInt8 → Int → Option Int) : Nat → Option Ent
  | 63 => some (en63 c63)
  | _ => none
def RW59 (c63 : List UInt8 → Int → Option Int) : Nat → List REnt
  | _ => []
def W59 (c63 : List UInt8 → Int → Option Int) (N : Nat) : LoopF (((Sh.int .i64)).T) := fun no =>
  match no with
  | _ => fun _ _ => none
theorem e59 (c63 : List UInt8 → Int → Option Int) (N : Nat) (a0 : Int) : evc (T59 c63) (rawOf (RW59 c63)) (W59 c63 N) (retc k59.res (Sh.int .i64)) (modeOf FT) 0 fuelC k59.body (env0 k59 (encL [(Sh.int .u8)] (a0, ())), []) (endK (retc k59.res (Sh.int .i64))) = p59 c63 N a0 := by kernel_rfl
theorem ok59 (c63 : List UInt8 → Int → Option Int) (h63 : EntOK FT XT 63 (en63 c63)) {f : Int → Option Int} (hf : ∀ a0 r, f a0 = some r → ∃ N, p59 c63 N a0 = some r) : EntOK FT XT 59 (en59 f) := by
  have hT : TabOK FT XT (T59 c63) := by
    intro g en hg
    unfold T59 at hg
    split at hg <;> first | (injection hg with hg; subst hg; assumption) | cases hg
  have hO0 : RawOK FT XT (rawOf (α := ((Sh.int .i64)).T) (RW59 c63)) := by
    refine rawOf_ok (fun g en hg => ?_)
    unfold RW59 at hg
    split at hg <;> simp only [List.mem_cons, List.not_mem_nil, or_false] at hg <;> first | (subst hg; assumption) | (rcases hg with rfl | rfl <;> assumption) | (rcases hg with rfl | rfl | rfl <;> assumption) | (rcases hg with rfl | rfl | rfl | rfl <;> assumption)
  have hO : RawOK FT XT (rawOf (α := ((Sh.int .i64)).T) (RW59 c63)) := hO0
  refine ⟨rfl, fun v r h => ?_⟩
  obtain ⟨a0, _⟩ := v
  obtain ⟨N, h1⟩ := hf _ _ h
  exact ans_c (R := (Sh.int .i64)) (tab := T59 c63) (raw := (rawOf (RW59 c63))) (LP := W59 c63 N) (fu := fuelC) hT hO rfl rfl (Nat.le_of_ble_eq_true rfl) loopOK_nil ((e59 c63 N _).trans h1)

def T132 : Nat → Option Ent
  | _ => none
def RW132 : Nat → List REnt
  | _ => []
def W132 (N : Nat) : LoopF (Sh.bool).T := fun no =>
  match no with
  | _ => fun _ _ => none
theorem e132 (N : Nat) (a0 : Int) : evc (T132) (rawOf (RW132)) (W132 N) (retc k132.res Sh.bool) (modeOf FT) 0 fuelC k132.body (env0 k132 (encL [(Sh.int .u16)] (a0, ())), []) (endK (retc k132.res Sh.bool)) = p132 N a0 := by kernel_rfl
theorem ok132 {f : Int → Option Bool} (hf : ∀ a0 r, f a0 = some r → ∃ N, p132 N a0 = some r) : EntOK FT XT 132 (en132 f) := by
  have hT : TabOK FT XT (T132) := by
    intro g en hg
    unfold T132 at hg
    split at hg <;> first | (injection hg with hg; subst hg; assumption) | cases hg
  have hO0 : RawOK FT XT (rawOf (α := (Sh.bool).T) (RW132)) := by
    refine rawOf_ok (fun g en hg => ?_)
    unfold RW132 at hg
    split at hg <;> simp only [List.mem_cons, List.not_mem_nil, or_false] at hg <;> first | (subst hg; assumption) | (rcases hg with rfl | rfl <;> assumption) | (rcases hg with rfl | rfl | rfl <;> assumption) | (rcases hg with rfl | rfl | rfl | rfl <;> assumption)
  have hO : RawOK FT XT (rawOf (α := (Sh.bool).T) (RW132)) := hO0
  refine ⟨rfl, fun v r h => ?_⟩
  obtain ⟨a0, _⟩ := v
  obtain ⟨N, h1⟩ := hf _ _ h
  exact ans_c (R := Sh.bool) (tab := T132) (raw := (rawOf (RW132))) (LP := W132 N) (fu := fuelC) hT hO rfl rfl (Nat.le_of_ble_eq_true rfl) loopOK_nil ((e132 N _).trans h1)

def T128 (c132 : Int → Option Bool) (c19 : Int → Int → Bool → Option ((List Int) × Int)) (c46 : List (List Int) → Option (List Int)) : Nat → Option Ent
  | 132 => some (en132 c132)
  | 19 => some (en19 c19)
  | 46 => some (en46 c46)
  | _ => none
def RW128 (c132 : Int → Option Bool) (c19 : Int → Int → Bool → Option ((List Int) × Int)) (c46 : List (List Int) → Option (List Int)) : Nat → List REnt
  | _ => []
def W128 (c132 : Int → Option Bool) (c19 : Int → Int → Bool → Option ((List Int) × Int)) (c46 : List (List Int) → Option (List Int)) (N : Nat) : LoopF (((Sh.tu (Sh.pr (Sh.sl (Sh.int .u8)) (Sh.int .i64)))).T) := fun no =>
  match no with
  | _ => fun _ _ => none
theorem e128 (c132 : Int → Option Bool) (c19 : Int → Int → Bool → Option ((List Int) × Int)) (c46 : List (List Int) → Option (List Int)) (N : Nat) (a0 : Int × (List Int)) (a1 : Bool) (a2 : Bool) : evc (T128 c132 c19 c46) (rawOf (RW128 c132 c19 c46)) (W128 c132 c19 c46 N) (retc k128.res (Sh.tu (Sh.pr (Sh.sl (Sh.int .u8)) (Sh.int .i64)))) (modeOf FT) 0 fuelC k128.body (env0 k128 (encL [(Sh.st (Sh.pr (Sh.int .u16) (Sh.sl (Sh.int .u8)))), Sh.bool, Sh.bool] (a0, (a1, (a2, ())))), []) (endK (retc k128.res (Sh.tu (Sh.pr (Sh.sl (Sh.int .u8)) (Sh.int .i64))))) = p128 c132 c19 c46 N a0 a1 a2 := by kernel_rfl
theorem ok128 (c132 : Int → Option Bool) (c19 : Int → Int → Bool → Option ((List Int) × Int)) (c46 : List (List Int) → Option (List Int)) (h132 : EntOK FT XT 132 (en132 c132)) (h19 : EntOK FT XT 19 (en19 c19)) (h46 : EntOK FT XT 46 (en46 c46)) {f : Int × (List Int) → Bool → Bool → Option ((List Int) × Int)} (hf : ∀ a0 a1 a2 r, f a0 a1 a2 = some r → ∃ N, p128 c132 c19 c46 N a0 a1 a2 = some r) : EntOK FT XT 128 (en128 f) := by
  have hT : TabOK FT XT (T128 c132 c19 c46) := by
    intro g en hg
    unfold T128 at hg
    split at hg <;> first | (injection hg with hg; subst hg; assumption) | cases hg
  have hO0 : RawOK FT XT (rawOf (α := ((Sh.tu (Sh.pr (Sh.sl (Sh.int .u8)) (Sh.int .i64)))).T) (RW128 c132 c19 c46)) := by
    refine rawOf_ok (fun g en hg => ?_)
    unfold RW128 at hg
    split at hg <;> simp only [List.mem_cons, List.not_mem_nil, or_false] at hg <;> first | (subst hg; assumption) | (rcases hg with rfl | rfl <;> assumption) | (rcases hg with rfl | rfl | rfl <;> assumption) | (rcases hg with rfl | rfl | rfl | rfl <;> assumption)
  have hO : RawOK FT XT (rawOf (α := ((Sh.tu (Sh.pr (Sh.sl (Sh.int .u8)) (Sh.int .i64)))).T) (RW128 c132 c19 c46)) := hO0
  refine ⟨rfl, fun v r h => ?_⟩
  obtain ⟨a0, a1, a2, _⟩ := v
  obtain ⟨N, h1⟩ := hf _ _ _ _ h
  exact ans_c (R := (Sh.tu (Sh.pr (Sh.sl (Sh.int .u8)) (Sh.int .i64)))) (tab := T128 c132 c19 c46) (raw := (rawOf (RW128 c132 c19 c46))) (LP := W128 c132 c19 c46 N) (fu := fuelC) hT hO rfl rfl (Nat.le_of_ble_eq_true rfl) loopOK_nil ((e128 c132 c19 c46 N _ _ _).trans h1)

def T160 : Nat → Option Ent
  | _ => none
def RW160 : Nat → List REnt
  | _ => []
def W160 (N : Nat) : LoopF (Sh.bool).T := fun no =>
  match no with
  | _ => fun _ _ => none
theorem e160 (N : Nat) (a0 : List Int) (a1 : List Int) : evc (T160) (rawOf (RW160)) (W160 N) (retc k160.res Sh.bool) (modeOf FT) 0 fuelC k160.body (env0 k160 (encL [(Sh.sl (Sh.int .u8)), (Sh.sl (Sh.int .u8))] (a0, (a1, ()))), []) (endK (retc k160.res Sh.bool)) = p160 N a0 a1 := by kernel_rfl
theorem ok160 {f : List Int → List Int → Option Bool} (hf : ∀ a0 a1 r, f a0 a1 = some r → ∃ N, p160 N a0 a1 = some r) : EntOK FT XT 160 (en160 f) := by
  have hT : TabOK FT XT (T160) := by
    intro g en hg
    unfold T160 at hg
    split at hg <;> first | (injection hg with hg; subst hg; assumption) | cases hg
  have hO0 : RawOK FT XT (rawOf (α := (Sh.bool).T) (RW160)) := by
    refine rawOf_ok (fun g en hg => ?_)
    unfold RW160 at hg
    split at hg <;> simp only [List.mem_cons, List.not_mem_nil, or_false] at hg <;> first | (subst hg; assumption) | (rcases hg with rfl | rfl <;> assumption) | (rcases hg with rfl | rfl | rfl <;> assumption) | (rcases hg with rfl | rfl | rfl | rfl <;> assumption)
  have hO : RawOK FT XT (rawOf (α := (Sh.bool).T) (RW160)) := hO0
  refine ⟨rfl, fun v r h => ?_⟩
  obtain ⟨a0, a1, _⟩ := v
  obtain ⟨N, h1⟩ := hf _ _ _ h
  exact ans_c (R := Sh.bool) (tab := T160) (raw := (rawOf (RW160))) (LP := W160 N) (fu := fuelC) hT hO rfl rfl (Nat.le_of_ble_eq_true rfl) loopOK_nil ((e160 N _ _).trans h1)

def T164 (c160 : List Int → List Int → Option Bool) : Nat → Option Ent
  | 160 => some (en160 c160)
  | _ => none
def RW164 (c160 : List Int → List Int → Option Bool) : Nat → List REnt
  | _ => []
def W164 (c160 : List Int → List Int → Option Bool) (N : Nat) : LoopF (Sh.bool).T := fun no =>
  match no with
  | _ => fun _ _ => none
theorem e164 (c160 : List Int → List Int → Option Bool) (N : Nat) (a0 : List Int) (a1 : List Int) : evc (T164 c160) (rawOf (RW164 c160)) (W164 c160 N) (retc k164.res Sh.bool) (modeOf FT) 0 fuelC k164.body (env0 k164 (encL [(Sh.sl (Sh.int .u8)), (Sh.sl (Sh.int .u8))] (a0, (a1, ()))), []) (endK (retc k164.res Sh.bool)) = p164 c160 N a0 a1 := by kernel_rfl
theorem ok164 (c160 : List Int → List Int → Option Bool) (h160 : EntOK FT XT 160 (en160 c160)) {f : List Int → List Int → Option Bool} (hf : ∀ a0 a1 r, f a0 a1 = some r → ∃ N, p164 c160 N a0 a1 = some r) : EntOK FT XT 164 (en164 f) := by
  have hT : TabOK FT XT (T164 c160) := by
    intro g en hg
    unfold T164 at hg
    split at hg <;> first | (injection hg with hg; subst hg; assumption) | cases hg
  have hO0 : RawOK FT XT (rawOf (α := (Sh.bool).T) (RW164 c160)) := by
    refine rawOf_ok (fun g en hg => ?_)
    unfold RW164 at hg
    split at hg <;> simp only [List.mem_cons, List.not_mem_nil, or_false] at hg <;> first | (subst hg; assumption) | (rcases hg with rfl | rfl <;> assumption) | (rcases hg with rfl | rfl | rfl <;> assumption) | (rcases hg with rfl | rfl | rfl | rfl <;> assumption)
  have hO : RawOK FT XT (rawOf (α := (Sh.bool).T) (RW164 c160)) := hO0
  refine ⟨rfl, fun v r h => ?_⟩
  obtain ⟨a0, a1, _⟩ := v
  obtain ⟨N, h1⟩ := hf _ _ _ h
  exact ans_c (R := Sh.bool) (tab := T164 c160) (raw := (rawOf (RW164 c160))) (LP := W164 c160 N) (fu := fuelC) hT hO rfl rfl (Nat.le_of_ble_eq_true rfl) loopOK_nil ((e164 c160 N _ _).trans h1)

def T159 (c164 : List Int → List Int → Option Bool) : Nat → Option Ent
  | 164 => some (en164 c164)
  | _ => none
def RW159 (c164 : List Int → List Int → Option Bool) : Nat → List REnt
  | _ => []
def W159 (c164 : List Int → List Int → Option Bool) (N : Nat) : LoopF (((Sh.sl (Sh.int .u8))).T) := fun no =>
  match no with
  | _ => fun _ _ => none
theorem e159 (c164 : List Int → List Int → Option Bool) (N : Nat) (a0 : List Int) (a1 : List Int) : evc (T159 c164) (rawOf (RW159 c164)) (W159 c164 N) (retc k159.res (Sh.sl (Sh.int .u8))) (modeOf FT) 0 fuelC k159.body (env0 k159 (encL [(Sh.sl (Sh.int .u8)), (Sh.sl (Sh.int .u8))] (a0, (a1, ()))), []) (endK (retc k159.res (Sh.sl (Sh.int .u8)))) = p159 c164 N a0 a1 := by kernel_rfl
theorem ok159 (c164 : List Int → List Int → Option Bool) (h164 : EntOK FT XT 164 (en164 c164)) {f : List Int → List Int → Option (List Int)} (hf : ∀ a0 a1 r, f a0 a1 = some r → ∃ N, p159 c164 N a0 a1 = some r) : EntOK FT XT 159 (en159 f) := by
  have hT : TabOK FT XT (T159 c164) := by
    intro g en hg
    unfold T159 at hg
    split at hg <;> first | (injection hg with hg; subst hg; assumption) | cases hg
  have hO0 : RawOK FT XT (rawOf (α := ((Sh.sl (Sh.int .u8))).T) (RW159 c164)) := by
    refine rawOf_ok (fun g en hg => ?_)
    unfold RW159 at hg
    split at hg <;> simp only [List.mem_cons, List.not_mem_nil, or_false] at hg <;> first | (subst hg; assumption) | (rcases hg with rfl | rfl <;> assumption) | (rcases hg with rfl | rfl | rfl <;> assumption) | (rcases hg with rfl | rfl | rfl | rfl <;> assumption)
  have hO : RawOK FT XT (rawOf (α := ((Sh.sl (Sh.int .u8))).T) (RW159 c164)) := hO0
  refine ⟨rfl, fun v r h => ?_⟩
  obtain ⟨a0, a1, _⟩ := v
  obtain ⟨N, h1⟩ := hf _ _ _ h
  exact ans_c (R := (Sh.sl (Sh.int .u8))) (tab := T159 c164) (raw := (rawOf (RW159 c164))) (LP := W159 c164 N) (fu := fuelC) hT hO rfl rfl (Nat.le_of_ble_eq_true rfl) loopOK_nil ((e159 c164 N _ _).trans h1)

def T131 (c159 : List Int → List Int → Option (List Int)) (c21 : List Int → Bool → Option (Int × Int)) (c132 : Int → Option Bool) (c108 : List Int → Option (List Int)) : Nat → Option Ent
  | 159 => some (en159 c159)
  | 21 => some (en21 c21)
  | 132 => some (en132 c132)
  | 108 => some (en108 c108)
  | _ => none
def RW131 (c159 : List Int → List Int → Option (List Int)) (c21 : List Int → Bool → Option (Int × Int)) (c132 : Int → Option Bool) (c108 : List Int → Option (List Int)) : Nat → List REnt
  | _ => []
def W131 (c159 : List Int → List Int → Option (List Int)) (c21 : List Int → Bool → Option (Int × Int)) (c132 : Int → Option Bool) (c108 : List Int → Option (List Int)) (N : Nat) : LoopF (((Sh.tu (Sh.pr (Sh.st (Sh.pr (Sh.int .u16) (Sh.sl (Sh.int .u8)))) (Sh.int .i64)))).T) := fun no =>
  match no with
  | _ => fun _ _ => none
theorem e131 (c159 : List Int → List Int → Option (List Int)) (c21 : List Int → Bool → Option (Int × Int)) (c132 : Int → Option Bool) (c108 : List Int → Option (List Int)) (N : Nat) (a0 : List Int) : evc (T131 c159 c21 c132 c108) (rawOf (RW131 c159 c21 c132 c108)) (W131 c159 c21 c132 c108 N) (retc k131.res (Sh.tu (Sh.pr (Sh.st (Sh.pr (Sh.int .u16) (Sh.sl (Sh.int .u8)))) (Sh.int .i64)))) (modeOf FT) 0 fuelC k131.body (env0 k131 (encL [(Sh.sl (Sh.int .u8))] (a0, ())), []) (endK (retc k131.res (Sh.tu (Sh.pr (Sh.st (Sh.pr (Sh.int .u16) (Sh.sl (Sh.int .u8)))) (Sh.int .i64))))) = p131 c159 c21 c132 c108 N a0 := by kernel_rfl
theorem ok131 (c159 : List Int → List Int → Option (List Int)) (c21 : List Int → Bool → Option (Int × Int)) (c132 : Int → Option Bool) (c108 : List Int → Option (List Int)) (h159 : EntOK FT XT 159 (en159 c159)) (h21 : EntOK FT XT 21 (en21 c21)) (h132 : EntOK FT XT 132 (en132 c132)) (h108 : EntOK FT XT 108 (en108 c108)) {f : List Int → Option ((Int × (List Int)) × Int)} (hf : ∀ a0 r, f a0 = some r → ∃ N, p131 c159 c21 c132 c108 N a0 = some r) : EntOK FT XT 131 (en131 f) := by
  have hT : TabOK FT XT (T131 c159 c21 c132 c108) := by
    intro g en hg
    unfold T131 at hg
    split at hg <;> first | (injection hg with hg; subst hg; assumption) | cases hg
  have hO0 : RawOK FT XT (rawOf (α := ((Sh.tu (Sh.pr (Sh.st (Sh.pr (Sh.int .u16) (Sh.sl (Sh.int .u8)))) (Sh.int .i64)))).T) (RW131 c159 c21 c132 c108)) := by
    refine rawOf_ok (fun g en hg => ?_)
    unfold RW131 at hg
    split at hg <;> simp only [List.mem_cons, List.not_mem_nil, or_false] at hg <;> first | (subst hg; assumption) | (rcases hg with rfl | rfl <;> assumption) | (rcases hg with rfl | rfl | rfl <;> assumption) | (rcases hg with rfl | rfl | rfl | rfl <;> assumption)
  have hO : RawOK FT XT (rawOf (α := ((Sh.tu (Sh.pr (Sh.st (Sh.pr (Sh.int .u16) (Sh.sl (Sh.int .u8)))) (Sh.int .i64)))).T) (RW131 c159 c21 c132 c108)) := hO0
  refine ⟨rfl, fun v r h => ?_⟩
  obtain ⟨a0, _⟩ := v
  obtain ⟨N, h1⟩ := hf _ _ h
  exact ans_c (R := (Sh.tu (Sh.pr (Sh.st (Sh.pr (Sh.int .u16) (Sh.sl (Sh.int .u8)))) (Sh.int .i64)))) (tab := T131 c159 c21 c132 c108) (raw := (rawOf (RW131 c159 c21 c132 c108))) (LP := W131 c159 c21 c132 c108 N) (fu := fuelC) hT hO rfl rfl (Nat.le_of_ble_eq_true rfl) loopOK_nil ((e131 c159 c21 c132 c108 N _).trans h1)

def T135 (c160 : List Int → List Int → Option Bool) : Nat → Option Ent
  | 160 => some (en160 c160)
  | _ => none
def RW135 (c160 : List Int → List Int → Option Bool) : Nat → List REnt
  | _ => []
def W135 (c160 : List Int → List Int → Option Bool) (N : Nat) : LoopF (Sh.bool).T := fun no =>
  match no with
  | _ => fun _ _ => none
theorem e135 (c160 : List Int → List Int → Option Bool) (N : Nat) (a0 : Int × (List Int)) (a1 : Int × (List Int)) : evc (T135 c160) (rawOf (RW135 c160)) (W135 c160 N) (retc k135.res Sh.bool) (modeOf FT) 0 fuelC k135.body (env0 k135 (encL [(Sh.st (Sh.pr (Sh.int .u16) (Sh.sl (Sh.int .u8)))), (Sh.st (Sh.pr (Sh.int .u16) (Sh.sl (Sh.int .u8))))] (a0, (a1, ()))), []) (endK (retc k135.res Sh.bool)) = p135 c160 N a0 a1 := by kernel_rfl
theorem ok135 (c160 : List Int → List Int → Option Bool) (h160 : EntOK FT XT 160 (en160 c160)) {f : Int × (List Int) → Int × (List Int) → Option Bool} (hf : ∀ a0 a1 r, f a0 a1 = some r → ∃ N, p135 c160 N a0 a1 = some r) : EntOK FT XT 135 (en135 f) := by
  have hT : TabOK FT XT (T135 c160) := by
    intro g en hg
    unfold T135 at hg
    split at hg <;> first | (injection hg with hg; subst hg; assumption) | cases hg
  have hO0 : RawOK FT XT (rawOf (α := (Sh.bool).T) (RW135 c160)) := by
    refine rawOf_ok (fun g en hg => ?_)
    unfold RW135 at hg
    split at hg <;> simp only [List.mem_cons, List.not_mem_nil, or_false] at hg <;> first | (subst hg; assumption) | (rcases hg with rfl | rfl <;> assumption) | (rcases hg with rfl | rfl | rfl <;> assumption) | (rcases hg with rfl | rfl | rfl | rfl <;> assumption)
  have hO : RawOK FT XT (rawOf (α := (Sh.bool).T) (RW135 c160)) := hO0
  refine ⟨rfl, fun v r h => ?_⟩
  obtain ⟨a0, a1, _⟩ := v
  obtain ⟨N, h1⟩ := hf _ _ _ h
  exact ans_c (R := Sh.bool) (tab := T135 c160) (raw := (rawOf (RW135 c160))) (LP := W135 c160 N) (fu := fuelC) hT hO rfl rfl (Nat.le_of_ble_eq_true rfl) loopOK_nil ((e135 c160 N _ _).trans h1)

def T134 : Nat → Option Ent
  | _ => none
def RW134 : Nat → List REnt
  | _ => []
def W134 (N : Nat) : LoopF (Sh.bool).T := fun no =>
  match no with
  | _ => fun _ _ => none
theorem e134 (N : Nat) (a0 : Int) : evc (T134) (rawOf (RW134)) (W134 N) (retc k134.res Sh.bool) (modeOf FT) 0 fuelC k134.body (env0 k134 (encL [(Sh.int .u16)] (a0, ())), []) (endK (retc k134.res Sh.bool)) = p134 N a0 := by kernel_rfl
theorem ok134 {f : Int → Option Bool} (hf : ∀ a0 r, f a0 = some r → ∃ N, p134 N a0 = some r) : EntOK FT XT 134 (en134 f) := by
  have hT : TabOK FT XT (T134) := by
    intro g en hg
    unfold T134 at hg
    split at hg <;> first | (injection hg with hg; subst hg; assumption) | cases hg
  have hO0 : RawOK FT XT (rawOf (α := (Sh.bool).T) (RW134)) := by
    refine rawOf_ok (fun g en hg => ?_)
    unfold RW134 at hg
    split at hg <;> simp only [List.mem_cons, List.not_mem_nil, or_false] at hg <;> first | (subst hg; assumption) | (rcases hg with rfl | rfl <;> assumption) | (rcases hg with rfl | rfl | rfl <;> assumption) | (rcases hg with rfl | rfl | rfl | rfl <;> assumption)
  have hO : RawOK FT XT (rawOf (α := (Sh.bool).T) (RW134)) := hO0
  refine ⟨rfl, fun v r h => ?_⟩
  obtain ⟨a0, _⟩ := v
  obtain ⟨N, h1⟩ := hf _ _ h
  exact ans_c (R := Sh.bool) (tab := T134) (raw := (rawOf (RW134))) (LP := W134 N) (fu := fuelC) hT hO rfl rfl (Nat.le_of_ble_eq_true rfl) loopOK_nil ((e134 N _).trans h1)

def T127 (c128 : Int × (List Int) → Bool → Bool → Option ((List Int) × Int)) (c131 : List Int → Option ((Int × (List Int)) × Int)) (c135 : Int × (List Int) → Int × (List Int) → Option Bool) (c134 : Int → Option Bool) (c132 : Int → Option Bool) : Nat → Option Ent
  | 128 => some (en128 c128)
  | 131 => some (en131 c131)
  | 135 => some (en135 c135)
  | 134 => some (en134 c134)
  | 132 => some (en132 c132)
  | _ => none
def RW127 (c128 : Int × (List Int) → Bool → Bool → Option ((List Int) × Int)) (c131 : List Int → Option ((Int × (List Int)) × Int)) (c135 : Int × (List Int) → Int × (List Int) → Option Bool) (c134 : Int → Option Bool) (c132 : Int → Option Bool) : Nat → List REnt
  | _ => []
def W127 (c128 : Int × (List Int) → Bool → Bool → Option ((List Int) × Int)) (c131 : List Int → Option ((Int × (List Int)) × Int)) (c135 : Int × (List Int) → Int × (List Int) → Option Bool) (c134 : Int → Option Bool) (c132 : Int → Option Bool) (N : Nat) : LoopF (Sh.bool).T := fun no =>
  match no with
  | _ => fun _ _ => none
theorem e127 (c128 : Int × (List Int) → Bool → Bool → Option ((List Int) × Int)) (c131 : List Int → Option ((Int × (List Int)) × Int)) (c135 : Int × (List Int) → Int × (List Int) → Option Bool) (c134 : Int → Option Bool) (c132 : Int → Option Bool) (N : Nat)  : evc (T127 c128 c131 c135 c134 c132) (rawOf (RW127 c128 c131 c135 c134 c132)) (W127 c128 c131 c135 c134 c132 N) (retc k127.res Sh.bool) (modeOf FT) 0 fuelC k127.body (env0 k127 (encL [] ()), []) (endK (retc k127.res Sh.bool)) = p127 c128 c131 c135 c134 c132 N  := by kernel_rfl
theorem ok127 (c128 : Int × (List Int) → Bool → Bool → Option ((List Int) × Int)) (c131 : List Int → Option ((Int × (List Int)) × Int)) (c135 : Int × (List Int) → Int × (List Int) → Option Bool) (c134 : Int → Option Bool) (c132 : Int → Option Bool) (h128 : EntOK FT XT 128 (en128 c128)) (h131 : EntOK FT XT 131 (en131 c131)) (h135 : EntOK FT XT 135 (en135 c135)) (h134 : EntOK FT XT 134 (en134 c134)) (h132 : EntOK FT XT 132 (en132 c132)) {f : Option Bool} (hf : ∀  r, f  = some r → ∃ N, p127 c128 c131 c135 c134 c132 N  = some r) : EntOK FT XT 127 (en127 f) := by
  have hT : TabOK FT XT (T127 c128 c131 c135 c134 c132) := by
    intro g en hg
    unfold T127 at hg
    split at hg <;> first | (injection hg with hg; subst hg; assumption) | cases hg
  have hO0 : RawOK FT XT (rawOf (α := (Sh.bool).T) (RW127 c128 c131 c135 c134 c132)) := by
    refine rawOf_ok (fun g en hg => ?_)
    unfold RW127 at hg
    split at hg <;> simp only [List.mem_cons, List.not_mem_nil, or_false] at hg <;> first | (subst hg; assumption) | (rcases hg with rfl | rfl <;> assumption) | (rcases hg with rfl | rfl | rfl <;> assumption) | (rcases hg with rfl | rfl | rfl | rfl <;> assumption)
  have hO : RawOK FT XT (rawOf (α := (Sh.bool).T) (RW127 c128 c131 c135 c134 c132)) := hO0
  refine ⟨rfl, fun v r h => ?_⟩
  obtain ⟨N, h1⟩ := hf _ h
  exact ans_c (R := Sh.bool) (tab := T127 c128 c131 c135 c134 c132) (raw := (rawOf (RW127 c128 c131 c135 c134 c132))) (LP := W127 c128 c131 c135 c134 c132 N) (fu := fuelC) hT hO rfl rfl (Nat.le_of_ble_eq_true rfl) loopOK_nil ((e127 c128 c131 c135 c134 c132 N ).trans h1)

def T129 : Nat → Option Ent
  | _ => none
def RW129 : Nat → List REnt
  | _ => []
def W129 (N : Nat) : LoopF (((Sh.st (Sh.pr (Sh.int .u16) (Sh.sl (Sh.int .u8))))).T) := fun no =>
  match no with
  | _ => fun _ _ => none
theorem e129 (N : Nat) (a0 : Int × (List Int)) : evc (T129) (rawOf (RW129)) (W129 N) (retc k129.res (Sh.st (Sh.pr (Sh.int .u16) (Sh.sl (Sh.int .u8))))) (modeOf FT) 0 fuelC k129.body (env0 k129 (encL [(Sh.st (Sh.pr (Sh.int .u16) (Sh.sl (Sh.int .u8))))] (a0, ())), []) (endK (retc k129.res (Sh.st (Sh.pr (Sh.int .u16) (Sh.sl (Sh.int .u8)))))) = p129 N a0 := by kernel_rfl
theorem ok129 {f : Int × (List Int) → Option (Int × (List Int))} (hf : ∀ a0 r, f a0 = some r → ∃ N, p129 N a0 = some r) : EntOK FT XT 129 (en129 f) := by
  have hT : TabOK FT XT (T129) := by
    intro g en hg
    unfold T129 at hg
    split at hg <;> first | (injection hg with hg; subst hg; assumption) | cases hg
  have hO0 : RawOK FT XT (rawOf (α := ((Sh.st (Sh.pr (Sh.int .u16) (Sh.sl (Sh.int .u8))))).T) (RW129)) := by
    refine rawOf_ok (fun g en hg => ?_)
    unfold RW129 at hg
    split at hg <;> simp only [List.mem_cons, List.not_mem_nil, or_false] at hg <;> first | (subst hg; assumption) | (rcases hg with rfl | rfl <;> assumption) | (rcases hg with rfl | rfl | rfl <;> assumption) | (rcases hg with rfl | rfl | rfl | rfl <;> assumption)
  have hO : RawOK FT XT (rawOf (α := ((Sh.st (Sh.pr (Sh.int .u16) (Sh.sl (Sh.int .u8))))).T) (RW129)) := hO0
  refine ⟨rfl, fun v r h => ?_⟩
  obtain ⟨a0, _⟩ := v
  obtain ⟨N, h1⟩ := hf _ _ h
  exact ans_c (R := (Sh.st (Sh.pr (Sh.int .u16) (Sh.sl (Sh.int .u8))))) (tab := T129) (raw := (rawOf (RW129))) (LP := W129 N) (fu := fuelC) hT hO rfl rfl (Nat.le_of_ble_eq_true rfl) loopOK_nil ((e129 N _).trans h1)

def T133 : Nat → Option Ent
  | _ => none
def RW133 : Nat → List REnt
  | _ => []
def W133 (N : Nat) : LoopF (Sh.bool).T := fun no =>
  match no with
  | _ => fun _ _ => none
theorem e133 (N : Nat) (a0 : Int) : evc (T133) (rawOf (RW133)) (W133 N) (retc k133.res Sh.bool) (modeOf FT) 0 fuelC k133.body (env0 k133 (encL [(Sh.int .u16)] (a0, ())), []) (endK (retc k133.res Sh.bool)) = p133 N a0 := by kernel_rfl
theorem ok133 {f : Int → Option Bool} (hf : ∀ a0 r, f a0 = some r → ∃ N, p133 N a0 = some r) : EntOK FT XT 133 (en133 f) := by
  have hT : TabOK FT XT (T133) := by
    intro g en hg
    unfold T133 at hg
    split at hg <;> first | (injection hg with hg; subst hg; assumption) | cases hg
  have hO0 : RawOK FT XT (rawOf (α := (Sh.bool).T) (RW133)) := by
    refine rawOf_ok (fun g en hg => ?_)
    unfold RW133 at hg
    split at hg <;> simp only [List.mem_cons, List.not_mem_nil, or_false] at hg <;> first | (subst hg; assumption) | (rcases hg with rfl | rfl <;> assumption) | (rcases hg with rfl | rfl | rfl <;> assumption) | (rcases hg with rfl | rfl | rfl | rfl <;> assumption)
  have hO : RawOK FT XT (rawOf (α := (Sh.bool).T) (RW133)) := hO0
  refine ⟨rfl, fun v r h => ?_⟩
  obtain ⟨a0, _⟩ := v
  obtain ⟨N, h1⟩ := hf _ _ h
  exact ans_c (R := Sh.bool) (tab := T133) (raw := (rawOf (RW133))) (LP := W133 N) (fu := fuelC) hT hO rfl rfl (Nat.le_of_ble_eq_true rfl) loopOK_nil ((e133 N _).trans h1)

def T130 (c133 : Int → Option Bool) : Nat → Option Ent
  | 133 => some (en133 c133)
  | _ => none
def RW130 (c133 : Int → Option Bool) : Nat → List REnt
  | _ => []
def W130 (c133 : Int → Option Bool) (N : Nat) : LoopF (((Sh.tu (Sh.pr (Sh.sl (Sh.int .u8)) (Sh.int .i64)))).T) := fun no =>
  match no with
  | _ => fun _ _ => none
theorem e130 (c133 : Int → Option Bool) (N : Nat) (a0 : Int × (List Int)) (a1 : Bool) (a2 : Bool) : evc (T130 c133) (rawOf (RW130 c133)) (W130 c133 N) (retc k130.res (Sh.tu (Sh.pr (Sh.sl (Sh.int .u8)) (Sh.int .i64)))) (modeOf FT) 0 fuelC k130.body (env0 k130 (encL [(Sh.st (Sh.pr (Sh.int .u16) (Sh.sl (Sh.int .u8)))), Sh.bool, Sh.bool] (a0, (a1, (a2, ())))), []) (endK (retc k130.res (Sh.tu (Sh.pr (Sh.sl (Sh.int .u8)) (Sh.int .i64))))) = p130 c133 N a0 a1 a2 := by kernel_rfl
theorem ok130 (c133 : Int → Option Bool) (h133 : EntOK FT XT 133 (en133 c133)) {f : Int × (List Int) → Bool → Bool → Option ((List Int) × Int)} (hf : ∀ a0 a1 a2 r, f a0 a1 a2 = some r → ∃ N, p130 c133 N a0 a1 a2 = some r) : EntOK FT XT 130 (en130 f) := by
  have hT : TabOK FT XT (T130 c133) := by
    intro g en hg
    unfold T130 at hg
    split at hg <;> first | (injection hg with hg; subst hg; assumption) | cases hg
  have hO0 : RawOK FT XT (rawOf (α := ((Sh.tu (Sh.pr (Sh.sl (Sh.int .u8)) (Sh.int .i64)))).T) (RW130 c133)) := by
    refine rawOf_ok (fun g en hg => ?_)
    unfold RW130 at hg
    split at hg <;> simp only [List.mem_cons, List.not_mem_nil, or_false] at hg <;> first | (subst hg; assumption) | (rcases hg with rfl | rfl <;> assumption) | (rcases hg with rfl | rfl | rfl <;> assumption) | (rcases hg with rfl | rfl | rfl | rfl <;> assumption)
  have hO : RawOK FT XT (rawOf (α := ((Sh.tu (Sh.pr (Sh.sl (Sh.int .u8)) (Sh.int .i64)))).T) (RW130 c133)) := hO0
  refine ⟨rfl, fun v r h => ?_⟩
  obtain ⟨a0, a1, a2, _⟩ := v
  obtain ⟨N, h1⟩ := hf _ _ _ _ h
  exact ans_c (R := (Sh.tu (Sh.pr (Sh.sl (Sh.int .u8)) (Sh.int .i64)))) (tab := T130 c133) (raw := (rawOf (RW130 c133))) (LP := W130 c133 N) (fu := fuelC) hT hO rfl rfl (Nat.le_of_ble_eq_true rfl) loopOK_nil ((e130 c133 N _ _ _).trans h1)

def T121 (c127 : Option Bool) (c129 : Int × (List Int) → Option (Int × (List Int))) (c128 : Int × (List Int) → Bool → Bool → Option ((List Int) × Int)) (c130 : Int × (List Int) → Bool → Bool → Option ((List Int) × Int)) (c131 : List Int → Option ((Int × (List Int)) × Int)) (c23 : List Int → List Int → Option Bool) (c132 : Int → Option Bool) (c133 : Int → Option Bool) (c134 : Int → Option Bool) (c135 : Int × (List Int) → Int × (List Int) → Option Bool) : Nat → Option Ent
  | 127 => some (en127 c127)
  | 129 => some (en129 c129)
  | 128 => some (en128 c128)
  | 130 => some (en130 c130)
  | 131 => some (en131 c131)
  | 23 => some (en23 c23)
  | 132 => some (en132 c132)
  | 133 => some (en133 c133)
  | 134 => some (en134 c134)
  | 135 => some (en135 c135)
  | _ => none
def RW121 (c127 : Option Bool) (c129 : Int × (List Int) → Option (Int × (List Int))) (c128 : Int × (List Int) → Bool → Bool → Option ((List Int) × Int)) (c130 : Int × (List Int) → Bool → Bool → Option ((List Int) × Int)) (c131 : List Int → Option ((Int × (List Int)) × Int)) (c23 : List Int → List Int → Option Bool) (c132 : Int → Option Bool) (c133 : Int → Option Bool) (c134 : Int → Option Bool) (c135 : Int × (List Int) → Int × (List Int) → Option Bool) : Nat → List REnt
  | _ => []
def W121 (c127 : Option Bool) (c129 : Int × (List Int) → Option (Int × (List Int))) (c128 : Int × (List Int) → Bool → Bool → Option ((List Int) × Int)) (c130 : Int × (List Int) → Bool → Bool → Option ((List Int) × Int)) (c131 : List Int → Option ((Int × (List Int)) × Int)) (c23 : List Int → List Int → Option Bool) (c132 : Int → Option Bool) (c133 : Int → Option Bool) (c134 : Int → Option Bool) (c135 : Int × (List Int) → Int × (List Int) → Option Bool) (N : Nat) : LoopF (Sh.bool).T := fun no =>
  match no with
  | _ => fun _ _ => none
theorem e121 (c127 : Option Bool) (c129 : Int × (List Int) → Option (Int × (List Int))) (c128 : Int × (List Int) → Bool → Bool → Option ((List Int) × Int)) (c130 : Int × (List Int) → Bool → Bool → Option ((List Int) × Int)) (c131 : List Int → Option ((Int × (List Int)) × Int)) (c23 : List Int → List Int → Option Bool) (c132 : Int → Option Bool) (c133 : Int → Option Bool) (c134 : Int → Option Bool) (c135 : Int × (List Int) → Int × (List Int) → Option Bool) (N : Nat) (a0 : Int × (List Int)) (a1 : Bool) (a2 : Bool) : evc (T121 c127 c129 c128 c130 c131 c23 c132 c133 c134 c135) (rawOf (RW121 c127 c129 c128 c130 c131 c23 c132 c133 c134 c135)) (W121 c127 c129 c128 c130 c131 c23 c132 c133 c134 c135 N) (retc k121.res Sh.bool) (modeOf FT) 0 fuelC k121.body (env0 k121 (encL [(Sh.st (Sh.pr (Sh.int .u16) (Sh.sl (Sh.int .u8)))), Sh.bool, Sh.bool] (a0, (a1, (a2, ())))), []) (endK (retc k121.res Sh.bool)) = p121 c127 c129 c128 c130 c131 c23 c132 c133 c134 c135 N a0 a1 a2 := by kernel_rfl
theorem ok121 (c127 : Option Bool) (c129 : Int × (List Int) → Option (Int × (List Int))) (c128 : Int × (List Int) → Bool → Bool → Option ((List Int) × Int)) (c130 : Int × (List Int) → Bool → Bool → Option ((List Int) × Int)) (c131 : List Int → Option ((Int × (List Int)) × Int)) (c23 : List Int → List Int → Option Bool) (c132 : Int → Option Bool) (c133 : Int → Option Bool) (c134 : Int → Option Bool) (c135 : Int × (List Int) → Int × (List Int) → Option Bool) (h127 : EntOK FT XT 127 (en127 c127)) (h129 : EntOK FT XT 129 (en129 c129)) (h128 : EntOK FT XT 128 (en128 c128)) (h130 : EntOK FT XT 130 (en130 c130)) (h131 : EntOK FT XT 131 (en131 c131)) (h23 : EntOK FT XT 23 (en23 c23)) (h132 : EntOK FT XT 132 (en132 c132)) (h133 : EntOK FT XT 133 (en133 c133)) (h134 : EntOK FT XT 134 (en134 c134)) (h135 : EntOK FT XT 135 (en135 c135)) {f : Int × (List Int) → Bool → Bool → Option Bool} (hf : ∀ a0 a1 a2 r, f a0 a1 a2 = some r → ∃ N, p121 c127 c129 c128 c130 c131 c23 c132 c133 c134 c135 N a0 a1 a2 = some r) : EntOK FT XT 121 (en121 f) := by
  have hT : TabOK FT XT (T121 c127 c129 c128 c130 c131 c23 c132 c133 c134 c135) := by
    intro g en hg
    unfold T121 at hg
    split at hg <;> first | (injection hg with hg; subst hg; assumption) | cases hg
  have hO0 : RawOK FT XT (rawOf (α := (Sh.bool).T) (RW121 c127 c129 c128 c130 c131 c23 c132 c133 c134 c135)) := by
    refine rawOf_ok (fun g en hg => ?_)
    unfold RW121 at hg
    split at hg <;> simp only [List.mem_cons, List.not_mem_nil, or_false] at hg <;> first | (subst hg; assumption) | (rcases hg with rfl | rfl <;> assumption) | (rcases hg with rfl | rfl | rfl <;> assumption) | (rcases hg with rfl | rfl | rfl | rfl <;> assumption)
  have hO : RawOK FT XT (rawOf (α := (Sh.bool).T) (RW121 c127 c129 c128 c130 c131 c23 c132 c133 c134 c135)) := hO0
  refine ⟨rfl, fun v r h => ?_⟩
  obtain ⟨a0, a1, a2, _⟩ := v
  obtain ⟨N, h1⟩ := hf _ _ _ _ h
  exact ans_c (R := Sh.bool) (tab := T121 c127 c129 c128 c130 c131 c23 c132 c133 c134 c135) (raw := (rawOf (RW121 c127 c129 c128 c130 c131 c23 c132 c133 c134 c135))) (LP := W121 c127 c129 c128 c130 c131 c23 c132 c133 c134 c135 N) (fu := fuelC) hT hO rfl rfl (Nat.le_of_ble_eq_true rfl) loopOK_nil ((e121 c127 c129 c128 c130 c131 c23 c132 c133 c134 c135 N _ _ _).trans h1)

def T136 (c133 : Int → Option Bool) : Nat → Option Ent
  | 133 => some (en133 c133)
  | _ => none
def RW136 (c133 : Int → Option Bool) : Nat → List REnt
  | _ => []
def W136 (c133 : Int → Option Bool) (N : Nat) : LoopF (((Sh.tu (Sh.pr (Sh.st (Sh.pr (Sh.int .u16) (Sh.sl (Sh.int .u8)))) (Sh.int .i64)))).T) := fun no =>
  match no with
  | _ => fun _ _ => none
theorem e136 (c133 : Int → Option Bool) (N : Nat) (a0 : List Int) : evc (T136 c133) (rawOf (RW136 c133)) (W136 c133 N) (retc k136.res (Sh.tu (Sh.pr (Sh.st (Sh.pr (Sh.int .u16) (Sh.sl (Sh.int .u8)))) (Sh.int .i64)))) (modeOf FT) 0 fuelC k136.body (env0 k136 (encL [(Sh.sl (Sh.int .u8))] (a0, ())), []) (endK (retc k136.res (Sh.tu (Sh.pr (Sh.st (Sh.pr (Sh.int .u16) (Sh.sl (Sh.int .u8)))) (Sh.int .i64))))) = p136 c133 N a0 := by kernel_rfl
theorem ok136 (c133 : Int → Option Bool) (h133 : EntOK FT XT 133 (en133 c133)) {f : List Int → Option ((Int × (List Int)) × Int)} (hf : ∀ a0 r, f a0 = some r → ∃ N, p136 c133 N a0 = some r) : EntOK FT XT 136 (en136 f) := by
  have hT : TabOK FT XT (T136 c133) := by
    intro g en hg
    unfold T136 at hg
    split at hg <;> first | (injection hg with hg; subst hg; assumption) | cases hg
  have hO0 : RawOK FT XT (rawOf (α := ((Sh.tu (Sh.pr (Sh.st (Sh.pr (Sh.int .u16) (Sh.sl (Sh.int .u8)))) (Sh.int .i64)))).T) (RW136 c133)) := by
    refine rawOf_ok (fun g en hg => ?_)
    unfold RW136 at hg
    split at hg <;> simp only [List.mem_cons, List.not_mem_nil, or_false] at hg <;> first | (subst hg; assumption) | (rcases hg with rfl | rfl <;> assumption) | (rcases hg with rfl | rfl | rfl <;> assumption) | (rcases hg with rfl | rfl | rfl | rfl <;> assumption)
  have hO : RawOK FT XT (rawOf (α := ((Sh.tu (Sh.pr (Sh.st (Sh.pr (Sh.int .u16) (Sh.sl (Sh.int .u8)))) (Sh.int .i64)))).T) (RW136 c133)) := hO0
  refine ⟨rfl, fun v r h => ?_⟩
  obtain ⟨a0, _⟩ := v
  obtain ⟨N, h1⟩ := hf _ _ h
  exact ans_c (R := (Sh.tu (Sh.pr (Sh.st (Sh.pr (Sh.int .u16) (Sh.sl (Sh.int .u8)))) (Sh.int .i64)))) (tab := T136 c133) (raw := (rawOf (RW136 c133))) (LP := W136 c133 N) (fu := fuelC) hT hO rfl rfl (Nat.le_of_ble_eq_true rfl) loopOK_nil ((e136 c133 N _).trans h1)

def T137 (c23 : List Int → List Int → Option Bool) : Nat → Option Ent
  | 23 => some (en23 c23)
  | _ => none
def RW137 (c23 : List Int → List Int → Option Bool) : Nat → List REnt
  | _ => []
def W137 (c23 : List Int → List Int → Option Bool) (N : Nat) : LoopF (Sh.bool).T := fun no =>
  match no with
  | _ => fun _ _ => none
theorem e137 (c23 : List Int → List Int → Option Bool) (N : Nat) (a0 : Int × (List Int)) (a1 : Int × (List Int)) : evc (T137 c23) (rawOf (RW137 c23)) (W137 c23 N) (retc k137.res Sh.bool) (modeOf FT) 0 fuelC k137.body (env0 k137 (encL [(Sh.st (Sh.pr (Sh.int .u16) (Sh.sl (Sh.int .u8)))), (Sh.st (Sh.pr (Sh.int .u16) (Sh.sl (Sh.int .u8))))] (a0, (a1, ()))), []) (endK (retc k137.res Sh.bool)) = p137 c23 N a0 a1 := by kernel_rfl
theorem ok137 (c23 : List Int → List Int → Option Bool) (h23 : EntOK FT XT 23 (en23 c23)) {f : Int × (List Int) → Int × (List Int) → Option Bool} (hf : ∀ a0 a1 r, f a0 a1 = some r → ∃ N, p137 c23 N a0 a1 = some r) : EntOK FT XT 137 (en137 f) := by
  have hT : TabOK FT XT (T137 c23) := by
    intro g en hg
    unfold T137 at hg
    split at hg <;> first | (injection hg with hg; subst hg; assumption) | cases hg
  have hO0 : RawOK FT XT (rawOf (α := (Sh.bool).T) (RW137 c23)) := by
    refine rawOf_ok (fun g en hg => ?_)
    unfold RW137 at hg
    split at hg <;> simp only [List.mem_cons, List.not_mem_nil, or_false] at hg <;> first | (subst hg; assumption) | (rcases hg with rfl | rfl <;> assumption) | (rcases hg with rfl | rfl | rfl <;> assumption) | (rcases hg with rfl | rfl | rfl | rfl <;> assumption)
  have hO : RawOK FT XT (rawOf (α := (Sh.bool).T) (RW137 c23)) := hO0
  refine ⟨rfl, fun v r h => ?_⟩
  obtain ⟨a0, a1, _⟩ := v
  obtain ⟨N, h1⟩ := hf _ _ _ h
  exact ans_c (R := Sh.bool) (tab := T137 c23) (raw := (rawOf (RW137 c23))) (LP := W137 c23 N) (fu := fuelC) hT hO rfl rfl (Nat.le_of_ble_eq_true rfl) loopOK_nil ((e137 c23 N _ _).trans h1)

def T122 (c127 : Option Bool) (c131 : List Int → Option ((Int × (List Int)) × Int)) (c136 : List Int → Option ((Int × (List Int)) × Int)) (c129 : Int × (List Int) → Option (Int × (List Int))) (c135 : Int × (List Int) → Int × (List Int) → Option Bool) (c137 : Int × (List Int) → Int × (List Int) → Option Bool) : Nat → Option Ent
  | 127 => some (en127 c127)
  | 131 => some (en131 c131)
  | 136 => some (en136 c136)
  | 129 => some (en129 c129)
  | 135 => some (en135 c135)
  | 137 => some (en137 c137)
  | _ => none
def RW122 (c127 : Option Bool) (c131 : List Int → Option ((Int × (List Int)) × Int)) (c136 : List Int → Option ((Int × (List Int)) × Int)) (c129 : Int × (List Int) → Option (Int × (List Int))) (c135 : Int × (List Int) → Int × (List Int) → Option Bool) (c137 : Int × (List Int) → Int × (List Int) → Option Bool) : Nat → List REnt
  | _ => []
def W122 (c127 : Option Bool) (c131 : List Int → Option ((Int × (List Int)) × Int)) (c136 : List Int → Option ((Int × (List Int)) × Int)) (c129 : Int × (List Int) → Option (Int × (List Int))) (c135 : Int × (List Int) → Int × (List Int) → Option Bool) (c137 : Int × (List Int) → Int × (List Int) → Option Bool) (N : Nat) : LoopF (Sh.bool).T := fun no =>
  match no with
  | _ => fun _ _ => none
theorem e122 (c127 : Option Bool) (c131 : List Int → Option ((Int × (List Int)) × Int)) (c136 : List Int → Option ((Int × (List Int)) × Int)) (c129 : Int × (List Int) → Option (Int × (List Int))) (c135 : Int × (List Int) → Int × (List Int) → Option Bool) (c137 : Int × (List Int) → Int × (List Int) → Option Bool) (N : Nat) (a0 : List Int) (a1 : Int × (List Int)) : evc (T122 c127 c131 c136 c129 c135 c137) (rawOf (RW122 c127 c131 c136 c129 c135 c137)) (W122 c127 c131 c136 c129 c135 c137 N) (retc k122.res Sh.bool) (modeOf FT) 0 fuelC k122.body (env0 k122 (encL [(Sh.sl (Sh.int .u8)), (Sh.st (Sh.pr (Sh.int .u16) (Sh.sl (Sh.int .u8))))] (a0, (a1, ()))), []) (endK (retc k122.res Sh.bool)) = p122 c127 c131 c136 c129 c135 c137 N a0 a1 := by kernel_rfl
theorem ok122 (c127 : Option Bool) (c131 : List Int → Option ((Int × (List Int)) × Int)) (c136 : List Int → Option ((Int × (List Int)) × Int)) (c129 : Int × (List Int) → Option (Int × (List Int))) (c135 : Int × (List Int) → Int × (List Int) → Option Bool) (c137 : Int × (List Int) → Int × (List Int) → Option Bool) (h127 : EntOK FT XT 127 (en127 c127)) (h131 : EntOK FT XT 131 (en131 c131)) (h136 : EntOK FT XT 136 (en136 c136)) (h129 : EntOK FT XT 129 (en129 c129)) (h135 : EntOK FT XT 135 (en135 c135)) (h137 : EntOK FT XT 137 (en137 c137)) {f : List Int → Int × (List Int) → Option Bool} (hf : ∀ a0 a1 r, f a0 a1 = some r → ∃ N, p122 c127 c131 c136 c129 c135 c137 N a0 a1 = some r) : EntOK FT XT 122 (en122 f) := by
  have hT : TabOK FT XT (T122 c127 c131 c136 c129 c135 c137) := by
    intro g en hg
    unfold T122 at hg
    split at hg <;> first | (injection hg with hg; subst hg; assumption) | cases hg
  have hO0 : RawOK FT XT (rawOf (α := (Sh.bool).T) (RW122 c127 c131 c136 c129 c135 c137)) := by
    refine rawOf_ok (fun g en hg => ?_)
    unfold RW122 at hg
    split at hg <;> simp only [List.mem_cons, List.not_mem_nil, or_false] at hg <;> first | (subst hg; assumption) | (rcases hg with rfl | rfl <;> assumption) | (rcases hg with rfl | rfl | rfl <;> assumption) | (rcases hg with rfl | rfl | rfl | rfl <;> assumption)
  have hO : RawOK FT XT (rawOf (α := (Sh.bool).T) (RW122 c127 c131 c136 c129 c135 c137)) := hO0
  refine ⟨rfl, fun v r h => ?_⟩
  obtain ⟨a0, a1, _⟩ := v
  obtain ⟨N, h1⟩ := hf _ _ _ h
  exact ans_c (R := Sh.bool) (tab := T122 c127 c131 c136 c129 c135 c137) (raw := (rawOf (RW122 c127 c131 c136 c129 c135 c137))) (LP := W122 c127 c131 c136 c129 c135 c137 N) (fu := fuelC) hT hO rfl rfl (Nat.le_of_ble_eq_true rfl) loopOK_nil ((e122 c127 c131 c136 c129 c135 c137 N _ _).trans h1)

def T123 (c127 : Option Bool) (c132 : Int → Option Bool) (c129 : Int × (List Int) → Option (Int × (List Int))) (c128 : Int × (List Int) → Bool → Bool → Option ((List Int) × Int)) (c23 : List Int → List Int → Option Bool) : Nat → Option Ent
  | 127 => some (en127 c127)
  | 132 => some (en132 c132)
  | 129 => some (en129 c129)
  | 128 => some (en128 c128)
  | 23 => some (en23 c23)
  | _ => none
def RW123 (c127 : Option Bool) (c132 : Int → Option Bool) (c129 : Int × (List Int) → Option (Int × (List Int))) (c128 : Int × (List Int) → Bool → Bool → Option ((List Int) × Int)) (c23 : List Int → List Int → Option Bool) : Nat → List REnt
  | _ => []
def W123 (c127 : Option Bool) (c132 : Int → Option Bool) (c129 : Int × (List Int) → Option (Int × (List Int))) (c128 : Int × (List Int) → Bool → Bool → Option ((List Int) × Int)) (c23 : List Int → List Int → Option Bool) (N : Nat) : LoopF (Sh.bool).T := fun no =>
  match no with
  | _ => fun _ _ => none
theorem e123 (c127 : Option Bool) (c132 : Int → Option Bool) (c129 : Int × (List Int) → Option (Int × (List Int))) (c128 : Int × (List Int) → Bool → Bool → Option ((List Int) × Int)) (c23 : List Int → List Int → Option Bool) (N : Nat) (a0 : Int × (List Int)) : evc (T123 c127 c132 c129 c128 c23) (rawOf (RW123 c127 c132 c129 c128 c23)) (W123 c127 c132 c129 c128 c23 N) (retc k123.res Sh.bool) (modeOf FT) 0 fuelC k123.body (env0 k123 (encL [(Sh.st (Sh.pr (Sh.int .u16) (Sh.sl (Sh.int .u8))))] (a0, ())), []) (endK (retc k123.res Sh.bool)) = p123 c127 c132 c129 c128 c23 N a0 := by kernel_rfl
theorem ok123 (c127 : Option Bool) (c132 : Int → Option Bool) (c129 : Int × (List Int) → Option (Int × (List Int))) (c128 : Int × (List Int) → Bool → Bool → Option ((List Int) × Int)) (c23 : List Int → List Int → Option Bool) (h127 : EntOK FT XT 127 (en127 c127)) (h132 : EntOK FT XT 132 (en132 c132)) (h129 : EntOK FT XT 129 (en129 c129)) (h128 : EntOK FT XT 128 (en128 c128)) (h23 : EntOK FT XT 23 (en23 c23)) {f : Int × (List Int) → Option Bool} (hf : ∀ a0 r, f a0 = some r → ∃ N, p123 c127 c132 c129 c128 c23 N a0 = some r) : EntOK FT XT 123 (en123 f) := by
  have hT : TabOK FT XT (T123 c127 c132 c129 c128 c23) := by
    intro g en hg
    unfold T123 at hg
    split at hg <;> first | (injection hg with hg; subst hg; assumption) | cases hg
  have hO0 : RawOK FT XT (rawOf (α := (Sh.bool).T) (RW123 c127 c132 c129 c128 c23)) := by
    refine rawOf_ok (fun g en hg => ?_)
    unfold RW123 at hg
    split at hg <;> simp only [List.mem_cons, List.not_mem_nil, or_false] at hg <;> first | (subst hg; assumption) | (rcases hg with rfl | rfl <;> assumption) | (rcases hg with rfl | rfl | rfl <;> assumption) | (rcases hg with rfl | rfl | rfl | rfl <;> assumption)
  have hO : RawOK FT XT (rawOf (α := (Sh.bool).T) (RW123 c127 c132 c129 c128 c23)) := hO0
  refine ⟨rfl, fun v r h => ?_⟩
  obtain ⟨a0, _⟩ := v
  obtain ⟨N, h1⟩ := hf _ _ h
  exact ans_c (R := Sh.bool) (tab := T123 c127 c132 c129 c128 c23) (raw := (rawOf (RW123 c127 c132 c129 c128 c23))) (LP := W123 c127 c132 c129 c128 c23 N) (fu := fuelC) hT hO rfl rfl (Nat.le_of_ble_eq_true rfl) loopOK_nil ((e123 c127 c132 c129 c128 c23 N _).trans h1)

def T157 (c19 : Int → Int → Bool → Option ((List Int) × Int)) : Nat → Option Ent
  | 19 => some (en19 c19)
  | _ => none
def RW157 (c19 : Int → Int → Bool → Option ((List Int) × Int)) : Nat → List REnt
  | _ => []
def W157 (c19 : Int → Int → Bool → Option ((List Int) × Int)) (N : Nat) : LoopF (((Sh.st (Sh.pr (Sh.int .u8) (Sh.sl (Sh.int .u8))))).T) := fun no =>
  match no with
  | _ => fun _ _ => none
theorem e157 (c19 : Int → Int → Bool → Option ((List Int) × Int)) (N : Nat) (a0 : Int) : evc (T157 c19) (rawOf (RW157 c19)) (W157 c19 N) (retc k157.res (Sh.st (Sh.pr (Sh.int .u8) (Sh.sl (Sh.int .u8))))) (modeOf FT) 0 fuelC k157.body (env0 k157 (encL [(Sh.int .u16)] (a0, ())), []) (endK (retc k157.res (Sh.st (Sh.pr (Sh.int .u8) (Sh.sl (Sh.int .u8)))))) = p157 c19 N a0 := by kernel_rfl
theorem ok157 (c19 : Int → Int → Bool → Option ((List Int) × Int)) (h19 : EntOK FT XT 19 (en19 c19)) {f : Int → Option (Int × (List Int))} (hf : ∀ a0 r, f a0 = some r → ∃ N, p157 c19 N a0 = some r) : EntOK FT XT 157 (en157 f) := by
  have hT : TabOK FT XT (T157 c19) := by
    intro g en hg
    unfold T157 at hg
    split at hg <;> first | (injection hg with hg; subst hg; assumption) | cases hg
  have hO0 : RawOK FT XT (rawOf (α := ((Sh.st (Sh.pr (Sh.int .u8) (Sh.sl (Sh.int .u8))))).T) (RW157 c19)) := by
    refine rawOf_ok (fun g en hg => ?_)
    unfold RW157 at hg
    split at hg <;> simp only [List.mem_cons, List.not_mem_nil, or_false] at hg <;> first | (subst hg; assumption) | (rcases hg with rfl | rfl <;> assumption) | (rcases hg with rfl | rfl | rfl <;> assumption) | (rcases hg with rfl | rfl | rfl | rfl <;> assumption)
  have hO : RawOK FT XT (rawOf (α := ((Sh.st (Sh.pr (Sh.int .u8) (Sh.sl (Sh.int .u8))))).T) (RW157 c19)) := hO0
  refine ⟨rfl, fun v r h => ?_⟩
  obtain ⟨a0, _⟩ := v
  obtain ⟨N, h1⟩ := hf _ _ h
  exact ans_c (R := (Sh.st (Sh.pr (Sh.int .u8) (Sh.sl (Sh.int .u8))))) (tab := T157 c19) (raw := (rawOf (RW157 c19))) (LP := W157 c19 N) (fu := fuelC) hT hO rfl rfl (Nat.le_of_ble_eq_true rfl) loopOK_nil ((e157 c19 N _).trans h1)

def T161 : Nat → Option Ent
  | _ => none
def RW161 : Nat → List REnt
  | _ => []
def W161 (N : Nat) : LoopF (Sh.bool).T := fun no =>
  match no with
  | _ => fun _ _ => none
theorem e161 (N : Nat) (a0 : Int) : evc (T161) (rawOf (RW161)) (W161 N) (retc k161.res Sh.bool) (modeOf FT) 0 fuelC k161.body (env0 k161 (encL [(Sh.int .u8)] (a0, ())), []) (endK (retc k161.res Sh.bool)) = p161 N a0 := by kernel_rfl
theorem ok161 {f : Int → Option Bool} (hf : ∀ a0 r, f a0 = some r → ∃ N, p161 N a0 = some r) : EntOK FT XT 161 (en161 f) := by
  have hT : TabOK FT XT (T161) := by
    intro g en hg
    unfold T161 at hg
    split at hg <;> first | (injection hg with hg; subst hg; assumption) | cases hg
  have hO0 : RawOK FT XT (rawOf (α := (Sh.bool).T) (RW161)) := by
    refine rawOf_ok (fun g en hg => ?_)
    unfold RW161 at hg
    split at hg <;> simp only [List.mem_cons, List.not_mem_nil, or_false] at hg <;> first | (subst hg; assumption) | (rcases hg with rfl | rfl <;> assumption) | (rcases hg with rfl | rfl | rfl <;> assumption) | (rcases hg with rfl | rfl | rfl | rfl <;> assumption)
  have hO : RawOK FT XT (rawOf (α := (Sh.bool).T) (RW161)) := hO0
  refine ⟨rfl, fun v r h => ?_⟩
  obtain ⟨a0, _⟩ := v
  obtain ⟨N, h1⟩ := hf _ _ h
  exact ans_c (R := Sh.bool) (tab := T161) (raw := (rawOf (RW161))) (LP := W161 N) (fu := fuelC) hT hO rfl rfl (Nat.le_of_ble_eq_true rfl) loopOK_nil ((e161 N _).trans h1)

def T139 (c161 : Int → Option Bool) (c19 : Int → Int → Bool → Option ((List Int) × Int)) (c46 : List (List Int) → Option (List Int)) : Nat → Option Ent
  | 161 => some (en161 c161)
  | 19 => some (en19 c19)
  | 46 => some (en46 c46)
  | _ => none
def RW139 (c161 : Int → Option Bool) (c19 : Int → Int → Bool → Option ((List Int) × Int)) (c46 : List (List Int) → Option (List Int)) : Nat → List REnt
  | _ => []
def W139 (c161 : Int → Option Bool) (c19 : Int → Int → Bool → Option ((List Int) × Int)) (c46 : List (List Int) → Option (List Int)) (N : Nat) : LoopF (((Sh.tu (Sh.pr (Sh.sl (Sh.int .u8)) (Sh.int .i64)))).T) := fun no =>
  match no with
  | _ => fun _ _ => none
theorem e139 (c161 : Int → Option Bool) (c19 : Int → Int → Bool → Option ((List Int) × Int)) (c46 : List (List Int) → Option (List Int)) (N : Nat) (a0 : Int × (List Int)) : evc (T139 c161 c19 c46) (rawOf (RW139 c161 c19 c46)) (W139 c161 c19 c46 N) (retc k139.res (Sh.tu (Sh.pr (Sh.sl (Sh.int .u8)) (Sh.int .i64)))) (modeOf FT) 0 fuelC k139.body (env0 k139 (encL [(Sh.st (Sh.pr (Sh.int .u8) (Sh.sl (Sh.int .u8))))] (a0, ())), []) (endK (retc k139.res (Sh.tu (Sh.pr (Sh.sl (Sh.int .u8)) (Sh.int .i64))))) = p139 c161 c19 c46 N a0 := by kernel_rfl
theorem ok139 (c161 : Int → Option Bool) (c19 : Int → Int → Bool → Option ((List Int) × Int)) (c46 : List (List Int) → Option (List Int)) (h161 : EntOK FT XT 161 (en161 c161)) (h19 : EntOK FT XT 19 (en19 c19)) (h46 : EntOK FT XT 46 (en46 c46)) {f : Int × (List Int) → Option ((List Int) × Int)} (hf : ∀ a0 r, f a0 = some r → ∃ N, p139 c161 c19 c46 N a0 = some r) : EntOK FT XT 139 (en139 f) := by
  have hT : TabOK FT XT (T139 c161 c19 c46) := by
    intro g en hg
    unfold T139 at hg
    split at hg <;> first | (injection hg with hg; subst hg; assumption) | cases hg
  have hO0 : RawOK FT XT (rawOf (α := ((Sh.tu (Sh.pr (Sh.sl (Sh.int .u8)) (Sh.int .i64)))).T) (RW139 c161 c19 c46)) := by
    refine rawOf_ok (fun g en hg => ?_)
    unfold RW139 at hg
    split at hg <;> simp only [List.mem_cons, List.not_mem_nil, or_false] at hg <;> first | (subst hg; assumption) | (rcases hg with rfl | rfl <;> assumption) | (rcases hg with rfl | rfl | rfl <;> assumption) | (rcases hg with rfl | rfl | rfl | rfl <;> assumption)
  have hO : RawOK FT XT (rawOf (α := ((Sh.tu (Sh.pr (Sh.sl (Sh.int .u8)) (Sh.int .i64)))).T) (RW139 c161 c19 c46)) := hO0
  refine ⟨rfl, fun v r h => ?_⟩
  obtain ⟨a0, _⟩ := v
  obtain ⟨N, h1⟩ := hf _ _ h
  exact ans_c (R := (Sh.tu (Sh.pr (Sh.sl (Sh.int .u8)) (Sh.int .i64)))) (tab := T139 c161 c19 c46) (raw := (rawOf (RW139 c161 c19 c46))) (LP := W139 c161 c19 c46 N) (fu := fuelC) hT hO rfl rfl (Nat.le_of_ble_eq_true rfl) loopOK_nil ((e139 c161 c19 c46 N _).trans h1)

def T142 (c21 : List Int → Bool → Option (Int × Int)) (c161 : Int → Option Bool) (c108 : List Int → Option (List Int)) : Nat → Option Ent
  | 21 => some (en21 c21)
  | 161 => some (en161 c161)
  | 108 => some (en108 c108)
  | _ => none
def RW142 (c21 : List Int → Bool → Option (Int × Int)) (c161 : Int → Option Bool) (c108 : List Int → Option (List Int)) : Nat → List REnt
  | _ => []
def W142 (c21 : List Int → Bool → Option (Int × Int)) (c161 : Int → Option Bool) (c108 : List Int → Option (List Int)) (N : Nat) : LoopF (((Sh.tu (Sh.pr (Sh.st (Sh.pr (Sh.int .u8) (Sh.sl (Sh.int .u8)))) (Sh.pr (Sh.int .i64) (Sh.int .i64))))).T) := fun no =>
  match no with
  | _ => fun _ _ => none
theorem e142 (c21 : List Int → Bool → Option (Int × Int)) (c161 : Int → Option Bool) (c108 : List Int → Option (List Int)) (N : Nat) (a0 : List Int) : evc (T142 c21 c161 c108) (rawOf (RW142 c21 c161 c108)) (W142 c21 c161 c108 N) (retc k142.res (Sh.tu (Sh.pr (Sh.st (Sh.pr (Sh.int .u8) (Sh.sl (Sh.int .u8)))) (Sh.pr (Sh.int .i64) (Sh.int .i64))))) (modeOf FT) 0 fuelC k142.body (env0 k142 (encL [(Sh.sl (Sh.int .u8))] (a0, ())), []) (endK (retc k142.res (Sh.tu (Sh.pr (Sh.st (Sh.pr (Sh.int .u8) (Sh.sl (Sh.int .u8)))) (Sh.pr (Sh.int .i64) (Sh.int .i64)))))) = p142 c21 c161 c108 N a0 := by kernel_rfl
theorem ok142 (c21 : List Int → Bool → Option (Int × Int)) (c161 : Int → Option Bool) (c108 : List Int → Option (List Int)) (h21 : EntOK FT XT 21 (en21 c21)) (h161 : EntOK FT XT 161 (en161 c161)) (h108 : EntOK FT XT 108 (en108 c108)) {f : List Int → Option ((Int × (List Int)) × Int × Int)} (hf : ∀ a0 r, f a0 = some r → ∃ N, p142 c21 c161 c108 N a0 = some r) : EntOK FT XT 142 (en142 f) := by
  have hT : TabOK FT XT (T142 c21 c161 c108) := by
    intro g en hg
    unfold T142 at hg
    split at hg <;> first | (injection hg with hg; subst hg; assumption) | cases hg
  have hO0 : RawOK FT XT (rawOf (α := ((Sh.tu (Sh.pr (Sh.st (Sh.pr (Sh.int .u8) (Sh.sl (Sh.int .u8)))) (Sh.pr (Sh.int .i64) (Sh.int .i64))))).T) (RW142 c21 c161 c108)) := by
    refine rawOf_ok (fun g en hg => ?_)
    unfold RW142 at hg
    split at hg <;> simp only [List.mem_cons, List.not_mem_nil, or_false] at hg <;> first | (subst hg; assumption) | (rcases hg with rfl | rfl <;> assumption) | (rcases hg with rfl | rfl | rfl <;> assumption) | (rcases hg with rfl | rfl | rfl | rfl <;> assumption)
  have hO : RawOK FT XT (rawOf (α := ((Sh.tu (Sh.pr (Sh.st (Sh.pr (Sh.int .u8) (Sh.sl (Sh.int .u8)))) (Sh.pr (Sh.int .i64) (Sh.int .i64))))).T) (RW142 c21 c161 c108)) := hO0
  refine ⟨rfl, fun v r h => ?_⟩
  obtain ⟨a0, _⟩ := v
  obtain ⟨N, h1⟩ := hf _ _ h
  exact ans_c (R := (Sh.tu (Sh.pr (Sh.st (Sh.pr (Sh.int .u8) (Sh.sl (Sh.int .u8)))) (Sh.pr (Sh.int .i64) (Sh.int .i64))))) (tab := T142 c21 c161 c108) (raw := (rawOf (RW142 c21 c161 c108))) (LP := W142 c21 c161 c108 N) (fu := fuelC) hT hO rfl rfl (Nat.le_of_ble_eq_true rfl) loopOK_nil ((e142 c21 c161 c108 N _).trans h1)

def T163 : Nat → Option Ent
  | _ => none
def RW163 : Nat → List REnt
  | _ => []
def W163 (N : Nat) : LoopF (((Sh.tu (Sh.pr (Sh.int .i64) (Sh.pr (Sh.int .i64) (Sh.pr (Sh.int .u8) (Sh.int .u8)))))).T) := fun no =>
  match no with
  | _ => fun _ _ => none
theorem e163 (N : Nat) (a0 : Int) : evc (T163) (rawOf (RW163)) (W163 N) (retc k163.res (Sh.tu (Sh.pr (Sh.int .i64) (Sh.pr (Sh.int .i64) (Sh.pr (Sh.int .u8) (Sh.int .u8)))))) (modeOf FT) 0 fuelC k163.body (env0 k163 (encL [(Sh.int .u8)] (a0, ())), []) (endK (retc k163.res (Sh.tu (Sh.pr (Sh.int .i64) (Sh.pr (Sh.int .i64) (Sh.pr (Sh.int .u8) (Sh.int .u8))))))) = p163 N a0 := by kernel_rfl
theorem ok163 {f : Int → Option (Int × Int × Int × Int)} (hf : ∀ a0 r, f a0 = some r → ∃ N, p163 N a0 = some r) : EntOK FT XT 163 (en163 f) := by
  have hT : TabOK FT XT (T163) := by
    intro g en hg
    unfold T163 at hg
    split at hg <;> first | (injection hg with hg; subst hg; assumption) | cases hg
  have hO0 : RawOK FT XT (rawOf (α := ((Sh.tu (Sh.pr (Sh.int .i64) (Sh.pr (Sh.int .i64) (Sh.pr (Sh.int .u8) (Sh.int .u8)))))).T) (RW163)) := by
    refine rawOf_ok (fun g en hg => ?_)
    unfold RW163 at hg
    split at hg <;> simp only [List.mem_cons, List.not_mem_nil, or_false] at hg <;> first | (subst hg; assumption) | (rcases hg with rfl | rfl <;> assumption) | (rcases hg with rfl | rfl | rfl <;> assumption) | (rcases hg with rfl | rfl | rfl | rfl <;> assumption)
  have hO : RawOK FT XT (rawOf (α := ((Sh.tu (Sh.pr (Sh.int .i64) (Sh.pr (Sh.int .i64) (Sh.pr (Sh.int .u8) (Sh.int .u8)))))).T) (RW163)) := hO0
  refine ⟨rfl, fun v r h => ?_⟩
  obtain ⟨a0, _⟩ := v
  obtain ⟨N, h1⟩ := hf _ _ h
  exact ans_c (R := (Sh.tu (Sh.pr (Sh.int .i64) (Sh.pr (Sh.int .i64) (Sh.pr (Sh.int .u8) (Sh.int .u8)))))) (tab := T163) (raw := (rawOf (RW163))) (LP := W163 N) (fu := fuelC) hT hO rfl rfl (Nat.le_of_ble_eq_true rfl) loopOK_nil ((e163 N _).trans h1)

def T145 (c163 : Int → Option (Int × Int × Int × Int)) (c161 : Int → Option Bool) (c164 : List Int → List Int → Option Bool) : Nat → Option Ent
  | 163 => some (en163 c163)
  | 161 => some (en161 c161)
  | 164 => some (en164 c164)
  | _ => none
def RW145 (c163 : Int → Option (Int × Int × Int × Int)) (c161 : Int → Option Bool) (c164 : List Int → List Int → Option Bool) : Nat → List REnt
  | _ => []
def W145 (c163 : Int → Option (Int × Int × Int × Int)) (c161 : Int → Option Bool) (c164 : List Int → List Int → Option Bool) (N : Nat) : LoopF (((Sh.int .i64)).T) := fun no =>
  match no with
  | _ => fun _ _ => none
theorem e145 (c163 : Int → Option (Int × Int × Int × Int)) (c161 : Int → Option Bool) (c164 : List Int → List Int → Option Bool) (N : Nat) (a0 : Int × (List Int)) : evc (T145 c163 c161 c164) (rawOf (RW145 c163 c161 c164)) (W145 c163 c161 c164 N) (retc k145.res (Sh.int .i64)) (modeOf FT) 0 fuelC k145.body (env0 k145 (encL [(Sh.st (Sh.pr (Sh.int .u8) (Sh.sl (Sh.int .u8))))] (a0, ())), []) (endK (retc k145.res (Sh.int .i64))) = p145 c163 c161 c164 N a0 := by kernel_rfl
theorem ok145 (c163 : Int → Option (Int × Int × Int × Int)) (c161 : Int → Option Bool) (c164 : List Int → List Int → Option Bool) (h163 : EntOK FT XT 163 (en163 c163)) (h161 : EntOK FT XT 161 (en161 c161)) (h164 : EntOK FT XT 164 (en164 c164)) {f : Int × (List Int) → Option Int} (hf : ∀ a0 r, f a0 = some r → ∃ N, p145 c163 c161 c164 N a0 = some r) : EntOK FT XT 145 (en145 f) := by
  have hT : TabOK FT XT (T145 c163 c161 c164) := by
    intro g en hg
    unfold T145 at hg
    split at hg <;> first | (injection hg with hg; subst hg; assumption) | cases hg
  have hO0 : RawOK FT XT (rawOf (α := ((Sh.int .i64)).T) (RW145 c163 c161 c164)) := by
    refine rawOf_ok (fun g en hg => ?_)
    unfold RW145 at hg
    split at hg <;> simp only [List.mem_cons, List.not_mem_nil, or_false] at hg <;> first | (subst hg; assumption) | (rcases hg with rfl | rfl <;> assumption) | (rcases hg with rfl | rfl | rfl <;> assumption) | (rcases hg with rfl | rfl | rfl | rfl <;> assumption)
  have hO : RawOK FT XT (rawOf (α := ((Sh.int .i64)).T) (RW145 c163 c161 c164)) := hO0
  refine ⟨rfl, fun v r h => ?_⟩
  obtain ⟨a0, _⟩ := v
  obtain ⟨N, h1⟩ := hf _ _ h
  exact ans_c (R := (Sh.int .i64)) (tab := T145 c163 c161 c164) (raw := (rawOf (RW145 c163 c161 c164))) (LP := W145 c163 c161 c164 N) (fu := fuelC) hT hO rfl rfl (Nat.le_of_ble_eq_true rfl) loopOK_nil ((e145 c163 c161 c164 N _).trans h1)

def T167 (c145 : Int × (List Int) → Option Int) : Nat → Option Ent
  | 145 => some (en145 c145)
  | _ => none
def RW167 (c145 : Int × (List Int) → Option Int) : Nat → List REnt
  | _ => []
def W167 (c145 : Int × (List Int) → Option Int) (N : Nat) : LoopF (((Sh.int .i64)).T) := fun no =>
  match no with
  | _ => fun _ _ => none
theorem e167 (c145 : Int × (List Int) → Option Int) (N : Nat) (a0 : Int × (List Int)) (a1 : Int) : evc (T167 c145) (rawOf (RW167 c145)) (W167 c145 N) (retc k167.res (Sh.int .i64)) (modeOf FT) 0 fuelC k167.body (env0 k167 (encL [(Sh.st (Sh.pr (Sh.int .u8) (Sh.sl (Sh.int .u8)))), (Sh.int .u8)] (a0, (a1, ()))), []) (endK (retc k167.res (Sh.int .i64))) = p167 c145 N a0 a1 := by kernel_rfl
theorem ok167 (c145 : Int × (List Int) → Option Int) (h145 : EntOK FT XT 145 (en145 c145)) {f : Int × (List Int) → Int → Option Int} (hf : ∀ a0 a1 r, f a0 a1 = some r → ∃ N, p167 c145 N a0 a1 = some r) : EntOK FT XT 167 (en167 f) := by
  have hT : TabOK FT XT (T167 c145) := by
    intro g en hg
    unfold T167 at hg
    split at hg <;> first | (injection hg with hg; subst hg; assumption) | cases hg
  have hO0 : RawOK FT XT (rawOf (α := ((Sh.int .i64)).T) (RW167 c145)) := by
    refine rawOf_ok (fun g en hg => ?_)
    unfold RW167 at hg
    split at hg <;> simp only [List.mem_cons, List.not_mem_nil, or_false] at hg <;> first | (subst hg; assumption) | (rcases hg with rfl | rfl <;> assumption) | (rcases hg with rfl | rfl | rfl <;> assumption) | (rcases hg with rfl | rfl | rfl | rfl <;> assumption)
  have hO : RawOK FT XT (rawOf (α := ((Sh.int .i64)).T) (RW167 c145)) := hO0
  refine ⟨rfl, fun v r h => ?_⟩
  obtain ⟨a0, a1, _⟩ := v
  obtain ⟨N, h1⟩ := hf _ _ _ h
  exact ans_c (R := (Sh.int .i64)) (tab := T167 c145) (raw := (rawOf (RW167 c145))) (LP := W167 c145 N) (fu := fuelC) hT hO rfl rfl (Nat.le_of_ble_eq_true rfl) loopOK_nil ((e167 c145 N _ _).trans h1)

def T156 (c167 : Int × (List Int) → Int → Option Int) (c21 : List Int → Bool → Option (Int × Int)) : Nat → Option Ent
  | 167 => some (en167 c167)
  | 21 => some (en21 c21)
  | _ => none
def RW156 (c167 : Int × (List Int) → Int → Option Int) (c21 : List Int → Bool → Option (Int × Int)) : Nat → List REnt
  | _ => []
def W156 (c167 : Int × (List Int) → Int → Option Int) (c21 : List Int → Bool → Option (Int × Int)) (N : Nat) : LoopF (((Sh.tu (Sh.pr (Sh.int .u16) (Sh.int .i64)))).T) := fun no =>
  match no with
  | _ => fun _ _ => none
theorem e156 (c167 : Int × (List Int) → Int → Option Int) (c21 : List Int → Bool → Option (Int × Int)) (N : Nat) (a0 : Int × (List Int)) : evc (T156 c167 c21) (rawOf (RW156 c167 c21)) (W156 c167 c21 N) (retc k156.res (Sh.tu (Sh.pr (Sh.int .u16) (Sh.int .i64)))) (modeOf FT) 0 fuelC k156.body (env0 k156 (encL [(Sh.st (Sh.pr (Sh.int .u8) (Sh.sl (Sh.int .u8))))] (a0, ())), []) (endK (retc k156.res (Sh.tu (Sh.pr (Sh.int .u16) (Sh.int .i64))))) = p156 c167 c21 N a0 := by kernel_rfl
theorem ok156 (c167 : Int × (List Int) → Int → Option Int) (c21 : List Int → Bool → Option (Int × Int)) (h167 : EntOK FT XT 167 (en167 c167)) (h21 : EntOK FT XT 21 (en21 c21)) {f : Int × (List Int) → Option (Int × Int)} (hf : ∀ a0 r, f a0 = some r → ∃ N, p156 c167 c21 N a0 = some r) : EntOK FT XT 156 (en156 f) := by
  have hT : TabOK FT XT (T156 c167 c21) := by
    intro g en hg
    unfold T156 at hg
    split at hg <;> first | (injection hg with hg; subst hg; assumption) | cases hg
  have hO0 : RawOK FT XT (rawOf (α := ((Sh.tu (Sh.pr (Sh.int .u16) (Sh.int .i64)))).T) (RW156 c167 c21)) := by
    refine rawOf_ok (fun g en hg => ?_)
    unfold RW156 at hg
    split at hg <;> simp only [List.mem_cons, List.not_mem_nil, or_false] at hg <;> first | (subst hg; assumption) | (rcases hg with rfl | rfl <;> assumption) | (rcases hg with rfl | rfl | rfl <;> assumption) | (rcases hg with rfl | rfl | rfl | rfl <;> assumption)
  have hO : RawOK FT XT (rawOf (α := ((Sh.tu (Sh.pr (Sh.int .u16) (Sh.int .i64)))).T) (RW156 c167 c21)) := hO0
  refine ⟨rfl, fun v r h => ?_⟩
  obtain ⟨a0, _⟩ := v
  obtain ⟨N, h1⟩ := hf _ _ h
  exact ans_c (R := (Sh.tu (Sh.pr (Sh.int .u16) (Sh.int .i64)))) (tab := T156 c167 c21) (raw := (rawOf (RW156 c167 c21))) (LP := W156 c167 c21 N) (fu := fuelC) hT hO rfl rfl (Nat.le_of_ble_eq_true rfl) loopOK_nil ((e156 c167 c21 N _).trans h1)

def T166 : Nat → Option Ent
  | _ => none
def RW166 : Nat → List REnt
  | _ => []
def W166 (N : Nat) : LoopF (((Sh.sl (Sh.int .u8))).T) := fun no =>
  match no with
  | _ => fun _ _ => none
theorem e166 (N : Nat) (a0 : Int) : evc (T166) (rawOf (RW166)) (W166 N) (retc k166.res (Sh.sl (Sh.int .u8))) (modeOf FT) 0 fuelC k166.body (env0 k166 (encL [(Sh.int .u8)] (a0, ())), []) (endK (retc k166.res (Sh.sl (Sh.int .u8)))) = p166 N a0 := by kernel_rfl
theorem ok166 {f : Int → Option (List Int)} (hf : ∀ a0 r, f a0 = some r → ∃ N, p166 N a0 = some r) : EntOK FT XT 166 (en166 f) := by
  have hT : TabOK FT XT (T166) := by
    intro g en hg
    unfold T166 at hg
    split at hg <;> first | (injection hg with hg; subst hg; assumption) | cases hg
  have hO0 : RawOK FT XT (rawOf (α := ((Sh.sl (Sh.int .u8))).T) (RW166)) := by
    refine rawOf_ok (fun g en hg => ?_)
    unfold RW166 at hg
    split at hg <;> simp only [List.mem_cons, List.not_mem_nil, or_false] at hg <;> first | (subst hg; assumption) | (rcases hg with rfl | rfl <;> assumption) | (rcases hg with rfl | rfl | rfl <;> assumption) | (rcases hg with rfl | rfl | rfl | rfl <;> assumption)
  have hO : RawOK FT XT (rawOf (α := ((Sh.sl (Sh.int .u8))).T) (RW166)) := hO0
  refine ⟨rfl, fun v r h => ?_⟩
  obtain ⟨a0, _⟩ := v
  obtain ⟨N, h1⟩ := hf _ _ h
  exact ans_c (R := (Sh.sl (Sh.int .u8))) (tab := T166) (raw := (rawOf (RW166))) (LP := W166 N) (fu := fuelC) hT hO rfl rfl (Nat.le_of_ble_eq_true rfl) loopOK_nil ((e166 N _).trans h1)

def T149 (c166 : Int → Option (List Int)) (c46 : List (List Int) → Option (List Int)) : Nat → Option Ent
  | 166 => some (en166 c166)
  | 46 => some (en46 c46)
  | _ => none
def RW149 (c166 : Int → Option (List Int)) (c46 : List (List Int) → Option (List Int)) : Nat → List REnt
  | _ => []
def W149 (c166 : Int → Option (List Int)) (c46 : List (List Int) → Option (List Int)) (N : Nat) : LoopF (((Sh.st (Sh.pr (Sh.int .u8) (Sh.sl (Sh.int .u8))))).T) := fun no =>
  match no with
  | _ => fun _ _ => none
theorem e149 (c166 : Int → Option (List Int)) (c46 : List (List Int) → Option (List Int)) (N : Nat) (a0 : List Int) : evc (T149 c166 c46) (rawOf (RW149 c166 c46)) (W149 c166 c46 N) (retc k149.res (Sh.st (Sh.pr (Sh.int .u8) (Sh.sl (Sh.int .u8))))) (modeOf FT) 0 fuelC k149.body (env0 k149 (encL [(Sh.ar .u8)] (a0, ())), []) (endK (retc k149.res (Sh.st (Sh.pr (Sh.int .u8) (Sh.sl (Sh.int .u8)))))) = p149 c166 c46 N a0 := by kernel_rfl
theorem ok149 (c166 : Int → Option (List Int)) (c46 : List (List Int) → Option (List Int)) (h166 : EntOK FT XT 166 (en166 c166)) (h46 : EntOK FT XT 46 (en46 c46)) {f : List Int → Option (Int × (List Int))} (hf : ∀ a0 r, f a0 = some r → ∃ N, p149 c166 c46 N a0 = some r) : EntOK FT XT 149 (en149 f) := by
  have hT : TabOK FT XT (T149 c166 c46) := by
    intro g en hg
    unfold T149 at hg
    split at hg <;> first | (injection hg with hg; subst hg; assumption) | cases hg
  have hO0 : RawOK FT XT (rawOf (α := ((Sh.st (Sh.pr (Sh.int .u8) (Sh.sl (Sh.int .u8))))).T) (RW149 c166 c46)) := by
    refine rawOf_ok (fun g en hg => ?_)
    unfold RW149 at hg
    split at hg <;> simp only [List.mem_cons, List.not_mem_nil, or_false] at hg <;> first | (subst hg; assumption) | (rcases hg with rfl | rfl <;> assumption) | (rcases hg with rfl | rfl | rfl <;> assumption) | (rcases hg with rfl | rfl | rfl | rfl <;> assumption)
  have hO : RawOK FT XT (rawOf (α := ((Sh.st (Sh.pr (Sh.int .u8) (Sh.sl (Sh.int .u8))))).T) (RW149 c166 c46)) := hO0
  refine ⟨rfl, fun v r h => ?_⟩
  obtain ⟨a0, _⟩ := v
  obtain ⟨N, h1⟩ := hf _ _ h
  exact ans_c (R := (Sh.st (Sh.pr (Sh.int .u8) (Sh.sl (Sh.int .u8))))) (tab := T149 c166 c46) (raw := (rawOf (RW149 c166 c46))) (LP := W149 c166 c46 N) (fu := fuelC) hT hO rfl rfl (Nat.le_of_ble_eq_true rfl) loopOK_nil ((e149 c166 c46 N _).trans h1)

def T155 (c167 : Int × (List Int) → Int → Option Int) : Nat → Option Ent
  | 167 => some (en167 c167)
  | _ => none
def RW155 (c167 : Int × (List Int) → Int → Option Int) : Nat → List REnt
  | _ => []
def W155 (c167 : Int × (List Int) → Int → Option Int) (N : Nat) : LoopF (((Sh.tu (Sh.pr (Sh.ar .u8) (Sh.int .i64)))).T) := fun no =>
  match no with
  | _ => fun _ _ => none
theorem e155 (c167 : Int × (List Int) → Int → Option Int) (N : Nat) (a0 : Int × (List Int)) : evc (T155 c167) (rawOf (RW155 c167)) (W155 c167 N) (retc k155.res (Sh.tu (Sh.pr (Sh.ar .u8) (Sh.int .i64)))) (modeOf FT) 0 fuelC k155.body (env0 k155 (encL [(Sh.st (Sh.pr (Sh.int .u8) (Sh.sl (Sh.int .u8))))] (a0, ())), []) (endK (retc k155.res (Sh.tu (Sh.pr (Sh.ar .u8) (Sh.int .i64))))) = p155 c167 N a0 := by kernel_rfl
theorem ok155 (c167 : Int × (List Int) → Int → Option Int) (h167 : EntOK FT XT 167 (en167 c167)) {f : Int × (List Int) → Option ((List Int) × Int)} (hf : ∀ a0 r, f a0 = some r → ∃ N, p155 c167 N a0 = some r) : EntOK FT XT 155 (en155 f) := by
  have hT : TabOK FT XT (T155 c167) := by
    intro g en hg
    unfold T155 at hg
    split at hg <;> first | (injection hg with hg; subst hg; assumption) | cases hg
  have hO0 : RawOK FT XT (rawOf (α := ((Sh.tu (Sh.pr (Sh.ar .u8) (Sh.int .i64)))).T) (RW155 c167)) := by
    refine rawOf_ok (fun g en hg => ?_)
    unfold RW155 at hg
    split at hg <;> simp only [List.mem_cons, List.not_mem_nil, or_false] at hg <;> first | (subst hg; assumption) | (rcases hg with rfl | rfl <;> assumption) | (rcases hg with rfl | rfl | rfl <;> assumption) | (rcases hg with rfl | rfl | rfl | rfl <;> assumption)
  have hO : RawOK FT XT (rawOf (α := ((Sh.tu (Sh.pr (Sh.ar .u8) (Sh.int .i64)))).T) (RW155 c167)) := hO0
  refine ⟨rfl, fun v r h => ?_⟩
  obtain ⟨a0, _⟩ := v
  obtain ⟨N, h1⟩ := hf _ _ h
  exact ans_c (R := (Sh.tu (Sh.pr (Sh.ar .u8) (Sh.int .i64)))) (tab := T155 c167) (raw := (rawOf (RW155 c167))) (LP := W155 c167 N) (fu := fuelC) hT hO rfl rfl (Nat.le_of_ble_eq_true rfl) loopOK_nil ((e155 c167 N _).trans h1)

def T144 (c160 : List Int → List Int → Option Bool) : Nat → Option Ent
  | 160 => some (en160 c160)
  | _ => none
def RW144 (c160 : List Int → List Int → Option Bool) : Nat → List REnt
  | _ => []
def W144 (c160 : List Int → List Int → Option Bool) (N : Nat) : LoopF (Sh.bool).T := fun no =>
  match no with
  | _ => fun _ _ => none
theorem e144 (c160 : List Int → List Int → Option Bool) (N : Nat) (a0 : Int × (List Int)) (a1 : Int × (List Int)) : evc (T144 c160) (rawOf (RW144 c160)) (W144 c160 N) (retc k144.res Sh.bool) (modeOf FT) 0 fuelC k144.body (env0 k144 (encL [(Sh.st (Sh.pr (Sh.int .u8) (Sh.sl (Sh.int .u8)))), (Sh.st (Sh.pr (Sh.int .u8) (Sh.sl (Sh.int .u8))))] (a0, (a1, ()))), []) (endK (retc k144.res Sh.bool)) = p144 c160 N a0 a1 := by kernel_rfl
theorem ok144 (c160 : List Int → List Int → Option Bool) (h160 : EntOK FT XT 160 (en160 c160)) {f : Int × (List Int) → Int × (List Int) → Option Bool} (hf : ∀ a0 a1 r, f a0 a1 = some r → ∃ N, p144 c160 N a0 a1 = some r) : EntOK FT XT 144 (en144 f) := by
  have hT : TabOK FT XT (T144 c160) := by
    intro g en hg
    unfold T144 at hg
    split at hg <;> first | (injection hg with hg; subst hg; assumption) | cases hg
  have hO0 : RawOK FT XT (rawOf (α := (Sh.bool).T) (RW144 c160)) := by
    refine rawOf_ok (fun g en hg => ?_)
    unfold RW144 at hg
    split at hg <;> simp only [List.mem_cons, List.not_mem_nil, or_false] at hg <;> first | (subst hg; assumption) | (rcases hg with rfl | rfl <;> assumption) | (rcases hg with rfl | rfl | rfl <;> assumption) | (rcases hg with rfl | rfl | rfl | rfl <;> assumption)
  have hO : RawOK FT XT (rawOf (α := (Sh.bool).T) (RW144 c160)) := hO0
  refine ⟨rfl, fun v r h => ?_⟩
  obtain ⟨a0, a1, _⟩ := v
  obtain ⟨N, h1⟩ := hf _ _ _ h
  exact ans_c (R := Sh.bool) (tab := T144 c160) (raw := (rawOf (RW144 c160))) (LP := W144 c160 N) (fu := fuelC) hT hO rfl rfl (Nat.le_of_ble_eq_true rfl) loopOK_nil ((e144 c160 N _ _).trans h1)

def T138 (c157 : Int → Option (Int × (List Int))) (c139 : Int × (List Int) → Option ((List Int) × Int)) (c142 : List Int → Option ((Int × (List Int)) × Int × Int)) (c156 : Int × (List Int) → Option (Int × Int)) (c149 : List Int → Option (Int × (List Int))) (c155 : Int × (List Int) → Option ((List Int) × Int)) (c144 : Int × (List Int) → Int × (List Int) → Option Bool) : Nat → Option Ent
  | 157 => some (en157 c157)
  | 139 => some (en139 c139)
  | 142 => some (en142 c142)
  | 156 => some (en156 c156)
  | 149 => some (en149 c149)
  | 155 => some (en155 c155)
  | 144 => some (en144 c144)
  | _ => none
def RW138 (c157 : Int → Option (Int × (List Int))) (c139 : Int × (List Int) → Option ((List Int) × Int)) (c142 : List Int → Option ((Int × (List Int)) × Int × Int)) (c156 : Int × (List Int) → Option (Int × Int)) (c149 : List Int → Option (Int × (List Int))) (c155 : Int × (List Int) → Option ((List Int) × Int)) (c144 : Int × (List Int) → Int × (List Int) → Option Bool) : Nat → List REnt
  | _ => []
def W138 (c157 : Int → Option (Int × (List Int))) (c139 : Int × (List Int) → Option ((List Int) × Int)) (c142 : List Int → Option ((Int × (List Int)) × Int × Int)) (c156 : Int × (List Int) → Option (Int × Int)) (c149 : List Int → Option (Int × (List Int))) (c155 : Int × (List Int) → Option ((List Int) × Int)) (c144 : Int × (List Int) → Int × (List Int) → Option Bool) (N : Nat) : LoopF (Sh.bool).T := fun no =>
  match no with
  | _ => fun _ _ => none
theorem e138 (c157 : Int → Option (Int × (List Int))) (c139 : Int × (List Int) → Option ((List Int) × Int)) (c142 : List Int → Option ((Int × (List Int)) × Int × Int)) (c156 : Int × (List Int) → Option (Int × Int)) (c149 : List Int → Option (Int × (List Int))) (c155 : Int × (List Int) → Option ((List Int) × Int)) (c144 : Int × (List Int) → Int × (List Int) → Option Bool) (N : Nat)  : evc (T138 c157 c139 c142 c156 c149 c155 c144) (rawOf (RW138 c157 c139 c142 c156 c149 c155 c144)) (W138 c157 c139 c142 c156 c149 c155 c144 N) (retc k138.res Sh.bool) (modeOf FT) 0 fuelC k138.body (env0 k138 (encL [] ()), []) (endK (retc k138.res Sh.bool)) = p138 c157 c139 c142 c156 c149 c155 c144 N  := by kernel_rfl
theorem ok138 (c157 : Int → Option (Int × (List Int))) (c139 : Int × (List Int) → Option ((List Int) × Int)) (c142 : List Int → Option ((Int × (List Int)) × Int × Int)) (c156 : Int × (List Int) → Option (Int × Int)) (c149 : List Int → Option (Int × (List Int))) (c155 : Int × (List Int) → Option ((List Int) × Int)) (c144 : Int × (List Int) → Int × (List Int) → Option Bool) (h157 : EntOK FT XT 157 (en157 c157)) (h139 : EntOK FT XT 139 (en139 c139)) (h142 : EntOK FT XT 142 (en142 c142)) (h156 : EntOK FT XT 156 (en156 c156)) (h149 : EntOK FT XT 149 (en149 c149)) (h155 : EntOK FT XT 155 (en155 c155)) (h144 : EntOK FT XT 144 (en144 c144)) {f : Option Bool} (hf : ∀  r, f  = some r → ∃ N, p138 c157 c139 c142 c156 c149 c155 c144 N  = some r) : EntOK FT XT 138 (en138 f) := by
  have hT : TabOK FT XT (T138 c157 c139 c142 c156 c149 c155 c144) := by
    intro g en hg
    unfold T138 at hg
    split at hg <;> first | (injection hg with hg; subst hg; assumption) | cases hg
  have hO0 : RawOK FT XT (rawOf (α := (Sh.bool).T) (RW138 c157 c139 c142 c156 c149 c155 c144)) := by
    refine rawOf_ok (fun g en hg => ?_)
    unfold RW138 at hg
    split at hg <;> simp only [List.mem_cons, List.not_mem_nil, or_false] at hg <;> first | (subst hg; assumption) | (rcases hg with rfl | rfl <;> assumption) | (rcases hg with rfl | rfl | rfl <;> assumption) | (rcases hg with rfl | rfl | rfl | rfl <;> assumption)
  have hO : RawOK FT XT (rawOf (α := (Sh.bool).T) (RW138 c157 c139 c142 c156 c149 c155 c144)) := hO0
  refine ⟨rfl, fun v r h => ?_⟩
  obtain ⟨N, h1⟩ := hf _ h
  exact ans_c (R := Sh.bool) (tab := T138 c157 c139 c142 c156 c149 c155 c144) (raw := (rawOf (RW138 c157 c139 c142 c156 c149 c155 c144))) (LP := W138 c157 c139 c142 c156 c149 c155 c144 N) (fu := fuelC) hT hO rfl rfl (Nat.le_of_ble_eq_true rfl) loopOK_nil ((e138 c157 c139 c142 c156 c149 c155 c144 N ).trans h1)

def T140 : Nat → Option Ent
  | _ => none
def RW140 : Nat → List REnt
  | _ => []
def W140 (N : Nat) : LoopF (((Sh.st (Sh.pr (Sh.int .u8) (Sh.sl (Sh.int .u8))))).T) := fun no =>
  match no with
  | _ => fun _ _ => none
theorem e140 (N : Nat) (a0 : Int × (List Int)) : evc (T140) (rawOf (RW140)) (W140 N) (retc k140.res (Sh.st (Sh.pr (Sh.int .u8) (Sh.sl (Sh.int .u8))))) (modeOf FT) 0 fuelC k140.body (env0 k140 (encL [(Sh.st (Sh.pr (Sh.int .u8) (Sh.sl (Sh.int .u8))))] (a0, ())), []) (endK (retc k140.res (Sh.st (Sh.pr (Sh.int .u8) (Sh.sl (Sh.int .u8)))))) = p140 N a0 := by kernel_rfl
theorem ok140 {f : Int × (List Int) → Option (Int × (List Int))} (hf : ∀ a0 r, f a0 = some r → ∃ N, p140 N a0 = some r) : EntOK FT XT 140 (en140 f) := by
  have hT : TabOK FT XT (T140) := by
    intro g en hg
    unfold T140 at hg
    split at hg <;> first | (injection hg with hg; subst hg; assumption) | cases hg
  have hO0 : RawOK FT XT (rawOf (α := ((Sh.st (Sh.pr (Sh.int .u8) (Sh.sl (Sh.int .u8))))).T) (RW140)) := by
    refine rawOf_ok (fun g en hg => ?_)
    unfold RW140 at hg
    split at hg <;> simp only [List.mem_cons, List.not_mem_nil, or_false] at hg <;> first | (subst hg; assumption) | (rcases hg with rfl | rfl <;> assumption) | (rcases hg with rfl | rfl | rfl <;> assumption) | (rcases hg with rfl | rfl | rfl | rfl <;> assumption)
  have hO : RawOK FT XT (rawOf (α := ((Sh.st (Sh.pr (Sh.int .u8) (Sh.sl (Sh.int .u8))))).T) (RW140)) := hO0
  refine ⟨rfl, fun v r h => ?_⟩
  obtain ⟨a0, _⟩ := v
  obtain ⟨N, h1⟩ := hf _ _ h
  exact ans_c (R := (Sh.st (Sh.pr (Sh.int .u8) (Sh.sl (Sh.int .u8))))) (tab := T140) (raw := (rawOf (RW140))) (LP := W140 N) (fu := fuelC) hT hO rfl rfl (Nat.le_of_ble_eq_true rfl) loopOK_nil ((e140 N _).trans h1)

def T162 : Nat → Option Ent
  | _ => none
def RW162 : Nat → List REnt
  | _ => []
def W162 (N : Nat) : LoopF (Sh.bool).T := fun no =>
  match no with
  | _ => fun _ _ => none
theorem e162 (N : Nat) (a0 : Int) : evc (T162) (rawOf (RW162)) (W162 N) (retc k162.res Sh.bool) (modeOf FT) 0 fuelC k162.body (env0 k162 (encL [(Sh.int .u8)] (a0, ())), []) (endK (retc k162.res Sh.bool)) = p162 N a0 := by kernel_rfl
theorem ok162 {f : Int → Option Bool} (hf : ∀ a0 r, f a0 = some r → ∃ N, p162 N a0 = some r) : EntOK FT XT 162 (en162 f) := by
  have hT : TabOK FT XT (T162) := by
    intro g en hg
    unfold T162 at hg
    split at hg <;> first | (injection hg with hg; subst hg; assumption) | cases hg
  have hO0 : RawOK FT XT (rawOf (α := (Sh.bool).T) (RW162)) := by
    refine rawOf_ok (fun g en hg => ?_)
    unfold RW162 at hg
    split at hg <;> simp only [List.mem_cons, List.not_mem_nil, or_false] at hg <;> first | (subst hg; assumption) | (rcases hg with rfl | rfl <;> assumption) | (rcases hg with rfl | rfl | rfl <;> assumption) | (rcases hg with rfl | rfl | rfl | rfl <;> assumption)
  have hO : RawOK FT XT (rawOf (α := (Sh.bool).T) (RW162)) := hO0
  refine ⟨rfl, fun v r h => ?_⟩
  obtain ⟨a0, _⟩ := v
  obtain ⟨N, h1⟩ := hf _ _ h
  exact ans_c (R := Sh.bool) (tab := T162) (raw := (rawOf (RW162))) (LP := W162 N) (fu := fuelC) hT hO rfl rfl (Nat.le_of_ble_eq_true rfl) loopOK_nil ((e162 N _).trans h1)

def T141 (c162 : Int → Option Bool) (c50 : Int → Int → Option (List Int)) : Nat → Option Ent
  | 162 => some (en162 c162)
  | 50 => some (en50 c50)
  | _ => none
def RW141 (c162 : Int → Option Bool) (c50 : Int → Int → Option (List Int)) : Nat → List REnt
  | _ => []
def W141 (c162 : Int → Option Bool) (c50 : Int → Int → Option (List Int)) (N : Nat) : LoopF (((Sh.tu (Sh.pr (Sh.sl (Sh.int .u8)) (Sh.int .i64)))).T) := fun no =>
  match no with
  | _ => fun _ _ => none
theorem e141 (c162 : Int → Option Bool) (c50 : Int → Int → Option (List Int)) (N : Nat) (a0 : Int × (List Int)) : evc (T141 c162 c50) (rawOf (RW141 c162 c50)) (W141 c162 c50 N) (retc k141.res (Sh.tu (Sh.pr (Sh.sl (Sh.int .u8)) (Sh.int .i64)))) (modeOf FT) 0 fuelC k141.body (env0 k141 (encL [(Sh.st (Sh.pr (Sh.int .u8) (Sh.sl (Sh.int .u8))))] (a0, ())), []) (endK (retc k141.res (Sh.tu (Sh.pr (Sh.sl (Sh.int .u8)) (Sh.int .i64))))) = p141 c162 c50 N a0 := by kernel_rfl
theorem ok141 (c162 : Int → Option Bool) (c50 : Int → Int → Option (List Int)) (h162 : EntOK FT XT 162 (en162 c162)) (h50 : EntOK FT XT 50 (en50 c50)) {f : Int × (List Int) → Option ((List Int) × Int)} (hf : ∀ a0 r, f a0 = some r → ∃ N, p141 c162 c50 N a0 = some r) : EntOK FT XT 141 (en141 f) := by
  have hT : TabOK FT XT (T141 c162 c50) := by
    intro g en hg
    unfold T141 at hg
    split at hg <;> first | (injection hg with hg; subst hg; assumption) | cases hg
  have hO0 : RawOK FT XT (rawOf (α := ((Sh.tu (Sh.pr (Sh.sl (Sh.int .u8)) (Sh.int .i64)))).T) (RW141 c162 c50)) := by
    refine rawOf_ok (fun g en hg => ?_)
    unfold RW141 at hg
    split at hg <;> simp only [List.mem_cons, List.not_mem_nil, or_false] at hg <;> first | (subst hg; assumption) | (rcases hg with rfl | rfl <;> assumption) | (rcases hg with rfl | rfl | rfl <;> assumption) | (rcases hg with rfl | rfl | rfl | rfl <;> assumption)
  have hO : RawOK FT XT (rawOf (α := ((Sh.tu (Sh.pr (Sh.sl (Sh.int .u8)) (Sh.int .i64)))).T) (RW141 c162 c50)) := hO0
  refine ⟨rfl, fun v r h => ?_⟩
  obtain ⟨a0, _⟩ := v
  obtain ⟨N, h1⟩ := hf _ _ h
  exact ans_c (R := (Sh.tu (Sh.pr (Sh.sl (Sh.int .u8)) (Sh.int .i64)))) (tab := T141 c162 c50) (raw := (rawOf (RW141 c162 c50))) (LP := W141 c162 c50 N) (fu := fuelC) hT hO rfl rfl (Nat.le_of_ble_eq_true rfl) loopOK_nil ((e141 c162 c50 N _).trans h1)

def T143 (c51 : List Int → Option Int) (c162 : Int → Option Bool) : Nat → Option Ent
  | 51 => some (en51 c51)
  | 162 => some (en162 c162)
  | _ => none
def RW143 (c51 : List Int → Option Int) (c162 : Int → Option Bool) : Nat → List REnt
  | _ => []
def W143 (c51 : List Int → Option Int) (c162 : Int → Option Bool) (N : Nat) : LoopF (((Sh.tu (Sh.pr (Sh.st (Sh.pr (Sh.int .u8) (Sh.sl (Sh.int .u8)))) (Sh.pr (Sh.int .i64) (Sh.int .i64))))).T) := fun no =>
  match no with
  | _ => fun _ _ => none
theorem e143 (c51 : List Int → Option Int) (c162 : Int → Option Bool) (N : Nat) (a0 : List Int) : evc (T143 c51 c162) (rawOf (RW143 c51 c162)) (W143 c51 c162 N) (retc k143.res (Sh.tu (Sh.pr (Sh.st (Sh.pr (Sh.int .u8) (Sh.sl (Sh.int .u8)))) (Sh.pr (Sh.int .i64) (Sh.int .i64))))) (modeOf FT) 0 fuelC k143.body (env0 k143 (encL [(Sh.sl (Sh.int .u8))] (a0, ())), []) (endK (retc k143.res (Sh.tu (Sh.pr (Sh.st (Sh.pr (Sh.int .u8) (Sh.sl (Sh.int .u8)))) (Sh.pr (Sh.int .i64) (Sh.int .i64)))))) = p143 c51 c162 N a0 := by kernel_rfl
theorem ok143 (c51 : List Int → Option Int) (c162 : Int → Option Bool) (h51 : EntOK FT XT 51 (en51 c51)) (h162 : EntOK FT XT 162 (en162 c162)) {f : List Int → Option ((Int × (List Int)) × Int × Int)} (hf : ∀ a0 r, f a0 = some r → ∃ N, p143 c51 c162 N a0 = some r) : EntOK FT XT 143 (en143 f) := by
  have hT : TabOK FT XT (T143 c51 c162) := by
    intro g en hg
    unfold T143 at hg
    split at hg <;> first | (injection hg with hg; subst hg; assumption) | cases hg
  have hO0 : RawOK FT XT (rawOf (α := ((Sh.tu (Sh.pr (Sh.st (Sh.pr (Sh.int .u8) (Sh.sl (Sh.int .u8)))) (Sh.pr (Sh.int .i64) (Sh.int .i64))))).T) (RW143 c51 c162)) := by
    refine rawOf_ok (fun g en hg => ?_)
    unfold RW143 at hg
    split at hg <;> simp only [List.mem_cons, List.not_mem_nil, or_false] at hg <;> first | (subst hg; assumption) | (rcases hg with rfl | rfl <;> assumption) | (rcases hg with rfl | rfl | rfl <;> assumption) | (rcases hg with rfl | rfl | rfl | rfl <;> assumption)
  have hO : RawOK FT XT (rawOf (α := ((Sh.tu (Sh.pr (Sh.st (Sh.pr (Sh.int .u8) (Sh.sl (Sh.int .u8)))) (Sh.pr (Sh.int .i64) (Sh.int .i64))))).T) (RW143 c51 c162)) := hO0
  refine ⟨rfl, fun v r h => ?_⟩
  obtain ⟨a0, _⟩ := v
  obtain ⟨N, h1⟩ := hf _ _ h
  exact ans_c (R := (Sh.tu (Sh.pr (Sh.st (Sh.pr (Sh.int .u8) (Sh.sl (Sh.int .u8)))) (Sh.pr (Sh.int .i64) (Sh.int .i64))))) (tab := T143 c51 c162) (raw := (rawOf (RW143 c51 c162))) (LP := W143 c51 c162 N) (fu := fuelC) hT hO rfl rfl (Nat.le_of_ble_eq_true rfl) loopOK_nil ((e143 c51 c162 N _).trans h1)

def T165 : Nat → Option Ent
  | _ => none
def RW165 : Nat → List REnt
  | _ => []
def H165_0 : Trim := ⟨0, [], false, [0, 3], []⟩
theorem l165_0 : loopN k165 0 = .loop H165_0 (bodyOf (loopN k165 0)) := by kernel_rfl
def P165_0 : Ps := ⟨[(0, (.tb (Sh.int .u8))), (2, .u), (3, (.int .i64)), (7, .u), (14, .u)], []⟩
def Q165_0 : Nat → Ps
  | 0 => ⟨[(0, .u), (2, .u), (3, .u), (7, .u), (14, .u)], []⟩
  | _ => noPs
def u165_0 (N n : Nat) (v : P165_0.T) (κ : (i : Nat) → (Q165_0 i).T → Option (Sh.bool).T) : Option (Sh.bool).T :=
  L165_0 N (κ 0 (((), ((), ((), ((), ((), ()))))), ())) n v.1.1 v.1.2.2.1
def W165_0 (N : Nat) : LoopF (Sh.bool).T := fun no =>
  match no with
  | _ => fun _ _ => none
theorem b165_0 (N n : Nat) (v : P165_0.T) (κ : (i : Nat) → (Q165_0 i).T → Option (Sh.bool).T) :
    evc (T165) (rawOf (RW165)) (W165_0 N) (retc k165.res Sh.bool) (modeOf FT) 0 fuelC (bodyOf (loopN k165 0)) (P165_0.st v) (roundK 0 H165_0 P165_0 Q165_0 (u165_0 N n) κ) = u165_0 N (n + 1) v κ := by kernel_rfl
theorem o165_0 (hT : TabOK FT XT (T165)) (hO : RawOK FT XT (rawOf (α := (Sh.bool).T) (RW165))) (N : Nat) {s : St} {κ : Ex → St → Option (Sh.bool).T} {a : (Sh.bool).T} (h : lpOf 0 H165_0 P165_0 Q165_0 (u165_0 N N) s κ = some a) : Out FT XT 0 (retc k165.res Sh.bool) (loopN k165 0) s κ a := by
  rw [l165_0]
  exact loop_out (LP := W165_0 N) (fu := fuelC) hT hO (fun _ _ => rfl) (b165_0 N) loopOK_nil N h
def W165 (N : Nat) : LoopF (Sh.bool).T := fun no =>
  match no with
  | 0 => lpOf 0 H165_0 P165_0 Q165_0 (u165_0 N N)
  | _ => fun _ _ => none
theorem e165 (N : Nat) (a0 : List Int) : evc (T165) (rawOf (RW165)) (W165 N) (retc k165.res Sh.bool) (modeOf FT) 0 fuelC k165.body (env0 k165 (encL [(Sh.sl (Sh.int .u8))] (a0, ())), []) (endK (retc k165.res Sh.bool)) = p165 N a0 := by kernel_rfl
theorem ok165 {f : List Int → Option Bool} (hf : ∀ a0 r, f a0 = some r → ∃ N, p165 N a0 = some r) : EntOK FT XT 165 (en165 f) := by
  have hT : TabOK FT XT (T165) := by
    intro g en hg
    unfold T165 at hg
    split at hg <;> first | (injection hg with hg; subst hg; assumption) | cases hg
  have hO0 : RawOK FT XT (rawOf (α := (Sh.bool).T) (RW165)) := by
    refine rawOf_ok (fun g en hg => ?_)
    unfold RW165 at hg
    split at hg <;> simp only [List.mem_cons, List.not_mem_nil, or_false] at hg <;> first | (subst hg; assumption) | (rcases hg with rfl | rfl <;> assumption) | (rcases hg with rfl | rfl | rfl <;> assumption) | (rcases hg with rfl | rfl | rfl | rfl <;> assumption)
  have hO : RawOK FT XT (rawOf (α := (Sh.bool).T) (RW165)) := hO0
  refine ⟨rfl, fun v r h => ?_⟩
  obtain ⟨a0, _⟩ := v
  obtain ⟨N, h1⟩ := hf _ _ h
  exact ans_c (R := Sh.bool) (tab := T165) (raw := (rawOf (RW165))) (LP := W165 N) (fu := fuelC) hT hO rfl rfl (Nat.le_of_ble_eq_true rfl) (loopOK_cons l165_0 (fun s κ a h => o165_0 hT hO N h) loopOK_nil) ((e165 N _).trans h1)

def T146 (c162 : Int → Option Bool) (c165 : List Int → Option Bool) : Nat → Option Ent
  | 162 => some (en162 c162)
  | 165 => some (en165 c165)
  | _ => none
def RW146 (c162 : Int → Option Bool) (c165 : List Int → Option Bool) : Nat → List REnt
  | _ => []
def W146 (c162 : Int → Option Bool) (c165 : List Int → Option Bool) (N : Nat) : LoopF (((Sh.int .i64)).T) := fun no =>
  match no with
  | _ => fun _ _ => none
theorem e146 (c162 : Int → Option Bool) (c165 : List Int → Option Bool) (N : Nat) (a0 : Int × (List Int)) : evc (T146 c162 c165) (rawOf (RW146 c162 c165)) (W146 c162 c165 N) (retc k146.res (Sh.int .i64)) (modeOf FT) 0 fuelC k146.body (env0 k146 (encL [(Sh.st (Sh.pr (Sh.int .u8) (Sh.sl (Sh.int .u8))))] (a0, ())), []) (endK (retc k146.res (Sh.int .i64))) = p146 c162 c165 N a0 := by kernel_rfl
theorem ok146 (c162 : Int → Option Bool) (c165 : List Int → Option Bool) (h162 : EntOK FT XT 162 (en162 c162)) (h165 : EntOK FT XT 165 (en165 c165)) {f : Int × (List Int) → Option Int} (hf : ∀ a0 r, f a0 = some r → ∃ N, p146 c162 c165 N a0 = some r) : EntOK FT XT 146 (en146 f) := by
  have hT : TabOK FT XT (T146 c162 c165) := by
    intro g en hg
    unfold T146 at hg
    split at hg <;> first | (injection hg with hg; subst hg; assumption) | cases hg
  have hO0 : RawOK FT XT (rawOf (α := ((Sh.int .i64)).T) (RW146 c162 c165)) := by
    refine rawOf_ok (fun g en hg => ?_)
    unfold RW146 at hg
    split at hg <;> simp only [List.mem_cons, List.not_mem_nil, or_false] at hg <;> first | (subst hg; assumption) | (rcases hg with rfl | rfl <;> assumption) | (rcases hg with rfl | rfl | rfl <;> assumption) | (rcases hg with rfl | rfl | rfl | rfl <;> assumption)
  have hO : RawOK FT XT (rawOf (α := ((Sh.int .i64)).T) (RW146 c162 c165)) := hO0
  refine ⟨rfl, fun v r h => ?_⟩
  obtain ⟨a0, _⟩ := v
  obtain ⟨N, h1⟩ := hf _ _ h
  exact ans_c (R := (Sh.int .i64)) (tab := T146 c162 c165) (raw := (rawOf (RW146 c162 c165))) (LP := W146 c162 c165 N) (fu := fuelC) hT hO rfl rfl (Nat.le_of_ble_eq_true rfl) loopOK_nil ((e146 c162 c165 N _).trans h1)

def T124 (c138 : Option Bool) (c140 : Int × (List Int) → Option (Int × (List Int))) (c139 : Int × (List Int) → Option ((List Int) × Int)) (c141 : Int × (List Int) → Option ((List Int) × Int)) (c142 : List Int → Option ((Int × (List Int)) × Int × Int)) (c143 : List Int → Option ((Int × (List Int)) × Int × Int)) (c23 : List Int → List Int → Option Bool) (c144 : Int × (List Int) → Int × (List Int) → Option Bool) (c145 : Int × (List Int) → Option Int) (c146 : Int × (List Int) → Option Int) : Nat → Option Ent
  | 138 => some (en138 c138)
  | 140 => some (en140 c140)
  | 139 => some (en139 c139)
  | 141 => some (en141 c141)
  | 142 => some (en142 c142)
  | 143 => some (en143 c143)
  | 23 => some (en23 c23)
  | 144 => some (en144 c144)
  | 145 => some (en145 c145)
  | 146 => some (en146 c146)
  | _ => none
def RW124 (c138 : Option Bool) (c140 : Int × (List Int) → Option (Int × (List Int))) (c139 : Int × (List Int) → Option ((List Int) × Int)) (c141 : Int × (List Int) → Option ((List Int) × Int)) (c142 : List Int → Option ((Int × (List Int)) × Int × Int)) (c143 : List Int → Option ((Int × (List Int)) × Int × Int)) (c23 : List Int → List Int → Option Bool) (c144 : Int × (List Int) → Int × (List Int) → Option Bool) (c145 : Int × (List Int) → Option Int) (c146 : Int × (List Int) → Option Int) : Nat → List REnt
  | _ => []
def W124 (c138 : Option Bool) (c140 : Int × (List Int) → Option (Int × (List Int))) (c139 : Int × (List Int) → Option ((List Int) × Int)) (c141 : Int × (List Int) → Option ((List Int) × Int)) (c142 : List Int → Option ((Int × (List Int)) × Int × Int)) (c143 : List Int → Option ((Int × (List Int)) × Int × Int)) (c23 : List Int → List Int → Option Bool) (c144 : Int × (List Int) → Int × (List Int) → Option Bool) (c145 : Int × (List Int) → Option Int) (c146 : Int × (List Int) → Option Int) (N : Nat) : LoopF (Sh.bool).T := fun no =>
  match no with
  | _ => fun _ _ => none
theorem e124 (c138 : Option Bool) (c140 : Int × (List Int) → Option (Int × (List Int))) (c139 : Int × (List Int) → Option ((List Int) × Int)) (c141 : Int × (List Int) → Option ((List Int) × Int)) (c142 : List Int → Option ((Int × (List Int)) × Int × Int)) (c143 : List Int → Option ((Int × (List Int)) × Int × Int)) (c23 : List Int → List Int → Option Bool) (c144 : Int × (List Int) → Int × (List Int) → Option Bool) (c145 : Int × (List Int) → Option Int) (c146 : Int × (List Int) → Option Int) (N : Nat) (a0 : Int × (List Int)) (a1 : List Int) : evc (T124 c138 c140 c139 c141 c142 c143 c23 c144 c145 c146) (rawOf (RW124 c138 c140 c139 c141 c142 c143 c23 c144 c145 c146)) (W124 c138 c140 c139 c141 c142 c143 c23 c144 c145 c146 N) (retc k124.res Sh.bool) (modeOf FT) 0 fuelC k124.body (env0 k124 (encL [(Sh.st (Sh.pr (Sh.int .u8) (Sh.sl (Sh.int .u8)))), (Sh.sl (Sh.int .u8))] (a0, (a1, ()))), []) (endK (retc k124.res Sh.bool)) = p124 c138 c140 c139 c141 c142 c143 c23 c144 c145 c146 N a0 a1 := by kernel_rfl
theorem ok124 (c138 : Option Bool) (c140 : Int × (List Int) → Option (Int × (List Int))) (c139 : Int × (List Int) → Option ((List Int) × Int)) (c141 : Int × (List Int) → Option ((List Int) × Int)) (c142 : List Int → Option ((Int × (List Int)) × Int × Int)) (c143 : List Int → Option ((Int × (List Int)) × Int × Int)) (c23 : List Int → List Int → Option Bool) (c144 : Int × (List Int) → Int × (List Int) → Option Bool) (c145 : Int × (List Int) → Option Int) (c146 : Int × (List Int) → Option Int) (h138 : EntOK FT XT 138 (en138 c138)) (h140 : EntOK FT XT 140 (en140 c140)) (h139 : EntOK FT XT 139 (en139 c139)) (h141 : EntOK FT XT 141 (en141 c141)) (h142 : EntOK FT XT 142 (en142 c142)) (h143 : EntOK FT XT 143 (en143 c143)) (h23 : EntOK FT XT 23 (en23 c23)) (h144 : EntOK FT XT 144 (en144 c144)) (h145 : EntOK FT XT 145 (en145 c145)) (h146 : EntOK FT XT 146 (en146 c146)) {f : Int × (List Int) → List Int → Option Bool} (hf : ∀ a0 a1 r, f a0 a1 = some r → ∃ N, p124 c138 c140 c139 c141 c142 c143 c23 c144 c145 c146 N a0 a1 = some r) : EntOK FT XT 124 (en124 f) := by
  have hT : TabOK FT XT (T124 c138 c140 c139 c141 c142 c143 c23 c144 c145 c146) := by
    intro g en hg
    unfold T124 at hg
    split at hg <;> first | (injection hg with hg; subst hg; assumption) | cases hg
  have hO0 : RawOK FT XT (rawOf (α := (Sh.bool).T) (RW124 c138 c140 c139 c141 c142 c143 c23 c144 c145 c146)) := by
    refine rawOf_ok (fun g en hg => ?_)
    unfold RW124 at hg
    split at hg <;> simp only [List.mem_cons, List.not_mem_nil, or_false] at hg <;> first | (subst hg; assumption) | (rcases hg with rfl | rfl <;> assumption) | (rcases hg with rfl | rfl | rfl <;> assumption) | (rcases hg with rfl | rfl | rfl | rfl <;> assumption)
  have hO : RawOK FT XT (rawOf (α := (Sh.bool).T) (RW124 c138 c140 c139 c141 c142 c143 c23 c144 c145 c146)) := hO0
  refine ⟨rfl, fun v r h => ?_⟩
  obtain ⟨a0, a1, _⟩ := v
  obtain ⟨N, h1⟩ := hf _ _ _ h
  exact ans_c (R := Sh.bool) (tab := T124 c138 c140 c139 c141 c142 c143 c23 c144 c145 c146) (raw := (rawOf (RW124 c138 c140 c139 c141 c142 c143 c23 c144 c145 c146))) (LP := W124 c138 c140 c139 c141 c142 c143 c23 c144 c145 c146 N) (fu := fuelC) hT hO rfl rfl (Nat.le_of_ble_eq_true rfl) loopOK_nil ((e124 c138 c140 c139 c141 c142 c143 c23 c144 c145 c146 N _ _).trans h1)

def T153 (c167 : Int × (List Int) → Int → Option Int) (c21 : List Int → Bool → Option (Int × Int)) (c108 : List Int → Option (List Int)) : Nat → Option Ent
  | 167 => some (en167 c167)
  | 21 => some (en21 c21)
  | 108 => some (en108 c108)
  | _ => none
def RW153 (c167 : Int × (List Int) → Int → Option Int) (c21 : List Int → Bool → Option (Int × Int)) (c108 : List Int → Option (List Int)) : Nat → List REnt
  | _ => []
def W153 (c167 : Int × (List Int) → Int → Option Int) (c21 : List Int → Bool → Option (Int × Int)) (c108 : List Int → Option (List Int)) (N : Nat) : LoopF (((Sh.tu (Sh.pr (Sh.st (Sh.pr (Sh.int .u8) (Sh.pr (Sh.int .u32) (Sh.sl (Sh.int .u8))))) (Sh.int .i64)))).T) := fun no =>
  match no with
  | _ => fun _ _ => none
theorem e153 (c167 : Int × (List Int) → Int → Option Int) (c21 : List Int → Bool → Option (Int × Int)) (c108 : List Int → Option (List Int)) (N : Nat) (a0 : Int × (List Int)) : evc (T153 c167 c21 c108) (rawOf (RW153 c167 c21 c108)) (W153 c167 c21 c108 N) (retc k153.res (Sh.tu (Sh.pr (Sh.st (Sh.pr (Sh.int .u8) (Sh.pr (Sh.int .u32) (Sh.sl (Sh.int .u8))))) (Sh.int .i64)))) (modeOf FT) 0 fuelC k153.body (env0 k153 (encL [(Sh.st (Sh.pr (Sh.int .u8) (Sh.sl (Sh.int .u8))))] (a0, ())), []) (endK (retc k153.res (Sh.tu (Sh.pr (Sh.st (Sh.pr (Sh.int .u8) (Sh.pr (Sh.int .u32) (Sh.sl (Sh.int .u8))))) (Sh.int .i64))))) = p153 c167 c21 c108 N a0 := by kernel_rfl
theorem ok153 (c167 : Int × (List Int) → Int → Option Int) (c21 : List Int → Bool → Option (Int × Int)) (c108 : List Int → Option (List Int)) (h167 : EntOK FT XT 167 (en167 c167)) (h21 : EntOK FT XT 21 (en21 c21)) (h108 : EntOK FT XT 108 (en108 c108)) {f : Int × (List Int) → Option ((Int × Int × (List Int)) × Int)} (hf : ∀ a0 r, f a0 = some r → ∃ N, p153 c167 c21 c108 N a0 = some r) : EntOK FT XT 153 (en153 f) := by
  have hT : TabOK FT XT (T153 c167 c21 c108) := by
    intro g en hg
    unfold T153 at hg
    split at hg <;> first | (injection hg with hg; subst hg; assumption) | cases hg
  have hO0 : RawOK FT XT (rawOf (α := ((Sh.tu (Sh.pr (Sh.st (Sh.pr (Sh.int .u8) (Sh.pr (Sh.int .u32) (Sh.sl (Sh.int .u8))))) (Sh.int .i64)))).T) (RW153 c167 c21 c108)) := by
    refine rawOf_ok (fun g en hg => ?_)
    unfold RW153 at hg
    split at hg <;> simp only [List.mem_cons, List.not_mem_nil, or_false] at hg <;> first | (subst hg; assumption) | (rcases hg with rfl | rfl <;> assumption) | (rcases hg with rfl | rfl | rfl <;> assumption) | (rcases hg with rfl | rfl | rfl | rfl <;> assumption)
  have hO : RawOK FT XT (rawOf (α := ((Sh.tu (Sh.pr (Sh.st (Sh.pr (Sh.int .u8) (Sh.pr (Sh.int .u32) (Sh.sl (Sh.int .u8))))) (Sh.int .i64)))).T) (RW153 c167 c21 c108)) := hO0
  refine ⟨rfl, fun v r h => ?_⟩
  obtain ⟨a0, _⟩ := v
  obtain ⟨N, h1⟩ := hf _ _ h
  exact ans_c (R := (Sh.tu (Sh.pr (Sh.st (Sh.pr (Sh.int .u8) (Sh.pr (Sh.int .u32) (Sh.sl (Sh.int .u8))))) (Sh.int .i64)))) (tab := T153 c167 c21 c108) (raw := (rawOf (RW153 c167 c21 c108))) (LP := W153 c167 c21 c108 N) (fu := fuelC) hT hO rfl rfl (Nat.le_of_ble_eq_true rfl) loopOK_nil ((e153 c167 c21 c108 N _).trans h1)

def T154 (c167 : Int × (List Int) → Int → Option Int) : Nat → Option Ent
  | 167 => some (en167 c167)
  | _ => none
def RW154 (c167 : Int × (List Int) → Int → Option Int) : Nat → List REnt
  | _ => []
def W154 (c167 : Int × (List Int) → Int → Option Int) (N : Nat) : LoopF (((Sh.tu (Sh.pr (Sh.ar .u8) (Sh.int .i64)))).T) := fun no =>
  match no with
  | _ => fun _ _ => none
theorem e154 (c167 : Int × (List Int) → Int → Option Int) (N : Nat) (a0 : Int × (List Int)) : evc (T154 c167) (rawOf (RW154 c167)) (W154 c167 N) (retc k154.res (Sh.tu (Sh.pr (Sh.ar .u8) (Sh.int .i64)))) (modeOf FT) 0 fuelC k154.body (env0 k154 (encL [(Sh.st (Sh.pr (Sh.int .u8) (Sh.sl (Sh.int .u8))))] (a0, ())), []) (endK (retc k154.res (Sh.tu (Sh.pr (Sh.ar .u8) (Sh.int .i64))))) = p154 c167 N a0 := by kernel_rfl
theorem ok154 (c167 : Int × (List Int) → Int → Option Int) (h167 : EntOK FT XT 167 (en167 c167)) {f : Int × (List Int) → Option ((List Int) × Int)} (hf : ∀ a0 r, f a0 = some r → ∃ N, p154 c167 N a0 = some r) : EntOK FT XT 154 (en154 f) := by
  have hT : TabOK FT XT (T154 c167) := by
    intro g en hg
    unfold T154 at hg
    split at hg <;> first | (injection hg with hg; subst hg; assumption) | cases hg
  have hO0 : RawOK FT XT (rawOf (α := ((Sh.tu (Sh.pr (Sh.ar .u8) (Sh.int .i64)))).T) (RW154 c167)) := by
    refine rawOf_ok (fun g en hg => ?_)
    unfold RW154 at hg
    split at hg <;> simp only [List.mem_cons, List.not_mem_nil, or_false] at hg <;> first | (subst hg; assumption) | (rcases hg with rfl | rfl <;> assumption) | (rcases hg with rfl | rfl | rfl <;> assumption) | (rcases hg with rfl | rfl | rfl | rfl <;> assumption)
  have hO : RawOK FT XT (rawOf (α := ((Sh.tu (Sh.pr (Sh.ar .u8) (Sh.int .i64)))).T) (RW154 c167)) := hO0
  refine ⟨rfl, fun v r h => ?_⟩
  obtain ⟨a0, _⟩ := v
  obtain ⟨N, h1⟩ := hf _ _ h
  exact ans_c (R := (Sh.tu (Sh.pr (Sh.ar .u8) (Sh.int .i64)))) (tab := T154 c167) (raw := (rawOf (RW154 c167))) (LP := W154 c167 N) (fu := fuelC) hT hO rfl rfl (Nat.le_of_ble_eq_true rfl) loopOK_nil ((e154 c167 N _).trans h1)

def T158 (c146 : Int × (List Int) → Option Int) : Nat → Option Ent
  | 146 => some (en146 c146)
  | _ => none
def RW158 (c146 : Int × (List Int) → Option Int) : Nat → List REnt
  | _ => []
def W158 (c146 : Int × (List Int) → Option Int) (N : Nat) : LoopF (((Sh.int .i64)).T) := fun no =>
  match no with
  | _ => fun _ _ => none
theorem e158 (c146 : Int × (List Int) → Option Int) (N : Nat) (a0 : Int × (List Int)) (a1 : Int) : evc (T158 c146) (rawOf (RW158 c146)) (W158 c146 N) (retc k158.res (Sh.int .i64)) (modeOf FT) 0 fuelC k158.body (env0 k158 (encL [(Sh.st (Sh.pr (Sh.int .u8) (Sh.sl (Sh.int .u8)))), (Sh.int .u8)] (a0, (a1, ()))), []) (endK (retc k158.res (Sh.int .i64))) = p158 c146 N a0 a1 := by kernel_rfl
theorem ok158 (c146 : Int × (List Int) → Option Int) (h146 : EntOK FT XT 146 (en146 c146)) {f : Int × (List Int) → Int → Option Int} (hf : ∀ a0 a1 r, f a0 a1 = some r → ∃ N, p158 c146 N a0 a1 = some r) : EntOK FT XT 158 (en158 f) := by
  have hT : TabOK FT XT (T158 c146) := by
    intro g en hg
    unfold T158 at hg
    split at hg <;> first | (injection hg with hg; subst hg; assumption) | cases hg
  have hO0 : RawOK FT XT (rawOf (α := ((Sh.int .i64)).T) (RW158 c146)) := by
    refine rawOf_ok (fun g en hg => ?_)
    unfold RW158 at hg
    split at hg <;> simp only [List.mem_cons, List.not_mem_nil, or_false] at hg <;> first | (subst hg; assumption) | (rcases hg with rfl | rfl <;> assumption) | (rcases hg with rfl | rfl | rfl <;> assumption) | (rcases hg with rfl | rfl | rfl | rfl <;> assumption)
  have hO : RawOK FT XT (rawOf (α := ((Sh.int .i64)).T) (RW158 c146)) := hO0
  refine ⟨rfl, fun v r h => ?_⟩
  obtain ⟨a0, a1, _⟩ := v
  obtain ⟨N, h1⟩ := hf _ _ _ h
  exact ans_c (R := (Sh.int .i64)) (tab := T158 c146) (raw := (rawOf (RW158 c146))) (LP := W158 c146 N) (fu := fuelC) hT hO rfl rfl (Nat.le_of_ble_eq_true rfl) loopOK_nil ((e158 c146 N _ _).trans h1)

def T148 (c166 : Int → Option (List Int)) (c46 : List (List Int) → Option (List Int)) : Nat → Option Ent
  | 166 => some (en166 c166)
  | 46 => some (en46 c46)
  | _ => none
def RW148 (c166 : Int → Option (List Int)) (c46 : List (List Int) → Option (List Int)) : Nat → List REnt
  | _ => []
def W148 (c166 : Int → Option (List Int)) (c46 : List (List Int) → Option (List Int)) (N : Nat) : LoopF (((Sh.st (Sh.pr (Sh.int .u8) (Sh.sl (Sh.int .u8))))).T) := fun no =>
  match no with
  | _ => fun _ _ => none
theorem e148 (c166 : Int → Option (List Int)) (c46 : List (List Int) → Option (List Int)) (N : Nat) (a0 : List Int) : evc (T148 c166 c46) (rawOf (RW148 c166 c46)) (W148 c166 c46 N) (retc k148.res (Sh.st (Sh.pr (Sh.int .u8) (Sh.sl (Sh.int .u8))))) (modeOf FT) 0 fuelC k148.body (env0 k148 (encL [(Sh.ar .u8)] (a0, ())), []) (endK (retc k148.res (Sh.st (Sh.pr (Sh.int .u8) (Sh.sl (Sh.int .u8)))))) = p148 c166 c46 N a0 := by kernel_rfl
theorem ok148 (c166 : Int → Option (List Int)) (c46 : List (List Int) → Option (List Int)) (h166 : EntOK FT XT 166 (en166 c166)) (h46 : EntOK FT XT 46 (en46 c46)) {f : List Int → Option (Int × (List Int))} (hf : ∀ a0 r, f a0 = some r → ∃ N, p148 c166 c46 N a0 = some r) : EntOK FT XT 148 (en148 f) := by
  have hT : TabOK FT XT (T148 c166 c46) := by
    intro g en hg
    unfold T148 at hg
    split at hg <;> first | (injection hg with hg; subst hg; assumption) | cases hg
  have hO0 : RawOK FT XT (rawOf (α := ((Sh.st (Sh.pr (Sh.int .u8) (Sh.sl (Sh.int .u8))))).T) (RW148 c166 c46)) := by
    refine rawOf_ok (fun g en hg => ?_)
    unfold RW148 at hg
    split at hg <;> simp only [List.mem_cons, List.not_mem_nil, or_false] at hg <;> first | (subst hg; assumption) | (rcases hg with rfl | rfl <;> assumption) | (rcases hg with rfl | rfl | rfl <;> assumption) | (rcases hg with rfl | rfl | rfl | rfl <;> assumption)
  have hO : RawOK FT XT (rawOf (α := ((Sh.st (Sh.pr (Sh.int .u8) (Sh.sl (Sh.int .u8))))).T) (RW148 c166 c46)) := hO0
  refine ⟨rfl, fun v r h => ?_⟩
  obtain ⟨a0, _⟩ := v
  obtain ⟨N, h1⟩ := hf _ _ h
  exact ans_c (R := (Sh.st (Sh.pr (Sh.int .u8) (Sh.sl (Sh.int .u8))))) (tab := T148 c166 c46) (raw := (rawOf (RW148 c166 c46))) (LP := W148 c166 c46 N) (fu := fuelC) hT hO rfl rfl (Nat.le_of_ble_eq_true rfl) loopOK_nil ((e148 c166 c46 N _).trans h1)

def T147 (c19 : Int → Int → Bool → Option ((List Int) × Int)) (c166 : Int → Option (List Int)) (c46 : List (List Int) → Option (List Int)) : Nat → Option Ent
  | 19 => some (en19 c19)
  | 166 => some (en166 c166)
  | 46 => some (en46 c46)
  | _ => none
def RW147 (c19 : Int → Int → Bool → Option ((List Int) × Int)) (c166 : Int → Option (List Int)) (c46 : List (List Int) → Option (List Int)) : Nat → List REnt
  | _ => []
def W147 (c19 : Int → Int → Bool → Option ((List Int) × Int)) (c166 : Int → Option (List Int)) (c46 : List (List Int) → Option (List Int)) (N : Nat) : LoopF (((Sh.st (Sh.pr (Sh.int .u8) (Sh.sl (Sh.int .u8))))).T) := fun no =>
  match no with
  | _ => fun _ _ => none
theorem e147 (c19 : Int → Int → Bool → Option ((List Int) × Int)) (c166 : Int → Option (List Int)) (c46 : List (List Int) → Option (List Int)) (N : Nat) (a0 : Int × Int × (List Int)) : evc (T147 c19 c166 c46) (rawOf (RW147 c19 c166 c46)) (W147 c19 c166 c46 N) (retc k147.res (Sh.st (Sh.pr (Sh.int .u8) (Sh.sl (Sh.int .u8))))) (modeOf FT) 0 fuelC k147.body (env0 k147 (encL [(Sh.st (Sh.pr (Sh.int .u8) (Sh.pr (Sh.int .u32) (Sh.sl (Sh.int .u8)))))] (a0, ())), []) (endK (retc k147.res (Sh.st (Sh.pr (Sh.int .u8) (Sh.sl (Sh.int .u8)))))) = p147 c19 c166 c46 N a0 := by kernel_rfl
theorem ok147 (c19 : Int → Int → Bool → Option ((List Int) × Int)) (c166 : Int → Option (List Int)) (c46 : List (List Int) → Option (List Int)) (h19 : EntOK FT XT 19 (en19 c19)) (h166 : EntOK FT XT 166 (en166 c166)) (h46 : EntOK FT XT 46 (en46 c46)) {f : Int × Int × (List Int) → Option (Int × (List Int))} (hf : ∀ a0 r, f a0 = some r → ∃ N, p147 c19 c166 c46 N a0 = some r) : EntOK FT XT 147 (en147 f) := by
  have hT : TabOK FT XT (T147 c19 c166 c46) := by
    intro g en hg
    unfold T147 at hg
    split at hg <;> first | (injection hg with hg; subst hg; assumption) | cases hg
  have hO0 : RawOK FT XT (rawOf (α := ((Sh.st (Sh.pr (Sh.int .u8) (Sh.sl (Sh.int .u8))))).T) (RW147 c19 c166 c46)) := by
    refine rawOf_ok (fun g en hg => ?_)
    unfold RW147 at hg
    split at hg <;> simp only [List.mem_cons, List.not_mem_nil, or_false] at hg <;> first | (subst hg; assumption) | (rcases hg with rfl | rfl <;> assumption) | (rcases hg with rfl | rfl | rfl <;> assumption) | (rcases hg with rfl | rfl | rfl | rfl <;> assumption)
  have hO : RawOK FT XT (rawOf (α := ((Sh.st (Sh.pr (Sh.int .u8) (Sh.sl (Sh.int .u8))))).T) (RW147 c19 c166 c46)) := hO0
  refine ⟨rfl, fun v r h => ?_⟩
  obtain ⟨a0, _⟩ := v
  obtain ⟨N, h1⟩ := hf _ _ h
  exact ans_c (R := (Sh.st (Sh.pr (Sh.int .u8) (Sh.sl (Sh.int .u8))))) (tab := T147 c19 c166 c46) (raw := (rawOf (RW147 c19 c166 c46))) (LP := W147 c19 c166 c46 N) (fu := fuelC) hT hO rfl rfl (Nat.le_of_ble_eq_true rfl) loopOK_nil ((e147 c19 c166 c46 N _).trans h1)

def T126 (c138 : Option Bool) (c140 : Int × (List Int) → Option (Int × (List Int))) (c156 : Int × (List Int) → Option (Int × Int)) (c153 : Int × (List Int) → Option ((Int × Int × (List Int)) × Int)) (c154 : Int × (List Int) → Option ((List Int) × Int)) (c155 : Int × (List Int) → Option ((List Int) × Int)) (c158 : Int × (List Int) → Int → Option Int) (c149 : List Int → Option (Int × (List Int))) (c144 : Int × (List Int) → Int × (List Int) → Option Bool) (c148 : List Int → Option (Int × (List Int))) (c147 : Int × Int × (List Int) → Option (Int × (List Int))) (c157 : Int → Option (Int × (List Int))) : Nat → Option Ent
  | 138 => some (en138 c138)
  | 140 => some (en140 c140)
  | 156 => some (en156 c156)
  | 153 => some (en153 c153)
  | 154 => some (en154 c154)
  | 155 => some (en155 c155)
  | 158 => some (en158 c158)
  | 149 => some (en149 c149)
  | 144 => some (en144 c144)
  | 148 => some (en148 c148)
  | 147 => some (en147 c147)
  | 157 => some (en157 c157)
  | _ => none
def RW126 (c138 : Option Bool) (c140 : Int × (List Int) → Option (Int × (List Int))) (c156 : Int × (List Int) → Option (Int × Int)) (c153 : Int × (List Int) → Option ((Int × Int × (List Int)) × Int)) (c154 : Int × (List Int) → Option ((List Int) × Int)) (c155 : Int × (List Int) → Option ((List Int) × Int)) (c158 : Int × (List Int) → Int → Option Int) (c149 : List Int → Option (Int × (List Int))) (c144 : Int × (List Int) → Int × (List Int) → Option Bool) (c148 : List Int → Option (Int × (List Int))) (c147 : Int × Int × (List Int) → Option (Int × (List Int))) (c157 : Int → Option (Int × (List Int))) : Nat → List REnt
  | _ => []
def W126 (c138 : Option Bool) (c140 : Int × (List Int) → Option (Int × (List Int))) (c156 : Int × (List Int) → Option (Int × Int)) (c153 : Int × (List Int) → Option ((Int × Int × (List Int)) × Int)) (c154 : Int × (List Int) → Option ((List Int) × Int)) (c155 : Int × (List Int) → Option ((List Int) × Int)) (c158 : Int × (List Int) → Int → Option Int) (c149 : List Int → Option (Int × (List Int))) (c144 : Int × (List Int) → Int × (List Int) → Option Bool) (c148 : List Int → Option (Int × (List Int))) (c147 : Int × Int × (List Int) → Option (Int × (List Int))) (c157 : Int → Option (Int × (List Int))) (N : Nat) : LoopF (Sh.bool).T := fun no =>
  match no with
  | _ => fun _ _ => none
theorem e126 (c138 : Option Bool) (c140 : Int × (List Int) → Option (Int × (List Int))) (c156 : Int × (List Int) → Option (Int × Int)) (c153 : Int × (List Int) → Option ((Int × Int × (List Int)) × Int)) (c154 : Int × (List Int) → Option ((List Int) × Int)) (c155 : Int × (List Int) → Option ((List Int) × Int)) (c158 : Int × (List Int) → Int → Option Int) (c149 : List Int → Option (Int × (List Int))) (c144 : Int × (List Int) → Int × (List Int) → Option Bool) (c148 : List Int → Option (Int × (List Int))) (c147 : Int × Int × (List Int) → Option (Int × (List Int))) (c157 : Int → Option (Int × (List Int))) (N : Nat) (a0 : Int × (List Int)) : evc (T126 c138 c140 c156 c153 c154 c155 c158 c149 c144 c148 c147 c157) (rawOf (RW126 c138 c140 c156 c153 c154 c155 c158 c149 c144 c148 c147 c157)) (W126 c138 c140 c156 c153 c154 c155 c158 c149 c144 c148 c147 c157 N) (retc k126.res Sh.bool) (modeOf FT) 0 fuelC k126.body (env0 k126 (encL [(Sh.st (Sh.pr (Sh.int .u8) (Sh.sl (Sh.int .u8))))] (a0, ())), []) (endK (retc k126.res Sh.bool)) = p126 c138 c140 c156 c153 c154 c155 c158 c149 c144 c148 c147 c157 N a0 := by kernel_rfl
theorem ok126 (c138 : Option Bool) (c140 : Int × (List Int) → Option (Int × (List Int))) (c156 : Int × (List Int) → Option (Int × Int)) (c153 : Int × (List Int) → Option ((Int × Int × (List Int)) × Int)) (c154 : Int × (List Int) → Option ((List Int) × Int)) (c155 : Int × (List Int) → Option ((List Int) × Int)) (c158 : Int × (List Int) → Int → Option Int) (c149 : List Int → Option (Int × (List Int))) (c144 : Int × (List Int) → Int × (List Int) → Option Bool) (c148 : List Int → Option (Int × (List Int))) (c147 : Int × Int × (List Int) → Option (Int × (List Int))) (c157 : Int → Option (Int × (List Int))) (h138 : EntOK FT XT 138 (en138 c138)) (h140 : EntOK FT XT 140 (en140 c140)) (h156 : EntOK FT XT 156 (en156 c156)) (h153 : EntOK FT XT 153 (en153 c153)) (h154 : EntOK FT XT 154 (en154 c154)) (h155 : EntOK FT XT 155 (en155 c155)) (h158 : EntOK FT XT 158 (en158 c158)) (h149 : EntOK FT XT 149 (en149 c149)) (h144 : EntOK FT XT 144 (en144 c144)) (h148 : EntOK FT XT 148 (en148 c148)) (h147 : EntOK FT XT 147 (en147 c147)) (h157 : EntOK FT XT 157 (en157 c157)) {f : Int × (List Int) → Option Bool} (hf : ∀ a0 r, f a0 = some r → ∃ N, p126 c138 c140 c156 c153 c154 c155 c158 c149 c144 c148 c147 c157 N a0 = some r) : EntOK FT XT 126 (en126 f) := by
  have hT : TabOK FT XT (T126 c138 c140 c156 c153 c154 c155 c158 c149 c144 c148 c147 c157) := by
    intro g en hg
    unfold T126 at hg
    split at hg <;> first | (injection hg with hg; subst hg; assumption) | cases hg
  have hO0 : RawOK FT XT (rawOf (α := (Sh.bool).T) (RW126 c138 c140 c156 c153 c154 c155 c158 c149 c144 c148 c147 c157)) := by
    refine rawOf_ok (fun g en hg => ?_)
    unfold RW126 at hg
    split at hg <;> simp only [List.mem_cons, List.not_mem_nil, or_false] at hg <;> first | (subst hg; assumption) | (rcases hg with rfl | rfl <;> assumption) | (rcases hg with rfl | rfl | rfl <;> assumption) | (rcases hg with rfl | rfl | rfl | rfl <;> assumption)
  have hO : RawOK FT XT (rawOf (α := (Sh.bool).T) (RW126 c138 c140 c156 c153 c154 c155 c158 c149 c144 c148 c147 c157)) := hO0
  refine ⟨rfl, fun v r h => ?_⟩
  obtain ⟨a0, _⟩ := v
  obtain ⟨N, h1⟩ := hf _ _ h
  exact ans_c (R := Sh.bool) (tab := T126 c138 c140 c156 c153 c154 c155 c158 c149 c144 c148 c147 c157) (raw := (rawOf (RW126 c138 c140 c156 c153 c154 c155 c158 c149 c144 c148 c147 c157))) (LP := W126 c138 c140 c156 c153 c154 c155 c158 c149 c144 c148 c147 c157 N) (fu := fuelC) hT hO rfl rfl (Nat.le_of_ble_eq_true rfl) loopOK_nil ((e126 c138 c140 c156 c153 c154 c155 c158 c149 c144 c148 c147 c157 N _).trans h1)

def T150 (c50 : Int → Int → Option (List Int)) : Nat → Option Ent
  | 50 => some (en50 c50)
  | _ => none
def RW150 (c50 : Int → Int → Option (List Int)) : Nat → List REnt
  | _ => []
def W150 (c50 : Int → Int → Option (List Int)) (N : Nat) : LoopF (((Sh.st (Sh.pr (Sh.int .u8) (Sh.sl (Sh.int .u8))))).T) := fun no =>
  match no with
  | _ => fun _ _ => none
theorem e150 (c50 : Int → Int → Option (List Int)) (N : Nat) (a0 : Int) (a1 : Int) (a2 : List Int) : evc (T150 c50) (rawOf (RW150 c50)) (W150 c50 N) (retc k150.res (Sh.st (Sh.pr (Sh.int .u8) (Sh.sl (Sh.int .u8))))) (modeOf FT) 0 fuelC k150.body (env0 k150 (encL [(Sh.int .u8), (Sh.int .u32), (Sh.sl (Sh.int .u8))] (a0, (a1, (a2, ())))), []) (endK (retc k150.res (Sh.st (Sh.pr (Sh.int .u8) (Sh.sl (Sh.int .u8)))))) = p150 c50 N a0 a1 a2 := by kernel_rfl
theorem ok150 (c50 : Int → Int → Option (List Int)) (h50 : EntOK FT XT 50 (en50 c50)) {f : Int → Int → List Int → Option (Int × (List Int))} (hf : ∀ a0 a1 a2 r, f a0 a1 a2 = some r → ∃ N, p150 c50 N a0 a1 a2 = some r) : EntOK FT XT 150 (en150 f) := by
  have hT : TabOK FT XT (T150 c50) := by
    intro g en hg
    unfold T150 at hg
    split at hg <;> first | (injection hg with hg; subst hg; assumption) | cases hg
  have hO0 : RawOK FT XT (rawOf (α := ((Sh.st (Sh.pr (Sh.int .u8) (Sh.sl (Sh.int .u8))))).T) (RW150 c50)) := by
    refine rawOf_ok (fun g en hg => ?_)
    unfold RW150 at hg
    split at hg <;> simp only [List.mem_cons, List.not_mem_nil, or_false] at hg <;> first | (subst hg; assumption) | (rcases hg with rfl | rfl <;> assumption) | (rcases hg with rfl | rfl | rfl <;> assumption) | (rcases hg with rfl | rfl | rfl | rfl <;> assumption)
  have hO : RawOK FT XT (rawOf (α := ((Sh.st (Sh.pr (Sh.int .u8) (Sh.sl (Sh.int .u8))))).T) (RW150 c50)) := hO0
  refine ⟨rfl, fun v r h => ?_⟩
  obtain ⟨a0, a1, a2, _⟩ := v
  obtain ⟨N, h1⟩ := hf _ _ _ _ h
  exact ans_c (R := (Sh.st (Sh.pr (Sh.int .u8) (Sh.sl (Sh.int .u8))))) (tab := T150 c50) (raw := (rawOf (RW150 c50))) (LP := W150 c50 N) (fu := fuelC) hT hO rfl rfl (Nat.le_of_ble_eq_true rfl) loopOK_nil ((e150 c50 N _ _ _).trans h1)

def T152 : Nat → Option Ent
  | _ => none
def RW152 : Nat → List REnt
  | _ => []
def W152 (N : Nat) : LoopF (((Sh.st (Sh.pr (Sh.int .u8) (Sh.sl (Sh.int .u8))))).T) := fun no =>
  match no with
  | _ => fun _ _ => none
theorem e152 (N : Nat) (a0 : Int) (a1 : List Int) : evc (T152) (rawOf (RW152)) (W152 N) (retc k152.res (Sh.st (Sh.pr (Sh.int .u8) (Sh.sl (Sh.int .u8))))) (modeOf FT) 0 fuelC k152.body (env0 k152 (encL [(Sh.int .u8), (Sh.ar .u8)] (a0, (a1, ()))), []) (endK (retc k152.res (Sh.st (Sh.pr (Sh.int .u8) (Sh.sl (Sh.int .u8)))))) = p152 N a0 a1 := by kernel_rfl
theorem ok152 {f : Int → List Int → Option (Int × (List Int))} (hf : ∀ a0 a1 r, f a0 a1 = some r → ∃ N, p152 N a0 a1 = some r) : EntOK FT XT 152 (en152 f) := by
  have hT : TabOK FT XT (T152) := by
    intro g en hg
    unfold T152 at hg
    split at hg <;> first | (injection hg with hg; subst hg; assumption) | cases hg
  have hO0 : RawOK FT XT (rawOf (α := ((Sh.st (Sh.pr (Sh.int .u8) (Sh.sl (Sh.int .u8))))).T) (RW152)) := by
    refine rawOf_ok (fun g en hg => ?_)
    unfold RW152 at hg
    split at hg <;> simp only [List.mem_cons, List.not_mem_nil, or_false] at hg <;> first | (subst hg; assumption) | (rcases hg with rfl | rfl <;> assumption) | (rcases hg with rfl | rfl | rfl <;> assumption) | (rcases hg with rfl | rfl | rfl | rfl <;> assumption)
  have hO : RawOK FT XT (rawOf (α := ((Sh.st (Sh.pr (Sh.int .u8) (Sh.sl (Sh.int .u8))))).T) (RW152)) := hO0
  refine ⟨rfl, fun v r h => ?_⟩
  obtain ⟨a0, a1, _⟩ := v
  obtain ⟨N, h1⟩ := hf _ _ _ h
  exact ans_c (R := (Sh.st (Sh.pr (Sh.int .u8) (Sh.sl (Sh.int .u8))))) (tab := T152) (raw := (rawOf (RW152))) (LP := W152 N) (fu := fuelC) hT hO rfl rfl (Nat.le_of_ble_eq_true rfl) loopOK_nil ((e152 N _ _).trans h1)
end Go.Proofs.YtjkdflcccoeggaaE
