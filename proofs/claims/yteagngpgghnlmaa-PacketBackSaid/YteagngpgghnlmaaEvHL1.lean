/- The plain functions are the evaluator's. -/
import Derived.Test.YteagngpgghnlmaaEvGL1
import Derived.KernelRfl
namespace Go.Proofs.YteagngpgghnlmaaE
open Go
set_option linter.unusedVariables false
set_option linter.unusedSimpArgs false

def T64v0 : Nat → Option Ent
  | _ => none
def W64v0 (N : Nat) : LoopF QR64v0.T := fun no =>
  match no with
  | _ => fun _ _ => none
theorem e64v0 (N : Nat) (v : PR64v0.T) : evc (T64v0) (rawOf RW0) (W64v0 N) (retr k64.res 0 QR64v0) (modeOf FT) 0 fuelC k64.body (env0 k64 (PR64v0.a.st v.1), stH PR64v0.h v.2) (endK (retr k64.res 0 QR64v0)) = p64v0 N v.1.2.1 := by kernel_rfl
theorem ok64v0 {f : Int → Option ((Nat × Unit) × ((List Int) × Unit))} (hf : ∀ a0 r, f a0 = some r → ∃ N, p64v0 N a0 = some r) : REntOK FT XT 64 (rn64v0 f) := by
  have hT : TabOK FT XT (T64v0) := by
    intro g en hg
    unfold T64v0 at hg
    split at hg <;> first | (injection hg with hg; subst hg; assumption) | cases hg
  have hO0 : RawOK FT XT (rawOf (α := QR64v0.T) RW0) := rawOK0
  have hO : RawOK FT XT (rawOf (α := QR64v0.T) RW0) := hO0
  intro v r w h hw
  obtain ⟨N, h1⟩ := hf _ _ h
  exact ans_r (Q := QR64v0) (tab := T64v0) (raw := (rawOf RW0)) (LP := W64v0 N) (fu := fuelC) hT hO rfl rfl (Nat.le_of_ble_eq_true rfl) rfl loopOK_nil ((e64v0 N v).trans h1) hw

def T1 (d64v0 : Int → Option ((Nat × Unit) × ((List Int) × Unit))) : Nat → Option Ent
  | _ => none
def RW1 (d64v0 : Int → Option ((Nat × Unit) × ((List Int) × Unit))) : Nat → List REnt
  | 64 => [rn64v0 d64v0]
  | _ => []
def H1_1 : Trim := ⟨1, [], false, [6, 25, 26, 27], []⟩
theorem l1_1 : loopN k1 1 = .loop H1_1 (bodyOf (loopN k1 1)) := by kernel_rfl
def P1_1 : Ps := ⟨[(0, .u), (2, .u), (3, .u), (5, .u), (6, (.sl 0 1)), (8, .u), (9, .u), (10, .u), (11, .u), (12, .u), (20, .u), (25, (.tb (Sh.sl (Sh.int .u8)))), (26, (.int .i64)), (27, (.int .i64)), (28, .u)], [(.ints false .u8)]⟩
def Q1_1 : Nat → Ps
  | 2 => ⟨[(0, .u), (2, .u), (3, .u), (5, .u), (6, (.sl 0 1)), (8, .u), (9, .u), (10, .u), (11, .u), (12, .u), (20, .u), (25, .u), (26, .u), (27, .u), (28, .u)], [(.ints false .u8)]⟩
  | _ => noPs
def u1_1 (d64v0 : Int → Option ((Nat × Unit) × ((List Int) × Unit))) (N n : Nat) (v : P1_1.T) (κ : (i : Nat) → (Q1_1 i).T → Option (List Int)) : Option (List Int) :=
  L1_1 d64v0 N (fun (y0 : Nat) (y1 : List Int) => κ 2 (((), ((), ((), ((), (y0, ((), ((), ((), ((), ((), ((), ((), ((), ((), ((), ()))))))))))))))), (y1, ()))) n v.1.2.2.2.2.1 v.1.2.2.2.2.2.2.2.2.2.2.2.1 v.1.2.2.2.2.2.2.2.2.2.2.2.2.1 v.1.2.2.2.2.2.2.2.2.2.2.2.2.2.1 v.2.1
def W1_1 (d64v0 : Int → Option ((Nat × Unit) × ((List Int) × Unit))) (N : Nat) : LoopF (List Int) := fun no =>
  match no with
  | _ => fun _ _ => none
theorem b1_1 (d64v0 : Int → Option ((Nat × Unit) × ((List Int) × Unit))) (N n : Nat) (v : P1_1.T) (κ : (i : Nat) → (Q1_1 i).T → Option (List Int)) :
    evc (T1 d64v0) (rawOf (RW1 d64v0)) (W1_1 d64v0 N) (reto k1.res .u8) (modeOf FT) 0 fuelC (bodyOf (loopN k1 1)) (P1_1.st v) (roundK 0 H1_1 P1_1 Q1_1 (u1_1 d64v0 N n) κ) = u1_1 d64v0 N (n + 1) v κ := by kernel_rfl
theorem o1_1 (d64v0 : Int → Option ((Nat × Unit) × ((List Int) × Unit))) (hT : TabOK FT XT (T1 d64v0)) (hO : RawOK FT XT (rawOf (α := List Int) (RW1 d64v0))) (N : Nat) {s : St} {κ : Ex → St → Option (List Int)} {a : List Int} (h : lpOf 0 H1_1 P1_1 Q1_1 (u1_1 d64v0 N N) s κ = some a) : Out FT XT 0 (reto k1.res .u8) (loopN k1 1) s κ a := by
  rw [l1_1]
  exact loop_out (LP := W1_1 d64v0 N) (fu := fuelC) hT hO (fun _ _ => rfl) (b1_1 d64v0 N) loopOK_nil N h
def H1_0 : Trim := ⟨0, [], false, [0, 3, 9, 10, 11], []⟩
theorem l1_0 : loopN k1 0 = .loop H1_0 (bodyOf (loopN k1 0)) := by kernel_rfl
def P1_0 : Ps := ⟨[(0, (.tb (Sh.sl (Sh.int .u8)))), (2, .u), (3, (.int .i64)), (5, .u), (6, .u), (8, .u), (9, (.tb (Sh.sl (Sh.int .u8)))), (10, (.int .i64)), (11, (.int .i64)), (12, .u), (20, .u), (25, .u), (26, .u), (27, .u), (28, .u)], []⟩
def Q1_0 : Nat → Ps
  | 0 => ⟨[(0, (.tb (Sh.sl (Sh.int .u8)))), (2, .u), (3, (.int .i64)), (5, .u), (6, .u), (8, .u), (9, .u), (10, .u), (11, .u), (12, .u), (20, .u), (25, .u), (26, .u), (27, .u), (28, .u)], []⟩
  | _ => noPs
def u1_0 (d64v0 : Int → Option ((Nat × Unit) × ((List Int) × Unit))) (N n : Nat) (v : P1_0.T) (κ : (i : Nat) → (Q1_0 i).T → Option (List Int)) : Option (List Int) :=
  L1_0 d64v0 N (fun (y0 : List (List Int)) (y1 : Int) => κ 0 ((y0, ((), (y1, ((), ((), ((), ((), ((), ((), ((), ((), ((), ((), ((), ((), ()))))))))))))))), ())) n v.1.1 v.1.2.2.1 v.1.2.2.2.2.2.2.1 v.1.2.2.2.2.2.2.2.1 v.1.2.2.2.2.2.2.2.2.1
def W1_0 (d64v0 : Int → Option ((Nat × Unit) × ((List Int) × Unit))) (N : Nat) : LoopF (List Int) := fun no =>
  match no with
  | _ => fun _ _ => none
theorem b1_0 (d64v0 : Int → Option ((Nat × Unit) × ((List Int) × Unit))) (N n : Nat) (v : P1_0.T) (κ : (i : Nat) → (Q1_0 i).T → Option (List Int)) :
    evc (T1 d64v0) (rawOf (RW1 d64v0)) (W1_0 d64v0 N) (reto k1.res .u8) (modeOf FT) 0 fuelC (bodyOf (loopN k1 0)) (P1_0.st v) (roundK 0 H1_0 P1_0 Q1_0 (u1_0 d64v0 N n) κ) = u1_0 d64v0 N (n + 1) v κ := by kernel_rfl
theorem o1_0 (d64v0 : Int → Option ((Nat × Unit) × ((List Int) × Unit))) (hT : TabOK FT XT (T1 d64v0)) (hO : RawOK FT XT (rawOf (α := List Int) (RW1 d64v0))) (N : Nat) {s : St} {κ : Ex → St → Option (List Int)} {a : List Int} (h : lpOf 0 H1_0 P1_0 Q1_0 (u1_0 d64v0 N N) s κ = some a) : Out FT XT 0 (reto k1.res .u8) (loopN k1 0) s κ a := by
  rw [l1_0]
  exact loop_out (LP := W1_0 d64v0 N) (fu := fuelC) hT hO (fun _ _ => rfl) (b1_0 d64v0 N) loopOK_nil N h
def W1 (d64v0 : Int → Option ((Nat × Unit) × ((List Int) × Unit))) (N : Nat) : LoopF (List Int) := fun no =>
  match no with
  | 0 => lpOf 0 H1_0 P1_0 Q1_0 (u1_0 d64v0 N N)
  | 1 => lpOf 0 H1_1 P1_1 Q1_1 (u1_1 d64v0 N N)
  | _ => fun _ _ => none
theorem e1 (d64v0 : Int → Option ((Nat × Unit) × ((List Int) × Unit))) (N : Nat) (a0 : List (List Int)) : evc (T1 d64v0) (rawOf (RW1 d64v0)) (W1 d64v0 N) (reto k1.res .u8) (modeOf FT) 0 fuelC k1.body (env0 k1 (encL [(Sh.sl (Sh.sl (Sh.int .u8)))] (a0, ())), []) (endK (reto k1.res .u8)) = p1 d64v0 N a0 := by kernel_rfl
theorem ok1 (d64v0 : Int → Option ((Nat × Unit) × ((List Int) × Unit))) (h64v0 : REntOK FT XT 64 (rn64v0 d64v0)) {f : List (List Int) → Option (List Int)} (hf : ∀ a0 r, f a0 = some r → ∃ N, p1 d64v0 N a0 = some r) : EntOK FT XT 1 (en1 f) := by
  have hT : TabOK FT XT (T1 d64v0) := by
    intro g en hg
    unfold T1 at hg
    split at hg <;> first | (injection hg with hg; subst hg; assumption) | cases hg
  have hO0 : RawOK FT XT (rawOf (α := List Int) (RW1 d64v0)) := by
    refine rawOf_ok (fun g en hg => ?_)
    unfold RW1 at hg
    split at hg <;> simp only [List.mem_cons, List.not_mem_nil, or_false] at hg <;> first | (subst hg; assumption) | (rcases hg with rfl | rfl <;> assumption) | (rcases hg with rfl | rfl | rfl <;> assumption) | (rcases hg with rfl | rfl | rfl | rfl <;> assumption)
  have hO : RawOK FT XT (rawOf (α := List Int) (RW1 d64v0)) := hO0
  refine ⟨rfl, fun v r h => ?_⟩
  obtain ⟨a0, _⟩ := v
  obtain ⟨N, h1⟩ := hf _ _ h
  exact ans_o (tab := T1 d64v0) (raw := (rawOf (RW1 d64v0))) (LP := W1 d64v0 N) (fu := fuelC) hT hO rfl rfl (Nat.le_of_ble_eq_true rfl) (loopOK_cons l1_0 (fun s κ a h => o1_0 d64v0 hT hO N h) (loopOK_cons l1_1 (fun s κ a h => o1_1 d64v0 hT hO N h) loopOK_nil)) ((e1 d64v0 N _).trans h1)

def T48v0 : Nat → Option Ent
  | _ => none
def H48v0_0 : Trim := ⟨0, [], false, [0, 2, 3], []⟩
theorem l48v0_0 : loopN k48 0 = .loop H48v0_0 (bodyOf (loopN k48 0)) := by kernel_rfl
def P48v0_0 : Ps := ⟨[(0, (.slc 0 1)), (2, (.int .i64)), (3, (.int .i64)), (9, .u)], [(.ints false .u8)]⟩
def Q48v0_0 : Nat → Ps
  | 0 => ⟨[(0, .u), (2, .u), (3, .u), (9, .u)], [(.ints false .u8)]⟩
  | _ => noPs
def u48v0_0 (N n : Nat) (v : P48v0_0.T) (κ : (i : Nat) → (Q48v0_0 i).T → Option QR48v0.T) : Option QR48v0.T :=
  L48v0_0 N (fun (y0 : List Int) => κ 0 (((), ((), ((), ((), ())))), (y0, ()))) n v.1.1.1 v.1.1.2 v.1.2.1 v.1.2.2.1 v.2.1
def W48v0_0 (N : Nat) : LoopF QR48v0.T := fun no =>
  match no with
  | _ => fun _ _ => none
theorem b48v0_0 (N n : Nat) (v : P48v0_0.T) (κ : (i : Nat) → (Q48v0_0 i).T → Option QR48v0.T) :
    evc (T48v0) (rawOf RW0) (W48v0_0 N) (retr k48.res 1 QR48v0) (modeOf FT) 1 fuelC (bodyOf (loopN k48 0)) (P48v0_0.st v) (roundK 1 H48v0_0 P48v0_0 Q48v0_0 (u48v0_0 N n) κ) = u48v0_0 N (n + 1) v κ := by kernel_rfl
theorem o48v0_0 (hT : TabOK FT XT (T48v0)) (hO : RawOK FT XT (rawOf (α := QR48v0.T) RW0)) (N : Nat) {s : St} {κ : Ex → St → Option QR48v0.T} {a : QR48v0.T} (h : lpOf 1 H48v0_0 P48v0_0 Q48v0_0 (u48v0_0 N N) s κ = some a) : Out FT XT 1 (retr k48.res 1 QR48v0) (loopN k48 0) s κ a := by
  rw [l48v0_0]
  exact loop_out (LP := W48v0_0 N) (fu := fuelC) hT hO (fun _ _ => rfl) (b48v0_0 N) loopOK_nil N h
def W48v0 (N : Nat) : LoopF QR48v0.T := fun no =>
  match no with
  | 0 => lpOf 1 H48v0_0 P48v0_0 Q48v0_0 (u48v0_0 N N)
  | _ => fun _ _ => none
theorem e48v0 (N : Nat) (v : PR48v0.T) : evc (T48v0) (rawOf RW0) (W48v0 N) (retr k48.res 1 QR48v0) (modeOf FT) 1 fuelC k48.body (env0 k48 (PR48v0.a.st v.1), stH PR48v0.h v.2) (endK (retr k48.res 1 QR48v0)) = p48v0 N v.1.1.1 v.1.1.2 v.2.1 := by kernel_rfl
theorem ok48v0 {f : Nat → Nat → List Int → Option ((Unit × Unit) × ((List Int) × Unit))} (hf : ∀ a0 a1 a2 r, f a0 a1 a2 = some r → ∃ N, p48v0 N a0 a1 a2 = some r) : REntOK FT XT 48 (rn48v0 f) := by
  have hT : TabOK FT XT (T48v0) := by
    intro g en hg
    unfold T48v0 at hg
    split at hg <;> first | (injection hg with hg; subst hg; assumption) | cases hg
  have hO0 : RawOK FT XT (rawOf (α := QR48v0.T) RW0) := rawOK0
  have hO : RawOK FT XT (rawOf (α := QR48v0.T) RW0) := hO0
  intro v r w h hw
  obtain ⟨N, h1⟩ := hf _ _ _ _ h
  exact ans_r (Q := QR48v0) (tab := T48v0) (raw := (rawOf RW0)) (LP := W48v0 N) (fu := fuelC) hT hO rfl rfl (Nat.le_of_ble_eq_true rfl) rfl (loopOK_cons l48v0_0 (fun s κ a h => o48v0_0 hT hO N h) loopOK_nil) ((e48v0 N v).trans h1) hw

def T19 (d48v0 : Nat → Nat → List Int → Option ((Unit × Unit) × ((List Int) × Unit))) : Nat → Option Ent
  | _ => none
def RW19 (d48v0 : Nat → Nat → List Int → Option ((Unit × Unit) × ((List Int) × Unit))) : Nat → List REnt
  | 48 => [rn48v0 d48v0]
  | _ => []
def H19_0 : Trim := ⟨0, [], false, [0, 2, 8, 19, 20], []⟩
theorem l19_0 : loopN k19 0 = .loop H19_0 (bodyOf (loopN k19 0)) := by kernel_rfl
def P19_0 : Ps := ⟨[(0, (.int .u64)), (1, .u), (2, .bool), (6, .u), (7, .u), (8, (.slc 0 1)), (9, .u), (15, .u), (19, (.int .i64)), (20, (.int .i64)), (21, .u), (33, .u)], [(.ints false .u8)]⟩
def Q19_0 : Nat → Ps
  | 0 => ⟨[(0, .u), (1, .u), (2, .bool), (6, .u), (7, .u), (8, (.slc 0 1)), (9, .u), (15, .u), (19, .u), (20, .u), (21, .u), (33, .u)], [(.ints false .u8)]⟩
  | _ => noPs
def u19_0 (d48v0 : Nat → Nat → List Int → Option ((Unit × Unit) × ((List Int) × Unit))) (N n : Nat) (v : P19_0.T) (κ : (i : Nat) → (Q19_0 i).T → Option (((Sh.tu (Sh.pr (Sh.sl (Sh.int .u8)) (Sh.int .i64)))).T)) : Option (((Sh.tu (Sh.pr (Sh.sl (Sh.int .u8)) (Sh.int .i64)))).T) :=
  L19_0 d48v0 N (fun (y0 : Bool) (y1 : Nat) (y2 : Nat) (y3 : List Int) => κ 0 (((), ((), (y0, ((), ((), ((y1, y2), ((), ((), ((), ((), ((), ((), ())))))))))))), (y3, ()))) n v.1.1 v.1.2.2.1 v.1.2.2.2.2.2.1.1 v.1.2.2.2.2.2.1.2 v.1.2.2.2.2.2.2.2.2.1 v.1.2.2.2.2.2.2.2.2.2.1 v.2.1
def W19_0 (d48v0 : Nat → Nat → List Int → Option ((Unit × Unit) × ((List Int) × Unit))) (N : Nat) : LoopF (((Sh.tu (Sh.pr (Sh.sl (Sh.int .u8)) (Sh.int .i64)))).T) := fun no =>
  match no with
  | _ => fun _ _ => none
theorem b19_0 (d48v0 : Nat → Nat → List Int → Option ((Unit × Unit) × ((List Int) × Unit))) (N n : Nat) (v : P19_0.T) (κ : (i : Nat) → (Q19_0 i).T → Option (((Sh.tu (Sh.pr (Sh.sl (Sh.int .u8)) (Sh.int .i64)))).T)) :
    evc (T19 d48v0) (rawOf (RW19 d48v0)) (W19_0 d48v0 N) (retc k19.res (Sh.tu (Sh.pr (Sh.sl (Sh.int .u8)) (Sh.int .i64)))) (modeOf FT) 0 fuelC (bodyOf (loopN k19 0)) (P19_0.st v) (roundK 0 H19_0 P19_0 Q19_0 (u19_0 d48v0 N n) κ) = u19_0 d48v0 N (n + 1) v κ := by kernel_rfl
theorem o19_0 (d48v0 : Nat → Nat → List Int → Option ((Unit × Unit) × ((List Int) × Unit))) (hT : TabOK FT XT (T19 d48v0)) (hO : RawOK FT XT (rawOf (α := ((Sh.tu (Sh.pr (Sh.sl (Sh.int .u8)) (Sh.int .i64)))).T) (RW19 d48v0))) (N : Nat) {s : St} {κ : Ex → St → Option (((Sh.tu (Sh.pr (Sh.sl (Sh.int .u8)) (Sh.int .i64)))).T)} {a : ((Sh.tu (Sh.pr (Sh.sl (Sh.int .u8)) (Sh.int .i64)))).T} (h : lpOf 0 H19_0 P19_0 Q19_0 (u19_0 d48v0 N N) s κ = some a) : Out FT XT 0 (retc k19.res (Sh.tu (Sh.pr (Sh.sl (Sh.int .u8)) (Sh.int .i64)))) (loopN k19 0) s κ a := by
  rw [l19_0]
  exact loop_out (LP := W19_0 d48v0 N) (fu := fuelC) hT hO (fun _ _ => rfl) (b19_0 d48v0 N) loopOK_nil N h
def W19 (d48v0 : Nat → Nat → List Int → Option ((Unit × Unit) × ((List Int) × Unit))) (N : Nat) : LoopF (((Sh.tu (Sh.pr (Sh.sl (Sh.int .u8)) (Sh.int .i64)))).T) := fun no =>
  match no with
  | 0 => lpOf 0 H19_0 P19_0 Q19_0 (u19_0 d48v0 N N)
  | _ => fun _ _ => none
theorem e19 (d48v0 : Nat → Nat → List Int → Option ((Unit × Unit) × ((List Int) × Unit))) (N : Nat) (a0 : Int) (a1 : Int) (a2 : Bool) : evc (T19 d48v0) (rawOf (RW19 d48v0)) (W19 d48v0 N) (retc k19.res (Sh.tu (Sh.pr (Sh.sl (Sh.int .u8)) (Sh.int .i64)))) (modeOf FT) 0 fuelC k19.body (env0 k19 (encL [(Sh.int .u64), (Sh.int .i64), Sh.bool] (a0, (a1, (a2, ())))), []) (endK (retc k19.res (Sh.tu (Sh.pr (Sh.sl (Sh.int .u8)) (Sh.int .i64))))) = p19 d48v0 N a0 a1 a2 := by kernel_rfl
theorem ok19 (d48v0 : Nat → Nat → List Int → Option ((Unit × Unit) × ((List Int) × Unit))) (h48v0 : REntOK FT XT 48 (rn48v0 d48v0)) {f : Int → Int → Bool → Option ((List Int) × Int)} (hf : ∀ a0 a1 a2 r, f a0 a1 a2 = some r → ∃ N, p19 d48v0 N a0 a1 a2 = some r) : EntOK FT XT 19 (en19 f) := by
  have hT : TabOK FT XT (T19 d48v0) := by
    intro g en hg
    unfold T19 at hg
    split at hg <;> first | (injection hg with hg; subst hg; assumption) | cases hg
  have hO0 : RawOK FT XT (rawOf (α := ((Sh.tu (Sh.pr (Sh.sl (Sh.int .u8)) (Sh.int .i64)))).T) (RW19 d48v0)) := by
    refine rawOf_ok (fun g en hg => ?_)
    unfold RW19 at hg
    split at hg <;> simp only [List.mem_cons, List.not_mem_nil, or_false] at hg <;> first | (subst hg; assumption) | (rcases hg with rfl | rfl <;> assumption) | (rcases hg with rfl | rfl | rfl <;> assumption) | (rcases hg with rfl | rfl | rfl | rfl <;> assumption)
  have hO : RawOK FT XT (rawOf (α := ((Sh.tu (Sh.pr (Sh.sl (Sh.int .u8)) (Sh.int .i64)))).T) (RW19 d48v0)) := hO0
  refine ⟨rfl, fun v r h => ?_⟩
  obtain ⟨a0, a1, a2, _⟩ := v
  obtain ⟨N, h1⟩ := hf _ _ _ _ h
  exact ans_c (R := (Sh.tu (Sh.pr (Sh.sl (Sh.int .u8)) (Sh.int .i64)))) (tab := T19 d48v0) (raw := (rawOf (RW19 d48v0))) (LP := W19 d48v0 N) (fu := fuelC) hT hO rfl rfl (Nat.le_of_ble_eq_true rfl) (loopOK_cons l19_0 (fun s κ a h => o19_0 d48v0 hT hO N h) loopOK_nil) ((e19 d48v0 N _ _ _).trans h1)

def T21 : Nat → Option Ent
  | _ => none
def H21_0 : Trim := ⟨0, [], false, [1, 6, 17, 18, 19], []⟩
theorem l21_0 : loopN k21 0 = .loop H21_0 (bodyOf (loopN k21 0)) := by kernel_rfl
def P21_0 : Ps := ⟨[(0, .u), (1, .bool), (4, .u), (5, .u), (6, (.int .u64)), (7, .u), (8, .u), (16, .u), (17, (.tb (Sh.int .u8))), (18, (.int .i64)), (19, (.int .i64)), (20, .u), (24, .u)], []⟩
def Q21_0 : Nat → Ps
  | 0 => ⟨[(0, .u), (1, .u), (4, .u), (5, .u), (6, (.int .u64)), (7, .u), (8, .u), (16, .u), (17, .u), (18, .u), (19, .u), (20, .u), (24, .u)], []⟩
  | _ => noPs
def u21_0 (N n : Nat) (v : P21_0.T) (κ : (i : Nat) → (Q21_0 i).T → Option (((Sh.tu (Sh.pr (Sh.int .u64) (Sh.int .i64)))).T)) : Option (((Sh.tu (Sh.pr (Sh.int .u64) (Sh.int .i64)))).T) :=
  L21_0 N (fun (y0 : Int) => κ 0 (((), ((), ((), ((), (y0, ((), ((), ((), ((), ((), ((), ((), ((), ()))))))))))))), ())) n v.1.2.1 v.1.2.2.2.2.1 v.1.2.2.2.2.2.2.2.2.1 v.1.2.2.2.2.2.2.2.2.2.1 v.1.2.2.2.2.2.2.2.2.2.2.1
def W21_0 (N : Nat) : LoopF (((Sh.tu (Sh.pr (Sh.int .u64) (Sh.int .i64)))).T) := fun no =>
  match no with
  | _ => fun _ _ => none
theorem b21_0 (N n : Nat) (v : P21_0.T) (κ : (i : Nat) → (Q21_0 i).T → Option (((Sh.tu (Sh.pr (Sh.int .u64) (Sh.int .i64)))).T)) :
    evc (T21) (rawOf RW0) (W21_0 N) (retc k21.res (Sh.tu (Sh.pr (Sh.int .u64) (Sh.int .i64)))) (modeOf FT) 0 fuelC (bodyOf (loopN k21 0)) (P21_0.st v) (roundK 0 H21_0 P21_0 Q21_0 (u21_0 N n) κ) = u21_0 N (n + 1) v κ := by kernel_rfl
theorem o21_0 (hT : TabOK FT XT (T21)) (hO : RawOK FT XT (rawOf (α := ((Sh.tu (Sh.pr (Sh.int .u64) (Sh.int .i64)))).T) RW0)) (N : Nat) {s : St} {κ : Ex → St → Option (((Sh.tu (Sh.pr (Sh.int .u64) (Sh.int .i64)))).T)} {a : ((Sh.tu (Sh.pr (Sh.int .u64) (Sh.int .i64)))).T} (h : lpOf 0 H21_0 P21_0 Q21_0 (u21_0 N N) s κ = some a) : Out FT XT 0 (retc k21.res (Sh.tu (Sh.pr (Sh.int .u64) (Sh.int .i64)))) (loopN k21 0) s κ a := by
  rw [l21_0]
  exact loop_out (LP := W21_0 N) (fu := fuelC) hT hO (fun _ _ => rfl) (b21_0 N) loopOK_nil N h
def W21 (N : Nat) : LoopF (((Sh.tu (Sh.pr (Sh.int .u64) (Sh.int .i64)))).T) := fun no =>
  match no with
  | 0 => lpOf 0 H21_0 P21_0 Q21_0 (u21_0 N N)
  | _ => fun _ _ => none
theorem e21 (N : Nat) (a0 : List Int) (a1 : Bool) : evc (T21) (rawOf RW0) (W21 N) (retc k21.res (Sh.tu (Sh.pr (Sh.int .u64) (Sh.int .i64)))) (modeOf FT) 0 fuelC k21.body (env0 k21 (encL [(Sh.sl (Sh.int .u8)), Sh.bool] (a0, (a1, ()))), []) (endK (retc k21.res (Sh.tu (Sh.pr (Sh.int .u64) (Sh.int .i64))))) = p21 N a0 a1 := by kernel_rfl
theorem ok21 {f : List Int → Bool → Option (Int × Int)} (hf : ∀ a0 a1 r, f a0 a1 = some r → ∃ N, p21 N a0 a1 = some r) : EntOK FT XT 21 (en21 f) := by
  have hT : TabOK FT XT (T21) := by
    intro g en hg
    unfold T21 at hg
    split at hg <;> first | (injection hg with hg; subst hg; assumption) | cases hg
  have hO0 : RawOK FT XT (rawOf (α := ((Sh.tu (Sh.pr (Sh.int .u64) (Sh.int .i64)))).T) RW0) := rawOK0
  have hO : RawOK FT XT (rawOf (α := ((Sh.tu (Sh.pr (Sh.int .u64) (Sh.int .i64)))).T) RW0) := hO0
  refine ⟨rfl, fun v r h => ?_⟩
  obtain ⟨a0, a1, _⟩ := v
  obtain ⟨N, h1⟩ := hf _ _ _ h
  exact ans_c (R := (Sh.tu (Sh.pr (Sh.int .u64) (Sh.int .i64)))) (tab := T21) (raw := (rawOf RW0)) (LP := W21 N) (fu := fuelC) hT hO rfl rfl (Nat.le_of_ble_eq_true rfl) (loopOK_cons l21_0 (fun s κ a h => o21_0 hT hO N h) loopOK_nil) ((e21 N _ _).trans h1)

def T23 : Nat → Option Ent
  | _ => none
def H23_0 : Trim := ⟨0, [], false, [0, 1, 5], []⟩
theorem l23_0 : loopN k23 0 = .loop H23_0 (bodyOf (loopN k23 0)) := by kernel_rfl
def P23_0 : Ps := ⟨[(0, (.tb (Sh.int .u8))), (1, (.tb (Sh.int .u8))), (4, .u), (5, (.int .i64)), (10, .u), (14, .u), (25, .u)], []⟩
def Q23_0 : Nat → Ps
  | 0 => ⟨[(0, .u), (1, .u), (4, .u), (5, .u), (10, .u), (14, .u), (25, .u)], []⟩
  | _ => noPs
def u23_0 (N n : Nat) (v : P23_0.T) (κ : (i : Nat) → (Q23_0 i).T → Option (Sh.bool).T) : Option (Sh.bool).T :=
  L23_0 N (κ 0 (((), ((), ((), ((), ((), ((), ((), ()))))))), ())) n v.1.1 v.1.2.1 v.1.2.2.2.1
def W23_0 (N : Nat) : LoopF (Sh.bool).T := fun no =>
  match no with
  | _ => fun _ _ => none
theorem b23_0 (N n : Nat) (v : P23_0.T) (κ : (i : Nat) → (Q23_0 i).T → Option (Sh.bool).T) :
    evc (T23) (rawOf RW0) (W23_0 N) (retc k23.res Sh.bool) (modeOf FT) 0 fuelC (bodyOf (loopN k23 0)) (P23_0.st v) (roundK 0 H23_0 P23_0 Q23_0 (u23_0 N n) κ) = u23_0 N (n + 1) v κ := by kernel_rfl
theorem o23_0 (hT : TabOK FT XT (T23)) (hO : RawOK FT XT (rawOf (α := (Sh.bool).T) RW0)) (N : Nat) {s : St} {κ : Ex → St → Option (Sh.bool).T} {a : (Sh.bool).T} (h : lpOf 0 H23_0 P23_0 Q23_0 (u23_0 N N) s κ = some a) : Out FT XT 0 (retc k23.res Sh.bool) (loopN k23 0) s κ a := by
  rw [l23_0]
  exact loop_out (LP := W23_0 N) (fu := fuelC) hT hO (fun _ _ => rfl) (b23_0 N) loopOK_nil N h
def W23 (N : Nat) : LoopF (Sh.bool).T := fun no =>
  match no with
  | 0 => lpOf 0 H23_0 P23_0 Q23_0 (u23_0 N N)
  | _ => fun _ _ => none
theorem e23 (N : Nat) (a0 : List Int) (a1 : List Int) : evc (T23) (rawOf RW0) (W23 N) (retc k23.res Sh.bool) (modeOf FT) 0 fuelC k23.body (env0 k23 (encL [(Sh.sl (Sh.int .u8)), (Sh.sl (Sh.int .u8))] (a0, (a1, ()))), []) (endK (retc k23.res Sh.bool)) = p23 N a0 a1 := by kernel_rfl
theorem ok23 {f : List Int → List Int → Option Bool} (hf : ∀ a0 a1 r, f a0 a1 = some r → ∃ N, p23 N a0 a1 = some r) : EntOK FT XT 23 (en23 f) := by
  have hT : TabOK FT XT (T23) := by
    intro g en hg
    unfold T23 at hg
    split at hg <;> first | (injection hg with hg; subst hg; assumption) | cases hg
  have hO0 : RawOK FT XT (rawOf (α := (Sh.bool).T) RW0) := rawOK0
  have hO : RawOK FT XT (rawOf (α := (Sh.bool).T) RW0) := hO0
  refine ⟨rfl, fun v r h => ?_⟩
  obtain ⟨a0, a1, _⟩ := v
  obtain ⟨N, h1⟩ := hf _ _ _ h
  exact ans_c (R := Sh.bool) (tab := T23) (raw := (rawOf RW0)) (LP := W23 N) (fu := fuelC) hT hO rfl rfl (Nat.le_of_ble_eq_true rfl) (loopOK_cons l23_0 (fun s κ a h => o23_0 hT hO N h) loopOK_nil) ((e23 N _ _).trans h1)

def T46 (c1 : List (List Int) → Option (List Int)) : Nat → Option Ent
  | 1 => some (en1 c1)
  | _ => none
def W46 (c1 : List (List Int) → Option (List Int)) (N : Nat) : LoopF (List Int) := fun no =>
  match no with
  | _ => fun _ _ => none
theorem e46 (c1 : List (List Int) → Option (List Int)) (N : Nat) (a0 : List (List Int)) : evc (T46 c1) (rawOf RW0) (W46 c1 N) (reto k46.res .u8) (modeOf FT) 0 fuelC k46.body (env0 k46 (encL [(Sh.sl (Sh.sl (Sh.int .u8)))] (a0, ())), []) (endK (reto k46.res .u8)) = p46 c1 N a0 := by kernel_rfl
theorem ok46 (c1 : List (List Int) → Option (List Int)) (h1 : EntOK FT XT 1 (en1 c1)) {f : List (List Int) → Option (List Int)} (hf : ∀ a0 r, f a0 = some r → ∃ N, p46 c1 N a0 = some r) : EntOK FT XT 46 (en46 f) := by
  have hT : TabOK FT XT (T46 c1) := by
    intro g en hg
    unfold T46 at hg
    split at hg <;> first | (injection hg with hg; subst hg; assumption) | cases hg
  have hO0 : RawOK FT XT (rawOf (α := List Int) RW0) := rawOK0
  have hO : RawOK FT XT (rawOf (α := List Int) RW0) := hO0
  refine ⟨rfl, fun v r h => ?_⟩
  obtain ⟨a0, _⟩ := v
  obtain ⟨N, h1⟩ := hf _ _ h
  exact ans_o (tab := T46 c1) (raw := (rawOf RW0)) (LP := W46 c1 N) (fu := fuelC) hT hO rfl rfl (Nat.le_of_ble_eq_true rfl) loopOK_nil ((e46 c1 N _).trans h1)

def T50 : Nat → Option Ent
  | _ => none
def H50_0 : Trim := ⟨0, [], false, [0, 5, 6], []⟩
theorem l50_0 : loopN k50 0 = .loop H50_0 (bodyOf (loopN k50 0)) := by kernel_rfl
def P50_0 : Ps := ⟨[(0, (.int .u64)), (1, .u), (4, .u), (5, (.slc 0 1)), (6, (.int .i64)), (12, .u)], [(.ints false .u8)]⟩
def Q50_0 : Nat → Ps
  | 0 => ⟨[(0, .u), (1, .u), (4, .u), (5, (.slc 0 1)), (6, .u), (12, .u)], [(.ints false .u8)]⟩
  | _ => noPs
def u50_0 (N n : Nat) (v : P50_0.T) (κ : (i : Nat) → (Q50_0 i).T → Option (List Int)) : Option (List Int) :=
  L50_0 N (fun (y0 : Nat) (y1 : Nat) (y2 : List Int) => κ 0 (((), ((), ((), ((y0, y1), ((), ((), ())))))), (y2, ()))) n v.1.1 v.1.2.2.2.1.1 v.1.2.2.2.1.2 v.1.2.2.2.2.1 v.2.1
def W50_0 (N : Nat) : LoopF (List Int) := fun no =>
  match no with
  | _ => fun _ _ => none
theorem b50_0 (N n : Nat) (v : P50_0.T) (κ : (i : Nat) → (Q50_0 i).T → Option (List Int)) :
    evc (T50) (rawOf RW0) (W50_0 N) (reto k50.res .u8) (modeOf FT) 0 fuelC (bodyOf (loopN k50 0)) (P50_0.st v) (roundK 0 H50_0 P50_0 Q50_0 (u50_0 N n) κ) = u50_0 N (n + 1) v κ := by kernel_rfl
theorem o50_0 (hT : TabOK FT XT (T50)) (hO : RawOK FT XT (rawOf (α := List Int) RW0)) (N : Nat) {s : St} {κ : Ex → St → Option (List Int)} {a : List Int} (h : lpOf 0 H50_0 P50_0 Q50_0 (u50_0 N N) s κ = some a) : Out FT XT 0 (reto k50.res .u8) (loopN k50 0) s κ a := by
  rw [l50_0]
  exact loop_out (LP := W50_0 N) (fu := fuelC) hT hO (fun _ _ => rfl) (b50_0 N) loopOK_nil N h
def W50 (N : Nat) : LoopF (List Int) := fun no =>
  match no with
  | 0 => lpOf 0 H50_0 P50_0 Q50_0 (u50_0 N N)
  | _ => fun _ _ => none
theorem e50 (N : Nat) (a0 : Int) (a1 : Int) : evc (T50) (rawOf RW0) (W50 N) (reto k50.res .u8) (modeOf FT) 0 fuelC k50.body (env0 k50 (encL [(Sh.int .u64), (Sh.int .i64)] (a0, (a1, ()))), []) (endK (reto k50.res .u8)) = p50 N a0 a1 := by kernel_rfl
theorem ok50 {f : Int → Int → Option (List Int)} (hf : ∀ a0 a1 r, f a0 a1 = some r → ∃ N, p50 N a0 a1 = some r) : EntOK FT XT 50 (en50 f) := by
  have hT : TabOK FT XT (T50) := by
    intro g en hg
    unfold T50 at hg
    split at hg <;> first | (injection hg with hg; subst hg; assumption) | cases hg
  have hO0 : RawOK FT XT (rawOf (α := List Int) RW0) := rawOK0
  have hO : RawOK FT XT (rawOf (α := List Int) RW0) := hO0
  refine ⟨rfl, fun v r h => ?_⟩
  obtain ⟨a0, a1, _⟩ := v
  obtain ⟨N, h1⟩ := hf _ _ _ h
  exact ans_o (tab := T50) (raw := (rawOf RW0)) (LP := W50 N) (fu := fuelC) hT hO rfl rfl (Nat.le_of_ble_eq_true rfl) (loopOK_cons l50_0 (fun s κ a h => o50_0 hT hO N h) loopOK_nil) ((e50 N _ _).trans h1)

def T51 : Nat → Option Ent
  | _ => none
def H51_0 : Trim := ⟨0, [], false, [0, 3, 4], []⟩
theorem l51_0 : loopN k51 0 = .loop H51_0 (bodyOf (loopN k51 0)) := by kernel_rfl
def P51_0 : Ps := ⟨[(0, (.tb (Sh.int .u8))), (2, .u), (3, (.int .u64)), (4, (.int .i64)), (8, .u)], []⟩
def Q51_0 : Nat → Ps
  | 0 => ⟨[(0, .u), (2, .u), (3, (.int .u64)), (4, .u), (8, .u)], []⟩
  | _ => noPs
def u51_0 (N n : Nat) (v : P51_0.T) (κ : (i : Nat) → (Q51_0 i).T → Option (((Sh.int .u64)).T)) : Option (((Sh.int .u64)).T) :=
  L51_0 N (fun (y0 : Int) => κ 0 (((), ((), (y0, ((), ((), ()))))), ())) n v.1.1 v.1.2.2.1 v.1.2.2.2.1
def W51_0 (N : Nat) : LoopF (((Sh.int .u64)).T) := fun no =>
  match no with
  | _ => fun _ _ => none
theorem b51_0 (N n : Nat) (v : P51_0.T) (κ : (i : Nat) → (Q51_0 i).T → Option (((Sh.int .u64)).T)) :
    evc (T51) (rawOf RW0) (W51_0 N) (retc k51.res (Sh.int .u64)) (modeOf FT) 0 fuelC (bodyOf (loopN k51 0)) (P51_0.st v) (roundK 0 H51_0 P51_0 Q51_0 (u51_0 N n) κ) = u51_0 N (n + 1) v κ := by kernel_rfl
theorem o51_0 (hT : TabOK FT XT (T51)) (hO : RawOK FT XT (rawOf (α := ((Sh.int .u64)).T) RW0)) (N : Nat) {s : St} {κ : Ex → St → Option (((Sh.int .u64)).T)} {a : ((Sh.int .u64)).T} (h : lpOf 0 H51_0 P51_0 Q51_0 (u51_0 N N) s κ = some a) : Out FT XT 0 (retc k51.res (Sh.int .u64)) (loopN k51 0) s κ a := by
  rw [l51_0]
  exact loop_out (LP := W51_0 N) (fu := fuelC) hT hO (fun _ _ => rfl) (b51_0 N) loopOK_nil N h
def W51 (N : Nat) : LoopF (((Sh.int .u64)).T) := fun no =>
  match no with
  | 0 => lpOf 0 H51_0 P51_0 Q51_0 (u51_0 N N)
  | _ => fun _ _ => none
theorem e51 (N : Nat) (a0 : List Int) : evc (T51) (rawOf RW0) (W51 N) (retc k51.res (Sh.int .u64)) (modeOf FT) 0 fuelC k51.body (env0 k51 (encL [(Sh.sl (Sh.int .u8))] (a0, ())), []) (endK (retc k51.res (Sh.int .u64))) = p51 N a0 := by kernel_rfl
theorem ok51 {f : List Int → Option Int} (hf : ∀ a0 r, f a0 = some r → ∃ N, p51 N a0 = some r) : EntOK FT XT 51 (en51 f) := by
  have hT : TabOK FT XT (T51) := by
    intro g en hg
    unfold T51 at hg
    split at hg <;> first | (injection hg with hg; subst hg; assumption) | cases hg
  have hO0 : RawOK FT XT (rawOf (α := ((Sh.int .u64)).T) RW0) := rawOK0
  have hO : RawOK FT XT (rawOf (α := ((Sh.int .u64)).T) RW0) := hO0
  refine ⟨rfl, fun v r h => ?_⟩
  obtain ⟨a0, _⟩ := v
  obtain ⟨N, h1⟩ := hf _ _ h
  exact ans_c (R := (Sh.int .u64)) (tab := T51) (raw := (rawOf RW0)) (LP := W51 N) (fu := fuelC) hT hO rfl rfl (Nat.le_of_ble_eq_true rfl) (loopOK_cons l51_0 (fun s κ a h => o51_0 hT hO N h) loopOK_nil) ((e51 N _).trans h1)

def T161 : Nat → Option Ent
  | _ => none
def W161 (N : Nat) : LoopF (Sh.bool).T := fun no =>
  match no with
  | _ => fun _ _ => none
theorem e161 (N : Nat) (a0 : Int) : evc (T161) (rawOf RW0) (W161 N) (retc k161.res Sh.bool) (modeOf FT) 0 fuelC k161.body (env0 k161 (encL [(Sh.int .u8)] (a0, ())), []) (endK (retc k161.res Sh.bool)) = p161 N a0 := by kernel_rfl
theorem ok161 {f : Int → Option Bool} (hf : ∀ a0 r, f a0 = some r → ∃ N, p161 N a0 = some r) : EntOK FT XT 161 (en161 f) := by
  have hT : TabOK FT XT (T161) := by
    intro g en hg
    unfold T161 at hg
    split at hg <;> first | (injection hg with hg; subst hg; assumption) | cases hg
  have hO0 : RawOK FT XT (rawOf (α := (Sh.bool).T) RW0) := rawOK0
  have hO : RawOK FT XT (rawOf (α := (Sh.bool).T) RW0) := hO0
  refine ⟨rfl, fun v r h => ?_⟩
  obtain ⟨a0, _⟩ := v
  obtain ⟨N, h1⟩ := hf _ _ h
  exact ans_c (R := Sh.bool) (tab := T161) (raw := (rawOf RW0)) (LP := W161 N) (fu := fuelC) hT hO rfl rfl (Nat.le_of_ble_eq_true rfl) loopOK_nil ((e161 N _).trans h1)

def T139 (c161 : Int → Option Bool) (c19 : Int → Int → Bool → Option ((List Int) × Int)) (c46 : List (List Int) → Option (List Int)) : Nat → Option Ent
  | 161 => some (en161 c161)
  | 19 => some (en19 c19)
  | 46 => some (en46 c46)
  | _ => none
def W139 (c161 : Int → Option Bool) (c19 : Int → Int → Bool → Option ((List Int) × Int)) (c46 : List (List Int) → Option (List Int)) (N : Nat) : LoopF (((Sh.tu (Sh.pr (Sh.sl (Sh.int .u8)) (Sh.int .i64)))).T) := fun no =>
  match no with
  | _ => fun _ _ => none
theorem e139 (c161 : Int → Option Bool) (c19 : Int → Int → Bool → Option ((List Int) × Int)) (c46 : List (List Int) → Option (List Int)) (N : Nat) (a0 : Int × (List Int)) : evc (T139 c161 c19 c46) (rawOf RW0) (W139 c161 c19 c46 N) (retc k139.res (Sh.tu (Sh.pr (Sh.sl (Sh.int .u8)) (Sh.int .i64)))) (modeOf FT) 0 fuelC k139.body (env0 k139 (encL [(Sh.st (Sh.pr (Sh.int .u8) (Sh.sl (Sh.int .u8))))] (a0, ())), []) (endK (retc k139.res (Sh.tu (Sh.pr (Sh.sl (Sh.int .u8)) (Sh.int .i64))))) = p139 c161 c19 c46 N a0 := by kernel_rfl
theorem ok139 (c161 : Int → Option Bool) (c19 : Int → Int → Bool → Option ((List Int) × Int)) (c46 : List (List Int) → Option (List Int)) (h161 : EntOK FT XT 161 (en161 c161)) (h19 : EntOK FT XT 19 (en19 c19)) (h46 : EntOK FT XT 46 (en46 c46)) {f : Int × (List Int) → Option ((List Int) × Int)} (hf : ∀ a0 r, f a0 = some r → ∃ N, p139 c161 c19 c46 N a0 = some r) : EntOK FT XT 139 (en139 f) := by
  have hT : TabOK FT XT (T139 c161 c19 c46) := by
    intro g en hg
    unfold T139 at hg
    split at hg <;> first | (injection hg with hg; subst hg; assumption) | cases hg
  have hO0 : RawOK FT XT (rawOf (α := ((Sh.tu (Sh.pr (Sh.sl (Sh.int .u8)) (Sh.int .i64)))).T) RW0) := rawOK0
  have hO : RawOK FT XT (rawOf (α := ((Sh.tu (Sh.pr (Sh.sl (Sh.int .u8)) (Sh.int .i64)))).T) RW0) := hO0
  refine ⟨rfl, fun v r h => ?_⟩
  obtain ⟨a0, _⟩ := v
  obtain ⟨N, h1⟩ := hf _ _ h
  exact ans_c (R := (Sh.tu (Sh.pr (Sh.sl (Sh.int .u8)) (Sh.int .i64)))) (tab := T139 c161 c19 c46) (raw := (rawOf RW0)) (LP := W139 c161 c19 c46 N) (fu := fuelC) hT hO rfl rfl (Nat.le_of_ble_eq_true rfl) loopOK_nil ((e139 c161 c19 c46 N _).trans h1)

def T162 : Nat → Option Ent
  | _ => none
def W162 (N : Nat) : LoopF (Sh.bool).T := fun no =>
  match no with
  | _ => fun _ _ => none
theorem e162 (N : Nat) (a0 : Int) : evc (T162) (rawOf RW0) (W162 N) (retc k162.res Sh.bool) (modeOf FT) 0 fuelC k162.body (env0 k162 (encL [(Sh.int .u8)] (a0, ())), []) (endK (retc k162.res Sh.bool)) = p162 N a0 := by kernel_rfl
theorem ok162 {f : Int → Option Bool} (hf : ∀ a0 r, f a0 = some r → ∃ N, p162 N a0 = some r) : EntOK FT XT 162 (en162 f) := by
  have hT : TabOK FT XT (T162) := by
    intro g en hg
    unfold T162 at hg
    split at hg <;> first | (injection hg with hg; subst hg; assumption) | cases hg
  have hO0 : RawOK FT XT (rawOf (α := (Sh.bool).T) RW0) := rawOK0
  have hO : RawOK FT XT (rawOf (α := (Sh.bool).T) RW0) := hO0
  refine ⟨rfl, fun v r h => ?_⟩
  obtain ⟨a0, _⟩ := v
  obtain ⟨N, h1⟩ := hf _ _ h
  exact ans_c (R := Sh.bool) (tab := T162) (raw := (rawOf RW0)) (LP := W162 N) (fu := fuelC) hT hO rfl rfl (Nat.le_of_ble_eq_true rfl) loopOK_nil ((e162 N _).trans h1)

def T141 (c162 : Int → Option Bool) (c50 : Int → Int → Option (List Int)) : Nat → Option Ent
  | 162 => some (en162 c162)
  | 50 => some (en50 c50)
  | _ => none
def W141 (c162 : Int → Option Bool) (c50 : Int → Int → Option (List Int)) (N : Nat) : LoopF (((Sh.tu (Sh.pr (Sh.sl (Sh.int .u8)) (Sh.int .i64)))).T) := fun no =>
  match no with
  | _ => fun _ _ => none
theorem e141 (c162 : Int → Option Bool) (c50 : Int → Int → Option (List Int)) (N : Nat) (a0 : Int × (List Int)) : evc (T141 c162 c50) (rawOf RW0) (W141 c162 c50 N) (retc k141.res (Sh.tu (Sh.pr (Sh.sl (Sh.int .u8)) (Sh.int .i64)))) (modeOf FT) 0 fuelC k141.body (env0 k141 (encL [(Sh.st (Sh.pr (Sh.int .u8) (Sh.sl (Sh.int .u8))))] (a0, ())), []) (endK (retc k141.res (Sh.tu (Sh.pr (Sh.sl (Sh.int .u8)) (Sh.int .i64))))) = p141 c162 c50 N a0 := by kernel_rfl
theorem ok141 (c162 : Int → Option Bool) (c50 : Int → Int → Option (List Int)) (h162 : EntOK FT XT 162 (en162 c162)) (h50 : EntOK FT XT 50 (en50 c50)) {f : Int × (List Int) → Option ((List Int) × Int)} (hf : ∀ a0 r, f a0 = some r → ∃ N, p141 c162 c50 N a0 = some r) : EntOK FT XT 141 (en141 f) := by
  have hT : TabOK FT XT (T141 c162 c50) := by
    intro g en hg
    unfold T141 at hg
    split at hg <;> first | (injection hg with hg; subst hg; assumption) | cases hg
  have hO0 : RawOK FT XT (rawOf (α := ((Sh.tu (Sh.pr (Sh.sl (Sh.int .u8)) (Sh.int .i64)))).T) RW0) := rawOK0
  have hO : RawOK FT XT (rawOf (α := ((Sh.tu (Sh.pr (Sh.sl (Sh.int .u8)) (Sh.int .i64)))).T) RW0) := hO0
  refine ⟨rfl, fun v r h => ?_⟩
  obtain ⟨a0, _⟩ := v
  obtain ⟨N, h1⟩ := hf _ _ h
  exact ans_c (R := (Sh.tu (Sh.pr (Sh.sl (Sh.int .u8)) (Sh.int .i64)))) (tab := T141 c162 c50) (raw := (rawOf RW0)) (LP := W141 c162 c50 N) (fu := fuelC) hT hO rfl rfl (Nat.le_of_ble_eq_true rfl) loopOK_nil ((e141 c162 c50 N _).trans h1)

def T142 (c21 : List Int → Bool → Option (Int × Int)) (c161 : Int → Option Bool) (c108 : List Int → Option (List Int)) : Nat → Option Ent
  | 21 => some (en21 c21)
  | 161 => some (en161 c161)
  | 108 => some (en108 c108)
  | _ => none
def W142 (c21 : List Int → Bool → Option (Int × Int)) (c161 : Int → Option Bool) (c108 : List Int → Option (List Int)) (N : Nat) : LoopF (((Sh.tu (Sh.pr (Sh.st (Sh.pr (Sh.int .u8) (Sh.sl (Sh.int .u8)))) (Sh.pr (Sh.int .i64) (Sh.int .i64))))).T) := fun no =>
  match no with
  | _ => fun _ _ => none
theorem e142 (c21 : List Int → Bool → Option (Int × Int)) (c161 : Int → Option Bool) (c108 : List Int → Option (List Int)) (N : Nat) (a0 : List Int) : evc (T142 c21 c161 c108) (rawOf RW0) (W142 c21 c161 c108 N) (retc k142.res (Sh.tu (Sh.pr (Sh.st (Sh.pr (Sh.int .u8) (Sh.sl (Sh.int .u8)))) (Sh.pr (Sh.int .i64) (Sh.int .i64))))) (modeOf FT) 0 fuelC k142.body (env0 k142 (encL [(Sh.sl (Sh.int .u8))] (a0, ())), []) (endK (retc k142.res (Sh.tu (Sh.pr (Sh.st (Sh.pr (Sh.int .u8) (Sh.sl (Sh.int .u8)))) (Sh.pr (Sh.int .i64) (Sh.int .i64)))))) = p142 c21 c161 c108 N a0 := by kernel_rfl
theorem ok142 (c21 : List Int → Bool → Option (Int × Int)) (c161 : Int → Option Bool) (c108 : List Int → Option (List Int)) (h21 : EntOK FT XT 21 (en21 c21)) (h161 : EntOK FT XT 161 (en161 c161)) (h108 : EntOK FT XT 108 (en108 c108)) {f : List Int → Option ((Int × (List Int)) × Int × Int)} (hf : ∀ a0 r, f a0 = some r → ∃ N, p142 c21 c161 c108 N a0 = some r) : EntOK FT XT 142 (en142 f) := by
  have hT : TabOK FT XT (T142 c21 c161 c108) := by
    intro g en hg
    unfold T142 at hg
    split at hg <;> first | (injection hg with hg; subst hg; assumption) | cases hg
  have hO0 : RawOK FT XT (rawOf (α := ((Sh.tu (Sh.pr (Sh.st (Sh.pr (Sh.int .u8) (Sh.sl (Sh.int .u8)))) (Sh.pr (Sh.int .i64) (Sh.int .i64))))).T) RW0) := rawOK0
  have hO : RawOK FT XT (rawOf (α := ((Sh.tu (Sh.pr (Sh.st (Sh.pr (Sh.int .u8) (Sh.sl (Sh.int .u8)))) (Sh.pr (Sh.int .i64) (Sh.int .i64))))).T) RW0) := hO0
  refine ⟨rfl, fun v r h => ?_⟩
  obtain ⟨a0, _⟩ := v
  obtain ⟨N, h1⟩ := hf _ _ h
  exact ans_c (R := (Sh.tu (Sh.pr (Sh.st (Sh.pr (Sh.int .u8) (Sh.sl (Sh.int .u8)))) (Sh.pr (Sh.int .i64) (Sh.int .i64))))) (tab := T142 c21 c161 c108) (raw := (rawOf RW0)) (LP := W142 c21 c161 c108 N) (fu := fuelC) hT hO rfl rfl (Nat.le_of_ble_eq_true rfl) loopOK_nil ((e142 c21 c161 c108 N _).trans h1)

def T143 (c51 : List Int → Option Int) (c162 : Int → Option Bool) : Nat → Option Ent
  | 51 => some (en51 c51)
  | 162 => some (en162 c162)
  | _ => none
def W143 (c51 : List Int → Option Int) (c162 : Int → Option Bool) (N : Nat) : LoopF (((Sh.tu (Sh.pr (Sh.st (Sh.pr (Sh.int .u8) (Sh.sl (Sh.int .u8)))) (Sh.pr (Sh.int .i64) (Sh.int .i64))))).T) := fun no =>
  match no with
  | _ => fun _ _ => none
theorem e143 (c51 : List Int → Option Int) (c162 : Int → Option Bool) (N : Nat) (a0 : List Int) : evc (T143 c51 c162) (rawOf RW0) (W143 c51 c162 N) (retc k143.res (Sh.tu (Sh.pr (Sh.st (Sh.pr (Sh.int .u8) (Sh.sl (Sh.int .u8)))) (Sh.pr (Sh.int .i64) (Sh.int .i64))))) (modeOf FT) 0 fuelC k143.body (env0 k143 (encL [(Sh.sl (Sh.int .u8))] (a0, ())), []) (endK (retc k143.res (Sh.tu (Sh.pr (Sh.st (Sh.pr (Sh.int .u8) (Sh.sl (Sh.int .u8)))) (Sh.pr (Sh.int .i64) (Sh.int .i64)))))) = p143 c51 c162 N a0 := by kernel_rfl
theorem ok143 (c51 : List Int → Option Int) (c162 : Int → Option Bool) (h51 : EntOK FT XT 51 (en51 c51)) (h162 : EntOK FT XT 162 (en162 c162)) {f : List Int → Option ((Int × (List Int)) × Int × Int)} (hf : ∀ a0 r, f a0 = some r → ∃ N, p143 c51 c162 N a0 = some r) : EntOK FT XT 143 (en143 f) := by
  have hT : TabOK FT XT (T143 c51 c162) := by
    intro g en hg
    unfold T143 at hg
    split at hg <;> first | (injection hg with hg; subst hg; assumption) | cases hg
  have hO0 : RawOK FT XT (rawOf (α := ((Sh.tu (Sh.pr (Sh.st (Sh.pr (Sh.int .u8) (Sh.sl (Sh.int .u8)))) (Sh.pr (Sh.int .i64) (Sh.int .i64))))).T) RW0) := rawOK0
  have hO : RawOK FT XT (rawOf (α := ((Sh.tu (Sh.pr (Sh.st (Sh.pr (Sh.int .u8) (Sh.sl (Sh.int .u8)))) (Sh.pr (Sh.int .i64) (Sh.int .i64))))).T) RW0) := hO0
  refine ⟨rfl, fun v r h => ?_⟩
  obtain ⟨a0, _⟩ := v
  obtain ⟨N, h1⟩ := hf _ _ h
  exact ans_c (R := (Sh.tu (Sh.pr (Sh.st (Sh.pr (Sh.int .u8) (Sh.sl (Sh.int .u8)))) (Sh.pr (Sh.int .i64) (Sh.int .i64))))) (tab := T143 c51 c162) (raw := (rawOf RW0)) (LP := W143 c51 c162 N) (fu := fuelC) hT hO rfl rfl (Nat.le_of_ble_eq_true rfl) loopOK_nil ((e143 c51 c162 N _).trans h1)

def T160 : Nat → Option Ent
  | _ => none
def W160 (N : Nat) : LoopF (Sh.bool).T := fun no =>
  match no with
  | _ => fun _ _ => none
theorem e160 (N : Nat) (a0 : List Int) (a1 : List Int) : evc (T160) (rawOf RW0) (W160 N) (retc k160.res Sh.bool) (modeOf FT) 0 fuelC k160.body (env0 k160 (encL [(Sh.sl (Sh.int .u8)), (Sh.sl (Sh.int .u8))] (a0, (a1, ()))), []) (endK (retc k160.res Sh.bool)) = p160 N a0 a1 := by kernel_rfl
theorem ok160 {f : List Int → List Int → Option Bool} (hf : ∀ a0 a1 r, f a0 a1 = some r → ∃ N, p160 N a0 a1 = some r) : EntOK FT XT 160 (en160 f) := by
  have hT : TabOK FT XT (T160) := by
    intro g en hg
    unfold T160 at hg
    split at hg <;> first | (injection hg with hg; subst hg; assumption) | cases hg
  have hO0 : RawOK FT XT (rawOf (α := (Sh.bool).T) RW0) := rawOK0
  have hO : RawOK FT XT (rawOf (α := (Sh.bool).T) RW0) := hO0
  refine ⟨rfl, fun v r h => ?_⟩
  obtain ⟨a0, a1, _⟩ := v
  obtain ⟨N, h1⟩ := hf _ _ _ h
  exact ans_c (R := Sh.bool) (tab := T160) (raw := (rawOf RW0)) (LP := W160 N) (fu := fuelC) hT hO rfl rfl (Nat.le_of_ble_eq_true rfl) loopOK_nil ((e160 N _ _).trans h1)

def T144 (c160 : List Int → List Int → Option Bool) : Nat → Option Ent
  | 160 => some (en160 c160)
  | _ => none
def W144 (c160 : List Int → List Int → Option Bool) (N : Nat) : LoopF (Sh.bool).T := fun no =>
  match no with
  | _ => fun _ _ => none
theorem e144 (c160 : List Int → List Int → Option Bool) (N : Nat) (a0 : Int × (List Int)) (a1 : Int × (List Int)) : evc (T144 c160) (rawOf RW0) (W144 c160 N) (retc k144.res Sh.bool) (modeOf FT) 0 fuelC k144.body (env0 k144 (encL [(Sh.st (Sh.pr (Sh.int .u8) (Sh.sl (Sh.int .u8)))), (Sh.st (Sh.pr (Sh.int .u8) (Sh.sl (Sh.int .u8))))] (a0, (a1, ()))), []) (endK (retc k144.res Sh.bool)) = p144 c160 N a0 a1 := by kernel_rfl
theorem ok144 (c160 : List Int → List Int → Option Bool) (h160 : EntOK FT XT 160 (en160 c160)) {f : Int × (List Int) → Int × (List Int) → Option Bool} (hf : ∀ a0 a1 r, f a0 a1 = some r → ∃ N, p144 c160 N a0 a1 = some r) : EntOK FT XT 144 (en144 f) := by
  have hT : TabOK FT XT (T144 c160) := by
    intro g en hg
    unfold T144 at hg
    split at hg <;> first | (injection hg with hg; subst hg; assumption) | cases hg
  have hO0 : RawOK FT XT (rawOf (α := (Sh.bool).T) RW0) := rawOK0
  have hO : RawOK FT XT (rawOf (α := (Sh.bool).T) RW0) := hO0
  refine ⟨rfl, fun v r h => ?_⟩
  obtain ⟨a0, a1, _⟩ := v
  obtain ⟨N, h1⟩ := hf _ _ _ h
  exact ans_c (R := Sh.bool) (tab := T144 c160) (raw := (rawOf RW0)) (LP := W144 c160 N) (fu := fuelC) hT hO rfl rfl (Nat.le_of_ble_eq_true rfl) loopOK_nil ((e144 c160 N _ _).trans h1)

def T163 : Nat → Option Ent
  | _ => none
def W163 (N : Nat) : LoopF (((Sh.tu (Sh.pr (Sh.int .i64) (Sh.pr (Sh.int .i64) (Sh.pr (Sh.int .u8) (Sh.int .u8)))))).T) := fun no =>
  match no with
  | _ => fun _ _ => none
theorem e163 (N : Nat) (a0 : Int) : evc (T163) (rawOf RW0) (W163 N) (retc k163.res (Sh.tu (Sh.pr (Sh.int .i64) (Sh.pr (Sh.int .i64) (Sh.pr (Sh.int .u8) (Sh.int .u8)))))) (modeOf FT) 0 fuelC k163.body (env0 k163 (encL [(Sh.int .u8)] (a0, ())), []) (endK (retc k163.res (Sh.tu (Sh.pr (Sh.int .i64) (Sh.pr (Sh.int .i64) (Sh.pr (Sh.int .u8) (Sh.int .u8))))))) = p163 N a0 := by kernel_rfl
theorem ok163 {f : Int → Option (Int × Int × Int × Int)} (hf : ∀ a0 r, f a0 = some r → ∃ N, p163 N a0 = some r) : EntOK FT XT 163 (en163 f) := by
  have hT : TabOK FT XT (T163) := by
    intro g en hg
    unfold T163 at hg
    split at hg <;> first | (injection hg with hg; subst hg; assumption) | cases hg
  have hO0 : RawOK FT XT (rawOf (α := ((Sh.tu (Sh.pr (Sh.int .i64) (Sh.pr (Sh.int .i64) (Sh.pr (Sh.int .u8) (Sh.int .u8)))))).T) RW0) := rawOK0
  have hO : RawOK FT XT (rawOf (α := ((Sh.tu (Sh.pr (Sh.int .i64) (Sh.pr (Sh.int .i64) (Sh.pr (Sh.int .u8) (Sh.int .u8)))))).T) RW0) := hO0
  refine ⟨rfl, fun v r h => ?_⟩
  obtain ⟨a0, _⟩ := v
  obtain ⟨N, h1⟩ := hf _ _ h
  exact ans_c (R := (Sh.tu (Sh.pr (Sh.int .i64) (Sh.pr (Sh.int .i64) (Sh.pr (Sh.int .u8) (Sh.int .u8)))))) (tab := T163) (raw := (rawOf RW0)) (LP := W163 N) (fu := fuelC) hT hO rfl rfl (Nat.le_of_ble_eq_true rfl) loopOK_nil ((e163 N _).trans h1)

def T164 (c160 : List Int → List Int → Option Bool) : Nat → Option Ent
  | 160 => some (en160 c160)
  | _ => none
def W164 (c160 : List Int → List Int → Option Bool) (N : Nat) : LoopF (Sh.bool).T := fun no =>
  match no with
  | _ => fun _ _ => none
theorem e164 (c160 : List Int → List Int → Option Bool) (N : Nat) (a0 : List Int) (a1 : List Int) : evc (T164 c160) (rawOf RW0) (W164 c160 N) (retc k164.res Sh.bool) (modeOf FT) 0 fuelC k164.body (env0 k164 (encL [(Sh.sl (Sh.int .u8)), (Sh.sl (Sh.int .u8))] (a0, (a1, ()))), []) (endK (retc k164.res Sh.bool)) = p164 c160 N a0 a1 := by kernel_rfl
theorem ok164 (c160 : List Int → List Int → Option Bool) (h160 : EntOK FT XT 160 (en160 c160)) {f : List Int → List Int → Option Bool} (hf : ∀ a0 a1 r, f a0 a1 = some r → ∃ N, p164 c160 N a0 a1 = some r) : EntOK FT XT 164 (en164 f) := by
  have hT : TabOK FT XT (T164 c160) := by
    intro g en hg
    unfold T164 at hg
    split at hg <;> first | (injection hg with hg; subst hg; assumption) | cases hg
  have hO0 : RawOK FT XT (rawOf (α := (Sh.bool).T) RW0) := rawOK0
  have hO : RawOK FT XT (rawOf (α := (Sh.bool).T) RW0) := hO0
  refine ⟨rfl, fun v r h => ?_⟩
  obtain ⟨a0, a1, _⟩ := v
  obtain ⟨N, h1⟩ := hf _ _ _ h
  exact ans_c (R := Sh.bool) (tab := T164 c160) (raw := (rawOf RW0)) (LP := W164 c160 N) (fu := fuelC) hT hO rfl rfl (Nat.le_of_ble_eq_true rfl) loopOK_nil ((e164 c160 N _ _).trans h1)

def T145 (c163 : Int → Option (Int × Int × Int × Int)) (c161 : Int → Option Bool) (c164 : List Int → List Int → Option Bool) : Nat → Option Ent
  | 163 => some (en163 c163)
  | 161 => some (en161 c161)
  | 164 => some (en164 c164)
  | _ => none
def W145 (c163 : Int → Option (Int × Int × Int × Int)) (c161 : Int → Option Bool) (c164 : List Int → List Int → Option Bool) (N : Nat) : LoopF (((Sh.int .i64)).T) := fun no =>
  match no with
  | _ => fun _ _ => none
theorem e145 (c163 : Int → Option (Int × Int × Int × Int)) (c161 : Int → Option Bool) (c164 : List Int → List Int → Option Bool) (N : Nat) (a0 : Int × (List Int)) : evc (T145 c163 c161 c164) (rawOf RW0) (W145 c163 c161 c164 N) (retc k145.res (Sh.int .i64)) (modeOf FT) 0 fuelC k145.body (env0 k145 (encL [(Sh.st (Sh.pr (Sh.int .u8) (Sh.sl (Sh.int .u8))))] (a0, ())), []) (endK (retc k145.res (Sh.int .i64))) = p145 c163 c161 c164 N a0 := by kernel_rfl
theorem ok145 (c163 : Int → Option (Int × Int × Int × Int)) (c161 : Int → Option Bool) (c164 : List Int → List Int → Option Bool) (h163 : EntOK FT XT 163 (en163 c163)) (h161 : EntOK FT XT 161 (en161 c161)) (h164 : EntOK FT XT 164 (en164 c164)) {f : Int × (List Int) → Option Int} (hf : ∀ a0 r, f a0 = some r → ∃ N, p145 c163 c161 c164 N a0 = some r) : EntOK FT XT 145 (en145 f) := by
  have hT : TabOK FT XT (T145 c163 c161 c164) := by
    intro g en hg
    unfold T145 at hg
    split at hg <;> first | (injection hg with hg; subst hg; assumption) | cases hg
  have hO0 : RawOK FT XT (rawOf (α := ((Sh.int .i64)).T) RW0) := rawOK0
  have hO : RawOK FT XT (rawOf (α := ((Sh.int .i64)).T) RW0) := hO0
  refine ⟨rfl, fun v r h => ?_⟩
  obtain ⟨a0, _⟩ := v
  obtain ⟨N, h1⟩ := hf _ _ h
  exact ans_c (R := (Sh.int .i64)) (tab := T145 c163 c161 c164) (raw := (rawOf RW0)) (LP := W145 c163 c161 c164 N) (fu := fuelC) hT hO rfl rfl (Nat.le_of_ble_eq_true rfl) loopOK_nil ((e145 c163 c161 c164 N _).trans h1)

def T165 : Nat → Option Ent
  | _ => none
def H165_0 : Trim := ⟨0, [], false, [0, 3], []⟩
theorem l165_0 : loopN k165 0 = .loop H165_0 (bodyOf (loopN k165 0)) := by kernel_rfl
def P165_0 : Ps := ⟨[(0, (.tb (Sh.int .u8))), (2, .u), (3, (.int .i64)), (7, .u), (14, .u)], []⟩
def Q165_0 : Nat → Ps
  | 0 => ⟨[(0, .u), (2, .u), (3, .u), (7, .u), (14, .u)], []⟩
  | _ => noPs
def u165_0 (N n : Nat) (v : P165_0.T) (κ : (i : Nat) → (Q165_0 i).T → Option (Sh.bool).T) : Option (Sh.bool).T :=
  L165_0 N (κ 0 (((), ((), ((), ((), ((), ()))))), ())) n v.1.1 v.1.2.2.1
def W165_0 (N : Nat) : LoopF (Sh.bool).T := fun no =>
  match no with
  | _ => fun _ _ => none
theorem b165_0 (N n : Nat) (v : P165_0.T) (κ : (i : Nat) → (Q165_0 i).T → Option (Sh.bool).T) :
    evc (T165) (rawOf RW0) (W165_0 N) (retc k165.res Sh.bool) (modeOf FT) 0 fuelC (bodyOf (loopN k165 0)) (P165_0.st v) (roundK 0 H165_0 P165_0 Q165_0 (u165_0 N n) κ) = u165_0 N (n + 1) v κ := by kernel_rfl
theorem o165_0 (hT : TabOK FT XT (T165)) (hO : RawOK FT XT (rawOf (α := (Sh.bool).T) RW0)) (N : Nat) {s : St} {κ : Ex → St → Option (Sh.bool).T} {a : (Sh.bool).T} (h : lpOf 0 H165_0 P165_0 Q165_0 (u165_0 N N) s κ = some a) : Out FT XT 0 (retc k165.res Sh.bool) (loopN k165 0) s κ a := by
  rw [l165_0]
  exact loop_out (LP := W165_0 N) (fu := fuelC) hT hO (fun _ _ => rfl) (b165_0 N) loopOK_nil N h
def W165 (N : Nat) : LoopF (Sh.bool).T := fun no =>
  match no with
  | 0 => lpOf 0 H165_0 P165_0 Q165_0 (u165_0 N N)
  | _ => fun _ _ => none
theorem e165 (N : Nat) (a0 : List Int) : evc (T165) (rawOf RW0) (W165 N) (retc k165.res Sh.bool) (modeOf FT) 0 fuelC k165.body (env0 k165 (encL [(Sh.sl (Sh.int .u8))] (a0, ())), []) (endK (retc k165.res Sh.bool)) = p165 N a0 := by kernel_rfl
theorem ok165 {f : List Int → Option Bool} (hf : ∀ a0 r, f a0 = some r → ∃ N, p165 N a0 = some r) : EntOK FT XT 165 (en165 f) := by
  have hT : TabOK FT XT (T165) := by
    intro g en hg
    unfold T165 at hg
    split at hg <;> first | (injection hg with hg; subst hg; assumption) | cases hg
  have hO0 : RawOK FT XT (rawOf (α := (Sh.bool).T) RW0) := rawOK0
  have hO : RawOK FT XT (rawOf (α := (Sh.bool).T) RW0) := hO0
  refine ⟨rfl, fun v r h => ?_⟩
  obtain ⟨a0, _⟩ := v
  obtain ⟨N, h1⟩ := hf _ _ h
  exact ans_c (R := Sh.bool) (tab := T165) (raw := (rawOf RW0)) (LP := W165 N) (fu := fuelC) hT hO rfl rfl (Nat.le_of_ble_eq_true rfl) (loopOK_cons l165_0 (fun s κ a h => o165_0 hT hO N h) loopOK_nil) ((e165 N _).trans h1)

def T146 (c162 : Int → Option Bool) (c165 : List Int → Option Bool) : Nat → Option Ent
  | 162 => some (en162 c162)
  | 165 => some (en165 c165)
  | _ => none
def W146 (c162 : Int → Option Bool) (c165 : List Int → Option Bool) (N : Nat) : LoopF (((Sh.int .i64)).T) := fun no =>
  match no with
  | _ => fun _ _ => none
theorem e146 (c162 : Int → Option Bool) (c165 : List Int → Option Bool) (N : Nat) (a0 : Int × (List Int)) : evc (T146 c162 c165) (rawOf RW0) (W146 c162 c165 N) (retc k146.res (Sh.int .i64)) (modeOf FT) 0 fuelC k146.body (env0 k146 (encL [(Sh.st (Sh.pr (Sh.int .u8) (Sh.sl (Sh.int .u8))))] (a0, ())), []) (endK (retc k146.res (Sh.int .i64))) = p146 c162 c165 N a0 := by kernel_rfl
theorem ok146 (c162 : Int → Option Bool) (c165 : List Int → Option Bool) (h162 : EntOK FT XT 162 (en162 c162)) (h165 : EntOK FT XT 165 (en165 c165)) {f : Int × (List Int) → Option Int} (hf : ∀ a0 r, f a0 = some r → ∃ N, p146 c162 c165 N a0 = some r) : EntOK FT XT 146 (en146 f) := by
  have hT : TabOK FT XT (T146 c162 c165) := by
    intro g en hg
    unfold T146 at hg
    split at hg <;> first | (injection hg with hg; subst hg; assumption) | cases hg
  have hO0 : RawOK FT XT (rawOf (α := ((Sh.int .i64)).T) RW0) := rawOK0
  have hO : RawOK FT XT (rawOf (α := ((Sh.int .i64)).T) RW0) := hO0
  refine ⟨rfl, fun v r h => ?_⟩
  obtain ⟨a0, _⟩ := v
  obtain ⟨N, h1⟩ := hf _ _ h
  exact ans_c (R := (Sh.int .i64)) (tab := T146 c162 c165) (raw := (rawOf RW0)) (LP := W146 c162 c165 N) (fu := fuelC) hT hO rfl rfl (Nat.le_of_ble_eq_true rfl) loopOK_nil ((e146 c162 c165 N _).trans h1)

def T313v0 (c144 : Int × (List Int) → Int × (List Int) → Option Bool) : Nat → Option Ent
  | 144 => some (en144 c144)
  | _ => none
def H313v0_0 : Trim := ⟨0, [], false, [1, 2, 15, 16, 17], []⟩
theorem l313v0_0 : loopN k313 0 = .loop H313v0_0 (bodyOf (loopN k313 0)) := by kernel_rfl
def P313v0_0 : Ps := ⟨[(0, .u), (1, (.tb (Sh.pr (Sh.int .u8) (Sh.sl (Sh.int .u8))))), (2, (.fn 144 .nil)), (6, .u), (7, .u), (8, .u), (9, .u), (14, .u), (15, (.tb (Sh.pr (Sh.int .u8) (Sh.sl (Sh.int .u8))))), (16, (.int .i64)), (17, (.int .i64)), (18, .u), (30, .u)], []⟩
def Q313v0_0 : Nat → Ps
  | 0 => ⟨[(0, .u), (1, .u), (2, .u), (6, .u), (7, .u), (8, .u), (9, .u), (14, .u), (15, .u), (16, .u), (17, .u), (18, .u), (30, .u)], []⟩
  | _ => noPs
def u313v0_0 (c144 : Int × (List Int) → Int × (List Int) → Option Bool) (N n : Nat) (v : P313v0_0.T) (κ : (i : Nat) → (Q313v0_0 i).T → Option QR313v0.T) : Option QR313v0.T :=
  L313v0_0 c144 N (κ 0 (((), ((), ((), ((), ((), ((), ((), ((), ((), ((), ((), ((), ((), ()))))))))))))), ())) n v.1.2.1 v.1.2.2.2.2.2.2.2.2.1 v.1.2.2.2.2.2.2.2.2.2.1 v.1.2.2.2.2.2.2.2.2.2.2.1
def W313v0_0 (c144 : Int × (List Int) → Int × (List Int) → Option Bool) (N : Nat) : LoopF QR313v0.T := fun no =>
  match no with
  | _ => fun _ _ => none
theorem b313v0_0 (c144 : Int × (List Int) → Int × (List Int) → Option Bool) (N n : Nat) (v : P313v0_0.T) (κ : (i : Nat) → (Q313v0_0 i).T → Option QR313v0.T) :
    evc (T313v0 c144) (rawOf RW0) (W313v0_0 c144 N) (retr k313.res 0 QR313v0) (modeOf FT) 0 fuelC (bodyOf (loopN k313 0)) (P313v0_0.st v) (roundK 0 H313v0_0 P313v0_0 Q313v0_0 (u313v0_0 c144 N n) κ) = u313v0_0 c144 N (n + 1) v κ := by kernel_rfl
theorem o313v0_0 (c144 : Int × (List Int) → Int × (List Int) → Option Bool) (hT : TabOK FT XT (T313v0 c144)) (hO : RawOK FT XT (rawOf (α := QR313v0.T) RW0)) (N : Nat) {s : St} {κ : Ex → St → Option QR313v0.T} {a : QR313v0.T} (h : lpOf 0 H313v0_0 P313v0_0 Q313v0_0 (u313v0_0 c144 N N) s κ = some a) : Out FT XT 0 (retr k313.res 0 QR313v0) (loopN k313 0) s κ a := by
  rw [l313v0_0]
  exact loop_out (LP := W313v0_0 c144 N) (fu := fuelC) hT hO (fun _ _ => rfl) (b313v0_0 c144 N) loopOK_nil N h
def W313v0 (c144 : Int × (List Int) → Int × (List Int) → Option Bool) (N : Nat) : LoopF QR313v0.T := fun no =>
  match no with
  | 0 => lpOf 0 H313v0_0 P313v0_0 Q313v0_0 (u313v0_0 c144 N N)
  | _ => fun _ _ => none
theorem e313v0 (c144 : Int × (List Int) → Int × (List Int) → Option Bool) (N : Nat) (v : PR313v0.T) : evc (T313v0 c144) (rawOf RW0) (W313v0 c144 N) (retr k313.res 0 QR313v0) (modeOf FT) 0 fuelC k313.body (env0 k313 (PR313v0.a.st v.1), stH PR313v0.h v.2) (endK (retr k313.res 0 QR313v0)) = p313v0 c144 N v.1.1 v.1.2.1 := by kernel_rfl
theorem ok313v0 (c144 : Int × (List Int) → Int × (List Int) → Option Bool) (h144 : EntOK FT XT 144 (en144 c144)) {f : List (Int × (List Int)) → List (Int × (List Int)) → Option ((Bool × Unit) × Unit)} (hf : ∀ a0 a1 r, f a0 a1 = some r → ∃ N, p313v0 c144 N a0 a1 = some r) : REntOK FT XT 313 (rn313v0 f) := by
  have hT : TabOK FT XT (T313v0 c144) := by
    intro g en hg
    unfold T313v0 at hg
    split at hg <;> first | (injection hg with hg; subst hg; assumption) | cases hg
  have hO0 : RawOK FT XT (rawOf (α := QR313v0.T) RW0) := rawOK0
  have hO : RawOK FT XT (rawOf (α := QR313v0.T) RW0) := hO0
  intro v r w h hw
  obtain ⟨N, h1⟩ := hf _ _ _ h
  exact ans_r (Q := QR313v0) (tab := T313v0 c144) (raw := (rawOf RW0)) (LP := W313v0 c144 N) (fu := fuelC) hT hO rfl rfl (Nat.le_of_ble_eq_true rfl) rfl (loopOK_cons l313v0_0 (fun s κ a h => o313v0_0 c144 hT hO N h) loopOK_nil) ((e313v0 c144 N v).trans h1) hw

def T302 (d313v0 : List (Int × (List Int)) → List (Int × (List Int)) → Option ((Bool × Unit) × Unit)) (c160 : List Int → List Int → Option Bool) : Nat → Option Ent
  | 160 => some (en160 c160)
  | _ => none
def RW302 (d313v0 : List (Int × (List Int)) → List (Int × (List Int)) → Option ((Bool × Unit) × Unit)) (c160 : List Int → List Int → Option Bool) : Nat → List REnt
  | 313 => [rn313v0 d313v0]
  | _ => []
def W302 (d313v0 : List (Int × (List Int)) → List (Int × (List Int)) → Option ((Bool × Unit) × Unit)) (c160 : List Int → List Int → Option Bool) (N : Nat) : LoopF (Sh.bool).T := fun no =>
  match no with
  | _ => fun _ _ => none
theorem e302 (d313v0 : List (Int × (List Int)) → List (Int × (List Int)) → Option ((Bool × Unit) × Unit)) (c160 : List Int → List Int → Option Bool) (N : Nat) (a0 : Bool × Int × (List (Int × (List Int))) × (List Int)) (a1 : Bool × Int × (List (Int × (List Int))) × (List Int)) : evc (T302 d313v0 c160) (rawOf (RW302 d313v0 c160)) (W302 d313v0 c160 N) (retc k302.res Sh.bool) (modeOf FT) 0 fuelC k302.body (env0 k302 (encL [(Sh.st (Sh.pr Sh.bool (Sh.pr (Sh.int .u16) (Sh.pr (Sh.sl (Sh.pr (Sh.int .u8) (Sh.sl (Sh.int .u8)))) (Sh.sl (Sh.int .u8)))))), (Sh.st (Sh.pr Sh.bool (Sh.pr (Sh.int .u16) (Sh.pr (Sh.sl (Sh.pr (Sh.int .u8) (Sh.sl (Sh.int .u8)))) (Sh.sl (Sh.int .u8))))))] (a0, (a1, ()))), []) (endK (retc k302.res Sh.bool)) = p302 d313v0 c160 N a0 a1 := by kernel_rfl
theorem ok302 (d313v0 : List (Int × (List Int)) → List (Int × (List Int)) → Option ((Bool × Unit) × Unit)) (c160 : List Int → List Int → Option Bool) (h160 : EntOK FT XT 160 (en160 c160)) (h313v0 : REntOK FT XT 313 (rn313v0 d313v0)) {f : Bool × Int × (List (Int × (List Int))) × (List Int) → Bool × Int × (List (Int × (List Int))) × (List Int) → Option Bool} (hf : ∀ a0 a1 r, f a0 a1 = some r → ∃ N, p302 d313v0 c160 N a0 a1 = some r) : EntOK FT XT 302 (en302 f) := by
  have hT : TabOK FT XT (T302 d313v0 c160) := by
    intro g en hg
    unfold T302 at hg
    split at hg <;> first | (injection hg with hg; subst hg; assumption) | cases hg
  have hO0 : RawOK FT XT (rawOf (α := (Sh.bool).T) (RW302 d313v0 c160)) := by
    refine rawOf_ok (fun g en hg => ?_)
    unfold RW302 at hg
    split at hg <;> simp only [List.mem_cons, List.not_mem_nil, or_false] at hg <;> first | (subst hg; assumption) | (rcases hg with rfl | rfl <;> assumption) | (rcases hg with rfl | rfl | rfl <;> assumption) | (rcases hg with rfl | rfl | rfl | rfl <;> assumption)
  have hO : RawOK FT XT (rawOf (α := (Sh.bool).T) (RW302 d313v0 c160)) := hO0
  refine ⟨rfl, fun v r h => ?_⟩
  obtain ⟨a0, a1, _⟩ := v
  obtain ⟨N, h1⟩ := hf _ _ _ h
  exact ans_c (R := Sh.bool) (tab := T302 d313v0 c160) (raw := (rawOf (RW302 d313v0 c160))) (LP := W302 d313v0 c160 N) (fu := fuelC) hT hO rfl rfl (Nat.le_of_ble_eq_true rfl) loopOK_nil ((e302 d313v0 c160 N _ _).trans h1)

def T316 (c320 : List (Int × (List Int)) → Option (List (Int × (List Int)))) : Nat → Option Ent
  | 320 => some (en320 c320)
  | _ => none
def W316 (c320 : List (Int × (List Int)) → Option (List (Int × (List Int)))) (N : Nat) : LoopF (((Sh.st (Sh.pr Sh.bool (Sh.pr (Sh.int .u16) (Sh.pr (Sh.sl (Sh.pr (Sh.int .u8) (Sh.sl (Sh.int .u8)))) (Sh.sl (Sh.int .u8))))))).T) := fun no =>
  match no with
  | _ => fun _ _ => none
theorem e316 (c320 : List (Int × (List Int)) → Option (List (Int × (List Int)))) (N : Nat) (a0 : Int) (a1 : List (Int × (List Int))) : evc (T316 c320) (rawOf RW0) (W316 c320 N) (retc k316.res (Sh.st (Sh.pr Sh.bool (Sh.pr (Sh.int .u16) (Sh.pr (Sh.sl (Sh.pr (Sh.int .u8) (Sh.sl (Sh.int .u8)))) (Sh.sl (Sh.int .u8))))))) (modeOf FT) 0 fuelC k316.body (env0 k316 (encL [(Sh.int .u16), (Sh.sl (Sh.pr (Sh.int .u8) (Sh.sl (Sh.int .u8))))] (a0, (a1, ()))), []) (endK (retc k316.res (Sh.st (Sh.pr Sh.bool (Sh.pr (Sh.int .u16) (Sh.pr (Sh.sl (Sh.pr (Sh.int .u8) (Sh.sl (Sh.int .u8)))) (Sh.sl (Sh.int .u8)))))))) = p316 c320 N a0 a1 := by kernel_rfl
theorem ok316 (c320 : List (Int × (List Int)) → Option (List (Int × (List Int)))) (h320 : EntOK FT XT 320 (en320 c320)) {f : Int → List (Int × (List Int)) → Option (Bool × Int × (List (Int × (List Int))) × (List Int))} (hf : ∀ a0 a1 r, f a0 a1 = some r → ∃ N, p316 c320 N a0 a1 = some r) : EntOK FT XT 316 (en316 f) := by
  have hT : TabOK FT XT (T316 c320) := by
    intro g en hg
    unfold T316 at hg
    split at hg <;> first | (injection hg with hg; subst hg; assumption) | cases hg
  have hO0 : RawOK FT XT (rawOf (α := ((Sh.st (Sh.pr Sh.bool (Sh.pr (Sh.int .u16) (Sh.pr (Sh.sl (Sh.pr (Sh.int .u8) (Sh.sl (Sh.int .u8)))) (Sh.sl (Sh.int .u8))))))).T) RW0) := rawOK0
  have hO : RawOK FT XT (rawOf (α := ((Sh.st (Sh.pr Sh.bool (Sh.pr (Sh.int .u16) (Sh.pr (Sh.sl (Sh.pr (Sh.int .u8) (Sh.sl (Sh.int .u8)))) (Sh.sl (Sh.int .u8))))))).T) RW0) := hO0
  refine ⟨rfl, fun v r h => ?_⟩
  obtain ⟨a0, a1, _⟩ := v
  obtain ⟨N, h1⟩ := hf _ _ _ h
  exact ans_c (R := (Sh.st (Sh.pr Sh.bool (Sh.pr (Sh.int .u16) (Sh.pr (Sh.sl (Sh.pr (Sh.int .u8) (Sh.sl (Sh.int .u8)))) (Sh.sl (Sh.int .u8))))))) (tab := T316 c320) (raw := (rawOf RW0)) (LP := W316 c320 N) (fu := fuelC) hT hO rfl rfl (Nat.le_of_ble_eq_true rfl) loopOK_nil ((e316 c320 N _ _).trans h1)

def T322 (c19 : Int → Int → Bool → Option ((List Int) × Int)) : Nat → Option Ent
  | 19 => some (en19 c19)
  | _ => none
def W322 (c19 : Int → Int → Bool → Option ((List Int) × Int)) (N : Nat) : LoopF (((Sh.sl (Sh.int .u8))).T) := fun no =>
  match no with
  | _ => fun _ _ => none
theorem e322 (c19 : Int → Int → Bool → Option ((List Int) × Int)) (N : Nat) (a0 : Int) : evc (T322 c19) (rawOf RW0) (W322 c19 N) (retc k322.res (Sh.sl (Sh.int .u8))) (modeOf FT) 0 fuelC k322.body (env0 k322 (encL [(Sh.int .i64)] (a0, ())), []) (endK (retc k322.res (Sh.sl (Sh.int .u8)))) = p322 c19 N a0 := by kernel_rfl
theorem ok322 (c19 : Int → Int → Bool → Option ((List Int) × Int)) (h19 : EntOK FT XT 19 (en19 c19)) {f : Int → Option (List Int)} (hf : ∀ a0 r, f a0 = some r → ∃ N, p322 c19 N a0 = some r) : EntOK FT XT 322 (en322 f) := by
  have hT : TabOK FT XT (T322 c19) := by
    intro g en hg
    unfold T322 at hg
    split at hg <;> first | (injection hg with hg; subst hg; assumption) | cases hg
  have hO0 : RawOK FT XT (rawOf (α := ((Sh.sl (Sh.int .u8))).T) RW0) := rawOK0
  have hO : RawOK FT XT (rawOf (α := ((Sh.sl (Sh.int .u8))).T) RW0) := hO0
  refine ⟨rfl, fun v r h => ?_⟩
  obtain ⟨a0, _⟩ := v
  obtain ⟨N, h1⟩ := hf _ _ h
  exact ans_c (R := (Sh.sl (Sh.int .u8))) (tab := T322 c19) (raw := (rawOf RW0)) (LP := W322 c19 N) (fu := fuelC) hT hO rfl rfl (Nat.le_of_ble_eq_true rfl) loopOK_nil ((e322 c19 N _).trans h1)

def T321 (c322 : Int → Option (List Int)) (c46 : List (List Int) → Option (List Int)) (c139 : Int × (List Int) → Option ((List Int) × Int)) : Nat → Option Ent
  | 322 => some (en322 c322)
  | 46 => some (en46 c46)
  | 139 => some (en139 c139)
  | _ => none
def H321_0 : Trim := ⟨0, [], false, [4, 41, 42, 43], []⟩
theorem l321_0 : loopN k321 0 = .loop H321_0 (bodyOf (loopN k321 0)) := by kernel_rfl
def P321_0 : Ps := ⟨[(0, .u), (1, .u), (2, .u), (3, .u), (4, (.sl 0 1)), (6, .u), (7, .u), (8, .u), (9, .u), (19, .u), (25, .u), (41, (.tb (Sh.pr (Sh.int .u8) (Sh.sl (Sh.int .u8))))), (42, (.int .i64)), (43, (.int .i64)), (44, .u), (53, .u)], [(.ints false .u8)]⟩
def Q321_0 : Nat → Ps
  | 1 => ⟨[(0, .u), (1, .u), (2, .u), (3, .u), (4, (.sl 0 1)), (6, .u), (7, .u), (8, .u), (9, .u), (19, .u), (25, .u), (41, .u), (42, .u), (43, .u), (44, .u), (53, .u)], [(.ints false .u8)]⟩
  | _ => noPs
def u321_0 (c322 : Int → Option (List Int)) (c46 : List (List Int) → Option (List Int)) (c139 : Int × (List Int) → Option ((List Int) × Int)) (N n : Nat) (v : P321_0.T) (κ : (i : Nat) → (Q321_0 i).T → Option (((Sh.tu (Sh.pr (Sh.sl (Sh.int .u8)) (Sh.int .i64)))).T)) : Option (((Sh.tu (Sh.pr (Sh.sl (Sh.int .u8)) (Sh.int .i64)))).T) :=
  L321_0 c322 c46 c139 N (fun (y0 : Nat) (y1 : List Int) => κ 1 (((), ((), ((), ((), (y0, ((), ((), ((), ((), ((), ((), ((), ((), ((), ((), ((), ())))))))))))))))), (y1, ()))) n v.1.2.2.2.2.1 v.1.2.2.2.2.2.2.2.2.2.2.2.1 v.1.2.2.2.2.2.2.2.2.2.2.2.2.1 v.1.2.2.2.2.2.2.2.2.2.2.2.2.2.1 v.2.1
def W321_0 (c322 : Int → Option (List Int)) (c46 : List (List Int) → Option (List Int)) (c139 : Int × (List Int) → Option ((List Int) × Int)) (N : Nat) : LoopF (((Sh.tu (Sh.pr (Sh.sl (Sh.int .u8)) (Sh.int .i64)))).T) := fun no =>
  match no with
  | _ => fun _ _ => none
theorem b321_0 (c322 : Int → Option (List Int)) (c46 : List (List Int) → Option (List Int)) (c139 : Int × (List Int) → Option ((List Int) × Int)) (N n : Nat) (v : P321_0.T) (κ : (i : Nat) → (Q321_0 i).T → Option (((Sh.tu (Sh.pr (Sh.sl (Sh.int .u8)) (Sh.int .i64)))).T)) :
    evc (T321 c322 c46 c139) (rawOf RW0) (W321_0 c322 c46 c139 N) (retc k321.res (Sh.tu (Sh.pr (Sh.sl (Sh.int .u8)) (Sh.int .i64)))) (modeOf FT) 0 fuelC (bodyOf (loopN k321 0)) (P321_0.st v) (roundK 0 H321_0 P321_0 Q321_0 (u321_0 c322 c46 c139 N n) κ) = u321_0 c322 c46 c139 N (n + 1) v κ := by kernel_rfl
theorem o321_0 (c322 : Int → Option (List Int)) (c46 : List (List Int) → Option (List Int)) (c139 : Int × (List Int) → Option ((List Int) × Int)) (hT : TabOK FT XT (T321 c322 c46 c139)) (hO : RawOK FT XT (rawOf (α := ((Sh.tu (Sh.pr (Sh.sl (Sh.int .u8)) (Sh.int .i64)))).T) RW0)) (N : Nat) {s : St} {κ : Ex → St → Option (((Sh.tu (Sh.pr (Sh.sl (Sh.int .u8)) (Sh.int .i64)))).T)} {a : ((Sh.tu (Sh.pr (Sh.sl (Sh.int .u8)) (Sh.int .i64)))).T} (h : lpOf 0 H321_0 P321_0 Q321_0 (u321_0 c322 c46 c139 N N) s κ = some a) : Out FT XT 0 (retc k321.res (Sh.tu (Sh.pr (Sh.sl (Sh.int .u8)) (Sh.int .i64)))) (loopN k321 0) s κ a := by
  rw [l321_0]
  exact loop_out (LP := W321_0 c322 c46 c139 N) (fu := fuelC) hT hO (fun _ _ => rfl) (b321_0 c322 c46 c139 N) loopOK_nil N h
def W321 (c322 : Int → Option (List Int)) (c46 : List (List Int) → Option (List Int)) (c139 : Int × (List Int) → Option ((List Int) × Int)) (N : Nat) : LoopF (((Sh.tu (Sh.pr (Sh.sl (Sh.int .u8)) (Sh.int .i64)))).T) := fun no =>
  match no with
  | 0 => lpOf 0 H321_0 P321_0 Q321_0 (u321_0 c322 c46 c139 N N)
  | _ => fun _ _ => none
theorem e321 (c322 : Int → Option (List Int)) (c46 : List (List Int) → Option (List Int)) (c139 : Int × (List Int) → Option ((List Int) × Int)) (N : Nat) (a0 : Bool × Int × (List (Int × (List Int))) × (List Int)) : evc (T321 c322 c46 c139) (rawOf RW0) (W321 c322 c46 c139 N) (retc k321.res (Sh.tu (Sh.pr (Sh.sl (Sh.int .u8)) (Sh.int .i64)))) (modeOf FT) 0 fuelC k321.body (env0 k321 (encL [(Sh.st (Sh.pr Sh.bool (Sh.pr (Sh.int .u16) (Sh.pr (Sh.sl (Sh.pr (Sh.int .u8) (Sh.sl (Sh.int .u8)))) (Sh.sl (Sh.int .u8))))))] (a0, ())), []) (endK (retc k321.res (Sh.tu (Sh.pr (Sh.sl (Sh.int .u8)) (Sh.int .i64))))) = p321 c322 c46 c139 N a0 := by kernel_rfl
theorem ok321 (c322 : Int → Option (List Int)) (c46 : List (List Int) → Option (List Int)) (c139 : Int × (List Int) → Option ((List Int) × Int)) (h322 : EntOK FT XT 322 (en322 c322)) (h46 : EntOK FT XT 46 (en46 c46)) (h139 : EntOK FT XT 139 (en139 c139)) {f : Bool × Int × (List (Int × (List Int))) × (List Int) → Option ((List Int) × Int)} (hf : ∀ a0 r, f a0 = some r → ∃ N, p321 c322 c46 c139 N a0 = some r) : EntOK FT XT 321 (en321 f) := by
  have hT : TabOK FT XT (T321 c322 c46 c139) := by
    intro g en hg
    unfold T321 at hg
    split at hg <;> first | (injection hg with hg; subst hg; assumption) | cases hg
  have hO0 : RawOK FT XT (rawOf (α := ((Sh.tu (Sh.pr (Sh.sl (Sh.int .u8)) (Sh.int .i64)))).T) RW0) := rawOK0
  have hO : RawOK FT XT (rawOf (α := ((Sh.tu (Sh.pr (Sh.sl (Sh.int .u8)) (Sh.int .i64)))).T) RW0) := hO0
  refine ⟨rfl, fun v r h => ?_⟩
  obtain ⟨a0, _⟩ := v
  obtain ⟨N, h1⟩ := hf _ _ h
  exact ans_c (R := (Sh.tu (Sh.pr (Sh.sl (Sh.int .u8)) (Sh.int .i64)))) (tab := T321 c322 c46 c139) (raw := (rawOf RW0)) (LP := W321 c322 c46 c139 N) (fu := fuelC) hT hO rfl rfl (Nat.le_of_ble_eq_true rfl) (loopOK_cons l321_0 (fun s κ a h => o321_0 c322 c46 c139 hT hO N h) loopOK_nil) ((e321 c322 c46 c139 N _).trans h1)

def T317 (c321 : Bool × Int × (List (Int × (List Int))) × (List Int) → Option ((List Int) × Int)) (c322 : Int → Option (List Int)) (c46 : List (List Int) → Option (List Int)) : Nat → Option Ent
  | 321 => some (en321 c321)
  | 322 => some (en322 c322)
  | 46 => some (en46 c46)
  | _ => none
def W317 (c321 : Bool × Int × (List (Int × (List Int))) × (List Int) → Option ((List Int) × Int)) (c322 : Int → Option (List Int)) (c46 : List (List Int) → Option (List Int)) (N : Nat) : LoopF (((Sh.tu (Sh.pr (Sh.sl (Sh.int .u8)) (Sh.int .i64)))).T) := fun no =>
  match no with
  | _ => fun _ _ => none
theorem e317 (c321 : Bool × Int × (List (Int × (List Int))) × (List Int) → Option ((List Int) × Int)) (c322 : Int → Option (List Int)) (c46 : List (List Int) → Option (List Int)) (N : Nat) (a0 : Bool × Int × (List (Int × (List Int))) × (List Int)) : evc (T317 c321 c322 c46) (rawOf RW0) (W317 c321 c322 c46 N) (retc k317.res (Sh.tu (Sh.pr (Sh.sl (Sh.int .u8)) (Sh.int .i64)))) (modeOf FT) 0 fuelC k317.body (env0 k317 (encL [(Sh.st (Sh.pr Sh.bool (Sh.pr (Sh.int .u16) (Sh.pr (Sh.sl (Sh.pr (Sh.int .u8) (Sh.sl (Sh.int .u8)))) (Sh.sl (Sh.int .u8))))))] (a0, ())), []) (endK (retc k317.res (Sh.tu (Sh.pr (Sh.sl (Sh.int .u8)) (Sh.int .i64))))) = p317 c321 c322 c46 N a0 := by kernel_rfl
theorem ok317 (c321 : Bool × Int × (List (Int × (List Int))) × (List Int) → Option ((List Int) × Int)) (c322 : Int → Option (List Int)) (c46 : List (List Int) → Option (List Int)) (h321 : EntOK FT XT 321 (en321 c321)) (h322 : EntOK FT XT 322 (en322 c322)) (h46 : EntOK FT XT 46 (en46 c46)) {f : Bool × Int × (List (Int × (List Int))) × (List Int) → Option ((List Int) × Int)} (hf : ∀ a0 r, f a0 = some r → ∃ N, p317 c321 c322 c46 N a0 = some r) : EntOK FT XT 317 (en317 f) := by
  have hT : TabOK FT XT (T317 c321 c322 c46) := by
    intro g en hg
    unfold T317 at hg
    split at hg <;> first | (injection hg with hg; subst hg; assumption) | cases hg
  have hO0 : RawOK FT XT (rawOf (α := ((Sh.tu (Sh.pr (Sh.sl (Sh.int .u8)) (Sh.int .i64)))).T) RW0) := rawOK0
  have hO : RawOK FT XT (rawOf (α := ((Sh.tu (Sh.pr (Sh.sl (Sh.int .u8)) (Sh.int .i64)))).T) RW0) := hO0
  refine ⟨rfl, fun v r h => ?_⟩
  obtain ⟨a0, _⟩ := v
  obtain ⟨N, h1⟩ := hf _ _ h
  exact ans_c (R := (Sh.tu (Sh.pr (Sh.sl (Sh.int .u8)) (Sh.int .i64)))) (tab := T317 c321 c322 c46) (raw := (rawOf RW0)) (LP := W317 c321 c322 c46 N) (fu := fuelC) hT hO rfl rfl (Nat.le_of_ble_eq_true rfl) loopOK_nil ((e317 c321 c322 c46 N _).trans h1)

def T319 (c50 : Int → Int → Option (List Int)) (c141 : Int × (List Int) → Option ((List Int) × Int)) : Nat → Option Ent
  | 50 => some (en50 c50)
  | 141 => some (en141 c141)
  | _ => none
def H319_0 : Trim := ⟨0, [], false, [1, 4, 5, 6], []⟩
theorem l319_0 : loopN k319 0 = .loop H319_0 (bodyOf (loopN k319 0)) := by kernel_rfl
def P319_0 : Ps := ⟨[(0, .u), (1, (.ptr 0 0)), (2, .u), (3, .u), (4, (.sl 1 1)), (5, (.int .u8)), (6, (.int .i64)), (7, .u), (8, .u), (12, .u), (16, .u), (31, .u), (44, .u), (51, .u), (55, .u)], [(.vals false (.cons .bool (.cons (.int .u16) (.cons (.tb (Sh.pr (Sh.int .u8) (Sh.sl (Sh.int .u8)))) (.cons (.tb (Sh.int .u8)) .nil))))), (.ints false .u8)]⟩
def Q319_0 : Nat → Ps
  | 0 => ⟨[(0, .u), (1, .u), (2, .u), (3, .u), (4, (.sl 0 1)), (5, (.int .u8)), (6, .u), (7, .u), (8, .u), (12, .u), (16, .u), (31, .u), (44, .u), (51, .u), (55, .u)], [(.ints false .u8)]⟩
  | _ => noPs
def u319_0 (c50 : Int → Int → Option (List Int)) (c141 : Int × (List Int) → Option ((List Int) × Int)) (N n : Nat) (v : P319_0.T) (κ : (i : Nat) → (Q319_0 i).T → Option (((Sh.tu (Sh.pr (Sh.sl (Sh.int .u8)) (Sh.int .i64)))).T)) : Option (((Sh.tu (Sh.pr (Sh.sl (Sh.int .u8)) (Sh.int .i64)))).T) :=
  L319_0 c50 c141 N (fun (y0 : Nat) (y1 : Int) (y2 : List Int) => κ 0 (((), ((), ((), ((), (y0, (y1, ((), ((), ((), ((), ((), ((), ((), ((), ((), ()))))))))))))))), (y2, ()))) n v.1.2.2.2.2.1 v.1.2.2.2.2.2.1 v.1.2.2.2.2.2.2.1 v.2.1.1 v.2.1.2.1 v.2.1.2.2.1 v.2.1.2.2.2.1 v.2.2.1
def W319_0 (c50 : Int → Int → Option (List Int)) (c141 : Int × (List Int) → Option ((List Int) × Int)) (N : Nat) : LoopF (((Sh.tu (Sh.pr (Sh.sl (Sh.int .u8)) (Sh.int .i64)))).T) := fun no =>
  match no with
  | _ => fun _ _ => none
theorem b319_0 (c50 : Int → Int → Option (List Int)) (c141 : Int × (List Int) → Option ((List Int) × Int)) (N n : Nat) (v : P319_0.T) (κ : (i : Nat) → (Q319_0 i).T → Option (((Sh.tu (Sh.pr (Sh.sl (Sh.int .u8)) (Sh.int .i64)))).T)) :
    evc (T319 c50 c141) (rawOf RW0) (W319_0 c50 c141 N) (retc k319.res (Sh.tu (Sh.pr (Sh.sl (Sh.int .u8)) (Sh.int .i64)))) (modeOf FT) 0 fuelC (bodyOf (loopN k319 0)) (P319_0.st v) (roundK 0 H319_0 P319_0 Q319_0 (u319_0 c50 c141 N n) κ) = u319_0 c50 c141 N (n + 1) v κ := by kernel_rfl
theorem o319_0 (c50 : Int → Int → Option (List Int)) (c141 : Int × (List Int) → Option ((List Int) × Int)) (hT : TabOK FT XT (T319 c50 c141)) (hO : RawOK FT XT (rawOf (α := ((Sh.tu (Sh.pr (Sh.sl (Sh.int .u8)) (Sh.int .i64)))).T) RW0)) (N : Nat) {s : St} {κ : Ex → St → Option (((Sh.tu (Sh.pr (Sh.sl (Sh.int .u8)) (Sh.int .i64)))).T)} {a : ((Sh.tu (Sh.pr (Sh.sl (Sh.int .u8)) (Sh.int .i64)))).T} (h : lpOf 0 H319_0 P319_0 Q319_0 (u319_0 c50 c141 N N) s κ = some a) : Out FT XT 0 (retc k319.res (Sh.tu (Sh.pr (Sh.sl (Sh.int .u8)) (Sh.int .i64)))) (loopN k319 0) s κ a := by
  rw [l319_0]
  exact loop_out (LP := W319_0 c50 c141 N) (fu := fuelC) hT hO (fun _ _ => rfl) (b319_0 c50 c141 N) loopOK_nil N h
def W319 (c50 : Int → Int → Option (List Int)) (c141 : Int × (List Int) → Option ((List Int) × Int)) (N : Nat) : LoopF (((Sh.tu (Sh.pr (Sh.sl (Sh.int .u8)) (Sh.int .i64)))).T) := fun no =>
  match no with
  | 0 => lpOf 0 H319_0 P319_0 Q319_0 (u319_0 c50 c141 N N)
  | _ => fun _ _ => none
theorem e319 (c50 : Int → Int → Option (List Int)) (c141 : Int × (List Int) → Option ((List Int) × Int)) (N : Nat) (a0 : Bool × Int × (List (Int × (List Int))) × (List Int)) : evc (T319 c50 c141) (rawOf RW0) (W319 c50 c141 N) (retc k319.res (Sh.tu (Sh.pr (Sh.sl (Sh.int .u8)) (Sh.int .i64)))) (modeOf FT) 0 fuelC k319.body (env0 k319 (encL [(Sh.st (Sh.pr Sh.bool (Sh.pr (Sh.int .u16) (Sh.pr (Sh.sl (Sh.pr (Sh.int .u8) (Sh.sl (Sh.int .u8)))) (Sh.sl (Sh.int .u8))))))] (a0, ())), []) (endK (retc k319.res (Sh.tu (Sh.pr (Sh.sl (Sh.int .u8)) (Sh.int .i64))))) = p319 c50 c141 N a0 := by kernel_rfl
theorem ok319 (c50 : Int → Int → Option (List Int)) (c141 : Int × (List Int) → Option ((List Int) × Int)) (h50 : EntOK FT XT 50 (en50 c50)) (h141 : EntOK FT XT 141 (en141 c141)) {f : Bool × Int × (List (Int × (List Int))) × (List Int) → Option ((List Int) × Int)} (hf : ∀ a0 r, f a0 = some r → ∃ N, p319 c50 c141 N a0 = some r) : EntOK FT XT 319 (en319 f) := by
  have hT : TabOK FT XT (T319 c50 c141) := by
    intro g en hg
    unfold T319 at hg
    split at hg <;> first | (injection hg with hg; subst hg; assumption) | cases hg
  have hO0 : RawOK FT XT (rawOf (α := ((Sh.tu (Sh.pr (Sh.sl (Sh.int .u8)) (Sh.int .i64)))).T) RW0) := rawOK0
  have hO : RawOK FT XT (rawOf (α := ((Sh.tu (Sh.pr (Sh.sl (Sh.int .u8)) (Sh.int .i64)))).T) RW0) := hO0
  refine ⟨rfl, fun v r h => ?_⟩
  obtain ⟨a0, _⟩ := v
  obtain ⟨N, h1⟩ := hf _ _ h
  exact ans_c (R := (Sh.tu (Sh.pr (Sh.sl (Sh.int .u8)) (Sh.int .i64)))) (tab := T319 c50 c141) (raw := (rawOf RW0)) (LP := W319 c50 c141 N) (fu := fuelC) hT hO rfl rfl (Nat.le_of_ble_eq_true rfl) (loopOK_cons l319_0 (fun s κ a h => o319_0 c50 c141 hT hO N h) loopOK_nil) ((e319 c50 c141 N _).trans h1)

def T324 : Nat → Option Ent
  | _ => none
def W324 (N : Nat) : LoopF (((Sh.tu (Sh.pr (Sh.int .u8) (Sh.pr (Sh.int .i64) (Sh.int .i64))))).T) := fun no =>
  match no with
  | _ => fun _ _ => none
theorem e324 (N : Nat) (a0 : Int) : evc (T324) (rawOf RW0) (W324 N) (retc k324.res (Sh.tu (Sh.pr (Sh.int .u8) (Sh.pr (Sh.int .i64) (Sh.int .i64))))) (modeOf FT) 0 fuelC k324.body (env0 k324 (encL [(Sh.int .u16)] (a0, ())), []) (endK (retc k324.res (Sh.tu (Sh.pr (Sh.int .u8) (Sh.pr (Sh.int .i64) (Sh.int .i64)))))) = p324 N a0 := by kernel_rfl
theorem ok324 {f : Int → Option (Int × Int × Int)} (hf : ∀ a0 r, f a0 = some r → ∃ N, p324 N a0 = some r) : EntOK FT XT 324 (en324 f) := by
  have hT : TabOK FT XT (T324) := by
    intro g en hg
    unfold T324 at hg
    split at hg <;> first | (injection hg with hg; subst hg; assumption) | cases hg
  have hO0 : RawOK FT XT (rawOf (α := ((Sh.tu (Sh.pr (Sh.int .u8) (Sh.pr (Sh.int .i64) (Sh.int .i64))))).T) RW0) := rawOK0
  have hO : RawOK FT XT (rawOf (α := ((Sh.tu (Sh.pr (Sh.int .u8) (Sh.pr (Sh.int .i64) (Sh.int .i64))))).T) RW0) := hO0
  refine ⟨rfl, fun v r h => ?_⟩
  obtain ⟨a0, _⟩ := v
  obtain ⟨N, h1⟩ := hf _ _ h
  exact ans_c (R := (Sh.tu (Sh.pr (Sh.int .u8) (Sh.pr (Sh.int .i64) (Sh.int .i64))))) (tab := T324) (raw := (rawOf RW0)) (LP := W324 N) (fu := fuelC) hT hO rfl rfl (Nat.le_of_ble_eq_true rfl) loopOK_nil ((e324 N _).trans h1)

def T326v0 : Nat → Option Ent
  | _ => none
def W326v0 (N : Nat) : LoopF QR326v0.T := fun no =>
  match no with
  | _ => fun _ _ => none
theorem e326v0 (N : Nat) (v : PR326v0.T) : evc (T326v0) (rawOf RW0) (W326v0 N) (retr k326.res 1 QR326v0) (modeOf FT) 1 fuelC k326.body (env0 k326 (PR326v0.a.st v.1), stH PR326v0.h v.2) (endK (retr k326.res 1 QR326v0)) = p326v0 N v.1.1.1 v.1.1.2.1 v.2.1 := by kernel_rfl
theorem ok326v0 {f : Int → List Int → List Int → Option ((Bool × Unit) × ((List Int) × Unit))} (hf : ∀ a0 a1 a2 r, f a0 a1 a2 = some r → ∃ N, p326v0 N a0 a1 a2 = some r) : REntOK FT XT 326 (rn326v0 f) := by
  have hT : TabOK FT XT (T326v0) := by
    intro g en hg
    unfold T326v0 at hg
    split at hg <;> first | (injection hg with hg; subst hg; assumption) | cases hg
  have hO0 : RawOK FT XT (rawOf (α := QR326v0.T) RW0) := rawOK0
  have hO : RawOK FT XT (rawOf (α := QR326v0.T) RW0) := hO0
  intro v r w h hw
  obtain ⟨N, h1⟩ := hf _ _ _ _ h
  exact ans_r (Q := QR326v0) (tab := T326v0) (raw := (rawOf RW0)) (LP := W326v0 N) (fu := fuelC) hT hO rfl rfl (Nat.le_of_ble_eq_true rfl) rfl loopOK_nil ((e326v0 N v).trans h1) hw

def T327v0 (d326v0 : Int → List Int → List Int → Option ((Bool × Unit) × ((List Int) × Unit))) : Nat → Option Ent
  | _ => none
def RW327v0 (d326v0 : Int → List Int → List Int → Option ((Bool × Unit) × ((List Int) × Unit))) : Nat → List REnt
  | 326 => [rn326v0 d326v0]
  | _ => []
def H327v0_0 : Trim := ⟨0, [], false, [0, 1, 7, 8], []⟩
theorem l327v0_0 : loopN k327 0 = .loop H327v0_0 (bodyOf (loopN k327 0)) := by kernel_rfl
def P327v0_0 : Ps := ⟨[(0, (.tb (Sh.pr (Sh.int .u8) (Sh.sl (Sh.int .u8))))), (1, (.fn 326 (.cons (.ptr 0 0) .nil))), (4, .u), (5, .u), (7, (.int .i64)), (8, (.int .i64)), (9, .u), (16, .u)], [(.ints false .u8)]⟩
def Q327v0_0 : Nat → Ps
  | 0 => ⟨[(0, .u), (1, .u), (4, .u), (5, .u), (7, .u), (8, .u), (9, .u), (16, .u)], [(.ints false .u8)]⟩
  | _ => noPs
def u327v0_0 (d326v0 : Int → List Int → List Int → Option ((Bool × Unit) × ((List Int) × Unit))) (N n : Nat) (v : P327v0_0.T) (κ : (i : Nat) → (Q327v0_0 i).T → Option QR327v0.T) : Option QR327v0.T :=
  L327v0_0 d326v0 N (fun (y0 : List Int) => κ 0 (((), ((), ((), ((), ((), ((), ((), ((), ())))))))), (y0, ()))) n v.1.1 v.1.2.2.2.2.1 v.1.2.2.2.2.2.1 v.2.1
def W327v0_0 (d326v0 : Int → List Int → List Int → Option ((Bool × Unit) × ((List Int) × Unit))) (N : Nat) : LoopF QR327v0.T := fun no =>
  match no with
  | _ => fun _ _ => none
theorem b327v0_0 (d326v0 : Int → List Int → List Int → Option ((Bool × Unit) × ((List Int) × Unit))) (N n : Nat) (v : P327v0_0.T) (κ : (i : Nat) → (Q327v0_0 i).T → Option QR327v0.T) :
    evc (T327v0 d326v0) (rawOf (RW327v0 d326v0)) (W327v0_0 d326v0 N) (retr k327.res 1 QR327v0) (modeOf FT) 1 fuelC (bodyOf (loopN k327 0)) (P327v0_0.st v) (roundK 1 H327v0_0 P327v0_0 Q327v0_0 (u327v0_0 d326v0 N n) κ) = u327v0_0 d326v0 N (n + 1) v κ := by kernel_rfl
theorem o327v0_0 (d326v0 : Int → List Int → List Int → Option ((Bool × Unit) × ((List Int) × Unit))) (hT : TabOK FT XT (T327v0 d326v0)) (hO : RawOK FT XT (rawOf (α := QR327v0.T) (RW327v0 d326v0))) (N : Nat) {s : St} {κ : Ex → St → Option QR327v0.T} {a : QR327v0.T} (h : lpOf 1 H327v0_0 P327v0_0 Q327v0_0 (u327v0_0 d326v0 N N) s κ = some a) : Out FT XT 1 (retr k327.res 1 QR327v0) (loopN k327 0) s κ a := by
  rw [l327v0_0]
  exact loop_out (LP := W327v0_0 d326v0 N) (fu := fuelC) hT hO (fun _ _ => rfl) (b327v0_0 d326v0 N) loopOK_nil N h
def W327v0 (d326v0 : Int → List Int → List Int → Option ((Bool × Unit) × ((List Int) × Unit))) (N : Nat) : LoopF QR327v0.T := fun no =>
  match no with
  | 0 => lpOf 1 H327v0_0 P327v0_0 Q327v0_0 (u327v0_0 d326v0 N N)
  | _ => fun _ _ => none
theorem e327v0 (d326v0 : Int → List Int → List Int → Option ((Bool × Unit) × ((List Int) × Unit))) (N : Nat) (v : PR327v0.T) : evc (T327v0 d326v0) (rawOf (RW327v0 d326v0)) (W327v0 d326v0 N) (retr k327.res 1 QR327v0) (modeOf FT) 1 fuelC k327.body (env0 k327 (PR327v0.a.st v.1), stH PR327v0.h v.2) (endK (retr k327.res 1 QR327v0)) = p327v0 d326v0 N v.1.1 v.2.1 := by kernel_rfl
theorem ok327v0 (d326v0 : Int → List Int → List Int → Option ((Bool × Unit) × ((List Int) × Unit))) (h326v0 : REntOK FT XT 326 (rn326v0 d326v0)) {f : List (Int × (List Int)) → List Int → Option ((Int × Unit) × ((List Int) × Unit))} (hf : ∀ a0 a1 r, f a0 a1 = some r → ∃ N, p327v0 d326v0 N a0 a1 = some r) : REntOK FT XT 327 (rn327v0 f) := by
  have hT : TabOK FT XT (T327v0 d326v0) := by
    intro g en hg
    unfold T327v0 at hg
    split at hg <;> first | (injection hg with hg; subst hg; assumption) | cases hg
  have hO0 : RawOK FT XT (rawOf (α := QR327v0.T) (RW327v0 d326v0)) := by
    refine rawOf_ok (fun g en hg => ?_)
    unfold RW327v0 at hg
    split at hg <;> simp only [List.mem_cons, List.not_mem_nil, or_false] at hg <;> first | (subst hg; assumption) | (rcases hg with rfl | rfl <;> assumption) | (rcases hg with rfl | rfl | rfl <;> assumption) | (rcases hg with rfl | rfl | rfl | rfl <;> assumption)
  have hO : RawOK FT XT (rawOf (α := QR327v0.T) (RW327v0 d326v0)) := hO0
  intro v r w h hw
  obtain ⟨N, h1⟩ := hf _ _ _ h
  exact ans_r (Q := QR327v0) (tab := T327v0 d326v0) (raw := (rawOf (RW327v0 d326v0))) (LP := W327v0 d326v0 N) (fu := fuelC) hT hO rfl rfl (Nat.le_of_ble_eq_true rfl) rfl (loopOK_cons l327v0_0 (fun s κ a h => o327v0_0 d326v0 hT hO N h) loopOK_nil) ((e327v0 d326v0 N v).trans h1) hw

def T325v0 (d327v0 : List (Int × (List Int)) → List Int → Option ((Int × Unit) × ((List Int) × Unit))) : Nat → Option Ent
  | _ => none
def RW325v0 (d327v0 : List (Int × (List Int)) → List Int → Option ((Int × Unit) × ((List Int) × Unit))) : Nat → List REnt
  | 327 => [rn327v0 d327v0]
  | _ => []
def W325v0 (d327v0 : List (Int × (List Int)) → List Int → Option ((Int × Unit) × ((List Int) × Unit))) (N : Nat) : LoopF QR325v0.T := fun no =>
  match no with
  | _ => fun _ _ => none
theorem e325v0 (d327v0 : List (Int × (List Int)) → List Int → Option ((Int × Unit) × ((List Int) × Unit))) (N : Nat) (v : PR325v0.T) : evc (T325v0 d327v0) (rawOf (RW325v0 d327v0)) (W325v0 d327v0 N) (retr k325.res 1 QR325v0) (modeOf FT) 1 fuelC k325.body (env0 k325 (PR325v0.a.st v.1), stH PR325v0.h v.2) (endK (retr k325.res 1 QR325v0)) = p325v0 d327v0 N v.1.1 v.2.1 := by kernel_rfl
theorem ok325v0 (d327v0 : List (Int × (List Int)) → List Int → Option ((Int × Unit) × ((List Int) × Unit))) (h327v0 : REntOK FT XT 327 (rn327v0 d327v0)) {f : List (Int × (List Int)) → List Int → Option ((Bool × Unit) × ((List Int) × Unit))} (hf : ∀ a0 a1 r, f a0 a1 = some r → ∃ N, p325v0 d327v0 N a0 a1 = some r) : REntOK FT XT 325 (rn325v0 f) := by
  have hT : TabOK FT XT (T325v0 d327v0) := by
    intro g en hg
    unfold T325v0 at hg
    split at hg <;> first | (injection hg with hg; subst hg; assumption) | cases hg
  have hO0 : RawOK FT XT (rawOf (α := QR325v0.T) (RW325v0 d327v0)) := by
    refine rawOf_ok (fun g en hg => ?_)
    unfold RW325v0 at hg
    split at hg <;> simp only [List.mem_cons, List.not_mem_nil, or_false] at hg <;> first | (subst hg; assumption) | (rcases hg with rfl | rfl <;> assumption) | (rcases hg with rfl | rfl | rfl <;> assumption) | (rcases hg with rfl | rfl | rfl | rfl <;> assumption)
  have hO : RawOK FT XT (rawOf (α := QR325v0.T) (RW325v0 d327v0)) := hO0
  intro v r w h hw
  obtain ⟨N, h1⟩ := hf _ _ _ h
  exact ans_r (Q := QR325v0) (tab := T325v0 d327v0) (raw := (rawOf (RW325v0 d327v0))) (LP := W325v0 d327v0 N) (fu := fuelC) hT hO rfl rfl (Nat.le_of_ble_eq_true rfl) rfl loopOK_nil ((e325v0 d327v0 N v).trans h1) hw

def T323 (c324 : Int → Option (Int × Int × Int)) (d325v0 : List (Int × (List Int)) → List Int → Option ((Bool × Unit) × ((List Int) × Unit))) (c145 : Int × (List Int) → Option Int) : Nat → Option Ent
  | 324 => some (en324 c324)
  | 145 => some (en145 c145)
  | _ => none
def RW323 (c324 : Int → Option (Int × Int × Int)) (d325v0 : List (Int × (List Int)) → List Int → Option ((Bool × Unit) × ((List Int) × Unit))) (c145 : Int × (List Int) → Option Int) : Nat → List REnt
  | 325 => [rn325v0 d325v0]
  | _ => []
def H323_0 : Trim := ⟨0, [], false, [49, 50, 51], []⟩
theorem l323_0 : loopN k323 0 = .loop H323_0 (bodyOf (loopN k323 0)) := by kernel_rfl
def P323_0 : Ps := ⟨[(0, .u), (1, .u), (2, .u), (3, .u), (4, .u), (5, .u), (6, .u), (8, .u), (9, .u), (20, .u), (24, .u), (33, .u), (49, (.tb (Sh.pr (Sh.int .u8) (Sh.sl (Sh.int .u8))))), (50, (.int .i64)), (51, (.int .i64)), (52, .u), (58, .u)], []⟩
def Q323_0 : Nat → Ps
  | 1 => ⟨[(0, .u), (1, .u), (2, .u), (3, .u), (4, .u), (5, .u), (6, .u), (8, .u), (9, .u), (20, .u), (24, .u), (33, .u), (49, .u), (50, .u), (51, .u), (52, .u), (58, .u)], []⟩
  | _ => noPs
def u323_0 (c324 : Int → Option (Int × Int × Int)) (d325v0 : List (Int × (List Int)) → List Int → Option ((Bool × Unit) × ((List Int) × Unit))) (c145 : Int × (List Int) → Option Int) (N n : Nat) (v : P323_0.T) (κ : (i : Nat) → (Q323_0 i).T → Option (((Sh.int .i64)).T)) : Option (((Sh.int .i64)).T) :=
  L323_0 c324 d325v0 c145 N (κ 1 (((), ((), ((), ((), ((), ((), ((), ((), ((), ((), ((), ((), ((), ((), ((), ((), ((), ()))))))))))))))))), ())) n v.1.2.2.2.2.2.2.2.2.2.2.2.2.1 v.1.2.2.2.2.2.2.2.2.2.2.2.2.2.1 v.1.2.2.2.2.2.2.2.2.2.2.2.2.2.2.1
def W323_0 (c324 : Int → Option (Int × Int × Int)) (d325v0 : List (Int × (List Int)) → List Int → Option ((Bool × Unit) × ((List Int) × Unit))) (c145 : Int × (List Int) → Option Int) (N : Nat) : LoopF (((Sh.int .i64)).T) := fun no =>
  match no with
  | _ => fun _ _ => none
theorem b323_0 (c324 : Int → Option (Int × Int × Int)) (d325v0 : List (Int × (List Int)) → List Int → Option ((Bool × Unit) × ((List Int) × Unit))) (c145 : Int × (List Int) → Option Int) (N n : Nat) (v : P323_0.T) (κ : (i : Nat) → (Q323_0 i).T → Option (((Sh.int .i64)).T)) :
    evc (T323 c324 d325v0 c145) (rawOf (RW323 c324 d325v0 c145)) (W323_0 c324 d325v0 c145 N) (retc k323.res (Sh.int .i64)) (modeOf FT) 0 fuelC (bodyOf (loopN k323 0)) (P323_0.st v) (roundK 0 H323_0 P323_0 Q323_0 (u323_0 c324 d325v0 c145 N n) κ) = u323_0 c324 d325v0 c145 N (n + 1) v κ := by kernel_rfl
theorem o323_0 (c324 : Int → Option (Int × Int × Int)) (d325v0 : List (Int × (List Int)) → List Int → Option ((Bool × Unit) × ((List Int) × Unit))) (c145 : Int × (List Int) → Option Int) (hT : TabOK FT XT (T323 c324 d325v0 c145)) (hO : RawOK FT XT (rawOf (α := ((Sh.int .i64)).T) (RW323 c324 d325v0 c145))) (N : Nat) {s : St} {κ : Ex → St → Option (((Sh.int .i64)).T)} {a : ((Sh.int .i64)).T} (h : lpOf 0 H323_0 P323_0 Q323_0 (u323_0 c324 d325v0 c145 N N) s κ = some a) : Out FT XT 0 (retc k323.res (Sh.int .i64)) (loopN k323 0) s κ a := by
  rw [l323_0]
  exact loop_out (LP := W323_0 c324 d325v0 c145 N) (fu := fuelC) hT hO (fun _ _ => rfl) (b323_0 c324 d325v0 c145 N) loopOK_nil N h
def W323 (c324 : Int → Option (Int × Int × Int)) (d325v0 : List (Int × (List Int)) → List Int → Option ((Bool × Unit) × ((List Int) × Unit))) (c145 : Int × (List Int) → Option Int) (N : Nat) : LoopF (((Sh.int .i64)).T) := fun no =>
  match no with
  | 0 => lpOf 0 H323_0 P323_0 Q323_0 (u323_0 c324 d325v0 c145 N N)
  | _ => fun _ _ => none
theorem e323 (c324 : Int → Option (Int × Int × Int)) (d325v0 : List (Int × (List Int)) → List Int → Option ((Bool × Unit) × ((List Int) × Unit))) (c145 : Int × (List Int) → Option Int) (N : Nat) (a0 : Bool × Int × (List (Int × (List Int))) × (List Int)) : evc (T323 c324 d325v0 c145) (rawOf (RW323 c324 d325v0 c145)) (W323 c324 d325v0 c145 N) (retc k323.res (Sh.int .i64)) (modeOf FT) 0 fuelC k323.body (env0 k323 (encL [(Sh.st (Sh.pr Sh.bool (Sh.pr (Sh.int .u16) (Sh.pr (Sh.sl (Sh.pr (Sh.int .u8) (Sh.sl (Sh.int .u8)))) (Sh.sl (Sh.int .u8))))))] (a0, ())), []) (endK (retc k323.res (Sh.int .i64))) = p323 c324 d325v0 c145 N a0 := by kernel_rfl
theorem ok323 (c324 : Int → Option (Int × Int × Int)) (d325v0 : List (Int × (List Int)) → List Int → Option ((Bool × Unit) × ((List Int) × Unit))) (c145 : Int × (List Int) → Option Int) (h324 : EntOK FT XT 324 (en324 c324)) (h145 : EntOK FT XT 145 (en145 c145)) (h325v0 : REntOK FT XT 325 (rn325v0 d325v0)) {f : Bool × Int × (List (Int × (List Int))) × (List Int) → Option Int} (hf : ∀ a0 r, f a0 = some r → ∃ N, p323 c324 d325v0 c145 N a0 = some r) : EntOK FT XT 323 (en323 f) := by
  have hT : TabOK FT XT (T323 c324 d325v0 c145) := by
    intro g en hg
    unfold T323 at hg
    split at hg <;> first | (injection hg with hg; subst hg; assumption) | cases hg
  have hO0 : RawOK FT XT (rawOf (α := ((Sh.int .i64)).T) (RW323 c324 d325v0 c145)) := by
    refine rawOf_ok (fun g en hg => ?_)
    unfold RW323 at hg
    split at hg <;> simp only [List.mem_cons, List.not_mem_nil, or_false] at hg <;> first | (subst hg; assumption) | (rcases hg with rfl | rfl <;> assumption) | (rcases hg with rfl | rfl | rfl <;> assumption) | (rcases hg with rfl | rfl | rfl | rfl <;> assumption)
  have hO : RawOK FT XT (rawOf (α := ((Sh.int .i64)).T) (RW323 c324 d325v0 c145)) := hO0
  refine ⟨rfl, fun v r h => ?_⟩
  obtain ⟨a0, _⟩ := v
  obtain ⟨N, h1⟩ := hf _ _ h
  exact ans_c (R := (Sh.int .i64)) (tab := T323 c324 d325v0 c145) (raw := (rawOf (RW323 c324 d325v0 c145))) (LP := W323 c324 d325v0 c145 N) (fu := fuelC) hT hO rfl rfl (Nat.le_of_ble_eq_true rfl) (loopOK_cons l323_0 (fun s κ a h => o323_0 c324 d325v0 c145 hT hO N h) loopOK_nil) ((e323 c324 d325v0 c145 N _).trans h1)

def T337 : Nat → Option Ent
  | _ => none
def H337_0 : Trim := ⟨0, [], false, [1, 11, 12, 13], []⟩
theorem l337_0 : loopN k337 0 = .loop H337_0 (bodyOf (loopN k337 0)) := by kernel_rfl
def P337_0 : Ps := ⟨[(0, .u), (1, (.ptr 0 0)), (2, .u), (4, .u), (11, (.tb (Sh.pr (Sh.int .u8) (Sh.sl (Sh.int .u8))))), (12, (.int .i64)), (13, (.int .i64)), (14, .u), (20, .u)], [(.vals false (.cons .bool (.cons (.int .u16) (.cons (.tb (Sh.pr (Sh.int .u8) (Sh.sl (Sh.int .u8)))) (.cons (.tb (Sh.int .u8)) .nil)))))]⟩
def Q337_0 : Nat → Ps
  | 0 => ⟨[(0, .u), (1, (.ptr 0 0)), (2, .u), (4, .u), (11, .u), (12, .u), (13, .u), (14, .u), (20, .u)], [(.vals false (.cons .bool (.cons (.int .u16) (.cons (.tb (Sh.pr (Sh.int .u8) (Sh.sl (Sh.int .u8)))) (.cons (.tb (Sh.int .u8)) .nil)))))]⟩
  | _ => noPs
def u337_0 (N n : Nat) (v : P337_0.T) (κ : (i : Nat) → (Q337_0 i).T → Option (Sh.bool).T) : Option (Sh.bool).T :=
  L337_0 N (fun (y0 : Bool) (y1 : Int) (y2 : List (Int × (List Int))) (y3 : List Int) => κ 0 (((), ((), ((), ((), ((), ((), ((), ((), ((), ()))))))))), ((y0, (y1, (y2, (y3, ())))), ()))) n v.1.2.2.2.2.1 v.1.2.2.2.2.2.1 v.1.2.2.2.2.2.2.1 v.2.1.1 v.2.1.2.1 v.2.1.2.2.1 v.2.1.2.2.2.1
def W337_0 (N : Nat) : LoopF (Sh.bool).T := fun no =>
  match no with
  | _ => fun _ _ => none
theorem b337_0 (N n : Nat) (v : P337_0.T) (κ : (i : Nat) → (Q337_0 i).T → Option (Sh.bool).T) :
    evc (T337) (rawOf RW0) (W337_0 N) (retc k337.res Sh.bool) (modeOf FT) 0 fuelC (bodyOf (loopN k337 0)) (P337_0.st v) (roundK 0 H337_0 P337_0 Q337_0 (u337_0 N n) κ) = u337_0 N (n + 1) v κ := by kernel_rfl
theorem o337_0 (hT : TabOK FT XT (T337)) (hO : RawOK FT XT (rawOf (α := (Sh.bool).T) RW0)) (N : Nat) {s : St} {κ : Ex → St → Option (Sh.bool).T} {a : (Sh.bool).T} (h : lpOf 0 H337_0 P337_0 Q337_0 (u337_0 N N) s κ = some a) : Out FT XT 0 (retc k337.res Sh.bool) (loopN k337 0) s κ a := by
  rw [l337_0]
  exact loop_out (LP := W337_0 N) (fu := fuelC) hT hO (fun _ _ => rfl) (b337_0 N) loopOK_nil N h
def W337 (N : Nat) : LoopF (Sh.bool).T := fun no =>
  match no with
  | 0 => lpOf 0 H337_0 P337_0 Q337_0 (u337_0 N N)
  | _ => fun _ _ => none
theorem e337 (N : Nat) (a0 : Bool × Int × (List (Int × (List Int))) × (List Int)) : evc (T337) (rawOf RW0) (W337 N) (retc k337.res Sh.bool) (modeOf FT) 0 fuelC k337.body (env0 k337 (encL [(Sh.st (Sh.pr Sh.bool (Sh.pr (Sh.int .u16) (Sh.pr (Sh.sl (Sh.pr (Sh.int .u8) (Sh.sl (Sh.int .u8)))) (Sh.sl (Sh.int .u8))))))] (a0, ())), []) (endK (retc k337.res Sh.bool)) = p337 N a0 := by kernel_rfl
theorem ok337 {f : Bool × Int × (List (Int × (List Int))) × (List Int) → Option Bool} (hf : ∀ a0 r, f a0 = some r → ∃ N, p337 N a0 = some r) : EntOK FT XT 337 (en337 f) := by
  have hT : TabOK FT XT (T337) := by
    intro g en hg
    unfold T337 at hg
    split at hg <;> first | (injection hg with hg; subst hg; assumption) | cases hg
  have hO0 : RawOK FT XT (rawOf (α := (Sh.bool).T) RW0) := rawOK0
  have hO : RawOK FT XT (rawOf (α := (Sh.bool).T) RW0) := hO0
  refine ⟨rfl, fun v r h => ?_⟩
  obtain ⟨a0, _⟩ := v
  obtain ⟨N, h1⟩ := hf _ _ h
  exact ans_c (R := Sh.bool) (tab := T337) (raw := (rawOf RW0)) (LP := W337 N) (fu := fuelC) hT hO rfl rfl (Nat.le_of_ble_eq_true rfl) (loopOK_cons l337_0 (fun s κ a h => o337_0 hT hO N h) loopOK_nil) ((e337 N _).trans h1)

def T343 (c21 : List Int → Bool → Option (Int × Int)) : Nat → Option Ent
  | 21 => some (en21 c21)
  | _ => none
def W343 (c21 : List Int → Bool → Option (Int × Int)) (N : Nat) : LoopF (((Sh.tu (Sh.pr (Sh.int .i64) (Sh.int .i64)))).T) := fun no =>
  match no with
  | _ => fun _ _ => none
theorem e343 (c21 : List Int → Bool → Option (Int × Int)) (N : Nat) (a0 : List Int) : evc (T343 c21) (rawOf RW0) (W343 c21 N) (retc k343.res (Sh.tu (Sh.pr (Sh.int .i64) (Sh.int .i64)))) (modeOf FT) 0 fuelC k343.body (env0 k343 (encL [(Sh.sl (Sh.int .u8))] (a0, ())), []) (endK (retc k343.res (Sh.tu (Sh.pr (Sh.int .i64) (Sh.int .i64))))) = p343 c21 N a0 := by kernel_rfl
theorem ok343 (c21 : List Int → Bool → Option (Int × Int)) (h21 : EntOK FT XT 21 (en21 c21)) {f : List Int → Option (Int × Int)} (hf : ∀ a0 r, f a0 = some r → ∃ N, p343 c21 N a0 = some r) : EntOK FT XT 343 (en343 f) := by
  have hT : TabOK FT XT (T343 c21) := by
    intro g en hg
    unfold T343 at hg
    split at hg <;> first | (injection hg with hg; subst hg; assumption) | cases hg
  have hO0 : RawOK FT XT (rawOf (α := ((Sh.tu (Sh.pr (Sh.int .i64) (Sh.int .i64)))).T) RW0) := rawOK0
  have hO : RawOK FT XT (rawOf (α := ((Sh.tu (Sh.pr (Sh.int .i64) (Sh.int .i64)))).T) RW0) := hO0
  refine ⟨rfl, fun v r h => ?_⟩
  obtain ⟨a0, _⟩ := v
  obtain ⟨N, h1⟩ := hf _ _ h
  exact ans_c (R := (Sh.tu (Sh.pr (Sh.int .i64) (Sh.int .i64)))) (tab := T343 c21) (raw := (rawOf RW0)) (LP := W343 c21 N) (fu := fuelC) hT hO rfl rfl (Nat.le_of_ble_eq_true rfl) loopOK_nil ((e343 c21 N _).trans h1)

def T346 (c108 : List Int → Option (List Int)) : Nat → Option Ent
  | 108 => some (en108 c108)
  | _ => none
def W346 (c108 : List Int → Option (List Int)) (N : Nat) : LoopF (((Sh.st (Sh.pr Sh.bool (Sh.pr (Sh.int .u16) (Sh.pr (Sh.sl (Sh.pr (Sh.int .u8) (Sh.sl (Sh.int .u8)))) (Sh.sl (Sh.int .u8))))))).T) := fun no =>
  match no with
  | _ => fun _ _ => none
theorem e346 (c108 : List Int → Option (List Int)) (N : Nat) (a0 : List Int) : evc (T346 c108) (rawOf RW0) (W346 c108 N) (retc k346.res (Sh.st (Sh.pr Sh.bool (Sh.pr (Sh.int .u16) (Sh.pr (Sh.sl (Sh.pr (Sh.int .u8) (Sh.sl (Sh.int .u8)))) (Sh.sl (Sh.int .u8))))))) (modeOf FT) 0 fuelC k346.body (env0 k346 (encL [(Sh.sl (Sh.int .u8))] (a0, ())), []) (endK (retc k346.res (Sh.st (Sh.pr Sh.bool (Sh.pr (Sh.int .u16) (Sh.pr (Sh.sl (Sh.pr (Sh.int .u8) (Sh.sl (Sh.int .u8)))) (Sh.sl (Sh.int .u8)))))))) = p346 c108 N a0 := by kernel_rfl
theorem ok346 (c108 : List Int → Option (List Int)) (h108 : EntOK FT XT 108 (en108 c108)) {f : List Int → Option (Bool × Int × (List (Int × (List Int))) × (List Int))} (hf : ∀ a0 r, f a0 = some r → ∃ N, p346 c108 N a0 = some r) : EntOK FT XT 346 (en346 f) := by
  have hT : TabOK FT XT (T346 c108) := by
    intro g en hg
    unfold T346 at hg
    split at hg <;> first | (injection hg with hg; subst hg; assumption) | cases hg
  have hO0 : RawOK FT XT (rawOf (α := ((Sh.st (Sh.pr Sh.bool (Sh.pr (Sh.int .u16) (Sh.pr (Sh.sl (Sh.pr (Sh.int .u8) (Sh.sl (Sh.int .u8)))) (Sh.sl (Sh.int .u8))))))).T) RW0) := rawOK0
  have hO : RawOK FT XT (rawOf (α := ((Sh.st (Sh.pr Sh.bool (Sh.pr (Sh.int .u16) (Sh.pr (Sh.sl (Sh.pr (Sh.int .u8) (Sh.sl (Sh.int .u8)))) (Sh.sl (Sh.int .u8))))))).T) RW0) := hO0
  refine ⟨rfl, fun v r h => ?_⟩
  obtain ⟨a0, _⟩ := v
  obtain ⟨N, h1⟩ := hf _ _ h
  exact ans_c (R := (Sh.st (Sh.pr Sh.bool (Sh.pr (Sh.int .u16) (Sh.pr (Sh.sl (Sh.pr (Sh.int .u8) (Sh.sl (Sh.int .u8)))) (Sh.sl (Sh.int .u8))))))) (tab := T346 c108) (raw := (rawOf RW0)) (LP := W346 c108 N) (fu := fuelC) hT hO rfl rfl (Nat.le_of_ble_eq_true rfl) loopOK_nil ((e346 c108 N _).trans h1)

def T359 (c142 : List Int → Option ((Int × (List Int)) × Int × Int)) : Nat → Option Ent
  | 142 => some (en142 c142)
  | _ => none
def H359_0 : Trim := ⟨0, [], false, [0, 6, 12, 13], [(6, (.imm []), 2)]⟩
theorem l359_0 : loopN k359 0 = .loop H359_0 (bodyOf (loopN k359 0)) := by kernel_rfl
def P359_0 : Ps := ⟨[(0, (.tb (Sh.int .u8))), (1, .u), (4, .u), (5, .u), (6, (.sl 0 2)), (7, .u), (8, .u), (9, .u), (11, .u), (12, (.int .u64)), (13, (.int .u64)), (14, .u), (22, .u), (34, .u)], [(.imm false)]⟩
def Q359_0 : Nat → Ps
  | 0 => ⟨[(0, (.tb (Sh.int .u8))), (1, .u), (4, .u), (5, .u), (6, (.sl 0 2)), (7, .u), (8, .u), (9, .u), (11, .u), (12, .u), (13, .u), (14, .u), (22, .u), (34, .u)], [(.imm false)]⟩
  | _ => noPs
def u359_0 (c142 : List Int → Option ((Int × (List Int)) × Int × Int)) (N n : Nat) (v : P359_0.T) (κ : (i : Nat) → (Q359_0 i).T → Option (((Sh.tu (Sh.pr (Sh.sl (Sh.pr (Sh.int .u8) (Sh.sl (Sh.int .u8)))) (Sh.int .i64)))).T)) : Option (((Sh.tu (Sh.pr (Sh.sl (Sh.pr (Sh.int .u8) (Sh.sl (Sh.int .u8)))) (Sh.int .i64)))).T) :=
  L359_0 c142 N (fun (y0 : List Int) (y1 : Nat) (y2 : List V) => κ 0 ((y0, ((), ((), ((), (y1, ((), ((), ((), ((), ((), ((), ((), ((), ((), ())))))))))))))), (y2, ()))) n v.1.1 v.1.2.2.2.2.1 v.1.2.2.2.2.2.2.2.2.2.1 v.1.2.2.2.2.2.2.2.2.2.2.1 v.2.1
def W359_0 (c142 : List Int → Option ((Int × (List Int)) × Int × Int)) (N : Nat) : LoopF (((Sh.tu (Sh.pr (Sh.sl (Sh.pr (Sh.int .u8) (Sh.sl (Sh.int .u8)))) (Sh.int .i64)))).T) := fun no =>
  match no with
  | _ => fun _ _ => none
theorem b359_0 (c142 : List Int → Option ((Int × (List Int)) × Int × Int)) (N n : Nat) (v : P359_0.T) (κ : (i : Nat) → (Q359_0 i).T → Option (((Sh.tu (Sh.pr (Sh.sl (Sh.pr (Sh.int .u8) (Sh.sl (Sh.int .u8)))) (Sh.int .i64)))).T)) :
    evc (T359 c142) (rawOf RW0) (W359_0 c142 N) (retc k359.res (Sh.tu (Sh.pr (Sh.sl (Sh.pr (Sh.int .u8) (Sh.sl (Sh.int .u8)))) (Sh.int .i64)))) (modeOf FT) 0 fuelC (bodyOf (loopN k359 0)) (P359_0.st v) (roundK 0 H359_0 P359_0 Q359_0 (u359_0 c142 N n) κ) = u359_0 c142 N (n + 1) v κ := by kernel_rfl
theorem o359_0 (c142 : List Int → Option ((Int × (List Int)) × Int × Int)) (hT : TabOK FT XT (T359 c142)) (hO : RawOK FT XT (rawOf (α := ((Sh.tu (Sh.pr (Sh.sl (Sh.pr (Sh.int .u8) (Sh.sl (Sh.int .u8)))) (Sh.int .i64)))).T) RW0)) (N : Nat) {s : St} {κ : Ex → St → Option (((Sh.tu (Sh.pr (Sh.sl (Sh.pr (Sh.int .u8) (Sh.sl (Sh.int .u8)))) (Sh.int .i64)))).T)} {a : ((Sh.tu (Sh.pr (Sh.sl (Sh.pr (Sh.int .u8) (Sh.sl (Sh.int .u8)))) (Sh.int .i64)))).T} (h : lpOf 0 H359_0 P359_0 Q359_0 (u359_0 c142 N N) s κ = some a) : Out FT XT 0 (retc k359.res (Sh.tu (Sh.pr (Sh.sl (Sh.pr (Sh.int .u8) (Sh.sl (Sh.int .u8)))) (Sh.int .i64)))) (loopN k359 0) s κ a := by
  rw [l359_0]
  exact loop_out (LP := W359_0 c142 N) (fu := fuelC) hT hO (fun _ _ => rfl) (b359_0 c142 N) loopOK_nil N h
def W359 (c142 : List Int → Option ((Int × (List Int)) × Int × Int)) (N : Nat) : LoopF (((Sh.tu (Sh.pr (Sh.sl (Sh.pr (Sh.int .u8) (Sh.sl (Sh.int .u8)))) (Sh.int .i64)))).T) := fun no =>
  match no with
  | 0 => lpOf 0 H359_0 P359_0 Q359_0 (u359_0 c142 N N)
  | _ => fun _ _ => none
theorem e359 (c142 : List Int → Option ((Int × (List Int)) × Int × Int)) (N : Nat) (a0 : List Int) (a1 : Int) : evc (T359 c142) (rawOf RW0) (W359 c142 N) (retc k359.res (Sh.tu (Sh.pr (Sh.sl (Sh.pr (Sh.int .u8) (Sh.sl (Sh.int .u8)))) (Sh.int .i64)))) (modeOf FT) 0 fuelC k359.body (env0 k359 (encL [(Sh.sl (Sh.int .u8)), (Sh.int .u64)] (a0, (a1, ()))), []) (endK (retc k359.res (Sh.tu (Sh.pr (Sh.sl (Sh.pr (Sh.int .u8) (Sh.sl (Sh.int .u8)))) (Sh.int .i64))))) = p359 c142 N a0 a1 := by kernel_rfl
theorem ok359 (c142 : List Int → Option ((Int × (List Int)) × Int × Int)) (h142 : EntOK FT XT 142 (en142 c142)) {f : List Int → Int → Option ((List (Int × (List Int))) × Int)} (hf : ∀ a0 a1 r, f a0 a1 = some r → ∃ N, p359 c142 N a0 a1 = some r) : EntOK FT XT 359 (en359 f) := by
  have hT : TabOK FT XT (T359 c142) := by
    intro g en hg
    unfold T359 at hg
    split at hg <;> first | (injection hg with hg; subst hg; assumption) | cases hg
  have hO0 : RawOK FT XT (rawOf (α := ((Sh.tu (Sh.pr (Sh.sl (Sh.pr (Sh.int .u8) (Sh.sl (Sh.int .u8)))) (Sh.int .i64)))).T) RW0) := rawOK0
  have hO : RawOK FT XT (rawOf (α := ((Sh.tu (Sh.pr (Sh.sl (Sh.pr (Sh.int .u8) (Sh.sl (Sh.int .u8)))) (Sh.int .i64)))).T) RW0) := hO0
  refine ⟨rfl, fun v r h => ?_⟩
  obtain ⟨a0, a1, _⟩ := v
  obtain ⟨N, h1⟩ := hf _ _ _ h
  exact ans_c (R := (Sh.tu (Sh.pr (Sh.sl (Sh.pr (Sh.int .u8) (Sh.sl (Sh.int .u8)))) (Sh.int .i64)))) (tab := T359 c142) (raw := (rawOf RW0)) (LP := W359 c142 N) (fu := fuelC) hT hO rfl rfl (Nat.le_of_ble_eq_true rfl) (loopOK_cons l359_0 (fun s κ a h => o359_0 c142 hT hO N h) loopOK_nil) ((e359 c142 N _ _).trans h1)

def T341 (c343 : List Int → Option (Int × Int)) (c346 : List Int → Option (Bool × Int × (List (Int × (List Int))) × (List Int))) (c21 : List Int → Bool → Option (Int × Int)) (c359 : List Int → Int → Option ((List (Int × (List Int))) × Int)) (c316 : Int → List (Int × (List Int)) → Option (Bool × Int × (List (Int × (List Int))) × (List Int))) : Nat → Option Ent
  | 343 => some (en343 c343)
  | 346 => some (en346 c346)
  | 21 => some (en21 c21)
  | 359 => some (en359 c359)
  | 316 => some (en316 c316)
  | _ => none
def W341 (c343 : List Int → Option (Int × Int)) (c346 : List Int → Option (Bool × Int × (List (Int × (List Int))) × (List Int))) (c21 : List Int → Bool → Option (Int × Int)) (c359 : List Int → Int → Option ((List (Int × (List Int))) × Int)) (c316 : Int → List (Int × (List Int)) → Option (Bool × Int × (List (Int × (List Int))) × (List Int))) (N : Nat) : LoopF (((Sh.tu (Sh.pr (Sh.st (Sh.pr Sh.bool (Sh.pr (Sh.int .u16) (Sh.pr (Sh.sl (Sh.pr (Sh.int .u8) (Sh.sl (Sh.int .u8)))) (Sh.sl (Sh.int .u8)))))) (Sh.int .i64)))).T) := fun no =>
  match no with
  | _ => fun _ _ => none
theorem e341 (c343 : List Int → Option (Int × Int)) (c346 : List Int → Option (Bool × Int × (List (Int × (List Int))) × (List Int))) (c21 : List Int → Bool → Option (Int × Int)) (c359 : List Int → Int → Option ((List (Int × (List Int))) × Int)) (c316 : Int → List (Int × (List Int)) → Option (Bool × Int × (List (Int × (List Int))) × (List Int))) (N : Nat) (a0 : List Int) : evc (T341 c343 c346 c21 c359 c316) (rawOf RW0) (W341 c343 c346 c21 c359 c316 N) (retc k341.res (Sh.tu (Sh.pr (Sh.st (Sh.pr Sh.bool (Sh.pr (Sh.int .u16) (Sh.pr (Sh.sl (Sh.pr (Sh.int .u8) (Sh.sl (Sh.int .u8)))) (Sh.sl (Sh.int .u8)))))) (Sh.int .i64)))) (modeOf FT) 0 fuelC k341.body (env0 k341 (encL [(Sh.sl (Sh.int .u8))] (a0, ())), []) (endK (retc k341.res (Sh.tu (Sh.pr (Sh.st (Sh.pr Sh.bool (Sh.pr (Sh.int .u16) (Sh.pr (Sh.sl (Sh.pr (Sh.int .u8) (Sh.sl (Sh.int .u8)))) (Sh.sl (Sh.int .u8)))))) (Sh.int .i64))))) = p341 c343 c346 c21 c359 c316 N a0 := by kernel_rfl
theorem ok341 (c343 : List Int → Option (Int × Int)) (c346 : List Int → Option (Bool × Int × (List (Int × (List Int))) × (List Int))) (c21 : List Int → Bool → Option (Int × Int)) (c359 : List Int → Int → Option ((List (Int × (List Int))) × Int)) (c316 : Int → List (Int × (List Int)) → Option (Bool × Int × (List (Int × (List Int))) × (List Int))) (h343 : EntOK FT XT 343 (en343 c343)) (h346 : EntOK FT XT 346 (en346 c346)) (h21 : EntOK FT XT 21 (en21 c21)) (h359 : EntOK FT XT 359 (en359 c359)) (h316 : EntOK FT XT 316 (en316 c316)) {f : List Int → Option ((Bool × Int × (List (Int × (List Int))) × (List Int)) × Int)} (hf : ∀ a0 r, f a0 = some r → ∃ N, p341 c343 c346 c21 c359 c316 N a0 = some r) : EntOK FT XT 341 (en341 f) := by
  have hT : TabOK FT XT (T341 c343 c346 c21 c359 c316) := by
    intro g en hg
    unfold T341 at hg
    split at hg <;> first | (injection hg with hg; subst hg; assumption) | cases hg
  have hO0 : RawOK FT XT (rawOf (α := ((Sh.tu (Sh.pr (Sh.st (Sh.pr Sh.bool (Sh.pr (Sh.int .u16) (Sh.pr (Sh.sl (Sh.pr (Sh.int .u8) (Sh.sl (Sh.int .u8)))) (Sh.sl (Sh.int .u8)))))) (Sh.int .i64)))).T) RW0) := rawOK0
  have hO : RawOK FT XT (rawOf (α := ((Sh.tu (Sh.pr (Sh.st (Sh.pr Sh.bool (Sh.pr (Sh.int .u16) (Sh.pr (Sh.sl (Sh.pr (Sh.int .u8) (Sh.sl (Sh.int .u8)))) (Sh.sl (Sh.int .u8)))))) (Sh.int .i64)))).T) RW0) := hO0
  refine ⟨rfl, fun v r h => ?_⟩
  obtain ⟨a0, _⟩ := v
  obtain ⟨N, h1⟩ := hf _ _ h
  exact ans_c (R := (Sh.tu (Sh.pr (Sh.st (Sh.pr Sh.bool (Sh.pr (Sh.int .u16) (Sh.pr (Sh.sl (Sh.pr (Sh.int .u8) (Sh.sl (Sh.int .u8)))) (Sh.sl (Sh.int .u8)))))) (Sh.int .i64)))) (tab := T341 c343 c346 c21 c359 c316) (raw := (rawOf RW0)) (LP := W341 c343 c346 c21 c359 c316 N) (fu := fuelC) hT hO rfl rfl (Nat.le_of_ble_eq_true rfl) loopOK_nil ((e341 c343 c346 c21 c359 c316 N _).trans h1)

def T338 (c316 : Int → List (Int × (List Int)) → Option (Bool × Int × (List (Int × (List Int))) × (List Int))) (c317 : Bool × Int × (List (Int × (List Int))) × (List Int) → Option ((List Int) × Int)) (c341 : List Int → Option ((Bool × Int × (List (Int × (List Int))) × (List Int)) × Int)) (c343 : List Int → Option (Int × Int)) (c346 : List Int → Option (Bool × Int × (List (Int × (List Int))) × (List Int))) (c302 : Bool × Int × (List (Int × (List Int))) × (List Int) → Bool × Int × (List (Int × (List Int))) × (List Int) → Option Bool) (c323 : Bool × Int × (List (Int × (List Int))) × (List Int) → Option Int) : Nat → Option Ent
  | 316 => some (en316 c316)
  | 317 => some (en317 c317)
  | 341 => some (en341 c341)
  | 343 => some (en343 c343)
  | 346 => some (en346 c346)
  | 302 => some (en302 c302)
  | 323 => some (en323 c323)
  | _ => none
def W338 (c316 : Int → List (Int × (List Int)) → Option (Bool × Int × (List (Int × (List Int))) × (List Int))) (c317 : Bool × Int × (List (Int × (List Int))) × (List Int) → Option ((List Int) × Int)) (c341 : List Int → Option ((Bool × Int × (List (Int × (List Int))) × (List Int)) × Int)) (c343 : List Int → Option (Int × Int)) (c346 : List Int → Option (Bool × Int × (List (Int × (List Int))) × (List Int))) (c302 : Bool × Int × (List (Int × (List Int))) × (List Int) → Bool × Int × (List (Int × (List Int))) × (List Int) → Option Bool) (c323 : Bool × Int × (List (Int × (List Int))) × (List Int) → Option Int) (N : Nat) : LoopF (Sh.bool).T := fun no =>
  match no with
  | _ => fun _ _ => none
theorem e338 (c316 : Int → List (Int × (List Int)) → Option (Bool × Int × (List (Int × (List Int))) × (List Int))) (c317 : Bool × Int × (List (Int × (List Int))) × (List Int) → Option ((List Int) × Int)) (c341 : List Int → Option ((Bool × Int × (List (Int × (List Int))) × (List Int)) × Int)) (c343 : List Int → Option (Int × Int)) (c346 : List Int → Option (Bool × Int × (List (Int × (List Int))) × (List Int))) (c302 : Bool × Int × (List (Int × (List Int))) × (List Int) → Bool × Int × (List (Int × (List Int))) × (List Int) → Option Bool) (c323 : Bool × Int × (List (Int × (List Int))) × (List Int) → Option Int) (N : Nat)  : evc (T338 c316 c317 c341 c343 c346 c302 c323) (rawOf RW0) (W338 c316 c317 c341 c343 c346 c302 c323 N) (retc k338.res Sh.bool) (modeOf FT) 0 fuelC k338.body (env0 k338 (encL [] ()), []) (endK (retc k338.res Sh.bool)) = p338 c316 c317 c341 c343 c346 c302 c323 N  := by kernel_rfl
theorem ok338 (c316 : Int → List (Int × (List Int)) → Option (Bool × Int × (List (Int × (List Int))) × (List Int))) (c317 : Bool × Int × (List (Int × (List Int))) × (List Int) → Option ((List Int) × Int)) (c341 : List Int → Option ((Bool × Int × (List (Int × (List Int))) × (List Int)) × Int)) (c343 : List Int → Option (Int × Int)) (c346 : List Int → Option (Bool × Int × (List (Int × (List Int))) × (List Int))) (c302 : Bool × Int × (List (Int × (List Int))) × (List Int) → Bool × Int × (List (Int × (List Int))) × (List Int) → Option Bool) (c323 : Bool × Int × (List (Int × (List Int))) × (List Int) → Option Int) (h316 : EntOK FT XT 316 (en316 c316)) (h317 : EntOK FT XT 317 (en317 c317)) (h341 : EntOK FT XT 341 (en341 c341)) (h343 : EntOK FT XT 343 (en343 c343)) (h346 : EntOK FT XT 346 (en346 c346)) (h302 : EntOK FT XT 302 (en302 c302)) (h323 : EntOK FT XT 323 (en323 c323)) {f : Option Bool} (hf : ∀  r, f  = some r → ∃ N, p338 c316 c317 c341 c343 c346 c302 c323 N  = some r) : EntOK FT XT 338 (en338 f) := by
  have hT : TabOK FT XT (T338 c316 c317 c341 c343 c346 c302 c323) := by
    intro g en hg
    unfold T338 at hg
    split at hg <;> first | (injection hg with hg; subst hg; assumption) | cases hg
  have hO0 : RawOK FT XT (rawOf (α := (Sh.bool).T) RW0) := rawOK0
  have hO : RawOK FT XT (rawOf (α := (Sh.bool).T) RW0) := hO0
  refine ⟨rfl, fun v r h => ?_⟩
  obtain ⟨N, h1⟩ := hf _ h
  exact ans_c (R := Sh.bool) (tab := T338 c316 c317 c341 c343 c346 c302 c323) (raw := (rawOf RW0)) (LP := W338 c316 c317 c341 c343 c346 c302 c323 N) (fu := fuelC) hT hO rfl rfl (Nat.le_of_ble_eq_true rfl) loopOK_nil ((e338 c316 c317 c341 c343 c346 c302 c323 N ).trans h1)

def T339 : Nat → Option Ent
  | _ => none
def H339_0 : Trim := ⟨0, [], false, [2, 3, 14, 15, 16], [(3, (.imm []), 2002)]⟩
theorem l339_0 : loopN k339 0 = .loop H339_0 (bodyOf (loopN k339 0)) := by kernel_rfl
def P339_0 : Ps := ⟨[(0, .u), (1, .u), (2, (.ptr 0 0)), (3, (.ptr 1 0)), (5, .u), (14, (.tb (Sh.pr (Sh.int .u8) (Sh.sl (Sh.int .u8))))), (15, (.int .i64)), (16, (.int .i64)), (17, .u)], [(.vals false (.cons .bool (.cons (.int .u16) (.cons .nils (.cons .nils .nil))))), (.vals false (.cons .bool (.cons (.int .u16) (.cons (.sl 2 2) (.cons (.tb (Sh.int .u8)) .nil))))), (.imm false)]⟩
def Q339_0 : Nat → Ps
  | 0 => ⟨[(0, .u), (1, .u), (2, (.ptr 0 0)), (3, (.ptr 1 0)), (5, .u), (14, .u), (15, .u), (16, .u), (17, .u)], [(.vals false (.cons .bool (.cons (.int .u16) (.cons .nils (.cons .nils .nil))))), (.vals false (.cons .bool (.cons (.int .u16) (.cons (.sl 2 2) (.cons (.tb (Sh.int .u8)) .nil))))), (.imm false)]⟩
  | _ => noPs
def u339_0 (N n : Nat) (v : P339_0.T) (κ : (i : Nat) → (Q339_0 i).T → Option (((Sh.st (Sh.pr Sh.bool (Sh.pr (Sh.int .u16) (Sh.pr (Sh.sl (Sh.pr (Sh.int .u8) (Sh.sl (Sh.int .u8)))) (Sh.sl (Sh.int .u8))))))).T)) : Option (((Sh.st (Sh.pr Sh.bool (Sh.pr (Sh.int .u16) (Sh.pr (Sh.sl (Sh.pr (Sh.int .u8) (Sh.sl (Sh.int .u8)))) (Sh.sl (Sh.int .u8))))))).T) :=
  L339_0 N (fun (y0 : Bool) (y1 : Int) (y2 : Bool) (y3 : Int) (y4 : Nat) (y5 : List Int) (y6 : List V) => κ 0 (((), ((), ((), ((), ((), ((), ((), ((), ((), ()))))))))), ((y0, (y1, ((), ((), ())))), ((y2, (y3, (y4, (y5, ())))), (y6, ()))))) n v.1.2.2.2.2.2.1 v.1.2.2.2.2.2.2.1 v.1.2.2.2.2.2.2.2.1 v.2.1.1 v.2.1.2.1 v.2.2.1.1 v.2.2.1.2.1 v.2.2.1.2.2.1 v.2.2.1.2.2.2.1 v.2.2.2.1
def W339_0 (N : Nat) : LoopF (((Sh.st (Sh.pr Sh.bool (Sh.pr (Sh.int .u16) (Sh.pr (Sh.sl (Sh.pr (Sh.int .u8) (Sh.sl (Sh.int .u8)))) (Sh.sl (Sh.int .u8))))))).T) := fun no =>
  match no with
  | _ => fun _ _ => none
theorem b339_0 (N n : Nat) (v : P339_0.T) (κ : (i : Nat) → (Q339_0 i).T → Option (((Sh.st (Sh.pr Sh.bool (Sh.pr (Sh.int .u16) (Sh.pr (Sh.sl (Sh.pr (Sh.int .u8) (Sh.sl (Sh.int .u8)))) (Sh.sl (Sh.int .u8))))))).T)) :
    evc (T339) (rawOf RW0) (W339_0 N) (retc k339.res (Sh.st (Sh.pr Sh.bool (Sh.pr (Sh.int .u16) (Sh.pr (Sh.sl (Sh.pr (Sh.int .u8) (Sh.sl (Sh.int .u8)))) (Sh.sl (Sh.int .u8))))))) (modeOf FT) 0 fuelC (bodyOf (loopN k339 0)) (P339_0.st v) (roundK 0 H339_0 P339_0 Q339_0 (u339_0 N n) κ) = u339_0 N (n + 1) v κ := by kernel_rfl
theorem o339_0 (hT : TabOK FT XT (T339)) (hO : RawOK FT XT (rawOf (α := ((Sh.st (Sh.pr Sh.bool (Sh.pr (Sh.int .u16) (Sh.pr (Sh.sl (Sh.pr (Sh.int .u8) (Sh.sl (Sh.int .u8)))) (Sh.sl (Sh.int .u8))))))).T) RW0)) (N : Nat) {s : St} {κ : Ex → St → Option (((Sh.st (Sh.pr Sh.bool (Sh.pr (Sh.int .u16) (Sh.pr (Sh.sl (Sh.pr (Sh.int .u8) (Sh.sl (Sh.int .u8)))) (Sh.sl (Sh.int .u8))))))).T)} {a : ((Sh.st (Sh.pr Sh.bool (Sh.pr (Sh.int .u16) (Sh.pr (Sh.sl (Sh.pr (Sh.int .u8) (Sh.sl (Sh.int .u8)))) (Sh.sl (Sh.int .u8))))))).T} (h : lpOf 0 H339_0 P339_0 Q339_0 (u339_0 N N) s κ = some a) : Out FT XT 0 (retc k339.res (Sh.st (Sh.pr Sh.bool (Sh.pr (Sh.int .u16) (Sh.pr (Sh.sl (Sh.pr (Sh.int .u8) (Sh.sl (Sh.int .u8)))) (Sh.sl (Sh.int .u8))))))) (loopN k339 0) s κ a := by
  rw [l339_0]
  exact loop_out (LP := W339_0 N) (fu := fuelC) hT hO (fun _ _ => rfl) (b339_0 N) loopOK_nil N h
def W339 (N : Nat) : LoopF (((Sh.st (Sh.pr Sh.bool (Sh.pr (Sh.int .u16) (Sh.pr (Sh.sl (Sh.pr (Sh.int .u8) (Sh.sl (Sh.int .u8)))) (Sh.sl (Sh.int .u8))))))).T) := fun no =>
  match no with
  | 0 => lpOf 0 H339_0 P339_0 Q339_0 (u339_0 N N)
  | _ => fun _ _ => none
theorem e339 (N : Nat) (a0 : Bool × Int × (List (Int × (List Int))) × (List Int)) : evc (T339) (rawOf RW0) (W339 N) (retc k339.res (Sh.st (Sh.pr Sh.bool (Sh.pr (Sh.int .u16) (Sh.pr (Sh.sl (Sh.pr (Sh.int .u8) (Sh.sl (Sh.int .u8)))) (Sh.sl (Sh.int .u8))))))) (modeOf FT) 0 fuelC k339.body (env0 k339 (encL [(Sh.st (Sh.pr Sh.bool (Sh.pr (Sh.int .u16) (Sh.pr (Sh.sl (Sh.pr (Sh.int .u8) (Sh.sl (Sh.int .u8)))) (Sh.sl (Sh.int .u8))))))] (a0, ())), []) (endK (retc k339.res (Sh.st (Sh.pr Sh.bool (Sh.pr (Sh.int .u16) (Sh.pr (Sh.sl (Sh.pr (Sh.int .u8) (Sh.sl (Sh.int .u8)))) (Sh.sl (Sh.int .u8)))))))) = p339 N a0 := by kernel_rfl
theorem ok339 {f : Bool × Int × (List (Int × (List Int))) × (List Int) → Option (Bool × Int × (List (Int × (List Int))) × (List Int))} (hf : ∀ a0 r, f a0 = some r → ∃ N, p339 N a0 = some r) : EntOK FT XT 339 (en339 f) := by
  have hT : TabOK FT XT (T339) := by
    intro g en hg
    unfold T339 at hg
    split at hg <;> first | (injection hg with hg; subst hg; assumption) | cases hg
  have hO0 : RawOK FT XT (rawOf (α := ((Sh.st (Sh.pr Sh.bool (Sh.pr (Sh.int .u16) (Sh.pr (Sh.sl (Sh.pr (Sh.int .u8) (Sh.sl (Sh.int .u8)))) (Sh.sl (Sh.int .u8))))))).T) RW0) := rawOK0
  have hO : RawOK FT XT (rawOf (α := ((Sh.st (Sh.pr Sh.bool (Sh.pr (Sh.int .u16) (Sh.pr (Sh.sl (Sh.pr (Sh.int .u8) (Sh.sl (Sh.int .u8)))) (Sh.sl (Sh.int .u8))))))).T) RW0) := hO0
  refine ⟨rfl, fun v r h => ?_⟩
  obtain ⟨a0, _⟩ := v
  obtain ⟨N, h1⟩ := hf _ _ h
  exact ans_c (R := (Sh.st (Sh.pr Sh.bool (Sh.pr (Sh.int .u16) (Sh.pr (Sh.sl (Sh.pr (Sh.int .u8) (Sh.sl (Sh.int .u8)))) (Sh.sl (Sh.int .u8))))))) (tab := T339) (raw := (rawOf RW0)) (LP := W339 N) (fu := fuelC) hT hO rfl rfl (Nat.le_of_ble_eq_true rfl) (loopOK_cons l339_0 (fun s κ a h => o339_0 hT hO N h) loopOK_nil) ((e339 N _).trans h1)

def T363 : Nat → Option Ent
  | _ => none
def H363_0 : Trim := ⟨0, [], false, [0, 1, 5], []⟩
theorem l363_0 : loopN k363 0 = .loop H363_0 (bodyOf (loopN k363 0)) := by kernel_rfl
def P363_0 : Ps := ⟨[(0, (.tb (Sh.pr (Sh.int .u8) (Sh.sl (Sh.int .u8))))), (1, (.tb (Sh.int .u8))), (4, .u), (5, (.int .i64)), (10, .u), (14, .u), (26, .u)], []⟩
def Q363_0 : Nat → Ps
  | 0 => ⟨[(0, .u), (1, .u), (4, .u), (5, .u), (10, .u), (14, .u), (26, .u)], []⟩
  | _ => noPs
def u363_0 (N n : Nat) (v : P363_0.T) (κ : (i : Nat) → (Q363_0 i).T → Option (Sh.bool).T) : Option (Sh.bool).T :=
  L363_0 N (κ 0 (((), ((), ((), ((), ((), ((), ((), ()))))))), ())) n v.1.1 v.1.2.1 v.1.2.2.2.1
def W363_0 (N : Nat) : LoopF (Sh.bool).T := fun no =>
  match no with
  | _ => fun _ _ => none
theorem b363_0 (N n : Nat) (v : P363_0.T) (κ : (i : Nat) → (Q363_0 i).T → Option (Sh.bool).T) :
    evc (T363) (rawOf RW0) (W363_0 N) (retc k363.res Sh.bool) (modeOf FT) 0 fuelC (bodyOf (loopN k363 0)) (P363_0.st v) (roundK 0 H363_0 P363_0 Q363_0 (u363_0 N n) κ) = u363_0 N (n + 1) v κ := by kernel_rfl
theorem o363_0 (hT : TabOK FT XT (T363)) (hO : RawOK FT XT (rawOf (α := (Sh.bool).T) RW0)) (N : Nat) {s : St} {κ : Ex → St → Option (Sh.bool).T} {a : (Sh.bool).T} (h : lpOf 0 H363_0 P363_0 Q363_0 (u363_0 N N) s κ = some a) : Out FT XT 0 (retc k363.res Sh.bool) (loopN k363 0) s κ a := by
  rw [l363_0]
  exact loop_out (LP := W363_0 N) (fu := fuelC) hT hO (fun _ _ => rfl) (b363_0 N) loopOK_nil N h
def W363 (N : Nat) : LoopF (Sh.bool).T := fun no =>
  match no with
  | 0 => lpOf 0 H363_0 P363_0 Q363_0 (u363_0 N N)
  | _ => fun _ _ => none
theorem e363 (N : Nat) (a0 : List (Int × (List Int))) (a1 : List Int) : evc (T363) (rawOf RW0) (W363 N) (retc k363.res Sh.bool) (modeOf FT) 0 fuelC k363.body (env0 k363 (encL [(Sh.sl (Sh.pr (Sh.int .u8) (Sh.sl (Sh.int .u8)))), (Sh.sl (Sh.int .u8))] (a0, (a1, ()))), []) (endK (retc k363.res Sh.bool)) = p363 N a0 a1 := by kernel_rfl
theorem ok363 {f : List (Int × (List Int)) → List Int → Option Bool} (hf : ∀ a0 a1 r, f a0 a1 = some r → ∃ N, p363 N a0 a1 = some r) : EntOK FT XT 363 (en363 f) := by
  have hT : TabOK FT XT (T363) := by
    intro g en hg
    unfold T363 at hg
    split at hg <;> first | (injection hg with hg; subst hg; assumption) | cases hg
  have hO0 : RawOK FT XT (rawOf (α := (Sh.bool).T) RW0) := rawOK0
  have hO : RawOK FT XT (rawOf (α := (Sh.bool).T) RW0) := hO0
  refine ⟨rfl, fun v r h => ?_⟩
  obtain ⟨a0, a1, _⟩ := v
  obtain ⟨N, h1⟩ := hf _ _ _ h
  exact ans_c (R := Sh.bool) (tab := T363) (raw := (rawOf RW0)) (LP := W363 N) (fu := fuelC) hT hO rfl rfl (Nat.le_of_ble_eq_true rfl) (loopOK_cons l363_0 (fun s κ a h => o363_0 hT hO N h) loopOK_nil) ((e363 N _ _).trans h1)

def T358 (c363 : List (Int × (List Int)) → List Int → Option Bool) : Nat → Option Ent
  | 363 => some (en363 c363)
  | _ => none
def W358 (c363 : List (Int × (List Int)) → List Int → Option Bool) (N : Nat) : LoopF (Sh.bool).T := fun no =>
  match no with
  | _ => fun _ _ => none
theorem e358 (c363 : List (Int × (List Int)) → List Int → Option Bool) (N : Nat) (a0 : Bool × Int × (List (Int × (List Int))) × (List Int)) : evc (T358 c363) (rawOf RW0) (W358 c363 N) (retc k358.res Sh.bool) (modeOf FT) 0 fuelC k358.body (env0 k358 (encL [(Sh.st (Sh.pr Sh.bool (Sh.pr (Sh.int .u16) (Sh.pr (Sh.sl (Sh.pr (Sh.int .u8) (Sh.sl (Sh.int .u8)))) (Sh.sl (Sh.int .u8))))))] (a0, ())), []) (endK (retc k358.res Sh.bool)) = p358 c363 N a0 := by kernel_rfl
theorem ok358 (c363 : List (Int × (List Int)) → List Int → Option Bool) (h363 : EntOK FT XT 363 (en363 c363)) {f : Bool × Int × (List (Int × (List Int))) × (List Int) → Option Bool} (hf : ∀ a0 r, f a0 = some r → ∃ N, p358 c363 N a0 = some r) : EntOK FT XT 358 (en358 f) := by
  have hT : TabOK FT XT (T358 c363) := by
    intro g en hg
    unfold T358 at hg
    split at hg <;> first | (injection hg with hg; subst hg; assumption) | cases hg
  have hO0 : RawOK FT XT (rawOf (α := (Sh.bool).T) RW0) := rawOK0
  have hO : RawOK FT XT (rawOf (α := (Sh.bool).T) RW0) := hO0
  refine ⟨rfl, fun v r h => ?_⟩
  obtain ⟨a0, _⟩ := v
  obtain ⟨N, h1⟩ := hf _ _ h
  exact ans_c (R := Sh.bool) (tab := T358 c363) (raw := (rawOf RW0)) (LP := W358 c363 N) (fu := fuelC) hT hO rfl rfl (Nat.le_of_ble_eq_true rfl) loopOK_nil ((e358 c363 N _).trans h1)

def T340 (c358 : Bool × Int × (List (Int × (List Int))) × (List Int) → Option Bool) (c146 : Int × (List Int) → Option Int) : Nat → Option Ent
  | 358 => some (en358 c358)
  | 146 => some (en146 c146)
  | _ => none
def H340_0 : Trim := ⟨0, [], false, [1, 3], []⟩
theorem l340_0 : loopN k340 0 = .loop H340_0 (bodyOf (loopN k340 0)) := by kernel_rfl
def P340_0 : Ps := ⟨[(0, .u), (1, (.ptr 0 0)), (2, .u), (3, (.int .i64)), (4, .u), (7, .u), (15, .u), (18, .u), (23, .u), (33, .u)], [(.vals false (.cons .bool (.cons (.int .u16) (.cons (.tb (Sh.pr (Sh.int .u8) (Sh.sl (Sh.int .u8)))) (.cons (.tb (Sh.int .u8)) .nil)))))]⟩
def Q340_0 : Nat → Ps
  | 0 => ⟨[(0, .u), (1, .u), (2, .u), (3, .u), (4, .u), (7, .u), (15, .u), (18, .u), (23, .u), (33, .u)], []⟩
  | _ => noPs
def u340_0 (c358 : Bool × Int × (List (Int × (List Int))) × (List Int) → Option Bool) (c146 : Int × (List Int) → Option Int) (N n : Nat) (v : P340_0.T) (κ : (i : Nat) → (Q340_0 i).T → Option (((Sh.int .i64)).T)) : Option (((Sh.int .i64)).T) :=
  L340_0 c358 c146 N (κ 0 (((), ((), ((), ((), ((), ((), ((), ((), ((), ((), ())))))))))), ())) n v.1.2.2.2.1 v.2.1.1 v.2.1.2.1 v.2.1.2.2.1 v.2.1.2.2.2.1
def W340_0 (c358 : Bool × Int × (List (Int × (List Int))) × (List Int) → Option Bool) (c146 : Int × (List Int) → Option Int) (N : Nat) : LoopF (((Sh.int .i64)).T) := fun no =>
  match no with
  | _ => fun _ _ => none
theorem b340_0 (c358 : Bool × Int × (List (Int × (List Int))) × (List Int) → Option Bool) (c146 : Int × (List Int) → Option Int) (N n : Nat) (v : P340_0.T) (κ : (i : Nat) → (Q340_0 i).T → Option (((Sh.int .i64)).T)) :
    evc (T340 c358 c146) (rawOf RW0) (W340_0 c358 c146 N) (retc k340.res (Sh.int .i64)) (modeOf FT) 0 fuelC (bodyOf (loopN k340 0)) (P340_0.st v) (roundK 0 H340_0 P340_0 Q340_0 (u340_0 c358 c146 N n) κ) = u340_0 c358 c146 N (n + 1) v κ := by kernel_rfl
theorem o340_0 (c358 : Bool × Int × (List (Int × (List Int))) × (List Int) → Option Bool) (c146 : Int × (List Int) → Option Int) (hT : TabOK FT XT (T340 c358 c146)) (hO : RawOK FT XT (rawOf (α := ((Sh.int .i64)).T) RW0)) (N : Nat) {s : St} {κ : Ex → St → Option (((Sh.int .i64)).T)} {a : ((Sh.int .i64)).T} (h : lpOf 0 H340_0 P340_0 Q340_0 (u340_0 c358 c146 N N) s κ = some a) : Out FT XT 0 (retc k340.res (Sh.int .i64)) (loopN k340 0) s κ a := by
  rw [l340_0]
  exact loop_out (LP := W340_0 c358 c146 N) (fu := fuelC) hT hO (fun _ _ => rfl) (b340_0 c358 c146 N) loopOK_nil N h
def W340 (c358 : Bool × Int × (List (Int × (List Int))) × (List Int) → Option Bool) (c146 : Int × (List Int) → Option Int) (N : Nat) : LoopF (((Sh.int .i64)).T) := fun no =>
  match no with
  | 0 => lpOf 0 H340_0 P340_0 Q340_0 (u340_0 c358 c146 N N)
  | _ => fun _ _ => none
theorem e340 (c358 : Bool × Int × (List (Int × (List Int))) × (List Int) → Option Bool) (c146 : Int × (List Int) → Option Int) (N : Nat) (a0 : Bool × Int × (List (Int × (List Int))) × (List Int)) : evc (T340 c358 c146) (rawOf RW0) (W340 c358 c146 N) (retc k340.res (Sh.int .i64)) (modeOf FT) 0 fuelC k340.body (env0 k340 (encL [(Sh.st (Sh.pr Sh.bool (Sh.pr (Sh.int .u16) (Sh.pr (Sh.sl (Sh.pr (Sh.int .u8) (Sh.sl (Sh.int .u8)))) (Sh.sl (Sh.int .u8))))))] (a0, ())), []) (endK (retc k340.res (Sh.int .i64))) = p340 c358 c146 N a0 := by kernel_rfl
theorem ok340 (c358 : Bool × Int × (List (Int × (List Int))) × (List Int) → Option Bool) (c146 : Int × (List Int) → Option Int) (h358 : EntOK FT XT 358 (en358 c358)) (h146 : EntOK FT XT 146 (en146 c146)) {f : Bool × Int × (List (Int × (List Int))) × (List Int) → Option Int} (hf : ∀ a0 r, f a0 = some r → ∃ N, p340 c358 c146 N a0 = some r) : EntOK FT XT 340 (en340 f) := by
  have hT : TabOK FT XT (T340 c358 c146) := by
    intro g en hg
    unfold T340 at hg
    split at hg <;> first | (injection hg with hg; subst hg; assumption) | cases hg
  have hO0 : RawOK FT XT (rawOf (α := ((Sh.int .i64)).T) RW0) := rawOK0
  have hO : RawOK FT XT (rawOf (α := ((Sh.int .i64)).T) RW0) := hO0
  refine ⟨rfl, fun v r h => ?_⟩
  obtain ⟨a0, _⟩ := v
  obtain ⟨N, h1⟩ := hf _ _ h
  exact ans_c (R := (Sh.int .i64)) (tab := T340 c358 c146) (raw := (rawOf RW0)) (LP := W340 c358 c146 N) (fu := fuelC) hT hO rfl rfl (Nat.le_of_ble_eq_true rfl) (loopOK_cons l340_0 (fun s κ a h => o340_0 c358 c146 hT hO N h) loopOK_nil) ((e340 c358 c146 N _).trans h1)

def T328 (c337 : Bool × Int × (List (Int × (List Int))) × (List Int) → Option Bool) (c338 : Option Bool) (c339 : Bool × Int × (List (Int × (List Int))) × (List Int) → Option (Bool × Int × (List (Int × (List Int))) × (List Int))) (c317 : Bool × Int × (List (Int × (List Int))) × (List Int) → Option ((List Int) × Int)) (c319 : Bool × Int × (List (Int × (List Int))) × (List Int) → Option ((List Int) × Int)) (c23 : List Int → List Int → Option Bool) (c323 : Bool × Int × (List (Int × (List Int))) × (List Int) → Option Int) (c340 : Bool × Int × (List (Int × (List Int))) × (List Int) → Option Int) : Nat → Option Ent
  | 337 => some (en337 c337)
  | 338 => some (en338 c338)
  | 339 => some (en339 c339)
  | 317 => some (en317 c317)
  | 319 => some (en319 c319)
  | 23 => some (en23 c23)
  | 323 => some (en323 c323)
  | 340 => some (en340 c340)
  | _ => none
def W328 (c337 : Bool × Int × (List (Int × (List Int))) × (List Int) → Option Bool) (c338 : Option Bool) (c339 : Bool × Int × (List (Int × (List Int))) × (List Int) → Option (Bool × Int × (List (Int × (List Int))) × (List Int))) (c317 : Bool × Int × (List (Int × (List Int))) × (List Int) → Option ((List Int) × Int)) (c319 : Bool × Int × (List (Int × (List Int))) × (List Int) → Option ((List Int) × Int)) (c23 : List Int → List Int → Option Bool) (c323 : Bool × Int × (List (Int × (List Int))) × (List Int) → Option Int) (c340 : Bool × Int × (List (Int × (List Int))) × (List Int) → Option Int) (N : Nat) : LoopF (Sh.bool).T := fun no =>
  match no with
  | _ => fun _ _ => none
theorem e328 (c337 : Bool × Int × (List (Int × (List Int))) × (List Int) → Option Bool) (c338 : Option Bool) (c339 : Bool × Int × (List (Int × (List Int))) × (List Int) → Option (Bool × Int × (List (Int × (List Int))) × (List Int))) (c317 : Bool × Int × (List (Int × (List Int))) × (List Int) → Option ((List Int) × Int)) (c319 : Bool × Int × (List (Int × (List Int))) × (List Int) → Option ((List Int) × Int)) (c23 : List Int → List Int → Option Bool) (c323 : Bool × Int × (List (Int × (List Int))) × (List Int) → Option Int) (c340 : Bool × Int × (List (Int × (List Int))) × (List Int) → Option Int) (N : Nat) (a0 : Bool × Int × (List (Int × (List Int))) × (List Int)) : evc (T328 c337 c338 c339 c317 c319 c23 c323 c340) (rawOf RW0) (W328 c337 c338 c339 c317 c319 c23 c323 c340 N) (retc k328.res Sh.bool) (modeOf FT) 0 fuelC k328.body (env0 k328 (encL [(Sh.st (Sh.pr Sh.bool (Sh.pr (Sh.int .u16) (Sh.pr (Sh.sl (Sh.pr (Sh.int .u8) (Sh.sl (Sh.int .u8)))) (Sh.sl (Sh.int .u8))))))] (a0, ())), []) (endK (retc k328.res Sh.bool)) = p328 c337 c338 c339 c317 c319 c23 c323 c340 N a0 := by kernel_rfl
theorem ok328 (c337 : Bool × Int × (List (Int × (List Int))) × (List Int) → Option Bool) (c338 : Option Bool) (c339 : Bool × Int × (List (Int × (List Int))) × (List Int) → Option (Bool × Int × (List (Int × (List Int))) × (List Int))) (c317 : Bool × Int × (List (Int × (List Int))) × (List Int) → Option ((List Int) × Int)) (c319 : Bool × Int × (List (Int × (List Int))) × (List Int) → Option ((List Int) × Int)) (c23 : List Int → List Int → Option Bool) (c323 : Bool × Int × (List (Int × (List Int))) × (List Int) → Option Int) (c340 : Bool × Int × (List (Int × (List Int))) × (List Int) → Option Int) (h337 : EntOK FT XT 337 (en337 c337)) (h338 : EntOK FT XT 338 (en338 c338)) (h339 : EntOK FT XT 339 (en339 c339)) (h317 : EntOK FT XT 317 (en317 c317)) (h319 : EntOK FT XT 319 (en319 c319)) (h23 : EntOK FT XT 23 (en23 c23)) (h323 : EntOK FT XT 323 (en323 c323)) (h340 : EntOK FT XT 340 (en340 c340)) {f : Bool × Int × (List (Int × (List Int))) × (List Int) → Option Bool} (hf : ∀ a0 r, f a0 = some r → ∃ N, p328 c337 c338 c339 c317 c319 c23 c323 c340 N a0 = some r) : EntOK FT XT 328 (en328 f) := by
  have hT : TabOK FT XT (T328 c337 c338 c339 c317 c319 c23 c323 c340) := by
    intro g en hg
    unfold T328 at hg
    split at hg <;> first | (injection hg with hg; subst hg; assumption) | cases hg
  have hO0 : RawOK FT XT (rawOf (α := (Sh.bool).T) RW0) := rawOK0
  have hO : RawOK FT XT (rawOf (α := (Sh.bool).T) RW0) := hO0
  refine ⟨rfl, fun v r h => ?_⟩
  obtain ⟨a0, _⟩ := v
  obtain ⟨N, h1⟩ := hf _ _ h
  exact ans_c (R := Sh.bool) (tab := T328 c337 c338 c339 c317 c319 c23 c323 c340) (raw := (rawOf RW0)) (LP := W328 c337 c338 c339 c317 c319 c23 c323 c340 N) (fu := fuelC) hT hO rfl rfl (Nat.le_of_ble_eq_true rfl) loopOK_nil ((e328 c337 c338 c339 c317 c319 c23 c323 c340 N _).trans h1)

def T344 (c51 : List Int → Option Int) : Nat → Option Ent
  | 51 => some (en51 c51)
  | _ => none
def W344 (c51 : List Int → Option Int) (N : Nat) : LoopF (((Sh.tu (Sh.pr (Sh.int .i64) (Sh.int .i64)))).T) := fun no =>
  match no with
  | _ => fun _ _ => none
theorem e344 (c51 : List Int → Option Int) (N : Nat) (a0 : List Int) : evc (T344 c51) (rawOf RW0) (W344 c51 N) (retc k344.res (Sh.tu (Sh.pr (Sh.int .i64) (Sh.int .i64)))) (modeOf FT) 0 fuelC k344.body (env0 k344 (encL [(Sh.sl (Sh.int .u8))] (a0, ())), []) (endK (retc k344.res (Sh.tu (Sh.pr (Sh.int .i64) (Sh.int .i64))))) = p344 c51 N a0 := by kernel_rfl
theorem ok344 (c51 : List Int → Option Int) (h51 : EntOK FT XT 51 (en51 c51)) {f : List Int → Option (Int × Int)} (hf : ∀ a0 r, f a0 = some r → ∃ N, p344 c51 N a0 = some r) : EntOK FT XT 344 (en344 f) := by
  have hT : TabOK FT XT (T344 c51) := by
    intro g en hg
    unfold T344 at hg
    split at hg <;> first | (injection hg with hg; subst hg; assumption) | cases hg
  have hO0 : RawOK FT XT (rawOf (α := ((Sh.tu (Sh.pr (Sh.int .i64) (Sh.int .i64)))).T) RW0) := rawOK0
  have hO : RawOK FT XT (rawOf (α := ((Sh.tu (Sh.pr (Sh.int .i64) (Sh.int .i64)))).T) RW0) := hO0
  refine ⟨rfl, fun v r h => ?_⟩
  obtain ⟨a0, _⟩ := v
  obtain ⟨N, h1⟩ := hf _ _ h
  exact ans_c (R := (Sh.tu (Sh.pr (Sh.int .i64) (Sh.int .i64)))) (tab := T344 c51) (raw := (rawOf RW0)) (LP := W344 c51 N) (fu := fuelC) hT hO rfl rfl (Nat.le_of_ble_eq_true rfl) loopOK_nil ((e344 c51 N _).trans h1)

def T342 (c344 : List Int → Option (Int × Int)) (c51 : List Int → Option Int) (c143 : List Int → Option ((Int × (List Int)) × Int × Int)) : Nat → Option Ent
  | 344 => some (en344 c344)
  | 51 => some (en51 c51)
  | 143 => some (en143 c143)
  | _ => none
def H342_0 : Trim := ⟨0, [], false, [2, 6, 7, 8, 9], [(7, (.imm []), 2002)]⟩
theorem l342_0 : loopN k342 0 = .loop H342_0 (bodyOf (loopN k342 0)) := by kernel_rfl
def P342_0 : Ps := ⟨[(0, .u), (2, (.ptr 0 0)), (3, .u), (4, .u), (5, .u), (6, (.int .i64)), (7, (.ptr 1 0)), (8, (.tb (Sh.int .u8))), (9, (.int .i64)), (10, .u), (11, .u), (12, .u), (19, .u), (25, .u), (30, .u), (35, .u), (44, .u), (55, .u), (65, .u), (79, .u)], [(.vals false (.cons .bool (.cons (.int .u16) (.cons .nils (.cons .nils .nil))))), (.vals false (.cons .bool (.cons (.int .u16) (.cons (.sl 2 2) (.cons .nils .nil))))), (.imm false)]⟩
def Q342_0 : Nat → Ps
  | 0 => ⟨[(0, .u), (2, (.ptr 0 0)), (3, .u), (4, .u), (5, .u), (6, .u), (7, (.ptr 1 0)), (8, (.tb (Sh.int .u8))), (9, .u), (10, .u), (11, .u), (12, .u), (19, .u), (25, .u), (30, .u), (35, .u), (44, .u), (55, .u), (65, .u), (79, .u)], [(.vals false (.cons .bool (.cons (.int .u16) (.cons .nils (.cons .nils .nil))))), (.vals false (.cons .bool (.cons (.int .u16) (.cons (.sl 2 2) (.cons .nils .nil))))), (.imm false)]⟩
  | _ => noPs
def u342_0 (c344 : List Int → Option (Int × Int)) (c51 : List Int → Option Int) (c143 : List Int → Option ((Int × (List Int)) × Int × Int)) (N n : Nat) (v : P342_0.T) (κ : (i : Nat) → (Q342_0 i).T → Option (((Sh.tu (Sh.pr (Sh.st (Sh.pr Sh.bool (Sh.pr (Sh.int .u16) (Sh.pr (Sh.sl (Sh.pr (Sh.int .u8) (Sh.sl (Sh.int .u8)))) (Sh.sl (Sh.int .u8)))))) (Sh.int .i64)))).T)) : Option (((Sh.tu (Sh.pr (Sh.st (Sh.pr Sh.bool (Sh.pr (Sh.int .u16) (Sh.pr (Sh.sl (Sh.pr (Sh.int .u8) (Sh.sl (Sh.int .u8)))) (Sh.sl (Sh.int .u8)))))) (Sh.int .i64)))).T) :=
  L342_0 c344 c51 c143 N (fun (y0 : List Int) (y1 : Bool) (y2 : Int) (y3 : Bool) (y4 : Int) (y5 : Nat) (y6 : List V) => κ 0 (((), ((), ((), ((), ((), ((), ((), (y0, ((), ((), ((), ((), ((), ((), ((), ((), ((), ((), ((), ((), ())))))))))))))))))))), ((y1, (y2, ((), ((), ())))), ((y3, (y4, (y5, ((), ())))), (y6, ()))))) n v.1.2.2.2.2.2.1 v.1.2.2.2.2.2.2.2.1 v.1.2.2.2.2.2.2.2.2.1 v.2.1.1 v.2.1.2.1 v.2.2.1.1 v.2.2.1.2.1 v.2.2.1.2.2.1 v.2.2.2.1
def W342_0 (c344 : List Int → Option (Int × Int)) (c51 : List Int → Option Int) (c143 : List Int → Option ((Int × (List Int)) × Int × Int)) (N : Nat) : LoopF (((Sh.tu (Sh.pr (Sh.st (Sh.pr Sh.bool (Sh.pr (Sh.int .u16) (Sh.pr (Sh.sl (Sh.pr (Sh.int .u8) (Sh.sl (Sh.int .u8)))) (Sh.sl (Sh.int .u8)))))) (Sh.int .i64)))).T) := fun no =>
  match no with
  | _ => fun _ _ => none
theorem b342_0 (c344 : List Int → Option (Int × Int)) (c51 : List Int → Option Int) (c143 : List Int → Option ((Int × (List Int)) × Int × Int)) (N n : Nat) (v : P342_0.T) (κ : (i : Nat) → (Q342_0 i).T → Option (((Sh.tu (Sh.pr (Sh.st (Sh.pr Sh.bool (Sh.pr (Sh.int .u16) (Sh.pr (Sh.sl (Sh.pr (Sh.int .u8) (Sh.sl (Sh.int .u8)))) (Sh.sl (Sh.int .u8)))))) (Sh.int .i64)))).T)) :
    evc (T342 c344 c51 c143) (rawOf RW0) (W342_0 c344 c51 c143 N) (retc k342.res (Sh.tu (Sh.pr (Sh.st (Sh.pr Sh.bool (Sh.pr (Sh.int .u16) (Sh.pr (Sh.sl (Sh.pr (Sh.int .u8) (Sh.sl (Sh.int .u8)))) (Sh.sl (Sh.int .u8)))))) (Sh.int .i64)))) (modeOf FT) 0 fuelC (bodyOf (loopN k342 0)) (P342_0.st v) (roundK 0 H342_0 P342_0 Q342_0 (u342_0 c344 c51 c143 N n) κ) = u342_0 c344 c51 c143 N (n + 1) v κ := by kernel_rfl
theorem o342_0 (c344 : List Int → Option (Int × Int)) (c51 : List Int → Option Int) (c143 : List Int → Option ((Int × (List Int)) × Int × Int)) (hT : TabOK FT XT (T342 c344 c51 c143)) (hO : RawOK FT XT (rawOf (α := ((Sh.tu (Sh.pr (Sh.st (Sh.pr Sh.bool (Sh.pr (Sh.int .u16) (Sh.pr (Sh.sl (Sh.pr (Sh.int .u8) (Sh.sl (Sh.int .u8)))) (Sh.sl (Sh.int .u8)))))) (Sh.int .i64)))).T) RW0)) (N : Nat) {s : St} {κ : Ex → St → Option (((Sh.tu (Sh.pr (Sh.st (Sh.pr Sh.bool (Sh.pr (Sh.int .u16) (Sh.pr (Sh.sl (Sh.pr (Sh.int .u8) (Sh.sl (Sh.int .u8)))) (Sh.sl (Sh.int .u8)))))) (Sh.int .i64)))).T)} {a : ((Sh.tu (Sh.pr (Sh.st (Sh.pr Sh.bool (Sh.pr (Sh.int .u16) (Sh.pr (Sh.sl (Sh.pr (Sh.int .u8) (Sh.sl (Sh.int .u8)))) (Sh.sl (Sh.int .u8)))))) (Sh.int .i64)))).T} (h : lpOf 0 H342_0 P342_0 Q342_0 (u342_0 c344 c51 c143 N N) s κ = some a) : Out FT XT 0 (retc k342.res (Sh.tu (Sh.pr (Sh.st (Sh.pr Sh.bool (Sh.pr (Sh.int .u16) (Sh.pr (Sh.sl (Sh.pr (Sh.int .u8) (Sh.sl (Sh.int .u8)))) (Sh.sl (Sh.int .u8)))))) (Sh.int .i64)))) (loopN k342 0) s κ a := by
  rw [l342_0]
  exact loop_out (LP := W342_0 c344 c51 c143 N) (fu := fuelC) hT hO (fun _ _ => rfl) (b342_0 c344 c51 c143 N) loopOK_nil N h
def W342 (c344 : List Int → Option (Int × Int)) (c51 : List Int → Option Int) (c143 : List Int → Option ((Int × (List Int)) × Int × Int)) (N : Nat) : LoopF (((Sh.tu (Sh.pr (Sh.st (Sh.pr Sh.bool (Sh.pr (Sh.int .u16) (Sh.pr (Sh.sl (Sh.pr (Sh.int .u8) (Sh.sl (Sh.int .u8)))) (Sh.sl (Sh.int .u8)))))) (Sh.int .i64)))).T) := fun no =>
  match no with
  | 0 => lpOf 0 H342_0 P342_0 Q342_0 (u342_0 c344 c51 c143 N N)
  | _ => fun _ _ => none
theorem e342 (c344 : List Int → Option (Int × Int)) (c51 : List Int → Option Int) (c143 : List Int → Option ((Int × (List Int)) × Int × Int)) (N : Nat) (a0 : List Int) : evc (T342 c344 c51 c143) (rawOf RW0) (W342 c344 c51 c143 N) (retc k342.res (Sh.tu (Sh.pr (Sh.st (Sh.pr Sh.bool (Sh.pr (Sh.int .u16) (Sh.pr (Sh.sl (Sh.pr (Sh.int .u8) (Sh.sl (Sh.int .u8)))) (Sh.sl (Sh.int .u8)))))) (Sh.int .i64)))) (modeOf FT) 0 fuelC k342.body (env0 k342 (encL [(Sh.sl (Sh.int .u8))] (a0, ())), []) (endK (retc k342.res (Sh.tu (Sh.pr (Sh.st (Sh.pr Sh.bool (Sh.pr (Sh.int .u16) (Sh.pr (Sh.sl (Sh.pr (Sh.int .u8) (Sh.sl (Sh.int .u8)))) (Sh.sl (Sh.int .u8)))))) (Sh.int .i64))))) = p342 c344 c51 c143 N a0 := by kernel_rfl
theorem ok342 (c344 : List Int → Option (Int × Int)) (c51 : List Int → Option Int) (c143 : List Int → Option ((Int × (List Int)) × Int × Int)) (h344 : EntOK FT XT 344 (en344 c344)) (h51 : EntOK FT XT 51 (en51 c51)) (h143 : EntOK FT XT 143 (en143 c143)) {f : List Int → Option ((Bool × Int × (List (Int × (List Int))) × (List Int)) × Int)} (hf : ∀ a0 r, f a0 = some r → ∃ N, p342 c344 c51 c143 N a0 = some r) : EntOK FT XT 342 (en342 f) := by
  have hT : TabOK FT XT (T342 c344 c51 c143) := by
    intro g en hg
    unfold T342 at hg
    split at hg <;> first | (injection hg with hg; subst hg; assumption) | cases hg
  have hO0 : RawOK FT XT (rawOf (α := ((Sh.tu (Sh.pr (Sh.st (Sh.pr Sh.bool (Sh.pr (Sh.int .u16) (Sh.pr (Sh.sl (Sh.pr (Sh.int .u8) (Sh.sl (Sh.int .u8)))) (Sh.sl (Sh.int .u8)))))) (Sh.int .i64)))).T) RW0) := rawOK0
  have hO : RawOK FT XT (rawOf (α := ((Sh.tu (Sh.pr (Sh.st (Sh.pr Sh.bool (Sh.pr (Sh.int .u16) (Sh.pr (Sh.sl (Sh.pr (Sh.int .u8) (Sh.sl (Sh.int .u8)))) (Sh.sl (Sh.int .u8)))))) (Sh.int .i64)))).T) RW0) := hO0
  refine ⟨rfl, fun v r h => ?_⟩
  obtain ⟨a0, _⟩ := v
  obtain ⟨N, h1⟩ := hf _ _ h
  exact ans_c (R := (Sh.tu (Sh.pr (Sh.st (Sh.pr Sh.bool (Sh.pr (Sh.int .u16) (Sh.pr (Sh.sl (Sh.pr (Sh.int .u8) (Sh.sl (Sh.int .u8)))) (Sh.sl (Sh.int .u8)))))) (Sh.int .i64)))) (tab := T342 c344 c51 c143) (raw := (rawOf RW0)) (LP := W342 c344 c51 c143 N) (fu := fuelC) hT hO rfl rfl (Nat.le_of_ble_eq_true rfl) (loopOK_cons l342_0 (fun s κ a h => o342_0 c344 c51 c143 hT hO N h) loopOK_nil) ((e342 c344 c51 c143 N _).trans h1)

def T329 (c338 : Option Bool) (c341 : List Int → Option ((Bool × Int × (List (Int × (List Int))) × (List Int)) × Int)) (c342 : List Int → Option ((Bool × Int × (List (Int × (List Int))) × (List Int)) × Int)) (c343 : List Int → Option (Int × Int)) (c344 : List Int → Option (Int × Int)) (c339 : Bool × Int × (List (Int × (List Int))) × (List Int) → Option (Bool × Int × (List (Int × (List Int))) × (List Int))) (c302 : Bool × Int × (List (Int × (List Int))) × (List Int) → Bool × Int × (List (Int × (List Int))) × (List Int) → Option Bool) : Nat → Option Ent
  | 338 => some (en338 c338)
  | 341 => some (en341 c341)
  | 342 => some (en342 c342)
  | 343 => some (en343 c343)
  | 344 => some (en344 c344)
  | 339 => some (en339 c339)
  | 302 => some (en302 c302)
  | _ => none
def W329 (c338 : Option Bool) (c341 : List Int → Option ((Bool × Int × (List (Int × (List Int))) × (List Int)) × Int)) (c342 : List Int → Option ((Bool × Int × (List (Int × (List Int))) × (List Int)) × Int)) (c343 : List Int → Option (Int × Int)) (c344 : List Int → Option (Int × Int)) (c339 : Bool × Int × (List (Int × (List Int))) × (List Int) → Option (Bool × Int × (List (Int × (List Int))) × (List Int))) (c302 : Bool × Int × (List (Int × (List Int))) × (List Int) → Bool × Int × (List (Int × (List Int))) × (List Int) → Option Bool) (N : Nat) : LoopF (Sh.bool).T := fun no =>
  match no with
  | _ => fun _ _ => none
theorem e329 (c338 : Option Bool) (c341 : List Int → Option ((Bool × Int × (List (Int × (List Int))) × (List Int)) × Int)) (c342 : List Int → Option ((Bool × Int × (List (Int × (List Int))) × (List Int)) × Int)) (c343 : List Int → Option (Int × Int)) (c344 : List Int → Option (Int × Int)) (c339 : Bool × Int × (List (Int × (List Int))) × (List Int) → Option (Bool × Int × (List (Int × (List Int))) × (List Int))) (c302 : Bool × Int × (List (Int × (List Int))) × (List Int) → Bool × Int × (List (Int × (List Int))) × (List Int) → Option Bool) (N : Nat) (a0 : List Int) : evc (T329 c338 c341 c342 c343 c344 c339 c302) (rawOf RW0) (W329 c338 c341 c342 c343 c344 c339 c302 N) (retc k329.res Sh.bool) (modeOf FT) 0 fuelC k329.body (env0 k329 (encL [(Sh.sl (Sh.int .u8))] (a0, ())), []) (endK (retc k329.res Sh.bool)) = p329 c338 c341 c342 c343 c344 c339 c302 N a0 := by kernel_rfl
theorem ok329 (c338 : Option Bool) (c341 : List Int → Option ((Bool × Int × (List (Int × (List Int))) × (List Int)) × Int)) (c342 : List Int → Option ((Bool × Int × (List (Int × (List Int))) × (List Int)) × Int)) (c343 : List Int → Option (Int × Int)) (c344 : List Int → Option (Int × Int)) (c339 : Bool × Int × (List (Int × (List Int))) × (List Int) → Option (Bool × Int × (List (Int × (List Int))) × (List Int))) (c302 : Bool × Int × (List (Int × (List Int))) × (List Int) → Bool × Int × (List (Int × (List Int))) × (List Int) → Option Bool) (h338 : EntOK FT XT 338 (en338 c338)) (h341 : EntOK FT XT 341 (en341 c341)) (h342 : EntOK FT XT 342 (en342 c342)) (h343 : EntOK FT XT 343 (en343 c343)) (h344 : EntOK FT XT 344 (en344 c344)) (h339 : EntOK FT XT 339 (en339 c339)) (h302 : EntOK FT XT 302 (en302 c302)) {f : List Int → Option Bool} (hf : ∀ a0 r, f a0 = some r → ∃ N, p329 c338 c341 c342 c343 c344 c339 c302 N a0 = some r) : EntOK FT XT 329 (en329 f) := by
  have hT : TabOK FT XT (T329 c338 c341 c342 c343 c344 c339 c302) := by
    intro g en hg
    unfold T329 at hg
    split at hg <;> first | (injection hg with hg; subst hg; assumption) | cases hg
  have hO0 : RawOK FT XT (rawOf (α := (Sh.bool).T) RW0) := rawOK0
  have hO : RawOK FT XT (rawOf (α := (Sh.bool).T) RW0) := hO0
  refine ⟨rfl, fun v r h => ?_⟩
  obtain ⟨a0, _⟩ := v
  obtain ⟨N, h1⟩ := hf _ _ h
  exact ans_c (R := Sh.bool) (tab := T329 c338 c341 c342 c343 c344 c339 c302) (raw := (rawOf RW0)) (LP := W329 c338 c341 c342 c343 c344 c339 c302 N) (fu := fuelC) hT hO rfl rfl (Nat.le_of_ble_eq_true rfl) loopOK_nil ((e329 c338 c341 c342 c343 c344 c339 c302 N _).trans h1)

def T360 (c23 : List Int → List Int → Option Bool) : Nat → Option Ent
  | 23 => some (en23 c23)
  | _ => none
def W360 (c23 : List Int → List Int → Option Bool) (N : Nat) : LoopF (Sh.bool).T := fun no =>
  match no with
  | _ => fun _ _ => none
theorem e360 (c23 : List Int → List Int → Option Bool) (N : Nat) (a0 : Int × (List Int)) (a1 : Int × (List Int)) : evc (T360 c23) (rawOf RW0) (W360 c23 N) (retc k360.res Sh.bool) (modeOf FT) 0 fuelC k360.body (env0 k360 (encL [(Sh.st (Sh.pr (Sh.int .u8) (Sh.sl (Sh.int .u8)))), (Sh.st (Sh.pr (Sh.int .u8) (Sh.sl (Sh.int .u8))))] (a0, (a1, ()))), []) (endK (retc k360.res Sh.bool)) = p360 c23 N a0 a1 := by kernel_rfl
theorem ok360 (c23 : List Int → List Int → Option Bool) (h23 : EntOK FT XT 23 (en23 c23)) {f : Int × (List Int) → Int × (List Int) → Option Bool} (hf : ∀ a0 a1 r, f a0 a1 = some r → ∃ N, p360 c23 N a0 a1 = some r) : EntOK FT XT 360 (en360 f) := by
  have hT : TabOK FT XT (T360 c23) := by
    intro g en hg
    unfold T360 at hg
    split at hg <;> first | (injection hg with hg; subst hg; assumption) | cases hg
  have hO0 : RawOK FT XT (rawOf (α := (Sh.bool).T) RW0) := rawOK0
  have hO : RawOK FT XT (rawOf (α := (Sh.bool).T) RW0) := hO0
  refine ⟨rfl, fun v r h => ?_⟩
  obtain ⟨a0, a1, _⟩ := v
  obtain ⟨N, h1⟩ := hf _ _ _ h
  exact ans_c (R := Sh.bool) (tab := T360 c23) (raw := (rawOf RW0)) (LP := W360 c23 N) (fu := fuelC) hT hO rfl rfl (Nat.le_of_ble_eq_true rfl) loopOK_nil ((e360 c23 N _ _).trans h1)

def T345 (c360 : Int × (List Int) → Int × (List Int) → Option Bool) (c23 : List Int → List Int → Option Bool) : Nat → Option Ent
  | 360 => some (en360 c360)
  | 23 => some (en23 c23)
  | _ => none
def H345_0 : Trim := ⟨0, [], false, [2, 3, 5], []⟩
theorem l345_0 : loopN k345 0 = .loop H345_0 (bodyOf (loopN k345 0)) := by kernel_rfl
def P345_0 : Ps := ⟨[(0, .u), (1, .u), (2, (.ptr 0 0)), (3, (.ptr 1 0)), (4, .u), (5, (.int .i64)), (12, .u), (17, .u), (31, .u)], [(.vals false (.cons .bool (.cons (.int .u16) (.cons (.tb (Sh.pr (Sh.int .u8) (Sh.sl (Sh.int .u8)))) (.cons (.tb (Sh.int .u8)) .nil))))), (.vals false (.cons .bool (.cons (.int .u16) (.cons (.tb (Sh.pr (Sh.int .u8) (Sh.sl (Sh.int .u8)))) (.cons (.tb (Sh.int .u8)) .nil)))))]⟩
def Q345_0 : Nat → Ps
  | 0 => ⟨[(0, .u), (1, .u), (2, (.ptr 0 0)), (3, (.ptr 1 0)), (4, .u), (5, .u), (12, .u), (17, .u), (31, .u)], [(.vals false (.cons .bool (.cons (.int .u16) (.cons (.tb (Sh.pr (Sh.int .u8) (Sh.sl (Sh.int .u8)))) (.cons (.tb (Sh.int .u8)) .nil))))), (.vals false (.cons .bool (.cons (.int .u16) (.cons (.tb (Sh.pr (Sh.int .u8) (Sh.sl (Sh.int .u8)))) (.cons (.tb (Sh.int .u8)) .nil)))))]⟩
  | _ => noPs
def u345_0 (c360 : Int × (List Int) → Int × (List Int) → Option Bool) (c23 : List Int → List Int → Option Bool) (N n : Nat) (v : P345_0.T) (κ : (i : Nat) → (Q345_0 i).T → Option (Sh.bool).T) : Option (Sh.bool).T :=
  L345_0 c360 c23 N (fun (y0 : Bool) (y1 : Int) (y2 : List (Int × (List Int))) (y3 : List Int) (y4 : Bool) (y5 : Int) (y6 : List (Int × (List Int))) (y7 : List Int) => κ 0 (((), ((), ((), ((), ((), ((), ((), ((), ((), ()))))))))), ((y0, (y1, (y2, (y3, ())))), ((y4, (y5, (y6, (y7, ())))), ())))) n v.1.2.2.2.2.2.1 v.2.1.1 v.2.1.2.1 v.2.1.2.2.1 v.2.1.2.2.2.1 v.2.2.1.1 v.2.2.1.2.1 v.2.2.1.2.2.1 v.2.2.1.2.2.2.1
def W345_0 (c360 : Int × (List Int) → Int × (List Int) → Option Bool) (c23 : List Int → List Int → Option Bool) (N : Nat) : LoopF (Sh.bool).T := fun no =>
  match no with
  | _ => fun _ _ => none
theorem b345_0 (c360 : Int × (List Int) → Int × (List Int) → Option Bool) (c23 : List Int → List Int → Option Bool) (N n : Nat) (v : P345_0.T) (κ : (i : Nat) → (Q345_0 i).T → Option (Sh.bool).T) :
    evc (T345 c360 c23) (rawOf RW0) (W345_0 c360 c23 N) (retc k345.res Sh.bool) (modeOf FT) 0 fuelC (bodyOf (loopN k345 0)) (P345_0.st v) (roundK 0 H345_0 P345_0 Q345_0 (u345_0 c360 c23 N n) κ) = u345_0 c360 c23 N (n + 1) v κ := by kernel_rfl
theorem o345_0 (c360 : Int × (List Int) → Int × (List Int) → Option Bool) (c23 : List Int → List Int → Option Bool) (hT : TabOK FT XT (T345 c360 c23)) (hO : RawOK FT XT (rawOf (α := (Sh.bool).T) RW0)) (N : Nat) {s : St} {κ : Ex → St → Option (Sh.bool).T} {a : (Sh.bool).T} (h : lpOf 0 H345_0 P345_0 Q345_0 (u345_0 c360 c23 N N) s κ = some a) : Out FT XT 0 (retc k345.res Sh.bool) (loopN k345 0) s κ a := by
  rw [l345_0]
  exact loop_out (LP := W345_0 c360 c23 N) (fu := fuelC) hT hO (fun _ _ => rfl) (b345_0 c360 c23 N) loopOK_nil N h
def W345 (c360 : Int × (List Int) → Int × (List Int) → Option Bool) (c23 : List Int → List Int → Option Bool) (N : Nat) : LoopF (Sh.bool).T := fun no =>
  match no with
  | 0 => lpOf 0 H345_0 P345_0 Q345_0 (u345_0 c360 c23 N N)
  | _ => fun _ _ => none
theorem e345 (c360 : Int × (List Int) → Int × (List Int) → Option Bool) (c23 : List Int → List Int → Option Bool) (N : Nat) (a0 : Bool × Int × (List (Int × (List Int))) × (List Int)) (a1 : Bool × Int × (List (Int × (List Int))) × (List Int)) : evc (T345 c360 c23) (rawOf RW0) (W345 c360 c23 N) (retc k345.res Sh.bool) (modeOf FT) 0 fuelC k345.body (env0 k345 (encL [(Sh.st (Sh.pr Sh.bool (Sh.pr (Sh.int .u16) (Sh.pr (Sh.sl (Sh.pr (Sh.int .u8) (Sh.sl (Sh.int .u8)))) (Sh.sl (Sh.int .u8)))))), (Sh.st (Sh.pr Sh.bool (Sh.pr (Sh.int .u16) (Sh.pr (Sh.sl (Sh.pr (Sh.int .u8) (Sh.sl (Sh.int .u8)))) (Sh.sl (Sh.int .u8))))))] (a0, (a1, ()))), []) (endK (retc k345.res Sh.bool)) = p345 c360 c23 N a0 a1 := by kernel_rfl
theorem ok345 (c360 : Int × (List Int) → Int × (List Int) → Option Bool) (c23 : List Int → List Int → Option Bool) (h360 : EntOK FT XT 360 (en360 c360)) (h23 : EntOK FT XT 23 (en23 c23)) {f : Bool × Int × (List (Int × (List Int))) × (List Int) → Bool × Int × (List (Int × (List Int))) × (List Int) → Option Bool} (hf : ∀ a0 a1 r, f a0 a1 = some r → ∃ N, p345 c360 c23 N a0 a1 = some r) : EntOK FT XT 345 (en345 f) := by
  have hT : TabOK FT XT (T345 c360 c23) := by
    intro g en hg
    unfold T345 at hg
    split at hg <;> first | (injection hg with hg; subst hg; assumption) | cases hg
  have hO0 : RawOK FT XT (rawOf (α := (Sh.bool).T) RW0) := rawOK0
  have hO : RawOK FT XT (rawOf (α := (Sh.bool).T) RW0) := hO0
  refine ⟨rfl, fun v r h => ?_⟩
  obtain ⟨a0, a1, _⟩ := v
  obtain ⟨N, h1⟩ := hf _ _ _ h
  exact ans_c (R := Sh.bool) (tab := T345 c360 c23) (raw := (rawOf RW0)) (LP := W345 c360 c23 N) (fu := fuelC) hT hO rfl rfl (Nat.le_of_ble_eq_true rfl) (loopOK_cons l345_0 (fun s κ a h => o345_0 c360 c23 hT hO N h) loopOK_nil) ((e345 c360 c23 N _ _).trans h1)

def T330 (c337 : Bool × Int × (List (Int × (List Int))) × (List Int) → Option Bool) (c338 : Option Bool) (c339 : Bool × Int × (List (Int × (List Int))) × (List Int) → Option (Bool × Int × (List (Int × (List Int))) × (List Int))) (c302 : Bool × Int × (List (Int × (List Int))) × (List Int) → Bool × Int × (List (Int × (List Int))) × (List Int) → Option Bool) (c345 : Bool × Int × (List (Int × (List Int))) × (List Int) → Bool × Int × (List (Int × (List Int))) × (List Int) → Option Bool) (c317 : Bool × Int × (List (Int × (List Int))) × (List Int) → Option ((List Int) × Int)) (c341 : List Int → Option ((Bool × Int × (List (Int × (List Int))) × (List Int)) × Int)) (c23 : List Int → List Int → Option Bool) : Nat → Option Ent
  | 337 => some (en337 c337)
  | 338 => some (en338 c338)
  | 339 => some (en339 c339)
  | 302 => some (en302 c302)
  | 345 => some (en345 c345)
  | 317 => some (en317 c317)
  | 341 => some (en341 c341)
  | 23 => some (en23 c23)
  | _ => none
def W330 (c337 : Bool × Int × (List (Int × (List Int))) × (List Int) → Option Bool) (c338 : Option Bool) (c339 : Bool × Int × (List (Int × (List Int))) × (List Int) → Option (Bool × Int × (List (Int × (List Int))) × (List Int))) (c302 : Bool × Int × (List (Int × (List Int))) × (List Int) → Bool × Int × (List (Int × (List Int))) × (List Int) → Option Bool) (c345 : Bool × Int × (List (Int × (List Int))) × (List Int) → Bool × Int × (List (Int × (List Int))) × (List Int) → Option Bool) (c317 : Bool × Int × (List (Int × (List Int))) × (List Int) → Option ((List Int) × Int)) (c341 : List Int → Option ((Bool × Int × (List (Int × (List Int))) × (List Int)) × Int)) (c23 : List Int → List Int → Option Bool) (N : Nat) : LoopF (Sh.bool).T := fun no =>
  match no with
  | _ => fun _ _ => none
theorem e330 (c337 : Bool × Int × (List (Int × (List Int))) × (List Int) → Option Bool) (c338 : Option Bool) (c339 : Bool × Int × (List (Int × (List Int))) × (List Int) → Option (Bool × Int × (List (Int × (List Int))) × (List Int))) (c302 : Bool × Int × (List (Int × (List Int))) × (List Int) → Bool × Int × (List (Int × (List Int))) × (List Int) → Option Bool) (c345 : Bool × Int × (List (Int × (List Int))) × (List Int) → Bool × Int × (List (Int × (List Int))) × (List Int) → Option Bool) (c317 : Bool × Int × (List (Int × (List Int))) × (List Int) → Option ((List Int) × Int)) (c341 : List Int → Option ((Bool × Int × (List (Int × (List Int))) × (List Int)) × Int)) (c23 : List Int → List Int → Option Bool) (N : Nat) (a0 : Bool × Int × (List (Int × (List Int))) × (List Int)) (a1 : Bool × Int × (List (Int × (List Int))) × (List Int)) (a2 : List Int) : evc (T330 c337 c338 c339 c302 c345 c317 c341 c23) (rawOf RW0) (W330 c337 c338 c339 c302 c345 c317 c341 c23 N) (retc k330.res Sh.bool) (modeOf FT) 0 fuelC k330.body (env0 k330 (encL [(Sh.st (Sh.pr Sh.bool (Sh.pr (Sh.int .u16) (Sh.pr (Sh.sl (Sh.pr (Sh.int .u8) (Sh.sl (Sh.int .u8)))) (Sh.sl (Sh.int .u8)))))), (Sh.st (Sh.pr Sh.bool (Sh.pr (Sh.int .u16) (Sh.pr (Sh.sl (Sh.pr (Sh.int .u8) (Sh.sl (Sh.int .u8)))) (Sh.sl (Sh.int .u8)))))), (Sh.sl (Sh.int .u8))] (a0, (a1, (a2, ())))), []) (endK (retc k330.res Sh.bool)) = p330 c337 c338 c339 c302 c345 c317 c341 c23 N a0 a1 a2 := by kernel_rfl
theorem ok330 (c337 : Bool × Int × (List (Int × (List Int))) × (List Int) → Option Bool) (c338 : Option Bool) (c339 : Bool × Int × (List (Int × (List Int))) × (List Int) → Option (Bool × Int × (List (Int × (List Int))) × (List Int))) (c302 : Bool × Int × (List (Int × (List Int))) × (List Int) → Bool × Int × (List (Int × (List Int))) × (List Int) → Option Bool) (c345 : Bool × Int × (List (Int × (List Int))) × (List Int) → Bool × Int × (List (Int × (List Int))) × (List Int) → Option Bool) (c317 : Bool × Int × (List (Int × (List Int))) × (List Int) → Option ((List Int) × Int)) (c341 : List Int → Option ((Bool × Int × (List (Int × (List Int))) × (List Int)) × Int)) (c23 : List Int → List Int → Option Bool) (h337 : EntOK FT XT 337 (en337 c337)) (h338 : EntOK FT XT 338 (en338 c338)) (h339 : EntOK FT XT 339 (en339 c339)) (h302 : EntOK FT XT 302 (en302 c302)) (h345 : EntOK FT XT 345 (en345 c345)) (h317 : EntOK FT XT 317 (en317 c317)) (h341 : EntOK FT XT 341 (en341 c341)) (h23 : EntOK FT XT 23 (en23 c23)) {f : Bool × Int × (List (Int × (List Int))) × (List Int) → Bool × Int × (List (Int × (List Int))) × (List Int) → List Int → Option Bool} (hf : ∀ a0 a1 a2 r, f a0 a1 a2 = some r → ∃ N, p330 c337 c338 c339 c302 c345 c317 c341 c23 N a0 a1 a2 = some r) : EntOK FT XT 330 (en330 f) := by
  have hT : TabOK FT XT (T330 c337 c338 c339 c302 c345 c317 c341 c23) := by
    intro g en hg
    unfold T330 at hg
    split at hg <;> first | (injection hg with hg; subst hg; assumption) | cases hg
  have hO0 : RawOK FT XT (rawOf (α := (Sh.bool).T) RW0) := rawOK0
  have hO : RawOK FT XT (rawOf (α := (Sh.bool).T) RW0) := hO0
  refine ⟨rfl, fun v r h => ?_⟩
  obtain ⟨a0, a1, a2, _⟩ := v
  obtain ⟨N, h1⟩ := hf _ _ _ _ h
  exact ans_c (R := Sh.bool) (tab := T330 c337 c338 c339 c302 c345 c317 c341 c23) (raw := (rawOf RW0)) (LP := W330 c337 c338 c339 c302 c345 c317 c341 c23 N) (fu := fuelC) hT hO rfl rfl (Nat.le_of_ble_eq_true rfl) loopOK_nil ((e330 c337 c338 c339 c302 c345 c317 c341 c23 N _ _ _).trans h1)

def T331 (c337 : Bool × Int × (List (Int × (List Int))) × (List Int) → Option Bool) (c338 : Option Bool) (c339 : Bool × Int × (List (Int × (List Int))) × (List Int) → Option (Bool × Int × (List (Int × (List Int))) × (List Int))) (c316 : Int → List (Int × (List Int)) → Option (Bool × Int × (List (Int × (List Int))) × (List Int))) (c346 : List Int → Option (Bool × Int × (List (Int × (List Int))) × (List Int))) (c302 : Bool × Int × (List (Int × (List Int))) × (List Int) → Bool × Int × (List (Int × (List Int))) × (List Int) → Option Bool) (c323 : Bool × Int × (List (Int × (List Int))) × (List Int) → Option Int) (c340 : Bool × Int × (List (Int × (List Int))) × (List Int) → Option Int) : Nat → Option Ent
  | 337 => some (en337 c337)
  | 338 => some (en338 c338)
  | 339 => some (en339 c339)
  | 316 => some (en316 c316)
  | 346 => some (en346 c346)
  | 302 => some (en302 c302)
  | 323 => some (en323 c323)
  | 340 => some (en340 c340)
  | _ => none
def W331 (c337 : Bool × Int × (List (Int × (List Int))) × (List Int) → Option Bool) (c338 : Option Bool) (c339 : Bool × Int × (List (Int × (List Int))) × (List Int) → Option (Bool × Int × (List (Int × (List Int))) × (List Int))) (c316 : Int → List (Int × (List Int)) → Option (Bool × Int × (List (Int × (List Int))) × (List Int))) (c346 : List Int → Option (Bool × Int × (List (Int × (List Int))) × (List Int))) (c302 : Bool × Int × (List (Int × (List Int))) × (List Int) → Bool × Int × (List (Int × (List Int))) × (List Int) → Option Bool) (c323 : Bool × Int × (List (Int × (List Int))) × (List Int) → Option Int) (c340 : Bool × Int × (List (Int × (List Int))) × (List Int) → Option Int) (N : Nat) : LoopF (Sh.bool).T := fun no =>
  match no with
  | _ => fun _ _ => none
theorem e331 (c337 : Bool × Int × (List (Int × (List Int))) × (List Int) → Option Bool) (c338 : Option Bool) (c339 : Bool × Int × (List (Int × (List Int))) × (List Int) → Option (Bool × Int × (List (Int × (List Int))) × (List Int))) (c316 : Int → List (Int × (List Int)) → Option (Bool × Int × (List (Int × (List Int))) × (List Int))) (c346 : List Int → Option (Bool × Int × (List (Int × (List Int))) × (List Int))) (c302 : Bool × Int × (List (Int × (List Int))) × (List Int) → Bool × Int × (List (Int × (List Int))) × (List Int) → Option Bool) (c323 : Bool × Int × (List (Int × (List Int))) × (List Int) → Option Int) (c340 : Bool × Int × (List (Int × (List Int))) × (List Int) → Option Int) (N : Nat) (a0 : Int) (a1 : Bool × Int × (List (Int × (List Int))) × (List Int)) : evc (T331 c337 c338 c339 c316 c346 c302 c323 c340) (rawOf RW0) (W331 c337 c338 c339 c316 c346 c302 c323 c340 N) (retc k331.res Sh.bool) (modeOf FT) 0 fuelC k331.body (env0 k331 (encL [(Sh.int .u16), (Sh.st (Sh.pr Sh.bool (Sh.pr (Sh.int .u16) (Sh.pr (Sh.sl (Sh.pr (Sh.int .u8) (Sh.sl (Sh.int .u8)))) (Sh.sl (Sh.int .u8))))))] (a0, (a1, ()))), []) (endK (retc k331.res Sh.bool)) = p331 c337 c338 c339 c316 c346 c302 c323 c340 N a0 a1 := by kernel_rfl
theorem ok331 (c337 : Bool × Int × (List (Int × (List Int))) × (List Int) → Option Bool) (c338 : Option Bool) (c339 : Bool × Int × (List (Int × (List Int))) × (List Int) → Option (Bool × Int × (List (Int × (List Int))) × (List Int))) (c316 : Int → List (Int × (List Int)) → Option (Bool × Int × (List (Int × (List Int))) × (List Int))) (c346 : List Int → Option (Bool × Int × (List (Int × (List Int))) × (List Int))) (c302 : Bool × Int × (List (Int × (List Int))) × (List Int) → Bool × Int × (List (Int × (List Int))) × (List Int) → Option Bool) (c323 : Bool × Int × (List (Int × (List Int))) × (List Int) → Option Int) (c340 : Bool × Int × (List (Int × (List Int))) × (List Int) → Option Int) (h337 : EntOK FT XT 337 (en337 c337)) (h338 : EntOK FT XT 338 (en338 c338)) (h339 : EntOK FT XT 339 (en339 c339)) (h316 : EntOK FT XT 316 (en316 c316)) (h346 : EntOK FT XT 346 (en346 c346)) (h302 : EntOK FT XT 302 (en302 c302)) (h323 : EntOK FT XT 323 (en323 c323)) (h340 : EntOK FT XT 340 (en340 c340)) {f : Int → Bool × Int × (List (Int × (List Int))) × (List Int) → Option Bool} (hf : ∀ a0 a1 r, f a0 a1 = some r → ∃ N, p331 c337 c338 c339 c316 c346 c302 c323 c340 N a0 a1 = some r) : EntOK FT XT 331 (en331 f) := by
  have hT : TabOK FT XT (T331 c337 c338 c339 c316 c346 c302 c323 c340) := by
    intro g en hg
    unfold T331 at hg
    split at hg <;> first | (injection hg with hg; subst hg; assumption) | cases hg
  have hO0 : RawOK FT XT (rawOf (α := (Sh.bool).T) RW0) := rawOK0
  have hO : RawOK FT XT (rawOf (α := (Sh.bool).T) RW0) := hO0
  refine ⟨rfl, fun v r h => ?_⟩
  obtain ⟨a0, a1, _⟩ := v
  obtain ⟨N, h1⟩ := hf _ _ _ h
  exact ans_c (R := Sh.bool) (tab := T331 c337 c338 c339 c316 c346 c302 c323 c340) (raw := (rawOf RW0)) (LP := W331 c337 c338 c339 c316 c346 c302 c323 c340 N) (fu := fuelC) hT hO rfl rfl (Nat.le_of_ble_eq_true rfl) loopOK_nil ((e331 c337 c338 c339 c316 c346 c302 c323 c340 N _ _).trans h1)

def T332 (c337 : Bool × Int × (List (Int × (List Int))) × (List Int) → Option Bool) (c338 : Option Bool) (c339 : Bool × Int × (List (Int × (List Int))) × (List Int) → Option (Bool × Int × (List (Int × (List Int))) × (List Int))) (c317 : Bool × Int × (List (Int × (List Int))) × (List Int) → Option ((List Int) × Int)) (c343 : List Int → Option (Int × Int)) (c341 : List Int → Option ((Bool × Int × (List (Int × (List Int))) × (List Int)) × Int)) : Nat → Option Ent
  | 337 => some (en337 c337)
  | 338 => some (en338 c338)
  | 339 => some (en339 c339)
  | 317 => some (en317 c317)
  | 343 => some (en343 c343)
  | 341 => some (en341 c341)
  | _ => none
def W332 (c337 : Bool × Int × (List (Int × (List Int))) × (List Int) → Option Bool) (c338 : Option Bool) (c339 : Bool × Int × (List (Int × (List Int))) × (List Int) → Option (Bool × Int × (List (Int × (List Int))) × (List Int))) (c317 : Bool × Int × (List (Int × (List Int))) × (List Int) → Option ((List Int) × Int)) (c343 : List Int → Option (Int × Int)) (c341 : List Int → Option ((Bool × Int × (List (Int × (List Int))) × (List Int)) × Int)) (N : Nat) : LoopF (Sh.bool).T := fun no =>
  match no with
  | _ => fun _ _ => none
theorem e332 (c337 : Bool × Int × (List (Int × (List Int))) × (List Int) → Option Bool) (c338 : Option Bool) (c339 : Bool × Int × (List (Int × (List Int))) × (List Int) → Option (Bool × Int × (List (Int × (List Int))) × (List Int))) (c317 : Bool × Int × (List (Int × (List Int))) × (List Int) → Option ((List Int) × Int)) (c343 : List Int → Option (Int × Int)) (c341 : List Int → Option ((Bool × Int × (List (Int × (List Int))) × (List Int)) × Int)) (N : Nat) (a0 : Bool × Int × (List (Int × (List Int))) × (List Int)) (a1 : Int) : evc (T332 c337 c338 c339 c317 c343 c341) (rawOf RW0) (W332 c337 c338 c339 c317 c343 c341 N) (retc k332.res Sh.bool) (modeOf FT) 0 fuelC k332.body (env0 k332 (encL [(Sh.st (Sh.pr Sh.bool (Sh.pr (Sh.int .u16) (Sh.pr (Sh.sl (Sh.pr (Sh.int .u8) (Sh.sl (Sh.int .u8)))) (Sh.sl (Sh.int .u8)))))), (Sh.int .u16)] (a0, (a1, ()))), []) (endK (retc k332.res Sh.bool)) = p332 c337 c338 c339 c317 c343 c341 N a0 a1 := by kernel_rfl
theorem ok332 (c337 : Bool × Int × (List (Int × (List Int))) × (List Int) → Option Bool) (c338 : Option Bool) (c339 : Bool × Int × (List (Int × (List Int))) × (List Int) → Option (Bool × Int × (List (Int × (List Int))) × (List Int))) (c317 : Bool × Int × (List (Int × (List Int))) × (List Int) → Option ((List Int) × Int)) (c343 : List Int → Option (Int × Int)) (c341 : List Int → Option ((Bool × Int × (List (Int × (List Int))) × (List Int)) × Int)) (h337 : EntOK FT XT 337 (en337 c337)) (h338 : EntOK FT XT 338 (en338 c338)) (h339 : EntOK FT XT 339 (en339 c339)) (h317 : EntOK FT XT 317 (en317 c317)) (h343 : EntOK FT XT 343 (en343 c343)) (h341 : EntOK FT XT 341 (en341 c341)) {f : Bool × Int × (List (Int × (List Int))) × (List Int) → Int → Option Bool} (hf : ∀ a0 a1 r, f a0 a1 = some r → ∃ N, p332 c337 c338 c339 c317 c343 c341 N a0 a1 = some r) : EntOK FT XT 332 (en332 f) := by
  have hT : TabOK FT XT (T332 c337 c338 c339 c317 c343 c341) := by
    intro g en hg
    unfold T332 at hg
    split at hg <;> first | (injection hg with hg; subst hg; assumption) | cases hg
  have hO0 : RawOK FT XT (rawOf (α := (Sh.bool).T) RW0) := rawOK0
  have hO : RawOK FT XT (rawOf (α := (Sh.bool).T) RW0) := hO0
  refine ⟨rfl, fun v r h => ?_⟩
  obtain ⟨a0, a1, _⟩ := v
  obtain ⟨N, h1⟩ := hf _ _ _ h
  exact ans_c (R := Sh.bool) (tab := T332 c337 c338 c339 c317 c343 c341) (raw := (rawOf RW0)) (LP := W332 c337 c338 c339 c317 c343 c341 N) (fu := fuelC) hT hO rfl rfl (Nat.le_of_ble_eq_true rfl) loopOK_nil ((e332 c337 c338 c339 c317 c343 c341 N _ _).trans h1)
end Go.Proofs.YteagngpgghnlmaaE
