/- The plain functions are the evaluator's. -/
import Derived.Test.YteagngpgghnlmaaEvGL2
import Derived.KernelRfl
namespace Go.Proofs.YteagngpgghnlmaaE
open Go
set_option linter.unusedVariables false
set_option linter.unusedSimpArgs false

def T64v0 : Nat → Option Ent
  | _ => none
def W64v0 (N : Nat) : LoopF QR64v0.T := fun no =>
  match no with
  | _ => fun _ _ => none
theorem e64v0 (N : Nat) (v : PR64v0.T) : evc (T64v0) (rawOf RW0) (W64v0 N) (retr k64.res 0 QR64v0) (modeOf FT) 0 fuelC k64.body (env0 k64 (PR64v0.a.st v.1), stH PR64v0.h v.2) (endK (retr k64.res 0 QR64v0)) = p64v0 N v.1.2.1 := by kernel_rfl
theorem ok64v0 {f : Int → Option ((Nat × Unit) × ((List Int) × Unit))} (hf : ∀ a0 r, f a0 = some r → ∃ N, p64v0 N a0 = some r) : REntOK FT XT 64 (rn64v0 f) := by
  have hT : TabOK FT XT (T64v0) := by
    intro g en hg
    unfold T64v0 at hg
    split at hg <;> first | (injection hg with hg; subst hg; assumption) | cases hg
  have hO0 : RawOK FT XT (rawOf (α := QR64v0.T) RW0) := rawOK0
  have hO : RawOK FT XT (rawOf (α := QR64v0.T) RW0) := hO0
  intro v r w h hw
  obtain ⟨N, h1⟩ := hf _ _ h
  exact ans_r (Q := QR64v0) (tab := T64v0) (raw := (rawOf RW0)) (LP := W64v0 N) (fu := fuelC) hT hO rfl rfl (Nat.le_of_ble_eq_true rfl) rfl loopOK_nil ((e64v0 N v).trans h1) hw

def T1 (d64v0 : Int → Option ((Nat × Unit) × ((List Int) × Unit))) : Nat → Option Ent
  | _ => none
def RW1 (d64v0 : Int → Option ((Nat × Unit) × ((List Int) × Unit))) : Nat → List REnt
  | 64 => [rn64v0 d64v0]
  | _ => []
def H1_1 : Trim := ⟨1, [], false, [6, 25, 26, 27], []⟩
theorem l1_1 : loopN k1 1 = .loop H1_1 (bodyOf (loopN k1 1)) := by kernel_rfl
def P1_1 : Ps := ⟨[(0, .u), (2, .u), (3, .u), (5, .u), (6, (.sl 0 1)), (8, .u), (9, .u), (10, .u), (11, .u), (12, .u), (20, .u), (25, (.tb (Sh.sl (Sh.int .u8)))), (26, (.int .i64)), (27, (.int .i64)), (28, .u)], [(.ints false .u8)]⟩
def Q1_1 : Nat → Ps
  | 2 => ⟨[(0, .u), (2, .u), (3, .u), (5, .u), (6, (.sl 0 1)), (8, .u), (9, .u), (10, .u), (11, .u), (12, .u), (20, .u), (25, .u), (26, .u), (27, .u), (28, .u)], [(.ints false .u8)]⟩
  | _ => noPs
def u1_1 (d64v0 : Int → Option ((Nat × Unit) × ((List Int) × Unit))) (N n : Nat) (v : P1_1.T) (κ : (i : Nat) → (Q1_1 i).T → Option (List Int)) : Option (List Int) :=
  L1_1 d64v0 N (fun (y0 : Nat) (y1 : List Int) => κ 2 (((), ((), ((), ((), (y0, ((), ((), ((), ((), ((), ((), ((), ((), ((), ((), ()))))))))))))))), (y1, ()))) n v.1.2.2.2.2.1 v.1.2.2.2.2.2.2.2.2.2.2.2.1 v.1.2.2.2.2.2.2.2.2.2.2.2.2.1 v.1.2.2.2.2.2.2.2.2.2.2.2.2.2.1 v.2.1
def W1_1 (d64v0 : Int → Option ((Nat × Unit) × ((List Int) × Unit))) (N : Nat) : LoopF (List Int) := fun no =>
  match no with
  | _ => fun _ _ => none
theorem b1_1 (d64v0 : Int → Option ((Nat × Unit) × ((List Int) × Unit))) (N n : Nat) (v : P1_1.T) (κ : (i : Nat) → (Q1_1 i).T → Option (List Int)) :
    evc (T1 d64v0) (rawOf (RW1 d64v0)) (W1_1 d64v0 N) (reto k1.res .u8) (modeOf FT) 0 fuelC (bodyOf (loopN k1 1)) (P1_1.st v) (roundK 0 H1_1 P1_1 Q1_1 (u1_1 d64v0 N n) κ) = u1_1 d64v0 N (n + 1) v κ := by kernel_rfl
theorem o1_1 (d64v0 : Int → Option ((Nat × Unit) × ((List Int) × Unit))) (hT : TabOK FT XT (T1 d64v0)) (hO : RawOK FT XT (rawOf (α := List Int) (RW1 d64v0))) (N : Nat) {s : St} {κ : Ex → St → Option (List Int)} {a : List Int} (h : lpOf 0 H1_1 P1_1 Q1_1 (u1_1 d64v0 N N) s κ = some a) : Out FT XT 0 (reto k1.res .u8) (loopN k1 1) s κ a := by
  rw [l1_1]
  exact loop_out (LP := W1_1 d64v0 N) (fu := fuelC) hT hO (fun _ _ => rfl) (b1_1 d64v0 N) loopOK_nil N h
def H1_0 : Trim := ⟨0, [], false, [0, 3, 9, 10, 11], []⟩
theorem l1_0 : loopN k1 0 = .loop H1_0 (bodyOf (loopN k1 0)) := by kernel_rfl
def P1_0 : Ps := ⟨[(0, (.tb (Sh.sl (Sh.int .u8)))), (2, .u), (3, (.int .i64)), (5, .u), (6, .u), (8, .u), (9, (.tb (Sh.sl (Sh.int .u8)))), (10, (.int .i64)), (11, (.int .i64)), (12, .u), (20, .u), (25, .u), (26, .u), (27, .u), (28, .u)], []⟩
def Q1_0 : Nat → Ps
  | 0 => ⟨[(0, (.tb (Sh.sl (Sh.int .u8)))), (2, .u), (3, (.int .i64)), (5, .u), (6, .u), (8, .u), (9, .u), (10, .u), (11, .u), (12, .u), (20, .u), (25, .u), (26, .u), (27, .u), (28, .u)], []⟩
  | _ => noPs
def u1_0 (d64v0 : Int → Option ((Nat × Unit) × ((List Int) × Unit))) (N n : Nat) (v : P1_0.T) (κ : (i : Nat) → (Q1_0 i).T → Option (List Int)) : Option (List Int) :=
  L1_0 d64v0 N (fun (y0 : List (List Int)) (y1 : Int) => κ 0 ((y0, ((), (y1, ((), ((), ((), ((), ((), ((), ((), ((), ((), ((), ((), ((), ()))))))))))))))), ())) n v.1.1 v.1.2.2.1 v.1.2.2.2.2.2.2.1 v.1.2.2.2.2.2.2.2.1 v.1.2.2.2.2.2.2.2.2.1
def W1_0 (d64v0 : Int → Option ((Nat × Unit) × ((List Int) × Unit))) (N : Nat) : LoopF (List Int) := fun no =>
  match no with
  | _ => fun _ _ => none
theorem b1_0 (d64v0 : Int → Option ((Nat × Unit) × ((List Int) × Unit))) (N n : Nat) (v : P1_0.T) (κ : (i : Nat) → (Q1_0 i).T → Option (List Int)) :
    evc (T1 d64v0) (rawOf (RW1 d64v0)) (W1_0 d64v0 N) (reto k1.res .u8) (modeOf FT) 0 fuelC (bodyOf (loopN k1 0)) (P1_0.st v) (roundK 0 H1_0 P1_0 Q1_0 (u1_0 d64v0 N n) κ) = u1_0 d64v0 N (n + 1) v κ := by kernel_rfl
theorem o1_0 (d64v0 : Int → Option ((Nat × Unit) × ((List Int) × Unit))) (hT : TabOK FT XT (T1 d64v0)) (hO : RawOK FT XT (rawOf (α := List Int) (RW1 d64v0))) (N : Nat) {s : St} {κ : Ex → St → Option (List Int)} {a : List Int} (h : lpOf 0 H1_0 P1_0 Q1_0 (u1_0 d64v0 N N) s κ = some a) : Out FT XT 0 (reto k1.res .u8) (loopN k1 0) s κ a := by
  rw [l1_0]
  exact loop_out (LP := W1_0 d64v0 N) (fu := fuelC) hT hO (fun _ _ => rfl) (b1_0 d64v0 N) loopOK_nil N h
def W1 (d64v0 : Int → Option ((Nat × Unit) × ((List Int) × Unit))) (N : Nat) : LoopF (List Int) := fun no =>
  match no with
  | 0 => lpOf 0 H1_0 P1_0 Q1_0 (u1_0 d64v0 N N)
  | 1 => lpOf 0 H1_1 P1_1 Q1_1 (u1_1 d64v0 N N)
  | _ => fun _ _ => none
theorem e1 (d64v0 : Int → Option ((Nat × Unit) × ((List Int) × Unit))) (N : Nat) (a0 : List (List Int)) : evc (T1 d64v0) (rawOf (RW1 d64v0)) (W1 d64v0 N) (reto k1.res .u8) (modeOf FT) 0 fuelC k1.body (env0 k1 (encL [(Sh.sl (Sh.sl (Sh.int .u8)))] (a0, ())), []) (endK (reto k1.res .u8)) = p1 d64v0 N a0 := by kernel_rfl
theorem ok1 (d64v0 : Int → Option ((Nat × Unit) × ((List Int) × Unit))) (h64v0 : REntOK FT XT 64 (rn64v0 d64v0)) {f : List (List Int) → Option (List Int)} (hf : ∀ a0 r, f a0 = some r → ∃ N, p1 d64v0 N a0 = some r) : EntOK FT XT 1 (en1 f) := by
  have hT : TabOK FT XT (T1 d64v0) := by
    intro g en hg
    unfold T1 at hg
    split at hg <;> first | (injection hg with hg; subst hg; assumption) | cases hg
  have hO0 : RawOK FT XT (rawOf (α := List Int) (RW1 d64v0)) := by
    refine rawOf_ok (fun g en hg => ?_)
    unfold RW1 at hg
    split at hg <;> simp only [List.mem_cons, List.not_mem_nil, or_false] at hg <;> first | (subst hg; assumption) | (rcases hg with rfl | rfl <;> assumption) | (rcases hg with rfl | rfl | rfl <;> assumption) | (rcases hg with rfl | rfl | rfl | rfl <;> assumption)
  have hO : RawOK FT XT (rawOf (α := List Int) (RW1 d64v0)) := hO0
  refine ⟨rfl, fun v r h => ?_⟩
  obtain ⟨a0, _⟩ := v
  obtain ⟨N, h1⟩ := hf _ _ h
  exact ans_o (tab := T1 d64v0) (raw := (rawOf (RW1 d64v0))) (LP := W1 d64v0 N) (fu := fuelC) hT hO rfl rfl (Nat.le_of_ble_eq_true rfl) (loopOK_cons l1_0 (fun s κ a h => o1_0 d64v0 hT hO N h) (loopOK_cons l1_1 (fun s κ a h => o1_1 d64v0 hT hO N h) loopOK_nil)) ((e1 d64v0 N _).trans h1)

def T48v0 : Nat → Option Ent
  | _ => none
def H48v0_0 : Trim := ⟨0, [], false, [0, 2, 3], []⟩
theorem l48v0_0 : loopN k48 0 = .loop H48v0_0 (bodyOf (loopN k48 0)) := by kernel_rfl
def P48v0_0 : Ps := ⟨[(0, (.slc 0 1)), (2, (.int .i64)), (3, (.int .i64)), (9, .u)], [(.ints false .u8)]⟩
def Q48v0_0 : Nat → Ps
  | 0 => ⟨[(0, .u), (2, .u), (3, .u), (9, .u)], [(.ints false .u8)]⟩
  | _ => noPs
def u48v0_0 (N n : Nat) (v : P48v0_0.T) (κ : (i : Nat) → (Q48v0_0 i).T → Option QR48v0.T) : Option QR48v0.T :=
  L48v0_0 N (fun (y0 : List Int) => κ 0 (((), ((), ((), ((), ())))), (y0, ()))) n v.1.1.1 v.1.1.2 v.1.2.1 v.1.2.2.1 v.2.1
def W48v0_0 (N : Nat) : LoopF QR48v0.T := fun no =>
  match no with
  | _ => fun _ _ => none
theorem b48v0_0 (N n : Nat) (v : P48v0_0.T) (κ : (i : Nat) → (Q48v0_0 i).T → Option QR48v0.T) :
    evc (T48v0) (rawOf RW0) (W48v0_0 N) (retr k48.res 1 QR48v0) (modeOf FT) 1 fuelC (bodyOf (loopN k48 0)) (P48v0_0.st v) (roundK 1 H48v0_0 P48v0_0 Q48v0_0 (u48v0_0 N n) κ) = u48v0_0 N (n + 1) v κ := by kernel_rfl
theorem o48v0_0 (hT : TabOK FT XT (T48v0)) (hO : RawOK FT XT (rawOf (α := QR48v0.T) RW0)) (N : Nat) {s : St} {κ : Ex → St → Option QR48v0.T} {a : QR48v0.T} (h : lpOf 1 H48v0_0 P48v0_0 Q48v0_0 (u48v0_0 N N) s κ = some a) : Out FT XT 1 (retr k48.res 1 QR48v0) (loopN k48 0) s κ a := by
  rw [l48v0_0]
  exact loop_out (LP := W48v0_0 N) (fu := fuelC) hT hO (fun _ _ => rfl) (b48v0_0 N) loopOK_nil N h
def W48v0 (N : Nat) : LoopF QR48v0.T := fun no =>
  match no with
  | 0 => lpOf 1 H48v0_0 P48v0_0 Q48v0_0 (u48v0_0 N N)
  | _ => fun _ _ => none
theorem e48v0 (N : Nat) (v : PR48v0.T) : evc (T48v0) (rawOf RW0) (W48v0 N) (retr k48.res 1 QR48v0) (modeOf FT) 1 fuelC k48.body (env0 k48 (PR48v0.a.st v.1), stH PR48v0.h v.2) (endK (retr k48.res 1 QR48v0)) = p48v0 N v.1.1.1 v.1.1.2 v.2.1 := by kernel_rfl
theorem ok48v0 {f : Nat → Nat → List Int → Option ((Unit × Unit) × ((List Int) × Unit))} (hf : ∀ a0 a1 a2 r, f a0 a1 a2 = some r → ∃ N, p48v0 N a0 a1 a2 = some r) : REntOK FT XT 48 (rn48v0 f) := by
  have hT : TabOK FT XT (T48v0) := by
    intro g en hg
    unfold T48v0 at hg
    split at hg <;> first | (injection hg with hg; subst hg; assumption) | cases hg
  have hO0 : RawOK FT XT (rawOf (α := QR48v0.T) RW0) := rawOK0
  have hO : RawOK FT XT (rawOf (α := QR48v0.T) RW0) := hO0
  intro v r w h hw
  obtain ⟨N, h1⟩ := hf _ _ _ _ h
  exact ans_r (Q := QR48v0) (tab := T48v0) (raw := (rawOf RW0)) (LP := W48v0 N) (fu := fuelC) hT hO rfl rfl (Nat.le_of_ble_eq_true rfl) rfl (loopOK_cons l48v0_0 (fun s κ a h => o48v0_0 hT hO N h) loopOK_nil) ((e48v0 N v).trans h1) hw

def T19 (d48v0 : Nat → Nat → List Int → Option ((Unit × Unit) × ((List Int) × Unit))) : Nat → Option Ent
  | _ => none
def RW19 (d48v0 : Nat → Nat → List Int → Option ((Unit × Unit) × ((List Int) × Unit))) : Nat → List REnt
  | 48 => [rn48v0 d48v0]
  | _ => []
def H19_0 : Trim := ⟨0, [], false, [0, 2, 8, 19, 20], []⟩
theorem l19_0 : loopN k19 0 = .loop H19_0 (bodyOf (loopN k19 0)) := by kernel_rfl
def P19_0 : Ps := ⟨[(0, (.int .u64)), (1, .u), (2, .bool), (6, .u), (7, .u), (8, (.slc 0 1)), (9, .u), (15, .u), (19, (.int .i64)), (20, (.int .i64)), (21, .u), (33, .u)], [(.ints false .u8)]⟩
def Q19_0 : Nat → Ps
  | 0 => ⟨[(0, .u), (1, .u), (2, .bool), (6, .u), (7, .u), (8, (.slc 0 1)), (9, .u), (15, .u), (19, .u), (20, .u), (21, .u), (33, .u)], [(.ints false .u8)]⟩
  | _ => noPs
def u19_0 (d48v0 : Nat → Nat → List Int → Option ((Unit × Unit) × ((List Int) × Unit))) (N n : Nat) (v : P19_0.T) (κ : (i : Nat) → (Q19_0 i).T → Option (((Sh.tu (Sh.pr (Sh.sl (Sh.int .u8)) (Sh.int .i64)))).T)) : Option (((Sh.tu (Sh.pr (Sh.sl (Sh.int .u8)) (Sh.int .i64)))).T) :=
  L19_0 d48v0 N (fun (y0 : Bool) (y1 : Nat) (y2 : Nat) (y3 : List Int) => κ 0 (((), ((), (y0, ((), ((), ((y1, y2), ((), ((), ((), ((), ((), ((), ())))))))))))), (y3, ()))) n v.1.1 v.1.2.2.1 v.1.2.2.2.2.2.1.1 v.1.2.2.2.2.2.1.2 v.1.2.2.2.2.2.2.2.2.1 v.1.2.2.2.2.2.2.2.2.2.1 v.2.1
def W19_0 (d48v0 : Nat → Nat → List Int → Option ((Unit × Unit) × ((List Int) × Unit))) (N : Nat) : LoopF (((Sh.tu (Sh.pr (Sh.sl (Sh.int .u8)) (Sh.int .i64)))).T) := fun no =>
  match no with
  | _ => fun _ _ => none
theorem b19_0 (d48v0 : Nat → Nat → List Int → Option ((Unit × Unit) × ((List Int) × Unit))) (N n : Nat) (v : P19_0.T) (κ : (i : Nat) → (Q19_0 i).T → Option (((Sh.tu (Sh.pr (Sh.sl (Sh.int .u8)) (Sh.int .i64)))).T)) :
    evc (T19 d48v0) (rawOf (RW19 d48v0)) (W19_0 d48v0 N) (retc k19.res (Sh.tu (Sh.pr (Sh.sl (Sh.int .u8)) (Sh.int .i64)))) (modeOf FT) 0 fuelC (bodyOf (loopN k19 0)) (P19_0.st v) (roundK 0 H19_0 P19_0 Q19_0 (u19_0 d48v0 N n) κ) = u19_0 d48v0 N (n + 1) v κ := by kernel_rfl
theorem o19_0 (d48v0 : Nat → Nat → List Int → Option ((Unit × Unit) × ((List Int) × Unit))) (hT : TabOK FT XT (T19 d48v0)) (hO : RawOK FT XT (rawOf (α := ((Sh.tu (Sh.pr (Sh.sl (Sh.int .u8)) (Sh.int .i64)))).T) (RW19 d48v0))) (N : Nat) {s : St} {κ : Ex → St → Option (((Sh.tu (Sh.pr (Sh.sl (Sh.int .u8)) (Sh.int .i64)))).T)} {a : ((Sh.tu (Sh.pr (Sh.sl (Sh.int .u8)) (Sh.int .i64)))).T} (h : lpOf 0 H19_0 P19_0 Q19_0 (u19_0 d48v0 N N) s κ = some a) : Out FT XT 0 (retc k19.res (Sh.tu (Sh.pr (Sh.sl (Sh.int .u8)) (Sh.int .i64)))) (loopN k19 0) s κ a := by
  rw [l19_0]
  exact loop_out (LP := W19_0 d48v0 N) (fu := fuelC) hT hO (fun _ _ => rfl) (b19_0 d48v0 N) loopOK_nil N h
def W19 (d48v0 : Nat → Nat → List Int → Option ((Unit × Unit) × ((List Int) × Unit))) (N : Nat) : LoopF (((Sh.tu (Sh.pr (Sh.sl (Sh.int .u8)) (Sh.int .i64)))).T) := fun no =>
  match no with
  | 0 => lpOf 0 H19_0 P19_0 Q19_0 (u19_0 d48v0 N N)
  | _ => fun _ _ => none
theorem e19 (d48v0 : Nat → Nat → List Int → Option ((Unit × Unit) × ((List Int) × Unit))) (N : Nat) (a0 : Int) (a1 : Int) (a2 : Bool) : evc (T19 d48v0) (rawOf (RW19 d48v0)) (W19 d48v0 N) (retc k19.res (Sh.tu (Sh.pr (Sh.sl (Sh.int .u8)) (Sh.int .i64)))) (modeOf FT) 0 fuelC k19.body (env0 k19 (encL [(Sh.int .u64), (Sh.int .i64), Sh.bool] (a0, (a1, (a2, ())))), []) (endK (retc k19.res (Sh.tu (Sh.pr (Sh.sl (Sh.int .u8)) (Sh.int .i64))))) = p19 d48v0 N a0 a1 a2 := by kernel_rfl
theorem ok19 (d48v0 : Nat → Nat → List Int → Option ((Unit × Unit) × ((List Int) × Unit))) (h48v0 : REntOK FT XT 48 (rn48v0 d48v0)) {f : Int → Int → Bool → Option ((List Int) × Int)} (hf : ∀ a0 a1 a2 r, f a0 a1 a2 = some r → ∃ N, p19 d48v0 N a0 a1 a2 = some r) : EntOK FT XT 19 (en19 f) := by
  have hT : TabOK FT XT (T19 d48v0) := by
    intro g en hg
    unfold T19 at hg
    split at hg <;> first | (injection hg with hg; subst hg; assumption) | cases hg
  have hO0 : RawOK FT XT (rawOf (α := ((Sh.tu (Sh.pr (Sh.sl (Sh.int .u8)) (Sh.int .i64)))).T) (RW19 d48v0)) := by
    refine rawOf_ok (fun g en hg => ?_)
    unfold RW19 at hg
    split at hg <;> simp only [List.mem_cons, List.not_mem_nil, or_false] at hg <;> first | (subst hg; assumption) | (rcases hg with rfl | rfl <;> assumption) | (rcases hg with rfl | rfl | rfl <;> assumption) | (rcases hg with rfl | rfl | rfl | rfl <;> assumption)
  have hO : RawOK FT XT (rawOf (α := ((Sh.tu (Sh.pr (Sh.sl (Sh.int .u8)) (Sh.int .i64)))).T) (RW19 d48v0)) := hO0
  refine ⟨rfl, fun v r h => ?_⟩
  obtain ⟨a0, a1, a2, _⟩ := v
  obtain ⟨N, h1⟩ := hf _ _ _ _ h
  exact ans_c (R := (Sh.tu (Sh.pr (Sh.sl (Sh.int .u8)) (Sh.int .i64)))) (tab := T19 d48v0) (raw := (rawOf (RW19 d48v0))) (LP := W19 d48v0 N) (fu := fuelC) hT hO rfl rfl (Nat.le_of_ble_eq_true rfl) (loopOK_cons l19_0 (fun s κ a h => o19_0 d48v0 hT hO N h) loopOK_nil) ((e19 d48v0 N _ _ _).trans h1)

def T21 : Nat → Option Ent
  | _ => none
def H21_0 : Trim := ⟨0, [], false, [1, 6, 17, 18, 19], []⟩
theorem l21_0 : loopN k21 0 = .loop H21_0 (bodyOf (loopN k21 0)) := by kernel_rfl
def P21_0 : Ps := ⟨[(0, .u), (1, .bool), (4, .u), (5, .u), (6, (.int .u64)), (7, .u), (8, .u), (16, .u), (17, (.tb (Sh.int .u8))), (18, (.int .i64)), (19, (.int .i64)), (20, .u), (24, .u)], []⟩
def Q21_0 : Nat → Ps
  | 0 => ⟨[(0, .u), (1, .u), (4, .u), (5, .u), (6, (.int .u64)), (7, .u), (8, .u), (16, .u), (17, .u), (18, .u), (19, .u), (20, .u), (24, .u)], []⟩
  | _ => noPs
def u21_0 (N n : Nat) (v : P21_0.T) (κ : (i : Nat) → (Q21_0 i).T → Option (((Sh.tu (Sh.pr (Sh.int .u64) (Sh.int .i64)))).T)) : Option (((Sh.tu (Sh.pr (Sh.int .u64) (Sh.int .i64)))).T) :=
  L21_0 N (fun (y0 : Int) => κ 0 (((), ((), ((), ((), (y0, ((), ((), ((), ((), ((), ((), ((), ((), ()))))))))))))), ())) n v.1.2.1 v.1.2.2.2.2.1 v.1.2.2.2.2.2.2.2.2.1 v.1.2.2.2.2.2.2.2.2.2.1 v.1.2.2.2.2.2.2.2.2.2.2.1
def W21_0 (N : Nat) : LoopF (((Sh.tu (Sh.pr (Sh.int .u64) (Sh.int .i64)))).T) := fun no =>
  match no with
  | _ => fun _ _ => none
theorem b21_0 (N n : Nat) (v : P21_0.T) (κ : (i : Nat) → (Q21_0 i).T → Option (((Sh.tu (Sh.pr (Sh.int .u64) (Sh.int .i64)))).T)) :
    evc (T21) (rawOf RW0) (W21_0 N) (retc k21.res (Sh.tu (Sh.pr (Sh.int .u64) (Sh.int .i64)))) (modeOf FT) 0 fuelC (bodyOf (loopN k21 0)) (P21_0.st v) (roundK 0 H21_0 P21_0 Q21_0 (u21_0 N n) κ) = u21_0 N (n + 1) v κ := by kernel_rfl
theorem o21_0 (hT : TabOK FT XT (T21)) (hO : RawOK FT XT (rawOf (α := ((Sh.tu (Sh.pr (Sh.int .u64) (Sh.int .i64)))).T) RW0)) (N : Nat) {s : St} {κ : Ex → St → Option (((Sh.tu (Sh.pr (Sh.int .u64) (Sh.int .i64)))).T)} {a : ((Sh.tu (Sh.pr (Sh.int .u64) (Sh.int .i64)))).T} (h : lpOf 0 H21_0 P21_0 Q21_0 (u21_0 N N) s κ = some a) : Out FT XT 0 (retc k21.res (Sh.tu (Sh.pr (Sh.int .u64) (Sh.int .i64)))) (loopN k21 0) s κ a := by
  rw [l21_0]
  exact loop_out (LP := W21_0 N) (fu := fuelC) hT hO (fun _ _ => rfl) (b21_0 N) loopOK_nil N h
def W21 (N : Nat) : LoopF (((Sh.tu (Sh.pr (Sh.int .u64) (Sh.int .i64)))).T) := fun no =>
  match no with
  | 0 => lpOf 0 H21_0 P21_0 Q21_0 (u21_0 N N)
  | _ => fun _ _ => none
theorem e21 (N : Nat) (a0 : List Int) (a1 : Bool) : evc (T21) (rawOf RW0) (W21 N) (retc k21.res (Sh.tu (Sh.pr (Sh.int .u64) (Sh.int .i64)))) (modeOf FT) 0 fuelC k21.body (env0 k21 (encL [(Sh.sl (Sh.int .u8)), Sh.bool] (a0, (a1, ()))), []) (endK (retc k21.res (Sh.tu (Sh.pr (Sh.int .u64) (Sh.int .i64))))) = p21 N a0 a1 := by kernel_rfl
theorem ok21 {f : List Int → Bool → Option (Int × Int)} (hf : ∀ a0 a1 r, f a0 a1 = some r → ∃ N, p21 N a0 a1 = some r) : EntOK FT XT 21 (en21 f) := by
  have hT : TabOK FT XT (T21) := by
    intro g en hg
    unfold T21 at hg
    split at hg <;> first | (injection hg with hg; subst hg; assumption) | cases hg
  have hO0 : RawOK FT XT (rawOf (α := ((Sh.tu (Sh.pr (Sh.int .u64) (Sh.int .i64)))).T) RW0) := rawOK0
  have hO : RawOK FT XT (rawOf (α := ((Sh.tu (Sh.pr (Sh.int .u64) (Sh.int .i64)))).T) RW0) := hO0
  refine ⟨rfl, fun v r h => ?_⟩
  obtain ⟨a0, a1, _⟩ := v
  obtain ⟨N, h1⟩ := hf _ _ _ h
  exact ans_c (R := (Sh.tu (Sh.pr (Sh.int .u64) (Sh.int .i64)))) (tab := T21) (raw := (rawOf RW0)) (LP := W21 N) (fu := fuelC) hT hO rfl rfl (Nat.le_of_ble_eq_true rfl) (loopOK_cons l21_0 (fun s κ a h => o21_0 hT hO N h) loopOK_nil) ((e21 N _ _).trans h1)

def T46 (c1 : List (List Int) → Option (List Int)) : Nat → Option Ent
  | 1 => some (en1 c1)
  | _ => none
def W46 (c1 : List (List Int) → Option (List Int)) (N : Nat) : LoopF (List Int) := fun no =>
  match no with
  | _ => fun _ _ => none
theorem e46 (c1 : List (List Int) → Option (List Int)) (N : Nat) (a0 : List (List Int)) : evc (T46 c1) (rawOf RW0) (W46 c1 N) (reto k46.res .u8) (modeOf FT) 0 fuelC k46.body (env0 k46 (encL [(Sh.sl (Sh.sl (Sh.int .u8)))] (a0, ())), []) (endK (reto k46.res .u8)) = p46 c1 N a0 := by kernel_rfl
theorem ok46 (c1 : List (List Int) → Option (List Int)) (h1 : EntOK FT XT 1 (en1 c1)) {f : List (List Int) → Option (List Int)} (hf : ∀ a0 r, f a0 = some r → ∃ N, p46 c1 N a0 = some r) : EntOK FT XT 46 (en46 f) := by
  have hT : TabOK FT XT (T46 c1) := by
    intro g en hg
    unfold T46 at hg
    split at hg <;> first | (injection hg with hg; subst hg; assumption) | cases hg
  have hO0 : RawOK FT XT (rawOf (α := List Int) RW0) := rawOK0
  have hO : RawOK FT XT (rawOf (α := List Int) RW0) := hO0
  refine ⟨rfl, fun v r h => ?_⟩
  obtain ⟨a0, _⟩ := v
  obtain ⟨N, h1⟩ := hf _ _ h
  exact ans_o (tab := T46 c1) (raw := (rawOf RW0)) (LP := W46 c1 N) (fu := fuelC) hT hO rfl rfl (Nat.le_of_ble_eq_true rfl) loopOK_nil ((e46 c1 N _).trans h1)

def T51 : Nat → Option Ent
  | _ => none
def H51_0 : Trim := ⟨0, [], false, [0, 3, 4], []⟩
theorem l51_0 : loopN k51 0 = .loop H51_0 (bodyOf (loopN k51 0)) := by kernel_rfl
def P51_0 : Ps := ⟨[(0, (.tb (Sh.int .u8))), (2, .u), (3, (.int .u64)), (4, (.int .i64)), (8, .u)], []⟩
def Q51_0 : Nat → Ps
  | 0 => ⟨[(0, .u), (2, .u), (3, (.int .u64)), (4, .u), (8, .u)], []⟩
  | _ => noPs
def u51_0 (N n : Nat) (v : P51_0.T) (κ : (i : Nat) → (Q51_0 i).T → Option (((Sh.int .u64)).T)) : Option (((Sh.int .u64)).T) :=
  L51_0 N (fun (y0 : Int) => κ 0 (((), ((), (y0, ((), ((), ()))))), ())) n v.1.1 v.1.2.2.1 v.1.2.2.2.1
def W51_0 (N : Nat) : LoopF (((Sh.int .u64)).T) := fun no =>
  match no with
  | _ => fun _ _ => none
theorem b51_0 (N n : Nat) (v : P51_0.T) (κ : (i : Nat) → (Q51_0 i).T → Option (((Sh.int .u64)).T)) :
    evc (T51) (rawOf RW0) (W51_0 N) (retc k51.res (Sh.int .u64)) (modeOf FT) 0 fuelC (bodyOf (loopN k51 0)) (P51_0.st v) (roundK 0 H51_0 P51_0 Q51_0 (u51_0 N n) κ) = u51_0 N (n + 1) v κ := by kernel_rfl
theorem o51_0 (hT : TabOK FT XT (T51)) (hO : RawOK FT XT (rawOf (α := ((Sh.int .u64)).T) RW0)) (N : Nat) {s : St} {κ : Ex → St → Option (((Sh.int .u64)).T)} {a : ((Sh.int .u64)).T} (h : lpOf 0 H51_0 P51_0 Q51_0 (u51_0 N N) s κ = some a) : Out FT XT 0 (retc k51.res (Sh.int .u64)) (loopN k51 0) s κ a := by
  rw [l51_0]
  exact loop_out (LP := W51_0 N) (fu := fuelC) hT hO (fun _ _ => rfl) (b51_0 N) loopOK_nil N h
def W51 (N : Nat) : LoopF (((Sh.int .u64)).T) := fun no =>
  match no with
  | 0 => lpOf 0 H51_0 P51_0 Q51_0 (u51_0 N N)
  | _ => fun _ _ => none
theorem e51 (N : Nat) (a0 : List Int) : evc (T51) (rawOf RW0) (W51 N) (retc k51.res (Sh.int .u64)) (modeOf FT) 0 fuelC k51.body (env0 k51 (encL [(Sh.sl (Sh.int .u8))] (a0, ())), []) (endK (retc k51.res (Sh.int .u64))) = p51 N a0 := by kernel_rfl
theorem ok51 {f : List Int → Option Int} (hf : ∀ a0 r, f a0 = some r → ∃ N, p51 N a0 = some r) : EntOK FT XT 51 (en51 f) := by
  have hT : TabOK FT XT (T51) := by
    intro g en hg
    unfold T51 at hg
    split at hg <;> first | (injection hg with hg; subst hg; assumption) | cases hg
  have hO0 : RawOK FT XT (rawOf (α := ((Sh.int .u64)).T) RW0) := rawOK0
  have hO : RawOK FT XT (rawOf (α := ((Sh.int .u64)).T) RW0) := hO0
  refine ⟨rfl, fun v r h => ?_⟩
  obtain ⟨a0, _⟩ := v
  obtain ⟨N, h1⟩ := hf _ _ h
  exact ans_c (R := (Sh.int .u64)) (tab := T51) (raw := (rawOf RW0)) (LP := W51 N) (fu := fuelC) hT hO rfl rfl (Nat.le_of_ble_eq_true rfl) (loopOK_cons l51_0 (fun s κ a h => o51_0 hT hO N h) loopOK_nil) ((e51 N _).trans h1)

def T161 : Nat → Option Ent
  | _ => none
def W161 (N : Nat) : LoopF (Sh.bool).T := fun no =>
  match no with
  | _ => fun _ _ => none
theorem e161 (N : Nat) (a0 : Int) : evc (T161) (rawOf RW0) (W161 N) (retc k161.res Sh.bool) (modeOf FT) 0 fuelC k161.body (env0 k161 (encL [(Sh.int .u8)] (a0, ())), []) (endK (retc k161.res Sh.bool)) = p161 N a0 := by kernel_rfl
theorem ok161 {f : Int → Option Bool} (hf : ∀ a0 r, f a0 = some r → ∃ N, p161 N a0 = some r) : EntOK FT XT 161 (en161 f) := by
  have hT : TabOK FT XT (T161) := by
    intro g en hg
    unfold T161 at hg
    split at hg <;> first | (injection hg with hg; subst hg; assumption) | cases hg
  have hO0 : RawOK FT XT (rawOf (α := (Sh.bool).T) RW0) := rawOK0
  have hO : RawOK FT XT (rawOf (α := (Sh.bool).T) RW0) := hO0
  refine ⟨rfl, fun v r h => ?_⟩
  obtain ⟨a0, _⟩ := v
  obtain ⟨N, h1⟩ := hf _ _ h
  exact ans_c (R := Sh.bool) (tab := T161) (raw := (rawOf RW0)) (LP := W161 N) (fu := fuelC) hT hO rfl rfl (Nat.le_of_ble_eq_true rfl) loopOK_nil ((e161 N _).trans h1)

def T139 (c161 : Int → Option Bool) (c19 : Int → Int → Bool → Option ((List Int) × Int)) (c46 : List (List Int) → Option (List Int)) : Nat → Option Ent
  | 161 => some (en161 c161)
  | 19 => some (en19 c19)
  | 46 => some (en46 c46)
  | _ => none
def W139 (c161 : Int → Option Bool) (c19 : Int → Int → Bool → Option ((List Int) × Int)) (c46 : List (List Int) → Option (List Int)) (N : Nat) : LoopF (((Sh.tu (Sh.pr (Sh.sl (Sh.int .u8)) (Sh.int .i64)))).T) := fun no =>
  match no with
  | _ => fun _ _ => none
theorem e139 (c161 : Int → Option Bool) (c19 : Int → Int → Bool → Option ((List Int) × Int)) (c46 : List (List Int) → Option (List Int)) (N : Nat) (a0 : Int × (List Int)) : evc (T139 c161 c19 c46) (rawOf RW0) (W139 c161 c19 c46 N) (retc k139.res (Sh.tu (Sh.pr (Sh.sl (Sh.int .u8)) (Sh.int .i64)))) (modeOf FT) 0 fuelC k139.body (env0 k139 (encL [(Sh.st (Sh.pr (Sh.int .u8) (Sh.sl (Sh.int .u8))))] (a0, ())), []) (endK (retc k139.res (Sh.tu (Sh.pr (Sh.sl (Sh.int .u8)) (Sh.int .i64))))) = p139 c161 c19 c46 N a0 := by kernel_rfl
theorem ok139 (c161 : Int → Option Bool) (c19 : Int → Int → Bool → Option ((List Int) × Int)) (c46 : List (List Int) → Option (List Int)) (h161 : EntOK FT XT 161 (en161 c161)) (h19 : EntOK FT XT 19 (en19 c19)) (h46 : EntOK FT XT 46 (en46 c46)) {f : Int × (List Int) → Option ((List Int) × Int)} (hf : ∀ a0 r, f a0 = some r → ∃ N, p139 c161 c19 c46 N a0 = some r) : EntOK FT XT 139 (en139 f) := by
  have hT : TabOK FT XT (T139 c161 c19 c46) := by
    intro g en hg
    unfold T139 at hg
    split at hg <;> first | (injection hg with hg; subst hg; assumption) | cases hg
  have hO0 : RawOK FT XT (rawOf (α := ((Sh.tu (Sh.pr (Sh.sl (Sh.int .u8)) (Sh.int .i64)))).T) RW0) := rawOK0
  have hO : RawOK FT XT (rawOf (α := ((Sh.tu (Sh.pr (Sh.sl (Sh.int .u8)) (Sh.int .i64)))).T) RW0) := hO0
  refine ⟨rfl, fun v r h => ?_⟩
  obtain ⟨a0, _⟩ := v
  obtain ⟨N, h1⟩ := hf _ _ h
  exact ans_c (R := (Sh.tu (Sh.pr (Sh.sl (Sh.int .u8)) (Sh.int .i64)))) (tab := T139 c161 c19 c46) (raw := (rawOf RW0)) (LP := W139 c161 c19 c46 N) (fu := fuelC) hT hO rfl rfl (Nat.le_of_ble_eq_true rfl) loopOK_nil ((e139 c161 c19 c46 N _).trans h1)

def T162 : Nat → Option Ent
  | _ => none
def W162 (N : Nat) : LoopF (Sh.bool).T := fun no =>
  match no with
  | _ => fun _ _ => none
theorem e162 (N : Nat) (a0 : Int) : evc (T162) (rawOf RW0) (W162 N) (retc k162.res Sh.bool) (modeOf FT) 0 fuelC k162.body (env0 k162 (encL [(Sh.int .u8)] (a0, ())), []) (endK (retc k162.res Sh.bool)) = p162 N a0 := by kernel_rfl
theorem ok162 {f : Int → Option Bool} (hf : ∀ a0 r, f a0 = some r → ∃ N, p162 N a0 = some r) : EntOK FT XT 162 (en162 f) := by
  have hT : TabOK FT XT (T162) := by
    intro g en hg
    unfold T162 at hg
    split at hg <;> first | (injection hg with hg; subst hg; assumption) | cases hg
  have hO0 : RawOK FT XT (rawOf (α := (Sh.bool).T) RW0) := rawOK0
  have hO : RawOK FT XT (rawOf (α := (Sh.bool).T) RW0) := hO0
  refine ⟨rfl, fun v r h => ?_⟩
  obtain ⟨a0, _⟩ := v
  obtain ⟨N, h1⟩ := hf _ _ h
  exact ans_c (R := Sh.bool) (tab := T162) (raw := (rawOf RW0)) (LP := W162 N) (fu := fuelC) hT hO rfl rfl (Nat.le_of_ble_eq_true rfl) loopOK_nil ((e162 N _).trans h1)

def T142 (c21 : List Int → Bool → Option (Int × Int)) (c161 : Int → Option Bool) (c108 : List Int → Option (List Int)) : Nat → Option Ent
  | 21 => some (en21 c21)
  | 161 => some (en161 c161)
  | 108 => some (en108 c108)
  | _ => none
def W142 (c21 : List Int → Bool → Option (Int × Int)) (c161 : Int → Option Bool) (c108 : List Int → Option (List Int)) (N : Nat) : LoopF (((Sh.tu (Sh.pr (Sh.st (Sh.pr (Sh.int .u8) (Sh.sl (Sh.int .u8)))) (Sh.pr (Sh.int .i64) (Sh.int .i64))))).T) := fun no =>
  match no with
  | _ => fun _ _ => none
theorem e142 (c21 : List Int → Bool → Option (Int × Int)) (c161 : Int → Option Bool) (c108 : List Int → Option (List Int)) (N : Nat) (a0 : List Int) : evc (T142 c21 c161 c108) (rawOf RW0) (W142 c21 c161 c108 N) (retc k142.res (Sh.tu (Sh.pr (Sh.st (Sh.pr (Sh.int .u8) (Sh.sl (Sh.int .u8)))) (Sh.pr (Sh.int .i64) (Sh.int .i64))))) (modeOf FT) 0 fuelC k142.body (env0 k142 (encL [(Sh.sl (Sh.int .u8))] (a0, ())), []) (endK (retc k142.res (Sh.tu (Sh.pr (Sh.st (Sh.pr (Sh.int .u8) (Sh.sl (Sh.int .u8)))) (Sh.pr (Sh.int .i64) (Sh.int .i64)))))) = p142 c21 c161 c108 N a0 := by kernel_rfl
theorem ok142 (c21 : List Int → Bool → Option (Int × Int)) (c161 : Int → Option Bool) (c108 : List Int → Option (List Int)) (h21 : EntOK FT XT 21 (en21 c21)) (h161 : EntOK FT XT 161 (en161 c161)) (h108 : EntOK FT XT 108 (en108 c108)) {f : List Int → Option ((Int × (List Int)) × Int × Int)} (hf : ∀ a0 r, f a0 = some r → ∃ N, p142 c21 c161 c108 N a0 = some r) : EntOK FT XT 142 (en142 f) := by
  have hT : TabOK FT XT (T142 c21 c161 c108) := by
    intro g en hg
    unfold T142 at hg
    split at hg <;> first | (injection hg with hg; subst hg; assumption) | cases hg
  have hO0 : RawOK FT XT (rawOf (α := ((Sh.tu (Sh.pr (Sh.st (Sh.pr (Sh.int .u8) (Sh.sl (Sh.int .u8)))) (Sh.pr (Sh.int .i64) (Sh.int .i64))))).T) RW0) := rawOK0
  have hO : RawOK FT XT (rawOf (α := ((Sh.tu (Sh.pr (Sh.st (Sh.pr (Sh.int .u8) (Sh.sl (Sh.int .u8)))) (Sh.pr (Sh.int .i64) (Sh.int .i64))))).T) RW0) := hO0
  refine ⟨rfl, fun v r h => ?_⟩
  obtain ⟨a0, _⟩ := v
  obtain ⟨N, h1⟩ := hf _ _ h
  exact ans_c (R := (Sh.tu (Sh.pr (Sh.st (Sh.pr (Sh.int .u8) (Sh.sl (Sh.int .u8)))) (Sh.pr (Sh.int .i64) (Sh.int .i64))))) (tab := T142 c21 c161 c108) (raw := (rawOf RW0)) (LP := W142 c21 c161 c108 N) (fu := fuelC) hT hO rfl rfl (Nat.le_of_ble_eq_true rfl) loopOK_nil ((e142 c21 c161 c108 N _).trans h1)

def T143 (c51 : List Int → Option Int) (c162 : Int → Option Bool) : Nat → Option Ent
  | 51 => some (en51 c51)
  | 162 => some (en162 c162)
  | _ => none
def W143 (c51 : List Int → Option Int) (c162 : Int → Option Bool) (N : Nat) : LoopF (((Sh.tu (Sh.pr (Sh.st (Sh.pr (Sh.int .u8) (Sh.sl (Sh.int .u8)))) (Sh.pr (Sh.int .i64) (Sh.int .i64))))).T) := fun no =>
  match no with
  | _ => fun _ _ => none
theorem e143 (c51 : List Int → Option Int) (c162 : Int → Option Bool) (N : Nat) (a0 : List Int) : evc (T143 c51 c162) (rawOf RW0) (W143 c51 c162 N) (retc k143.res (Sh.tu (Sh.pr (Sh.st (Sh.pr (Sh.int .u8) (Sh.sl (Sh.int .u8)))) (Sh.pr (Sh.int .i64) (Sh.int .i64))))) (modeOf FT) 0 fuelC k143.body (env0 k143 (encL [(Sh.sl (Sh.int .u8))] (a0, ())), []) (endK (retc k143.res (Sh.tu (Sh.pr (Sh.st (Sh.pr (Sh.int .u8) (Sh.sl (Sh.int .u8)))) (Sh.pr (Sh.int .i64) (Sh.int .i64)))))) = p143 c51 c162 N a0 := by kernel_rfl
theorem ok143 (c51 : List Int → Option Int) (c162 : Int → Option Bool) (h51 : EntOK FT XT 51 (en51 c51)) (h162 : EntOK FT XT 162 (en162 c162)) {f : List Int → Option ((Int × (List Int)) × Int × Int)} (hf : ∀ a0 r, f a0 = some r → ∃ N, p143 c51 c162 N a0 = some r) : EntOK FT XT 143 (en143 f) := by
  have hT : TabOK FT XT (T143 c51 c162) := by
    intro g en hg
    unfold T143 at hg
    split at hg <;> first | (injection hg with hg; subst hg; assumption) | cases hg
  have hO0 : RawOK FT XT (rawOf (α := ((Sh.tu (Sh.pr (Sh.st (Sh.pr (Sh.int .u8) (Sh.sl (Sh.int .u8)))) (Sh.pr (Sh.int .i64) (Sh.int .i64))))).T) RW0) := rawOK0
  have hO : RawOK FT XT (rawOf (α := ((Sh.tu (Sh.pr (Sh.st (Sh.pr (Sh.int .u8) (Sh.sl (Sh.int .u8)))) (Sh.pr (Sh.int .i64) (Sh.int .i64))))).T) RW0) := hO0
  refine ⟨rfl, fun v r h => ?_⟩
  obtain ⟨a0, _⟩ := v
  obtain ⟨N, h1⟩ := hf _ _ h
  exact ans_c (R := (Sh.tu (Sh.pr (Sh.st (Sh.pr (Sh.int .u8) (Sh.sl (Sh.int .u8)))) (Sh.pr (Sh.int .i64) (Sh.int .i64))))) (tab := T143 c51 c162) (raw := (rawOf RW0)) (LP := W143 c51 c162 N) (fu := fuelC) hT hO rfl rfl (Nat.le_of_ble_eq_true rfl) loopOK_nil ((e143 c51 c162 N _).trans h1)

def T160 : Nat → Option Ent
  | _ => none
def W160 (N : Nat) : LoopF (Sh.bool).T := fun no =>
  match no with
  | _ => fun _ _ => none
theorem e160 (N : Nat) (a0 : List Int) (a1 : List Int) : evc (T160) (rawOf RW0) (W160 N) (retc k160.res Sh.bool) (modeOf FT) 0 fuelC k160.body (env0 k160 (encL [(Sh.sl (Sh.int .u8)), (Sh.sl (Sh.int .u8))] (a0, (a1, ()))), []) (endK (retc k160.res Sh.bool)) = p160 N a0 a1 := by kernel_rfl
theorem ok160 {f : List Int → List Int → Option Bool} (hf : ∀ a0 a1 r, f a0 a1 = some r → ∃ N, p160 N a0 a1 = some r) : EntOK FT XT 160 (en160 f) := by
  have hT : TabOK FT XT (T160) := by
    intro g en hg
    unfold T160 at hg
    split at hg <;> first | (injection hg with hg; subst hg; assumption) | cases hg
  have hO0 : RawOK FT XT (rawOf (α := (Sh.bool).T) RW0) := rawOK0
  have hO : RawOK FT XT (rawOf (α := (Sh.bool).T) RW0) := hO0
  refine ⟨rfl, fun v r h => ?_⟩
  obtain ⟨a0, a1, _⟩ := v
  obtain ⟨N, h1⟩ := hf _ _ _ h
  exact ans_c (R := Sh.bool) (tab := T160) (raw := (rawOf RW0)) (LP := W160 N) (fu := fuelC) hT hO rfl rfl (Nat.le_of_ble_eq_true rfl) loopOK_nil ((e160 N _ _).trans h1)

def T144 (c160 : List Int → List Int → Option Bool) : Nat → Option Ent
  | 160 => some (en160 c160)
  | _ => none
def W144 (c160 : List Int → List Int → Option Bool) (N : Nat) : LoopF (Sh.bool).T := fun no =>
  match no with
  | _ => fun _ _ => none
theorem e144 (c160 : List Int → List Int → Option Bool) (N : Nat) (a0 : Int × (List Int)) (a1 : Int × (List Int)) : evc (T144 c160) (rawOf RW0) (W144 c160 N) (retc k144.res Sh.bool) (modeOf FT) 0 fuelC k144.body (env0 k144 (encL [(Sh.st (Sh.pr (Sh.int .u8) (Sh.sl (Sh.int .u8)))), (Sh.st (Sh.pr (Sh.int .u8) (Sh.sl (Sh.int .u8))))] (a0, (a1, ()))), []) (endK (retc k144.res Sh.bool)) = p144 c160 N a0 a1 := by kernel_rfl
theorem ok144 (c160 : List Int → List Int → Option Bool) (h160 : EntOK FT XT 160 (en160 c160)) {f : Int × (List Int) → Int × (List Int) → Option Bool} (hf : ∀ a0 a1 r, f a0 a1 = some r → ∃ N, p144 c160 N a0 a1 = some r) : EntOK FT XT 144 (en144 f) := by
  have hT : TabOK FT XT (T144 c160) := by
    intro g en hg
    unfold T144 at hg
    split at hg <;> first | (injection hg with hg; subst hg; assumption) | cases hg
  have hO0 : RawOK FT XT (rawOf (α := (Sh.bool).T) RW0) := rawOK0
  have hO : RawOK FT XT (rawOf (α := (Sh.bool).T) RW0) := hO0
  refine ⟨rfl, fun v r h => ?_⟩
  obtain ⟨a0, a1, _⟩ := v
  obtain ⟨N, h1⟩ := hf _ _ _ h
  exact ans_c (R := Sh.bool) (tab := T144 c160) (raw := (rawOf RW0)) (LP := W144 c160 N) (fu := fuelC) hT hO rfl rfl (Nat.le_of_ble_eq_true rfl) loopOK_nil ((e144 c160 N _ _).trans h1)

def T313v0 (c144 : Int × (List Int) → Int × (List Int) → Option Bool) : Nat → Option Ent
  | 144 => some (en144 c144)
  | _ => none
def H313v0_0 : Trim := ⟨0, [], false, [1, 2, 15, 16, 17], []⟩
theorem l313v0_0 : loopN k313 0 = .loop H313v0_0 (bodyOf (loopN k313 0)) := by kernel_rfl
def P313v0_0 : Ps := ⟨[(0, .u), (1, (.tb (Sh.pr (Sh.int .u8) (Sh.sl (Sh.int .u8))))), (2, (.fn 144 .nil)), (6, .u), (7, .u), (8, .u), (9, .u), (14, .u), (15, (.tb (Sh.pr (Sh.int .u8) (Sh.sl (Sh.int .u8))))), (16, (.int .i64)), (17, (.int .i64)), (18, .u), (30, .u)], []⟩
def Q313v0_0 : Nat → Ps
  | 0 => ⟨[(0, .u), (1, .u), (2, .u), (6, .u), (7, .u), (8, .u), (9, .u), (14, .u), (15, .u), (16, .u), (17, .u), (18, .u), (30, .u)], []⟩
  | _ => noPs
def u313v0_0 (c144 : Int × (List Int) → Int × (List Int) → Option Bool) (N n : Nat) (v : P313v0_0.T) (κ : (i : Nat) → (Q313v0_0 i).T → Option QR313v0.T) : Option QR313v0.T :=
  L313v0_0 c144 N (κ 0 (((), ((), ((), ((), ((), ((), ((), ((), ((), ((), ((), ((), ((), ()))))))))))))), ())) n v.1.2.1 v.1.2.2.2.2.2.2.2.2.1 v.1.2.2.2.2.2.2.2.2.2.1 v.1.2.2.2.2.2.2.2.2.2.2.1
def W313v0_0 (c144 : Int × (List Int) → Int × (List Int) → Option Bool) (N : Nat) : LoopF QR313v0.T := fun no =>
  match no with
  | _ => fun _ _ => none
theorem b313v0_0 (c144 : Int × (List Int) → Int × (List Int) → Option Bool) (N n : Nat) (v : P313v0_0.T) (κ : (i : Nat) → (Q313v0_0 i).T → Option QR313v0.T) :
    evc (T313v0 c144) (rawOf RW0) (W313v0_0 c144 N) (retr k313.res 0 QR313v0) (modeOf FT) 0 fuelC (bodyOf (loopN k313 0)) (P313v0_0.st v) (roundK 0 H313v0_0 P313v0_0 Q313v0_0 (u313v0_0 c144 N n) κ) = u313v0_0 c144 N (n + 1) v κ := by kernel_rfl
theorem o313v0_0 (c144 : Int × (List Int) → Int × (List Int) → Option Bool) (hT : TabOK FT XT (T313v0 c144)) (hO : RawOK FT XT (rawOf (α := QR313v0.T) RW0)) (N : Nat) {s : St} {κ : Ex → St → Option QR313v0.T} {a : QR313v0.T} (h : lpOf 0 H313v0_0 P313v0_0 Q313v0_0 (u313v0_0 c144 N N) s κ = some a) : Out FT XT 0 (retr k313.res 0 QR313v0) (loopN k313 0) s κ a := by
  rw [l313v0_0]
  exact loop_out (LP := W313v0_0 c144 N) (fu := fuelC) hT hO (fun _ _ => rfl) (b313v0_0 c144 N) loopOK_nil N h
def W313v0 (c144 : Int × (List Int) → Int × (List Int) → Option Bool) (N : Nat) : LoopF QR313v0.T := fun no =>
  match no with
  | 0 => lpOf 0 H313v0_0 P313v0_0 Q313v0_0 (u313v0_0 c144 N N)
  | _ => fun _ _ => none
theorem e313v0 (c144 : Int × (List Int) → Int × (List Int) → Option Bool) (N : Nat) (v : PR313v0.T) : evc (T313v0 c144) (rawOf RW0) (W313v0 c144 N) (retr k313.res 0 QR313v0) (modeOf FT) 0 fuelC k313.body (env0 k313 (PR313v0.a.st v.1), stH PR313v0.h v.2) (endK (retr k313.res 0 QR313v0)) = p313v0 c144 N v.1.1 v.1.2.1 := by kernel_rfl
theorem ok313v0 (c144 : Int × (List Int) → Int × (List Int) → Option Bool) (h144 : EntOK FT XT 144 (en144 c144)) {f : List (Int × (List Int)) → List (Int × (List Int)) → Option ((Bool × Unit) × Unit)} (hf : ∀ a0 a1 r, f a0 a1 = some r → ∃ N, p313v0 c144 N a0 a1 = some r) : REntOK FT XT 313 (rn313v0 f) := by
  have hT : TabOK FT XT (T313v0 c144) := by
    intro g en hg
    unfold T313v0 at hg
    split at hg <;> first | (injection hg with hg; subst hg; assumption) | cases hg
  have hO0 : RawOK FT XT (rawOf (α := QR313v0.T) RW0) := rawOK0
  have hO : RawOK FT XT (rawOf (α := QR313v0.T) RW0) := hO0
  intro v r w h hw
  obtain ⟨N, h1⟩ := hf _ _ _ h
  exact ans_r (Q := QR313v0) (tab := T313v0 c144) (raw := (rawOf RW0)) (LP := W313v0 c144 N) (fu := fuelC) hT hO rfl rfl (Nat.le_of_ble_eq_true rfl) rfl (loopOK_cons l313v0_0 (fun s κ a h => o313v0_0 c144 hT hO N h) loopOK_nil) ((e313v0 c144 N v).trans h1) hw

def T302 (d313v0 : List (Int × (List Int)) → List (Int × (List Int)) → Option ((Bool × Unit) × Unit)) (c160 : List Int → List Int → Option Bool) : Nat → Option Ent
  | 160 => some (en160 c160)
  | _ => none
def RW302 (d313v0 : List (Int × (List Int)) → List (Int × (List Int)) → Option ((Bool × Unit) × Unit)) (c160 : List Int → List Int → Option Bool) : Nat → List REnt
  | 313 => [rn313v0 d313v0]
  | _ => []
def W302 (d313v0 : List (Int × (List Int)) → List (Int × (List Int)) → Option ((Bool × Unit) × Unit)) (c160 : List Int → List Int → Option Bool) (N : Nat) : LoopF (Sh.bool).T := fun no =>
  match no with
  | _ => fun _ _ => none
theorem e302 (d313v0 : List (Int × (List Int)) → List (Int × (List Int)) → Option ((Bool × Unit) × Unit)) (c160 : List Int → List Int → Option Bool) (N : Nat) (a0 : Bool × Int × (List (Int × (List Int))) × (List Int)) (a1 : Bool × Int × (List (Int × (List Int))) × (List Int)) : evc (T302 d313v0 c160) (rawOf (RW302 d313v0 c160)) (W302 d313v0 c160 N) (retc k302.res Sh.bool) (modeOf FT) 0 fuelC k302.body (env0 k302 (encL [(Sh.st (Sh.pr Sh.bool (Sh.pr (Sh.int .u16) (Sh.pr (Sh.sl (Sh.pr (Sh.int .u8) (Sh.sl (Sh.int .u8)))) (Sh.sl (Sh.int .u8)))))), (Sh.st (Sh.pr Sh.bool (Sh.pr (Sh.int .u16) (Sh.pr (Sh.sl (Sh.pr (Sh.int .u8) (Sh.sl (Sh.int .u8)))) (Sh.sl (Sh.int .u8))))))] (a0, (a1, ()))), []) (endK (retc k302.res Sh.bool)) = p302 d313v0 c160 N a0 a1 := by kernel_rfl
theorem ok302 (d313v0 : List (Int × (List Int)) → List (Int × (List Int)) → Option ((Bool × Unit) × Unit)) (c160 : List Int → List Int → Option Bool) (h160 : EntOK FT XT 160 (en160 c160)) (h313v0 : REntOK FT XT 313 (rn313v0 d313v0)) {f : Bool × Int × (List (Int × (List Int))) × (List Int) → Bool × Int × (List (Int × (List Int))) × (List Int) → Option Bool} (hf : ∀ a0 a1 r, f a0 a1 = some r → ∃ N, p302 d313v0 c160 N a0 a1 = some r) : EntOK FT XT 302 (en302 f) := by
  have hT : TabOK FT XT (T302 d313v0 c160) := by
    intro g en hg
    unfold T302 at hg
    split at hg <;> first | (injection hg with hg; subst hg; assumption) | cases hg
  have hO0 : RawOK FT XT (rawOf (α := (Sh.bool).T) (RW302 d313v0 c160)) := by
    refine rawOf_ok (fun g en hg => ?_)
    unfold RW302 at hg
    split at hg <;> simp only [List.mem_cons, List.not_mem_nil, or_false] at hg <;> first | (subst hg; assumption) | (rcases hg with rfl | rfl <;> assumption) | (rcases hg with rfl | rfl | rfl <;> assumption) | (rcases hg with rfl | rfl | rfl | rfl <;> assumption)
  have hO : RawOK FT XT (rawOf (α := (Sh.bool).T) (RW302 d313v0 c160)) := hO0
  refine ⟨rfl, fun v r h => ?_⟩
  obtain ⟨a0, a1, _⟩ := v
  obtain ⟨N, h1⟩ := hf _ _ _ h
  exact ans_c (R := Sh.bool) (tab := T302 d313v0 c160) (raw := (rawOf (RW302 d313v0 c160))) (LP := W302 d313v0 c160 N) (fu := fuelC) hT hO rfl rfl (Nat.le_of_ble_eq_true rfl) loopOK_nil ((e302 d313v0 c160 N _ _).trans h1)

def T316 (c320 : List (Int × (List Int)) → Option (List (Int × (List Int)))) : Nat → Option Ent
  | 320 => some (en320 c320)
  | _ => none
def W316 (c320 : List (Int × (List Int)) → Option (List (Int × (List Int)))) (N : Nat) : LoopF (((Sh.st (Sh.pr Sh.bool (Sh.pr (Sh.int .u16) (Sh.pr (Sh.sl (Sh.pr (Sh.int .u8) (Sh.sl (Sh.int .u8)))) (Sh.sl (Sh.int .u8))))))).T) := fun no =>
  match no with
  | _ => fun _ _ => none
theorem e316 (c320 : List (Int × (List Int)) → Option (List (Int × (List Int)))) (N : Nat) (a0 : Int) (a1 : List (Int × (List Int))) : evc (T316 c320) (rawOf RW0) (W316 c320 N) (retc k316.res (Sh.st (Sh.pr Sh.bool (Sh.pr (Sh.int .u16) (Sh.pr (Sh.sl (Sh.pr (Sh.int .u8) (Sh.sl (Sh.int .u8)))) (Sh.sl (Sh.int .u8))))))) (modeOf FT) 0 fuelC k316.body (env0 k316 (encL [(Sh.int .u16), (Sh.sl (Sh.pr (Sh.int .u8) (Sh.sl (Sh.int .u8))))] (a0, (a1, ()))), []) (endK (retc k316.res (Sh.st (Sh.pr Sh.bool (Sh.pr (Sh.int .u16) (Sh.pr (Sh.sl (Sh.pr (Sh.int .u8) (Sh.sl (Sh.int .u8)))) (Sh.sl (Sh.int .u8)))))))) = p316 c320 N a0 a1 := by kernel_rfl
theorem ok316 (c320 : List (Int × (List Int)) → Option (List (Int × (List Int)))) (h320 : EntOK FT XT 320 (en320 c320)) {f : Int → List (Int × (List Int)) → Option (Bool × Int × (List (Int × (List Int))) × (List Int))} (hf : ∀ a0 a1 r, f a0 a1 = some r → ∃ N, p316 c320 N a0 a1 = some r) : EntOK FT XT 316 (en316 f) := by
  have hT : TabOK FT XT (T316 c320) := by
    intro g en hg
    unfold T316 at hg
    split at hg <;> first | (injection hg with hg; subst hg; assumption) | cases hg
  have hO0 : RawOK FT XT (rawOf (α := ((Sh.st (Sh.pr Sh.bool (Sh.pr (Sh.int .u16) (Sh.pr (Sh.sl (Sh.pr (Sh.int .u8) (Sh.sl (Sh.int .u8)))) (Sh.sl (Sh.int .u8))))))).T) RW0) := rawOK0
  have hO : RawOK FT XT (rawOf (α := ((Sh.st (Sh.pr Sh.bool (Sh.pr (Sh.int .u16) (Sh.pr (Sh.sl (Sh.pr (Sh.int .u8) (Sh.sl (Sh.int .u8)))) (Sh.sl (Sh.int .u8))))))).T) RW0) := hO0
  refine ⟨rfl, fun v r h => ?_⟩
  obtain ⟨a0, a1, _⟩ := v
  obtain ⟨N, h1⟩ := hf _ _ _ h
  exact ans_c (R := (Sh.st (Sh.pr Sh.bool (Sh.pr (Sh.int .u16) (Sh.pr (Sh.sl (Sh.pr (Sh.int .u8) (Sh.sl (Sh.int .u8)))) (Sh.sl (Sh.int .u8))))))) (tab := T316 c320) (raw := (rawOf RW0)) (LP := W316 c320 N) (fu := fuelC) hT hO rfl rfl (Nat.le_of_ble_eq_true rfl) loopOK_nil ((e316 c320 N _ _).trans h1)

def T322 (c19 : Int → Int → Bool → Option ((List Int) × Int)) : Nat → Option Ent
  | 19 => some (en19 c19)
  | _ => none
def W322 (c19 : Int → Int → Bool → Option ((List Int) × Int)) (N : Nat) : LoopF (((Sh.sl (Sh.int .u8))).T) := fun no =>
  match no with
  | _ => fun _ _ => none
theorem e322 (c19 : Int → Int → Bool → Option ((List Int) × Int)) (N : Nat) (a0 : Int) : evc (T322 c19) (rawOf RW0) (W322 c19 N) (retc k322.res (Sh.sl (Sh.int .u8))) (modeOf FT) 0 fuelC k322.body (env0 k322 (encL [(Sh.int .i64)] (a0, ())), []) (endK (retc k322.res (Sh.sl (Sh.int .u8)))) = p322 c19 N a0 := by kernel_rfl
theorem ok322 (c19 : Int → Int → Bool → Option ((List Int) × Int)) (h19 : EntOK FT XT 19 (en19 c19)) {f : Int → Option (List Int)} (hf : ∀ a0 r, f a0 = some r → ∃ N, p322 c19 N a0 = some r) : EntOK FT XT 322 (en322 f) := by
  have hT : TabOK FT XT (T322 c19) := by
    intro g en hg
    unfold T322 at hg
    split at hg <;> first | (injection hg with hg; subst hg; assumption) | cases hg
  have hO0 : RawOK FT XT (rawOf (α := ((Sh.sl (Sh.int .u8))).T) RW0) := rawOK0
  have hO : RawOK FT XT (rawOf (α := ((Sh.sl (Sh.int .u8))).T) RW0) := hO0
  refine ⟨rfl, fun v r h => ?_⟩
  obtain ⟨a0, _⟩ := v
  obtain ⟨N, h1⟩ := hf _ _ h
  exact ans_c (R := (Sh.sl (Sh.int .u8))) (tab := T322 c19) (raw := (rawOf RW0)) (LP := W322 c19 N) (fu := fuelC) hT hO rfl rfl (Nat.le_of_ble_eq_true rfl) loopOK_nil ((e322 c19 N _).trans h1)

def T321 (c322 : Int → Option (List Int)) (c46 : List (List Int) → Option (List Int)) (c139 : Int × (List Int) → Option ((List Int) × Int)) : Nat → Option Ent
  | 322 => some (en322 c322)
  | 46 => some (en46 c46)
  | 139 => some (en139 c139)
  | _ => none
def H321_0 : Trim := ⟨0, [], false, [4, 41, 42, 43], []⟩
theorem l321_0 : loopN k321 0 = .loop H321_0 (bodyOf (loopN k321 0)) := by kernel_rfl
def P321_0 : Ps := ⟨[(0, .u), (1, .u), (2, .u), (3, .u), (4, (.sl 0 1)), (6, .u), (7, .u), (8, .u), (9, .u), (19, .u), (25, .u), (41, (.tb (Sh.pr (Sh.int .u8) (Sh.sl (Sh.int .u8))))), (42, (.int .i64)), (43, (.int .i64)), (44, .u), (53, .u)], [(.ints false .u8)]⟩
def Q321_0 : Nat → Ps
  | 1 => ⟨[(0, .u), (1, .u), (2, .u), (3, .u), (4, (.sl 0 1)), (6, .u), (7, .u), (8, .u), (9, .u), (19, .u), (25, .u), (41, .u), (42, .u), (43, .u), (44, .u), (53, .u)], [(.ints false .u8)]⟩
  | _ => noPs
def u321_0 (c322 : Int → Option (List Int)) (c46 : List (List Int) → Option (List Int)) (c139 : Int × (List Int) → Option ((List Int) × Int)) (N n : Nat) (v : P321_0.T) (κ : (i : Nat) → (Q321_0 i).T → Option (((Sh.tu (Sh.pr (Sh.sl (Sh.int .u8)) (Sh.int .i64)))).T)) : Option (((Sh.tu (Sh.pr (Sh.sl (Sh.int .u8)) (Sh.int .i64)))).T) :=
  L321_0 c322 c46 c139 N (fun (y0 : Nat) (y1 : List Int) => κ 1 (((), ((), ((), ((), (y0, ((), ((), ((), ((), ((), ((), ((), ((), ((), ((), ((), ())))))))))))))))), (y1, ()))) n v.1.2.2.2.2.1 v.1.2.2.2.2.2.2.2.2.2.2.2.1 v.1.2.2.2.2.2.2.2.2.2.2.2.2.1 v.1.2.2.2.2.2.2.2.2.2.2.2.2.2.1 v.2.1
def W321_0 (c322 : Int → Option (List Int)) (c46 : List (List Int) → Option (List Int)) (c139 : Int × (List Int) → Option ((List Int) × Int)) (N : Nat) : LoopF (((Sh.tu (Sh.pr (Sh.sl (Sh.int .u8)) (Sh.int .i64)))).T) := fun no =>
  match no with
  | _ => fun _ _ => none
theorem b321_0 (c322 : Int → Option (List Int)) (c46 : List (List Int) → Option (List Int)) (c139 : Int × (List Int) → Option ((List Int) × Int)) (N n : Nat) (v : P321_0.T) (κ : (i : Nat) → (Q321_0 i).T → Option (((Sh.tu (Sh.pr (Sh.sl (Sh.int .u8)) (Sh.int .i64)))).T)) :
    evc (T321 c322 c46 c139) (rawOf RW0) (W321_0 c322 c46 c139 N) (retc k321.res (Sh.tu (Sh.pr (Sh.sl (Sh.int .u8)) (Sh.int .i64)))) (modeOf FT) 0 fuelC (bodyOf (loopN k321 0)) (P321_0.st v) (roundK 0 H321_0 P321_0 Q321_0 (u321_0 c322 c46 c139 N n) κ) = u321_0 c322 c46 c139 N (n + 1) v κ := by kernel_rfl
theorem o321_0 (c322 : Int → Option (List Int)) (c46 : List (List Int) → Option (List Int)) (c139 : Int × (List Int) → Option ((List Int) × Int)) (hT : TabOK FT XT (T321 c322 c46 c139)) (hO : RawOK FT XT (rawOf (α := ((Sh.tu (Sh.pr (Sh.sl (Sh.int .u8)) (Sh.int .i64)))).T) RW0)) (N : Nat) {s : St} {κ : Ex → St → Option (((Sh.tu (Sh.pr (Sh.sl (Sh.int .u8)) (Sh.int .i64)))).T)} {a : ((Sh.tu (Sh.pr (Sh.sl (Sh.int .u8)) (Sh.int .i64)))).T} (h : lpOf 0 H321_0 P321_0 Q321_0 (u321_0 c322 c46 c139 N N) s κ = some a) : Out FT XT 0 (retc k321.res (Sh.tu (Sh.pr (Sh.sl (Sh.int .u8)) (Sh.int .i64)))) (loopN k321 0) s κ a := by
  rw [l321_0]
  exact loop_out (LP := W321_0 c322 c46 c139 N) (fu := fuelC) hT hO (fun _ _ => rfl) (b321_0 c322 c46 c139 N) loopOK_nil N h
def W321 (c322 : Int → Option (List Int)) (c46 : List (List Int) → Option (List Int)) (c139 : Int × (List Int) → Option ((List Int) × Int)) (N : Nat) : LoopF (((Sh.tu (Sh.pr (Sh.sl (Sh.int .u8)) (Sh.int .i64)))).T) := fun no =>
  match no with
  | 0 => lpOf 0 H321_0 P321_0 Q321_0 (u321_0 c322 c46 c139 N N)
  | _ => fun _ _ => none
theorem e321 (c322 : Int → Option (List Int)) (c46 : List (List Int) → Option (List Int)) (c139 : Int × (List Int) → Option ((List Int) × Int)) (N : Nat) (a0 : Bool × Int × (List (Int × (List Int))) × (List Int)) : evc (T321 c322 c46 c139) (rawOf RW0) (W321 c322 c46 c139 N) (retc k321.res (Sh.tu (Sh.pr (Sh.sl (Sh.int .u8)) (Sh.int .i64)))) (modeOf FT) 0 fuelC k321.body (env0 k321 (encL [(Sh.st (Sh.pr Sh.bool (Sh.pr (Sh.int .u16) (Sh.pr (Sh.sl (Sh.pr (Sh.int .u8) (Sh.sl (Sh.int .u8)))) (Sh.sl (Sh.int .u8))))))] (a0, ())), []) (endK (retc k321.res (Sh.tu (Sh.pr (Sh.sl (Sh.int .u8)) (Sh.int .i64))))) = p321 c322 c46 c139 N a0 := by kernel_rfl
theorem ok321 (c322 : Int → Option (List Int)) (c46 : List (List Int) → Option (List Int)) (c139 : Int × (List Int) → Option ((List Int) × Int)) (h322 : EntOK FT XT 322 (en322 c322)) (h46 : EntOK FT XT 46 (en46 c46)) (h139 : EntOK FT XT 139 (en139 c139)) {f : Bool × Int × (List (Int × (List Int))) × (List Int) → Option ((List Int) × Int)} (hf : ∀ a0 r, f a0 = some r → ∃ N, p321 c322 c46 c139 N a0 = some r) : EntOK FT XT 321 (en321 f) := by
  have hT : TabOK FT XT (T321 c322 c46 c139) := by
    intro g en hg
    unfold T321 at hg
    split at hg <;> first | (injection hg with hg; subst hg; assumption) | cases hg
  have hO0 : RawOK FT XT (rawOf (α := ((Sh.tu (Sh.pr (Sh.sl (Sh.int .u8)) (Sh.int .i64)))).T) RW0) := rawOK0
  have hO : RawOK FT XT (rawOf (α := ((Sh.tu (Sh.pr (Sh.sl (Sh.int .u8)) (Sh.int .i64)))).T) RW0) := hO0
  refine ⟨rfl, fun v r h => ?_⟩
  obtain ⟨a0, _⟩ := v
  obtain ⟨N, h1⟩ := hf _ _ h
  exact ans_c (R := (Sh.tu (Sh.pr (Sh.sl (Sh.int .u8)) (Sh.int .i64)))) (tab := T321 c322 c46 c139) (raw := (rawOf RW0)) (LP := W321 c322 c46 c139 N) (fu := fuelC) hT hO rfl rfl (Nat.le_of_ble_eq_true rfl) (loopOK_cons l321_0 (fun s κ a h => o321_0 c322 c46 c139 hT hO N h) loopOK_nil) ((e321 c322 c46 c139 N _).trans h1)

def T317 (c321 : Bool × Int × (List (Int × (List Int))) × (List Int) → Option ((List Int) × Int)) (c322 : Int → Option (List Int)) (c46 : List (List Int) → Option (List Int)) : Nat → Option Ent
  | 321 => some (en321 c321)
  | 322 => some (en322 c322)
  | 46 => some (en46 c46)
  | _ => none
def W317 (c321 : Bool × Int × (List (Int × (List Int))) × (List Int) → Option ((List Int) × Int)) (c322 : Int → Option (List Int)) (c46 : List (List Int) → Option (List Int)) (N : Nat) : LoopF (((Sh.tu (Sh.pr (Sh.sl (Sh.int .u8)) (Sh.int .i64)))).T) := fun no =>
  match no with
  | _ => fun _ _ => none
theorem e317 (c321 : Bool × Int × (List (Int × (List Int))) × (List Int) → Option ((List Int) × Int)) (c322 : Int → Option (List Int)) (c46 : List (List Int) → Option (List Int)) (N : Nat) (a0 : Bool × Int × (List (Int × (List Int))) × (List Int)) : evc (T317 c321 c322 c46) (rawOf RW0) (W317 c321 c322 c46 N) (retc k317.res (Sh.tu (Sh.pr (Sh.sl (Sh.int .u8)) (Sh.int .i64)))) (modeOf FT) 0 fuelC k317.body (env0 k317 (encL [(Sh.st (Sh.pr Sh.bool (Sh.pr (Sh.int .u16) (Sh.pr (Sh.sl (Sh.pr (Sh.int .u8) (Sh.sl (Sh.int .u8)))) (Sh.sl (Sh.int .u8))))))] (a0, ())), []) (endK (retc k317.res (Sh.tu (Sh.pr (Sh.sl (Sh.int .u8)) (Sh.int .i64))))) = p317 c321 c322 c46 N a0 := by kernel_rfl
theorem ok317 (c321 : Bool × Int × (List (Int × (List Int))) × (List Int) → Option ((List Int) × Int)) (c322 : Int → Option (List Int)) (c46 : List (List Int) → Option (List Int)) (h321 : EntOK FT XT 321 (en321 c321)) (h322 : EntOK FT XT 322 (en322 c322)) (h46 : EntOK FT XT 46 (en46 c46)) {f : Bool × Int × (List (Int × (List Int))) × (List Int) → Option ((List Int) × Int)} (hf : ∀ a0 r, f a0 = some r → ∃ N, p317 c321 c322 c46 N a0 = some r) : EntOK FT XT 317 (en317 f) := by
  have hT : TabOK FT XT (T317 c321 c322 c46) := by
    intro g en hg
    unfold T317 at hg
    split at hg <;> first | (injection hg with hg; subst hg; assumption) | cases hg
  have hO0 : RawOK FT XT (rawOf (α := ((Sh.tu (Sh.pr (Sh.sl (Sh.int .u8)) (Sh.int .i64)))).T) RW0) := rawOK0
  have hO : RawOK FT XT (rawOf (α := ((Sh.tu (Sh.pr (Sh.sl (Sh.int .u8)) (Sh.int .i64)))).T) RW0) := hO0
  refine ⟨rfl, fun v r h => ?_⟩
  obtain ⟨a0, _⟩ := v
  obtain ⟨N, h1⟩ := hf _ _ h
  exact ans_c (R := (Sh.tu (Sh.pr (Sh.sl (Sh.int .u8)) (Sh.int .i64)))) (tab := T317 c321 c322 c46) (raw := (rawOf RW0)) (LP := W317 c321 c322 c46 N) (fu := fuelC) hT hO rfl rfl (Nat.le_of_ble_eq_true rfl) loopOK_nil ((e317 c321 c322 c46 N _).trans h1)

def T343 (c21 : List Int → Bool → Option (Int × Int)) : Nat → Option Ent
  | 21 => some (en21 c21)
  | _ => none
def W343 (c21 : List Int → Bool → Option (Int × Int)) (N : Nat) : LoopF (((Sh.tu (Sh.pr (Sh.int .i64) (Sh.int .i64)))).T) := fun no =>
  match no with
  | _ => fun _ _ => none
theorem e343 (c21 : List Int → Bool → Option (Int × Int)) (N : Nat) (a0 : List Int) : evc (T343 c21) (rawOf RW0) (W343 c21 N) (retc k343.res (Sh.tu (Sh.pr (Sh.int .i64) (Sh.int .i64)))) (modeOf FT) 0 fuelC k343.body (env0 k343 (encL [(Sh.sl (Sh.int .u8))] (a0, ())), []) (endK (retc k343.res (Sh.tu (Sh.pr (Sh.int .i64) (Sh.int .i64))))) = p343 c21 N a0 := by kernel_rfl
theorem ok343 (c21 : List Int → Bool → Option (Int × Int)) (h21 : EntOK FT XT 21 (en21 c21)) {f : List Int → Option (Int × Int)} (hf : ∀ a0 r, f a0 = some r → ∃ N, p343 c21 N a0 = some r) : EntOK FT XT 343 (en343 f) := by
  have hT : TabOK FT XT (T343 c21) := by
    intro g en hg
    unfold T343 at hg
    split at hg <;> first | (injection hg with hg; subst hg; assumption) | cases hg
  have hO0 : RawOK FT XT (rawOf (α := ((Sh.tu (Sh.pr (Sh.int .i64) (Sh.int .i64)))).T) RW0) := rawOK0
  have hO : RawOK FT XT (rawOf (α := ((Sh.tu (Sh.pr (Sh.int .i64) (Sh.int .i64)))).T) RW0) := hO0
  refine ⟨rfl, fun v r h => ?_⟩
  obtain ⟨a0, _⟩ := v
  obtain ⟨N, h1⟩ := hf _ _ h
  exact ans_c (R := (Sh.tu (Sh.pr (Sh.int .i64) (Sh.int .i64)))) (tab := T343 c21) (raw := (rawOf RW0)) (LP := W343 c21 N) (fu := fuelC) hT hO rfl rfl (Nat.le_of_ble_eq_true rfl) loopOK_nil ((e343 c21 N _).trans h1)

def T346 (c108 : List Int → Option (List Int)) : Nat → Option Ent
  | 108 => some (en108 c108)
  | _ => none
def W346 (c108 : List Int → Option (List Int)) (N : Nat) : LoopF (((Sh.st (Sh.pr Sh.bool (Sh.pr (Sh.int .u16) (Sh.pr (Sh.sl (Sh.pr (Sh.int .u8) (Sh.sl (Sh.int .u8)))) (Sh.sl (Sh.int .u8))))))).T) := fun no =>
  match no with
  | _ => fun _ _ => none
theorem e346 (c108 : List Int → Option (List Int)) (N : Nat) (a0 : List Int) : evc (T346 c108) (rawOf RW0) (W346 c108 N) (retc k346.res (Sh.st (Sh.pr Sh.bool (Sh.pr (Sh.int .u16) (Sh.pr (Sh.sl (Sh.pr (Sh.int .u8) (Sh.sl (Sh.int .u8)))) (Sh.sl (Sh.int .u8))))))) (modeOf FT) 0 fuelC k346.body (env0 k346 (encL [(Sh.sl (Sh.int .u8))] (a0, ())), []) (endK (retc k346.res (Sh.st (Sh.pr Sh.bool (Sh.pr (Sh.int .u16) (Sh.pr (Sh.sl (Sh.pr (Sh.int .u8) (Sh.sl (Sh.int .u8)))) (Sh.sl (Sh.int .u8)))))))) = p346 c108 N a0 := by kernel_rfl
theorem ok346 (c108 : List Int → Option (List Int)) (h108 : EntOK FT XT 108 (en108 c108)) {f : List Int → Option (Bool × Int × (List (Int × (List Int))) × (List Int))} (hf : ∀ a0 r, f a0 = some r → ∃ N, p346 c108 N a0 = some r) : EntOK FT XT 346 (en346 f) := by
  have hT : TabOK FT XT (T346 c108) := by
    intro g en hg
    unfold T346 at hg
    split at hg <;> first | (injection hg with hg; subst hg; assumption) | cases hg
  have hO0 : RawOK FT XT (rawOf (α := ((Sh.st (Sh.pr Sh.bool (Sh.pr (Sh.int .u16) (Sh.pr (Sh.sl (Sh.pr (Sh.int .u8) (Sh.sl (Sh.int .u8)))) (Sh.sl (Sh.int .u8))))))).T) RW0) := rawOK0
  have hO : RawOK FT XT (rawOf (α := ((Sh.st (Sh.pr Sh.bool (Sh.pr (Sh.int .u16) (Sh.pr (Sh.sl (Sh.pr (Sh.int .u8) (Sh.sl (Sh.int .u8)))) (Sh.sl (Sh.int .u8))))))).T) RW0) := hO0
  refine ⟨rfl, fun v r h => ?_⟩
  obtain ⟨a0, _⟩ := v
  obtain ⟨N, h1⟩ := hf _ _ h
  exact ans_c (R := (Sh.st (Sh.pr Sh.bool (Sh.pr (Sh.int .u16) (Sh.pr (Sh.sl (Sh.pr (Sh.int .u8) (Sh.sl (Sh.int .u8)))) (Sh.sl (Sh.int .u8))))))) (tab := T346 c108) (raw := (rawOf RW0)) (LP := W346 c108 N) (fu := fuelC) hT hO rfl rfl (Nat.le_of_ble_eq_true rfl) loopOK_nil ((e346 c108 N _).trans h1)

def T359 (c142 : List Int → Option ((Int × (List Int)) × Int × Int)) : Nat → Option Ent
  | 142 => some (en142 c142)
  | _ => none
def H359_0 : Trim := ⟨0, [], false, [0, 6, 12, 13], [(6, (.imm []), 2)]⟩
theorem l359_0 : loopN k359 0 = .loop H359_0 (bodyOf (loopN k359 0)) := by kernel_rfl
def P359_0 : Ps := ⟨[(0, (.tb (Sh.int .u8))), (1, .u), (4, .u), (5, .u), (6, (.sl 0 2)), (7, .u), (8, .u), (9, .u), (11, .u), (12, (.int .u64)), (13, (.int .u64)), (14, .u), (22, .u), (34, .u)], [(.imm false)]⟩
def Q359_0 : Nat → Ps
  | 0 => ⟨[(0, (.tb (Sh.int .u8))), (1, .u), (4, .u), (5, .u), (6, (.sl 0 2)), (7, .u), (8, .u), (9, .u), (11, .u), (12, .u), (13, .u), (14, .u), (22, .u), (34, .u)], [(.imm false)]⟩
  | _ => noPs
def u359_0 (c142 : List Int → Option ((Int × (List Int)) × Int × Int)) (N n : Nat) (v : P359_0.T) (κ : (i : Nat) → (Q359_0 i).T → Option (((Sh.tu (Sh.pr (Sh.sl (Sh.pr (Sh.int .u8) (Sh.sl (Sh.int .u8)))) (Sh.int .i64)))).T)) : Option (((Sh.tu (Sh.pr (Sh.sl (Sh.pr (Sh.int .u8) (Sh.sl (Sh.int .u8)))) (Sh.int .i64)))).T) :=
  L359_0 c142 N (fun (y0 : List Int) (y1 : Nat) (y2 : List V) => κ 0 ((y0, ((), ((), ((), (y1, ((), ((), ((), ((), ((), ((), ((), ((), ((), ())))))))))))))), (y2, ()))) n v.1.1 v.1.2.2.2.2.1 v.1.2.2.2.2.2.2.2.2.2.1 v.1.2.2.2.2.2.2.2.2.2.2.1 v.2.1
def W359_0 (c142 : List Int → Option ((Int × (List Int)) × Int × Int)) (N : Nat) : LoopF (((Sh.tu (Sh.pr (Sh.sl (Sh.pr (Sh.int .u8) (Sh.sl (Sh.int .u8)))) (Sh.int .i64)))).T) := fun no =>
  match no with
  | _ => fun _ _ => none
theorem b359_0 (c142 : List Int → Option ((Int × (List Int)) × Int × Int)) (N n : Nat) (v : P359_0.T) (κ : (i : Nat) → (Q359_0 i).T → Option (((Sh.tu (Sh.pr (Sh.sl (Sh.pr (Sh.int .u8) (Sh.sl (Sh.int .u8)))) (Sh.int .i64)))).T)) :
    evc (T359 c142) (rawOf RW0) (W359_0 c142 N) (retc k359.res (Sh.tu (Sh.pr (Sh.sl (Sh.pr (Sh.int .u8) (Sh.sl (Sh.int .u8)))) (Sh.int .i64)))) (modeOf FT) 0 fuelC (bodyOf (loopN k359 0)) (P359_0.st v) (roundK 0 H359_0 P359_0 Q359_0 (u359_0 c142 N n) κ) = u359_0 c142 N (n + 1) v κ := by kernel_rfl
theorem o359_0 (c142 : List Int → Option ((Int × (List Int)) × Int × Int)) (hT : TabOK FT XT (T359 c142)) (hO : RawOK FT XT (rawOf (α := ((Sh.tu (Sh.pr (Sh.sl (Sh.pr (Sh.int .u8) (Sh.sl (Sh.int .u8)))) (Sh.int .i64)))).T) RW0)) (N : Nat) {s : St} {κ : Ex → St → Option (((Sh.tu (Sh.pr (Sh.sl (Sh.pr (Sh.int .u8) (Sh.sl (Sh.int .u8)))) (Sh.int .i64)))).T)} {a : ((Sh.tu (Sh.pr (Sh.sl (Sh.pr (Sh.int .u8) (Sh.sl (Sh.int .u8)))) (Sh.int .i64)))).T} (h : lpOf 0 H359_0 P359_0 Q359_0 (u359_0 c142 N N) s κ = some a) : Out FT XT 0 (retc k359.res (Sh.tu (Sh.pr (Sh.sl (Sh.pr (Sh.int .u8) (Sh.sl (Sh.int .u8)))) (Sh.int .i64)))) (loopN k359 0) s κ a := by
  rw [l359_0]
  exact loop_out (LP := W359_0 c142 N) (fu := fuelC) hT hO (fun _ _ => rfl) (b359_0 c142 N) loopOK_nil N h
def W359 (c142 : List Int → Option ((Int × (List Int)) × Int × Int)) (N : Nat) : LoopF (((Sh.tu (Sh.pr (Sh.sl (Sh.pr (Sh.int .u8) (Sh.sl (Sh.int .u8)))) (Sh.int .i64)))).T) := fun no =>
  match no with
  | 0 => lpOf 0 H359_0 P359_0 Q359_0 (u359_0 c142 N N)
  | _ => fun _ _ => none
theorem e359 (c142 : List Int → Option ((Int × (List Int)) × Int × Int)) (N : Nat) (a0 : List Int) (a1 : Int) : evc (T359 c142) (rawOf RW0) (W359 c142 N) (retc k359.res (Sh.tu (Sh.pr (Sh.sl (Sh.pr (Sh.int .u8) (Sh.sl (Sh.int .u8)))) (Sh.int .i64)))) (modeOf FT) 0 fuelC k359.body (env0 k359 (encL [(Sh.sl (Sh.int .u8)), (Sh.int .u64)] (a0, (a1, ()))), []) (endK (retc k359.res (Sh.tu (Sh.pr (Sh.sl (Sh.pr (Sh.int .u8) (Sh.sl (Sh.int .u8)))) (Sh.int .i64))))) = p359 c142 N a0 a1 := by kernel_rfl
theorem ok359 (c142 : List Int → Option ((Int × (List Int)) × Int × Int)) (h142 : EntOK FT XT 142 (en142 c142)) {f : List Int → Int → Option ((List (Int × (List Int))) × Int)} (hf : ∀ a0 a1 r, f a0 a1 = some r → ∃ N, p359 c142 N a0 a1 = some r) : EntOK FT XT 359 (en359 f) := by
  have hT : TabOK FT XT (T359 c142) := by
    intro g en hg
    unfold T359 at hg
    split at hg <;> first | (injection hg with hg; subst hg; assumption) | cases hg
  have hO0 : RawOK FT XT (rawOf (α := ((Sh.tu (Sh.pr (Sh.sl (Sh.pr (Sh.int .u8) (Sh.sl (Sh.int .u8)))) (Sh.int .i64)))).T) RW0) := rawOK0
  have hO : RawOK FT XT (rawOf (α := ((Sh.tu (Sh.pr (Sh.sl (Sh.pr (Sh.int .u8) (Sh.sl (Sh.int .u8)))) (Sh.int .i64)))).T) RW0) := hO0
  refine ⟨rfl, fun v r h => ?_⟩
  obtain ⟨a0, a1, _⟩ := v
  obtain ⟨N, h1⟩ := hf _ _ _ h
  exact ans_c (R := (Sh.tu (Sh.pr (Sh.sl (Sh.pr (Sh.int .u8) (Sh.sl (Sh.int .u8)))) (Sh.int .i64)))) (tab := T359 c142) (raw := (rawOf RW0)) (LP := W359 c142 N) (fu := fuelC) hT hO rfl rfl (Nat.le_of_ble_eq_true rfl) (loopOK_cons l359_0 (fun s κ a h => o359_0 c142 hT hO N h) loopOK_nil) ((e359 c142 N _ _).trans h1)

def T341 (c343 : List Int → Option (Int × Int)) (c346 : List Int → Option (Bool × Int × (List (Int × (List Int))) × (List Int))) (c21 : List Int → Bool → Option (Int × Int)) (c359 : List Int → Int → Option ((List (Int × (List Int))) × Int)) (c316 : Int → List (Int × (List Int)) → Option (Bool × Int × (List (Int × (List Int))) × (List Int))) : Nat → Option Ent
  | 343 => some (en343 c343)
  | 346 => some (en346 c346)
  | 21 => some (en21 c21)
  | 359 => some (en359 c359)
  | 316 => some (en316 c316)
  | _ => none
def W341 (c343 : List Int → Option (Int × Int)) (c346 : List Int → Option (Bool × Int × (List (Int × (List Int))) × (List Int))) (c21 : List Int → Bool → Option (Int × Int)) (c359 : List Int → Int → Option ((List (Int × (List Int))) × Int)) (c316 : Int → List (Int × (List Int)) → Option (Bool × Int × (List (Int × (List Int))) × (List Int))) (N : Nat) : LoopF (((Sh.tu (Sh.pr (Sh.st (Sh.pr Sh.bool (Sh.pr (Sh.int .u16) (Sh.pr (Sh.sl (Sh.pr (Sh.int .u8) (Sh.sl (Sh.int .u8)))) (Sh.sl (Sh.int .u8)))))) (Sh.int .i64)))).T) := fun no =>
  match no with
  | _ => fun _ _ => none
theorem e341 (c343 : List Int → Option (Int × Int)) (c346 : List Int → Option (Bool × Int × (List (Int × (List Int))) × (List Int))) (c21 : List Int → Bool → Option (Int × Int)) (c359 : List Int → Int → Option ((List (Int × (List Int))) × Int)) (c316 : Int → List (Int × (List Int)) → Option (Bool × Int × (List (Int × (List Int))) × (List Int))) (N : Nat) (a0 : List Int) : evc (T341 c343 c346 c21 c359 c316) (rawOf RW0) (W341 c343 c346 c21 c359 c316 N) (retc k341.res (Sh.tu (Sh.pr (Sh.st (Sh.pr Sh.bool (Sh.pr (Sh.int .u16) (Sh.pr (Sh.sl (Sh.pr (Sh.int .u8) (Sh.sl (Sh.int .u8)))) (Sh.sl (Sh.int .u8)))))) (Sh.int .i64)))) (modeOf FT) 0 fuelC k341.body (env0 k341 (encL [(Sh.sl (Sh.int .u8))] (a0, ())), []) (endK (retc k341.res (Sh.tu (Sh.pr (Sh.st (Sh.pr Sh.bool (Sh.pr (Sh.int .u16) (Sh.pr (Sh.sl (Sh.pr (Sh.int .u8) (Sh.sl (Sh.int .u8)))) (Sh.sl (Sh.int .u8)))))) (Sh.int .i64))))) = p341 c343 c346 c21 c359 c316 N a0 := by kernel_rfl
theorem ok341 (c343 : List Int → Option (Int × Int)) (c346 : List Int → Option (Bool × Int × (List (Int × (List Int))) × (List Int))) (c21 : List Int → Bool → Option (Int × Int)) (c359 : List Int → Int → Option ((List (Int × (List Int))) × Int)) (c316 : Int → List (Int × (List Int)) → Option (Bool × Int × (List (Int × (List Int))) × (List Int))) (h343 : EntOK FT XT 343 (en343 c343)) (h346 : EntOK FT XT 346 (en346 c346)) (h21 : EntOK FT XT 21 (en21 c21)) (h359 : EntOK FT XT 359 (en359 c359)) (h316 : EntOK FT XT 316 (en316 c316)) {f : List Int → Option ((Bool × Int × (List (Int × (List Int))) × (List Int)) × Int)} (hf : ∀ a0 r, f a0 = some r → ∃ N, p341 c343 c346 c21 c359 c316 N a0 = some r) : EntOK FT XT 341 (en341 f) := by
  have hT : TabOK FT XT (T341 c343 c346 c21 c359 c316) := by
    intro g en hg
    unfold T341 at hg
    split at hg <;> first | (injection hg with hg; subst hg; assumption) | cases hg
  have hO0 : RawOK FT XT (rawOf (α := ((Sh.tu (Sh.pr (Sh.st (Sh.pr Sh.bool (Sh.pr (Sh.int .u16) (Sh.pr (Sh.sl (Sh.pr (Sh.int .u8) (Sh.sl (Sh.int .u8)))) (Sh.sl (Sh.int .u8)))))) (Sh.int .i64)))).T) RW0) := rawOK0
  have hO : RawOK FT XT (rawOf (α := ((Sh.tu (Sh.pr (Sh.st (Sh.pr Sh.bool (Sh.pr (Sh.int .u16) (Sh.pr (Sh.sl (Sh.pr (Sh.int .u8) (Sh.sl (Sh.int .u8)))) (Sh.sl (Sh.int .u8)))))) (Sh.int .i64)))).T) RW0) := hO0
  refine ⟨rfl, fun v r h => ?_⟩
  obtain ⟨a0, _⟩ := v
  obtain ⟨N, h1⟩ := hf _ _ h
  exact ans_c (R := (Sh.tu (Sh.pr (Sh.st (Sh.pr Sh.bool (Sh.pr (Sh.int .u16) (Sh.pr (Sh.sl (Sh.pr (Sh.int .u8) (Sh.sl (Sh.int .u8)))) (Sh.sl (Sh.int .u8)))))) (Sh.int .i64)))) (tab := T341 c343 c346 c21 c359 c316) (raw := (rawOf RW0)) (LP := W341 c343 c346 c21 c359 c316 N) (fu := fuelC) hT hO rfl rfl (Nat.le_of_ble_eq_true rfl) loopOK_nil ((e341 c343 c346 c21 c359 c316 N _).trans h1)

def T344 (c51 : List Int → Option Int) : Nat → Option Ent
  | 51 => some (en51 c51)
  | _ => none
def W344 (c51 : List Int → Option Int) (N : Nat) : LoopF (((Sh.tu (Sh.pr (Sh.int .i64) (Sh.int .i64)))).T) := fun no =>
  match no with
  | _ => fun _ _ => none
theorem e344 (c51 : List Int → Option Int) (N : Nat) (a0 : List Int) : evc (T344 c51) (rawOf RW0) (W344 c51 N) (retc k344.res (Sh.tu (Sh.pr (Sh.int .i64) (Sh.int .i64)))) (modeOf FT) 0 fuelC k344.body (env0 k344 (encL [(Sh.sl (Sh.int .u8))] (a0, ())), []) (endK (retc k344.res (Sh.tu (Sh.pr (Sh.int .i64) (Sh.int .i64))))) = p344 c51 N a0 := by kernel_rfl
theorem ok344 (c51 : List Int → Option Int) (h51 : EntOK FT XT 51 (en51 c51)) {f : List Int → Option (Int × Int)} (hf : ∀ a0 r, f a0 = some r → ∃ N, p344 c51 N a0 = some r) : EntOK FT XT 344 (en344 f) := by
  have hT : TabOK FT XT (T344 c51) := by
    intro g en hg
    unfold T344 at hg
    split at hg <;> first | (injection hg with hg; subst hg; assumption) | cases hg
  have hO0 : RawOK FT XT (rawOf (α := ((Sh.tu (Sh.pr (Sh.int .i64) (Sh.int .i64)))).T) RW0) := rawOK0
  have hO : RawOK FT XT (rawOf (α := ((Sh.tu (Sh.pr (Sh.int .i64) (Sh.int .i64)))).T) RW0) := hO0
  refine ⟨rfl, fun v r h => ?_⟩
  obtain ⟨a0, _⟩ := v
  obtain ⟨N, h1⟩ := hf _ _ h
  exact ans_c (R := (Sh.tu (Sh.pr (Sh.int .i64) (Sh.int .i64)))) (tab := T344 c51) (raw := (rawOf RW0)) (LP := W344 c51 N) (fu := fuelC) hT hO rfl rfl (Nat.le_of_ble_eq_true rfl) loopOK_nil ((e344 c51 N _).trans h1)

def T342 (c344 : List Int → Option (Int × Int)) (c51 : List Int → Option Int) (c143 : List Int → Option ((Int × (List Int)) × Int × Int)) : Nat → Option Ent
  | 344 => some (en344 c344)
  | 51 => some (en51 c51)
  | 143 => some (en143 c143)
  | _ => none
def H342_0 : Trim := ⟨0, [], false, [2, 6, 7, 8, 9], [(7, (.imm []), 2002)]⟩
theorem l342_0 : loopN k342 0 = .loop H342_0 (bodyOf (loopN k342 0)) := by kernel_rfl
def P342_0 : Ps := ⟨[(0, .u), (2, (.ptr 0 0)), (3, .u), (4, .u), (5, .u), (6, (.int .i64)), (7, (.ptr 1 0)), (8, (.tb (Sh.int .u8))), (9, (.int .i64)), (10, .u), (11, .u), (12, .u), (19, .u), (25, .u), (30, .u), (35, .u), (44, .u), (55, .u), (65, .u), (79, .u)], [(.vals false (.cons .bool (.cons (.int .u16) (.cons .nils (.cons .nils .nil))))), (.vals false (.cons .bool (.cons (.int .u16) (.cons (.sl 2 2) (.cons .nils .nil))))), (.imm false)]⟩
def Q342_0 : Nat → Ps
  | 0 => ⟨[(0, .u), (2, (.ptr 0 0)), (3, .u), (4, .u), (5, .u), (6, .u), (7, (.ptr 1 0)), (8, (.tb (Sh.int .u8))), (9, .u), (10, .u), (11, .u), (12, .u), (19, .u), (25, .u), (30, .u), (35, .u), (44, .u), (55, .u), (65, .u), (79, .u)], [(.vals false (.cons .bool (.cons (.int .u16) (.cons .nils (.cons .nils .nil))))), (.vals false (.cons .bool (.cons (.int .u16) (.cons (.sl 2 2) (.cons .nils .nil))))), (.imm false)]⟩
  | _ => noPs
def u342_0 (c344 : List Int → Option (Int × Int)) (c51 : List Int → Option Int) (c143 : List Int → Option ((Int × (List Int)) × Int × Int)) (N n : Nat) (v : P342_0.T) (κ : (i : Nat) → (Q342_0 i).T → Option (((Sh.tu (Sh.pr (Sh.st (Sh.pr Sh.bool (Sh.pr (Sh.int .u16) (Sh.pr (Sh.sl (Sh.pr (Sh.int .u8) (Sh.sl (Sh.int .u8)))) (Sh.sl (Sh.int .u8)))))) (Sh.int .i64)))).T)) : Option (((Sh.tu (Sh.pr (Sh.st (Sh.pr Sh.bool (Sh.pr (Sh.int .u16) (Sh.pr (Sh.sl (Sh.pr (Sh.int .u8) (Sh.sl (Sh.int .u8)))) (Sh.sl (Sh.int .u8)))))) (Sh.int .i64)))).T) :=
  L342_0 c344 c51 c143 N (fun (y0 : List Int) (y1 : Bool) (y2 : Int) (y3 : Bool) (y4 : Int) (y5 : Nat) (y6 : List V) => κ 0 (((), ((), ((), ((), ((), ((), ((), (y0, ((), ((), ((), ((), ((), ((), ((), ((), ((), ((), ((), ((), ())))))))))))))))))))), ((y1, (y2, ((), ((), ())))), ((y3, (y4, (y5, ((), ())))), (y6, ()))))) n v.1.2.2.2.2.2.1 v.1.2.2.2.2.2.2.2.1 v.1.2.2.2.2.2.2.2.2.1 v.2.1.1 v.2.1.2.1 v.2.2.1.1 v.2.2.1.2.1 v.2.2.1.2.2.1 v.2.2.2.1
def W342_0 (c344 : List Int → Option (Int × Int)) (c51 : List Int → Option Int) (c143 : List Int → Option ((Int × (List Int)) × Int × Int)) (N : Nat) : LoopF (((Sh.tu (Sh.pr (Sh.st (Sh.pr Sh.bool (Sh.pr (Sh.int .u16) (Sh.pr (Sh.sl (Sh.pr (Sh.int .u8) (Sh.sl (Sh.int .u8)))) (Sh.sl (Sh.int .u8)))))) (Sh.int .i64)))).T) := fun no =>
  match no with
  | _ => fun _ _ => none
theorem b342_0 (c344 : List Int → Option (Int × Int)) (c51 : List Int → Option Int) (c143 : List Int → Option ((Int × (List Int)) × Int × Int)) (N n : Nat) (v : P342_0.T) (κ : (i : Nat) → (Q342_0 i).T → Option (((Sh.tu (Sh.pr (Sh.st (Sh.pr Sh.bool (Sh.pr (Sh.int .u16) (Sh.pr (Sh.sl (Sh.pr (Sh.int .u8) (Sh.sl (Sh.int .u8)))) (Sh.sl (Sh.int .u8)))))) (Sh.int .i64)))).T)) :
    evc (T342 c344 c51 c143) (rawOf RW0) (W342_0 c344 c51 c143 N) (retc k342.res (Sh.tu (Sh.pr (Sh.st (Sh.pr Sh.bool (Sh.pr (Sh.int .u16) (Sh.pr (Sh.sl (Sh.pr (Sh.int .u8) (Sh.sl (Sh.int .u8)))) (Sh.sl (Sh.int .u8)))))) (Sh.int .i64)))) (modeOf FT) 0 fuelC (bodyOf (loopN k342 0)) (P342_0.st v) (roundK 0 H342_0 P342_0 Q342_0 (u342_0 c344 c51 c143 N n) κ) = u342_0 c344 c51 c143 N (n + 1) v κ := by kernel_rfl
theorem o342_0 (c344 : List Int → Option (Int × Int)) (c51 : List Int → Option Int) (c143 : List Int → Option ((Int × (List Int)) × Int × Int)) (hT : TabOK FT XT (T342 c344 c51 c143)) (hO : RawOK FT XT (rawOf (α := ((Sh.tu (Sh.pr (Sh.st (Sh.pr Sh.bool (Sh.pr (Sh.int .u16) (Sh.pr (Sh.sl (Sh.pr (Sh.int .u8) (Sh.sl (Sh.int .u8)))) (Sh.sl (Sh.int .u8)))))) (Sh.int .i64)))).T) RW0)) (N : Nat) {s : St} {κ : Ex → St → Option (((Sh.tu (Sh.pr (Sh.st (Sh.pr Sh.bool (Sh.pr (Sh.int .u16) (Sh.pr (Sh.sl (Sh.pr (Sh.int .u8) (Sh.sl (Sh.int .u8)))) (Sh.sl (Sh.int .u8)))))) (Sh.int .i64)))).T)} {a : ((Sh.tu (Sh.pr (Sh.st (Sh.pr Sh.bool (Sh.pr (Sh.int .u16) (Sh.pr (Sh.sl (Sh.pr (Sh.int .u8) (Sh.sl (Sh.int .u8)))) (Sh.sl (Sh.int .u8)))))) (Sh.int .i64)))).T} (h : lpOf 0 H342_0 P342_0 Q342_0 (u342_0 c344 c51 c143 N N) s κ = some a) : Out FT XT 0 (retc k342.res (Sh.tu (Sh.pr (Sh.st (Sh.pr Sh.bool (Sh.pr (Sh.int .u16) (Sh.pr (Sh.sl (Sh.pr (Sh.int .u8) (Sh.sl (Sh.int .u8)))) (Sh.sl (Sh.int .u8)))))) (Sh.int .i64)))) (loopN k342 0) s κ a := by
  rw [l342_0]
  exact loop_out (LP := W342_0 c344 c51 c143 N) (fu := fuelC) hT hO (fun _ _ => rfl) (b342_0 c344 c51 c143 N) loopOK_nil N h
def W342 (c344 : List Int → Option (Int × Int)) (c51 : List Int → Option Int) (c143 : List Int → Option ((Int × (List Int)) × Int × Int)) (N : Nat) : LoopF (((Sh.tu (Sh.pr (Sh.st (Sh.pr Sh.bool (Sh.pr (Sh.int .u16) (Sh.pr (Sh.sl (Sh.pr (Sh.int .u8) (Sh.sl (Sh.int .u8)))) (Sh.sl (Sh.int .u8)))))) (Sh.int .i64)))).T) := fun no =>
  match no with
  | 0 => lpOf 0 H342_0 P342_0 Q342_0 (u342_0 c344 c51 c143 N N)
  | _ => fun _ _ => none
theorem e342 (c344 : List Int → Option (Int × Int)) (c51 : List Int → Option Int) (c143 : List Int → Option ((Int × (List Int)) × Int × Int)) (N : Nat) (a0 : List Int) : evc (T342 c344 c51 c143) (rawOf RW0) (W342 c344 c51 c143 N) (retc k342.res (Sh.tu (Sh.pr (Sh.st (Sh.pr Sh.bool (Sh.pr (Sh.int .u16) (Sh.pr (Sh.sl (Sh.pr (Sh.int .u8) (Sh.sl (Sh.int .u8)))) (Sh.sl (Sh.int .u8)))))) (Sh.int .i64)))) (modeOf FT) 0 fuelC k342.body (env0 k342 (encL [(Sh.sl (Sh.int .u8))] (a0, ())), []) (endK (retc k342.res (Sh.tu (Sh.pr (Sh.st (Sh.pr Sh.bool (Sh.pr (Sh.int .u16) (Sh.pr (Sh.sl (Sh.pr (Sh.int .u8) (Sh.sl (Sh.int .u8)))) (Sh.sl (Sh.int .u8)))))) (Sh.int .i64))))) = p342 c344 c51 c143 N a0 := by kernel_rfl
theorem ok342 (c344 : List Int → Option (Int × Int)) (c51 : List Int → Option Int) (c143 : List Int → Option ((Int × (List Int)) × Int × Int)) (h344 : EntOK FT XT 344 (en344 c344)) (h51 : EntOK FT XT 51 (en51 c51)) (h143 : EntOK FT XT 143 (en143 c143)) {f : List Int → Option ((Bool × Int × (List (Int × (List Int))) × (List Int)) × Int)} (hf : ∀ a0 r, f a0 = some r → ∃ N, p342 c344 c51 c143 N a0 = some r) : EntOK FT XT 342 (en342 f) := by
  have hT : TabOK FT XT (T342 c344 c51 c143) := by
    intro g en hg
    unfold T342 at hg
    split at hg <;> first | (injection hg with hg; subst hg; assumption) | cases hg
  have hO0 : RawOK FT XT (rawOf (α := ((Sh.tu (Sh.pr (Sh.st (Sh.pr Sh.bool (Sh.pr (Sh.int .u16) (Sh.pr (Sh.sl (Sh.pr (Sh.int .u8) (Sh.sl (Sh.int .u8)))) (Sh.sl (Sh.int .u8)))))) (Sh.int .i64)))).T) RW0) := rawOK0
  have hO : RawOK FT XT (rawOf (α := ((Sh.tu (Sh.pr (Sh.st (Sh.pr Sh.bool (Sh.pr (Sh.int .u16) (Sh.pr (Sh.sl (Sh.pr (Sh.int .u8) (Sh.sl (Sh.int .u8)))) (Sh.sl (Sh.int .u8)))))) (Sh.int .i64)))).T) RW0) := hO0
  refine ⟨rfl, fun v r h => ?_⟩
  obtain ⟨a0, _⟩ := v
  obtain ⟨N, h1⟩ := hf _ _ h
  exact ans_c (R := (Sh.tu (Sh.pr (Sh.st (Sh.pr Sh.bool (Sh.pr (Sh.int .u16) (Sh.pr (Sh.sl (Sh.pr (Sh.int .u8) (Sh.sl (Sh.int .u8)))) (Sh.sl (Sh.int .u8)))))) (Sh.int .i64)))) (tab := T342 c344 c51 c143) (raw := (rawOf RW0)) (LP := W342 c344 c51 c143 N) (fu := fuelC) hT hO rfl rfl (Nat.le_of_ble_eq_true rfl) (loopOK_cons l342_0 (fun s κ a h => o342_0 c344 c51 c143 hT hO N h) loopOK_nil) ((e342 c344 c51 c143 N _).trans h1)

def T348v2 (c108 : List Int → Option (List Int)) (c343 : List Int → Option (Int × Int)) (c341 : List Int → Option ((Bool × Int × (List (Int × (List Int))) × (List Int)) × Int)) : Nat → Option Ent
  | 108 => some (en108 c108)
  | 343 => some (en343 c343)
  | 341 => some (en341 c341)
  | _ => none
def H348v2_0 : Trim := ⟨0, [(0, (Sh.st (Sh.pr Sh.bool (Sh.pr (Sh.sl (Sh.int .u8)) (Sh.pr Sh.bool (Sh.pr Sh.bool Sh.bool))))))], false, [0, 6], [(6, (.imm []), 4)]⟩
theorem l348v2_0 : loopN k348 0 = .loop H348v2_0 (bodyOf (loopN k348 0)) := by kernel_rfl
def P348v2_0 : Ps := ⟨[(0, (.ptr 0 0)), (1, .u), (4, .u), (5, .u), (6, (.sl 1 4)), (7, .u), (8, .u), (9, .u), (12, .u), (17, .u), (38, .u), (48, .u)], [(.vals false (.cons .bool (.cons (.tb (Sh.int .u8)) (.cons (.int .i64) (.cons (.int .i64) (.cons (.int .i64) .nil)))))), (.imm false)]⟩
def Q348v2_0 : Nat → Ps
  | 0 => ⟨[(0, (.ptr 0 0)), (1, .u), (4, .u), (5, .u), (6, (.sl 1 4)), (7, .u), (8, .u), (9, .u), (12, .u), (17, .u), (38, .u), (48, .u)], [(.vals false (.cons .bool (.cons (.tb (Sh.int .u8)) (.cons (.int .i64) (.cons (.int .i64) (.cons (.int .i64) .nil)))))), (.imm false)]⟩
  | _ => noPs
def u348v2_0 (c108 : List Int → Option (List Int)) (c343 : List Int → Option (Int × Int)) (c341 : List Int → Option ((Bool × Int × (List (Int × (List Int))) × (List Int)) × Int)) (N n : Nat) (v : P348v2_0.T) (κ : (i : Nat) → (Q348v2_0 i).T → Option QR348v2.T) : Option QR348v2.T :=
  L348v2_0 c108 c343 c341 N (fun (y0 : Nat) (y1 : Bool) (y2 : List Int) (y3 : Int) (y4 : Int) (y5 : Int) (y6 : List V) => κ 0 (((), ((), ((), ((), (y0, ((), ((), ((), ((), ((), ((), ((), ())))))))))))), ((y1, (y2, (y3, (y4, (y5, ()))))), (y6, ())))) n v.1.2.2.2.2.1 v.2.1.1 v.2.1.2.1 v.2.1.2.2.1 v.2.1.2.2.2.1 v.2.1.2.2.2.2.1 v.2.2.1
def W348v2_0 (c108 : List Int → Option (List Int)) (c343 : List Int → Option (Int × Int)) (c341 : List Int → Option ((Bool × Int × (List (Int × (List Int))) × (List Int)) × Int)) (N : Nat) : LoopF QR348v2.T := fun no =>
  match no with
  | _ => fun _ _ => none
theorem b348v2_0 (c108 : List Int → Option (List Int)) (c343 : List Int → Option (Int × Int)) (c341 : List Int → Option ((Bool × Int × (List (Int × (List Int))) × (List Int)) × Int)) (N n : Nat) (v : P348v2_0.T) (κ : (i : Nat) → (Q348v2_0 i).T → Option QR348v2.T) :
    evc (T348v2 c108 c343 c341) (addI (T348v2 c108 c343 c341) (modeOf FT) fuelC 362 k362 (addI (T348v2 c108 c343 c341) (modeOf FT) fuelC 361 k361 (rawOf RW0))) (W348v2_0 c108 c343 c341 N) (retr k348.res 1 QR348v2) (modeOf FT) 1 fuelC (bodyOf (loopN k348 0)) (P348v2_0.st v) (roundK 1 H348v2_0 P348v2_0 Q348v2_0 (u348v2_0 c108 c343 c341 N n) κ) = u348v2_0 c108 c343 c341 N (n + 1) v κ := by kernel_rfl
theorem o348v2_0 (c108 : List Int → Option (List Int)) (c343 : List Int → Option (Int × Int)) (c341 : List Int → Option ((Bool × Int × (List (Int × (List Int))) × (List Int)) × Int)) (hT : TabOK FT XT (T348v2 c108 c343 c341)) (hO : RawOK FT XT (addI (T348v2 c108 c343 c341) (modeOf FT) fuelC 362 k362 (addI (T348v2 c108 c343 c341) (modeOf FT) fuelC 361 k361 (rawOf (α := QR348v2.T) RW0)))) (N : Nat) {s : St} {κ : Ex → St → Option QR348v2.T} {a : QR348v2.T} (h : lpOf 1 H348v2_0 P348v2_0 Q348v2_0 (u348v2_0 c108 c343 c341 N N) s κ = some a) : Out FT XT 1 (retr k348.res 1 QR348v2) (loopN k348 0) s κ a := by
  rw [l348v2_0]
  exact loop_out (LP := W348v2_0 c108 c343 c341 N) (fu := fuelC) hT hO (fun _ _ => rfl) (b348v2_0 c108 c343 c341 N) loopOK_nil N h
def W348v2 (c108 : List Int → Option (List Int)) (c343 : List Int → Option (Int × Int)) (c341 : List Int → Option ((Bool × Int × (List (Int × (List Int))) × (List Int)) × Int)) (N : Nat) : LoopF QR348v2.T := fun no =>
  match no with
  | 0 => lpOf 1 H348v2_0 P348v2_0 Q348v2_0 (u348v2_0 c108 c343 c341 N N)
  | _ => fun _ _ => none
theorem e348v2 (c108 : List Int → Option (List Int)) (c343 : List Int → Option (Int × Int)) (c341 : List Int → Option ((Bool × Int × (List (Int × (List Int))) × (List Int)) × Int)) (N : Nat) (v : PR348v2.T) : evc (T348v2 c108 c343 c341) (addI (T348v2 c108 c343 c341) (modeOf FT) fuelC 362 k362 (addI (T348v2 c108 c343 c341) (modeOf FT) fuelC 361 k361 (rawOf RW0))) (W348v2 c108 c343 c341 N) (retr k348.res 1 QR348v2) (modeOf FT) 1 fuelC k348.body (env0 k348 (PR348v2.a.st v.1), stH PR348v2.h v.2) (endK (retr k348.res 1 QR348v2)) = p348v2 c108 c343 c341 N v.1.2.1 v.2.1.1 v.2.1.2.1 v.2.1.2.2.1 v.2.1.2.2.2.1 v.2.1.2.2.2.2.1 := by kernel_rfl
theorem ok348v2 (c108 : List Int → Option (List Int)) (c343 : List Int → Option (Int × Int)) (c341 : List Int → Option ((Bool × Int × (List (Int × (List Int))) × (List Int)) × Int)) (h108 : EntOK FT XT 108 (en108 c108)) (h343 : EntOK FT XT 343 (en343 c343)) (h341 : EntOK FT XT 341 (en341 c341)) {f : List Int → Bool → List Int → Int → Int → Int → Option ((((List (Bool × Int × (List (Int × (List Int))) × (List Int))) × (Int × Unit)) × Unit) × ((Bool × ((List Int) × (Int × (Int × (Int × Unit))))) × Unit))} (hf : ∀ a0 a1 a2 a3 a4 a5 r, f a0 a1 a2 a3 a4 a5 = some r → ∃ N, p348v2 c108 c343 c341 N a0 a1 a2 a3 a4 a5 = some r) : REntOK FT XT 348 (rn348v2 f) := by
  have hT : TabOK FT XT (T348v2 c108 c343 c341) := by
    intro g en hg
    unfold T348v2 at hg
    split at hg <;> first | (injection hg with hg; subst hg; assumption) | cases hg
  have hO0 : RawOK FT XT (rawOf (α := QR348v2.T) RW0) := rawOK0
  have hO : RawOK FT XT (addI (T348v2 c108 c343 c341) (modeOf FT) fuelC 362 k362 (addI (T348v2 c108 c343 c341) (modeOf FT) fuelC 361 k361 (rawOf (α := QR348v2.T) RW0))) := addI_ok hT (addI_ok hT (hO0) rfl rfl) rfl rfl
  intro v r w h hw
  obtain ⟨N, h1⟩ := hf _ _ _ _ _ _ _ h
  exact ans_r (Q := QR348v2) (tab := T348v2 c108 c343 c341) (raw := (addI (T348v2 c108 c343 c341) (modeOf FT) fuelC 362 k362 (addI (T348v2 c108 c343 c341) (modeOf FT) fuelC 361 k361 (rawOf RW0)))) (LP := W348v2 c108 c343 c341 N) (fu := fuelC) hT hO rfl rfl (Nat.le_of_ble_eq_true rfl) rfl (loopOK_cons l348v2_0 (fun s κ a h => o348v2_0 c108 c343 c341 hT hO N h) loopOK_nil) ((e348v2 c108 c343 c341 N v).trans h1) hw

def T352v1 (c343 : List Int → Option (Int × Int)) : Nat → Option Ent
  | 343 => some (en343 c343)
  | _ => none
def W352v1 (c343 : List Int → Option (Int × Int)) (N : Nat) : LoopF QR352v1.T := fun no =>
  match no with
  | _ => fun _ _ => none
theorem e352v1 (c343 : List Int → Option (Int × Int)) (N : Nat) (v : PR352v1.T) : evc (T352v1 c343) (addI (T352v1 c343) (modeOf FT) fuelC 361 k361 (rawOf RW0)) (W352v1 c343 N) (retr k352.res 1 QR352v1) (modeOf FT) 1 fuelC k352.body (env0 k352 (PR352v1.a.st v.1), stH PR352v1.h v.2) (endK (retr k352.res 1 QR352v1)) = p352v1 c343 N v.2.1.1 v.2.1.2.1 v.2.1.2.2.1 v.2.1.2.2.2.1 v.2.1.2.2.2.2.1 := by kernel_rfl
theorem ok352v1 (c343 : List Int → Option (Int × Int)) (h343 : EntOK FT XT 343 (en343 c343)) {f : Bool → List Int → Int → Int → Int → Option ((Int × Unit) × ((Bool × ((List Int) × (Int × (Int × (Int × Unit))))) × Unit))} (hf : ∀ a0 a1 a2 a3 a4 r, f a0 a1 a2 a3 a4 = some r → ∃ N, p352v1 c343 N a0 a1 a2 a3 a4 = some r) : REntOK FT XT 352 (rn352v1 f) := by
  have hT : TabOK FT XT (T352v1 c343) := by
    intro g en hg
    unfold T352v1 at hg
    split at hg <;> first | (injection hg with hg; subst hg; assumption) | cases hg
  have hO0 : RawOK FT XT (rawOf (α := QR352v1.T) RW0) := rawOK0
  have hO : RawOK FT XT (addI (T352v1 c343) (modeOf FT) fuelC 361 k361 (rawOf (α := QR352v1.T) RW0)) := addI_ok hT (hO0) rfl rfl
  intro v r w h hw
  obtain ⟨N, h1⟩ := hf _ _ _ _ _ _ h
  exact ans_r (Q := QR352v1) (tab := T352v1 c343) (raw := (addI (T352v1 c343) (modeOf FT) fuelC 361 k361 (rawOf RW0))) (LP := W352v1 c343 N) (fu := fuelC) hT hO rfl rfl (Nat.le_of_ble_eq_true rfl) rfl loopOK_nil ((e352v1 c343 N v).trans h1) hw

def T351v1 : Nat → Option Ent
  | _ => none
def W351v1 (N : Nat) : LoopF QR351v1.T := fun no =>
  match no with
  | _ => fun _ _ => none
theorem e351v1 (N : Nat) (v : PR351v1.T) : evc (T351v1) (addI (T351v1) (modeOf FT) fuelC 361 k361 (rawOf RW0)) (W351v1 N) (retr k351.res 1 QR351v1) (modeOf FT) 1 fuelC k351.body (env0 k351 (PR351v1.a.st v.1), stH PR351v1.h v.2) (endK (retr k351.res 1 QR351v1)) = p351v1 N v.2.1.1 v.2.1.2.1 v.2.1.2.2.1 v.2.1.2.2.2.1 v.2.1.2.2.2.2.1 := by kernel_rfl
theorem ok351v1 {f : Bool → List Int → Int → Int → Int → Option ((Int × Unit) × ((Bool × ((List Int) × (Int × (Int × (Int × Unit))))) × Unit))} (hf : ∀ a0 a1 a2 a3 a4 r, f a0 a1 a2 a3 a4 = some r → ∃ N, p351v1 N a0 a1 a2 a3 a4 = some r) : REntOK FT XT 351 (rn351v1 f) := by
  have hT : TabOK FT XT (T351v1) := by
    intro g en hg
    unfold T351v1 at hg
    split at hg <;> first | (injection hg with hg; subst hg; assumption) | cases hg
  have hO0 : RawOK FT XT (rawOf (α := QR351v1.T) RW0) := rawOK0
  have hO : RawOK FT XT (addI (T351v1) (modeOf FT) fuelC 361 k361 (rawOf (α := QR351v1.T) RW0)) := addI_ok hT (hO0) rfl rfl
  intro v r w h hw
  obtain ⟨N, h1⟩ := hf _ _ _ _ _ _ h
  exact ans_r (Q := QR351v1) (tab := T351v1) (raw := (addI (T351v1) (modeOf FT) fuelC 361 k361 (rawOf RW0))) (LP := W351v1 N) (fu := fuelC) hT hO rfl rfl (Nat.le_of_ble_eq_true rfl) rfl loopOK_nil ((e351v1 N v).trans h1) hw

def T349v1 : Nat → Option Ent
  | _ => none
def W349v1 (N : Nat) : LoopF QR349v1.T := fun no =>
  match no with
  | _ => fun _ _ => none
theorem e349v1 (N : Nat) (v : PR349v1.T) : evc (T349v1) (addI (T349v1) (modeOf FT) fuelC 361 k361 (rawOf RW0)) (W349v1 N) (retr k349.res 1 QR349v1) (modeOf FT) 1 fuelC k349.body (env0 k349 (PR349v1.a.st v.1), stH PR349v1.h v.2) (endK (retr k349.res 1 QR349v1)) = p349v1 N v.2.1.1 v.2.1.2.1 v.2.1.2.2.1 v.2.1.2.2.2.1 v.2.1.2.2.2.2.1 := by kernel_rfl
theorem ok349v1 {f : Bool → List Int → Int → Int → Int → Option ((Int × Unit) × ((Bool × ((List Int) × (Int × (Int × (Int × Unit))))) × Unit))} (hf : ∀ a0 a1 a2 a3 a4 r, f a0 a1 a2 a3 a4 = some r → ∃ N, p349v1 N a0 a1 a2 a3 a4 = some r) : REntOK FT XT 349 (rn349v1 f) := by
  have hT : TabOK FT XT (T349v1) := by
    intro g en hg
    unfold T349v1 at hg
    split at hg <;> first | (injection hg with hg; subst hg; assumption) | cases hg
  have hO0 : RawOK FT XT (rawOf (α := QR349v1.T) RW0) := rawOK0
  have hO : RawOK FT XT (addI (T349v1) (modeOf FT) fuelC 361 k361 (rawOf (α := QR349v1.T) RW0)) := addI_ok hT (hO0) rfl rfl
  intro v r w h hw
  obtain ⟨N, h1⟩ := hf _ _ _ _ _ _ h
  exact ans_r (Q := QR349v1) (tab := T349v1) (raw := (addI (T349v1) (modeOf FT) fuelC 361 k361 (rawOf RW0))) (LP := W349v1 N) (fu := fuelC) hT hO rfl rfl (Nat.le_of_ble_eq_true rfl) rfl loopOK_nil ((e349v1 N v).trans h1) hw

def T350v1 : Nat → Option Ent
  | _ => none
def W350v1 (N : Nat) : LoopF QR350v1.T := fun no =>
  match no with
  | _ => fun _ _ => none
theorem e350v1 (N : Nat) (v : PR350v1.T) : evc (T350v1) (addI (T350v1) (modeOf FT) fuelC 361 k361 (rawOf RW0)) (W350v1 N) (retr k350.res 1 QR350v1) (modeOf FT) 1 fuelC k350.body (env0 k350 (PR350v1.a.st v.1), stH PR350v1.h v.2) (endK (retr k350.res 1 QR350v1)) = p350v1 N v.2.1.1 v.2.1.2.1 v.2.1.2.2.1 v.2.1.2.2.2.1 v.2.1.2.2.2.2.1 := by kernel_rfl
theorem ok350v1 {f : Bool → List Int → Int → Int → Int → Option ((Int × Unit) × ((Bool × ((List Int) × (Int × (Int × (Int × Unit))))) × Unit))} (hf : ∀ a0 a1 a2 a3 a4 r, f a0 a1 a2 a3 a4 = some r → ∃ N, p350v1 N a0 a1 a2 a3 a4 = some r) : REntOK FT XT 350 (rn350v1 f) := by
  have hT : TabOK FT XT (T350v1) := by
    intro g en hg
    unfold T350v1 at hg
    split at hg <;> first | (injection hg with hg; subst hg; assumption) | cases hg
  have hO0 : RawOK FT XT (rawOf (α := QR350v1.T) RW0) := rawOK0
  have hO : RawOK FT XT (addI (T350v1) (modeOf FT) fuelC 361 k361 (rawOf (α := QR350v1.T) RW0)) := addI_ok hT (hO0) rfl rfl
  intro v r w h hw
  obtain ⟨N, h1⟩ := hf _ _ _ _ _ _ h
  exact ans_r (Q := QR350v1) (tab := T350v1) (raw := (addI (T350v1) (modeOf FT) fuelC 361 k361 (rawOf RW0))) (LP := W350v1 N) (fu := fuelC) hT hO rfl rfl (Nat.le_of_ble_eq_true rfl) rfl loopOK_nil ((e350v1 N v).trans h1) hw

def T347 (c316 : Int → List (Int × (List Int)) → Option (Bool × Int × (List (Int × (List Int))) × (List Int))) (c317 : Bool × Int × (List (Int × (List Int))) × (List Int) → Option ((List Int) × Int)) (d348v2 : List Int → Bool → List Int → Int → Int → Int → Option ((((List (Bool × Int × (List (Int × (List Int))) × (List Int))) × (Int × Unit)) × Unit) × ((Bool × ((List Int) × (Int × (Int × (Int × Unit))))) × Unit))) (d352v1 : Bool → List Int → Int → Int → Int → Option ((Int × Unit) × ((Bool × ((List Int) × (Int × (Int × (Int × Unit))))) × Unit))) (d351v1 : Bool → List Int → Int → Int → Int → Option ((Int × Unit) × ((Bool × ((List Int) × (Int × (Int × (Int × Unit))))) × Unit))) (d349v1 : Bool → List Int → Int → Int → Int → Option ((Int × Unit) × ((Bool × ((List Int) × (Int × (Int × (Int × Unit))))) × Unit))) (d350v1 : Bool → List Int → Int → Int → Int → Option ((Int × Unit) × ((Bool × ((List Int) × (Int × (Int × (Int × Unit))))) × Unit))) : Nat → Option Ent
  | 316 => some (en316 c316)
  | 317 => some (en317 c317)
  | _ => none
def RW347 (c316 : Int → List (Int × (List Int)) → Option (Bool × Int × (List (Int × (List Int))) × (List Int))) (c317 : Bool × Int × (List (Int × (List Int))) × (List Int) → Option ((List Int) × Int)) (d348v2 : List Int → Bool → List Int → Int → Int → Int → Option ((((List (Bool × Int × (List (Int × (List Int))) × (List Int))) × (Int × Unit)) × Unit) × ((Bool × ((List Int) × (Int × (Int × (Int × Unit))))) × Unit))) (d352v1 : Bool → List Int → Int → Int → Int → Option ((Int × Unit) × ((Bool × ((List Int) × (Int × (Int × (Int × Unit))))) × Unit))) (d351v1 : Bool → List Int → Int → Int → Int → Option ((Int × Unit) × ((Bool × ((List Int) × (Int × (Int × (Int × Unit))))) × Unit))) (d349v1 : Bool → List Int → Int → Int → Int → Option ((Int × Unit) × ((Bool × ((List Int) × (Int × (Int × (Int × Unit))))) × Unit))) (d350v1 : Bool → List Int → Int → Int → Int → Option ((Int × Unit) × ((Bool × ((List Int) × (Int × (Int × (Int × Unit))))) × Unit))) : Nat → List REnt
  | 348 => [rn348v2 d348v2]
  | 352 => [rn352v1 d352v1]
  | 351 => [rn351v1 d351v1]
  | 349 => [rn349v1 d349v1]
  | 350 => [rn350v1 d350v1]
  | _ => []
def W347 (c316 : Int → List (Int × (List Int)) → Option (Bool × Int × (List (Int × (List Int))) × (List Int))) (c317 : Bool × Int × (List (Int × (List Int))) × (List Int) → Option ((List Int) × Int)) (d348v2 : List Int → Bool → List Int → Int → Int → Int → Option ((((List (Bool × Int × (List (Int × (List Int))) × (List Int))) × (Int × Unit)) × Unit) × ((Bool × ((List Int) × (Int × (Int × (Int × Unit))))) × Unit))) (d352v1 : Bool → List Int → Int → Int → Int → Option ((Int × Unit) × ((Bool × ((List Int) × (Int × (Int × (Int × Unit))))) × Unit))) (d351v1 : Bool → List Int → Int → Int → Int → Option ((Int × Unit) × ((Bool × ((List Int) × (Int × (Int × (Int × Unit))))) × Unit))) (d349v1 : Bool → List Int → Int → Int → Int → Option ((Int × Unit) × ((Bool × ((List Int) × (Int × (Int × (Int × Unit))))) × Unit))) (d350v1 : Bool → List Int → Int → Int → Int → Option ((Int × Unit) × ((Bool × ((List Int) × (Int × (Int × (Int × Unit))))) × Unit))) (N : Nat) : LoopF (Sh.bool).T := fun no =>
  match no with
  | _ => fun _ _ => none
theorem e347 (c316 : Int → List (Int × (List Int)) → Option (Bool × Int × (List (Int × (List Int))) × (List Int))) (c317 : Bool × Int × (List (Int × (List Int))) × (List Int) → Option ((List Int) × Int)) (d348v2 : List Int → Bool → List Int → Int → Int → Int → Option ((((List (Bool × Int × (List (Int × (List Int))) × (List Int))) × (Int × Unit)) × Unit) × ((Bool × ((List Int) × (Int × (Int × (Int × Unit))))) × Unit))) (d352v1 : Bool → List Int → Int → Int → Int → Option ((Int × Unit) × ((Bool × ((List Int) × (Int × (Int × (Int × Unit))))) × Unit))) (d351v1 : Bool → List Int → Int → Int → Int → Option ((Int × Unit) × ((Bool × ((List Int) × (Int × (Int × (Int × Unit))))) × Unit))) (d349v1 : Bool → List Int → Int → Int → Int → Option ((Int × Unit) × ((Bool × ((List Int) × (Int × (Int × (Int × Unit))))) × Unit))) (d350v1 : Bool → List Int → Int → Int → Int → Option ((Int × Unit) × ((Bool × ((List Int) × (Int × (Int × (Int × Unit))))) × Unit))) (N : Nat)  : evc (T347 c316 c317 d348v2 d352v1 d351v1 d349v1 d350v1) (addI (T347 c316 c317 d348v2 d352v1 d351v1 d349v1 d350v1) (modeOf FT) fuelC 353 k353 (rawOf (RW347 c316 c317 d348v2 d352v1 d351v1 d349v1 d350v1))) (W347 c316 c317 d348v2 d352v1 d351v1 d349v1 d350v1 N) (retc k347.res Sh.bool) (modeOf FT) 0 fuelC k347.body (env0 k347 (encL [] ()), []) (endK (retc k347.res Sh.bool)) = p347 c316 c317 d348v2 d352v1 d351v1 d349v1 d350v1 N  := by kernel_rfl
theorem ok347 (c316 : Int → List (Int × (List Int)) → Option (Bool × Int × (List (Int × (List Int))) × (List Int))) (c317 : Bool × Int × (List (Int × (List Int))) × (List Int) → Option ((List Int) × Int)) (d348v2 : List Int → Bool → List Int → Int → Int → Int → Option ((((List (Bool × Int × (List (Int × (List Int))) × (List Int))) × (Int × Unit)) × Unit) × ((Bool × ((List Int) × (Int × (Int × (Int × Unit))))) × Unit))) (d352v1 : Bool → List Int → Int → Int → Int → Option ((Int × Unit) × ((Bool × ((List Int) × (Int × (Int × (Int × Unit))))) × Unit))) (d351v1 : Bool → List Int → Int → Int → Int → Option ((Int × Unit) × ((Bool × ((List Int) × (Int × (Int × (Int × Unit))))) × Unit))) (d349v1 : Bool → List Int → Int → Int → Int → Option ((Int × Unit) × ((Bool × ((List Int) × (Int × (Int × (Int × Unit))))) × Unit))) (d350v1 : Bool → List Int → Int → Int → Int → Option ((Int × Unit) × ((Bool × ((List Int) × (Int × (Int × (Int × Unit))))) × Unit))) (h316 : EntOK FT XT 316 (en316 c316)) (h317 : EntOK FT XT 317 (en317 c317)) (h348v2 : REntOK FT XT 348 (rn348v2 d348v2)) (h352v1 : REntOK FT XT 352 (rn352v1 d352v1)) (h351v1 : REntOK FT XT 351 (rn351v1 d351v1)) (h349v1 : REntOK FT XT 349 (rn349v1 d349v1)) (h350v1 : REntOK FT XT 350 (rn350v1 d350v1)) {f : Option Bool} (hf : ∀  r, f  = some r → ∃ N, p347 c316 c317 d348v2 d352v1 d351v1 d349v1 d350v1 N  = some r) : EntOK FT XT 347 (en347 f) := by
  have hT : TabOK FT XT (T347 c316 c317 d348v2 d352v1 d351v1 d349v1 d350v1) := by
    intro g en hg
    unfold T347 at hg
    split at hg <;> first | (injection hg with hg; subst hg; assumption) | cases hg
  have hO0 : RawOK FT XT (rawOf (α := (Sh.bool).T) (RW347 c316 c317 d348v2 d352v1 d351v1 d349v1 d350v1)) := by
    refine rawOf_ok (fun g en hg => ?_)
    unfold RW347 at hg
    split at hg <;> simp only [List.mem_cons, List.not_mem_nil, or_false] at hg <;> first | (subst hg; assumption) | (rcases hg with rfl | rfl <;> assumption) | (rcases hg with rfl | rfl | rfl <;> assumption) | (rcases hg with rfl | rfl | rfl | rfl <;> assumption)
  have hO : RawOK FT XT (addI (T347 c316 c317 d348v2 d352v1 d351v1 d349v1 d350v1) (modeOf FT) fuelC 353 k353 (rawOf (α := (Sh.bool).T) (RW347 c316 c317 d348v2 d352v1 d351v1 d349v1 d350v1))) := addI_ok hT (hO0) rfl rfl
  refine ⟨rfl, fun v r h => ?_⟩
  obtain ⟨N, h1⟩ := hf _ h
  exact ans_c (R := Sh.bool) (tab := T347 c316 c317 d348v2 d352v1 d351v1 d349v1 d350v1) (raw := (addI (T347 c316 c317 d348v2 d352v1 d351v1 d349v1 d350v1) (modeOf FT) fuelC 353 k353 (rawOf (RW347 c316 c317 d348v2 d352v1 d351v1 d349v1 d350v1)))) (LP := W347 c316 c317 d348v2 d352v1 d351v1 d349v1 d350v1 N) (fu := fuelC) hT hO rfl rfl (Nat.le_of_ble_eq_true rfl) loopOK_nil ((e347 c316 c317 d348v2 d352v1 d351v1 d349v1 d350v1 N ).trans h1)

def T348v0 : Nat → Option Ent
  | _ => none
def H348v0_0 : Trim := ⟨0, [(0, (Sh.st (Sh.pr Sh.bool (Sh.pr (Sh.sl (Sh.int .u8)) (Sh.pr Sh.bool (Sh.pr Sh.bool Sh.bool))))))], false, [0, 6], [(6, (.imm []), 4)]⟩
theorem l348v0_0 : loopN k348 0 = .loop H348v0_0 (bodyOf (loopN k348 0)) := by kernel_rfl
def W348v0 (N : Nat) : LoopF QR348v0.T := fun no =>
  match no with
  | _ => fun _ _ => none
theorem e348v0 (N : Nat) (v : PR348v0.T) : evc (T348v0) (addI (T348v0) (modeOf FT) fuelC 361 k361 (rawOf RW0)) (W348v0 N) (retr k348.res 0 QR348v0) (modeOf FT) 0 fuelC k348.body (env0 k348 (PR348v0.a.st v.1), stH PR348v0.h v.2) (endK (retr k348.res 0 QR348v0)) = p348v0 N v.1.2.1 := by kernel_rfl
theorem ok348v0 {f : List Int → Option ((((List (Bool × Int × (List (Int × (List Int))) × (List Int))) × (Int × Unit)) × Unit) × Unit)} (hf : ∀ a0 r, f a0 = some r → ∃ N, p348v0 N a0 = some r) : REntOK FT XT 348 (rn348v0 f) := by
  have hT : TabOK FT XT (T348v0) := by
    intro g en hg
    unfold T348v0 at hg
    split at hg <;> first | (injection hg with hg; subst hg; assumption) | cases hg
  have hO0 : RawOK FT XT (rawOf (α := QR348v0.T) RW0) := rawOK0
  have hO : RawOK FT XT (addI (T348v0) (modeOf FT) fuelC 361 k361 (rawOf (α := QR348v0.T) RW0)) := addI_ok hT (hO0) rfl rfl
  intro v r w h hw
  obtain ⟨N, h1⟩ := hf _ _ h
  exact ans_r (Q := QR348v0) (tab := T348v0) (raw := (addI (T348v0) (modeOf FT) fuelC 361 k361 (rawOf RW0))) (LP := W348v0 N) (fu := fuelC) hT hO rfl rfl (Nat.le_of_ble_eq_true rfl) rfl (loopOK_cons l348v0_0 (fun s κ a h => by cases h) loopOK_nil) ((e348v0 N v).trans h1) hw

def T349v0 : Nat → Option Ent
  | _ => none
def W349v0 (N : Nat) : LoopF QR349v0.T := fun no =>
  match no with
  | _ => fun _ _ => none
theorem e349v0 (N : Nat) (v : PR349v0.T) : evc (T349v0) (addI (T349v0) (modeOf FT) fuelC 361 k361 (rawOf RW0)) (W349v0 N) (retr k349.res 0 QR349v0) (modeOf FT) 0 fuelC k349.body (env0 k349 (PR349v0.a.st v.1), stH PR349v0.h v.2) (endK (retr k349.res 0 QR349v0)) = p349v0 N  := by kernel_rfl
theorem ok349v0 {f : Option ((Int × Unit) × Unit)} (hf : ∀  r, f  = some r → ∃ N, p349v0 N  = some r) : REntOK FT XT 349 (rn349v0 f) := by
  have hT : TabOK FT XT (T349v0) := by
    intro g en hg
    unfold T349v0 at hg
    split at hg <;> first | (injection hg with hg; subst hg; assumption) | cases hg
  have hO0 : RawOK FT XT (rawOf (α := QR349v0.T) RW0) := rawOK0
  have hO : RawOK FT XT (addI (T349v0) (modeOf FT) fuelC 361 k361 (rawOf (α := QR349v0.T) RW0)) := addI_ok hT (hO0) rfl rfl
  intro v r w h hw
  obtain ⟨N, h1⟩ := hf  _ h
  exact ans_r (Q := QR349v0) (tab := T349v0) (raw := (addI (T349v0) (modeOf FT) fuelC 361 k361 (rawOf RW0))) (LP := W349v0 N) (fu := fuelC) hT hO rfl rfl (Nat.le_of_ble_eq_true rfl) rfl loopOK_nil ((e349v0 N v).trans h1) hw

def T350v0 : Nat → Option Ent
  | _ => none
def W350v0 (N : Nat) : LoopF QR350v0.T := fun no =>
  match no with
  | _ => fun _ _ => none
theorem e350v0 (N : Nat) (v : PR350v0.T) : evc (T350v0) (addI (T350v0) (modeOf FT) fuelC 361 k361 (rawOf RW0)) (W350v0 N) (retr k350.res 0 QR350v0) (modeOf FT) 0 fuelC k350.body (env0 k350 (PR350v0.a.st v.1), stH PR350v0.h v.2) (endK (retr k350.res 0 QR350v0)) = p350v0 N  := by kernel_rfl
theorem ok350v0 {f : Option ((Int × Unit) × Unit)} (hf : ∀  r, f  = some r → ∃ N, p350v0 N  = some r) : REntOK FT XT 350 (rn350v0 f) := by
  have hT : TabOK FT XT (T350v0) := by
    intro g en hg
    unfold T350v0 at hg
    split at hg <;> first | (injection hg with hg; subst hg; assumption) | cases hg
  have hO0 : RawOK FT XT (rawOf (α := QR350v0.T) RW0) := rawOK0
  have hO : RawOK FT XT (addI (T350v0) (modeOf FT) fuelC 361 k361 (rawOf (α := QR350v0.T) RW0)) := addI_ok hT (hO0) rfl rfl
  intro v r w h hw
  obtain ⟨N, h1⟩ := hf  _ h
  exact ans_r (Q := QR350v0) (tab := T350v0) (raw := (addI (T350v0) (modeOf FT) fuelC 361 k361 (rawOf RW0))) (LP := W350v0 N) (fu := fuelC) hT hO rfl rfl (Nat.le_of_ble_eq_true rfl) rfl loopOK_nil ((e350v0 N v).trans h1) hw

def T351v0 : Nat → Option Ent
  | _ => none
def W351v0 (N : Nat) : LoopF QR351v0.T := fun no =>
  match no with
  | _ => fun _ _ => none
theorem e351v0 (N : Nat) (v : PR351v0.T) : evc (T351v0) (addI (T351v0) (modeOf FT) fuelC 361 k361 (rawOf RW0)) (W351v0 N) (retr k351.res 0 QR351v0) (modeOf FT) 0 fuelC k351.body (env0 k351 (PR351v0.a.st v.1), stH PR351v0.h v.2) (endK (retr k351.res 0 QR351v0)) = p351v0 N  := by kernel_rfl
theorem ok351v0 {f : Option ((Int × Unit) × Unit)} (hf : ∀  r, f  = some r → ∃ N, p351v0 N  = some r) : REntOK FT XT 351 (rn351v0 f) := by
  have hT : TabOK FT XT (T351v0) := by
    intro g en hg
    unfold T351v0 at hg
    split at hg <;> first | (injection hg with hg; subst hg; assumption) | cases hg
  have hO0 : RawOK FT XT (rawOf (α := QR351v0.T) RW0) := rawOK0
  have hO : RawOK FT XT (addI (T351v0) (modeOf FT) fuelC 361 k361 (rawOf (α := QR351v0.T) RW0)) := addI_ok hT (hO0) rfl rfl
  intro v r w h hw
  obtain ⟨N, h1⟩ := hf  _ h
  exact ans_r (Q := QR351v0) (tab := T351v0) (raw := (addI (T351v0) (modeOf FT) fuelC 361 k361 (rawOf RW0))) (LP := W351v0 N) (fu := fuelC) hT hO rfl rfl (Nat.le_of_ble_eq_true rfl) rfl loopOK_nil ((e351v0 N v).trans h1) hw

def T352v0 : Nat → Option Ent
  | _ => none
def W352v0 (N : Nat) : LoopF QR352v0.T := fun no =>
  match no with
  | _ => fun _ _ => none
theorem e352v0 (N : Nat) (v : PR352v0.T) : evc (T352v0) (addI (T352v0) (modeOf FT) fuelC 361 k361 (rawOf RW0)) (W352v0 N) (retr k352.res 0 QR352v0) (modeOf FT) 0 fuelC k352.body (env0 k352 (PR352v0.a.st v.1), stH PR352v0.h v.2) (endK (retr k352.res 0 QR352v0)) = p352v0 N  := by kernel_rfl
theorem ok352v0 {f : Option ((Int × Unit) × Unit)} (hf : ∀  r, f  = some r → ∃ N, p352v0 N  = some r) : REntOK FT XT 352 (rn352v0 f) := by
  have hT : TabOK FT XT (T352v0) := by
    intro g en hg
    unfold T352v0 at hg
    split at hg <;> first | (injection hg with hg; subst hg; assumption) | cases hg
  have hO0 : RawOK FT XT (rawOf (α := QR352v0.T) RW0) := rawOK0
  have hO : RawOK FT XT (addI (T352v0) (modeOf FT) fuelC 361 k361 (rawOf (α := QR352v0.T) RW0)) := addI_ok hT (hO0) rfl rfl
  intro v r w h hw
  obtain ⟨N, h1⟩ := hf  _ h
  exact ans_r (Q := QR352v0) (tab := T352v0) (raw := (addI (T352v0) (modeOf FT) fuelC 361 k361 (rawOf RW0))) (LP := W352v0 N) (fu := fuelC) hT hO rfl rfl (Nat.le_of_ble_eq_true rfl) rfl loopOK_nil ((e352v0 N v).trans h1) hw

def T348v1 (c108 : List Int → Option (List Int)) (c343 : List Int → Option (Int × Int)) (c341 : List Int → Option ((Bool × Int × (List (Int × (List Int))) × (List Int)) × Int)) : Nat → Option Ent
  | 108 => some (en108 c108)
  | 343 => some (en343 c343)
  | 341 => some (en341 c341)
  | _ => none
def H348v1_0 : Trim := ⟨0, [(0, (Sh.st (Sh.pr Sh.bool (Sh.pr (Sh.sl (Sh.int .u8)) (Sh.pr Sh.bool (Sh.pr Sh.bool Sh.bool))))))], false, [0, 6], [(6, (.imm []), 4)]⟩
theorem l348v1_0 : loopN k348 0 = .loop H348v1_0 (bodyOf (loopN k348 0)) := by kernel_rfl
def P348v1_0 : Ps := ⟨[(0, (.ptr 0 0)), (1, .u), (4, .u), (5, .u), (6, (.sl 1 4)), (7, .u), (8, .u), (9, .u), (12, .u), (17, .u), (38, .u), (48, .u)], [(.vals false (.cons .bool (.cons (.tb (Sh.int .u8)) (.cons (.int .i64) (.cons (.int .i64) (.cons (.int .i64) .nil)))))), (.imm false)]⟩
def Q348v1_0 : Nat → Ps
  | 0 => ⟨[(0, (.ptr 0 0)), (1, .u), (4, .u), (5, .u), (6, (.sl 1 4)), (7, .u), (8, .u), (9, .u), (12, .u), (17, .u), (38, .u), (48, .u)], [(.vals false (.cons .bool (.cons (.tb (Sh.int .u8)) (.cons (.int .i64) (.cons (.int .i64) (.cons (.int .i64) .nil)))))), (.imm false)]⟩
  | _ => noPs
def u348v1_0 (c108 : List Int → Option (List Int)) (c343 : List Int → Option (Int × Int)) (c341 : List Int → Option ((Bool × Int × (List (Int × (List Int))) × (List Int)) × Int)) (N n : Nat) (v : P348v1_0.T) (κ : (i : Nat) → (Q348v1_0 i).T → Option QR348v1.T) : Option QR348v1.T :=
  L348v1_0 c108 c343 c341 N (fun (y0 : Nat) (y1 : Bool) (y2 : List Int) (y3 : Int) (y4 : Int) (y5 : Int) (y6 : List V) => κ 0 (((), ((), ((), ((), (y0, ((), ((), ((), ((), ((), ((), ((), ())))))))))))), ((y1, (y2, (y3, (y4, (y5, ()))))), (y6, ())))) n v.1.2.2.2.2.1 v.2.1.1 v.2.1.2.1 v.2.1.2.2.1 v.2.1.2.2.2.1 v.2.1.2.2.2.2.1 v.2.2.1
def W348v1_0 (c108 : List Int → Option (List Int)) (c343 : List Int → Option (Int × Int)) (c341 : List Int → Option ((Bool × Int × (List (Int × (List Int))) × (List Int)) × Int)) (N : Nat) : LoopF QR348v1.T := fun no =>
  match no with
  | _ => fun _ _ => none
theorem b348v1_0 (c108 : List Int → Option (List Int)) (c343 : List Int → Option (Int × Int)) (c341 : List Int → Option ((Bool × Int × (List (Int × (List Int))) × (List Int)) × Int)) (N n : Nat) (v : P348v1_0.T) (κ : (i : Nat) → (Q348v1_0 i).T → Option QR348v1.T) :
    evc (T348v1 c108 c343 c341) (addI (T348v1 c108 c343 c341) (modeOf FT) fuelC 362 k362 (addI (T348v1 c108 c343 c341) (modeOf FT) fuelC 361 k361 (rawOf RW0))) (W348v1_0 c108 c343 c341 N) (retr k348.res 1 QR348v1) (modeOf FT) 1 fuelC (bodyOf (loopN k348 0)) (P348v1_0.st v) (roundK 1 H348v1_0 P348v1_0 Q348v1_0 (u348v1_0 c108 c343 c341 N n) κ) = u348v1_0 c108 c343 c341 N (n + 1) v κ := by kernel_rfl
theorem o348v1_0 (c108 : List Int → Option (List Int)) (c343 : List Int → Option (Int × Int)) (c341 : List Int → Option ((Bool × Int × (List (Int × (List Int))) × (List Int)) × Int)) (hT : TabOK FT XT (T348v1 c108 c343 c341)) (hO : RawOK FT XT (addI (T348v1 c108 c343 c341) (modeOf FT) fuelC 362 k362 (addI (T348v1 c108 c343 c341) (modeOf FT) fuelC 361 k361 (rawOf (α := QR348v1.T) RW0)))) (N : Nat) {s : St} {κ : Ex → St → Option QR348v1.T} {a : QR348v1.T} (h : lpOf 1 H348v1_0 P348v1_0 Q348v1_0 (u348v1_0 c108 c343 c341 N N) s κ = some a) : Out FT XT 1 (retr k348.res 1 QR348v1) (loopN k348 0) s κ a := by
  rw [l348v1_0]
  exact loop_out (LP := W348v1_0 c108 c343 c341 N) (fu := fuelC) hT hO (fun _ _ => rfl) (b348v1_0 c108 c343 c341 N) loopOK_nil N h
def W348v1 (c108 : List Int → Option (List Int)) (c343 : List Int → Option (Int × Int)) (c341 : List Int → Option ((Bool × Int × (List (Int × (List Int))) × (List Int)) × Int)) (N : Nat) : LoopF QR348v1.T := fun no =>
  match no with
  | 0 => lpOf 1 H348v1_0 P348v1_0 Q348v1_0 (u348v1_0 c108 c343 c341 N N)
  | _ => fun _ _ => none
theorem e348v1 (c108 : List Int → Option (List Int)) (c343 : List Int → Option (Int × Int)) (c341 : List Int → Option ((Bool × Int × (List (Int × (List Int))) × (List Int)) × Int)) (N : Nat) (v : PR348v1.T) : evc (T348v1 c108 c343 c341) (addI (T348v1 c108 c343 c341) (modeOf FT) fuelC 362 k362 (addI (T348v1 c108 c343 c341) (modeOf FT) fuelC 361 k361 (rawOf RW0))) (W348v1 c108 c343 c341 N) (retr k348.res 1 QR348v1) (modeOf FT) 1 fuelC k348.body (env0 k348 (PR348v1.a.st v.1), stH PR348v1.h v.2) (endK (retr k348.res 1 QR348v1)) = p348v1 c108 c343 c341 N v.1.2.1 v.2.1.1 v.2.1.2.2.1 v.2.1.2.2.2.1 v.2.1.2.2.2.2.1 := by kernel_rfl
theorem ok348v1 (c108 : List Int → Option (List Int)) (c343 : List Int → Option (Int × Int)) (c341 : List Int → Option ((Bool × Int × (List (Int × (List Int))) × (List Int)) × Int)) (h108 : EntOK FT XT 108 (en108 c108)) (h343 : EntOK FT XT 343 (en343 c343)) (h341 : EntOK FT XT 341 (en341 c341)) {f : List Int → Bool → Int → Int → Int → Option ((((List (Bool × Int × (List (Int × (List Int))) × (List Int))) × (Int × Unit)) × Unit) × ((Bool × ((List Int) × (Int × (Int × (Int × Unit))))) × Unit))} (hf : ∀ a0 a1 a2 a3 a4 r, f a0 a1 a2 a3 a4 = some r → ∃ N, p348v1 c108 c343 c341 N a0 a1 a2 a3 a4 = some r) : REntOK FT XT 348 (rn348v1 f) := by
  have hT : TabOK FT XT (T348v1 c108 c343 c341) := by
    intro g en hg
    unfold T348v1 at hg
    split at hg <;> first | (injection hg with hg; subst hg; assumption) | cases hg
  have hO0 : RawOK FT XT (rawOf (α := QR348v1.T) RW0) := rawOK0
  have hO : RawOK FT XT (addI (T348v1 c108 c343 c341) (modeOf FT) fuelC 362 k362 (addI (T348v1 c108 c343 c341) (modeOf FT) fuelC 361 k361 (rawOf (α := QR348v1.T) RW0))) := addI_ok hT (addI_ok hT (hO0) rfl rfl) rfl rfl
  intro v r w h hw
  obtain ⟨N, h1⟩ := hf _ _ _ _ _ _ h
  exact ans_r (Q := QR348v1) (tab := T348v1 c108 c343 c341) (raw := (addI (T348v1 c108 c343 c341) (modeOf FT) fuelC 362 k362 (addI (T348v1 c108 c343 c341) (modeOf FT) fuelC 361 k361 (rawOf RW0)))) (LP := W348v1 c108 c343 c341 N) (fu := fuelC) hT hO rfl rfl (Nat.le_of_ble_eq_true rfl) rfl (loopOK_cons l348v1_0 (fun s κ a h => o348v1_0 c108 c343 c341 hT hO N h) loopOK_nil) ((e348v1 c108 c343 c341 N v).trans h1) hw

def T333 (c347 : Option Bool) (d348v0 : List Int → Option ((((List (Bool × Int × (List (Int × (List Int))) × (List Int))) × (Int × Unit)) × Unit) × Unit)) (d349v0 : Option ((Int × Unit) × Unit)) (d350v0 : Option ((Int × Unit) × Unit)) (d351v0 : Option ((Int × Unit) × Unit)) (d352v0 : Option ((Int × Unit) × Unit)) (d348v1 : List Int → Bool → Int → Int → Int → Option ((((List (Bool × Int × (List (Int × (List Int))) × (List Int))) × (Int × Unit)) × Unit) × ((Bool × ((List Int) × (Int × (Int × (Int × Unit))))) × Unit))) (d349v1 : Bool → List Int → Int → Int → Int → Option ((Int × Unit) × ((Bool × ((List Int) × (Int × (Int × (Int × Unit))))) × Unit))) (d350v1 : Bool → List Int → Int → Int → Int → Option ((Int × Unit) × ((Bool × ((List Int) × (Int × (Int × (Int × Unit))))) × Unit))) (d351v1 : Bool → List Int → Int → Int → Int → Option ((Int × Unit) × ((Bool × ((List Int) × (Int × (Int × (Int × Unit))))) × Unit))) (d352v1 : Bool → List Int → Int → Int → Int → Option ((Int × Unit) × ((Bool × ((List Int) × (Int × (Int × (Int × Unit))))) × Unit))) (d348v2 : List Int → Bool → List Int → Int → Int → Int → Option ((((List (Bool × Int × (List (Int × (List Int))) × (List Int))) × (Int × Unit)) × Unit) × ((Bool × ((List Int) × (Int × (Int × (Int × Unit))))) × Unit))) : Nat → Option Ent
  | 347 => some (en347 c347)
  | _ => none
def RW333 (c347 : Option Bool) (d348v0 : List Int → Option ((((List (Bool × Int × (List (Int × (List Int))) × (List Int))) × (Int × Unit)) × Unit) × Unit)) (d349v0 : Option ((Int × Unit) × Unit)) (d350v0 : Option ((Int × Unit) × Unit)) (d351v0 : Option ((Int × Unit) × Unit)) (d352v0 : Option ((Int × Unit) × Unit)) (d348v1 : List Int → Bool → Int → Int → Int → Option ((((List (Bool × Int × (List (Int × (List Int))) × (List Int))) × (Int × Unit)) × Unit) × ((Bool × ((List Int) × (Int × (Int × (Int × Unit))))) × Unit))) (d349v1 : Bool → List Int → Int → Int → Int → Option ((Int × Unit) × ((Bool × ((List Int) × (Int × (Int × (Int × Unit))))) × Unit))) (d350v1 : Bool → List Int → Int → Int → Int → Option ((Int × Unit) × ((Bool × ((List Int) × (Int × (Int × (Int × Unit))))) × Unit))) (d351v1 : Bool → List Int → Int → Int → Int → Option ((Int × Unit) × ((Bool × ((List Int) × (Int × (Int × (Int × Unit))))) × Unit))) (d352v1 : Bool → List Int → Int → Int → Int → Option ((Int × Unit) × ((Bool × ((List Int) × (Int × (Int × (Int × Unit))))) × Unit))) (d348v2 : List Int → Bool → List Int → Int → Int → Int → Option ((((List (Bool × Int × (List (Int × (List Int))) × (List Int))) × (Int × Unit)) × Unit) × ((Bool × ((List Int) × (Int × (Int × (Int × Unit))))) × Unit))) : Nat → List REnt
  | 348 => [rn348v0 d348v0, rn348v1 d348v1, rn348v2 d348v2]
  | 349 => [rn349v0 d349v0, rn349v1 d349v1]
  | 350 => [rn350v0 d350v0, rn350v1 d350v1]
  | 351 => [rn351v0 d351v0, rn351v1 d351v1]
  | 352 => [rn352v0 d352v0, rn352v1 d352v1]
  | _ => []
def H333_0 : Trim := ⟨0, [], false, [0, 1, 26, 27, 28], []⟩
theorem l333_0 : loopN k333 0 = .loop H333_0 (bodyOf (loopN k333 0)) := by kernel_rfl
def W333_0 (c347 : Option Bool) (d348v0 : List Int → Option ((((List (Bool × Int × (List (Int × (List Int))) × (List Int))) × (Int × Unit)) × Unit) × Unit)) (d349v0 : Option ((Int × Unit) × Unit)) (d350v0 : Option ((Int × Unit) × Unit)) (d351v0 : Option ((Int × Unit) × Unit)) (d352v0 : Option ((Int × Unit) × Unit)) (d348v1 : List Int → Bool → Int → Int → Int → Option ((((List (Bool × Int × (List (Int × (List Int))) × (List Int))) × (Int × Unit)) × Unit) × ((Bool × ((List Int) × (Int × (Int × (Int × Unit))))) × Unit))) (d349v1 : Bool → List Int → Int → Int → Int → Option ((Int × Unit) × ((Bool × ((List Int) × (Int × (Int × (Int × Unit))))) × Unit))) (d350v1 : Bool → List Int → Int → Int → Int → Option ((Int × Unit) × ((Bool × ((List Int) × (Int × (Int × (Int × Unit))))) × Unit))) (d351v1 : Bool → List Int → Int → Int → Int → Option ((Int × Unit) × ((Bool × ((List Int) × (Int × (Int × (Int × Unit))))) × Unit))) (d352v1 : Bool → List Int → Int → Int → Int → Option ((Int × Unit) × ((Bool × ((List Int) × (Int × (Int × (Int × Unit))))) × Unit))) (d348v2 : List Int → Bool → List Int → Int → Int → Int → Option ((((List (Bool × Int × (List (Int × (List Int))) × (List Int))) × (Int × Unit)) × Unit) × ((Bool × ((List Int) × (Int × (Int × (Int × Unit))))) × Unit))) (N : Nat) : LoopF (Sh.bool).T := fun no =>
  match no with
  | _ => fun _ _ => none
theorem o333_0 (c347 : Option Bool) (d348v0 : List Int → Option ((((List (Bool × Int × (List (Int × (List Int))) × (List Int))) × (Int × Unit)) × Unit) × Unit)) (d349v0 : Option ((Int × Unit) × Unit)) (d350v0 : Option ((Int × Unit) × Unit)) (d351v0 : Option ((Int × Unit) × Unit)) (d352v0 : Option ((Int × Unit) × Unit)) (d348v1 : List Int → Bool → Int → Int → Int → Option ((((List (Bool × Int × (List (Int × (List Int))) × (List Int))) × (Int × Unit)) × Unit) × ((Bool × ((List Int) × (Int × (Int × (Int × Unit))))) × Unit))) (d349v1 : Bool → List Int → Int → Int → Int → Option ((Int × Unit) × ((Bool × ((List Int) × (Int × (Int × (Int × Unit))))) × Unit))) (d350v1 : Bool → List Int → Int → Int → Int → Option ((Int × Unit) × ((Bool × ((List Int) × (Int × (Int × (Int × Unit))))) × Unit))) (d351v1 : Bool → List Int → Int → Int → Int → Option ((Int × Unit) × ((Bool × ((List Int) × (Int × (Int × (Int × Unit))))) × Unit))) (d352v1 : Bool → List Int → Int → Int → Int → Option ((Int × Unit) × ((Bool × ((List Int) × (Int × (Int × (Int × Unit))))) × Unit))) (d348v2 : List Int → Bool → List Int → Int → Int → Int → Option ((((List (Bool × Int × (List (Int × (List Int))) × (List Int))) × (Int × Unit)) × Unit) × ((Bool × ((List Int) × (Int × (Int × (Int × Unit))))) × Unit))) (hT : TabOK FT XT (T333 c347 d348v0 d349v0 d350v0 d351v0 d352v0 d348v1 d349v1 d350v1 d351v1 d352v1 d348v2)) (hO : RawOK FT XT (addI (T333 c347 d348v0 d349v0 d350v0 d351v0 d352v0 d348v1 d349v1 d350v1 d351v1 d352v1 d348v2) (modeOf FT) fuelC 353 k353 (rawOf (α := (Sh.bool).T) (RW333 c347 d348v0 d349v0 d350v0 d351v0 d352v0 d348v1 d349v1 d350v1 d351v1 d352v1 d348v2)))) (N : Nat) {s : St} {κ : Ex → St → Option (Sh.bool).T} {a : (Sh.bool).T} (h : unr (T333 c347 d348v0 d349v0 d350v0 d351v0 d352v0 d348v1 d349v1 d350v1 d351v1 d352v1 d348v2) (addI (T333 c347 d348v0 d349v0 d350v0 d351v0 d352v0 d348v1 d349v1 d350v1 d351v1 d352v1 d348v2) (modeOf FT) fuelC 353 k353 (rawOf (RW333 c347 d348v0 d349v0 d350v0 d351v0 d352v0 d348v1 d349v1 d350v1 d351v1 d352v1 d348v2))) (W333_0 c347 d348v0 d349v0 d350v0 d351v0 d352v0 d348v1 d349v1 d350v1 d351v1 d352v1 d348v2 N) (retc k333.res Sh.bool) (modeOf FT) 0 fuelC H333_0 (bodyOf (loopN k333 0)) 70 s κ = some a) : Out FT XT 0 (retc k333.res Sh.bool) (loopN k333 0) s κ a := by
  rw [l333_0]
  exact unr_out hT hO loopOK_nil 70 h
def W333 (c347 : Option Bool) (d348v0 : List Int → Option ((((List (Bool × Int × (List (Int × (List Int))) × (List Int))) × (Int × Unit)) × Unit) × Unit)) (d349v0 : Option ((Int × Unit) × Unit)) (d350v0 : Option ((Int × Unit) × Unit)) (d351v0 : Option ((Int × Unit) × Unit)) (d352v0 : Option ((Int × Unit) × Unit)) (d348v1 : List Int → Bool → Int → Int → Int → Option ((((List (Bool × Int × (List (Int × (List Int))) × (List Int))) × (Int × Unit)) × Unit) × ((Bool × ((List Int) × (Int × (Int × (Int × Unit))))) × Unit))) (d349v1 : Bool → List Int → Int → Int → Int → Option ((Int × Unit) × ((Bool × ((List Int) × (Int × (Int × (Int × Unit))))) × Unit))) (d350v1 : Bool → List Int → Int → Int → Int → Option ((Int × Unit) × ((Bool × ((List Int) × (Int × (Int × (Int × Unit))))) × Unit))) (d351v1 : Bool → List Int → Int → Int → Int → Option ((Int × Unit) × ((Bool × ((List Int) × (Int × (Int × (Int × Unit))))) × Unit))) (d352v1 : Bool → List Int → Int → Int → Int → Option ((Int × Unit) × ((Bool × ((List Int) × (Int × (Int × (Int × Unit))))) × Unit))) (d348v2 : List Int → Bool → List Int → Int → Int → Int → Option ((((List (Bool × Int × (List (Int × (List Int))) × (List Int))) × (Int × Unit)) × Unit) × ((Bool × ((List Int) × (Int × (Int × (Int × Unit))))) × Unit))) (N : Nat) : LoopF (Sh.bool).T := fun no =>
  match no with
  | 0 => unr (T333 c347 d348v0 d349v0 d350v0 d351v0 d352v0 d348v1 d349v1 d350v1 d351v1 d352v1 d348v2) (addI (T333 c347 d348v0 d349v0 d350v0 d351v0 d352v0 d348v1 d349v1 d350v1 d351v1 d352v1 d348v2) (modeOf FT) fuelC 353 k353 (rawOf (RW333 c347 d348v0 d349v0 d350v0 d351v0 d352v0 d348v1 d349v1 d350v1 d351v1 d352v1 d348v2))) (W333_0 c347 d348v0 d349v0 d350v0 d351v0 d352v0 d348v1 d349v1 d350v1 d351v1 d352v1 d348v2 N) (retc k333.res Sh.bool) (modeOf FT) 0 fuelC H333_0 (bodyOf (loopN k333 0)) 70
  | _ => fun _ _ => none
theorem e333 (c347 : Option Bool) (d348v0 : List Int → Option ((((List (Bool × Int × (List (Int × (List Int))) × (List Int))) × (Int × Unit)) × Unit) × Unit)) (d349v0 : Option ((Int × Unit) × Unit)) (d350v0 : Option ((Int × Unit) × Unit)) (d351v0 : Option ((Int × Unit) × Unit)) (d352v0 : Option ((Int × Unit) × Unit)) (d348v1 : List Int → Bool → Int → Int → Int → Option ((((List (Bool × Int × (List (Int × (List Int))) × (List Int))) × (Int × Unit)) × Unit) × ((Bool × ((List Int) × (Int × (Int × (Int × Unit))))) × Unit))) (d349v1 : Bool → List Int → Int → Int → Int → Option ((Int × Unit) × ((Bool × ((List Int) × (Int × (Int × (Int × Unit))))) × Unit))) (d350v1 : Bool → List Int → Int → Int → Int → Option ((Int × Unit) × ((Bool × ((List Int) × (Int × (Int × (Int × Unit))))) × Unit))) (d351v1 : Bool → List Int → Int → Int → Int → Option ((Int × Unit) × ((Bool × ((List Int) × (Int × (Int × (Int × Unit))))) × Unit))) (d352v1 : Bool → List Int → Int → Int → Int → Option ((Int × Unit) × ((Bool × ((List Int) × (Int × (Int × (Int × Unit))))) × Unit))) (d348v2 : List Int → Bool → List Int → Int → Int → Int → Option ((((List (Bool × Int × (List (Int × (List Int))) × (List Int))) × (Int × Unit)) × Unit) × ((Bool × ((List Int) × (Int × (Int × (Int × Unit))))) × Unit))) (N : Nat) (a0 : List Int) (a1 : List Int) : evc (T333 c347 d348v0 d349v0 d350v0 d351v0 d352v0 d348v1 d349v1 d350v1 d351v1 d352v1 d348v2) (addI (T333 c347 d348v0 d349v0 d350v0 d351v0 d352v0 d348v1 d349v1 d350v1 d351v1 d352v1 d348v2) (modeOf FT) fuelC 353 k353 (rawOf (RW333 c347 d348v0 d349v0 d350v0 d351v0 d352v0 d348v1 d349v1 d350v1 d351v1 d352v1 d348v2))) (W333 c347 d348v0 d349v0 d350v0 d351v0 d352v0 d348v1 d349v1 d350v1 d351v1 d352v1 d348v2 N) (retc k333.res Sh.bool) (modeOf FT) 0 fuelC k333.body (env0 k333 (encL [(Sh.sl (Sh.int .u8)), (Sh.sl (Sh.int .u8))] (a0, (a1, ()))), []) (endK (retc k333.res Sh.bool)) = p333 c347 d348v0 d349v0 d350v0 d351v0 d352v0 d348v1 d349v1 d350v1 d351v1 d352v1 d348v2 N a0 a1 := by kernel_rfl
theorem ok333 (c347 : Option Bool) (d348v0 : List Int → Option ((((List (Bool × Int × (List (Int × (List Int))) × (List Int))) × (Int × Unit)) × Unit) × Unit)) (d349v0 : Option ((Int × Unit) × Unit)) (d350v0 : Option ((Int × Unit) × Unit)) (d351v0 : Option ((Int × Unit) × Unit)) (d352v0 : Option ((Int × Unit) × Unit)) (d348v1 : List Int → Bool → Int → Int → Int → Option ((((List (Bool × Int × (List (Int × (List Int))) × (List Int))) × (Int × Unit)) × Unit) × ((Bool × ((List Int) × (Int × (Int × (Int × Unit))))) × Unit))) (d349v1 : Bool → List Int → Int → Int → Int → Option ((Int × Unit) × ((Bool × ((List Int) × (Int × (Int × (Int × Unit))))) × Unit))) (d350v1 : Bool → List Int → Int → Int → Int → Option ((Int × Unit) × ((Bool × ((List Int) × (Int × (Int × (Int × Unit))))) × Unit))) (d351v1 : Bool → List Int → Int → Int → Int → Option ((Int × Unit) × ((Bool × ((List Int) × (Int × (Int × (Int × Unit))))) × Unit))) (d352v1 : Bool → List Int → Int → Int → Int → Option ((Int × Unit) × ((Bool × ((List Int) × (Int × (Int × (Int × Unit))))) × Unit))) (d348v2 : List Int → Bool → List Int → Int → Int → Int → Option ((((List (Bool × Int × (List (Int × (List Int))) × (List Int))) × (Int × Unit)) × Unit) × ((Bool × ((List Int) × (Int × (Int × (Int × Unit))))) × Unit))) (h347 : EntOK FT XT 347 (en347 c347)) (h348v0 : REntOK FT XT 348 (rn348v0 d348v0)) (h349v0 : REntOK FT XT 349 (rn349v0 d349v0)) (h350v0 : REntOK FT XT 350 (rn350v0 d350v0)) (h351v0 : REntOK FT XT 351 (rn351v0 d351v0)) (h352v0 : REntOK FT XT 352 (rn352v0 d352v0)) (h348v1 : REntOK FT XT 348 (rn348v1 d348v1)) (h349v1 : REntOK FT XT 349 (rn349v1 d349v1)) (h350v1 : REntOK FT XT 350 (rn350v1 d350v1)) (h351v1 : REntOK FT XT 351 (rn351v1 d351v1)) (h352v1 : REntOK FT XT 352 (rn352v1 d352v1)) (h348v2 : REntOK FT XT 348 (rn348v2 d348v2)) {f : List Int → List Int → Option Bool} (hf : ∀ a0 a1 r, f a0 a1 = some r → ∃ N, p333 c347 d348v0 d349v0 d350v0 d351v0 d352v0 d348v1 d349v1 d350v1 d351v1 d352v1 d348v2 N a0 a1 = some r) : EntOK FT XT 333 (en333 f) := by
  have hT : TabOK FT XT (T333 c347 d348v0 d349v0 d350v0 d351v0 d352v0 d348v1 d349v1 d350v1 d351v1 d352v1 d348v2) := by
    intro g en hg
    unfold T333 at hg
    split at hg <;> first | (injection hg with hg; subst hg; assumption) | cases hg
  have hO0 : RawOK FT XT (rawOf (α := (Sh.bool).T) (RW333 c347 d348v0 d349v0 d350v0 d351v0 d352v0 d348v1 d349v1 d350v1 d351v1 d352v1 d348v2)) := by
    refine rawOf_ok (fun g en hg => ?_)
    unfold RW333 at hg
    split at hg <;> simp only [List.mem_cons, List.not_mem_nil, or_false] at hg <;> first | (subst hg; assumption) | (rcases hg with rfl | rfl <;> assumption) | (rcases hg with rfl | rfl | rfl <;> assumption) | (rcases hg with rfl | rfl | rfl | rfl <;> assumption)
  have hO : RawOK FT XT (addI (T333 c347 d348v0 d349v0 d350v0 d351v0 d352v0 d348v1 d349v1 d350v1 d351v1 d352v1 d348v2) (modeOf FT) fuelC 353 k353 (rawOf (α := (Sh.bool).T) (RW333 c347 d348v0 d349v0 d350v0 d351v0 d352v0 d348v1 d349v1 d350v1 d351v1 d352v1 d348v2))) := addI_ok hT (hO0) rfl rfl
  refine ⟨rfl, fun v r h => ?_⟩
  obtain ⟨a0, a1, _⟩ := v
  obtain ⟨N, h1⟩ := hf _ _ _ h
  exact ans_c (R := Sh.bool) (tab := T333 c347 d348v0 d349v0 d350v0 d351v0 d352v0 d348v1 d349v1 d350v1 d351v1 d352v1 d348v2) (raw := (addI (T333 c347 d348v0 d349v0 d350v0 d351v0 d352v0 d348v1 d349v1 d350v1 d351v1 d352v1 d348v2) (modeOf FT) fuelC 353 k353 (rawOf (RW333 c347 d348v0 d349v0 d350v0 d351v0 d352v0 d348v1 d349v1 d350v1 d351v1 d352v1 d348v2)))) (LP := W333 c347 d348v0 d349v0 d350v0 d351v0 d352v0 d348v1 d349v1 d350v1 d351v1 d352v1 d348v2 N) (fu := fuelC) hT hO rfl rfl (Nat.le_of_ble_eq_true rfl) (loopOK_cons l333_0 (fun s κ a h => o333_0 c347 d348v0 d349v0 d350v0 d351v0 d352v0 d348v1 d349v1 d350v1 d351v1 d352v1 d348v2 hT hO N h) loopOK_nil) ((e333 c347 d348v0 d349v0 d350v0 d351v0 d352v0 d348v1 d349v1 d350v1 d351v1 d352v1 d348v2 N _ _).trans h1)

def T354 : Nat → Option Ent
  | _ => none
def H354_0 : Trim := ⟨0, [], false, [0, 5, 13, 14, 15], [(5, (.imm []), 1)]⟩
theorem l354_0 : loopN k354 0 = .loop H354_0 (bodyOf (loopN k354 0)) := by kernel_rfl
def P354_0 : Ps := ⟨[(0, (.tb (Sh.int .u8))), (1, .u), (4, .u), (5, (.sl 0 1)), (7, .u), (8, .u), (13, (.tb (Sh.int .u16))), (14, (.int .i64)), (15, (.int .i64)), (16, .u)], [(.imm false)]⟩
def Q354_0 : Nat → Ps
  | 0 => ⟨[(0, (.tb (Sh.int .u8))), (1, .u), (4, .u), (5, (.sl 0 1)), (7, .u), (8, .u), (13, .u), (14, .u), (15, .u), (16, .u)], [(.imm false)]⟩
  | _ => noPs
def u354_0 (N n : Nat) (v : P354_0.T) (κ : (i : Nat) → (Q354_0 i).T → Option (((Sh.sl (Sh.sl (Sh.int .u8)))).T)) : Option (((Sh.sl (Sh.sl (Sh.int .u8)))).T) :=
  L354_0 N (fun (y0 : List Int) (y1 : Nat) (y2 : List V) => κ 0 ((y0, ((), ((), (y1, ((), ((), ((), ((), ((), ((), ())))))))))), (y2, ()))) n v.1.1 v.1.2.2.2.1 v.1.2.2.2.2.2.2.1 v.1.2.2.2.2.2.2.2.1 v.1.2.2.2.2.2.2.2.2.1 v.2.1
def W354_0 (N : Nat) : LoopF (((Sh.sl (Sh.sl (Sh.int .u8)))).T) := fun no =>
  match no with
  | _ => fun _ _ => none
theorem b354_0 (N n : Nat) (v : P354_0.T) (κ : (i : Nat) → (Q354_0 i).T → Option (((Sh.sl (Sh.sl (Sh.int .u8)))).T)) :
    evc (T354) (rawOf RW0) (W354_0 N) (retc k354.res (Sh.sl (Sh.sl (Sh.int .u8)))) (modeOf FT) 0 fuelC (bodyOf (loopN k354 0)) (P354_0.st v) (roundK 0 H354_0 P354_0 Q354_0 (u354_0 N n) κ) = u354_0 N (n + 1) v κ := by kernel_rfl
theorem o354_0 (hT : TabOK FT XT (T354)) (hO : RawOK FT XT (rawOf (α := ((Sh.sl (Sh.sl (Sh.int .u8)))).T) RW0)) (N : Nat) {s : St} {κ : Ex → St → Option (((Sh.sl (Sh.sl (Sh.int .u8)))).T)} {a : ((Sh.sl (Sh.sl (Sh.int .u8)))).T} (h : lpOf 0 H354_0 P354_0 Q354_0 (u354_0 N N) s κ = some a) : Out FT XT 0 (retc k354.res (Sh.sl (Sh.sl (Sh.int .u8)))) (loopN k354 0) s κ a := by
  rw [l354_0]
  exact loop_out (LP := W354_0 N) (fu := fuelC) hT hO (fun _ _ => rfl) (b354_0 N) loopOK_nil N h
def W354 (N : Nat) : LoopF (((Sh.sl (Sh.sl (Sh.int .u8)))).T) := fun no =>
  match no with
  | 0 => lpOf 0 H354_0 P354_0 Q354_0 (u354_0 N N)
  | _ => fun _ _ => none
theorem e354 (N : Nat) (a0 : List Int) (a1 : List Int) : evc (T354) (rawOf RW0) (W354 N) (retc k354.res (Sh.sl (Sh.sl (Sh.int .u8)))) (modeOf FT) 0 fuelC k354.body (env0 k354 (encL [(Sh.sl (Sh.int .u8)), (Sh.sl (Sh.int .u16))] (a0, (a1, ()))), []) (endK (retc k354.res (Sh.sl (Sh.sl (Sh.int .u8))))) = p354 N a0 a1 := by kernel_rfl
theorem ok354 {f : List Int → List Int → Option (List (List Int))} (hf : ∀ a0 a1 r, f a0 a1 = some r → ∃ N, p354 N a0 a1 = some r) : EntOK FT XT 354 (en354 f) := by
  have hT : TabOK FT XT (T354) := by
    intro g en hg
    unfold T354 at hg
    split at hg <;> first | (injection hg with hg; subst hg; assumption) | cases hg
  have hO0 : RawOK FT XT (rawOf (α := ((Sh.sl (Sh.sl (Sh.int .u8)))).T) RW0) := rawOK0
  have hO : RawOK FT XT (rawOf (α := ((Sh.sl (Sh.sl (Sh.int .u8)))).T) RW0) := hO0
  refine ⟨rfl, fun v r h => ?_⟩
  obtain ⟨a0, a1, _⟩ := v
  obtain ⟨N, h1⟩ := hf _ _ _ h
  exact ans_c (R := (Sh.sl (Sh.sl (Sh.int .u8)))) (tab := T354) (raw := (rawOf RW0)) (LP := W354 N) (fu := fuelC) hT hO rfl rfl (Nat.le_of_ble_eq_true rfl) (loopOK_cons l354_0 (fun s κ a h => o354_0 hT hO N h) loopOK_nil) ((e354 N _ _).trans h1)

def T334 (c347 : Option Bool) (c354 : List Int → List Int → Option (List (List Int))) (d348v2 : List Int → Bool → List Int → Int → Int → Int → Option ((((List (Bool × Int × (List (Int × (List Int))) × (List Int))) × (Int × Unit)) × Unit) × ((Bool × ((List Int) × (Int × (Int × (Int × Unit))))) × Unit))) (d349v1 : Bool → List Int → Int → Int → Int → Option ((Int × Unit) × ((Bool × ((List Int) × (Int × (Int × (Int × Unit))))) × Unit))) (d352v1 : Bool → List Int → Int → Int → Int → Option ((Int × Unit) × ((Bool × ((List Int) × (Int × (Int × (Int × Unit))))) × Unit))) (d351v1 : Bool → List Int → Int → Int → Int → Option ((Int × Unit) × ((Bool × ((List Int) × (Int × (Int × (Int × Unit))))) × Unit))) (d350v1 : Bool → List Int → Int → Int → Int → Option ((Int × Unit) × ((Bool × ((List Int) × (Int × (Int × (Int × Unit))))) × Unit))) : Nat → Option Ent
  | 347 => some (en347 c347)
  | 354 => some (en354 c354)
  | _ => none
def RW334 (c347 : Option Bool) (c354 : List Int → List Int → Option (List (List Int))) (d348v2 : List Int → Bool → List Int → Int → Int → Int → Option ((((List (Bool × Int × (List (Int × (List Int))) × (List Int))) × (Int × Unit)) × Unit) × ((Bool × ((List Int) × (Int × (Int × (Int × Unit))))) × Unit))) (d349v1 : Bool → List Int → Int → Int → Int → Option ((Int × Unit) × ((Bool × ((List Int) × (Int × (Int × (Int × Unit))))) × Unit))) (d352v1 : Bool → List Int → Int → Int → Int → Option ((Int × Unit) × ((Bool × ((List Int) × (Int × (Int × (Int × Unit))))) × Unit))) (d351v1 : Bool → List Int → Int → Int → Int → Option ((Int × Unit) × ((Bool × ((List Int) × (Int × (Int × (Int × Unit))))) × Unit))) (d350v1 : Bool → List Int → Int → Int → Int → Option ((Int × Unit) × ((Bool × ((List Int) × (Int × (Int × (Int × Unit))))) × Unit))) : Nat → List REnt
  | 348 => [rn348v2 d348v2]
  | 349 => [rn349v1 d349v1]
  | 352 => [rn352v1 d352v1]
  | 351 => [rn351v1 d351v1]
  | 350 => [rn350v1 d350v1]
  | _ => []
def H334_0 : Trim := ⟨0, [], false, [5, 6, 18, 19, 20], []⟩
theorem l334_0 : loopN k334 0 = .loop H334_0 (bodyOf (loopN k334 0)) := by kernel_rfl
def P334_0 : Ps := ⟨[(0, .u), (1, .u), (4, .u), (5, (.ptr 0 0)), (6, (.int .i64)), (8, .u), (10, .u), (13, .u), (18, (.tb (Sh.sl (Sh.int .u8)))), (19, (.int .i64)), (20, (.int .i64)), (21, .u), (35, .u), (66, .u)], [(.vals false (.cons .bool (.cons (.tb (Sh.int .u8)) (.cons (.int .i64) (.cons (.int .i64) (.cons (.int .i64) .nil))))))]⟩
def Q334_0 : Nat → Ps
  | 0 => ⟨[(0, .u), (1, .u), (4, .u), (5, .u), (6, .u), (8, .u), (10, .u), (13, .u), (18, .u), (19, .u), (20, .u), (21, .u), (35, .u), (66, .u)], []⟩
  | _ => noPs
def u334_0 (c347 : Option Bool) (c354 : List Int → List Int → Option (List (List Int))) (d348v2 : List Int → Bool → List Int → Int → Int → Int → Option ((((List (Bool × Int × (List (Int × (List Int))) × (List Int))) × (Int × Unit)) × Unit) × ((Bool × ((List Int) × (Int × (Int × (Int × Unit))))) × Unit))) (d349v1 : Bool → List Int → Int → Int → Int → Option ((Int × Unit) × ((Bool × ((List Int) × (Int × (Int × (Int × Unit))))) × Unit))) (d352v1 : Bool → List Int → Int → Int → Int → Option ((Int × Unit) × ((Bool × ((List Int) × (Int × (Int × (Int × Unit))))) × Unit))) (d351v1 : Bool → List Int → Int → Int → Int → Option ((Int × Unit) × ((Bool × ((List Int) × (Int × (Int × (Int × Unit))))) × Unit))) (d350v1 : Bool → List Int → Int → Int → Int → Option ((Int × Unit) × ((Bool × ((List Int) × (Int × (Int × (Int × Unit))))) × Unit))) (N n : Nat) (v : P334_0.T) (κ : (i : Nat) → (Q334_0 i).T → Option (Sh.bool).T) : Option (Sh.bool).T :=
  L334_0 c347 c354 d348v2 d349v1 d352v1 d351v1 d350v1 N (κ 0 (((), ((), ((), ((), ((), ((), ((), ((), ((), ((), ((), ((), ((), ((), ())))))))))))))), ())) n v.1.2.2.2.2.1 v.1.2.2.2.2.2.2.2.2.1 v.1.2.2.2.2.2.2.2.2.2.1 v.1.2.2.2.2.2.2.2.2.2.2.1 v.2.1.1 v.2.1.2.1 v.2.1.2.2.1 v.2.1.2.2.2.1 v.2.1.2.2.2.2.1
def W334_0 (c347 : Option Bool) (c354 : List Int → List Int → Option (List (List Int))) (d348v2 : List Int → Bool → List Int → Int → Int → Int → Option ((((List (Bool × Int × (List (Int × (List Int))) × (List Int))) × (Int × Unit)) × Unit) × ((Bool × ((List Int) × (Int × (Int × (Int × Unit))))) × Unit))) (d349v1 : Bool → List Int → Int → Int → Int → Option ((Int × Unit) × ((Bool × ((List Int) × (Int × (Int × (Int × Unit))))) × Unit))) (d352v1 : Bool → List Int → Int → Int → Int → Option ((Int × Unit) × ((Bool × ((List Int) × (Int × (Int × (Int × Unit))))) × Unit))) (d351v1 : Bool → List Int → Int → Int → Int → Option ((Int × Unit) × ((Bool × ((List Int) × (Int × (Int × (Int × Unit))))) × Unit))) (d350v1 : Bool → List Int → Int → Int → Int → Option ((Int × Unit) × ((Bool × ((List Int) × (Int × (Int × (Int × Unit))))) × Unit))) (N : Nat) : LoopF (Sh.bool).T := fun no =>
  match no with
  | _ => fun _ _ => none
theorem b334_0 (c347 : Option Bool) (c354 : List Int → List Int → Option (List (List Int))) (d348v2 : List Int → Bool → List Int → Int → Int → Int → Option ((((List (Bool × Int × (List (Int × (List Int))) × (List Int))) × (Int × Unit)) × Unit) × ((Bool × ((List Int) × (Int × (Int × (Int × Unit))))) × Unit))) (d349v1 : Bool → List Int → Int → Int → Int → Option ((Int × Unit) × ((Bool × ((List Int) × (Int × (Int × (Int × Unit))))) × Unit))) (d352v1 : Bool → List Int → Int → Int → Int → Option ((Int × Unit) × ((Bool × ((List Int) × (Int × (Int × (Int × Unit))))) × Unit))) (d351v1 : Bool → List Int → Int → Int → Int → Option ((Int × Unit) × ((Bool × ((List Int) × (Int × (Int × (Int × Unit))))) × Unit))) (d350v1 : Bool → List Int → Int → Int → Int → Option ((Int × Unit) × ((Bool × ((List Int) × (Int × (Int × (Int × Unit))))) × Unit))) (N n : Nat) (v : P334_0.T) (κ : (i : Nat) → (Q334_0 i).T → Option (Sh.bool).T) :
    evc (T334 c347 c354 d348v2 d349v1 d352v1 d351v1 d350v1) (addI (T334 c347 c354 d348v2 d349v1 d352v1 d351v1 d350v1) (modeOf FT) fuelC 353 k353 (rawOf (RW334 c347 c354 d348v2 d349v1 d352v1 d351v1 d350v1))) (W334_0 c347 c354 d348v2 d349v1 d352v1 d351v1 d350v1 N) (retc k334.res Sh.bool) (modeOf FT) 0 fuelC (bodyOf (loopN k334 0)) (P334_0.st v) (roundK 0 H334_0 P334_0 Q334_0 (u334_0 c347 c354 d348v2 d349v1 d352v1 d351v1 d350v1 N n) κ) = u334_0 c347 c354 d348v2 d349v1 d352v1 d351v1 d350v1 N (n + 1) v κ := by kernel_rfl
theorem o334_0 (c347 : Option Bool) (c354 : List Int → List Int → Option (List (List Int))) (d348v2 : List Int → Bool → List Int → Int → Int → Int → Option ((((List (Bool × Int × (List (Int × (List Int))) × (List Int))) × (Int × Unit)) × Unit) × ((Bool × ((List Int) × (Int × (Int × (Int × Unit))))) × Unit))) (d349v1 : Bool → List Int → Int → Int → Int → Option ((Int × Unit) × ((Bool × ((List Int) × (Int × (Int × (Int × Unit))))) × Unit))) (d352v1 : Bool → List Int → Int → Int → Int → Option ((Int × Unit) × ((Bool × ((List Int) × (Int × (Int × (Int × Unit))))) × Unit))) (d351v1 : Bool → List Int → Int → Int → Int → Option ((Int × Unit) × ((Bool × ((List Int) × (Int × (Int × (Int × Unit))))) × Unit))) (d350v1 : Bool → List Int → Int → Int → Int → Option ((Int × Unit) × ((Bool × ((List Int) × (Int × (Int × (Int × Unit))))) × Unit))) (hT : TabOK FT XT (T334 c347 c354 d348v2 d349v1 d352v1 d351v1 d350v1)) (hO : RawOK FT XT (addI (T334 c347 c354 d348v2 d349v1 d352v1 d351v1 d350v1) (modeOf FT) fuelC 353 k353 (rawOf (α := (Sh.bool).T) (RW334 c347 c354 d348v2 d349v1 d352v1 d351v1 d350v1)))) (N : Nat) {s : St} {κ : Ex → St → Option (Sh.bool).T} {a : (Sh.bool).T} (h : lpOf 0 H334_0 P334_0 Q334_0 (u334_0 c347 c354 d348v2 d349v1 d352v1 d351v1 d350v1 N N) s κ = some a) : Out FT XT 0 (retc k334.res Sh.bool) (loopN k334 0) s κ a := by
  rw [l334_0]
  exact loop_out (LP := W334_0 c347 c354 d348v2 d349v1 d352v1 d351v1 d350v1 N) (fu := fuelC) hT hO (fun _ _ => rfl) (b334_0 c347 c354 d348v2 d349v1 d352v1 d351v1 d350v1 N) loopOK_nil N h
def W334 (c347 : Option Bool) (c354 : List Int → List Int → Option (List (List Int))) (d348v2 : List Int → Bool → List Int → Int → Int → Int → Option ((((List (Bool × Int × (List (Int × (List Int))) × (List Int))) × (Int × Unit)) × Unit) × ((Bool × ((List Int) × (Int × (Int × (Int × Unit))))) × Unit))) (d349v1 : Bool → List Int → Int → Int → Int → Option ((Int × Unit) × ((Bool × ((List Int) × (Int × (Int × (Int × Unit))))) × Unit))) (d352v1 : Bool → List Int → Int → Int → Int → Option ((Int × Unit) × ((Bool × ((List Int) × (Int × (Int × (Int × Unit))))) × Unit))) (d351v1 : Bool → List Int → Int → Int → Int → Option ((Int × Unit) × ((Bool × ((List Int) × (Int × (Int × (Int × Unit))))) × Unit))) (d350v1 : Bool → List Int → Int → Int → Int → Option ((Int × Unit) × ((Bool × ((List Int) × (Int × (Int × (Int × Unit))))) × Unit))) (N : Nat) : LoopF (Sh.bool).T := fun no =>
  match no with
  | 0 => lpOf 0 H334_0 P334_0 Q334_0 (u334_0 c347 c354 d348v2 d349v1 d352v1 d351v1 d350v1 N N)
  | _ => fun _ _ => none
theorem e334 (c347 : Option Bool) (c354 : List Int → List Int → Option (List (List Int))) (d348v2 : List Int → Bool → List Int → Int → Int → Int → Option ((((List (Bool × Int × (List (Int × (List Int))) × (List Int))) × (Int × Unit)) × Unit) × ((Bool × ((List Int) × (Int × (Int × (Int × Unit))))) × Unit))) (d349v1 : Bool → List Int → Int → Int → Int → Option ((Int × Unit) × ((Bool × ((List Int) × (Int × (Int × (Int × Unit))))) × Unit))) (d352v1 : Bool → List Int → Int → Int → Int → Option ((Int × Unit) × ((Bool × ((List Int) × (Int × (Int × (Int × Unit))))) × Unit))) (d351v1 : Bool → List Int → Int → Int → Int → Option ((Int × Unit) × ((Bool × ((List Int) × (Int × (Int × (Int × Unit))))) × Unit))) (d350v1 : Bool → List Int → Int → Int → Int → Option ((Int × Unit) × ((Bool × ((List Int) × (Int × (Int × (Int × Unit))))) × Unit))) (N : Nat) (a0 : List Int) (a1 : List Int) : evc (T334 c347 c354 d348v2 d349v1 d352v1 d351v1 d350v1) (addI (T334 c347 c354 d348v2 d349v1 d352v1 d351v1 d350v1) (modeOf FT) fuelC 353 k353 (rawOf (RW334 c347 c354 d348v2 d349v1 d352v1 d351v1 d350v1))) (W334 c347 c354 d348v2 d349v1 d352v1 d351v1 d350v1 N) (retc k334.res Sh.bool) (modeOf FT) 0 fuelC k334.body (env0 k334 (encL [(Sh.sl (Sh.int .u8)), (Sh.sl (Sh.int .u16))] (a0, (a1, ()))), []) (endK (retc k334.res Sh.bool)) = p334 c347 c354 d348v2 d349v1 d352v1 d351v1 d350v1 N a0 a1 := by kernel_rfl
theorem ok334 (c347 : Option Bool) (c354 : List Int → List Int → Option (List (List Int))) (d348v2 : List Int → Bool → List Int → Int → Int → Int → Option ((((List (Bool × Int × (List (Int × (List Int))) × (List Int))) × (Int × Unit)) × Unit) × ((Bool × ((List Int) × (Int × (Int × (Int × Unit))))) × Unit))) (d349v1 : Bool → List Int → Int → Int → Int → Option ((Int × Unit) × ((Bool × ((List Int) × (Int × (Int × (Int × Unit))))) × Unit))) (d352v1 : Bool → List Int → Int → Int → Int → Option ((Int × Unit) × ((Bool × ((List Int) × (Int × (Int × (Int × Unit))))) × Unit))) (d351v1 : Bool → List Int → Int → Int → Int → Option ((Int × Unit) × ((Bool × ((List Int) × (Int × (Int × (Int × Unit))))) × Unit))) (d350v1 : Bool → List Int → Int → Int → Int → Option ((Int × Unit) × ((Bool × ((List Int) × (Int × (Int × (Int × Unit))))) × Unit))) (h347 : EntOK FT XT 347 (en347 c347)) (h354 : EntOK FT XT 354 (en354 c354)) (h348v2 : REntOK FT XT 348 (rn348v2 d348v2)) (h349v1 : REntOK FT XT 349 (rn349v1 d349v1)) (h352v1 : REntOK FT XT 352 (rn352v1 d352v1)) (h351v1 : REntOK FT XT 351 (rn351v1 d351v1)) (h350v1 : REntOK FT XT 350 (rn350v1 d350v1)) {f : List Int → List Int → Option Bool} (hf : ∀ a0 a1 r, f a0 a1 = some r → ∃ N, p334 c347 c354 d348v2 d349v1 d352v1 d351v1 d350v1 N a0 a1 = some r) : EntOK FT XT 334 (en334 f) := by
  have hT : TabOK FT XT (T334 c347 c354 d348v2 d349v1 d352v1 d351v1 d350v1) := by
    intro g en hg
    unfold T334 at hg
    split at hg <;> first | (injection hg with hg; subst hg; assumption) | cases hg
  have hO0 : RawOK FT XT (rawOf (α := (Sh.bool).T) (RW334 c347 c354 d348v2 d349v1 d352v1 d351v1 d350v1)) := by
    refine rawOf_ok (fun g en hg => ?_)
    unfold RW334 at hg
    split at hg <;> simp only [List.mem_cons, List.not_mem_nil, or_false] at hg <;> first | (subst hg; assumption) | (rcases hg with rfl | rfl <;> assumption) | (rcases hg with rfl | rfl | rfl <;> assumption) | (rcases hg with rfl | rfl | rfl | rfl <;> assumption)
  have hO : RawOK FT XT (addI (T334 c347 c354 d348v2 d349v1 d352v1 d351v1 d350v1) (modeOf FT) fuelC 353 k353 (rawOf (α := (Sh.bool).T) (RW334 c347 c354 d348v2 d349v1 d352v1 d351v1 d350v1))) := addI_ok hT (hO0) rfl rfl
  refine ⟨rfl, fun v r h => ?_⟩
  obtain ⟨a0, a1, _⟩ := v
  obtain ⟨N, h1⟩ := hf _ _ _ h
  exact ans_c (R := Sh.bool) (tab := T334 c347 c354 d348v2 d349v1 d352v1 d351v1 d350v1) (raw := (addI (T334 c347 c354 d348v2 d349v1 d352v1 d351v1 d350v1) (modeOf FT) fuelC 353 k353 (rawOf (RW334 c347 c354 d348v2 d349v1 d352v1 d351v1 d350v1)))) (LP := W334 c347 c354 d348v2 d349v1 d352v1 d351v1 d350v1 N) (fu := fuelC) hT hO rfl rfl (Nat.le_of_ble_eq_true rfl) (loopOK_cons l334_0 (fun s κ a h => o334_0 c347 c354 d348v2 d349v1 d352v1 d351v1 d350v1 hT hO N h) loopOK_nil) ((e334 c347 c354 d348v2 d349v1 d352v1 d351v1 d350v1 N _ _).trans h1)

def T355 (c344 : List Int → Option (Int × Int)) (c342 : List Int → Option ((Bool × Int × (List (Int × (List Int))) × (List Int)) × Int)) : Nat → Option Ent
  | 344 => some (en344 c344)
  | 342 => some (en342 c342)
  | _ => none
def H355_0 : Trim := ⟨0, [], false, [0, 5, 6], [(5, (.imm []), 4)]⟩
theorem l355_0 : loopN k355 0 = .loop H355_0 (bodyOf (loopN k355 0)) := by kernel_rfl
def P355_0 : Ps := ⟨[(0, (.tb (Sh.int .u8))), (2, .u), (3, .u), (4, .u), (5, (.sl 0 4)), (6, (.int .i64)), (7, .u), (8, .u), (9, .u), (14, .u), (23, .u), (32, .u), (46, .u)], [(.imm false)]⟩
def Q355_0 : Nat → Ps
  | 0 => ⟨[(0, .u), (2, .u), (3, .u), (4, .u), (5, (.sl 0 4)), (6, (.int .i64)), (7, .u), (8, .u), (9, .u), (14, .u), (23, .u), (32, .u), (46, .u)], [(.imm false)]⟩
  | _ => noPs
def u355_0 (c344 : List Int → Option (Int × Int)) (c342 : List Int → Option ((Bool × Int × (List (Int × (List Int))) × (List Int)) × Int)) (N n : Nat) (v : P355_0.T) (κ : (i : Nat) → (Q355_0 i).T → Option (((Sh.tu (Sh.pr (Sh.sl (Sh.pr Sh.bool (Sh.pr (Sh.int .u16) (Sh.pr (Sh.sl (Sh.pr (Sh.int .u8) (Sh.sl (Sh.int .u8)))) (Sh.sl (Sh.int .u8)))))) (Sh.pr (Sh.int .i64) (Sh.int .i64))))).T)) : Option (((Sh.tu (Sh.pr (Sh.sl (Sh.pr Sh.bool (Sh.pr (Sh.int .u16) (Sh.pr (Sh.sl (Sh.pr (Sh.int .u8) (Sh.sl (Sh.int .u8)))) (Sh.sl (Sh.int .u8)))))) (Sh.pr (Sh.int .i64) (Sh.int .i64))))).T) :=
  L355_0 c344 c342 N (fun (y0 : Nat) (y1 : Int) (y2 : List V) => κ 0 (((), ((), ((), ((), (y0, (y1, ((), ((), ((), ((), ((), ((), ((), ()))))))))))))), (y2, ()))) n v.1.1 v.1.2.2.2.2.1 v.1.2.2.2.2.2.1 v.2.1
def W355_0 (c344 : List Int → Option (Int × Int)) (c342 : List Int → Option ((Bool × Int × (List (Int × (List Int))) × (List Int)) × Int)) (N : Nat) : LoopF (((Sh.tu (Sh.pr (Sh.sl (Sh.pr Sh.bool (Sh.pr (Sh.int .u16) (Sh.pr (Sh.sl (Sh.pr (Sh.int .u8) (Sh.sl (Sh.int .u8)))) (Sh.sl (Sh.int .u8)))))) (Sh.pr (Sh.int .i64) (Sh.int .i64))))).T) := fun no =>
  match no with
  | _ => fun _ _ => none
theorem b355_0 (c344 : List Int → Option (Int × Int)) (c342 : List Int → Option ((Bool × Int × (List (Int × (List Int))) × (List Int)) × Int)) (N n : Nat) (v : P355_0.T) (κ : (i : Nat) → (Q355_0 i).T → Option (((Sh.tu (Sh.pr (Sh.sl (Sh.pr Sh.bool (Sh.pr (Sh.int .u16) (Sh.pr (Sh.sl (Sh.pr (Sh.int .u8) (Sh.sl (Sh.int .u8)))) (Sh.sl (Sh.int .u8)))))) (Sh.pr (Sh.int .i64) (Sh.int .i64))))).T)) :
    evc (T355 c344 c342) (rawOf RW0) (W355_0 c344 c342 N) (retc k355.res (Sh.tu (Sh.pr (Sh.sl (Sh.pr Sh.bool (Sh.pr (Sh.int .u16) (Sh.pr (Sh.sl (Sh.pr (Sh.int .u8) (Sh.sl (Sh.int .u8)))) (Sh.sl (Sh.int .u8)))))) (Sh.pr (Sh.int .i64) (Sh.int .i64))))) (modeOf FT) 0 fuelC (bodyOf (loopN k355 0)) (P355_0.st v) (roundK 0 H355_0 P355_0 Q355_0 (u355_0 c344 c342 N n) κ) = u355_0 c344 c342 N (n + 1) v κ := by kernel_rfl
theorem o355_0 (c344 : List Int → Option (Int × Int)) (c342 : List Int → Option ((Bool × Int × (List (Int × (List Int))) × (List Int)) × Int)) (hT : TabOK FT XT (T355 c344 c342)) (hO : RawOK FT XT (rawOf (α := ((Sh.tu (Sh.pr (Sh.sl (Sh.pr Sh.bool (Sh.pr (Sh.int .u16) (Sh.pr (Sh.sl (Sh.pr (Sh.int .u8) (Sh.sl (Sh.int .u8)))) (Sh.sl (Sh.int .u8)))))) (Sh.pr (Sh.int .i64) (Sh.int .i64))))).T) RW0)) (N : Nat) {s : St} {κ : Ex → St → Option (((Sh.tu (Sh.pr (Sh.sl (Sh.pr Sh.bool (Sh.pr (Sh.int .u16) (Sh.pr (Sh.sl (Sh.pr (Sh.int .u8) (Sh.sl (Sh.int .u8)))) (Sh.sl (Sh.int .u8)))))) (Sh.pr (Sh.int .i64) (Sh.int .i64))))).T)} {a : ((Sh.tu (Sh.pr (Sh.sl (Sh.pr Sh.bool (Sh.pr (Sh.int .u16) (Sh.pr (Sh.sl (Sh.pr (Sh.int .u8) (Sh.sl (Sh.int .u8)))) (Sh.sl (Sh.int .u8)))))) (Sh.pr (Sh.int .i64) (Sh.int .i64))))).T} (h : lpOf 0 H355_0 P355_0 Q355_0 (u355_0 c344 c342 N N) s κ = some a) : Out FT XT 0 (retc k355.res (Sh.tu (Sh.pr (Sh.sl (Sh.pr Sh.bool (Sh.pr (Sh.int .u16) (Sh.pr (Sh.sl (Sh.pr (Sh.int .u8) (Sh.sl (Sh.int .u8)))) (Sh.sl (Sh.int .u8)))))) (Sh.pr (Sh.int .i64) (Sh.int .i64))))) (loopN k355 0) s κ a := by
  rw [l355_0]
  exact loop_out (LP := W355_0 c344 c342 N) (fu := fuelC) hT hO (fun _ _ => rfl) (b355_0 c344 c342 N) loopOK_nil N h
def W355 (c344 : List Int → Option (Int × Int)) (c342 : List Int → Option ((Bool × Int × (List (Int × (List Int))) × (List Int)) × Int)) (N : Nat) : LoopF (((Sh.tu (Sh.pr (Sh.sl (Sh.pr Sh.bool (Sh.pr (Sh.int .u16) (Sh.pr (Sh.sl (Sh.pr (Sh.int .u8) (Sh.sl (Sh.int .u8)))) (Sh.sl (Sh.int .u8)))))) (Sh.pr (Sh.int .i64) (Sh.int .i64))))).T) := fun no =>
  match no with
  | 0 => lpOf 0 H355_0 P355_0 Q355_0 (u355_0 c344 c342 N N)
  | _ => fun _ _ => none
theorem e355 (c344 : List Int → Option (Int × Int)) (c342 : List Int → Option ((Bool × Int × (List (Int × (List Int))) × (List Int)) × Int)) (N : Nat) (a0 : List Int) : evc (T355 c344 c342) (rawOf RW0) (W355 c344 c342 N) (retc k355.res (Sh.tu (Sh.pr (Sh.sl (Sh.pr Sh.bool (Sh.pr (Sh.int .u16) (Sh.pr (Sh.sl (Sh.pr (Sh.int .u8) (Sh.sl (Sh.int .u8)))) (Sh.sl (Sh.int .u8)))))) (Sh.pr (Sh.int .i64) (Sh.int .i64))))) (modeOf FT) 0 fuelC k355.body (env0 k355 (encL [(Sh.sl (Sh.int .u8))] (a0, ())), []) (endK (retc k355.res (Sh.tu (Sh.pr (Sh.sl (Sh.pr Sh.bool (Sh.pr (Sh.int .u16) (Sh.pr (Sh.sl (Sh.pr (Sh.int .u8) (Sh.sl (Sh.int .u8)))) (Sh.sl (Sh.int .u8)))))) (Sh.pr (Sh.int .i64) (Sh.int .i64)))))) = p355 c344 c342 N a0 := by kernel_rfl
theorem ok355 (c344 : List Int → Option (Int × Int)) (c342 : List Int → Option ((Bool × Int × (List (Int × (List Int))) × (List Int)) × Int)) (h344 : EntOK FT XT 344 (en344 c344)) (h342 : EntOK FT XT 342 (en342 c342)) {f : List Int → Option ((List (Bool × Int × (List (Int × (List Int))) × (List Int))) × Int × Int)} (hf : ∀ a0 r, f a0 = some r → ∃ N, p355 c344 c342 N a0 = some r) : EntOK FT XT 355 (en355 f) := by
  have hT : TabOK FT XT (T355 c344 c342) := by
    intro g en hg
    unfold T355 at hg
    split at hg <;> first | (injection hg with hg; subst hg; assumption) | cases hg
  have hO0 : RawOK FT XT (rawOf (α := ((Sh.tu (Sh.pr (Sh.sl (Sh.pr Sh.bool (Sh.pr (Sh.int .u16) (Sh.pr (Sh.sl (Sh.pr (Sh.int .u8) (Sh.sl (Sh.int .u8)))) (Sh.sl (Sh.int .u8)))))) (Sh.pr (Sh.int .i64) (Sh.int .i64))))).T) RW0) := rawOK0
  have hO : RawOK FT XT (rawOf (α := ((Sh.tu (Sh.pr (Sh.sl (Sh.pr Sh.bool (Sh.pr (Sh.int .u16) (Sh.pr (Sh.sl (Sh.pr (Sh.int .u8) (Sh.sl (Sh.int .u8)))) (Sh.sl (Sh.int .u8)))))) (Sh.pr (Sh.int .i64) (Sh.int .i64))))).T) RW0) := hO0
  refine ⟨rfl, fun v r h => ?_⟩
  obtain ⟨a0, _⟩ := v
  obtain ⟨N, h1⟩ := hf _ _ h
  exact ans_c (R := (Sh.tu (Sh.pr (Sh.sl (Sh.pr Sh.bool (Sh.pr (Sh.int .u16) (Sh.pr (Sh.sl (Sh.pr (Sh.int .u8) (Sh.sl (Sh.int .u8)))) (Sh.sl (Sh.int .u8)))))) (Sh.pr (Sh.int .i64) (Sh.int .i64))))) (tab := T355 c344 c342) (raw := (rawOf RW0)) (LP := W355 c344 c342 N) (fu := fuelC) hT hO rfl rfl (Nat.le_of_ble_eq_true rfl) (loopOK_cons l355_0 (fun s κ a h => o355_0 c344 c342 hT hO N h) loopOK_nil) ((e355 c344 c342 N _).trans h1)

def T356 (c344 : List Int → Option (Int × Int)) : Nat → Option Ent
  | 344 => some (en344 c344)
  | _ => none
def W356 (c344 : List Int → Option (Int × Int)) (N : Nat) : LoopF (((Sh.int .i64)).T) := fun no =>
  match no with
  | _ => fun _ _ => none
theorem e356 (c344 : List Int → Option (Int × Int)) (N : Nat) (a0 : List Int) : evc (T356 c344) (rawOf RW0) (W356 c344 N) (retc k356.res (Sh.int .i64)) (modeOf FT) 0 fuelC k356.body (env0 k356 (encL [(Sh.sl (Sh.int .u8))] (a0, ())), []) (endK (retc k356.res (Sh.int .i64))) = p356 c344 N a0 := by kernel_rfl
theorem ok356 (c344 : List Int → Option (Int × Int)) (h344 : EntOK FT XT 344 (en344 c344)) {f : List Int → Option Int} (hf : ∀ a0 r, f a0 = some r → ∃ N, p356 c344 N a0 = some r) : EntOK FT XT 356 (en356 f) := by
  have hT : TabOK FT XT (T356 c344) := by
    intro g en hg
    unfold T356 at hg
    split at hg <;> first | (injection hg with hg; subst hg; assumption) | cases hg
  have hO0 : RawOK FT XT (rawOf (α := ((Sh.int .i64)).T) RW0) := rawOK0
  have hO : RawOK FT XT (rawOf (α := ((Sh.int .i64)).T) RW0) := hO0
  refine ⟨rfl, fun v r h => ?_⟩
  obtain ⟨a0, _⟩ := v
  obtain ⟨N, h1⟩ := hf _ _ h
  exact ans_c (R := (Sh.int .i64)) (tab := T356 c344) (raw := (rawOf RW0)) (LP := W356 c344 N) (fu := fuelC) hT hO rfl rfl (Nat.le_of_ble_eq_true rfl) loopOK_nil ((e356 c344 N _).trans h1)

def T357 : Nat → Option Ent
  | _ => none
def H357_0 : Trim := ⟨0, [], false, [2, 3, 14, 15, 16], [(3, (.imm []), 2002)]⟩
theorem l357_0 : loopN k357 0 = .loop H357_0 (bodyOf (loopN k357 0)) := by kernel_rfl
def P357_0 : Ps := ⟨[(0, .u), (1, .u), (2, (.ptr 0 0)), (3, (.ptr 1 0)), (5, .u), (14, (.tb (Sh.pr (Sh.int .u8) (Sh.sl (Sh.int .u8))))), (15, (.int .i64)), (16, (.int .i64)), (17, .u)], [(.vals false (.cons .bool (.cons (.int .u16) (.cons .nils (.cons .nils .nil))))), (.vals false (.cons .bool (.cons (.int .u16) (.cons (.sl 2 2) (.cons (.tb (Sh.int .u8)) .nil))))), (.imm false)]⟩
def Q357_0 : Nat → Ps
  | 0 => ⟨[(0, .u), (1, .u), (2, (.ptr 0 0)), (3, (.ptr 1 0)), (5, .u), (14, .u), (15, .u), (16, .u), (17, .u)], [(.vals false (.cons .bool (.cons (.int .u16) (.cons .nils (.cons .nils .nil))))), (.vals false (.cons .bool (.cons (.int .u16) (.cons (.sl 2 2) (.cons (.tb (Sh.int .u8)) .nil))))), (.imm false)]⟩
  | _ => noPs
def u357_0 (N n : Nat) (v : P357_0.T) (κ : (i : Nat) → (Q357_0 i).T → Option (((Sh.st (Sh.pr Sh.bool (Sh.pr (Sh.int .u16) (Sh.pr (Sh.sl (Sh.pr (Sh.int .u8) (Sh.sl (Sh.int .u8)))) (Sh.sl (Sh.int .u8))))))).T)) : Option (((Sh.st (Sh.pr Sh.bool (Sh.pr (Sh.int .u16) (Sh.pr (Sh.sl (Sh.pr (Sh.int .u8) (Sh.sl (Sh.int .u8)))) (Sh.sl (Sh.int .u8))))))).T) :=
  L357_0 N (fun (y0 : Bool) (y1 : Int) (y2 : Bool) (y3 : Int) (y4 : Nat) (y5 : List Int) (y6 : List V) => κ 0 (((), ((), ((), ((), ((), ((), ((), ((), ((), ()))))))))), ((y0, (y1, ((), ((), ())))), ((y2, (y3, (y4, (y5, ())))), (y6, ()))))) n v.1.2.2.2.2.2.1 v.1.2.2.2.2.2.2.1 v.1.2.2.2.2.2.2.2.1 v.2.1.1 v.2.1.2.1 v.2.2.1.1 v.2.2.1.2.1 v.2.2.1.2.2.1 v.2.2.1.2.2.2.1 v.2.2.2.1
def W357_0 (N : Nat) : LoopF (((Sh.st (Sh.pr Sh.bool (Sh.pr (Sh.int .u16) (Sh.pr (Sh.sl (Sh.pr (Sh.int .u8) (Sh.sl (Sh.int .u8)))) (Sh.sl (Sh.int .u8))))))).T) := fun no =>
  match no with
  | _ => fun _ _ => none
theorem b357_0 (N n : Nat) (v : P357_0.T) (κ : (i : Nat) → (Q357_0 i).T → Option (((Sh.st (Sh.pr Sh.bool (Sh.pr (Sh.int .u16) (Sh.pr (Sh.sl (Sh.pr (Sh.int .u8) (Sh.sl (Sh.int .u8)))) (Sh.sl (Sh.int .u8))))))).T)) :
    evc (T357) (rawOf RW0) (W357_0 N) (retc k357.res (Sh.st (Sh.pr Sh.bool (Sh.pr (Sh.int .u16) (Sh.pr (Sh.sl (Sh.pr (Sh.int .u8) (Sh.sl (Sh.int .u8)))) (Sh.sl (Sh.int .u8))))))) (modeOf FT) 0 fuelC (bodyOf (loopN k357 0)) (P357_0.st v) (roundK 0 H357_0 P357_0 Q357_0 (u357_0 N n) κ) = u357_0 N (n + 1) v κ := by kernel_rfl
theorem o357_0 (hT : TabOK FT XT (T357)) (hO : RawOK FT XT (rawOf (α := ((Sh.st (Sh.pr Sh.bool (Sh.pr (Sh.int .u16) (Sh.pr (Sh.sl (Sh.pr (Sh.int .u8) (Sh.sl (Sh.int .u8)))) (Sh.sl (Sh.int .u8))))))).T) RW0)) (N : Nat) {s : St} {κ : Ex → St → Option (((Sh.st (Sh.pr Sh.bool (Sh.pr (Sh.int .u16) (Sh.pr (Sh.sl (Sh.pr (Sh.int .u8) (Sh.sl (Sh.int .u8)))) (Sh.sl (Sh.int .u8))))))).T)} {a : ((Sh.st (Sh.pr Sh.bool (Sh.pr (Sh.int .u16) (Sh.pr (Sh.sl (Sh.pr (Sh.int .u8) (Sh.sl (Sh.int .u8)))) (Sh.sl (Sh.int .u8))))))).T} (h : lpOf 0 H357_0 P357_0 Q357_0 (u357_0 N N) s κ = some a) : Out FT XT 0 (retc k357.res (Sh.st (Sh.pr Sh.bool (Sh.pr (Sh.int .u16) (Sh.pr (Sh.sl (Sh.pr (Sh.int .u8) (Sh.sl (Sh.int .u8)))) (Sh.sl (Sh.int .u8))))))) (loopN k357 0) s κ a := by
  rw [l357_0]
  exact loop_out (LP := W357_0 N) (fu := fuelC) hT hO (fun _ _ => rfl) (b357_0 N) loopOK_nil N h
def W357 (N : Nat) : LoopF (((Sh.st (Sh.pr Sh.bool (Sh.pr (Sh.int .u16) (Sh.pr (Sh.sl (Sh.pr (Sh.int .u8) (Sh.sl (Sh.int .u8)))) (Sh.sl (Sh.int .u8))))))).T) := fun no =>
  match no with
  | 0 => lpOf 0 H357_0 P357_0 Q357_0 (u357_0 N N)
  | _ => fun _ _ => none
theorem e357 (N : Nat) (a0 : Bool × Int × (List (Int × (List Int))) × (List Int)) : evc (T357) (rawOf RW0) (W357 N) (retc k357.res (Sh.st (Sh.pr Sh.bool (Sh.pr (Sh.int .u16) (Sh.pr (Sh.sl (Sh.pr (Sh.int .u8) (Sh.sl (Sh.int .u8)))) (Sh.sl (Sh.int .u8))))))) (modeOf FT) 0 fuelC k357.body (env0 k357 (encL [(Sh.st (Sh.pr Sh.bool (Sh.pr (Sh.int .u16) (Sh.pr (Sh.sl (Sh.pr (Sh.int .u8) (Sh.sl (Sh.int .u8)))) (Sh.sl (Sh.int .u8))))))] (a0, ())), []) (endK (retc k357.res (Sh.st (Sh.pr Sh.bool (Sh.pr (Sh.int .u16) (Sh.pr (Sh.sl (Sh.pr (Sh.int .u8) (Sh.sl (Sh.int .u8)))) (Sh.sl (Sh.int .u8)))))))) = p357 N a0 := by kernel_rfl
theorem ok357 {f : Bool × Int × (List (Int × (List Int))) × (List Int) → Option (Bool × Int × (List (Int × (List Int))) × (List Int))} (hf : ∀ a0 r, f a0 = some r → ∃ N, p357 N a0 = some r) : EntOK FT XT 357 (en357 f) := by
  have hT : TabOK FT XT (T357) := by
    intro g en hg
    unfold T357 at hg
    split at hg <;> first | (injection hg with hg; subst hg; assumption) | cases hg
  have hO0 : RawOK FT XT (rawOf (α := ((Sh.st (Sh.pr Sh.bool (Sh.pr (Sh.int .u16) (Sh.pr (Sh.sl (Sh.pr (Sh.int .u8) (Sh.sl (Sh.int .u8)))) (Sh.sl (Sh.int .u8))))))).T) RW0) := rawOK0
  have hO : RawOK FT XT (rawOf (α := ((Sh.st (Sh.pr Sh.bool (Sh.pr (Sh.int .u16) (Sh.pr (Sh.sl (Sh.pr (Sh.int .u8) (Sh.sl (Sh.int .u8)))) (Sh.sl (Sh.int .u8))))))).T) RW0) := hO0
  refine ⟨rfl, fun v r h => ?_⟩
  obtain ⟨a0, _⟩ := v
  obtain ⟨N, h1⟩ := hf _ _ h
  exact ans_c (R := (Sh.st (Sh.pr Sh.bool (Sh.pr (Sh.int .u16) (Sh.pr (Sh.sl (Sh.pr (Sh.int .u8) (Sh.sl (Sh.int .u8)))) (Sh.sl (Sh.int .u8))))))) (tab := T357) (raw := (rawOf RW0)) (LP := W357 N) (fu := fuelC) hT hO rfl rfl (Nat.le_of_ble_eq_true rfl) (loopOK_cons l357_0 (fun s κ a h => o357_0 hT hO N h) loopOK_nil) ((e357 N _).trans h1)

def T335 (c347 : Option Bool) (c354 : List Int → List Int → Option (List (List Int))) (c355 : List Int → Option ((List (Bool × Int × (List (Int × (List Int))) × (List Int))) × Int × Int)) (d348v2 : List Int → Bool → List Int → Int → Int → Int → Option ((((List (Bool × Int × (List (Int × (List Int))) × (List Int))) × (Int × Unit)) × Unit) × ((Bool × ((List Int) × (Int × (Int × (Int × Unit))))) × Unit))) (c356 : List Int → Option Int) (d351v1 : Bool → List Int → Int → Int → Int → Option ((Int × Unit) × ((Bool × ((List Int) × (Int × (Int × (Int × Unit))))) × Unit))) (d350v1 : Bool → List Int → Int → Int → Int → Option ((Int × Unit) × ((Bool × ((List Int) × (Int × (Int × (Int × Unit))))) × Unit))) (d349v1 : Bool → List Int → Int → Int → Int → Option ((Int × Unit) × ((Bool × ((List Int) × (Int × (Int × (Int × Unit))))) × Unit))) (d352v1 : Bool → List Int → Int → Int → Int → Option ((Int × Unit) × ((Bool × ((List Int) × (Int × (Int × (Int × Unit))))) × Unit))) (c357 : Bool × Int × (List (Int × (List Int))) × (List Int) → Option (Bool × Int × (List (Int × (List Int))) × (List Int))) (c302 : Bool × Int × (List (Int × (List Int))) × (List Int) → Bool × Int × (List (Int × (List Int))) × (List Int) → Option Bool) : Nat → Option Ent
  | 347 => some (en347 c347)
  | 354 => some (en354 c354)
  | 355 => some (en355 c355)
  | 356 => some (en356 c356)
  | 357 => some (en357 c357)
  | 302 => some (en302 c302)
  | _ => none
def RW335 (c347 : Option Bool) (c354 : List Int → List Int → Option (List (List Int))) (c355 : List Int → Option ((List (Bool × Int × (List (Int × (List Int))) × (List Int))) × Int × Int)) (d348v2 : List Int → Bool → List Int → Int → Int → Int → Option ((((List (Bool × Int × (List (Int × (List Int))) × (List Int))) × (Int × Unit)) × Unit) × ((Bool × ((List Int) × (Int × (Int × (Int × Unit))))) × Unit))) (c356 : List Int → Option Int) (d351v1 : Bool → List Int → Int → Int → Int → Option ((Int × Unit) × ((Bool × ((List Int) × (Int × (Int × (Int × Unit))))) × Unit))) (d350v1 : Bool → List Int → Int → Int → Int → Option ((Int × Unit) × ((Bool × ((List Int) × (Int × (Int × (Int × Unit))))) × Unit))) (d349v1 : Bool → List Int → Int → Int → Int → Option ((Int × Unit) × ((Bool × ((List Int) × (Int × (Int × (Int × Unit))))) × Unit))) (d352v1 : Bool → List Int → Int → Int → Int → Option ((Int × Unit) × ((Bool × ((List Int) × (Int × (Int × (Int × Unit))))) × Unit))) (c357 : Bool × Int × (List (Int × (List Int))) × (List Int) → Option (Bool × Int × (List (Int × (List Int))) × (List Int))) (c302 : Bool × Int × (List (Int × (List Int))) × (List Int) → Bool × Int × (List (Int × (List Int))) × (List Int) → Option Bool) : Nat → List REnt
  | 348 => [rn348v2 d348v2]
  | 351 => [rn351v1 d351v1]
  | 350 => [rn350v1 d350v1]
  | 349 => [rn349v1 d349v1]
  | 352 => [rn352v1 d352v1]
  | _ => []
def H335_1 : Trim := ⟨1, [], false, [0, 5, 6, 7, 8, 11, 14, 28, 29, 30, 111, 112], []⟩
theorem l335_1 : loopN k335 1 = .loop H335_1 (bodyOf (loopN k335 1)) := by kernel_rfl
def P335_1 : Ps := ⟨[(0, (.tb (Sh.int .u8))), (1, .u), (4, .u), (5, (.ptr 0 0)), (6, (.int .i64)), (7, (.int .i64)), (8, (.int .i64)), (10, .u), (11, (.tb (Sh.pr Sh.bool (Sh.pr (Sh.int .u16) (Sh.pr (Sh.sl (Sh.pr (Sh.int .u8) (Sh.sl (Sh.int .u8)))) (Sh.sl (Sh.int .u8))))))), (12, .u), (13, .u), (14, (.tb (Sh.pr Sh.bool (Sh.pr (Sh.int .u16) (Sh.pr (Sh.sl (Sh.pr (Sh.int .u8) (Sh.sl (Sh.int .u8)))) (Sh.sl (Sh.int .u8))))))), (15, .u), (16, .u), (17, .u), (18, .u), (21, .u), (25, .u), (28, (.tb (Sh.sl (Sh.int .u8)))), (29, (.int .i64)), (30, (.int .i64)), (31, .u), (53, .u), (61, .u), (72, .u), (109, .u), (111, (.int .i64)), (112, (.int .i64)), (113, .u), (127, .u)], [(.vals false (.cons .bool (.cons (.tb (Sh.int .u8)) (.cons (.int .i64) (.cons (.int .i64) (.cons (.int .i64) .nil))))))]⟩
def Q335_1 : Nat → Ps
  | 2 => ⟨[(0, (.tb (Sh.int .u8))), (1, .u), (4, .u), (5, (.ptr 0 0)), (6, (.int .i64)), (7, .u), (8, (.int .i64)), (10, .u), (11, (.tb (Sh.pr Sh.bool (Sh.pr (Sh.int .u16) (Sh.pr (Sh.sl (Sh.pr (Sh.int .u8) (Sh.sl (Sh.int .u8)))) (Sh.sl (Sh.int .u8))))))), (12, .u), (13, .u), (14, .u), (15, .u), (16, .u), (17, .u), (18, .u), (21, .u), (25, .u), (28, (.tb (Sh.sl (Sh.int .u8)))), (29, (.int .i64)), (30, (.int .i64)), (31, .u), (53, .u), (61, .u), (72, .u), (109, .u), (111, .u), (112, .u), (113, .u), (127, .u)], [(.vals false (.cons .bool (.cons (.tb (Sh.int .u8)) (.cons (.int .i64) (.cons (.int .i64) (.cons (.int .i64) .nil))))))]⟩
  | _ => noPs
def u335_1 (c347 : Option Bool) (c354 : List Int → List Int → Option (List (List Int))) (c355 : List Int → Option ((List (Bool × Int × (List (Int × (List Int))) × (List Int))) × Int × Int)) (d348v2 : List Int → Bool → List Int → Int → Int → Int → Option ((((List (Bool × Int × (List (Int × (List Int))) × (List Int))) × (Int × Unit)) × Unit) × ((Bool × ((List Int) × (Int × (Int × (Int × Unit))))) × Unit))) (c356 : List Int → Option Int) (d351v1 : Bool → List Int → Int → Int → Int → Option ((Int × Unit) × ((Bool × ((List Int) × (Int × (Int × (Int × Unit))))) × Unit))) (d350v1 : Bool → List Int → Int → Int → Int → Option ((Int × Unit) × ((Bool × ((List Int) × (Int × (Int × (Int × Unit))))) × Unit))) (d349v1 : Bool → List Int → Int → Int → Int → Option ((Int × Unit) × ((Bool × ((List Int) × (Int × (Int × (Int × Unit))))) × Unit))) (d352v1 : Bool → List Int → Int → Int → Int → Option ((Int × Unit) × ((Bool × ((List Int) × (Int × (Int × (Int × Unit))))) × Unit))) (c357 : Bool × Int × (List (Int × (List Int))) × (List Int) → Option (Bool × Int × (List (Int × (List Int))) × (List Int))) (c302 : Bool × Int × (List (Int × (List Int))) × (List Int) → Bool × Int × (List (Int × (List Int))) × (List Int) → Option Bool) (N n : Nat) (v : P335_1.T) (κ : (i : Nat) → (Q335_1 i).T → Option (Sh.bool).T) : Option (Sh.bool).T :=
  L335_1 c347 c354 c355 d348v2 c356 d351v1 d350v1 d349v1 d352v1 c357 c302 N (fun (y0 : List Int) (y1 : Int) (y2 : Int) (y3 : List (Bool × Int × (List (Int × (List Int))) × (List Int))) (y4 : List (List Int)) (y5 : Int) (y6 : Int) (y7 : Bool) (y8 : List Int) (y9 : Int) (y10 : Int) (y11 : Int) => κ 2 ((y0, ((), ((), ((), (y1, ((), (y2, ((), (y3, ((), ((), ((), ((), ((), ((), ((), ((), ((), (y4, (y5, (y6, ((), ((), ((), ((), ((), ((), ((), ((), ((), ())))))))))))))))))))))))))))))), ((y7, (y8, (y9, (y10, (y11, ()))))), ()))) n v.1.1 v.1.2.2.2.2.1 v.1.2.2.2.2.2.1 v.1.2.2.2.2.2.2.1 v.1.2.2.2.2.2.2.2.2.1 v.1.2.2.2.2.2.2.2.2.2.2.2.1 v.1.2.2.2.2.2.2.2.2.2.2.2.2.2.2.2.2.2.2.1 v.1.2.2.2.2.2.2.2.2.2.2.2.2.2.2.2.2.2.2.2.1 v.1.2.2.2.2.2.2.2.2.2.2.2.2.2.2.2.2.2.2.2.2.1 v.1.2.2.2.2.2.2.2.2.2.2.2.2.2.2.2.2.2.2.2.2.2.2.2.2.2.2.1 v.1.2.2.2.2.2.2.2.2.2.2.2.2.2.2.2.2.2.2.2.2.2.2.2.2.2.2.2.1 v.2.1.1 v.2.1.2.1 v.2.1.2.2.1 v.2.1.2.2.2.1 v.2.1.2.2.2.2.1
def W335_1 (c347 : Option Bool) (c354 : List Int → List Int → Option (List (List Int))) (c355 : List Int → Option ((List (Bool × Int × (List (Int × (List Int))) × (List Int))) × Int × Int)) (d348v2 : List Int → Bool → List Int → Int → Int → Int → Option ((((List (Bool × Int × (List (Int × (List Int))) × (List Int))) × (Int × Unit)) × Unit) × ((Bool × ((List Int) × (Int × (Int × (Int × Unit))))) × Unit))) (c356 : List Int → Option Int) (d351v1 : Bool → List Int → Int → Int → Int → Option ((Int × Unit) × ((Bool × ((List Int) × (Int × (Int × (Int × Unit))))) × Unit))) (d350v1 : Bool → List Int → Int → Int → Int → Option ((Int × Unit) × ((Bool × ((List Int) × (Int × (Int × (Int × Unit))))) × Unit))) (d349v1 : Bool → List Int → Int → Int → Int → Option ((Int × Unit) × ((Bool × ((List Int) × (Int × (Int × (Int × Unit))))) × Unit))) (d352v1 : Bool → List Int → Int → Int → Int → Option ((Int × Unit) × ((Bool × ((List Int) × (Int × (Int × (Int × Unit))))) × Unit))) (c357 : Bool × Int × (List (Int × (List Int))) × (List Int) → Option (Bool × Int × (List (Int × (List Int))) × (List Int))) (c302 : Bool × Int × (List (Int × (List Int))) × (List Int) → Bool × Int × (List (Int × (List Int))) × (List Int) → Option Bool) (N : Nat) : LoopF (Sh.bool).T := fun no =>
  match no with
  | _ => fun _ _ => none
theorem b335_1 (c347 : Option Bool) (c354 : List Int → List Int → Option (List (List Int))) (c355 : List Int → Option ((List (Bool × Int × (List (Int × (List Int))) × (List Int))) × Int × Int)) (d348v2 : List Int → Bool → List Int → Int → Int → Int → Option ((((List (Bool × Int × (List (Int × (List Int))) × (List Int))) × (Int × Unit)) × Unit) × ((Bool × ((List Int) × (Int × (Int × (Int × Unit))))) × Unit))) (c356 : List Int → Option Int) (d351v1 : Bool → List Int → Int → Int → Int → Option ((Int × Unit) × ((Bool × ((List Int) × (Int × (Int × (Int × Unit))))) × Unit))) (d350v1 : Bool → List Int → Int → Int → Int → Option ((Int × Unit) × ((Bool × ((List Int) × (Int × (Int × (Int × Unit))))) × Unit))) (d349v1 : Bool → List Int → Int → Int → Int → Option ((Int × Unit) × ((Bool × ((List Int) × (Int × (Int × (Int × Unit))))) × Unit))) (d352v1 : Bool → List Int → Int → Int → Int → Option ((Int × Unit) × ((Bool × ((List Int) × (Int × (Int × (Int × Unit))))) × Unit))) (c357 : Bool × Int × (List (Int × (List Int))) × (List Int) → Option (Bool × Int × (List (Int × (List Int))) × (List Int))) (c302 : Bool × Int × (List (Int × (List Int))) × (List Int) → Bool × Int × (List (Int × (List Int))) × (List Int) → Option Bool) (N n : Nat) (v : P335_1.T) (κ : (i : Nat) → (Q335_1 i).T → Option (Sh.bool).T) :
    evc (T335 c347 c354 c355 d348v2 c356 d351v1 d350v1 d349v1 d352v1 c357 c302) (addI (T335 c347 c354 c355 d348v2 c356 d351v1 d350v1 d349v1 d352v1 c357 c302) (modeOf FT) fuelC 353 k353 (rawOf (RW335 c347 c354 c355 d348v2 c356 d351v1 d350v1 d349v1 d352v1 c357 c302))) (W335_1 c347 c354 c355 d348v2 c356 d351v1 d350v1 d349v1 d352v1 c357 c302 N) (retc k335.res Sh.bool) (modeOf FT) 0 fuelC (bodyOf (loopN k335 1)) (P335_1.st v) (roundK 0 H335_1 P335_1 Q335_1 (u335_1 c347 c354 c355 d348v2 c356 d351v1 d350v1 d349v1 d352v1 c357 c302 N n) κ) = u335_1 c347 c354 c355 d348v2 c356 d351v1 d350v1 d349v1 d352v1 c357 c302 N (n + 1) v κ := by kernel_rfl
theorem o335_1 (c347 : Option Bool) (c354 : List Int → List Int → Option (List (List Int))) (c355 : List Int → Option ((List (Bool × Int × (List (Int × (List Int))) × (List Int))) × Int × Int)) (d348v2 : List Int → Bool → List Int → Int → Int → Int → Option ((((List (Bool × Int × (List (Int × (List Int))) × (List Int))) × (Int × Unit)) × Unit) × ((Bool × ((List Int) × (Int × (Int × (Int × Unit))))) × Unit))) (c356 : List Int → Option Int) (d351v1 : Bool → List Int → Int → Int → Int → Option ((Int × Unit) × ((Bool × ((List Int) × (Int × (Int × (Int × Unit))))) × Unit))) (d350v1 : Bool → List Int → Int → Int → Int → Option ((Int × Unit) × ((Bool × ((List Int) × (Int × (Int × (Int × Unit))))) × Unit))) (d349v1 : Bool → List Int → Int → Int → Int → Option ((Int × Unit) × ((Bool × ((List Int) × (Int × (Int × (Int × Unit))))) × Unit))) (d352v1 : Bool → List Int → Int → Int → Int → Option ((Int × Unit) × ((Bool × ((List Int) × (Int × (Int × (Int × Unit))))) × Unit))) (c357 : Bool × Int × (List (Int × (List Int))) × (List Int) → Option (Bool × Int × (List (Int × (List Int))) × (List Int))) (c302 : Bool × Int × (List (Int × (List Int))) × (List Int) → Bool × Int × (List (Int × (List Int))) × (List Int) → Option Bool) (hT : TabOK FT XT (T335 c347 c354 c355 d348v2 c356 d351v1 d350v1 d349v1 d352v1 c357 c302)) (hO : RawOK FT XT (addI (T335 c347 c354 c355 d348v2 c356 d351v1 d350v1 d349v1 d352v1 c357 c302) (modeOf FT) fuelC 353 k353 (rawOf (α := (Sh.bool).T) (RW335 c347 c354 c355 d348v2 c356 d351v1 d350v1 d349v1 d352v1 c357 c302)))) (N : Nat) {s : St} {κ : Ex → St → Option (Sh.bool).T} {a : (Sh.bool).T} (h : lpOf 0 H335_1 P335_1 Q335_1 (u335_1 c347 c354 c355 d348v2 c356 d351v1 d350v1 d349v1 d352v1 c357 c302 N N) s κ = some a) : Out FT XT 0 (retc k335.res Sh.bool) (loopN k335 1) s κ a := by
  rw [l335_1]
  exact loop_out (LP := W335_1 c347 c354 c355 d348v2 c356 d351v1 d350v1 d349v1 d352v1 c357 c302 N) (fu := fuelC) hT hO (fun _ _ => rfl) (b335_1 c347 c354 c355 d348v2 c356 d351v1 d350v1 d349v1 d352v1 c357 c302 N) loopOK_nil N h
def H335_0 : Trim := ⟨0, [], false, [0, 5, 6, 7, 8, 28, 29, 30], []⟩
theorem l335_0 : loopN k335 0 = .loop H335_0 (bodyOf (loopN k335 0)) := by kernel_rfl
def P335_0 : Ps := ⟨[(0, (.tb (Sh.int .u8))), (1, .u), (4, .u), (5, (.ptr 0 0)), (6, (.int .i64)), (7, (.int .i64)), (8, (.int .i64)), (10, .u), (11, .u), (12, .u), (13, .u), (14, .u), (15, .u), (16, .u), (17, .u), (18, .u), (21, .u), (25, .u), (28, (.tb (Sh.sl (Sh.int .u8)))), (29, (.int .i64)), (30, (.int .i64)), (31, .u), (53, .u), (61, .u), (72, .u), (109, .u), (111, .u), (112, .u), (113, .u), (127, .u)], [(.vals false (.cons .bool (.cons (.tb (Sh.int .u8)) (.cons (.int .i64) (.cons (.int .i64) (.cons (.int .i64) .nil))))))]⟩
def Q335_0 : Nat → Ps
  | 0 => ⟨[(0, .u), (1, .u), (4, .u), (5, .u), (6, .u), (7, .u), (8, .u), (10, .u), (11, .u), (12, .u), (13, .u), (14, .u), (15, .u), (16, .u), (17, .u), (18, .u), (21, .u), (25, .u), (28, .u), (29, .u), (30, .u), (31, .u), (53, .u), (61, .u), (72, .u), (109, .u), (111, .u), (112, .u), (113, .u), (127, .u)], []⟩
  | _ => noPs
def u335_0 (c347 : Option Bool) (c354 : List Int → List Int → Option (List (List Int))) (c355 : List Int → Option ((List (Bool × Int × (List (Int × (List Int))) × (List Int))) × Int × Int)) (d348v2 : List Int → Bool → List Int → Int → Int → Int → Option ((((List (Bool × Int × (List (Int × (List Int))) × (List Int))) × (Int × Unit)) × Unit) × ((Bool × ((List Int) × (Int × (Int × (Int × Unit))))) × Unit))) (c356 : List Int → Option Int) (d351v1 : Bool → List Int → Int → Int → Int → Option ((Int × Unit) × ((Bool × ((List Int) × (Int × (Int × (Int × Unit))))) × Unit))) (d350v1 : Bool → List Int → Int → Int → Int → Option ((Int × Unit) × ((Bool × ((List Int) × (Int × (Int × (Int × Unit))))) × Unit))) (d349v1 : Bool → List Int → Int → Int → Int → Option ((Int × Unit) × ((Bool × ((List Int) × (Int × (Int × (Int × Unit))))) × Unit))) (d352v1 : Bool → List Int → Int → Int → Int → Option ((Int × Unit) × ((Bool × ((List Int) × (Int × (Int × (Int × Unit))))) × Unit))) (c357 : Bool × Int × (List (Int × (List Int))) × (List Int) → Option (Bool × Int × (List (Int × (List Int))) × (List Int))) (c302 : Bool × Int × (List (Int × (List Int))) × (List Int) → Bool × Int × (List (Int × (List Int))) × (List Int) → Option Bool) (N n : Nat) (v : P335_0.T) (κ : (i : Nat) → (Q335_0 i).T → Option (Sh.bool).T) : Option (Sh.bool).T :=
  L335_0 c347 c354 c355 d348v2 c356 d351v1 d350v1 d349v1 d352v1 c357 c302 N (κ 0 (((), ((), ((), ((), ((), ((), ((), ((), ((), ((), ((), ((), ((), ((), ((), ((), ((), ((), ((), ((), ((), ((), ((), ((), ((), ((), ((), ((), ((), ((), ())))))))))))))))))))))))))))))), ())) n v.1.1 v.1.2.2.2.2.1 v.1.2.2.2.2.2.1 v.1.2.2.2.2.2.2.1 v.1.2.2.2.2.2.2.2.2.2.2.2.2.2.2.2.2.2.2.1 v.1.2.2.2.2.2.2.2.2.2.2.2.2.2.2.2.2.2.2.2.1 v.1.2.2.2.2.2.2.2.2.2.2.2.2.2.2.2.2.2.2.2.2.1 v.2.1.1 v.2.1.2.1 v.2.1.2.2.1 v.2.1.2.2.2.1 v.2.1.2.2.2.2.1
def W335_0 (c347 : Option Bool) (c354 : List Int → List Int → Option (List (List Int))) (c355 : List Int → Option ((List (Bool × Int × (List (Int × (List Int))) × (List Int))) × Int × Int)) (d348v2 : List Int → Bool → List Int → Int → Int → Int → Option ((((List (Bool × Int × (List (Int × (List Int))) × (List Int))) × (Int × Unit)) × Unit) × ((Bool × ((List Int) × (Int × (Int × (Int × Unit))))) × Unit))) (c356 : List Int → Option Int) (d351v1 : Bool → List Int → Int → Int → Int → Option ((Int × Unit) × ((Bool × ((List Int) × (Int × (Int × (Int × Unit))))) × Unit))) (d350v1 : Bool → List Int → Int → Int → Int → Option ((Int × Unit) × ((Bool × ((List Int) × (Int × (Int × (Int × Unit))))) × Unit))) (d349v1 : Bool → List Int → Int → Int → Int → Option ((Int × Unit) × ((Bool × ((List Int) × (Int × (Int × (Int × Unit))))) × Unit))) (d352v1 : Bool → List Int → Int → Int → Int → Option ((Int × Unit) × ((Bool × ((List Int) × (Int × (Int × (Int × Unit))))) × Unit))) (c357 : Bool × Int × (List (Int × (List Int))) × (List Int) → Option (Bool × Int × (List (Int × (List Int))) × (List Int))) (c302 : Bool × Int × (List (Int × (List Int))) × (List Int) → Bool × Int × (List (Int × (List Int))) × (List Int) → Option Bool) (N : Nat) : LoopF (Sh.bool).T := fun no =>
  match no with
  | 1 => lpOf 0 H335_1 P335_1 Q335_1 (u335_1 c347 c354 c355 d348v2 c356 d351v1 d350v1 d349v1 d352v1 c357 c302 N N)
  | _ => fun _ _ => none
theorem b335_0 (c347 : Option Bool) (c354 : List Int → List Int → Option (List (List Int))) (c355 : List Int → Option ((List (Bool × Int × (List (Int × (List Int))) × (List Int))) × Int × Int)) (d348v2 : List Int → Bool → List Int → Int → Int → Int → Option ((((List (Bool × Int × (List (Int × (List Int))) × (List Int))) × (Int × Unit)) × Unit) × ((Bool × ((List Int) × (Int × (Int × (Int × Unit))))) × Unit))) (c356 : List Int → Option Int) (d351v1 : Bool → List Int → Int → Int → Int → Option ((Int × Unit) × ((Bool × ((List Int) × (Int × (Int × (Int × Unit))))) × Unit))) (d350v1 : Bool → List Int → Int → Int → Int → Option ((Int × Unit) × ((Bool × ((List Int) × (Int × (Int × (Int × Unit))))) × Unit))) (d349v1 : Bool → List Int → Int → Int → Int → Option ((Int × Unit) × ((Bool × ((List Int) × (Int × (Int × (Int × Unit))))) × Unit))) (d352v1 : Bool → List Int → Int → Int → Int → Option ((Int × Unit) × ((Bool × ((List Int) × (Int × (Int × (Int × Unit))))) × Unit))) (c357 : Bool × Int × (List (Int × (List Int))) × (List Int) → Option (Bool × Int × (List (Int × (List Int))) × (List Int))) (c302 : Bool × Int × (List (Int × (List Int))) × (List Int) → Bool × Int × (List (Int × (List Int))) × (List Int) → Option Bool) (N n : Nat) (v : P335_0.T) (κ : (i : Nat) → (Q335_0 i).T → Option (Sh.bool).T) :
    evc (T335 c347 c354 c355 d348v2 c356 d351v1 d350v1 d349v1 d352v1 c357 c302) (addI (T335 c347 c354 c355 d348v2 c356 d351v1 d350v1 d349v1 d352v1 c357 c302) (modeOf FT) fuelC 353 k353 (rawOf (RW335 c347 c354 c355 d348v2 c356 d351v1 d350v1 d349v1 d352v1 c357 c302))) (W335_0 c347 c354 c355 d348v2 c356 d351v1 d350v1 d349v1 d352v1 c357 c302 N) (retc k335.res Sh.bool) (modeOf FT) 0 fuelC (bodyOf (loopN k335 0)) (P335_0.st v) (roundK 0 H335_0 P335_0 Q335_0 (u335_0 c347 c354 c355 d348v2 c356 d351v1 d350v1 d349v1 d352v1 c357 c302 N n) κ) = u335_0 c347 c354 c355 d348v2 c356 d351v1 d350v1 d349v1 d352v1 c357 c302 N (n + 1) v κ := by kernel_rfl
theorem o335_0 (c347 : Option Bool) (c354 : List Int → List Int → Option (List (List Int))) (c355 : List Int → Option ((List (Bool × Int × (List (Int × (List Int))) × (List Int))) × Int × Int)) (d348v2 : List Int → Bool → List Int → Int → Int → Int → Option ((((List (Bool × Int × (List (Int × (List Int))) × (List Int))) × (Int × Unit)) × Unit) × ((Bool × ((List Int) × (Int × (Int × (Int × Unit))))) × Unit))) (c356 : List Int → Option Int) (d351v1 : Bool → List Int → Int → Int → Int → Option ((Int × Unit) × ((Bool × ((List Int) × (Int × (Int × (Int × Unit))))) × Unit))) (d350v1 : Bool → List Int → Int → Int → Int → Option ((Int × Unit) × ((Bool × ((List Int) × (Int × (Int × (Int × Unit))))) × Unit))) (d349v1 : Bool → List Int → Int → Int → Int → Option ((Int × Unit) × ((Bool × ((List Int) × (Int × (Int × (Int × Unit))))) × Unit))) (d352v1 : Bool → List Int → Int → Int → Int → Option ((Int × Unit) × ((Bool × ((List Int) × (Int × (Int × (Int × Unit))))) × Unit))) (c357 : Bool × Int × (List (Int × (List Int))) × (List Int) → Option (Bool × Int × (List (Int × (List Int))) × (List Int))) (c302 : Bool × Int × (List (Int × (List Int))) × (List Int) → Bool × Int × (List (Int × (List Int))) × (List Int) → Option Bool) (hT : TabOK FT XT (T335 c347 c354 c355 d348v2 c356 d351v1 d350v1 d349v1 d352v1 c357 c302)) (hO : RawOK FT XT (addI (T335 c347 c354 c355 d348v2 c356 d351v1 d350v1 d349v1 d352v1 c357 c302) (modeOf FT) fuelC 353 k353 (rawOf (α := (Sh.bool).T) (RW335 c347 c354 c355 d348v2 c356 d351v1 d350v1 d349v1 d352v1 c357 c302)))) (N : Nat) {s : St} {κ : Ex → St → Option (Sh.bool).T} {a : (Sh.bool).T} (h : lpOf 0 H335_0 P335_0 Q335_0 (u335_0 c347 c354 c355 d348v2 c356 d351v1 d350v1 d349v1 d352v1 c357 c302 N N) s κ = some a) : Out FT XT 0 (retc k335.res Sh.bool) (loopN k335 0) s κ a := by
  rw [l335_0]
  exact loop_out (LP := W335_0 c347 c354 c355 d348v2 c356 d351v1 d350v1 d349v1 d352v1 c357 c302 N) (fu := fuelC) hT hO (fun _ _ => rfl) (b335_0 c347 c354 c355 d348v2 c356 d351v1 d350v1 d349v1 d352v1 c357 c302 N) (loopOK_cons l335_1 (fun s κ a h => o335_1 c347 c354 c355 d348v2 c356 d351v1 d350v1 d349v1 d352v1 c357 c302 hT hO N h) loopOK_nil) N h
def W335 (c347 : Option Bool) (c354 : List Int → List Int → Option (List (List Int))) (c355 : List Int → Option ((List (Bool × Int × (List (Int × (List Int))) × (List Int))) × Int × Int)) (d348v2 : List Int → Bool → List Int → Int → Int → Int → Option ((((List (Bool × Int × (List (Int × (List Int))) × (List Int))) × (Int × Unit)) × Unit) × ((Bool × ((List Int) × (Int × (Int × (Int × Unit))))) × Unit))) (c356 : List Int → Option Int) (d351v1 : Bool → List Int → Int → Int → Int → Option ((Int × Unit) × ((Bool × ((List Int) × (Int × (Int × (Int × Unit))))) × Unit))) (d350v1 : Bool → List Int → Int → Int → Int → Option ((Int × Unit) × ((Bool × ((List Int) × (Int × (Int × (Int × Unit))))) × Unit))) (d349v1 : Bool → List Int → Int → Int → Int → Option ((Int × Unit) × ((Bool × ((List Int) × (Int × (Int × (Int × Unit))))) × Unit))) (d352v1 : Bool → List Int → Int → Int → Int → Option ((Int × Unit) × ((Bool × ((List Int) × (Int × (Int × (Int × Unit))))) × Unit))) (c357 : Bool × Int × (List (Int × (List Int))) × (List Int) → Option (Bool × Int × (List (Int × (List Int))) × (List Int))) (c302 : Bool × Int × (List (Int × (List Int))) × (List Int) → Bool × Int × (List (Int × (List Int))) × (List Int) → Option Bool) (N : Nat) : LoopF (Sh.bool).T := fun no =>
  match no with
  | 0 => lpOf 0 H335_0 P335_0 Q335_0 (u335_0 c347 c354 c355 d348v2 c356 d351v1 d350v1 d349v1 d352v1 c357 c302 N N)
  | _ => fun _ _ => none
theorem e335 (c347 : Option Bool) (c354 : List Int → List Int → Option (List (List Int))) (c355 : List Int → Option ((List (Bool × Int × (List (Int × (List Int))) × (List Int))) × Int × Int)) (d348v2 : List Int → Bool → List Int → Int → Int → Int → Option ((((List (Bool × Int × (List (Int × (List Int))) × (List Int))) × (Int × Unit)) × Unit) × ((Bool × ((List Int) × (Int × (Int × (Int × Unit))))) × Unit))) (c356 : List Int → Option Int) (d351v1 : Bool → List Int → Int → Int → Int → Option ((Int × Unit) × ((Bool × ((List Int) × (Int × (Int × (Int × Unit))))) × Unit))) (d350v1 : Bool → List Int → Int → Int → Int → Option ((Int × Unit) × ((Bool × ((List Int) × (Int × (Int × (Int × Unit))))) × Unit))) (d349v1 : Bool → List Int → Int → Int → Int → Option ((Int × Unit) × ((Bool × ((List Int) × (Int × (Int × (Int × Unit))))) × Unit))) (d352v1 : Bool → List Int → Int → Int → Int → Option ((Int × Unit) × ((Bool × ((List Int) × (Int × (Int × (Int × Unit))))) × Unit))) (c357 : Bool × Int × (List (Int × (List Int))) × (List Int) → Option (Bool × Int × (List (Int × (List Int))) × (List Int))) (c302 : Bool × Int × (List (Int × (List Int))) × (List Int) → Bool × Int × (List (Int × (List Int))) × (List Int) → Option Bool) (N : Nat) (a0 : List Int) (a1 : List Int) : evc (T335 c347 c354 c355 d348v2 c356 d351v1 d350v1 d349v1 d352v1 c357 c302) (addI (T335 c347 c354 c355 d348v2 c356 d351v1 d350v1 d349v1 d352v1 c357 c302) (modeOf FT) fuelC 353 k353 (rawOf (RW335 c347 c354 c355 d348v2 c356 d351v1 d350v1 d349v1 d352v1 c357 c302))) (W335 c347 c354 c355 d348v2 c356 d351v1 d350v1 d349v1 d352v1 c357 c302 N) (retc k335.res Sh.bool) (modeOf FT) 0 fuelC k335.body (env0 k335 (encL [(Sh.sl (Sh.int .u8)), (Sh.sl (Sh.int .u16))] (a0, (a1, ()))), []) (endK (retc k335.res Sh.bool)) = p335 c347 c354 c355 d348v2 c356 d351v1 d350v1 d349v1 d352v1 c357 c302 N a0 a1 := by kernel_rfl
theorem ok335 (c347 : Option Bool) (c354 : List Int → List Int → Option (List (List Int))) (c355 : List Int → Option ((List (Bool × Int × (List (Int × (List Int))) × (List Int))) × Int × Int)) (d348v2 : List Int → Bool → List Int → Int → Int → Int → Option ((((List (Bool × Int × (List (Int × (List Int))) × (List Int))) × (Int × Unit)) × Unit) × ((Bool × ((List Int) × (Int × (Int × (Int × Unit))))) × Unit))) (c356 : List Int → Option Int) (d351v1 : Bool → List Int → Int → Int → Int → Option ((Int × Unit) × ((Bool × ((List Int) × (Int × (Int × (Int × Unit))))) × Unit))) (d350v1 : Bool → List Int → Int → Int → Int → Option ((Int × Unit) × ((Bool × ((List Int) × (Int × (Int × (Int × Unit))))) × Unit))) (d349v1 : Bool → List Int → Int → Int → Int → Option ((Int × Unit) × ((Bool × ((List Int) × (Int × (Int × (Int × Unit))))) × Unit))) (d352v1 : Bool → List Int → Int → Int → Int → Option ((Int × Unit) × ((Bool × ((List Int) × (Int × (Int × (Int × Unit))))) × Unit))) (c357 : Bool × Int × (List (Int × (List Int))) × (List Int) → Option (Bool × Int × (List (Int × (List Int))) × (List Int))) (c302 : Bool × Int × (List (Int × (List Int))) × (List Int) → Bool × Int × (List (Int × (List Int))) × (List Int) → Option Bool) (h347 : EntOK FT XT 347 (en347 c347)) (h354 : EntOK FT XT 354 (en354 c354)) (h355 : EntOK FT XT 355 (en355 c355)) (h356 : EntOK FT XT 356 (en356 c356)) (h357 : EntOK FT XT 357 (en357 c357)) (h302 : EntOK FT XT 302 (en302 c302)) (h348v2 : REntOK FT XT 348 (rn348v2 d348v2)) (h351v1 : REntOK FT XT 351 (rn351v1 d351v1)) (h350v1 : REntOK FT XT 350 (rn350v1 d350v1)) (h349v1 : REntOK FT XT 349 (rn349v1 d349v1)) (h352v1 : REntOK FT XT 352 (rn352v1 d352v1)) {f : List Int → List Int → Option Bool} (hf : ∀ a0 a1 r, f a0 a1 = some r → ∃ N, p335 c347 c354 c355 d348v2 c356 d351v1 d350v1 d349v1 d352v1 c357 c302 N a0 a1 = some r) : EntOK FT XT 335 (en335 f) := by
  have hT : TabOK FT XT (T335 c347 c354 c355 d348v2 c356 d351v1 d350v1 d349v1 d352v1 c357 c302) := by
    intro g en hg
    unfold T335 at hg
    split at hg <;> first | (injection hg with hg; subst hg; assumption) | cases hg
  have hO0 : RawOK FT XT (rawOf (α := (Sh.bool).T) (RW335 c347 c354 c355 d348v2 c356 d351v1 d350v1 d349v1 d352v1 c357 c302)) := by
    refine rawOf_ok (fun g en hg => ?_)
    unfold RW335 at hg
    split at hg <;> simp only [List.mem_cons, List.not_mem_nil, or_false] at hg <;> first | (subst hg; assumption) | (rcases hg with rfl | rfl <;> assumption) | (rcases hg with rfl | rfl | rfl <;> assumption) | (rcases hg with rfl | rfl | rfl | rfl <;> assumption)
  have hO : RawOK FT XT (addI (T335 c347 c354 c355 d348v2 c356 d351v1 d350v1 d349v1 d352v1 c357 c302) (modeOf FT) fuelC 353 k353 (rawOf (α := (Sh.bool).T) (RW335 c347 c354 c355 d348v2 c356 d351v1 d350v1 d349v1 d352v1 c357 c302))) := addI_ok hT (hO0) rfl rfl
  refine ⟨rfl, fun v r h => ?_⟩
  obtain ⟨a0, a1, _⟩ := v
  obtain ⟨N, h1⟩ := hf _ _ _ h
  exact ans_c (R := Sh.bool) (tab := T335 c347 c354 c355 d348v2 c356 d351v1 d350v1 d349v1 d352v1 c357 c302) (raw := (addI (T335 c347 c354 c355 d348v2 c356 d351v1 d350v1 d349v1 d352v1 c357 c302) (modeOf FT) fuelC 353 k353 (rawOf (RW335 c347 c354 c355 d348v2 c356 d351v1 d350v1 d349v1 d352v1 c357 c302)))) (LP := W335 c347 c354 c355 d348v2 c356 d351v1 d350v1 d349v1 d352v1 c357 c302 N) (fu := fuelC) hT hO rfl rfl (Nat.le_of_ble_eq_true rfl) (loopOK_cons l335_0 (fun s κ a h => o335_0 c347 c354 c355 d348v2 c356 d351v1 d350v1 d349v1 d352v1 c357 c302 hT hO N h) loopOK_nil) ((e335 c347 c354 c355 d348v2 c356 d351v1 d350v1 d349v1 d352v1 c357 c302 N _ _).trans h1)

def T348v3 (c108 : List Int → Option (List Int)) (c343 : List Int → Option (Int × Int)) (c341 : List Int → Option ((Bool × Int × (List (Int × (List Int))) × (List Int)) × Int)) : Nat → Option Ent
  | 108 => some (en108 c108)
  | 343 => some (en343 c343)
  | 341 => some (en341 c341)
  | _ => none
def H348v3_0 : Trim := ⟨0, [(0, (Sh.st (Sh.pr Sh.bool (Sh.pr (Sh.sl (Sh.int .u8)) (Sh.pr Sh.bool (Sh.pr Sh.bool Sh.bool))))))], false, [0, 6], [(6, (.imm []), 4)]⟩
theorem l348v3_0 : loopN k348 0 = .loop H348v3_0 (bodyOf (loopN k348 0)) := by kernel_rfl
def P348v3_0 : Ps := ⟨[(0, (.ptr 0 0)), (1, .u), (4, .u), (5, .u), (6, (.sl 1 4)), (7, .u), (8, .u), (9, .u), (12, .u), (17, .u), (38, .u), (48, .u)], [(.vals false (.cons .bool (.cons (.tb (Sh.int .u8)) (.cons (.int .i64) (.cons (.int .i64) (.cons (.int .i64) .nil)))))), (.imm false)]⟩
def Q348v3_0 : Nat → Ps
  | 0 => ⟨[(0, (.ptr 0 0)), (1, .u), (4, .u), (5, .u), (6, (.sl 1 4)), (7, .u), (8, .u), (9, .u), (12, .u), (17, .u), (38, .u), (48, .u)], [(.vals false (.cons .bool (.cons (.tb (Sh.int .u8)) (.cons (.int .i64) (.cons (.int .i64) (.cons (.int .i64) .nil)))))), (.imm false)]⟩
  | _ => noPs
def u348v3_0 (c108 : List Int → Option (List Int)) (c343 : List Int → Option (Int × Int)) (c341 : List Int → Option ((Bool × Int × (List (Int × (List Int))) × (List Int)) × Int)) (N n : Nat) (v : P348v3_0.T) (κ : (i : Nat) → (Q348v3_0 i).T → Option QR348v3.T) : Option QR348v3.T :=
  L348v3_0 c108 c343 c341 N (fun (y0 : Nat) (y1 : Bool) (y2 : List Int) (y3 : Int) (y4 : Int) (y5 : Int) (y6 : List V) => κ 0 (((), ((), ((), ((), (y0, ((), ((), ((), ((), ((), ((), ((), ())))))))))))), ((y1, (y2, (y3, (y4, (y5, ()))))), (y6, ())))) n v.1.2.2.2.2.1 v.2.1.1 v.2.1.2.1 v.2.1.2.2.1 v.2.1.2.2.2.1 v.2.1.2.2.2.2.1 v.2.2.1
def W348v3_0 (c108 : List Int → Option (List Int)) (c343 : List Int → Option (Int × Int)) (c341 : List Int → Option ((Bool × Int × (List (Int × (List Int))) × (List Int)) × Int)) (N : Nat) : LoopF QR348v3.T := fun no =>
  match no with
  | _ => fun _ _ => none
theorem b348v3_0 (c108 : List Int → Option (List Int)) (c343 : List Int → Option (Int × Int)) (c341 : List Int → Option ((Bool × Int × (List (Int × (List Int))) × (List Int)) × Int)) (N n : Nat) (v : P348v3_0.T) (κ : (i : Nat) → (Q348v3_0 i).T → Option QR348v3.T) :
    evc (T348v3 c108 c343 c341) (addI (T348v3 c108 c343 c341) (modeOf FT) fuelC 362 k362 (addI (T348v3 c108 c343 c341) (modeOf FT) fuelC 361 k361 (rawOf RW0))) (W348v3_0 c108 c343 c341 N) (retr k348.res 1 QR348v3) (modeOf FT) 1 fuelC (bodyOf (loopN k348 0)) (P348v3_0.st v) (roundK 1 H348v3_0 P348v3_0 Q348v3_0 (u348v3_0 c108 c343 c341 N n) κ) = u348v3_0 c108 c343 c341 N (n + 1) v κ := by kernel_rfl
theorem o348v3_0 (c108 : List Int → Option (List Int)) (c343 : List Int → Option (Int × Int)) (c341 : List Int → Option ((Bool × Int × (List (Int × (List Int))) × (List Int)) × Int)) (hT : TabOK FT XT (T348v3 c108 c343 c341)) (hO : RawOK FT XT (addI (T348v3 c108 c343 c341) (modeOf FT) fuelC 362 k362 (addI (T348v3 c108 c343 c341) (modeOf FT) fuelC 361 k361 (rawOf (α := QR348v3.T) RW0)))) (N : Nat) {s : St} {κ : Ex → St → Option QR348v3.T} {a : QR348v3.T} (h : lpOf 1 H348v3_0 P348v3_0 Q348v3_0 (u348v3_0 c108 c343 c341 N N) s κ = some a) : Out FT XT 1 (retr k348.res 1 QR348v3) (loopN k348 0) s κ a := by
  rw [l348v3_0]
  exact loop_out (LP := W348v3_0 c108 c343 c341 N) (fu := fuelC) hT hO (fun _ _ => rfl) (b348v3_0 c108 c343 c341 N) loopOK_nil N h
def W348v3 (c108 : List Int → Option (List Int)) (c343 : List Int → Option (Int × Int)) (c341 : List Int → Option ((Bool × Int × (List (Int × (List Int))) × (List Int)) × Int)) (N : Nat) : LoopF QR348v3.T := fun no =>
  match no with
  | 0 => lpOf 1 H348v3_0 P348v3_0 Q348v3_0 (u348v3_0 c108 c343 c341 N N)
  | _ => fun _ _ => none
theorem e348v3 (c108 : List Int → Option (List Int)) (c343 : List Int → Option (Int × Int)) (c341 : List Int → Option ((Bool × Int × (List (Int × (List Int))) × (List Int)) × Int)) (N : Nat) (v : PR348v3.T) : evc (T348v3 c108 c343 c341) (addI (T348v3 c108 c343 c341) (modeOf FT) fuelC 362 k362 (addI (T348v3 c108 c343 c341) (modeOf FT) fuelC 361 k361 (rawOf RW0))) (W348v3 c108 c343 c341 N) (retr k348.res 1 QR348v3) (modeOf FT) 1 fuelC k348.body (env0 k348 (PR348v3.a.st v.1), stH PR348v3.h v.2) (endK (retr k348.res 1 QR348v3)) = p348v3 c108 c343 c341 N v.2.1.1 v.2.1.2.1 v.2.1.2.2.1 v.2.1.2.2.2.1 v.2.1.2.2.2.2.1 := by kernel_rfl
theorem ok348v3 (c108 : List Int → Option (List Int)) (c343 : List Int → Option (Int × Int)) (c341 : List Int → Option ((Bool × Int × (List (Int × (List Int))) × (List Int)) × Int)) (h108 : EntOK FT XT 108 (en108 c108)) (h343 : EntOK FT XT 343 (en343 c343)) (h341 : EntOK FT XT 341 (en341 c341)) {f : Bool → List Int → Int → Int → Int → Option ((((List (Bool × Int × (List (Int × (List Int))) × (List Int))) × (Int × Unit)) × Unit) × ((Bool × ((List Int) × (Int × (Int × (Int × Unit))))) × Unit))} (hf : ∀ a0 a1 a2 a3 a4 r, f a0 a1 a2 a3 a4 = some r → ∃ N, p348v3 c108 c343 c341 N a0 a1 a2 a3 a4 = some r) : REntOK FT XT 348 (rn348v3 f) := by
  have hT : TabOK FT XT (T348v3 c108 c343 c341) := by
    intro g en hg
    unfold T348v3 at hg
    split at hg <;> first | (injection hg with hg; subst hg; assumption) | cases hg
  have hO0 : RawOK FT XT (rawOf (α := QR348v3.T) RW0) := rawOK0
  have hO : RawOK FT XT (addI (T348v3 c108 c343 c341) (modeOf FT) fuelC 362 k362 (addI (T348v3 c108 c343 c341) (modeOf FT) fuelC 361 k361 (rawOf (α := QR348v3.T) RW0))) := addI_ok hT (addI_ok hT (hO0) rfl rfl) rfl rfl
  intro v r w h hw
  obtain ⟨N, h1⟩ := hf _ _ _ _ _ _ h
  exact ans_r (Q := QR348v3) (tab := T348v3 c108 c343 c341) (raw := (addI (T348v3 c108 c343 c341) (modeOf FT) fuelC 362 k362 (addI (T348v3 c108 c343 c341) (modeOf FT) fuelC 361 k361 (rawOf RW0)))) (LP := W348v3 c108 c343 c341 N) (fu := fuelC) hT hO rfl rfl (Nat.le_of_ble_eq_true rfl) rfl (loopOK_cons l348v3_0 (fun s κ a h => o348v3_0 c108 c343 c341 hT hO N h) loopOK_nil) ((e348v3 c108 c343 c341 N v).trans h1) hw

def T336 (c347 : Option Bool) (c354 : List Int → List Int → Option (List (List Int))) (d348v2 : List Int → Bool → List Int → Int → Int → Int → Option ((((List (Bool × Int × (List (Int × (List Int))) × (List Int))) × (Int × Unit)) × Unit) × ((Bool × ((List Int) × (Int × (Int × (Int × Unit))))) × Unit))) (d349v1 : Bool → List Int → Int → Int → Int → Option ((Int × Unit) × ((Bool × ((List Int) × (Int × (Int × (Int × Unit))))) × Unit))) (d352v1 : Bool → List Int → Int → Int → Int → Option ((Int × Unit) × ((Bool × ((List Int) × (Int × (Int × (Int × Unit))))) × Unit))) (d348v3 : Bool → List Int → Int → Int → Int → Option ((((List (Bool × Int × (List (Int × (List Int))) × (List Int))) × (Int × Unit)) × Unit) × ((Bool × ((List Int) × (Int × (Int × (Int × Unit))))) × Unit))) (d351v1 : Bool → List Int → Int → Int → Int → Option ((Int × Unit) × ((Bool × ((List Int) × (Int × (Int × (Int × Unit))))) × Unit))) (d350v1 : Bool → List Int → Int → Int → Int → Option ((Int × Unit) × ((Bool × ((List Int) × (Int × (Int × (Int × Unit))))) × Unit))) (c302 : Bool × Int × (List (Int × (List Int))) × (List Int) → Bool × Int × (List (Int × (List Int))) × (List Int) → Option Bool) : Nat → Option Ent
  | 347 => some (en347 c347)
  | 354 => some (en354 c354)
  | 302 => some (en302 c302)
  | _ => none
def RW336 (c347 : Option Bool) (c354 : List Int → List Int → Option (List (List Int))) (d348v2 : List Int → Bool → List Int → Int → Int → Int → Option ((((List (Bool × Int × (List (Int × (List Int))) × (List Int))) × (Int × Unit)) × Unit) × ((Bool × ((List Int) × (Int × (Int × (Int × Unit))))) × Unit))) (d349v1 : Bool → List Int → Int → Int → Int → Option ((Int × Unit) × ((Bool × ((List Int) × (Int × (Int × (Int × Unit))))) × Unit))) (d352v1 : Bool → List Int → Int → Int → Int → Option ((Int × Unit) × ((Bool × ((List Int) × (Int × (Int × (Int × Unit))))) × Unit))) (d348v3 : Bool → List Int → Int → Int → Int → Option ((((List (Bool × Int × (List (Int × (List Int))) × (List Int))) × (Int × Unit)) × Unit) × ((Bool × ((List Int) × (Int × (Int × (Int × Unit))))) × Unit))) (d351v1 : Bool → List Int → Int → Int → Int → Option ((Int × Unit) × ((Bool × ((List Int) × (Int × (Int × (Int × Unit))))) × Unit))) (d350v1 : Bool → List Int → Int → Int → Int → Option ((Int × Unit) × ((Bool × ((List Int) × (Int × (Int × (Int × Unit))))) × Unit))) (c302 : Bool × Int × (List (Int × (List Int))) × (List Int) → Bool × Int × (List (Int × (List Int))) × (List Int) → Option Bool) : Nat → List REnt
  | 348 => [rn348v2 d348v2, rn348v3 d348v3]
  | 349 => [rn349v1 d349v1]
  | 352 => [rn352v1 d352v1]
  | 351 => [rn351v1 d351v1]
  | 350 => [rn350v1 d350v1]
  | _ => []
def H336_2 : Trim := ⟨2, [(7, (Sh.sl (Sh.pr Sh.bool (Sh.pr (Sh.int .u16) (Sh.pr (Sh.sl (Sh.pr (Sh.int .u8) (Sh.sl (Sh.int .u8)))) (Sh.sl (Sh.int .u8))))))), (8, (Sh.sl (Sh.pr Sh.bool (Sh.pr (Sh.int .u16) (Sh.pr (Sh.sl (Sh.pr (Sh.int .u8) (Sh.sl (Sh.int .u8)))) (Sh.sl (Sh.int .u8)))))))], false, [7, 8, 114, 115], []⟩
theorem l336_2 : loopN k336 2 = .loop H336_2 (bodyOf (loopN k336 2)) := by kernel_rfl
def P336_2 : Ps := ⟨[(0, .u), (1, .u), (4, .u), (5, .u), (6, .u), (7, (.tb (Sh.pr Sh.bool (Sh.pr (Sh.int .u16) (Sh.pr (Sh.sl (Sh.pr (Sh.int .u8) (Sh.sl (Sh.int .u8)))) (Sh.sl (Sh.int .u8))))))), (8, (.tb (Sh.pr Sh.bool (Sh.pr (Sh.int .u16) (Sh.pr (Sh.sl (Sh.pr (Sh.int .u8) (Sh.sl (Sh.int .u8)))) (Sh.sl (Sh.int .u8))))))), (10, .u), (11, .u), (13, .u), (14, .u), (17, .u), (19, .u), (20, .u), (23, .u), (29, .u), (30, .u), (31, .u), (32, .u), (51, .u), (54, .u), (55, .u), (56, .u), (112, .u), (114, (.int .i64)), (115, (.int .i64)), (116, .u), (127, .u)], []⟩
def Q336_2 : Nat → Ps
  | 4 => ⟨[(0, .u), (1, .u), (4, .u), (5, .u), (6, .u), (7, .u), (8, .u), (10, .u), (11, .u), (13, .u), (14, .u), (17, .u), (19, .u), (20, .u), (23, .u), (29, .u), (30, .u), (31, .u), (32, .u), (51, .u), (54, .u), (55, .u), (56, .u), (112, .u), (114, .u), (115, .u), (116, .u), (127, .u)], []⟩
  | _ => noPs
def u336_2 (c347 : Option Bool) (c354 : List Int → List Int → Option (List (List Int))) (d348v2 : List Int → Bool → List Int → Int → Int → Int → Option ((((List (Bool × Int × (List (Int × (List Int))) × (List Int))) × (Int × Unit)) × Unit) × ((Bool × ((List Int) × (Int × (Int × (Int × Unit))))) × Unit))) (d349v1 : Bool → List Int → Int → Int → Int → Option ((Int × Unit) × ((Bool × ((List Int) × (Int × (Int × (Int × Unit))))) × Unit))) (d352v1 : Bool → List Int → Int → Int → Int → Option ((Int × Unit) × ((Bool × ((List Int) × (Int × (Int × (Int × Unit))))) × Unit))) (d348v3 : Bool → List Int → Int → Int → Int → Option ((((List (Bool × Int × (List (Int × (List Int))) × (List Int))) × (Int × Unit)) × Unit) × ((Bool × ((List Int) × (Int × (Int × (Int × Unit))))) × Unit))) (d351v1 : Bool → List Int → Int → Int → Int → Option ((Int × Unit) × ((Bool × ((List Int) × (Int × (Int × (Int × Unit))))) × Unit))) (d350v1 : Bool → List Int → Int → Int → Int → Option ((Int × Unit) × ((Bool × ((List Int) × (Int × (Int × (Int × Unit))))) × Unit))) (c302 : Bool × Int × (List (Int × (List Int))) × (List Int) → Bool × Int × (List (Int × (List Int))) × (List Int) → Option Bool) (N n : Nat) (v : P336_2.T) (κ : (i : Nat) → (Q336_2 i).T → Option (Sh.bool).T) : Option (Sh.bool).T :=
  L336_2 c347 c354 d348v2 d349v1 d352v1 d348v3 d351v1 d350v1 c302 N (κ 4 (((), ((), ((), ((), ((), ((), ((), ((), ((), ((), ((), ((), ((), ((), ((), ((), ((), ((), ((), ((), ((), ((), ((), ((), ((), ((), ((), ((), ())))))))))))))))))))))))))))), ())) n v.1.2.2.2.2.2.1 v.1.2.2.2.2.2.2.1 v.1.2.2.2.2.2.2.2.2.2.2.2.2.2.2.2.2.2.2.2.2.2.2.2.2.1 v.1.2.2.2.2.2.2.2.2.2.2.2.2.2.2.2.2.2.2.2.2.2.2.2.2.2.1
def W336_2 (c347 : Option Bool) (c354 : List Int → List Int → Option (List (List Int))) (d348v2 : List Int → Bool → List Int → Int → Int → Int → Option ((((List (Bool × Int × (List (Int × (List Int))) × (List Int))) × (Int × Unit)) × Unit) × ((Bool × ((List Int) × (Int × (Int × (Int × Unit))))) × Unit))) (d349v1 : Bool → List Int → Int → Int → Int → Option ((Int × Unit) × ((Bool × ((List Int) × (Int × (Int × (Int × Unit))))) × Unit))) (d352v1 : Bool → List Int → Int → Int → Int → Option ((Int × Unit) × ((Bool × ((List Int) × (Int × (Int × (Int × Unit))))) × Unit))) (d348v3 : Bool → List Int → Int → Int → Int → Option ((((List (Bool × Int × (List (Int × (List Int))) × (List Int))) × (Int × Unit)) × Unit) × ((Bool × ((List Int) × (Int × (Int × (Int × Unit))))) × Unit))) (d351v1 : Bool → List Int → Int → Int → Int → Option ((Int × Unit) × ((Bool × ((List Int) × (Int × (Int × (Int × Unit))))) × Unit))) (d350v1 : Bool → List Int → Int → Int → Int → Option ((Int × Unit) × ((Bool × ((List Int) × (Int × (Int × (Int × Unit))))) × Unit))) (c302 : Bool × Int × (List (Int × (List Int))) × (List Int) → Bool × Int × (List (Int × (List Int))) × (List Int) → Option Bool) (N : Nat) : LoopF (Sh.bool).T := fun no =>
  match no with
  | _ => fun _ _ => none
theorem b336_2 (c347 : Option Bool) (c354 : List Int → List Int → Option (List (List Int))) (d348v2 : List Int → Bool → List Int → Int → Int → Int → Option ((((List (Bool × Int × (List (Int × (List Int))) × (List Int))) × (Int × Unit)) × Unit) × ((Bool × ((List Int) × (Int × (Int × (Int × Unit))))) × Unit))) (d349v1 : Bool → List Int → Int → Int → Int → Option ((Int × Unit) × ((Bool × ((List Int) × (Int × (Int × (Int × Unit))))) × Unit))) (d352v1 : Bool → List Int → Int → Int → Int → Option ((Int × Unit) × ((Bool × ((List Int) × (Int × (Int × (Int × Unit))))) × Unit))) (d348v3 : Bool → List Int → Int → Int → Int → Option ((((List (Bool × Int × (List (Int × (List Int))) × (List Int))) × (Int × Unit)) × Unit) × ((Bool × ((List Int) × (Int × (Int × (Int × Unit))))) × Unit))) (d351v1 : Bool → List Int → Int → Int → Int → Option ((Int × Unit) × ((Bool × ((List Int) × (Int × (Int × (Int × Unit))))) × Unit))) (d350v1 : Bool → List Int → Int → Int → Int → Option ((Int × Unit) × ((Bool × ((List Int) × (Int × (Int × (Int × Unit))))) × Unit))) (c302 : Bool × Int × (List (Int × (List Int))) × (List Int) → Bool × Int × (List (Int × (List Int))) × (List Int) → Option Bool) (N n : Nat) (v : P336_2.T) (κ : (i : Nat) → (Q336_2 i).T → Option (Sh.bool).T) :
    evc (T336 c347 c354 d348v2 d349v1 d352v1 d348v3 d351v1 d350v1 c302) (addI (T336 c347 c354 d348v2 d349v1 d352v1 d348v3 d351v1 d350v1 c302) (modeOf FT) fuelC 353 k353 (rawOf (RW336 c347 c354 d348v2 d349v1 d352v1 d348v3 d351v1 d350v1 c302))) (W336_2 c347 c354 d348v2 d349v1 d352v1 d348v3 d351v1 d350v1 c302 N) (retc k336.res Sh.bool) (modeOf FT) 0 fuelC (bodyOf (loopN k336 2)) (P336_2.st v) (roundK 0 H336_2 P336_2 Q336_2 (u336_2 c347 c354 d348v2 d349v1 d352v1 d348v3 d351v1 d350v1 c302 N n) κ) = u336_2 c347 c354 d348v2 d349v1 d352v1 d348v3 d351v1 d350v1 c302 N (n + 1) v κ := by kernel_rfl
theorem o336_2 (c347 : Option Bool) (c354 : List Int → List Int → Option (List (List Int))) (d348v2 : List Int → Bool → List Int → Int → Int → Int → Option ((((List (Bool × Int × (List (Int × (List Int))) × (List Int))) × (Int × Unit)) × Unit) × ((Bool × ((List Int) × (Int × (Int × (Int × Unit))))) × Unit))) (d349v1 : Bool → List Int → Int → Int → Int → Option ((Int × Unit) × ((Bool × ((List Int) × (Int × (Int × (Int × Unit))))) × Unit))) (d352v1 : Bool → List Int → Int → Int → Int → Option ((Int × Unit) × ((Bool × ((List Int) × (Int × (Int × (Int × Unit))))) × Unit))) (d348v3 : Bool → List Int → Int → Int → Int → Option ((((List (Bool × Int × (List (Int × (List Int))) × (List Int))) × (Int × Unit)) × Unit) × ((Bool × ((List Int) × (Int × (Int × (Int × Unit))))) × Unit))) (d351v1 : Bool → List Int → Int → Int → Int → Option ((Int × Unit) × ((Bool × ((List Int) × (Int × (Int × (Int × Unit))))) × Unit))) (d350v1 : Bool → List Int → Int → Int → Int → Option ((Int × Unit) × ((Bool × ((List Int) × (Int × (Int × (Int × Unit))))) × Unit))) (c302 : Bool × Int × (List (Int × (List Int))) × (List Int) → Bool × Int × (List (Int × (List Int))) × (List Int) → Option Bool) (hT : TabOK FT XT (T336 c347 c354 d348v2 d349v1 d352v1 d348v3 d351v1 d350v1 c302)) (hO : RawOK FT XT (addI (T336 c347 c354 d348v2 d349v1 d352v1 d348v3 d351v1 d350v1 c302) (modeOf FT) fuelC 353 k353 (rawOf (α := (Sh.bool).T) (RW336 c347 c354 d348v2 d349v1 d352v1 d348v3 d351v1 d350v1 c302)))) (N : Nat) {s : St} {κ : Ex → St → Option (Sh.bool).T} {a : (Sh.bool).T} (h : lpOf 0 H336_2 P336_2 Q336_2 (u336_2 c347 c354 d348v2 d349v1 d352v1 d348v3 d351v1 d350v1 c302 N N) s κ = some a) : Out FT XT 0 (retc k336.res Sh.bool) (loopN k336 2) s κ a := by
  rw [l336_2]
  exact loop_out (LP := W336_2 c347 c354 d348v2 d349v1 d352v1 d348v3 d351v1 d350v1 c302 N) (fu := fuelC) hT hO (fun _ _ => rfl) (b336_2 c347 c354 d348v2 d349v1 d352v1 d348v3 d351v1 d350v1 c302 N) loopOK_nil N h
def H336_1 : Trim := ⟨1, [], false, [0, 5, 6, 7, 8, 54, 55], [(8, (.imm []), 4)]⟩
theorem l336_1 : loopN k336 1 = .loop H336_1 (bodyOf (loopN k336 1)) := by kernel_rfl
def P336_1 : Ps := ⟨[(0, (.tb (Sh.int .u8))), (1, .u), (4, .u), (5, (.ptr 0 0)), (6, (.ptr 1 0)), (7, (.sl 2 4)), (8, (.sl 3 4)), (10, .u), (11, .u), (13, .u), (14, .u), (17, .u), (19, .u), (20, .u), (23, .u), (29, .u), (30, .u), (31, .u), (32, .u), (51, .u), (54, (.int .i64)), (55, (.int .i64)), (56, .u), (112, .u), (114, .u), (115, .u), (116, .u), (127, .u)], [(.vals false (.cons .bool (.cons (.tb (Sh.int .u8)) (.cons (.int .i64) (.cons (.int .i64) (.cons (.int .i64) .nil)))))), (.vals false (.cons .bool (.cons (.tb (Sh.int .u8)) (.cons (.int .i64) (.cons (.int .i64) (.cons (.int .i64) .nil)))))), (.imm false), (.imm false)]⟩
def Q336_1 : Nat → Ps
  | 2 => ⟨[(0, .u), (1, .u), (4, .u), (5, (.ptr 0 0)), (6, (.ptr 1 0)), (7, (.sl 2 4)), (8, (.sl 3 4)), (10, .u), (11, .u), (13, .u), (14, .u), (17, .u), (19, .u), (20, .u), (23, .u), (29, .u), (30, .u), (31, .u), (32, .u), (51, .u), (54, .u), (55, .u), (56, .u), (112, .u), (114, .u), (115, .u), (116, .u), (127, .u)], [(.vals false (.cons .bool (.cons (.tb (Sh.int .u8)) (.cons (.int .i64) (.cons (.int .i64) (.cons (.int .i64) .nil)))))), (.vals false (.cons .bool (.cons (.tb (Sh.int .u8)) (.cons (.int .i64) (.cons (.int .i64) (.cons (.int .i64) .nil)))))), (.imm false), (.imm false)]⟩
  | _ => noPs
def u336_1 (c347 : Option Bool) (c354 : List Int → List Int → Option (List (List Int))) (d348v2 : List Int → Bool → List Int → Int → Int → Int → Option ((((List (Bool × Int × (List (Int × (List Int))) × (List Int))) × (Int × Unit)) × Unit) × ((Bool × ((List Int) × (Int × (Int × (Int × Unit))))) × Unit))) (d349v1 : Bool → List Int → Int → Int → Int → Option ((Int × Unit) × ((Bool × ((List Int) × (Int × (Int × (Int × Unit))))) × Unit))) (d352v1 : Bool → List Int → Int → Int → Int → Option ((Int × Unit) × ((Bool × ((List Int) × (Int × (Int × (Int × Unit))))) × Unit))) (d348v3 : Bool → List Int → Int → Int → Int → Option ((((List (Bool × Int × (List (Int × (List Int))) × (List Int))) × (Int × Unit)) × Unit) × ((Bool × ((List Int) × (Int × (Int × (Int × Unit))))) × Unit))) (d351v1 : Bool → List Int → Int → Int → Int → Option ((Int × Unit) × ((Bool × ((List Int) × (Int × (Int × (Int × Unit))))) × Unit))) (d350v1 : Bool → List Int → Int → Int → Int → Option ((Int × Unit) × ((Bool × ((List Int) × (Int × (Int × (Int × Unit))))) × Unit))) (c302 : Bool × Int × (List (Int × (List Int))) × (List Int) → Bool × Int × (List (Int × (List Int))) × (List Int) → Option Bool) (N n : Nat) (v : P336_1.T) (κ : (i : Nat) → (Q336_1 i).T → Option (Sh.bool).T) : Option (Sh.bool).T :=
  L336_1 c347 c354 d348v2 d349v1 d352v1 d348v3 d351v1 d350v1 c302 N (fun (y0 : Nat) (y1 : Nat) (y2 : Bool) (y3 : List Int) (y4 : Int) (y5 : Int) (y6 : Int) (y7 : Bool) (y8 : List Int) (y9 : Int) (y10 : Int) (y11 : Int) (y12 : List V) (y13 : List V) => κ 2 (((), ((), ((), ((), ((), (y0, (y1, ((), ((), ((), ((), ((), ((), ((), ((), ((), ((), ((), ((), ((), ((), ((), ((), ((), ((), ((), ((), ((), ())))))))))))))))))))))))))))), ((y2, (y3, (y4, (y5, (y6, ()))))), ((y7, (y8, (y9, (y10, (y11, ()))))), (y12, (y13, ())))))) n v.1.1 v.1.2.2.2.2.2.1 v.1.2.2.2.2.2.2.1 v.1.2.2.2.2.2.2.2.2.2.2.2.2.2.2.2.2.2.2.2.2.1 v.1.2.2.2.2.2.2.2.2.2.2.2.2.2.2.2.2.2.2.2.2.2.1 v.2.1.1 v.2.1.2.1 v.2.1.2.2.1 v.2.1.2.2.2.1 v.2.1.2.2.2.2.1 v.2.2.1.1 v.2.2.1.2.1 v.2.2.1.2.2.1 v.2.2.1.2.2.2.1 v.2.2.1.2.2.2.2.1 v.2.2.2.1 v.2.2.2.2.1
def W336_1 (c347 : Option Bool) (c354 : List Int → List Int → Option (List (List Int))) (d348v2 : List Int → Bool → List Int → Int → Int → Int → Option ((((List (Bool × Int × (List (Int × (List Int))) × (List Int))) × (Int × Unit)) × Unit) × ((Bool × ((List Int) × (Int × (Int × (Int × Unit))))) × Unit))) (d349v1 : Bool → List Int → Int → Int → Int → Option ((Int × Unit) × ((Bool × ((List Int) × (Int × (Int × (Int × Unit))))) × Unit))) (d352v1 : Bool → List Int → Int → Int → Int → Option ((Int × Unit) × ((Bool × ((List Int) × (Int × (Int × (Int × Unit))))) × Unit))) (d348v3 : Bool → List Int → Int → Int → Int → Option ((((List (Bool × Int × (List (Int × (List Int))) × (List Int))) × (Int × Unit)) × Unit) × ((Bool × ((List Int) × (Int × (Int × (Int × Unit))))) × Unit))) (d351v1 : Bool → List Int → Int → Int → Int → Option ((Int × Unit) × ((Bool × ((List Int) × (Int × (Int × (Int × Unit))))) × Unit))) (d350v1 : Bool → List Int → Int → Int → Int → Option ((Int × Unit) × ((Bool × ((List Int) × (Int × (Int × (Int × Unit))))) × Unit))) (c302 : Bool × Int × (List (Int × (List Int))) × (List Int) → Bool × Int × (List (Int × (List Int))) × (List Int) → Option Bool) (N : Nat) : LoopF (Sh.bool).T := fun no =>
  match no with
  | _ => fun _ _ => none
theorem b336_1 (c347 : Option Bool) (c354 : List Int → List Int → Option (List (List Int))) (d348v2 : List Int → Bool → List Int → Int → Int → Int → Option ((((List (Bool × Int × (List (Int × (List Int))) × (List Int))) × (Int × Unit)) × Unit) × ((Bool × ((List Int) × (Int × (Int × (Int × Unit))))) × Unit))) (d349v1 : Bool → List Int → Int → Int → Int → Option ((Int × Unit) × ((Bool × ((List Int) × (Int × (Int × (Int × Unit))))) × Unit))) (d352v1 : Bool → List Int → Int → Int → Int → Option ((Int × Unit) × ((Bool × ((List Int) × (Int × (Int × (Int × Unit))))) × Unit))) (d348v3 : Bool → List Int → Int → Int → Int → Option ((((List (Bool × Int × (List (Int × (List Int))) × (List Int))) × (Int × Unit)) × Unit) × ((Bool × ((List Int) × (Int × (Int × (Int × Unit))))) × Unit))) (d351v1 : Bool → List Int → Int → Int → Int → Option ((Int × Unit) × ((Bool × ((List Int) × (Int × (Int × (Int × Unit))))) × Unit))) (d350v1 : Bool → List Int → Int → Int → Int → Option ((Int × Unit) × ((Bool × ((List Int) × (Int × (Int × (Int × Unit))))) × Unit))) (c302 : Bool × Int × (List (Int × (List Int))) × (List Int) → Bool × Int × (List (Int × (List Int))) × (List Int) → Option Bool) (N n : Nat) (v : P336_1.T) (κ : (i : Nat) → (Q336_1 i).T → Option (Sh.bool).T) :
    evc (T336 c347 c354 d348v2 d349v1 d352v1 d348v3 d351v1 d350v1 c302) (addI (T336 c347 c354 d348v2 d349v1 d352v1 d348v3 d351v1 d350v1 c302) (modeOf FT) fuelC 353 k353 (rawOf (RW336 c347 c354 d348v2 d349v1 d352v1 d348v3 d351v1 d350v1 c302))) (W336_1 c347 c354 d348v2 d349v1 d352v1 d348v3 d351v1 d350v1 c302 N) (retc k336.res Sh.bool) (modeOf FT) 0 fuelC (bodyOf (loopN k336 1)) (P336_1.st v) (roundK 0 H336_1 P336_1 Q336_1 (u336_1 c347 c354 d348v2 d349v1 d352v1 d348v3 d351v1 d350v1 c302 N n) κ) = u336_1 c347 c354 d348v2 d349v1 d352v1 d348v3 d351v1 d350v1 c302 N (n + 1) v κ := by kernel_rfl
theorem o336_1 (c347 : Option Bool) (c354 : List Int → List Int → Option (List (List Int))) (d348v2 : List Int → Bool → List Int → Int → Int → Int → Option ((((List (Bool × Int × (List (Int × (List Int))) × (List Int))) × (Int × Unit)) × Unit) × ((Bool × ((List Int) × (Int × (Int × (Int × Unit))))) × Unit))) (d349v1 : Bool → List Int → Int → Int → Int → Option ((Int × Unit) × ((Bool × ((List Int) × (Int × (Int × (Int × Unit))))) × Unit))) (d352v1 : Bool → List Int → Int → Int → Int → Option ((Int × Unit) × ((Bool × ((List Int) × (Int × (Int × (Int × Unit))))) × Unit))) (d348v3 : Bool → List Int → Int → Int → Int → Option ((((List (Bool × Int × (List (Int × (List Int))) × (List Int))) × (Int × Unit)) × Unit) × ((Bool × ((List Int) × (Int × (Int × (Int × Unit))))) × Unit))) (d351v1 : Bool → List Int → Int → Int → Int → Option ((Int × Unit) × ((Bool × ((List Int) × (Int × (Int × (Int × Unit))))) × Unit))) (d350v1 : Bool → List Int → Int → Int → Int → Option ((Int × Unit) × ((Bool × ((List Int) × (Int × (Int × (Int × Unit))))) × Unit))) (c302 : Bool × Int × (List (Int × (List Int))) × (List Int) → Bool × Int × (List (Int × (List Int))) × (List Int) → Option Bool) (hT : TabOK FT XT (T336 c347 c354 d348v2 d349v1 d352v1 d348v3 d351v1 d350v1 c302)) (hO : RawOK FT XT (addI (T336 c347 c354 d348v2 d349v1 d352v1 d348v3 d351v1 d350v1 c302) (modeOf FT) fuelC 353 k353 (rawOf (α := (Sh.bool).T) (RW336 c347 c354 d348v2 d349v1 d352v1 d348v3 d351v1 d350v1 c302)))) (N : Nat) {s : St} {κ : Ex → St → Option (Sh.bool).T} {a : (Sh.bool).T} (h : lpOf 0 H336_1 P336_1 Q336_1 (u336_1 c347 c354 d348v2 d349v1 d352v1 d348v3 d351v1 d350v1 c302 N N) s κ = some a) : Out FT XT 0 (retc k336.res Sh.bool) (loopN k336 1) s κ a := by
  rw [l336_1]
  exact loop_out (LP := W336_1 c347 c354 d348v2 d349v1 d352v1 d348v3 d351v1 d350v1 c302 N) (fu := fuelC) hT hO (fun _ _ => rfl) (b336_1 c347 c354 d348v2 d349v1 d352v1 d348v3 d351v1 d350v1 c302 N) loopOK_nil N h
def H336_0 : Trim := ⟨0, [], false, [0, 5, 6, 7, 8, 29, 30, 31], [(7, (.imm []), 4)]⟩
theorem l336_0 : loopN k336 0 = .loop H336_0 (bodyOf (loopN k336 0)) := by kernel_rfl
def P336_0 : Ps := ⟨[(0, (.tb (Sh.int .u8))), (1, .u), (4, .u), (5, (.ptr 0 0)), (6, (.ptr 1 0)), (7, (.sl 2 4)), (8, .nils), (10, .u), (11, .u), (13, .u), (14, .u), (17, .u), (19, .u), (20, .u), (23, .u), (29, (.tb (Sh.sl (Sh.int .u8)))), (30, (.int .i64)), (31, (.int .i64)), (32, .u), (51, .u), (54, .u), (55, .u), (56, .u), (112, .u), (114, .u), (115, .u), (116, .u), (127, .u)], [(.vals false (.cons .bool (.cons (.tb (Sh.int .u8)) (.cons (.int .i64) (.cons (.int .i64) (.cons (.int .i64) .nil)))))), (.vals false (.cons .bool (.cons (.tb (Sh.int .u8)) (.cons (.int .i64) (.cons (.int .i64) (.cons (.int .i64) .nil)))))), (.imm false)]⟩
def Q336_0 : Nat → Ps
  | 0 => ⟨[(0, (.tb (Sh.int .u8))), (1, .u), (4, .u), (5, (.ptr 0 0)), (6, (.ptr 1 0)), (7, (.sl 2 4)), (8, .nils), (10, .u), (11, .u), (13, .u), (14, .u), (17, .u), (19, .u), (20, .u), (23, .u), (29, .u), (30, .u), (31, .u), (32, .u), (51, .u), (54, .u), (55, .u), (56, .u), (112, .u), (114, .u), (115, .u), (116, .u), (127, .u)], [(.vals false (.cons .bool (.cons (.tb (Sh.int .u8)) (.cons (.int .i64) (.cons (.int .i64) (.cons (.int .i64) .nil)))))), (.vals false (.cons .bool (.cons (.tb (Sh.int .u8)) (.cons (.int .i64) (.cons (.int .i64) (.cons (.int .i64) .nil)))))), (.imm false)]⟩
  | _ => noPs
def u336_0 (c347 : Option Bool) (c354 : List Int → List Int → Option (List (List Int))) (d348v2 : List Int → Bool → List Int → Int → Int → Int → Option ((((List (Bool × Int × (List (Int × (List Int))) × (List Int))) × (Int × Unit)) × Unit) × ((Bool × ((List Int) × (Int × (Int × (Int × Unit))))) × Unit))) (d349v1 : Bool → List Int → Int → Int → Int → Option ((Int × Unit) × ((Bool × ((List Int) × (Int × (Int × (Int × Unit))))) × Unit))) (d352v1 : Bool → List Int → Int → Int → Int → Option ((Int × Unit) × ((Bool × ((List Int) × (Int × (Int × (Int × Unit))))) × Unit))) (d348v3 : Bool → List Int → Int → Int → Int → Option ((((List (Bool × Int × (List (Int × (List Int))) × (List Int))) × (Int × Unit)) × Unit) × ((Bool × ((List Int) × (Int × (Int × (Int × Unit))))) × Unit))) (d351v1 : Bool → List Int → Int → Int → Int → Option ((Int × Unit) × ((Bool × ((List Int) × (Int × (Int × (Int × Unit))))) × Unit))) (d350v1 : Bool → List Int → Int → Int → Int → Option ((Int × Unit) × ((Bool × ((List Int) × (Int × (Int × (Int × Unit))))) × Unit))) (c302 : Bool × Int × (List (Int × (List Int))) × (List Int) → Bool × Int × (List (Int × (List Int))) × (List Int) → Option Bool) (N n : Nat) (v : P336_0.T) (κ : (i : Nat) → (Q336_0 i).T → Option (Sh.bool).T) : Option (Sh.bool).T :=
  L336_0 c347 c354 d348v2 d349v1 d352v1 d348v3 d351v1 d350v1 c302 N (fun (y0 : List Int) (y1 : Nat) (y2 : Bool) (y3 : List Int) (y4 : Int) (y5 : Int) (y6 : Int) (y7 : Bool) (y8 : List Int) (y9 : Int) (y10 : Int) (y11 : Int) (y12 : List V) => κ 0 ((y0, ((), ((), ((), ((), (y1, ((), ((), ((), ((), ((), ((), ((), ((), ((), ((), ((), ((), ((), ((), ((), ((), ((), ((), ((), ((), ((), ((), ())))))))))))))))))))))))))))), ((y2, (y3, (y4, (y5, (y6, ()))))), ((y7, (y8, (y9, (y10, (y11, ()))))), (y12, ()))))) n v.1.1 v.1.2.2.2.2.2.1 v.1.2.2.2.2.2.2.2.2.2.2.2.2.2.2.2.1 v.1.2.2.2.2.2.2.2.2.2.2.2.2.2.2.2.2.1 v.1.2.2.2.2.2.2.2.2.2.2.2.2.2.2.2.2.2.1 v.2.1.1 v.2.1.2.1 v.2.1.2.2.1 v.2.1.2.2.2.1 v.2.1.2.2.2.2.1 v.2.2.1.1 v.2.2.1.2.1 v.2.2.1.2.2.1 v.2.2.1.2.2.2.1 v.2.2.1.2.2.2.2.1 v.2.2.2.1
def W336_0 (c347 : Option Bool) (c354 : List Int → List Int → Option (List (List Int))) (d348v2 : List Int → Bool → List Int → Int → Int → Int → Option ((((List (Bool × Int × (List (Int × (List Int))) × (List Int))) × (Int × Unit)) × Unit) × ((Bool × ((List Int) × (Int × (Int × (Int × Unit))))) × Unit))) (d349v1 : Bool → List Int → Int → Int → Int → Option ((Int × Unit) × ((Bool × ((List Int) × (Int × (Int × (Int × Unit))))) × Unit))) (d352v1 : Bool → List Int → Int → Int → Int → Option ((Int × Unit) × ((Bool × ((List Int) × (Int × (Int × (Int × Unit))))) × Unit))) (d348v3 : Bool → List Int → Int → Int → Int → Option ((((List (Bool × Int × (List (Int × (List Int))) × (List Int))) × (Int × Unit)) × Unit) × ((Bool × ((List Int) × (Int × (Int × (Int × Unit))))) × Unit))) (d351v1 : Bool → List Int → Int → Int → Int → Option ((Int × Unit) × ((Bool × ((List Int) × (Int × (Int × (Int × Unit))))) × Unit))) (d350v1 : Bool → List Int → Int → Int → Int → Option ((Int × Unit) × ((Bool × ((List Int) × (Int × (Int × (Int × Unit))))) × Unit))) (c302 : Bool × Int × (List (Int × (List Int))) × (List Int) → Bool × Int × (List (Int × (List Int))) × (List Int) → Option Bool) (N : Nat) : LoopF (Sh.bool).T := fun no =>
  match no with
  | _ => fun _ _ => none
theorem b336_0 (c347 : Option Bool) (c354 : List Int → List Int → Option (List (List Int))) (d348v2 : List Int → Bool → List Int → Int → Int → Int → Option ((((List (Bool × Int × (List (Int × (List Int))) × (List Int))) × (Int × Unit)) × Unit) × ((Bool × ((List Int) × (Int × (Int × (Int × Unit))))) × Unit))) (d349v1 : Bool → List Int → Int → Int → Int → Option ((Int × Unit) × ((Bool × ((List Int) × (Int × (Int × (Int × Unit))))) × Unit))) (d352v1 : Bool → List Int → Int → Int → Int → Option ((Int × Unit) × ((Bool × ((List Int) × (Int × (Int × (Int × Unit))))) × Unit))) (d348v3 : Bool → List Int → Int → Int → Int → Option ((((List (Bool × Int × (List (Int × (List Int))) × (List Int))) × (Int × Unit)) × Unit) × ((Bool × ((List Int) × (Int × (Int × (Int × Unit))))) × Unit))) (d351v1 : Bool → List Int → Int → Int → Int → Option ((Int × Unit) × ((Bool × ((List Int) × (Int × (Int × (Int × Unit))))) × Unit))) (d350v1 : Bool → List Int → Int → Int → Int → Option ((Int × Unit) × ((Bool × ((List Int) × (Int × (Int × (Int × Unit))))) × Unit))) (c302 : Bool × Int × (List (Int × (List Int))) × (List Int) → Bool × Int × (List (Int × (List Int))) × (List Int) → Option Bool) (N n : Nat) (v : P336_0.T) (κ : (i : Nat) → (Q336_0 i).T → Option (Sh.bool).T) :
    evc (T336 c347 c354 d348v2 d349v1 d352v1 d348v3 d351v1 d350v1 c302) (addI (T336 c347 c354 d348v2 d349v1 d352v1 d348v3 d351v1 d350v1 c302) (modeOf FT) fuelC 353 k353 (rawOf (RW336 c347 c354 d348v2 d349v1 d352v1 d348v3 d351v1 d350v1 c302))) (W336_0 c347 c354 d348v2 d349v1 d352v1 d348v3 d351v1 d350v1 c302 N) (retc k336.res Sh.bool) (modeOf FT) 0 fuelC (bodyOf (loopN k336 0)) (P336_0.st v) (roundK 0 H336_0 P336_0 Q336_0 (u336_0 c347 c354 d348v2 d349v1 d352v1 d348v3 d351v1 d350v1 c302 N n) κ) = u336_0 c347 c354 d348v2 d349v1 d352v1 d348v3 d351v1 d350v1 c302 N (n + 1) v κ := by kernel_rfl
theorem o336_0 (c347 : Option Bool) (c354 : List Int → List Int → Option (List (List Int))) (d348v2 : List Int → Bool → List Int → Int → Int → Int → Option ((((List (Bool × Int × (List (Int × (List Int))) × (List Int))) × (Int × Unit)) × Unit) × ((Bool × ((List Int) × (Int × (Int × (Int × Unit))))) × Unit))) (d349v1 : Bool → List Int → Int → Int → Int → Option ((Int × Unit) × ((Bool × ((List Int) × (Int × (Int × (Int × Unit))))) × Unit))) (d352v1 : Bool → List Int → Int → Int → Int → Option ((Int × Unit) × ((Bool × ((List Int) × (Int × (Int × (Int × Unit))))) × Unit))) (d348v3 : Bool → List Int → Int → Int → Int → Option ((((List (Bool × Int × (List (Int × (List Int))) × (List Int))) × (Int × Unit)) × Unit) × ((Bool × ((List Int) × (Int × (Int × (Int × Unit))))) × Unit))) (d351v1 : Bool → List Int → Int → Int → Int → Option ((Int × Unit) × ((Bool × ((List Int) × (Int × (Int × (Int × Unit))))) × Unit))) (d350v1 : Bool → List Int → Int → Int → Int → Option ((Int × Unit) × ((Bool × ((List Int) × (Int × (Int × (Int × Unit))))) × Unit))) (c302 : Bool × Int × (List (Int × (List Int))) × (List Int) → Bool × Int × (List (Int × (List Int))) × (List Int) → Option Bool) (hT : TabOK FT XT (T336 c347 c354 d348v2 d349v1 d352v1 d348v3 d351v1 d350v1 c302)) (hO : RawOK FT XT (addI (T336 c347 c354 d348v2 d349v1 d352v1 d348v3 d351v1 d350v1 c302) (modeOf FT) fuelC 353 k353 (rawOf (α := (Sh.bool).T) (RW336 c347 c354 d348v2 d349v1 d352v1 d348v3 d351v1 d350v1 c302)))) (N : Nat) {s : St} {κ : Ex → St → Option (Sh.bool).T} {a : (Sh.bool).T} (h : lpOf 0 H336_0 P336_0 Q336_0 (u336_0 c347 c354 d348v2 d349v1 d352v1 d348v3 d351v1 d350v1 c302 N N) s κ = some a) : Out FT XT 0 (retc k336.res Sh.bool) (loopN k336 0) s κ a := by
  rw [l336_0]
  exact loop_out (LP := W336_0 c347 c354 d348v2 d349v1 d352v1 d348v3 d351v1 d350v1 c302 N) (fu := fuelC) hT hO (fun _ _ => rfl) (b336_0 c347 c354 d348v2 d349v1 d352v1 d348v3 d351v1 d350v1 c302 N) loopOK_nil N h
def W336 (c347 : Option Bool) (c354 : List Int → List Int → Option (List (List Int))) (d348v2 : List Int → Bool → List Int → Int → Int → Int → Option ((((List (Bool × Int × (List (Int × (List Int))) × (List Int))) × (Int × Unit)) × Unit) × ((Bool × ((List Int) × (Int × (Int × (Int × Unit))))) × Unit))) (d349v1 : Bool → List Int → Int → Int → Int → Option ((Int × Unit) × ((Bool × ((List Int) × (Int × (Int × (Int × Unit))))) × Unit))) (d352v1 : Bool → List Int → Int → Int → Int → Option ((Int × Unit) × ((Bool × ((List Int) × (Int × (Int × (Int × Unit))))) × Unit))) (d348v3 : Bool → List Int → Int → Int → Int → Option ((((List (Bool × Int × (List (Int × (List Int))) × (List Int))) × (Int × Unit)) × Unit) × ((Bool × ((List Int) × (Int × (Int × (Int × Unit))))) × Unit))) (d351v1 : Bool → List Int → Int → Int → Int → Option ((Int × Unit) × ((Bool × ((List Int) × (Int × (Int × (Int × Unit))))) × Unit))) (d350v1 : Bool → List Int → Int → Int → Int → Option ((Int × Unit) × ((Bool × ((List Int) × (Int × (Int × (Int × Unit))))) × Unit))) (c302 : Bool × Int × (List (Int × (List Int))) × (List Int) → Bool × Int × (List (Int × (List Int))) × (List Int) → Option Bool) (N : Nat) : LoopF (Sh.bool).T := fun no =>
  match no with
  | 0 => lpOf 0 H336_0 P336_0 Q336_0 (u336_0 c347 c354 d348v2 d349v1 d352v1 d348v3 d351v1 d350v1 c302 N N)
  | 1 => lpOf 0 H336_1 P336_1 Q336_1 (u336_1 c347 c354 d348v2 d349v1 d352v1 d348v3 d351v1 d350v1 c302 N N)
  | 2 => lpOf 0 H336_2 P336_2 Q336_2 (u336_2 c347 c354 d348v2 d349v1 d352v1 d348v3 d351v1 d350v1 c302 N N)
  | _ => fun _ _ => none
theorem e336 (c347 : Option Bool) (c354 : List Int → List Int → Option (List (List Int))) (d348v2 : List Int → Bool → List Int → Int → Int → Int → Option ((((List (Bool × Int × (List (Int × (List Int))) × (List Int))) × (Int × Unit)) × Unit) × ((Bool × ((List Int) × (Int × (Int × (Int × Unit))))) × Unit))) (d349v1 : Bool → List Int → Int → Int → Int → Option ((Int × Unit) × ((Bool × ((List Int) × (Int × (Int × (Int × Unit))))) × Unit))) (d352v1 : Bool → List Int → Int → Int → Int → Option ((Int × Unit) × ((Bool × ((List Int) × (Int × (Int × (Int × Unit))))) × Unit))) (d348v3 : Bool → List Int → Int → Int → Int → Option ((((List (Bool × Int × (List (Int × (List Int))) × (List Int))) × (Int × Unit)) × Unit) × ((Bool × ((List Int) × (Int × (Int × (Int × Unit))))) × Unit))) (d351v1 : Bool → List Int → Int → Int → Int → Option ((Int × Unit) × ((Bool × ((List Int) × (Int × (Int × (Int × Unit))))) × Unit))) (d350v1 : Bool → List Int → Int → Int → Int → Option ((Int × Unit) × ((Bool × ((List Int) × (Int × (Int × (Int × Unit))))) × Unit))) (c302 : Bool × Int × (List (Int × (List Int))) × (List Int) → Bool × Int × (List (Int × (List Int))) × (List Int) → Option Bool) (N : Nat) (a0 : List Int) (a1 : List Int) : evc (T336 c347 c354 d348v2 d349v1 d352v1 d348v3 d351v1 d350v1 c302) (addI (T336 c347 c354 d348v2 d349v1 d352v1 d348v3 d351v1 d350v1 c302) (modeOf FT) fuelC 353 k353 (rawOf (RW336 c347 c354 d348v2 d349v1 d352v1 d348v3 d351v1 d350v1 c302))) (W336 c347 c354 d348v2 d349v1 d352v1 d348v3 d351v1 d350v1 c302 N) (retc k336.res Sh.bool) (modeOf FT) 0 fuelC k336.body (env0 k336 (encL [(Sh.sl (Sh.int .u8)), (Sh.sl (Sh.int .u16))] (a0, (a1, ()))), []) (endK (retc k336.res Sh.bool)) = p336 c347 c354 d348v2 d349v1 d352v1 d348v3 d351v1 d350v1 c302 N a0 a1 := by kernel_rfl
theorem ok336 (c347 : Option Bool) (c354 : List Int → List Int → Option (List (List Int))) (d348v2 : List Int → Bool → List Int → Int → Int → Int → Option ((((List (Bool × Int × (List (Int × (List Int))) × (List Int))) × (Int × Unit)) × Unit) × ((Bool × ((List Int) × (Int × (Int × (Int × Unit))))) × Unit))) (d349v1 : Bool → List Int → Int → Int → Int → Option ((Int × Unit) × ((Bool × ((List Int) × (Int × (Int × (Int × Unit))))) × Unit))) (d352v1 : Bool → List Int → Int → Int → Int → Option ((Int × Unit) × ((Bool × ((List Int) × (Int × (Int × (Int × Unit))))) × Unit))) (d348v3 : Bool → List Int → Int → Int → Int → Option ((((List (Bool × Int × (List (Int × (List Int))) × (List Int))) × (Int × Unit)) × Unit) × ((Bool × ((List Int) × (Int × (Int × (Int × Unit))))) × Unit))) (d351v1 : Bool → List Int → Int → Int → Int → Option ((Int × Unit) × ((Bool × ((List Int) × (Int × (Int × (Int × Unit))))) × Unit))) (d350v1 : Bool → List Int → Int → Int → Int → Option ((Int × Unit) × ((Bool × ((List Int) × (Int × (Int × (Int × Unit))))) × Unit))) (c302 : Bool × Int × (List (Int × (List Int))) × (List Int) → Bool × Int × (List (Int × (List Int))) × (List Int) → Option Bool) (h347 : EntOK FT XT 347 (en347 c347)) (h354 : EntOK FT XT 354 (en354 c354)) (h302 : EntOK FT XT 302 (en302 c302)) (h348v2 : REntOK FT XT 348 (rn348v2 d348v2)) (h349v1 : REntOK FT XT 349 (rn349v1 d349v1)) (h352v1 : REntOK FT XT 352 (rn352v1 d352v1)) (h348v3 : REntOK FT XT 348 (rn348v3 d348v3)) (h351v1 : REntOK FT XT 351 (rn351v1 d351v1)) (h350v1 : REntOK FT XT 350 (rn350v1 d350v1)) {f : List Int → List Int → Option Bool} (hf : ∀ a0 a1 r, f a0 a1 = some r → ∃ N, p336 c347 c354 d348v2 d349v1 d352v1 d348v3 d351v1 d350v1 c302 N a0 a1 = some r) : EntOK FT XT 336 (en336 f) := by
  have hT : TabOK FT XT (T336 c347 c354 d348v2 d349v1 d352v1 d348v3 d351v1 d350v1 c302) := by
    intro g en hg
    unfold T336 at hg
    split at hg <;> first | (injection hg with hg; subst hg; assumption) | cases hg
  have hO0 : RawOK FT XT (rawOf (α := (Sh.bool).T) (RW336 c347 c354 d348v2 d349v1 d352v1 d348v3 d351v1 d350v1 c302)) := by
    refine rawOf_ok (fun g en hg => ?_)
    unfold RW336 at hg
    split at hg <;> simp only [List.mem_cons, List.not_mem_nil, or_false] at hg <;> first | (subst hg; assumption) | (rcases hg with rfl | rfl <;> assumption) | (rcases hg with rfl | rfl | rfl <;> assumption) | (rcases hg with rfl | rfl | rfl | rfl <;> assumption)
  have hO : RawOK FT XT (addI (T336 c347 c354 d348v2 d349v1 d352v1 d348v3 d351v1 d350v1 c302) (modeOf FT) fuelC 353 k353 (rawOf (α := (Sh.bool).T) (RW336 c347 c354 d348v2 d349v1 d352v1 d348v3 d351v1 d350v1 c302))) := addI_ok hT (hO0) rfl rfl
  refine ⟨rfl, fun v r h => ?_⟩
  obtain ⟨a0, a1, _⟩ := v
  obtain ⟨N, h1⟩ := hf _ _ _ h
  exact ans_c (R := Sh.bool) (tab := T336 c347 c354 d348v2 d349v1 d352v1 d348v3 d351v1 d350v1 c302) (raw := (addI (T336 c347 c354 d348v2 d349v1 d352v1 d348v3 d351v1 d350v1 c302) (modeOf FT) fuelC 353 k353 (rawOf (RW336 c347 c354 d348v2 d349v1 d352v1 d348v3 d351v1 d350v1 c302)))) (LP := W336 c347 c354 d348v2 d349v1 d352v1 d348v3 d351v1 d350v1 c302 N) (fu := fuelC) hT hO rfl rfl (Nat.le_of_ble_eq_true rfl) (loopOK_cons l336_0 (fun s κ a h => o336_0 c347 c354 d348v2 d349v1 d352v1 d348v3 d351v1 d350v1 c302 hT hO N h) (loopOK_cons l336_1 (fun s κ a h => o336_1 c347 c354 d348v2 d349v1 d352v1 d348v3 d351v1 d350v1 c302 hT hO N h) (loopOK_cons l336_2 (fun s κ a h => o336_2 c347 c354 d348v2 d349v1 d352v1 d348v3 d351v1 d350v1 c302 hT hO N h) loopOK_nil))) ((e336 c347 c354 d348v2 d349v1 d352v1 d348v3 d351v1 d350v1 c302 N _ _).trans h1)
end Go.Proofs.YteagngpgghnlmaaE
