/- The plain functions are the evaluator's. -/
import Derived.Test.YtjgaemdfaknemaaEvGB
import Derived.KernelRfl
namespace Go.Proofs.YtjgaemdfaknemaaE
open Go
set_option linter.unusedVariables false
set_option linter.unusedSimpArgs false

def T64v0 : Nat → Option Ent
  | _ => none
def RW64v0 : Nat → List REnt
  | _ => []
def W64v0 (N : Nat) : LoopF QR64v0.T := fun no =>
  match no with
  | _ => fun _ _ => none
theorem e64v0 (N : Nat) (v : PR64v0.T) : evc (T64v0) (rawOf (RW64v0)) (W64v0 N) (retr k64.res 0 QR64v0) (modeOf FT) 0 fuelC k64.body (env0 k64 (PR64v0.a.st v.1), stH PR64v0.h v.2) (endK (retr k64.res 0 QR64v0)) = p64v0 N v.1.2.1 := by kernel_rfl
theorem ok64v0 {f : Int → Option ((Nat × Unit) × ((List Int) × Unit))} (hf : ∀ a0 r, f a0 = some r → ∃ N, p64v0 N a0 = some r) : REntOK FT XT 64 (rn64v0 f) := by
  have hT : TabOK FT XT (T64v0) := by
    intro g en hg
    unfold T64v0 at hg
    split at hg <;> first | (injection hg with hg; subst hg; assumption) | cases hg
  have hO : RawOK FT XT (rawOf (α := QR64v0.T) (RW64v0)) := by
    refine rawOf_ok (fun g en hg => ?_)
    unfold RW64v0 at hg
    split at hg <;> simp only [List.mem_cons, List.not_mem_nil, or_false] at hg <;> first | (subst hg; assumption) | (rcases hg with rfl | rfl <;> assumption) | (rcases hg with rfl | rfl | rfl <;> assumption) | (rcases hg with rfl | rfl | rfl | rfl <;> assumption)
  intro v r w h hw
  obtain ⟨N, h1⟩ := hf _ _ h
  exact ans_r (Q := QR64v0) (tab := T64v0) (raw := (rawOf (RW64v0))) (LP := W64v0 N) (fu := fuelC) hT hO rfl rfl (Nat.le_of_ble_eq_true rfl) rfl loopOK_nil ((e64v0 N v).trans h1) hw

def T1 (d64v0 : Int → Option ((Nat × Unit) × ((List Int) × Unit))) : Nat → Option Ent
  | _ => none
def RW1 (d64v0 : Int → Option ((Nat × Unit) × ((List Int) × Unit))) : Nat → List REnt
  | 64 => [rn64v0 d64v0]
  | _ => []
def H1_1 : Trim := ⟨1, [], false, [6, 25, 26, 27], []⟩
theorem l1_1 : loopN k1 1 = .loop H1_1 (bodyOf (loopN k1 1)) := by kernel_rfl
def P1_1 : Ps := ⟨[(0, .u), (2, .u), (3, .u), (5, .u), (6, (.sl 0 1)), (8, .u), (9, .u), (10, .u), (11, .u), (12, .u), (20, .u), (25, (.tb (Sh.sl (Sh.int .u8)))), (26, (.int .i64)), (27, (.int .i64)), (28, .u)], [(.ints false .u8)]⟩
def Q1_1 : Nat → Ps
  | 2 => ⟨[(0, .u), (2, .u), (3, .u), (5, .u), (6, (.sl 0 1)), (8, .u), (9, .u), (10, .u), (11, .u), (12, .u), (20, .u), (25, .u), (26, .u), (27, .u), (28, .u)], [(.ints false .u8)]⟩
  | _ => noPs
def u1_1 (d64v0 : Int → Option ((Nat × Unit) × ((List Int) × Unit))) (N n : Nat) (v : P1_1.T) (κ : (i : Nat) → (Q1_1 i).T → Option (List Int)) : Option (List Int) :=
  L1_1 d64v0 N (fun (y0 : Nat) (y1 : List Int) => κ 2 (((), ((), ((), ((), (y0, ((), ((), ((), ((), ((), ((), ((), ((), ((), ((), ()))))))))))))))), (y1, ()))) n v.1.2.2.2.2.1 v.1.2.2.2.2.2.2.2.2.2.2.2.1 v.1.2.2.2.2.2.2.2.2.2.2.2.2.1 v.1.2.2.2.2.2.2.2.2.2.2.2.2.2.1 v.2.1
def W1_1 (d64v0 : Int → Option ((Nat × Unit) × ((List Int) × Unit))) (N : Nat) : LoopF (List Int) := fun no =>
  match no with
  | _ => fun _ _ => none
theorem b1_1 (d64v0 : Int → Option ((Nat × Unit) × ((List Int) × Unit))) (N n : Nat) (v : P1_1.T) (κ : (i : Nat) → (Q1_1 i).T → Option (List Int)) :
    evc (T1 d64v0) (rawOf (RW1 d64v0)) (W1_1 d64v0 N) (reto k1.res .u8) (modeOf FT) 0 fuelC (bodyOf (loopN k1 1)) (P1_1.st v) (roundK 0 H1_1 P1_1 Q1_1 (u1_1 d64v0 N n) κ) = u1_1 d64v0 N (n + 1) v κ := by kernel_rfl
theorem o1_1 (d64v0 : Int → Option ((Nat × Unit) × ((List Int) × Unit))) (hT : TabOK FT XT (T1 d64v0)) (hO : RawOK FT XT (rawOf (α := List Int) (RW1 d64v0))) (N : Nat) {s : St} {κ : Ex → St → Option (List Int)} {a : List Int} (h : lpOf 0 H1_1 P1_1 Q1_1 (u1_1 d64v0 N N) s κ = some a) : Out FT XT 0 (reto k1.res .u8) (loopN k1 1) s κ a := by
  rw [l1_1]
  exact loop_out (LP := W1_1 d64v0 N) (fu := fuelC) hT hO (fun _ _ => rfl) (b1_1 d64v0 N) loopOK_nil N h
def H1_0 : Trim := ⟨0, [], false, [0, 3, 9, 10, 11], []⟩
theorem l1_0 : loopN k1 0 = .loop H1_0 (bodyOf (loopN k1 0)) := by kernel_rfl
def P1_0 : Ps := ⟨[(0, (.tb (Sh.sl (Sh.int .u8)))), (2, .u), (3, (.int .i64)), (5, .u), (6, .u), (8, .u), (9, (.tb (Sh.sl (Sh.int .u8)))), (10, (.int .i64)), (11, (.int .i64)), (12, .u), (20, .u), (25, .u), (26, .u), (27, .u), (28, .u)], []⟩
def Q1_0 : Nat → Ps
  | 0 => ⟨[(0, (.tb (Sh.sl (Sh.int .u8)))), (2, .u), (3, (.int .i64)), (5, .u), (6, .u), (8, .u), (9, .u), (10, .u), (11, .u), (12, .u), (20, .u), (25, .u), (26, .u), (27, .u), (28, .u)], []⟩
  | _ => noPs
def u1_0 (d64v0 : Int → Option ((Nat × Unit) × ((List Int) × Unit))) (N n : Nat) (v : P1_0.T) (κ : (i : Nat) → (Q1_0 i).T → Option (List Int)) : Option (List Int) :=
  L1_0 d64v0 N (fun (y0 : List (List Int)) (y1 : Int) => κ 0 ((y0, ((), (y1, ((), ((), ((), ((), ((), ((), ((), ((), ((), ((), ((), ((), ()))))))))))))))), ())) n v.1.1 v.1.2.2.1 v.1.2.2.2.2.2.2.1 v.1.2.2.2.2.2.2.2.1 v.1.2.2.2.2.2.2.2.2.1
def W1_0 (d64v0 : Int → Option ((Nat × Unit) × ((List Int) × Unit))) (N : Nat) : LoopF (List Int) := fun no =>
  match no with
  | _ => fun _ _ => none
theorem b1_0 (d64v0 : Int → Option ((Nat × Unit) × ((List Int) × Unit))) (N n : Nat) (v : P1_0.T) (κ : (i : Nat) → (Q1_0 i).T → Option (List Int)) :
    evc (T1 d64v0) (rawOf (RW1 d64v0)) (W1_0 d64v0 N) (reto k1.res .u8) (modeOf FT) 0 fuelC (bodyOf (loopN k1 0)) (P1_0.st v) (roundK 0 H1_0 P1_0 Q1_0 (u1_0 d64v0 N n) κ) = u1_0 d64v0 N (n + 1) v κ := by kernel_rfl
theorem o1_0 (d64v0 : Int → Option ((Nat × Unit) × ((List Int) × Unit))) (hT : TabOK FT XT (T1 d64v0)) (hO : RawOK FT XT (rawOf (α := List Int) (RW1 d64v0))) (N : Nat) {s : St} {κ : Ex → St → Option (List Int)} {a : List Int} (h : lpOf 0 H1_0 P1_0 Q1_0 (u1_0 d64v0 N N) s κ = some a) : Out FT XT 0 (reto k1.res .u8) (loopN k1 0) s κ a := by
  rw [l1_0]
  exact loop_out (LP := W1_0 d64v0 N) (fu := fuelC) hT hO (fun _ _ => rfl) (b1_0 d64v0 N) loopOK_nil N h
def W1 (d64v0 : Int → Option ((Nat × Unit) × ((List Int) × Unit))) (N : Nat) : LoopF (List Int) := fun no =>
  match no with
  | 0 => lpOf 0 H1_0 P1_0 Q1_0 (u1_0 d64v0 N N)
  | 1 => lpOf 0 H1_1 P1_1 Q1_1 (u1_1 d64v0 N N)
  | _ => fun _ _ => none
theorem e1 (d64v0 : Int → Option ((Nat × Unit) × ((List Int) × Unit))) (N : Nat) (a0 : List (List Int)) : evc (T1 d64v0) (rawOf (RW1 d64v0)) (W1 d64v0 N) (reto k1.res .u8) (modeOf FT) 0 fuelC k1.body (env0 k1 (encL [(Sh.sl (Sh.sl (Sh.int .u8)))] (a0, ())), []) (endK (reto k1.res .u8)) = p1 d64v0 N a0 := by kernel_rfl
theorem ok1 (d64v0 : Int → Option ((Nat × Unit) × ((List Int) × Unit))) (h64v0 : REntOK FT XT 64 (rn64v0 d64v0)) {f : List (List Int) → Option (List Int)} (hf : ∀ a0 r, f a0 = some r → ∃ N, p1 d64v0 N a0 = some r) : EntOK FT XT 1 (en1 f) := by
  have hT : TabOK FT XT (T1 d64v0) := by
    intro g en hg
    unfold T1 at hg
    split at hg <;> first | (injection hg with hg; subst hg; assumption) | cases hg
  have hO : RawOK FT XT (rawOf (α := List Int) (RW1 d64v0)) := by
    refine rawOf_ok (fun g en hg => ?_)
    unfold RW1 at hg
    split at hg <;> simp only [List.mem_cons, List.not_mem_nil, or_false] at hg <;> first | (subst hg; assumption) | (rcases hg with rfl | rfl <;> assumption) | (rcases hg with rfl | rfl | rfl <;> assumption) | (rcases hg with rfl | rfl | rfl | rfl <;> assumption)
  refine ⟨rfl, fun v r h => ?_⟩
  obtain ⟨a0, _⟩ := v
  obtain ⟨N, h1⟩ := hf _ _ h
  exact ans_o (tab := T1 d64v0) (raw := (rawOf (RW1 d64v0))) (LP := W1 d64v0 N) (fu := fuelC) hT hO rfl rfl (Nat.le_of_ble_eq_true rfl) (loopOK_cons l1_0 (fun s κ a h => o1_0 d64v0 hT hO N h) (loopOK_cons l1_1 (fun s κ a h => o1_1 d64v0 hT hO N h) loopOK_nil)) ((e1 d64v0 N _).trans h1)

def T48v0 : Nat → Option Ent
  | _ => none
def RW48v0 : Nat → List REnt
  | _ => []
def H48v0_0 : Trim := ⟨0, [], false, [0, 2, 3], []⟩
theorem l48v0_0 : loopN k48 0 = .loop H48v0_0 (bodyOf (loopN k48 0)) := by kernel_rfl
def P48v0_0 : Ps := ⟨[(0, (.slc 0 1)), (2, (.int .i64)), (3, (.int .i64)), (9, .u)], [(.ints false .u8)]⟩
def Q48v0_0 : Nat → Ps
  | 0 => ⟨[(0, .u), (2, .u), (3, .u), (9, .u)], [(.ints false .u8)]⟩
  | _ => noPs
def u48v0_0 (N n : Nat) (v : P48v0_0.T) (κ : (i : Nat) → (Q48v0_0 i).T → Option QR48v0.T) : Option QR48v0.T :=
  L48v0_0 N (fun (y0 : List Int) => κ 0 (((), ((), ((), ((), ())))), (y0, ()))) n v.1.1.1 v.1.1.2 v.1.2.1 v.1.2.2.1 v.2.1
def W48v0_0 (N : Nat) : LoopF QR48v0.T := fun no =>
  match no with
  | _ => fun _ _ => none
theorem b48v0_0 (N n : Nat) (v : P48v0_0.T) (κ : (i : Nat) → (Q48v0_0 i).T → Option QR48v0.T) :
    evc (T48v0) (rawOf (RW48v0)) (W48v0_0 N) (retr k48.res 1 QR48v0) (modeOf FT) 1 fuelC (bodyOf (loopN k48 0)) (P48v0_0.st v) (roundK 1 H48v0_0 P48v0_0 Q48v0_0 (u48v0_0 N n) κ) = u48v0_0 N (n + 1) v κ := by kernel_rfl
theorem o48v0_0 (hT : TabOK FT XT (T48v0)) (hO : RawOK FT XT (rawOf (α := QR48v0.T) (RW48v0))) (N : Nat) {s : St} {κ : Ex → St → Option QR48v0.T} {a : QR48v0.T} (h : lpOf 1 H48v0_0 P48v0_0 Q48v0_0 (u48v0_0 N N) s κ = some a) : Out FT XT 1 (retr k48.res 1 QR48v0) (loopN k48 0) s κ a := by
  rw [l48v0_0]
  exact loop_out (LP := W48v0_0 N) (fu := fuelC) hT hO (fun _ _ => rfl) (b48v0_0 N) loopOK_nil N h
def W48v0 (N : Nat) : LoopF QR48v0.T := fun no =>
  match no with
  | 0 => lpOf 1 H48v0_0 P48v0_0 Q48v0_0 (u48v0_0 N N)
  | _ => fun _ _ => none
theorem e48v0 (N : Nat) (v : PR48v0.T) : evc (T48v0) (rawOf (RW48v0)) (W48v0 N) (retr k48.res 1 QR48v0) (modeOf FT) 1 fuelC k48.body (env0 k48 (PR48v0.a.st v.1), stH PR48v0.h v.2) (endK (retr k48.res 1 QR48v0)) = p48v0 N v.1.1.1 v.1.1.2 v.2.1 := by kernel_rfl
theorem ok48v0 {f : Nat → Nat → List Int → Option ((Unit × Unit) × ((List Int) × Unit))} (hf : ∀ a0 a1 a2 r, f a0 a1 a2 = some r → ∃ N, p48v0 N a0 a1 a2 = some r) : REntOK FT XT 48 (rn48v0 f) := by
  have hT : TabOK FT XT (T48v0) := by
    intro g en hg
    unfold T48v0 at hg
    split at hg <;> first | (injection hg with hg; subst hg; assumption) | cases hg
  have hO : RawOK FT XT (rawOf (α := QR48v0.T) (RW48v0)) := by
    refine rawOf_ok (fun g en hg => ?_)
    unfold RW48v0 at hg
    split at hg <;> simp only [List.mem_cons, List.not_mem_nil, or_false] at hg <;> first | (subst hg; assumption) | (rcases hg with rfl | rfl <;> assumption) | (rcases hg with rfl | rfl | rfl <;> assumption) | (rcases hg with rfl | rfl | rfl | rfl <;> assumption)
  intro v r w h hw
  obtain ⟨N, h1⟩ := hf _ _ _ _ h
  exact ans_r (Q := QR48v0) (tab := T48v0) (raw := (rawOf (RW48v0))) (LP := W48v0 N) (fu := fuelC) hT hO rfl rfl (Nat.le_of_ble_eq_true rfl) rfl (loopOK_cons l48v0_0 (fun s κ a h => o48v0_0 hT hO N h) loopOK_nil) ((e48v0 N v).trans h1) hw

def T19 (d48v0 : Nat → Nat → List Int → Option ((Unit × Unit) × ((List Int) × Unit))) : Nat → Option Ent
  | _ => none
def RW19 (d48v0 : Nat → Nat → List Int → Option ((Unit × Unit) × ((List Int) × Unit))) : Nat → List REnt
  | 48 => [rn48v0 d48v0]
  | _ => []
def H19_0 : Trim := ⟨0, [], false, [0, 2, 8, 19, 20], []⟩
theorem l19_0 : loopN k19 0 = .loop H19_0 (bodyOf (loopN k19 0)) := by kernel_rfl
def P19_0 : Ps := ⟨[(0, (.int .u64)), (1, .u), (2, .bool), (6, .u), (7, .u), (8, (.slc 0 1)), (9, .u), (15, .u), (19, (.int .i64)), (20, (.int .i64)), (21, .u), (33, .u)], [(.ints false .u8)]⟩
def Q19_0 : Nat → Ps
  | 0 => ⟨[(0, .u), (1, .u), (2, .bool), (6, .u), (7, .u), (8, (.slc 0 1)), (9, .u), (15, .u), (19, .u), (20, .u), (21, .u), (33, .u)], [(.ints false .u8)]⟩
  | _ => noPs
def u19_0 (d48v0 : Nat → Nat → List Int → Option ((Unit × Unit) × ((List Int) × Unit))) (N n : Nat) (v : P19_0.T) (κ : (i : Nat) → (Q19_0 i).T → Option (((Sh.tu (Sh.pr (Sh.sl (Sh.int .u8)) (Sh.int .i64)))).T)) : Option (((Sh.tu (Sh.pr (Sh.sl (Sh.int .u8)) (Sh.int .i64)))).T) :=
  L19_0 d48v0 N (fun (y0 : Bool) (y1 : Nat) (y2 : Nat) (y3 : List Int) => κ 0 (((), ((), (y0, ((), ((), ((y1, y2), ((), ((), ((), ((), ((), ((), ())))))))))))), (y3, ()))) n v.1.1 v.1.2.2.1 v.1.2.2.2.2.2.1.1 v.1.2.2.2.2.2.1.2 v.1.2.2.2.2.2.2.2.2.1 v.1.2.2.2.2.2.2.2.2.2.1 v.2.1
def W19_0 (d48v0 : Nat → Nat → List Int → Option ((Unit × Unit) × ((List Int) × Unit))) (N : Nat) : LoopF (((Sh.tu (Sh.pr (Sh.sl (Sh.int .u8)) (Sh.int .i64)))).T) := fun no =>
  match no with
  | _ => fun _ _ => none
theorem b19_0 (d48v0 : Nat → Nat → List Int → Option ((Unit × Unit) × ((List Int) × Unit))) (N n : Nat) (v : P19_0.T) (κ : (i : Nat) → (Q19_0 i).T → Option (((Sh.tu (Sh.pr (Sh.sl (Sh.int .u8)) (Sh.int .i64)))).T)) :
    evc (T19 d48v0) (rawOf (RW19 d48v0)) (W19_0 d48v0 N) (retc k19.res (Sh.tu (Sh.pr (Sh.sl (Sh.int .u8)) (Sh.int .i64)))) (modeOf FT) 0 fuelC (bodyOf (loopN k19 0)) (P19_0.st v) (roundK 0 H19_0 P19_0 Q19_0 (u19_0 d48v0 N n) κ) = u19_0 d48v0 N (n + 1) v κ := by kernel_rfl
theorem o19_0 (d48v0 : Nat → Nat → List Int → Option ((Unit × Unit) × ((List Int) × Unit))) (hT : TabOK FT XT (T19 d48v0)) (hO : RawOK FT XT (rawOf (α := ((Sh.tu (Sh.pr (Sh.sl (Sh.int .u8)) (Sh.int .i64)))).T) (RW19 d48v0))) (N : Nat) {s : St} {κ : Ex → St → Option (((Sh.tu (Sh.pr (Sh.sl (Sh.int .u8)) (Sh.int .i64)))).T)} {a : ((Sh.tu (Sh.pr (Sh.sl (Sh.int .u8)) (Sh.int .i64)))).T} (h : lpOf 0 H19_0 P19_0 Q19_0 (u19_0 d48v0 N N) s κ = some a) : Out FT XT 0 (retc k19.res (Sh.tu (Sh.pr (Sh.sl (Sh.int .u8)) (Sh.int .i64)))) (loopN k19 0) s κ a := by
  rw [l19_0]
  exact loop_out (LP := W19_0 d48v0 N) (fu := fuelC) hT hO (fun _ _ => rfl) (b19_0 d48v0 N) loopOK_nil N h
def W19 (d48v0 : Nat → Nat → List Int → Option ((Unit × Unit) × ((List Int) × Unit))) (N : Nat) : LoopF (((Sh.tu (Sh.pr (Sh.sl (Sh.int .u8)) (Sh.int .i64)))).T) := fun no =>
  match no with
  | 0 => lpOf 0 H19_0 P19_0 Q19_0 (u19_0 d48v0 N N)
  | _ => fun _ _ => none
theorem e19 (d48v0 : Nat → Nat → List Int → Option ((Unit × Unit) × ((List Int) × Unit))) (N : Nat) (a0 : Int) (a1 : Int) (a2 : Bool) : evc (T19 d48v0) (rawOf (RW19 d48v0)) (W19 d48v0 N) (retc k19.res (Sh.tu (Sh.pr (Sh.sl (Sh.int .u8)) (Sh.int .i64)))) (modeOf FT) 0 fuelC k19.body (env0 k19 (encL [(Sh.int .u64), (Sh.int .i64), Sh.bool] (a0, (a1, (a2, ())))), []) (endK (retc k19.res (Sh.tu (Sh.pr (Sh.sl (Sh.int .u8)) (Sh.int .i64))))) = p19 d48v0 N a0 a1 a2 := by kernel_rfl
theorem ok19 (d48v0 : Nat → Nat → List Int → Option ((Unit × Unit) × ((List Int) × Unit))) (h48v0 : REntOK FT XT 48 (rn48v0 d48v0)) {f : Int → Int → Bool → Option ((List Int) × Int)} (hf : ∀ a0 a1 a2 r, f a0 a1 a2 = some r → ∃ N, p19 d48v0 N a0 a1 a2 = some r) : EntOK FT XT 19 (en19 f) := by
  have hT : TabOK FT XT (T19 d48v0) := by
    intro g en hg
    unfold T19 at hg
    split at hg <;> first | (injection hg with hg; subst hg; assumption) | cases hg
  have hO : RawOK FT XT (rawOf (α := ((Sh.tu (Sh.pr (Sh.sl (Sh.int .u8)) (Sh.int .i64)))).T) (RW19 d48v0)) := by
    refine rawOf_ok (fun g en hg => ?_)
    unfold RW19 at hg
    split at hg <;> simp only [List.mem_cons, List.not_mem_nil, or_false] at hg <;> first | (subst hg; assumption) | (rcases hg with rfl | rfl <;> assumption) | (rcases hg with rfl | rfl | rfl <;> assumption) | (rcases hg with rfl | rfl | rfl | rfl <;> assumption)
  refine ⟨rfl, fun v r h => ?_⟩
  obtain ⟨a0, a1, a2, _⟩ := v
  obtain ⟨N, h1⟩ := hf _ _ _ _ h
  exact ans_c (R := (Sh.tu (Sh.pr (Sh.sl (Sh.int .u8)) (Sh.int .i64)))) (tab := T19 d48v0) (raw := (rawOf (RW19 d48v0))) (LP := W19 d48v0 N) (fu := fuelC) hT hO rfl rfl (Nat.le_of_ble_eq_true rfl) (loopOK_cons l19_0 (fun s κ a h => o19_0 d48v0 hT hO N h) loopOK_nil) ((e19 d48v0 N _ _ _).trans h1)

def T21 : Nat → Option Ent
  | _ => none
def RW21 : Nat → List REnt
  | _ => []
def H21_0 : Trim := ⟨0, [], false, [1, 6, 17, 18, 19], []⟩
theorem l21_0 : loopN k21 0 = .loop H21_0 (bodyOf (loopN k21 0)) := by kernel_rfl
def P21_0 : Ps := ⟨[(0, .u), (1, .bool), (4, .u), (5, .u), (6, (.int .u64)), (7, .u), (8, .u), (16, .u), (17, (.tb (Sh.int .u8))), (18, (.int .i64)), (19, (.int .i64)), (20, .u), (24, .u)], []⟩
def Q21_0 : Nat → Ps
  | 0 => ⟨[(0, .u), (1, .u), (4, .u), (5, .u), (6, (.int .u64)), (7, .u), (8, .u), (16, .u), (17, .u), (18, .u), (19, .u), (20, .u), (24, .u)], []⟩
  | _ => noPs
def u21_0 (N n : Nat) (v : P21_0.T) (κ : (i : Nat) → (Q21_0 i).T → Option (((Sh.tu (Sh.pr (Sh.int .u64) (Sh.int .i64)))).T)) : Option (((Sh.tu (Sh.pr (Sh.int .u64) (Sh.int .i64)))).T) :=
  L21_0 N (fun (y0 : Int) => κ 0 (((), ((), ((), ((), (y0, ((), ((), ((), ((), ((), ((), ((), ((), ()))))))))))))), ())) n v.1.2.1 v.1.2.2.2.2.1 v.1.2.2.2.2.2.2.2.2.1 v.1.2.2.2.2.2.2.2.2.2.1 v.1.2.2.2.2.2.2.2.2.2.2.1
def W21_0 (N : Nat) : LoopF (((Sh.tu (Sh.pr (Sh.int .u64) (Sh.int .i64)))).T) := fun no =>
  match no with
  | _ => fun _ _ => none
theorem b21_0 (N n : Nat) (v : P21_0.T) (κ : (i : Nat) → (Q21_0 i).T → Option (((Sh.tu (Sh.pr (Sh.int .u64) (Sh.int .i64)))).T)) :
    evc (T21) (rawOf (RW21)) (W21_0 N) (retc k21.res (Sh.tu (Sh.pr (Sh.int .u64) (Sh.int .i64)))) (modeOf FT) 0 fuelC (bodyOf (loopN k21 0)) (P21_0.st v) (roundK 0 H21_0 P21_0 Q21_0 (u21_0 N n) κ) = u21_0 N (n + 1) v κ := by kernel_rfl
theorem o21_0 (hT : TabOK FT XT (T21)) (hO : RawOK FT XT (rawOf (α := ((Sh.tu (Sh.pr (Sh.int .u64) (Sh.int .i64)))).T) (RW21))) (N : Nat) {s : St} {κ : Ex → St → Option (((Sh.tu (Sh.pr (Sh.int .u64) (Sh.int .i64)))).T)} {a : ((Sh.tu (Sh.pr (Sh.int .u64) (Sh.int .i64)))).T} (h : lpOf 0 H21_0 P21_0 Q21_0 (u21_0 N N) s κ = some a) : Out FT XT 0 (retc k21.res (Sh.tu (Sh.pr (Sh.int .u64) (Sh.int .i64)))) (loopN k21 0) s κ a := by
  rw [l21_0]
  exact loop_out (LP := W21_0 N) (fu := fuelC) hT hO (fun _ _ => rfl) (b21_0 N) loopOK_nil N h
def W21 (N : Nat) : LoopF (((Sh.tu (Sh.pr (Sh.int .u64) (Sh.int .i64)))).T) := fun no =>
  match no with
  | 0 => lpOf 0 H21_0 P21_0 Q21_0 (u21_0 N N)
  | _ => fun _ _ => none
theorem e21 (N : Nat) (a0 : List Int) (a1 : Bool) : evc (T21) (rawOf (RW21)) (W21 N) (retc k21.res (Sh.tu (Sh.pr (Sh.int .u64) (Sh.int .i64)))) (modeOf FT) 0 fuelC k21.body (env0 k21 (encL [(Sh.sl (Sh.int .u8)), Sh.bool] (a0, (a1, ()))), []) (endK (retc k21.res (Sh.tu (Sh.pr (Sh.int .u64) (Sh.int .i64))))) = p21 N a0 a1 := by kernel_rfl
theorem ok21 {f : List Int → Bool → Option (Int × Int)} (hf : ∀ a0 a1 r, f a0 a1 = some r → ∃ N, p21 N a0 a1 = some r) : EntOK FT XT 21 (en21 f) := by
  have hT : TabOK FT XT (T21) := by
    intro g en hg
    unfold T21 at hg
    split at hg <;> first | (injection hg with hg; subst hg; assumption) | cases hg
  have hO : RawOK FT XT (rawOf (α := ((Sh.tu (Sh.pr (Sh.int .u64) (Sh.int .i64)))).T) (RW21)) := by
    refine rawOf_ok (fun g en hg => ?_)
    unfold RW21 at hg
    split at hg <;> simp only [List.mem_cons, List.not_mem_nil, or_false] at hg <;> first | (subst hg; assumption) | (rcases hg with rfl | rfl <;> assumption) | (rcases hg with rfl | rfl | rfl <;> assumption) | (rcases hg with rfl | rfl | rfl | rfl <;> assumption)
  refine ⟨rfl, fun v r h => ?_⟩
  obtain ⟨a0, a1, _⟩ := v
  obtain ⟨N, h1⟩ := hf _ _ _ h
  exact ans_c (R := (Sh.tu (Sh.pr (Sh.int .u64) (Sh.int .i64)))) (tab := T21) (raw := (rawOf (RW21))) (LP := W21 N) (fu := fuelC) hT hO rfl rfl (Nat.le_of_ble_eq_true rfl) (loopOK_cons l21_0 (fun s κ a h => o21_0 hT hO N h) loopOK_nil) ((e21 N _ _).trans h1)

def T23 : Nat → Option Ent
  | _ => none
def RW23 : Nat → List REnt
  | _ => []
def H23_0 : Trim := ⟨0, [], false, [0, 1, 5], []⟩
theorem l23_0 : loopN k23 0 = .loop H23_0 (bodyOf (loopN k23 0)) := by kernel_rfl
def P23_0 : Ps := ⟨[(0, (.tb (Sh.int .u8))), (1, (.tb (Sh.int .u8))), (4, .u), (5, (.int .i64)), (10, .u), (14, .u), (25, .u)], []⟩
def Q23_0 : Nat → Ps
  | 0 => ⟨[(0, .u), (1, .u), (4, .u), (5, .u), (10, .u), (14, .u), (25, .u)], []⟩
  | _ => noPs
def u23_0 (N n : Nat) (v : P23_0.T) (κ : (i : Nat) → (Q23_0 i).T → Option (Sh.bool).T) : Option (Sh.bool).T :=
  L23_0 N (κ 0 (((), ((), ((), ((), ((), ((), ((), ()))))))), ())) n v.1.1 v.1.2.1 v.1.2.2.2.1
def W23_0 (N : Nat) : LoopF (Sh.bool).T := fun no =>
  match no with
  | _ => fun _ _ => none
theorem b23_0 (N n : Nat) (v : P23_0.T) (κ : (i : Nat) → (Q23_0 i).T → Option (Sh.bool).T) :
    evc (T23) (rawOf (RW23)) (W23_0 N) (retc k23.res Sh.bool) (modeOf FT) 0 fuelC (bodyOf (loopN k23 0)) (P23_0.st v) (roundK 0 H23_0 P23_0 Q23_0 (u23_0 N n) κ) = u23_0 N (n + 1) v κ := by kernel_rfl
theorem o23_0 (hT : TabOK FT XT (T23)) (hO : RawOK FT XT (rawOf (α := (Sh.bool).T) (RW23))) (N : Nat) {s : St} {κ : Ex → St → Option (Sh.bool).T} {a : (Sh.bool).T} (h : lpOf 0 H23_0 P23_0 Q23_0 (u23_0 N N) s κ = some a) : Out FT XT 0 (retc k23.res Sh.bool) (loopN k23 0) s κ a := by
  rw [l23_0]
  exact loop_out (LP := W23_0 N) (fu := fuelC) hT hO (fun _ _ => rfl) (b23_0 N) loopOK_nil N h
def W23 (N : Nat) : LoopF (Sh.bool).T := fun no =>
  match no with
  | 0 => lpOf 0 H23_0 P23_0 Q23_0 (u23_0 N N)
  | _ => fun _ _ => none
theorem e23 (N : Nat) (a0 : List Int) (a1 : List Int) : evc (T23) (rawOf (RW23)) (W23 N) (retc k23.res Sh.bool) (modeOf FT) 0 fuelC k23.body (env0 k23 (encL [(Sh.sl (Sh.int .u8)), (Sh.sl (Sh.int .u8))] (a0, (a1, ()))), []) (endK (retc k23.res Sh.bool)) = p23 N a0 a1 := by kernel_rfl
theorem ok23 {f : List Int → List Int → Option Bool} (hf : ∀ a0 a1 r, f a0 a1 = some r → ∃ N, p23 N a0 a1 = some r) : EntOK FT XT 23 (en23 f) := by
  have hT : TabOK FT XT (T23) := by
    intro g en hg
    unfold T23 at hg
    split at hg <;> first | (injection hg with hg; subst hg; assumption) | cases hg
  have hO : RawOK FT XT (rawOf (α := (Sh.bool).T) (RW23)) := by
    refine rawOf_ok (fun g en hg => ?_)
    unfold RW23 at hg
    split at hg <;> simp only [List.mem_cons, List.not_mem_nil, or_false] at hg <;> first | (subst hg; assumption) | (rcases hg with rfl | rfl <;> assumption) | (rcases hg with rfl | rfl | rfl <;> assumption) | (rcases hg with rfl | rfl | rfl | rfl <;> assumption)
  refine ⟨rfl, fun v r h => ?_⟩
  obtain ⟨a0, a1, _⟩ := v
  obtain ⟨N, h1⟩ := hf _ _ _ h
  exact ans_c (R := Sh.bool) (tab := T23) (raw := (rawOf (RW23))) (LP := W23 N) (fu := fuelC) hT hO rfl rfl (Nat.le_of_ble_eq_true rfl) (loopOK_cons l23_0 (fun s κ a h => o23_0 hT hO N h) loopOK_nil) ((e23 N _ _).trans h1)

def T46 (c1 : List (List Int) → Option (List Int)) : Nat → Option Ent
  | 1 => some (en1 c1)
  | _ => none
def RW46 (c1 : List (List Int) → Option (List Int)) : Nat → List REnt
  | _ => []
def W46 (c1 : List (List Int) → Option (List Int)) (N : Nat) : LoopF (List Int) := fun no =>
  match no with
  | _ => fun _ _ => none
theorem e46 (c1 : List (List Int) → Option (List Int)) (N : Nat) (a0 : List (List Int)) : evc (T46 c1) (rawOf (RW46 c1)) (W46 c1 N) (reto k46.res .u8) (modeOf FT) 0 fuelC k46.body (env0 k46 (encL [(Sh.sl (Sh.sl (Sh.int .u8)))] (a0, ())), []) (endK (reto k46.res .u8)) = p46 c1 N a0 := by kernel_rfl
theorem ok46 (c1 : List (List Int) → Option (List Int)) (h1 : EntOK FT XT 1 (en1 c1)) {f : List (List Int) → Option (List Int)} (hf : ∀ a0 r, f a0 = some r → ∃ N, p46 c1 N a0 = some r) : EntOK FT XT 46 (en46 f) := by
  have hT : TabOK FT XT (T46 c1) := by
    intro g en hg
    unfold T46 at hg
    split at hg <;> first | (injection hg with hg; subst hg; assumption) | cases hg
  have hO : RawOK FT XT (rawOf (α := List Int) (RW46 c1)) := by
    refine rawOf_ok (fun g en hg => ?_)
    unfold RW46 at hg
    split at hg <;> simp only [List.mem_cons, List.not_mem_nil, or_false] at hg <;> first | (subst hg; assumption) | (rcases hg with rfl | rfl <;> assumption) | (rcases hg with rfl | rfl | rfl <;> assumption) | (rcases hg with rfl | rfl | rfl | rfl <;> assumption)
  refine ⟨rfl, fun v r h => ?_⟩
  obtain ⟨a0, _⟩ := v
  obtain ⟨N, h1⟩ := hf _ _ h
  exact ans_o (tab := T46 c1) (raw := (rawOf (RW46 c1))) (LP := W46 c1 N) (fu := fuelC) hT hO rfl rfl (Nat.le_of_ble_eq_true rfl) loopOK_nil ((e46 c1 N _).trans h1)

def T100 : Nat → Option Ent
  | _ => none
def RW100 : Nat → List REnt
  | _ => []
def W100 (N : Nat) : LoopF (Sh.bool).T := fun no =>
  match no with
  | _ => fun _ _ => none
theorem e100 (N : Nat) (a0 : Int) (a1 : Int) (a2 : Int) : evc (T100) (rawOf (RW100)) (W100 N) (retc k100.res Sh.bool) (modeOf FT) 0 fuelC k100.body (env0 k100 (encL [(Sh.int .i64), (Sh.int .i64), (Sh.int .i64)] (a0, (a1, (a2, ())))), []) (endK (retc k100.res Sh.bool)) = p100 N a0 a1 a2 := by kernel_rfl
theorem ok100 {f : Int → Int → Int → Option Bool} (hf : ∀ a0 a1 a2 r, f a0 a1 a2 = some r → ∃ N, p100 N a0 a1 a2 = some r) : EntOK FT XT 100 (en100 f) := by
  have hT : TabOK FT XT (T100) := by
    intro g en hg
    unfold T100 at hg
    split at hg <;> first | (injection hg with hg; subst hg; assumption) | cases hg
  have hO : RawOK FT XT (rawOf (α := (Sh.bool).T) (RW100)) := by
    refine rawOf_ok (fun g en hg => ?_)
    unfold RW100 at hg
    split at hg <;> simp only [List.mem_cons, List.not_mem_nil, or_false] at hg <;> first | (subst hg; assumption) | (rcases hg with rfl | rfl <;> assumption) | (rcases hg with rfl | rfl | rfl <;> assumption) | (rcases hg with rfl | rfl | rfl | rfl <;> assumption)
  refine ⟨rfl, fun v r h => ?_⟩
  obtain ⟨a0, a1, a2, _⟩ := v
  obtain ⟨N, h1⟩ := hf _ _ _ _ h
  exact ans_c (R := Sh.bool) (tab := T100) (raw := (rawOf (RW100))) (LP := W100 N) (fu := fuelC) hT hO rfl rfl (Nat.le_of_ble_eq_true rfl) loopOK_nil ((e100 N _ _ _).trans h1)

def T120 : Nat → Option Ent
  | _ => none
def RW120 : Nat → List REnt
  | _ => []
def W120 (N : Nat) : LoopF (((Sh.tu (Sh.pr (Sh.int .u64) (Sh.int .u64)))).T) := fun no =>
  match no with
  | _ => fun _ _ => none
theorem e120 (N : Nat) (a0 : Int) (a1 : Int) : evc (T120) (rawOf (RW120)) (W120 N) (retc k120.res (Sh.tu (Sh.pr (Sh.int .u64) (Sh.int .u64)))) (modeOf FT) 0 fuelC k120.body (env0 k120 (encL [(Sh.int .u64), (Sh.int .u64)] (a0, (a1, ()))), []) (endK (retc k120.res (Sh.tu (Sh.pr (Sh.int .u64) (Sh.int .u64))))) = p120 N a0 a1 := by kernel_rfl
theorem ok120 {f : Int → Int → Option (Int × Int)} (hf : ∀ a0 a1 r, f a0 a1 = some r → ∃ N, p120 N a0 a1 = some r) : EntOK FT XT 120 (en120 f) := by
  have hT : TabOK FT XT (T120) := by
    intro g en hg
    unfold T120 at hg
    split at hg <;> first | (injection hg with hg; subst hg; assumption) | cases hg
  have hO : RawOK FT XT (rawOf (α := ((Sh.tu (Sh.pr (Sh.int .u64) (Sh.int .u64)))).T) (RW120)) := by
    refine rawOf_ok (fun g en hg => ?_)
    unfold RW120 at hg
    split at hg <;> simp only [List.mem_cons, List.not_mem_nil, or_false] at hg <;> first | (subst hg; assumption) | (rcases hg with rfl | rfl <;> assumption) | (rcases hg with rfl | rfl | rfl <;> assumption) | (rcases hg with rfl | rfl | rfl | rfl <;> assumption)
  refine ⟨rfl, fun v r h => ?_⟩
  obtain ⟨a0, a1, _⟩ := v
  obtain ⟨N, h1⟩ := hf _ _ _ h
  exact ans_c (R := (Sh.tu (Sh.pr (Sh.int .u64) (Sh.int .u64)))) (tab := T120) (raw := (rawOf (RW120))) (LP := W120 N) (fu := fuelC) hT hO rfl rfl (Nat.le_of_ble_eq_true rfl) loopOK_nil ((e120 N _ _).trans h1)

def T116 (c120 : Int → Int → Option (Int × Int)) : Nat → Option Ent
  | 120 => some (en120 c120)
  | _ => none
def RW116 (c120 : Int → Int → Option (Int × Int)) : Nat → List REnt
  | _ => []
def W116 (c120 : Int → Int → Option (Int × Int)) (N : Nat) : LoopF (Sh.bool).T := fun no =>
  match no with
  | _ => fun _ _ => none
theorem e116 (c120 : Int → Int → Option (Int × Int)) (N : Nat) (a0 : Int) (a1 : Int) (a2 : Int) : evc (T116 c120) (rawOf (RW116 c120)) (W116 c120 N) (retc k116.res Sh.bool) (modeOf FT) 0 fuelC k116.body (env0 k116 (encL [(Sh.int .u64), (Sh.int .u64), (Sh.int .i64)] (a0, (a1, (a2, ())))), []) (endK (retc k116.res Sh.bool)) = p116 c120 N a0 a1 a2 := by kernel_rfl
theorem ok116 (c120 : Int → Int → Option (Int × Int)) (h120 : EntOK FT XT 120 (en120 c120)) {f : Int → Int → Int → Option Bool} (hf : ∀ a0 a1 a2 r, f a0 a1 a2 = some r → ∃ N, p116 c120 N a0 a1 a2 = some r) : EntOK FT XT 116 (en116 f) := by
  have hT : TabOK FT XT (T116 c120) := by
    intro g en hg
    unfold T116 at hg
    split at hg <;> first | (injection hg with hg; subst hg; assumption) | cases hg
  have hO : RawOK FT XT (rawOf (α := (Sh.bool).T) (RW116 c120)) := by
    refine rawOf_ok (fun g en hg => ?_)
    unfold RW116 at hg
    split at hg <;> simp only [List.mem_cons, List.not_mem_nil, or_false] at hg <;> first | (subst hg; assumption) | (rcases hg with rfl | rfl <;> assumption) | (rcases hg with rfl | rfl | rfl <;> assumption) | (rcases hg with rfl | rfl | rfl | rfl <;> assumption)
  refine ⟨rfl, fun v r h => ?_⟩
  obtain ⟨a0, a1, a2, _⟩ := v
  obtain ⟨N, h1⟩ := hf _ _ _ _ h
  exact ans_c (R := Sh.bool) (tab := T116 c120) (raw := (rawOf (RW116 c120))) (LP := W116 c120 N) (fu := fuelC) hT hO rfl rfl (Nat.le_of_ble_eq_true rfl) loopOK_nil ((e116 c120 N _ _ _).trans h1)

def T115v0 (c116 : Int → Int → Int → Option Bool) : Nat → Option Ent
  | 116 => some (en116 c116)
  | _ => none
def RW115v0 (c116 : Int → Int → Int → Option Bool) : Nat → List REnt
  | _ => []
def W115v0 (c116 : Int → Int → Int → Option Bool) (N : Nat) : LoopF QR115v0.T := fun no =>
  match no with
  | _ => fun _ _ => none
theorem e115v0 (c116 : Int → Int → Int → Option Bool) (N : Nat) (v : PR115v0.T) : evc (T115v0 c116) (rawOf (RW115v0 c116)) (W115v0 c116 N) (retr k115.res 2 QR115v0) (modeOf FT) 2 fuelC k115.body (env0 k115 (PR115v0.a.st v.1), stH PR115v0.h v.2) (endK (retr k115.res 2 QR115v0)) = p115v0 c116 N v.1.1 v.2.1 v.2.2.1 := by kernel_rfl
theorem ok115v0 (c116 : Int → Int → Int → Option Bool) (h116 : EntOK FT XT 116 (en116 c116)) {f : Int → List Int → List Int → Option ((Bool × Unit) × ((List Int) × ((List Int) × Unit)))} (hf : ∀ a0 a1 a2 r, f a0 a1 a2 = some r → ∃ N, p115v0 c116 N a0 a1 a2 = some r) : REntOK FT XT 115 (rn115v0 f) := by
  have hT : TabOK FT XT (T115v0 c116) := by
    intro g en hg
    unfold T115v0 at hg
    split at hg <;> first | (injection hg with hg; subst hg; assumption) | cases hg
  have hO : RawOK FT XT (rawOf (α := QR115v0.T) (RW115v0 c116)) := by
    refine rawOf_ok (fun g en hg => ?_)
    unfold RW115v0 at hg
    split at hg <;> simp only [List.mem_cons, List.not_mem_nil, or_false] at hg <;> first | (subst hg; assumption) | (rcases hg with rfl | rfl <;> assumption) | (rcases hg with rfl | rfl | rfl <;> assumption) | (rcases hg with rfl | rfl | rfl | rfl <;> assumption)
  intro v r w h hw
  obtain ⟨N, h1⟩ := hf _ _ _ _ h
  exact ans_r (Q := QR115v0) (tab := T115v0 c116) (raw := (rawOf (RW115v0 c116))) (LP := W115v0 c116 N) (fu := fuelC) hT hO rfl rfl (Nat.le_of_ble_eq_true rfl) rfl loopOK_nil ((e115v0 c116 N v).trans h1) hw

def T114v0 (d115v0 : Int → List Int → List Int → Option ((Bool × Unit) × ((List Int) × ((List Int) × Unit)))) : Nat → Option Ent
  | _ => none
def RW114v0 (d115v0 : Int → List Int → List Int → Option ((Bool × Unit) × ((List Int) × ((List Int) × Unit)))) : Nat → List REnt
  | 115 => [rn115v0 d115v0]
  | _ => []
def H114v0_0 : Trim := ⟨0, [], false, [1, 5, 6], []⟩
theorem l114v0_0 : loopN k114 0 = .loop H114v0_0 (bodyOf (loopN k114 0)) := by kernel_rfl
def P114v0_0 : Ps := ⟨[(0, .u), (1, (.fn 115 (.cons (.ptr 0 0) (.cons (.ptr 1 0) .nil)))), (4, .u), (5, (.int .i64)), (6, (.int .i64)), (7, .u), (11, .u), (21, .u)], [(.ints false .i64), (.ints false .i64)]⟩
def Q114v0_0 : Nat → Ps
  | 0 => ⟨[(0, .u), (1, .u), (4, .u), (5, (.int .i64)), (6, .u), (7, .u), (11, .u), (21, .u)], [(.ints false .i64), (.ints false .i64)]⟩
  | _ => noPs
def u114v0_0 (d115v0 : Int → List Int → List Int → Option ((Bool × Unit) × ((List Int) × ((List Int) × Unit)))) (N n : Nat) (v : P114v0_0.T) (κ : (i : Nat) → (Q114v0_0 i).T → Option QR114v0.T) : Option QR114v0.T :=
  L114v0_0 d115v0 N (fun (y0 : Int) (y1 : List Int) (y2 : List Int) => κ 0 (((), ((), ((), (y0, ((), ((), ((), ((), ())))))))), (y1, (y2, ())))) n v.1.2.2.2.1 v.1.2.2.2.2.1 v.2.1 v.2.2.1
def W114v0_0 (d115v0 : Int → List Int → List Int → Option ((Bool × Unit) × ((List Int) × ((List Int) × Unit)))) (N : Nat) : LoopF QR114v0.T := fun no =>
  match no with
  | _ => fun _ _ => none
theorem b114v0_0 (d115v0 : Int → List Int → List Int → Option ((Bool × Unit) × ((List Int) × ((List Int) × Unit)))) (N n : Nat) (v : P114v0_0.T) (κ : (i : Nat) → (Q114v0_0 i).T → Option QR114v0.T) :
    evc (T114v0 d115v0) (rawOf (RW114v0 d115v0)) (W114v0_0 d115v0 N) (retr k114.res 2 QR114v0) (modeOf FT) 2 fuelC (bodyOf (loopN k114 0)) (P114v0_0.st v) (roundK 2 H114v0_0 P114v0_0 Q114v0_0 (u114v0_0 d115v0 N n) κ) = u114v0_0 d115v0 N (n + 1) v κ := by kernel_rfl
theorem o114v0_0 (d115v0 : Int → List Int → List Int → Option ((Bool × Unit) × ((List Int) × ((List Int) × Unit)))) (hT : TabOK FT XT (T114v0 d115v0)) (hO : RawOK FT XT (rawOf (α := QR114v0.T) (RW114v0 d115v0))) (N : Nat) {s : St} {κ : Ex → St → Option QR114v0.T} {a : QR114v0.T} (h : lpOf 2 H114v0_0 P114v0_0 Q114v0_0 (u114v0_0 d115v0 N N) s κ = some a) : Out FT XT 2 (retr k114.res 2 QR114v0) (loopN k114 0) s κ a := by
  rw [l114v0_0]
  exact loop_out (LP := W114v0_0 d115v0 N) (fu := fuelC) hT hO (fun _ _ => rfl) (b114v0_0 d115v0 N) loopOK_nil N h
def W114v0 (d115v0 : Int → List Int → List Int → Option ((Bool × Unit) × ((List Int) × ((List Int) × Unit)))) (N : Nat) : LoopF QR114v0.T := fun no =>
  match no with
  | 0 => lpOf 2 H114v0_0 P114v0_0 Q114v0_0 (u114v0_0 d115v0 N N)
  | _ => fun _ _ => none
theorem e114v0 (d115v0 : Int → List Int → List Int → Option ((Bool × Unit) × ((List Int) × ((List Int) × Unit)))) (N : Nat) (v : PR114v0.T) : evc (T114v0 d115v0) (rawOf (RW114v0 d115v0)) (W114v0 d115v0 N) (retr k114.res 2 QR114v0) (modeOf FT) 2 fuelC k114.body (env0 k114 (PR114v0.a.st v.1), stH PR114v0.h v.2) (endK (retr k114.res 2 QR114v0)) = p114v0 d115v0 N v.1.1 v.2.1 v.2.2.1 := by kernel_rfl
theorem ok114v0 (d115v0 : Int → List Int → List Int → Option ((Bool × Unit) × ((List Int) × ((List Int) × Unit)))) (h115v0 : REntOK FT XT 115 (rn115v0 d115v0)) {f : Int → List Int → List Int → Option ((Int × Unit) × ((List Int) × ((List Int) × Unit)))} (hf : ∀ a0 a1 a2 r, f a0 a1 a2 = some r → ∃ N, p114v0 d115v0 N a0 a1 a2 = some r) : REntOK FT XT 114 (rn114v0 f) := by
  have hT : TabOK FT XT (T114v0 d115v0) := by
    intro g en hg
    unfold T114v0 at hg
    split at hg <;> first | (injection hg with hg; subst hg; assumption) | cases hg
  have hO : RawOK FT XT (rawOf (α := QR114v0.T) (RW114v0 d115v0)) := by
    refine rawOf_ok (fun g en hg => ?_)
    unfold RW114v0 at hg
    split at hg <;> simp only [List.mem_cons, List.not_mem_nil, or_false] at hg <;> first | (subst hg; assumption) | (rcases hg with rfl | rfl <;> assumption) | (rcases hg with rfl | rfl | rfl <;> assumption) | (rcases hg with rfl | rfl | rfl | rfl <;> assumption)
  intro v r w h hw
  obtain ⟨N, h1⟩ := hf _ _ _ _ h
  exact ans_r (Q := QR114v0) (tab := T114v0 d115v0) (raw := (rawOf (RW114v0 d115v0))) (LP := W114v0 d115v0 N) (fu := fuelC) hT hO rfl rfl (Nat.le_of_ble_eq_true rfl) rfl (loopOK_cons l114v0_0 (fun s κ a h => o114v0_0 d115v0 hT hO N h) loopOK_nil) ((e114v0 d115v0 N v).trans h1) hw

def T101 (d114v0 : Int → List Int → List Int → Option ((Int × Unit) × ((List Int) × ((List Int) × Unit)))) : Nat → Option Ent
  | _ => none
def RW101 (d114v0 : Int → List Int → List Int → Option ((Int × Unit) × ((List Int) × ((List Int) × Unit)))) : Nat → List REnt
  | 114 => [rn114v0 d114v0]
  | _ => []
def W101 (d114v0 : Int → List Int → List Int → Option ((Int × Unit) × ((List Int) × ((List Int) × Unit)))) (N : Nat) : LoopF (((Sh.int .u64)).T) := fun no =>
  match no with
  | _ => fun _ _ => none
theorem e101 (d114v0 : Int → List Int → List Int → Option ((Int × Unit) × ((List Int) × ((List Int) × Unit)))) (N : Nat) (a0 : Int) (a1 : Int) : evc (T101 d114v0) (rawOf (RW101 d114v0)) (W101 d114v0 N) (retc k101.res (Sh.int .u64)) (modeOf FT) 0 fuelC k101.body (env0 k101 (encL [(Sh.int .i64), (Sh.int .i64)] (a0, (a1, ()))), []) (endK (retc k101.res (Sh.int .u64))) = p101 d114v0 N a0 a1 := by kernel_rfl
theorem ok101 (d114v0 : Int → List Int → List Int → Option ((Int × Unit) × ((List Int) × ((List Int) × Unit)))) (h114v0 : REntOK FT XT 114 (rn114v0 d114v0)) {f : Int → Int → Option Int} (hf : ∀ a0 a1 r, f a0 a1 = some r → ∃ N, p101 d114v0 N a0 a1 = some r) : EntOK FT XT 101 (en101 f) := by
  have hT : TabOK FT XT (T101 d114v0) := by
    intro g en hg
    unfold T101 at hg
    split at hg <;> first | (injection hg with hg; subst hg; assumption) | cases hg
  have hO : RawOK FT XT (rawOf (α := ((Sh.int .u64)).T) (RW101 d114v0)) := by
    refine rawOf_ok (fun g en hg => ?_)
    unfold RW101 at hg
    split at hg <;> simp only [List.mem_cons, List.not_mem_nil, or_false] at hg <;> first | (subst hg; assumption) | (rcases hg with rfl | rfl <;> assumption) | (rcases hg with rfl | rfl | rfl <;> assumption) | (rcases hg with rfl | rfl | rfl | rfl <;> assumption)
  refine ⟨rfl, fun v r h => ?_⟩
  obtain ⟨a0, a1, _⟩ := v
  obtain ⟨N, h1⟩ := hf _ _ _ h
  exact ans_c (R := (Sh.int .u64)) (tab := T101 d114v0) (raw := (rawOf (RW101 d114v0))) (LP := W101 d114v0 N) (fu := fuelC) hT hO rfl rfl (Nat.le_of_ble_eq_true rfl) loopOK_nil ((e101 d114v0 N _ _).trans h1)

def T75 (c100 : Int → Int → Int → Option Bool) (c101 : Int → Int → Option Int) : Nat → Option Ent
  | 100 => some (en100 c100)
  | 101 => some (en101 c101)
  | _ => none
def RW75 (c100 : Int → Int → Int → Option Bool) (c101 : Int → Int → Option Int) : Nat → List REnt
  | _ => []
def W75 (c100 : Int → Int → Int → Option Bool) (c101 : Int → Int → Option Int) (N : Nat) : LoopF (((Sh.tu (Sh.pr (Sh.int .u64) (Sh.int .i64)))).T) := fun no =>
  match no with
  | _ => fun _ _ => none
theorem e75 (c100 : Int → Int → Int → Option Bool) (c101 : Int → Int → Option Int) (N : Nat) (a0 : Int) (a1 : Int) (a2 : Int) : evc (T75 c100 c101) (rawOf (RW75 c100 c101)) (W75 c100 c101 N) (retc k75.res (Sh.tu (Sh.pr (Sh.int .u64) (Sh.int .i64)))) (modeOf FT) 0 fuelC k75.body (env0 k75 (encL [(Sh.int .i64), (Sh.int .i64), (Sh.int .i64)] (a0, (a1, (a2, ())))), []) (endK (retc k75.res (Sh.tu (Sh.pr (Sh.int .u64) (Sh.int .i64))))) = p75 c100 c101 N a0 a1 a2 := by kernel_rfl
theorem ok75 (c100 : Int → Int → Int → Option Bool) (c101 : Int → Int → Option Int) (h100 : EntOK FT XT 100 (en100 c100)) (h101 : EntOK FT XT 101 (en101 c101)) {f : Int → Int → Int → Option (Int × Int)} (hf : ∀ a0 a1 a2 r, f a0 a1 a2 = some r → ∃ N, p75 c100 c101 N a0 a1 a2 = some r) : EntOK FT XT 75 (en75 f) := by
  have hT : TabOK FT XT (T75 c100 c101) := by
    intro g en hg
    unfold T75 at hg
    split at hg <;> first | (injection hg with hg; subst hg; assumption) | cases hg
  have hO : RawOK FT XT (rawOf (α := ((Sh.tu (Sh.pr (Sh.int .u64) (Sh.int .i64)))).T) (RW75 c100 c101)) := by
    refine rawOf_ok (fun g en hg => ?_)
    unfold RW75 at hg
    split at hg <;> simp only [List.mem_cons, List.not_mem_nil, or_false] at hg <;> first | (subst hg; assumption) | (rcases hg with rfl | rfl <;> assumption) | (rcases hg with rfl | rfl | rfl <;> assumption) | (rcases hg with rfl | rfl | rfl | rfl <;> assumption)
  refine ⟨rfl, fun v r h => ?_⟩
  obtain ⟨a0, a1, a2, _⟩ := v
  obtain ⟨N, h1⟩ := hf _ _ _ _ h
  exact ans_c (R := (Sh.tu (Sh.pr (Sh.int .u64) (Sh.int .i64)))) (tab := T75 c100 c101) (raw := (rawOf (RW75 c100 c101))) (LP := W75 c100 c101 N) (fu := fuelC) hT hO rfl rfl (Nat.le_of_ble_eq_true rfl) loopOK_nil ((e75 c100 c101 N _ _ _).trans h1)

def T192 (c21 : List Int → Bool → Option (Int × Int)) : Nat → Option Ent
  | 21 => some (en21 c21)
  | _ => none
def RW192 (c21 : List Int → Bool → Option (Int × Int)) : Nat → List REnt
  | _ => []
def H192_0 : Trim := ⟨0, [], false, [1, 2, 3, 7], []⟩
theorem l192_0 : loopN k192 0 = .loop H192_0 (bodyOf (loopN k192 0)) := by kernel_rfl
def P192_0 : Ps := ⟨[(0, .u), (1, (.ptr 0 0)), (2, (.ptr 1 0)), (3, (.ptr 2 0)), (4, .u), (5, .u), (7, (.int .i64)), (8, .u)], [(.ints false .u8), (.ints false .u32), (.ints false .u32)]⟩
def Q192_0 : Nat → Ps
  | 0 => ⟨[(0, .u), (1, .u), (2, (.ptr 0 0)), (3, (.ptr 1 0)), (4, .u), (5, .u), (7, .u), (8, .u)], [(.ints false .u32), (.ints false .u32)]⟩
  | _ => noPs
def u192_0 (c21 : List Int → Bool → Option (Int × Int)) (N n : Nat) (v : P192_0.T) (κ : (i : Nat) → (Q192_0 i).T → Option (((Sh.ar .u32)).T)) : Option (((Sh.ar .u32)).T) :=
  L192_0 c21 N (fun (y0 : List Int) (y1 : List Int) => κ 0 (((), ((), ((), ((), ((), ((), ((), ((), ())))))))), (y0, (y1, ())))) n v.1.2.2.2.2.2.2.1 v.2.1 v.2.2.1 v.2.2.2.1
def W192_0 (c21 : List Int → Bool → Option (Int × Int)) (N : Nat) : LoopF (((Sh.ar .u32)).T) := fun no =>
  match no with
  | _ => fun _ _ => none
theorem b192_0 (c21 : List Int → Bool → Option (Int × Int)) (N n : Nat) (v : P192_0.T) (κ : (i : Nat) → (Q192_0 i).T → Option (((Sh.ar .u32)).T)) :
    evc (T192 c21) (rawOf (RW192 c21)) (W192_0 c21 N) (retc k192.res (Sh.ar .u32)) (modeOf FT) 0 fuelC (bodyOf (loopN k192 0)) (P192_0.st v) (roundK 0 H192_0 P192_0 Q192_0 (u192_0 c21 N n) κ) = u192_0 c21 N (n + 1) v κ := by kernel_rfl
theorem o192_0 (c21 : List Int → Bool → Option (Int × Int)) (hT : TabOK FT XT (T192 c21)) (hO : RawOK FT XT (rawOf (α := ((Sh.ar .u32)).T) (RW192 c21))) (N : Nat) {s : St} {κ : Ex → St → Option (((Sh.ar .u32)).T)} {a : ((Sh.ar .u32)).T} (h : lpOf 0 H192_0 P192_0 Q192_0 (u192_0 c21 N N) s κ = some a) : Out FT XT 0 (retc k192.res (Sh.ar .u32)) (loopN k192 0) s κ a := by
  rw [l192_0]
  exact loop_out (LP := W192_0 c21 N) (fu := fuelC) hT hO (fun _ _ => rfl) (b192_0 c21 N) loopOK_nil N h
def W192 (c21 : List Int → Bool → Option (Int × Int)) (N : Nat) : LoopF (((Sh.ar .u32)).T) := fun no =>
  match no with
  | 0 => lpOf 0 H192_0 P192_0 Q192_0 (u192_0 c21 N N)
  | _ => fun _ _ => none
theorem e192 (c21 : List Int → Bool → Option (Int × Int)) (N : Nat) (a0 : List Int) : evc (T192 c21) (rawOf (RW192 c21)) (W192 c21 N) (retc k192.res (Sh.ar .u32)) (modeOf FT) 0 fuelC k192.body (env0 k192 (encL [(Sh.ar .u8)] (a0, ())), []) (endK (retc k192.res (Sh.ar .u32))) = p192 c21 N a0 := by kernel_rfl
theorem ok192 (c21 : List Int → Bool → Option (Int × Int)) (h21 : EntOK FT XT 21 (en21 c21)) {f : List Int → Option (List Int)} (hf : ∀ a0 r, f a0 = some r → ∃ N, p192 c21 N a0 = some r) : EntOK FT XT 192 (en192 f) := by
  have hT : TabOK FT XT (T192 c21) := by
    intro g en hg
    unfold T192 at hg
    split at hg <;> first | (injection hg with hg; subst hg; assumption) | cases hg
  have hO : RawOK FT XT (rawOf (α := ((Sh.ar .u32)).T) (RW192 c21)) := by
    refine rawOf_ok (fun g en hg => ?_)
    unfold RW192 at hg
    split at hg <;> simp only [List.mem_cons, List.not_mem_nil, or_false] at hg <;> first | (subst hg; assumption) | (rcases hg with rfl | rfl <;> assumption) | (rcases hg with rfl | rfl | rfl <;> assumption) | (rcases hg with rfl | rfl | rfl | rfl <;> assumption)
  refine ⟨rfl, fun v r h => ?_⟩
  obtain ⟨a0, _⟩ := v
  obtain ⟨N, h1⟩ := hf _ _ h
  exact ans_c (R := (Sh.ar .u32)) (tab := T192 c21) (raw := (rawOf (RW192 c21))) (LP := W192 c21 N) (fu := fuelC) hT hO rfl rfl (Nat.le_of_ble_eq_true rfl) (loopOK_cons l192_0 (fun s κ a h => o192_0 c21 hT hO N h) loopOK_nil) ((e192 c21 N _).trans h1)

def T193v0 (c75 : Int → Int → Int → Option (Int × Int)) : Nat → Option Ent
  | 75 => some (en75 c75)
  | _ => none
def RW193v0 (c75 : Int → Int → Int → Option (Int × Int)) : Nat → List REnt
  | _ => []
def W193v0 (c75 : Int → Int → Int → Option (Int × Int)) (N : Nat) : LoopF QR193v0.T := fun no =>
  match no with
  | _ => fun _ _ => none
theorem e193v0 (c75 : Int → Int → Int → Option (Int × Int)) (N : Nat) (v : PR193v0.T) : evc (T193v0 c75) (rawOf (RW193v0 c75)) (W193v0 c75 N) (retr k193.res 0 QR193v0) (modeOf FT) 0 fuelC k193.body (env0 k193 (PR193v0.a.st v.1), stH PR193v0.h v.2) (endK (retr k193.res 0 QR193v0)) = p193v0 c75 N  := by kernel_rfl
theorem ok193v0 (c75 : Int → Int → Int → Option (Int × Int)) (h75 : EntOK FT XT 75 (en75 c75)) {f : Option (((Int × (Int × (Int × (Int × (Int × (Int × (Int × (Int × (Int × (Int × (Int × (Int × (Int × (Int × (Int × (Int × (Int × (Int × (Int × (Int × (Int × (Int × (Int × (Int × (Int × (Int × (Int × (Int × (Int × (Int × (Int × (Int × (Int × (Int × (Int × (Int × (Int × (Int × (Int × (Int × (Int × (Int × (Int × (Int × (Int × (Int × (Int × (Int × (Int × (Int × (Int × (Int × (Int × (Int × (Int × (Int × (Int × (Int × (Int × (Int × (Int × (Int × (Int × Unit))))))))))))))))))))))))))))))))))))))))))))))))))))))))))))))) × Unit) × Unit)} (hf : ∀  r, f  = some r → ∃ N, p193v0 c75 N  = some r) : REntOK FT XT 193 (rn193v0 f) := by
  have hT : TabOK FT XT (T193v0 c75) := by
    intro g en hg
    unfold T193v0 at hg
    split at hg <;> first | (injection hg with hg; subst hg; assumption) | cases hg
  have hO : RawOK FT XT (rawOf (α := QR193v0.T) (RW193v0 c75)) := by
    refine rawOf_ok (fun g en hg => ?_)
    unfold RW193v0 at hg
    split at hg <;> simp only [List.mem_cons, List.not_mem_nil, or_false] at hg <;> first | (subst hg; assumption) | (rcases hg with rfl | rfl <;> assumption) | (rcases hg with rfl | rfl | rfl <;> assumption) | (rcases hg with rfl | rfl | rfl | rfl <;> assumption)
  intro v r w h hw
  obtain ⟨N, h1⟩ := hf  _ h
  exact ans_r (Q := QR193v0) (tab := T193v0 c75) (raw := (rawOf (RW193v0 c75))) (LP := W193v0 c75 N) (fu := fuelC) hT hO rfl rfl (Nat.le_of_ble_eq_true rfl) rfl loopOK_nil ((e193v0 c75 N v).trans h1) hw

def T194 : Nat → Option Ent
  | _ => none
def RW194 : Nat → List REnt
  | _ => []
def W194 (N : Nat) : LoopF (((Sh.int .u32)).T) := fun no =>
  match no with
  | _ => fun _ _ => none
theorem e194 (N : Nat) (a0 : Int) (a1 : Int) (a2 : Int) (a3 : Int) : evc (T194) (rawOf (RW194)) (W194 N) (retc k194.res (Sh.int .u32)) (modeOf FT) 0 fuelC k194.body (env0 k194 (encL [(Sh.int .i64), (Sh.int .u32), (Sh.int .u32), (Sh.int .u32)] (a0, (a1, (a2, (a3, ()))))), []) (endK (retc k194.res (Sh.int .u32))) = p194 N a0 a1 a2 a3 := by kernel_rfl
theorem ok194 {f : Int → Int → Int → Int → Option Int} (hf : ∀ a0 a1 a2 a3 r, f a0 a1 a2 a3 = some r → ∃ N, p194 N a0 a1 a2 a3 = some r) : EntOK FT XT 194 (en194 f) := by
  have hT : TabOK FT XT (T194) := by
    intro g en hg
    unfold T194 at hg
    split at hg <;> first | (injection hg with hg; subst hg; assumption) | cases hg
  have hO : RawOK FT XT (rawOf (α := ((Sh.int .u32)).T) (RW194)) := by
    refine rawOf_ok (fun g en hg => ?_)
    unfold RW194 at hg
    split at hg <;> simp only [List.mem_cons, List.not_mem_nil, or_false] at hg <;> first | (subst hg; assumption) | (rcases hg with rfl | rfl <;> assumption) | (rcases hg with rfl | rfl | rfl <;> assumption) | (rcases hg with rfl | rfl | rfl | rfl <;> assumption)
  refine ⟨rfl, fun v r h => ?_⟩
  obtain ⟨a0, a1, a2, a3, _⟩ := v
  obtain ⟨N, h1⟩ := hf _ _ _ _ _ h
  exact ans_c (R := (Sh.int .u32)) (tab := T194) (raw := (rawOf (RW194))) (LP := W194 N) (fu := fuelC) hT hO rfl rfl (Nat.le_of_ble_eq_true rfl) loopOK_nil ((e194 N _ _ _ _).trans h1)

def T195 : Nat → Option Ent
  | _ => none
def RW195 : Nat → List REnt
  | _ => []
def W195 (N : Nat) : LoopF (((Sh.int .u32)).T) := fun no =>
  match no with
  | _ => fun _ _ => none
theorem e195 (N : Nat) (a0 : Int) (a1 : Int) : evc (T195) (rawOf (RW195)) (W195 N) (retc k195.res (Sh.int .u32)) (modeOf FT) 0 fuelC k195.body (env0 k195 (encL [(Sh.int .u32), (Sh.int .i64)] (a0, (a1, ()))), []) (endK (retc k195.res (Sh.int .u32))) = p195 N a0 a1 := by kernel_rfl
theorem ok195 {f : Int → Int → Option Int} (hf : ∀ a0 a1 r, f a0 a1 = some r → ∃ N, p195 N a0 a1 = some r) : EntOK FT XT 195 (en195 f) := by
  have hT : TabOK FT XT (T195) := by
    intro g en hg
    unfold T195 at hg
    split at hg <;> first | (injection hg with hg; subst hg; assumption) | cases hg
  have hO : RawOK FT XT (rawOf (α := ((Sh.int .u32)).T) (RW195)) := by
    refine rawOf_ok (fun g en hg => ?_)
    unfold RW195 at hg
    split at hg <;> simp only [List.mem_cons, List.not_mem_nil, or_false] at hg <;> first | (subst hg; assumption) | (rcases hg with rfl | rfl <;> assumption) | (rcases hg with rfl | rfl | rfl <;> assumption) | (rcases hg with rfl | rfl | rfl | rfl <;> assumption)
  refine ⟨rfl, fun v r h => ?_⟩
  obtain ⟨a0, a1, _⟩ := v
  obtain ⟨N, h1⟩ := hf _ _ _ h
  exact ans_c (R := (Sh.int .u32)) (tab := T195) (raw := (rawOf (RW195))) (LP := W195 N) (fu := fuelC) hT hO rfl rfl (Nat.le_of_ble_eq_true rfl) loopOK_nil ((e195 N _ _).trans h1)

def T174 (c192 : List Int → Option (List Int)) (d193v0 : Option (((Int × (Int × (Int × (Int × (Int × (Int × (Int × (Int × (Int × (Int × (Int × (Int × (Int × (Int × (Int × (Int × (Int × (Int × (Int × (Int × (Int × (Int × (Int × (Int × (Int × (Int × (Int × (Int × (Int × (Int × (Int × (Int × (Int × (Int × (Int × (Int × (Int × (Int × (Int × (Int × (Int × (Int × (Int × (Int × (Int × (Int × (Int × (Int × (Int × (Int × (Int × (Int × (Int × (Int × (Int × (Int × (Int × (Int × (Int × (Int × (Int × (Int × (Int × Unit))))))))))))))))))))))))))))))))))))))))))))))))))))))))))))))) × Unit) × Unit)) (c194 : Int → Int → Int → Int → Option Int) (c195 : Int → Int → Option Int) : Nat → Option Ent
  | 192 => some (en192 c192)
  | 194 => some (en194 c194)
  | 195 => some (en195 c195)
  | _ => none
def RW174 (c192 : List Int → Option (List Int)) (d193v0 : Option (((Int × (Int × (Int × (Int × (Int × (Int × (Int × (Int × (Int × (Int × (Int × (Int × (Int × (Int × (Int × (Int × (Int × (Int × (Int × (Int × (Int × (Int × (Int × (Int × (Int × (Int × (Int × (Int × (Int × (Int × (Int × (Int × (Int × (Int × (Int × (Int × (Int × (Int × (Int × (Int × (Int × (Int × (Int × (Int × (Int × (Int × (Int × (Int × (Int × (Int × (Int × (Int × (Int × (Int × (Int × (Int × (Int × (Int × (Int × (Int × (Int × (Int × (Int × Unit))))))))))))))))))))))))))))))))))))))))))))))))))))))))))))))) × Unit) × Unit)) (c194 : Int → Int → Int → Int → Option Int) (c195 : Int → Int → Option Int) : Nat → List REnt
  | 193 => [rn193v0 d193v0]
  | _ => []
def H174_2 : Trim := ⟨2, [], false, [2, 4, 6, 61], []⟩
theorem l174_2 : loopN k174 2 = .loop H174_2 (bodyOf (loopN k174 2)) := by kernel_rfl
def P174_2 : Ps := ⟨[(0, .u), (1, .u), (2, (.ptr 0 0)), (3, .u), (4, (.ptr 1 0)), (5, .u), (6, (.ptr 2 0)), (7, .u), (8, .u), (9, .u), (10, .u), (11, .u), (12, .u), (16, .u), (17, .u), (18, .u), (22, .u), (23, .u), (24, .u), (61, (.int .i64)), (62, .u)], [(.ints false .u32), (.ints false .u32), (.ints false .u32)]⟩
def Q174_2 : Nat → Ps
  | 4 => ⟨[(0, .u), (1, .u), (2, .u), (3, .u), (4, (.ptr 0 0)), (5, .u), (6, (.ptr 1 0)), (7, .u), (8, .u), (9, .u), (10, .u), (11, .u), (12, .u), (16, .u), (17, .u), (18, .u), (22, .u), (23, .u), (24, .u), (61, .u), (62, .u)], [(.ints false .u32), (.ints false .u32)]⟩
  | _ => noPs
def u174_2 (c192 : List Int → Option (List Int)) (d193v0 : Option (((Int × (Int × (Int × (Int × (Int × (Int × (Int × (Int × (Int × (Int × (Int × (Int × (Int × (Int × (Int × (Int × (Int × (Int × (Int × (Int × (Int × (Int × (Int × (Int × (Int × (Int × (Int × (Int × (Int × (Int × (Int × (Int × (Int × (Int × (Int × (Int × (Int × (Int × (Int × (Int × (Int × (Int × (Int × (Int × (Int × (Int × (Int × (Int × (Int × (Int × (Int × (Int × (Int × (Int × (Int × (Int × (Int × (Int × (Int × (Int × (Int × (Int × (Int × Unit))))))))))))))))))))))))))))))))))))))))))))))))))))))))))))))) × Unit) × Unit)) (c194 : Int → Int → Int → Int → Option Int) (c195 : Int → Int → Option Int) (N n : Nat) (v : P174_2.T) (κ : (i : Nat) → (Q174_2 i).T → Option (((Sh.ar .u32)).T)) : Option (((Sh.ar .u32)).T) :=
  L174_2 c192 d193v0 c194 c195 N (fun (y0 : List Int) (y1 : List Int) => κ 4 (((), ((), ((), ((), ((), ((), ((), ((), ((), ((), ((), ((), ((), ((), ((), ((), ((), ((), ((), ((), ((), ()))))))))))))))))))))), (y0, (y1, ())))) n v.1.2.2.2.2.2.2.2.2.2.2.2.2.2.2.2.2.2.2.2.1 v.2.1 v.2.2.1 v.2.2.2.1
def W174_2 (c192 : List Int → Option (List Int)) (d193v0 : Option (((Int × (Int × (Int × (Int × (Int × (Int × (Int × (Int × (Int × (Int × (Int × (Int × (Int × (Int × (Int × (Int × (Int × (Int × (Int × (Int × (Int × (Int × (Int × (Int × (Int × (Int × (Int × (Int × (Int × (Int × (Int × (Int × (Int × (Int × (Int × (Int × (Int × (Int × (Int × (Int × (Int × (Int × (Int × (Int × (Int × (Int × (Int × (Int × (Int × (Int × (Int × (Int × (Int × (Int × (Int × (Int × (Int × (Int × (Int × (Int × (Int × (Int × (Int × Unit))))))))))))))))))))))))))))))))))))))))))))))))))))))))))))))) × Unit) × Unit)) (c194 : Int → Int → Int → Int → Option Int) (c195 : Int → Int → Option Int) (N : Nat) : LoopF (((Sh.ar .u32)).T) := fun no =>
  match no with
  | _ => fun _ _ => none
theorem b174_2 (c192 : List Int → Option (List Int)) (d193v0 : Option (((Int × (Int × (Int × (Int × (Int × (Int × (Int × (Int × (Int × (Int × (Int × (Int × (Int × (Int × (Int × (Int × (Int × (Int × (Int × (Int × (Int × (Int × (Int × (Int × (Int × (Int × (Int × (Int × (Int × (Int × (Int × (Int × (Int × (Int × (Int × (Int × (Int × (Int × (Int × (Int × (Int × (Int × (Int × (Int × (Int × (Int × (Int × (Int × (Int × (Int × (Int × (Int × (Int × (Int × (Int × (Int × (Int × (Int × (Int × (Int × (Int × (Int × (Int × Unit))))))))))))))))))))))))))))))))))))))))))))))))))))))))))))))) × Unit) × Unit)) (c194 : Int → Int → Int → Int → Option Int) (c195 : Int → Int → Option Int) (N n : Nat) (v : P174_2.T) (κ : (i : Nat) → (Q174_2 i).T → Option (((Sh.ar .u32)).T)) :
    evc (T174 c192 d193v0 c194 c195) (rawOf (RW174 c192 d193v0 c194 c195)) (W174_2 c192 d193v0 c194 c195 N) (retc k174.res (Sh.ar .u32)) (modeOf FT) 0 fuelC (bodyOf (loopN k174 2)) (P174_2.st v) (roundK 0 H174_2 P174_2 Q174_2 (u174_2 c192 d193v0 c194 c195 N n) κ) = u174_2 c192 d193v0 c194 c195 N (n + 1) v κ := by kernel_rfl
theorem o174_2 (c192 : List Int → Option (List Int)) (d193v0 : Option (((Int × (Int × (Int × (Int × (Int × (Int × (Int × (Int × (Int × (Int × (Int × (Int × (Int × (Int × (Int × (Int × (Int × (Int × (Int × (Int × (Int × (Int × (Int × (Int × (Int × (Int × (Int × (Int × (Int × (Int × (Int × (Int × (Int × (Int × (Int × (Int × (Int × (Int × (Int × (Int × (Int × (Int × (Int × (Int × (Int × (Int × (Int × (Int × (Int × (Int × (Int × (Int × (Int × (Int × (Int × (Int × (Int × (Int × (Int × (Int × (Int × (Int × (Int × Unit))))))))))))))))))))))))))))))))))))))))))))))))))))))))))))))) × Unit) × Unit)) (c194 : Int → Int → Int → Int → Option Int) (c195 : Int → Int → Option Int) (hT : TabOK FT XT (T174 c192 d193v0 c194 c195)) (hO : RawOK FT XT (rawOf (α := ((Sh.ar .u32)).T) (RW174 c192 d193v0 c194 c195))) (N : Nat) {s : St} {κ : Ex → St → Option (((Sh.ar .u32)).T)} {a : ((Sh.ar .u32)).T} (h : lpOf 0 H174_2 P174_2 Q174_2 (u174_2 c192 d193v0 c194 c195 N N) s κ = some a) : Out FT XT 0 (retc k174.res (Sh.ar .u32)) (loopN k174 2) s κ a := by
  rw [l174_2]
  exact loop_out (LP := W174_2 c192 d193v0 c194 c195 N) (fu := fuelC) hT hO (fun _ _ => rfl) (b174_2 c192 d193v0 c194 c195 N) loopOK_nil N h
def H174_1 : Trim := ⟨1, [], false, [2, 4, 5, 6, 7, 8, 16, 17, 22, 23], []⟩
theorem l174_1 : loopN k174 1 = .loop H174_1 (bodyOf (loopN k174 1)) := by kernel_rfl
def P174_1 : Ps := ⟨[(0, .u), (1, .u), (2, (.ptr 0 0)), (3, .u), (4, (.ptr 1 0)), (5, (.ptr 2 0)), (6, (.ptr 3 0)), (7, (.int .i64)), (8, (.ptr 4 0)), (9, .u), (10, .u), (11, .u), (12, .u), (16, (.vs (.cons (.int .u32) (.cons (.int .i64) (.cons (.int .i64) (.cons (.int .i64) (.cons (.int .i64) (.cons (.int .i64) (.cons (.int .i64) (.cons (.int .i64) (.cons (.int .i64) (.cons (.int .i64) (.cons (.int .i64) (.cons (.int .i64) (.cons (.int .i64) (.cons (.int .i64) (.cons (.int .i64) (.cons (.int .i64) (.cons (.int .i64) (.cons (.int .i64) (.cons (.int .i64) (.cons (.int .i64) (.cons (.int .i64) (.cons (.int .u32) (.cons (.int .i64) (.cons (.int .i64) (.cons (.int .i64) (.cons (.int .i64) (.cons (.int .i64) (.cons (.int .i64) (.cons (.int .i64) (.cons (.int .i64) (.cons (.int .i64) (.cons (.int .i64) (.cons (.int .i64) (.cons (.int .i64) (.cons (.int .i64) (.cons (.int .i64) (.cons (.int .i64) (.cons (.int .i64) (.cons (.int .i64) (.cons (.int .i64) (.cons (.int .i64) (.cons (.int .i64) (.cons (.int .u32) (.cons (.int .i64) (.cons (.int .i64) (.cons (.int .i64) (.cons (.int .i64) (.cons (.int .i64) (.cons (.int .i64) (.cons (.int .i64) (.cons (.int .i64) (.cons (.int .i64) (.cons (.int .i64) (.cons (.int .i64) (.cons (.int .i64) (.cons (.int .i64) (.cons (.int .i64) (.cons (.int .i64) (.cons (.int .i64) (.cons (.int .i64) (.cons (.int .i64) (.cons (.int .i64) (.cons (.int .i64) .nil))))))))))))))))))))))))))))))))))))))))))))))))))))))))))))))))), (17, (.int .i64)), (18, .u), (22, (.ar .i64)), (23, (.int .i64)), (24, .u), (61, .u), (62, .u)], [(.ints false .u32), (.ints false .u32), (.ints false .u32), (.ints false .u32), (.vals false (.cons (.int .u32) (.cons (.int .i64) (.cons (.int .i64) (.cons (.int .i64) (.cons (.int .i64) (.cons (.int .i64) (.cons (.int .i64) (.cons (.int .i64) (.cons (.int .i64) (.cons (.int .i64) (.cons (.int .i64) (.cons (.int .i64) (.cons (.int .i64) (.cons (.int .i64) (.cons (.int .i64) (.cons (.int .i64) (.cons (.int .i64) (.cons (.int .i64) (.cons (.int .i64) (.cons (.int .i64) (.cons (.int .i64) .nil))))))))))))))))))))))]⟩
def Q174_1 : Nat → Ps
  | 2 => ⟨[(0, .u), (1, .u), (2, (.ptr 0 0)), (3, .u), (4, (.ptr 1 0)), (5, (.ptr 2 0)), (6, (.ptr 3 0)), (7, .u), (8, .u), (9, .u), (10, .u), (11, .u), (12, .u), (16, (.vs (.cons (.int .u32) (.cons (.int .i64) (.cons (.int .i64) (.cons (.int .i64) (.cons (.int .i64) (.cons (.int .i64) (.cons (.int .i64) (.cons (.int .i64) (.cons (.int .i64) (.cons (.int .i64) (.cons (.int .i64) (.cons (.int .i64) (.cons (.int .i64) (.cons (.int .i64) (.cons (.int .i64) (.cons (.int .i64) (.cons (.int .i64) (.cons (.int .i64) (.cons (.int .i64) (.cons (.int .i64) (.cons (.int .i64) (.cons (.int .u32) (.cons (.int .i64) (.cons (.int .i64) (.cons (.int .i64) (.cons (.int .i64) (.cons (.int .i64) (.cons (.int .i64) (.cons (.int .i64) (.cons (.int .i64) (.cons (.int .i64) (.cons (.int .i64) (.cons (.int .i64) (.cons (.int .i64) (.cons (.int .i64) (.cons (.int .i64) (.cons (.int .i64) (.cons (.int .i64) (.cons (.int .i64) (.cons (.int .i64) (.cons (.int .i64) (.cons (.int .i64) (.cons (.int .u32) (.cons (.int .i64) (.cons (.int .i64) (.cons (.int .i64) (.cons (.int .i64) (.cons (.int .i64) (.cons (.int .i64) (.cons (.int .i64) (.cons (.int .i64) (.cons (.int .i64) (.cons (.int .i64) (.cons (.int .i64) (.cons (.int .i64) (.cons (.int .i64) (.cons (.int .i64) (.cons (.int .i64) (.cons (.int .i64) (.cons (.int .i64) (.cons (.int .i64) (.cons (.int .i64) (.cons (.int .i64) .nil))))))))))))))))))))))))))))))))))))))))))))))))))))))))))))))))), (17, (.int .i64)), (18, .u), (22, .u), (23, .u), (24, .u), (61, .u), (62, .u)], [(.ints false .u32), (.ints false .u32), (.ints false .u32), (.ints false .u32)]⟩
  | _ => noPs
def u174_1 (c192 : List Int → Option (List Int)) (d193v0 : Option (((Int × (Int × (Int × (Int × (Int × (Int × (Int × (Int × (Int × (Int × (Int × (Int × (Int × (Int × (Int × (Int × (Int × (Int × (Int × (Int × (Int × (Int × (Int × (Int × (Int × (Int × (Int × (Int × (Int × (Int × (Int × (Int × (Int × (Int × (Int × (Int × (Int × (Int × (Int × (Int × (Int × (Int × (Int × (Int × (Int × (Int × (Int × (Int × (Int × (Int × (Int × (Int × (Int × (Int × (Int × (Int × (Int × (Int × (Int × (Int × (Int × (Int × (Int × Unit))))))))))))))))))))))))))))))))))))))))))))))))))))))))))))))) × Unit) × Unit)) (c194 : Int → Int → Int → Int → Option Int) (c195 : Int → Int → Option Int) (N n : Nat) (v : P174_1.T) (κ : (i : Nat) → (Q174_1 i).T → Option (((Sh.ar .u32)).T)) : Option (((Sh.ar .u32)).T) :=
  L174_1 c192 d193v0 c194 c195 N (fun (y0 : Int) (y1 : Int) (y2 : Int) (y3 : Int) (y4 : Int) (y5 : Int) (y6 : Int) (y7 : Int) (y8 : Int) (y9 : Int) (y10 : Int) (y11 : Int) (y12 : Int) (y13 : Int) (y14 : Int) (y15 : Int) (y16 : Int) (y17 : Int) (y18 : Int) (y19 : Int) (y20 : Int) (y21 : Int) (y22 : Int) (y23 : Int) (y24 : Int) (y25 : Int) (y26 : Int) (y27 : Int) (y28 : Int) (y29 : Int) (y30 : Int) (y31 : Int) (y32 : Int) (y33 : Int) (y34 : Int) (y35 : Int) (y36 : Int) (y37 : Int) (y38 : Int) (y39 : Int) (y40 : Int) (y41 : Int) (y42 : Int) (y43 : Int) (y44 : Int) (y45 : Int) (y46 : Int) (y47 : Int) (y48 : Int) (y49 : Int) (y50 : Int) (y51 : Int) (y52 : Int) (y53 : Int) (y54 : Int) (y55 : Int) (y56 : Int) (y57 : Int) (y58 : Int) (y59 : Int) (y60 : Int) (y61 : Int) (y62 : Int) (y63 : Int) (y64 : List Int) (y65 : List Int) (y66 : List Int) (y67 : List Int) => κ 2 (((), ((), ((), ((), ((), ((), ((), ((), ((), ((), ((), ((), ((), ((y0, (y1, (y2, (y3, (y4, (y5, (y6, (y7, (y8, (y9, (y10, (y11, (y12, (y13, (y14, (y15, (y16, (y17, (y18, (y19, (y20, (y21, (y22, (y23, (y24, (y25, (y26, (y27, (y28, (y29, (y30, (y31, (y32, (y33, (y34, (y35, (y36, (y37, (y38, (y39, (y40, (y41, (y42, (y43, (y44, (y45, (y46, (y47, (y48, (y49, (y50, (y51, (y52, (y53, (y54, (y55, (y56, (y57, (y58, (y59, (y60, (y61, (y62, ()))))))))))))))))))))))))))))))))))))))))))))))))))))))))))))))), (y63, ((), ((), ((), ((), ((), ((), ()))))))))))))))))))))), (y64, (y65, (y66, (y67, ())))))) n v.1.2.2.2.2.2.2.2.1 v.1.2.2.2.2.2.2.2.2.2.2.2.2.2.1.1 v.1.2.2.2.2.2.2.2.2.2.2.2.2.2.1.2.1 v.1.2.2.2.2.2.2.2.2.2.2.2.2.2.1.2.2.1 v.1.2.2.2.2.2.2.2.2.2.2.2.2.2.1.2.2.2.1 v.1.2.2.2.2.2.2.2.2.2.2.2.2.2.1.2.2.2.2.1 v.1.2.2.2.2.2.2.2.2.2.2.2.2.2.1.2.2.2.2.2.1 v.1.2.2.2.2.2.2.2.2.2.2.2.2.2.1.2.2.2.2.2.2.1 v.1.2.2.2.2.2.2.2.2.2.2.2.2.2.1.2.2.2.2.2.2.2.1 v.1.2.2.2.2.2.2.2.2.2.2.2.2.2.1.2.2.2.2.2.2.2.2.1 v.1.2.2.2.2.2.2.2.2.2.2.2.2.2.1.2.2.2.2.2.2.2.2.2.1 v.1.2.2.2.2.2.2.2.2.2.2.2.2.2.1.2.2.2.2.2.2.2.2.2.2.1 v.1.2.2.2.2.2.2.2.2.2.2.2.2.2.1.2.2.2.2.2.2.2.2.2.2.2.1 v.1.2.2.2.2.2.2.2.2.2.2.2.2.2.1.2.2.2.2.2.2.2.2.2.2.2.2.1 v.1.2.2.2.2.2.2.2.2.2.2.2.2.2.1.2.2.2.2.2.2.2.2.2.2.2.2.2.1 v.1.2.2.2.2.2.2.2.2.2.2.2.2.2.1.2.2.2.2.2.2.2.2.2.2.2.2.2.2.1 v.1.2.2.2.2.2.2.2.2.2.2.2.2.2.1.2.2.2.2.2.2.2.2.2.2.2.2.2.2.2.1 v.1.2.2.2.2.2.2.2.2.2.2.2.2.2.1.2.2.2.2.2.2.2.2.2.2.2.2.2.2.2.2.1 v.1.2.2.2.2.2.2.2.2.2.2.2.2.2.1.2.2.2.2.2.2.2.2.2.2.2.2.2.2.2.2.2.1 v.1.2.2.2.2.2.2.2.2.2.2.2.2.2.1.2.2.2.2.2.2.2.2.2.2.2.2.2.2.2.2.2.2.1 v.1.2.2.2.2.2.2.2.2.2.2.2.2.2.1.2.2.2.2.2.2.2.2.2.2.2.2.2.2.2.2.2.2.2.1 v.1.2.2.2.2.2.2.2.2.2.2.2.2.2.1.2.2.2.2.2.2.2.2.2.2.2.2.2.2.2.2.2.2.2.2.1 v.1.2.2.2.2.2.2.2.2.2.2.2.2.2.1.2.2.2.2.2.2.2.2.2.2.2.2.2.2.2.2.2.2.2.2.2.1 v.1.2.2.2.2.2.2.2.2.2.2.2.2.2.1.2.2.2.2.2.2.2.2.2.2.2.2.2.2.2.2.2.2.2.2.2.2.1 v.1.2.2.2.2.2.2.2.2.2.2.2.2.2.1.2.2.2.2.2.2.2.2.2.2.2.2.2.2.2.2.2.2.2.2.2.2.2.1 v.1.2.2.2.2.2.2.2.2.2.2.2.2.2.1.2.2.2.2.2.2.2.2.2.2.2.2.2.2.2.2.2.2.2.2.2.2.2.2.1 v.1.2.2.2.2.2.2.2.2.2.2.2.2.2.1.2.2.2.2.2.2.2.2.2.2.2.2.2.2.2.2.2.2.2.2.2.2.2.2.2.1 v.1.2.2.2.2.2.2.2.2.2.2.2.2.2.1.2.2.2.2.2.2.2.2.2.2.2.2.2.2.2.2.2.2.2.2.2.2.2.2.2.2.1 v.1.2.2.2.2.2.2.2.2.2.2.2.2.2.1.2.2.2.2.2.2.2.2.2.2.2.2.2.2.2.2.2.2.2.2.2.2.2.2.2.2.2.1 v.1.2.2.2.2.2.2.2.2.2.2.2.2.2.1.2.2.2.2.2.2.2.2.2.2.2.2.2.2.2.2.2.2.2.2.2.2.2.2.2.2.2.2.1 v.1.2.2.2.2.2.2.2.2.2.2.2.2.2.1.2.2.2.2.2.2.2.2.2.2.2.2.2.2.2.2.2.2.2.2.2.2.2.2.2.2.2.2.2.1 v.1.2.2.2.2.2.2.2.2.2.2.2.2.2.1.2.2.2.2.2.2.2.2.2.2.2.2.2.2.2.2.2.2.2.2.2.2.2.2.2.2.2.2.2.2.1 v.1.2.2.2.2.2.2.2.2.2.2.2.2.2.1.2.2.2.2.2.2.2.2.2.2.2.2.2.2.2.2.2.2.2.2.2.2.2.2.2.2.2.2.2.2.2.1 v.1.2.2.2.2.2.2.2.2.2.2.2.2.2.1.2.2.2.2.2.2.2.2.2.2.2.2.2.2.2.2.2.2.2.2.2.2.2.2.2.2.2.2.2.2.2.2.1 v.1.2.2.2.2.2.2.2.2.2.2.2.2.2.1.2.2.2.2.2.2.2.2.2.2.2.2.2.2.2.2.2.2.2.2.2.2.2.2.2.2.2.2.2.2.2.2.2.1 v.1.2.2.2.2.2.2.2.2.2.2.2.2.2.1.2.2.2.2.2.2.2.2.2.2.2.2.2.2.2.2.2.2.2.2.2.2.2.2.2.2.2.2.2.2.2.2.2.2.1 v.1.2.2.2.2.2.2.2.2.2.2.2.2.2.1.2.2.2.2.2.2.2.2.2.2.2.2.2.2.2.2.2.2.2.2.2.2.2.2.2.2.2.2.2.2.2.2.2.2.2.1 v.1.2.2.2.2.2.2.2.2.2.2.2.2.2.1.2.2.2.2.2.2.2.2.2.2.2.2.2.2.2.2.2.2.2.2.2.2.2.2.2.2.2.2.2.2.2.2.2.2.2.2.1 v.1.2.2.2.2.2.2.2.2.2.2.2.2.2.1.2.2.2.2.2.2.2.2.2.2.2.2.2.2.2.2.2.2.2.2.2.2.2.2.2.2.2.2.2.2.2.2.2.2.2.2.2.1 v.1.2.2.2.2.2.2.2.2.2.2.2.2.2.1.2.2.2.2.2.2.2.2.2.2.2.2.2.2.2.2.2.2.2.2.2.2.2.2.2.2.2.2.2.2.2.2.2.2.2.2.2.2.1 v.1.2.2.2.2.2.2.2.2.2.2.2.2.2.1.2.2.2.2.2.2.2.2.2.2.2.2.2.2.2.2.2.2.2.2.2.2.2.2.2.2.2.2.2.2.2.2.2.2.2.2.2.2.2.1 v.1.2.2.2.2.2.2.2.2.2.2.2.2.2.1.2.2.2.2.2.2.2.2.2.2.2.2.2.2.2.2.2.2.2.2.2.2.2.2.2.2.2.2.2.2.2.2.2.2.2.2.2.2.2.2.1 v.1.2.2.2.2.2.2.2.2.2.2.2.2.2.1.2.2.2.2.2.2.2.2.2.2.2.2.2.2.2.2.2.2.2.2.2.2.2.2.2.2.2.2.2.2.2.2.2.2.2.2.2.2.2.2.2.1 v.1.2.2.2.2.2.2.2.2.2.2.2.2.2.1.2.2.2.2.2.2.2.2.2.2.2.2.2.2.2.2.2.2.2.2.2.2.2.2.2.2.2.2.2.2.2.2.2.2.2.2.2.2.2.2.2.2.1 v.1.2.2.2.2.2.2.2.2.2.2.2.2.2.1.2.2.2.2.2.2.2.2.2.2.2.2.2.2.2.2.2.2.2.2.2.2.2.2.2.2.2.2.2.2.2.2.2.2.2.2.2.2.2.2.2.2.2.1 v.1.2.2.2.2.2.2.2.2.2.2.2.2.2.1.2.2.2.2.2.2.2.2.2.2.2.2.2.2.2.2.2.2.2.2.2.2.2.2.2.2.2.2.2.2.2.2.2.2.2.2.2.2.2.2.2.2.2.2.1 v.1.2.2.2.2.2.2.2.2.2.2.2.2.2.1.2.2.2.2.2.2.2.2.2.2.2.2.2.2.2.2.2.2.2.2.2.2.2.2.2.2.2.2.2.2.2.2.2.2.2.2.2.2.2.2.2.2.2.2.2.1 v.1.2.2.2.2.2.2.2.2.2.2.2.2.2.1.2.2.2.2.2.2.2.2.2.2.2.2.2.2.2.2.2.2.2.2.2.2.2.2.2.2.2.2.2.2.2.2.2.2.2.2.2.2.2.2.2.2.2.2.2.2.1 v.1.2.2.2.2.2.2.2.2.2.2.2.2.2.1.2.2.2.2.2.2.2.2.2.2.2.2.2.2.2.2.2.2.2.2.2.2.2.2.2.2.2.2.2.2.2.2.2.2.2.2.2.2.2.2.2.2.2.2.2.2.2.1 v.1.2.2.2.2.2.2.2.2.2.2.2.2.2.1.2.2.2.2.2.2.2.2.2.2.2.2.2.2.2.2.2.2.2.2.2.2.2.2.2.2.2.2.2.2.2.2.2.2.2.2.2.2.2.2.2.2.2.2.2.2.2.2.1 v.1.2.2.2.2.2.2.2.2.2.2.2.2.2.1.2.2.2.2.2.2.2.2.2.2.2.2.2.2.2.2.2.2.2.2.2.2.2.2.2.2.2.2.2.2.2.2.2.2.2.2.2.2.2.2.2.2.2.2.2.2.2.2.2.1 v.1.2.2.2.2.2.2.2.2.2.2.2.2.2.1.2.2.2.2.2.2.2.2.2.2.2.2.2.2.2.2.2.2.2.2.2.2.2.2.2.2.2.2.2.2.2.2.2.2.2.2.2.2.2.2.2.2.2.2.2.2.2.2.2.2.1 v.1.2.2.2.2.2.2.2.2.2.2.2.2.2.1.2.2.2.2.2.2.2.2.2.2.2.2.2.2.2.2.2.2.2.2.2.2.2.2.2.2.2.2.2.2.2.2.2.2.2.2.2.2.2.2.2.2.2.2.2.2.2.2.2.2.2.1 v.1.2.2.2.2.2.2.2.2.2.2.2.2.2.1.2.2.2.2.2.2.2.2.2.2.2.2.2.2.2.2.2.2.2.2.2.2.2.2.2.2.2.2.2.2.2.2.2.2.2.2.2.2.2.2.2.2.2.2.2.2.2.2.2.2.2.2.1 v.1.2.2.2.2.2.2.2.2.2.2.2.2.2.1.2.2.2.2.2.2.2.2.2.2.2.2.2.2.2.2.2.2.2.2.2.2.2.2.2.2.2.2.2.2.2.2.2.2.2.2.2.2.2.2.2.2.2.2.2.2.2.2.2.2.2.2.2.1 v.1.2.2.2.2.2.2.2.2.2.2.2.2.2.1.2.2.2.2.2.2.2.2.2.2.2.2.2.2.2.2.2.2.2.2.2.2.2.2.2.2.2.2.2.2.2.2.2.2.2.2.2.2.2.2.2.2.2.2.2.2.2.2.2.2.2.2.2.2.1 v.1.2.2.2.2.2.2.2.2.2.2.2.2.2.1.2.2.2.2.2.2.2.2.2.2.2.2.2.2.2.2.2.2.2.2.2.2.2.2.2.2.2.2.2.2.2.2.2.2.2.2.2.2.2.2.2.2.2.2.2.2.2.2.2.2.2.2.2.2.2.1 v.1.2.2.2.2.2.2.2.2.2.2.2.2.2.1.2.2.2.2.2.2.2.2.2.2.2.2.2.2.2.2.2.2.2.2.2.2.2.2.2.2.2.2.2.2.2.2.2.2.2.2.2.2.2.2.2.2.2.2.2.2.2.2.2.2.2.2.2.2.2.2.1 v.1.2.2.2.2.2.2.2.2.2.2.2.2.2.1.2.2.2.2.2.2.2.2.2.2.2.2.2.2.2.2.2.2.2.2.2.2.2.2.2.2.2.2.2.2.2.2.2.2.2.2.2.2.2.2.2.2.2.2.2.2.2.2.2.2.2.2.2.2.2.2.2.1 v.1.2.2.2.2.2.2.2.2.2.2.2.2.2.1.2.2.2.2.2.2.2.2.2.2.2.2.2.2.2.2.2.2.2.2.2.2.2.2.2.2.2.2.2.2.2.2.2.2.2.2.2.2.2.2.2.2.2.2.2.2.2.2.2.2.2.2.2.2.2.2.2.2.1 v.1.2.2.2.2.2.2.2.2.2.2.2.2.2.1.2.2.2.2.2.2.2.2.2.2.2.2.2.2.2.2.2.2.2.2.2.2.2.2.2.2.2.2.2.2.2.2.2.2.2.2.2.2.2.2.2.2.2.2.2.2.2.2.2.2.2.2.2.2.2.2.2.2.2.1 v.1.2.2.2.2.2.2.2.2.2.2.2.2.2.1.2.2.2.2.2.2.2.2.2.2.2.2.2.2.2.2.2.2.2.2.2.2.2.2.2.2.2.2.2.2.2.2.2.2.2.2.2.2.2.2.2.2.2.2.2.2.2.2.2.2.2.2.2.2.2.2.2.2.2.2.1 v.1.2.2.2.2.2.2.2.2.2.2.2.2.2.1.2.2.2.2.2.2.2.2.2.2.2.2.2.2.2.2.2.2.2.2.2.2.2.2.2.2.2.2.2.2.2.2.2.2.2.2.2.2.2.2.2.2.2.2.2.2.2.2.2.2.2.2.2.2.2.2.2.2.2.2.2.1 v.1.2.2.2.2.2.2.2.2.2.2.2.2.2.1.2.2.2.2.2.2.2.2.2.2.2.2.2.2.2.2.2.2.2.2.2.2.2.2.2.2.2.2.2.2.2.2.2.2.2.2.2.2.2.2.2.2.2.2.2.2.2.2.2.2.2.2.2.2.2.2.2.2.2.2.2.2.1 v.1.2.2.2.2.2.2.2.2.2.2.2.2.2.2.1 v.1.2.2.2.2.2.2.2.2.2.2.2.2.2.2.2.2.1 v.1.2.2.2.2.2.2.2.2.2.2.2.2.2.2.2.2.2.1 v.2.1 v.2.2.1 v.2.2.2.1 v.2.2.2.2.1 v.2.2.2.2.2.1.1 v.2.2.2.2.2.1.2.1 v.2.2.2.2.2.1.2.2.1 v.2.2.2.2.2.1.2.2.2.1 v.2.2.2.2.2.1.2.2.2.2.1 v.2.2.2.2.2.1.2.2.2.2.2.1 v.2.2.2.2.2.1.2.2.2.2.2.2.1 v.2.2.2.2.2.1.2.2.2.2.2.2.2.1 v.2.2.2.2.2.1.2.2.2.2.2.2.2.2.1 v.2.2.2.2.2.1.2.2.2.2.2.2.2.2.2.1 v.2.2.2.2.2.1.2.2.2.2.2.2.2.2.2.2.1 v.2.2.2.2.2.1.2.2.2.2.2.2.2.2.2.2.2.1 v.2.2.2.2.2.1.2.2.2.2.2.2.2.2.2.2.2.2.1 v.2.2.2.2.2.1.2.2.2.2.2.2.2.2.2.2.2.2.2.1 v.2.2.2.2.2.1.2.2.2.2.2.2.2.2.2.2.2.2.2.2.1 v.2.2.2.2.2.1.2.2.2.2.2.2.2.2.2.2.2.2.2.2.2.1 v.2.2.2.2.2.1.2.2.2.2.2.2.2.2.2.2.2.2.2.2.2.2.1 v.2.2.2.2.2.1.2.2.2.2.2.2.2.2.2.2.2.2.2.2.2.2.2.1 v.2.2.2.2.2.1.2.2.2.2.2.2.2.2.2.2.2.2.2.2.2.2.2.2.1 v.2.2.2.2.2.1.2.2.2.2.2.2.2.2.2.2.2.2.2.2.2.2.2.2.2.1 v.2.2.2.2.2.1.2.2.2.2.2.2.2.2.2.2.2.2.2.2.2.2.2.2.2.2.1
def W174_1 (c192 : List Int → Option (List Int)) (d193v0 : Option (((Int × (Int × (Int × (Int × (Int × (Int × (Int × (Int × (Int × (Int × (Int × (Int × (Int × (Int × (Int × (Int × (Int × (Int × (Int × (Int × (Int × (Int × (Int × (Int × (Int × (Int × (Int × (Int × (Int × (Int × (Int × (Int × (Int × (Int × (Int × (Int × (Int × (Int × (Int × (Int × (Int × (Int × (Int × (Int × (Int × (Int × (Int × (Int × (Int × (Int × (Int × (Int × (Int × (Int × (Int × (Int × (Int × (Int × (Int × (Int × (Int × (Int × (Int × Unit))))))))))))))))))))))))))))))))))))))))))))))))))))))))))))))) × Unit) × Unit)) (c194 : Int → Int → Int → Int → Option Int) (c195 : Int → Int → Option Int) (N : Nat) : LoopF (((Sh.ar .u32)).T) := fun no =>
  match no with
  | _ => fun _ _ => none
theorem b174_1 (c192 : List Int → Option (List Int)) (d193v0 : Option (((Int × (Int × (Int × (Int × (Int × (Int × (Int × (Int × (Int × (Int × (Int × (Int × (Int × (Int × (Int × (Int × (Int × (Int × (Int × (Int × (Int × (Int × (Int × (Int × (Int × (Int × (Int × (Int × (Int × (Int × (Int × (Int × (Int × (Int × (Int × (Int × (Int × (Int × (Int × (Int × (Int × (Int × (Int × (Int × (Int × (Int × (Int × (Int × (Int × (Int × (Int × (Int × (Int × (Int × (Int × (Int × (Int × (Int × (Int × (Int × (Int × (Int × (Int × Unit))))))))))))))))))))))))))))))))))))))))))))))))))))))))))))))) × Unit) × Unit)) (c194 : Int → Int → Int → Int → Option Int) (c195 : Int → Int → Option Int) (N n : Nat) (v : P174_1.T) (κ : (i : Nat) → (Q174_1 i).T → Option (((Sh.ar .u32)).T)) :
    evc (T174 c192 d193v0 c194 c195) (rawOf (RW174 c192 d193v0 c194 c195)) (W174_1 c192 d193v0 c194 c195 N) (retc k174.res (Sh.ar .u32)) (modeOf FT) 0 fuelC (bodyOf (loopN k174 1)) (P174_1.st v) (roundK 0 H174_1 P174_1 Q174_1 (u174_1 c192 d193v0 c194 c195 N n) κ) = u174_1 c192 d193v0 c194 c195 N (n + 1) v κ := by kernel_rfl
theorem o174_1 (c192 : List Int → Option (List Int)) (d193v0 : Option (((Int × (Int × (Int × (Int × (Int × (Int × (Int × (Int × (Int × (Int × (Int × (Int × (Int × (Int × (Int × (Int × (Int × (Int × (Int × (Int × (Int × (Int × (Int × (Int × (Int × (Int × (Int × (Int × (Int × (Int × (Int × (Int × (Int × (Int × (Int × (Int × (Int × (Int × (Int × (Int × (Int × (Int × (Int × (Int × (Int × (Int × (Int × (Int × (Int × (Int × (Int × (Int × (Int × (Int × (Int × (Int × (Int × (Int × (Int × (Int × (Int × (Int × (Int × Unit))))))))))))))))))))))))))))))))))))))))))))))))))))))))))))))) × Unit) × Unit)) (c194 : Int → Int → Int → Int → Option Int) (c195 : Int → Int → Option Int) (hT : TabOK FT XT (T174 c192 d193v0 c194 c195)) (hO : RawOK FT XT (rawOf (α := ((Sh.ar .u32)).T) (RW174 c192 d193v0 c194 c195))) (N : Nat) {s : St} {κ : Ex → St → Option (((Sh.ar .u32)).T)} {a : ((Sh.ar .u32)).T} (h : lpOf 0 H174_1 P174_1 Q174_1 (u174_1 c192 d193v0 c194 c195 N N) s κ = some a) : Out FT XT 0 (retc k174.res (Sh.ar .u32)) (loopN k174 1) s κ a := by
  rw [l174_1]
  exact loop_out (LP := W174_1 c192 d193v0 c194 c195 N) (fu := fuelC) hT hO (fun _ _ => rfl) (b174_1 c192 d193v0 c194 c195 N) loopOK_nil N h
def H174_0 : Trim := ⟨0, [], false, [2, 4, 5, 6, 16, 17], []⟩
theorem l174_0 : loopN k174 0 = .loop H174_0 (bodyOf (loopN k174 0)) := by kernel_rfl
def P174_0 : Ps := ⟨[(0, .u), (1, .u), (2, (.ptr 0 0)), (3, .u), (4, (.ptr 1 0)), (5, (.ptr 2 0)), (6, (.ptr 3 0)), (7, .u), (8, .u), (9, .u), (10, .u), (11, .u), (12, .u), (16, (.vs (.cons (.int .u32) (.cons (.int .i64) (.cons (.int .i64) (.cons (.int .i64) (.cons (.int .i64) (.cons (.int .i64) (.cons (.int .i64) (.cons (.int .i64) (.cons (.int .i64) (.cons (.int .i64) (.cons (.int .i64) (.cons (.int .i64) (.cons (.int .i64) (.cons (.int .i64) (.cons (.int .i64) (.cons (.int .i64) (.cons (.int .i64) (.cons (.int .i64) (.cons (.int .i64) (.cons (.int .i64) (.cons (.int .i64) (.cons (.int .u32) (.cons (.int .i64) (.cons (.int .i64) (.cons (.int .i64) (.cons (.int .i64) (.cons (.int .i64) (.cons (.int .i64) (.cons (.int .i64) (.cons (.int .i64) (.cons (.int .i64) (.cons (.int .i64) (.cons (.int .i64) (.cons (.int .i64) (.cons (.int .i64) (.cons (.int .i64) (.cons (.int .i64) (.cons (.int .i64) (.cons (.int .i64) (.cons (.int .i64) (.cons (.int .i64) (.cons (.int .i64) (.cons (.int .u32) (.cons (.int .i64) (.cons (.int .i64) (.cons (.int .i64) (.cons (.int .i64) (.cons (.int .i64) (.cons (.int .i64) (.cons (.int .i64) (.cons (.int .i64) (.cons (.int .i64) (.cons (.int .i64) (.cons (.int .i64) (.cons (.int .i64) (.cons (.int .i64) (.cons (.int .i64) (.cons (.int .i64) (.cons (.int .i64) (.cons (.int .i64) (.cons (.int .i64) (.cons (.int .i64) (.cons (.int .i64) .nil))))))))))))))))))))))))))))))))))))))))))))))))))))))))))))))))), (17, (.int .i64)), (18, .u), (22, .u), (23, .u), (24, .u), (61, .u), (62, .u)], [(.ints false .u32), (.ints false .u32), (.ints false .u32), (.ints false .u32)]⟩
def Q174_0 : Nat → Ps
  | 0 => ⟨[(0, .u), (1, .u), (2, (.ptr 0 0)), (3, .u), (4, (.ptr 1 0)), (5, .u), (6, (.ptr 2 0)), (7, .u), (8, .u), (9, .u), (10, .u), (11, .u), (12, .u), (16, .u), (17, .u), (18, .u), (22, .u), (23, .u), (24, .u), (61, .u), (62, .u)], [(.ints false .u32), (.ints false .u32), (.ints false .u32)]⟩
  | _ => noPs
def u174_0 (c192 : List Int → Option (List Int)) (d193v0 : Option (((Int × (Int × (Int × (Int × (Int × (Int × (Int × (Int × (Int × (Int × (Int × (Int × (Int × (Int × (Int × (Int × (Int × (Int × (Int × (Int × (Int × (Int × (Int × (Int × (Int × (Int × (Int × (Int × (Int × (Int × (Int × (Int × (Int × (Int × (Int × (Int × (Int × (Int × (Int × (Int × (Int × (Int × (Int × (Int × (Int × (Int × (Int × (Int × (Int × (Int × (Int × (Int × (Int × (Int × (Int × (Int × (Int × (Int × (Int × (Int × (Int × (Int × (Int × Unit))))))))))))))))))))))))))))))))))))))))))))))))))))))))))))))) × Unit) × Unit)) (c194 : Int → Int → Int → Int → Option Int) (c195 : Int → Int → Option Int) (N n : Nat) (v : P174_0.T) (κ : (i : Nat) → (Q174_0 i).T → Option (((Sh.ar .u32)).T)) : Option (((Sh.ar .u32)).T) :=
  L174_0 c192 d193v0 c194 c195 N (fun (y0 : List Int) (y1 : List Int) (y2 : List Int) => κ 0 (((), ((), ((), ((), ((), ((), ((), ((), ((), ((), ((), ((), ((), ((), ((), ((), ((), ((), ((), ((), ((), ()))))))))))))))))))))), (y0, (y1, (y2, ()))))) n v.1.2.2.2.2.2.2.2.2.2.2.2.2.2.1.1 v.1.2.2.2.2.2.2.2.2.2.2.2.2.2.1.2.1 v.1.2.2.2.2.2.2.2.2.2.2.2.2.2.1.2.2.1 v.1.2.2.2.2.2.2.2.2.2.2.2.2.2.1.2.2.2.1 v.1.2.2.2.2.2.2.2.2.2.2.2.2.2.1.2.2.2.2.1 v.1.2.2.2.2.2.2.2.2.2.2.2.2.2.1.2.2.2.2.2.1 v.1.2.2.2.2.2.2.2.2.2.2.2.2.2.1.2.2.2.2.2.2.1 v.1.2.2.2.2.2.2.2.2.2.2.2.2.2.1.2.2.2.2.2.2.2.1 v.1.2.2.2.2.2.2.2.2.2.2.2.2.2.1.2.2.2.2.2.2.2.2.1 v.1.2.2.2.2.2.2.2.2.2.2.2.2.2.1.2.2.2.2.2.2.2.2.2.1 v.1.2.2.2.2.2.2.2.2.2.2.2.2.2.1.2.2.2.2.2.2.2.2.2.2.1 v.1.2.2.2.2.2.2.2.2.2.2.2.2.2.1.2.2.2.2.2.2.2.2.2.2.2.1 v.1.2.2.2.2.2.2.2.2.2.2.2.2.2.1.2.2.2.2.2.2.2.2.2.2.2.2.1 v.1.2.2.2.2.2.2.2.2.2.2.2.2.2.1.2.2.2.2.2.2.2.2.2.2.2.2.2.1 v.1.2.2.2.2.2.2.2.2.2.2.2.2.2.1.2.2.2.2.2.2.2.2.2.2.2.2.2.2.1 v.1.2.2.2.2.2.2.2.2.2.2.2.2.2.1.2.2.2.2.2.2.2.2.2.2.2.2.2.2.2.1 v.1.2.2.2.2.2.2.2.2.2.2.2.2.2.1.2.2.2.2.2.2.2.2.2.2.2.2.2.2.2.2.1 v.1.2.2.2.2.2.2.2.2.2.2.2.2.2.1.2.2.2.2.2.2.2.2.2.2.2.2.2.2.2.2.2.1 v.1.2.2.2.2.2.2.2.2.2.2.2.2.2.1.2.2.2.2.2.2.2.2.2.2.2.2.2.2.2.2.2.2.1 v.1.2.2.2.2.2.2.2.2.2.2.2.2.2.1.2.2.2.2.2.2.2.2.2.2.2.2.2.2.2.2.2.2.2.1 v.1.2.2.2.2.2.2.2.2.2.2.2.2.2.1.2.2.2.2.2.2.2.2.2.2.2.2.2.2.2.2.2.2.2.2.1 v.1.2.2.2.2.2.2.2.2.2.2.2.2.2.1.2.2.2.2.2.2.2.2.2.2.2.2.2.2.2.2.2.2.2.2.2.1 v.1.2.2.2.2.2.2.2.2.2.2.2.2.2.1.2.2.2.2.2.2.2.2.2.2.2.2.2.2.2.2.2.2.2.2.2.2.1 v.1.2.2.2.2.2.2.2.2.2.2.2.2.2.1.2.2.2.2.2.2.2.2.2.2.2.2.2.2.2.2.2.2.2.2.2.2.2.1 v.1.2.2.2.2.2.2.2.2.2.2.2.2.2.1.2.2.2.2.2.2.2.2.2.2.2.2.2.2.2.2.2.2.2.2.2.2.2.2.1 v.1.2.2.2.2.2.2.2.2.2.2.2.2.2.1.2.2.2.2.2.2.2.2.2.2.2.2.2.2.2.2.2.2.2.2.2.2.2.2.2.1 v.1.2.2.2.2.2.2.2.2.2.2.2.2.2.1.2.2.2.2.2.2.2.2.2.2.2.2.2.2.2.2.2.2.2.2.2.2.2.2.2.2.1 v.1.2.2.2.2.2.2.2.2.2.2.2.2.2.1.2.2.2.2.2.2.2.2.2.2.2.2.2.2.2.2.2.2.2.2.2.2.2.2.2.2.2.1 v.1.2.2.2.2.2.2.2.2.2.2.2.2.2.1.2.2.2.2.2.2.2.2.2.2.2.2.2.2.2.2.2.2.2.2.2.2.2.2.2.2.2.2.1 v.1.2.2.2.2.2.2.2.2.2.2.2.2.2.1.2.2.2.2.2.2.2.2.2.2.2.2.2.2.2.2.2.2.2.2.2.2.2.2.2.2.2.2.2.1 v.1.2.2.2.2.2.2.2.2.2.2.2.2.2.1.2.2.2.2.2.2.2.2.2.2.2.2.2.2.2.2.2.2.2.2.2.2.2.2.2.2.2.2.2.2.1 v.1.2.2.2.2.2.2.2.2.2.2.2.2.2.1.2.2.2.2.2.2.2.2.2.2.2.2.2.2.2.2.2.2.2.2.2.2.2.2.2.2.2.2.2.2.2.1 v.1.2.2.2.2.2.2.2.2.2.2.2.2.2.1.2.2.2.2.2.2.2.2.2.2.2.2.2.2.2.2.2.2.2.2.2.2.2.2.2.2.2.2.2.2.2.2.1 v.1.2.2.2.2.2.2.2.2.2.2.2.2.2.1.2.2.2.2.2.2.2.2.2.2.2.2.2.2.2.2.2.2.2.2.2.2.2.2.2.2.2.2.2.2.2.2.2.1 v.1.2.2.2.2.2.2.2.2.2.2.2.2.2.1.2.2.2.2.2.2.2.2.2.2.2.2.2.2.2.2.2.2.2.2.2.2.2.2.2.2.2.2.2.2.2.2.2.2.1 v.1.2.2.2.2.2.2.2.2.2.2.2.2.2.1.2.2.2.2.2.2.2.2.2.2.2.2.2.2.2.2.2.2.2.2.2.2.2.2.2.2.2.2.2.2.2.2.2.2.2.1 v.1.2.2.2.2.2.2.2.2.2.2.2.2.2.1.2.2.2.2.2.2.2.2.2.2.2.2.2.2.2.2.2.2.2.2.2.2.2.2.2.2.2.2.2.2.2.2.2.2.2.2.1 v.1.2.2.2.2.2.2.2.2.2.2.2.2.2.1.2.2.2.2.2.2.2.2.2.2.2.2.2.2.2.2.2.2.2.2.2.2.2.2.2.2.2.2.2.2.2.2.2.2.2.2.2.1 v.1.2.2.2.2.2.2.2.2.2.2.2.2.2.1.2.2.2.2.2.2.2.2.2.2.2.2.2.2.2.2.2.2.2.2.2.2.2.2.2.2.2.2.2.2.2.2.2.2.2.2.2.2.1 v.1.2.2.2.2.2.2.2.2.2.2.2.2.2.1.2.2.2.2.2.2.2.2.2.2.2.2.2.2.2.2.2.2.2.2.2.2.2.2.2.2.2.2.2.2.2.2.2.2.2.2.2.2.2.1 v.1.2.2.2.2.2.2.2.2.2.2.2.2.2.1.2.2.2.2.2.2.2.2.2.2.2.2.2.2.2.2.2.2.2.2.2.2.2.2.2.2.2.2.2.2.2.2.2.2.2.2.2.2.2.2.1 v.1.2.2.2.2.2.2.2.2.2.2.2.2.2.1.2.2.2.2.2.2.2.2.2.2.2.2.2.2.2.2.2.2.2.2.2.2.2.2.2.2.2.2.2.2.2.2.2.2.2.2.2.2.2.2.2.1 v.1.2.2.2.2.2.2.2.2.2.2.2.2.2.1.2.2.2.2.2.2.2.2.2.2.2.2.2.2.2.2.2.2.2.2.2.2.2.2.2.2.2.2.2.2.2.2.2.2.2.2.2.2.2.2.2.2.1 v.1.2.2.2.2.2.2.2.2.2.2.2.2.2.1.2.2.2.2.2.2.2.2.2.2.2.2.2.2.2.2.2.2.2.2.2.2.2.2.2.2.2.2.2.2.2.2.2.2.2.2.2.2.2.2.2.2.2.1 v.1.2.2.2.2.2.2.2.2.2.2.2.2.2.1.2.2.2.2.2.2.2.2.2.2.2.2.2.2.2.2.2.2.2.2.2.2.2.2.2.2.2.2.2.2.2.2.2.2.2.2.2.2.2.2.2.2.2.2.1 v.1.2.2.2.2.2.2.2.2.2.2.2.2.2.1.2.2.2.2.2.2.2.2.2.2.2.2.2.2.2.2.2.2.2.2.2.2.2.2.2.2.2.2.2.2.2.2.2.2.2.2.2.2.2.2.2.2.2.2.2.1 v.1.2.2.2.2.2.2.2.2.2.2.2.2.2.1.2.2.2.2.2.2.2.2.2.2.2.2.2.2.2.2.2.2.2.2.2.2.2.2.2.2.2.2.2.2.2.2.2.2.2.2.2.2.2.2.2.2.2.2.2.2.1 v.1.2.2.2.2.2.2.2.2.2.2.2.2.2.1.2.2.2.2.2.2.2.2.2.2.2.2.2.2.2.2.2.2.2.2.2.2.2.2.2.2.2.2.2.2.2.2.2.2.2.2.2.2.2.2.2.2.2.2.2.2.2.1 v.1.2.2.2.2.2.2.2.2.2.2.2.2.2.1.2.2.2.2.2.2.2.2.2.2.2.2.2.2.2.2.2.2.2.2.2.2.2.2.2.2.2.2.2.2.2.2.2.2.2.2.2.2.2.2.2.2.2.2.2.2.2.2.1 v.1.2.2.2.2.2.2.2.2.2.2.2.2.2.1.2.2.2.2.2.2.2.2.2.2.2.2.2.2.2.2.2.2.2.2.2.2.2.2.2.2.2.2.2.2.2.2.2.2.2.2.2.2.2.2.2.2.2.2.2.2.2.2.2.1 v.1.2.2.2.2.2.2.2.2.2.2.2.2.2.1.2.2.2.2.2.2.2.2.2.2.2.2.2.2.2.2.2.2.2.2.2.2.2.2.2.2.2.2.2.2.2.2.2.2.2.2.2.2.2.2.2.2.2.2.2.2.2.2.2.2.1 v.1.2.2.2.2.2.2.2.2.2.2.2.2.2.1.2.2.2.2.2.2.2.2.2.2.2.2.2.2.2.2.2.2.2.2.2.2.2.2.2.2.2.2.2.2.2.2.2.2.2.2.2.2.2.2.2.2.2.2.2.2.2.2.2.2.2.1 v.1.2.2.2.2.2.2.2.2.2.2.2.2.2.1.2.2.2.2.2.2.2.2.2.2.2.2.2.2.2.2.2.2.2.2.2.2.2.2.2.2.2.2.2.2.2.2.2.2.2.2.2.2.2.2.2.2.2.2.2.2.2.2.2.2.2.2.1 v.1.2.2.2.2.2.2.2.2.2.2.2.2.2.1.2.2.2.2.2.2.2.2.2.2.2.2.2.2.2.2.2.2.2.2.2.2.2.2.2.2.2.2.2.2.2.2.2.2.2.2.2.2.2.2.2.2.2.2.2.2.2.2.2.2.2.2.2.1 v.1.2.2.2.2.2.2.2.2.2.2.2.2.2.1.2.2.2.2.2.2.2.2.2.2.2.2.2.2.2.2.2.2.2.2.2.2.2.2.2.2.2.2.2.2.2.2.2.2.2.2.2.2.2.2.2.2.2.2.2.2.2.2.2.2.2.2.2.2.1 v.1.2.2.2.2.2.2.2.2.2.2.2.2.2.1.2.2.2.2.2.2.2.2.2.2.2.2.2.2.2.2.2.2.2.2.2.2.2.2.2.2.2.2.2.2.2.2.2.2.2.2.2.2.2.2.2.2.2.2.2.2.2.2.2.2.2.2.2.2.2.1 v.1.2.2.2.2.2.2.2.2.2.2.2.2.2.1.2.2.2.2.2.2.2.2.2.2.2.2.2.2.2.2.2.2.2.2.2.2.2.2.2.2.2.2.2.2.2.2.2.2.2.2.2.2.2.2.2.2.2.2.2.2.2.2.2.2.2.2.2.2.2.2.1 v.1.2.2.2.2.2.2.2.2.2.2.2.2.2.1.2.2.2.2.2.2.2.2.2.2.2.2.2.2.2.2.2.2.2.2.2.2.2.2.2.2.2.2.2.2.2.2.2.2.2.2.2.2.2.2.2.2.2.2.2.2.2.2.2.2.2.2.2.2.2.2.2.1 v.1.2.2.2.2.2.2.2.2.2.2.2.2.2.1.2.2.2.2.2.2.2.2.2.2.2.2.2.2.2.2.2.2.2.2.2.2.2.2.2.2.2.2.2.2.2.2.2.2.2.2.2.2.2.2.2.2.2.2.2.2.2.2.2.2.2.2.2.2.2.2.2.2.1 v.1.2.2.2.2.2.2.2.2.2.2.2.2.2.1.2.2.2.2.2.2.2.2.2.2.2.2.2.2.2.2.2.2.2.2.2.2.2.2.2.2.2.2.2.2.2.2.2.2.2.2.2.2.2.2.2.2.2.2.2.2.2.2.2.2.2.2.2.2.2.2.2.2.2.1 v.1.2.2.2.2.2.2.2.2.2.2.2.2.2.1.2.2.2.2.2.2.2.2.2.2.2.2.2.2.2.2.2.2.2.2.2.2.2.2.2.2.2.2.2.2.2.2.2.2.2.2.2.2.2.2.2.2.2.2.2.2.2.2.2.2.2.2.2.2.2.2.2.2.2.2.1 v.1.2.2.2.2.2.2.2.2.2.2.2.2.2.1.2.2.2.2.2.2.2.2.2.2.2.2.2.2.2.2.2.2.2.2.2.2.2.2.2.2.2.2.2.2.2.2.2.2.2.2.2.2.2.2.2.2.2.2.2.2.2.2.2.2.2.2.2.2.2.2.2.2.2.2.2.1 v.1.2.2.2.2.2.2.2.2.2.2.2.2.2.1.2.2.2.2.2.2.2.2.2.2.2.2.2.2.2.2.2.2.2.2.2.2.2.2.2.2.2.2.2.2.2.2.2.2.2.2.2.2.2.2.2.2.2.2.2.2.2.2.2.2.2.2.2.2.2.2.2.2.2.2.2.2.1 v.1.2.2.2.2.2.2.2.2.2.2.2.2.2.2.1 v.2.1 v.2.2.1 v.2.2.2.1 v.2.2.2.2.1
def W174_0 (c192 : List Int → Option (List Int)) (d193v0 : Option (((Int × (Int × (Int × (Int × (Int × (Int × (Int × (Int × (Int × (Int × (Int × (Int × (Int × (Int × (Int × (Int × (Int × (Int × (Int × (Int × (Int × (Int × (Int × (Int × (Int × (Int × (Int × (Int × (Int × (Int × (Int × (Int × (Int × (Int × (Int × (Int × (Int × (Int × (Int × (Int × (Int × (Int × (Int × (Int × (Int × (Int × (Int × (Int × (Int × (Int × (Int × (Int × (Int × (Int × (Int × (Int × (Int × (Int × (Int × (Int × (Int × (Int × (Int × Unit))))))))))))))))))))))))))))))))))))))))))))))))))))))))))))))) × Unit) × Unit)) (c194 : Int → Int → Int → Int → Option Int) (c195 : Int → Int → Option Int) (N : Nat) : LoopF (((Sh.ar .u32)).T) := fun no =>
  match no with
  | 1 => lpOf 0 H174_1 P174_1 Q174_1 (u174_1 c192 d193v0 c194 c195 N N)
  | _ => fun _ _ => none
theorem b174_0 (c192 : List Int → Option (List Int)) (d193v0 : Option (((Int × (Int × (Int × (Int × (Int × (Int × (Int × (Int × (Int × (Int × (Int × (Int × (Int × (Int × (Int × (Int × (Int × (Int × (Int × (Int × (Int × (Int × (Int × (Int × (Int × (Int × (Int × (Int × (Int × (Int × (Int × (Int × (Int × (Int × (Int × (Int × (Int × (Int × (Int × (Int × (Int × (Int × (Int × (Int × (Int × (Int × (Int × (Int × (Int × (Int × (Int × (Int × (Int × (Int × (Int × (Int × (Int × (Int × (Int × (Int × (Int × (Int × (Int × Unit))))))))))))))))))))))))))))))))))))))))))))))))))))))))))))))) × Unit) × Unit)) (c194 : Int → Int → Int → Int → Option Int) (c195 : Int → Int → Option Int) (N n : Nat) (v : P174_0.T) (κ : (i : Nat) → (Q174_0 i).T → Option (((Sh.ar .u32)).T)) :
    evc (T174 c192 d193v0 c194 c195) (rawOf (RW174 c192 d193v0 c194 c195)) (W174_0 c192 d193v0 c194 c195 N) (retc k174.res (Sh.ar .u32)) (modeOf FT) 0 fuelC (bodyOf (loopN k174 0)) (P174_0.st v) (roundK 0 H174_0 P174_0 Q174_0 (u174_0 c192 d193v0 c194 c195 N n) κ) = u174_0 c192 d193v0 c194 c195 N (n + 1) v κ := by kernel_rfl
theorem o174_0 (c192 : List Int → Option (List Int)) (d193v0 : Option (((Int × (Int × (Int × (Int × (Int × (Int × (Int × (Int × (Int × (Int × (Int × (Int × (Int × (Int × (Int × (Int × (Int × (Int × (Int × (Int × (Int × (Int × (Int × (Int × (Int × (Int × (Int × (Int × (Int × (Int × (Int × (Int × (Int × (Int × (Int × (Int × (Int × (Int × (Int × (Int × (Int × (Int × (Int × (Int × (Int × (Int × (Int × (Int × (Int × (Int × (Int × (Int × (Int × (Int × (Int × (Int × (Int × (Int × (Int × (Int × (Int × (Int × (Int × Unit))))))))))))))))))))))))))))))))))))))))))))))))))))))))))))))) × Unit) × Unit)) (c194 : Int → Int → Int → Int → Option Int) (c195 : Int → Int → Option Int) (hT : TabOK FT XT (T174 c192 d193v0 c194 c195)) (hO : RawOK FT XT (rawOf (α := ((Sh.ar .u32)).T) (RW174 c192 d193v0 c194 c195))) (N : Nat) {s : St} {κ : Ex → St → Option (((Sh.ar .u32)).T)} {a : ((Sh.ar .u32)).T} (h : lpOf 0 H174_0 P174_0 Q174_0 (u174_0 c192 d193v0 c194 c195 N N) s κ = some a) : Out FT XT 0 (retc k174.res (Sh.ar .u32)) (loopN k174 0) s κ a := by
  rw [l174_0]
  exact loop_out (LP := W174_0 c192 d193v0 c194 c195 N) (fu := fuelC) hT hO (fun _ _ => rfl) (b174_0 c192 d193v0 c194 c195 N) (loopOK_cons l174_1 (fun s κ a h => o174_1 c192 d193v0 c194 c195 hT hO N h) loopOK_nil) N h
def W174 (c192 : List Int → Option (List Int)) (d193v0 : Option (((Int × (Int × (Int × (Int × (Int × (Int × (Int × (Int × (Int × (Int × (Int × (Int × (Int × (Int × (Int × (Int × (Int × (Int × (Int × (Int × (Int × (Int × (Int × (Int × (Int × (Int × (Int × (Int × (Int × (Int × (Int × (Int × (Int × (Int × (Int × (Int × (Int × (Int × (Int × (Int × (Int × (Int × (Int × (Int × (Int × (Int × (Int × (Int × (Int × (Int × (Int × (Int × (Int × (Int × (Int × (Int × (Int × (Int × (Int × (Int × (Int × (Int × (Int × Unit))))))))))))))))))))))))))))))))))))))))))))))))))))))))))))))) × Unit) × Unit)) (c194 : Int → Int → Int → Int → Option Int) (c195 : Int → Int → Option Int) (N : Nat) : LoopF (((Sh.ar .u32)).T) := fun no =>
  match no with
  | 0 => lpOf 0 H174_0 P174_0 Q174_0 (u174_0 c192 d193v0 c194 c195 N N)
  | 2 => lpOf 0 H174_2 P174_2 Q174_2 (u174_2 c192 d193v0 c194 c195 N N)
  | _ => fun _ _ => none
theorem e174 (c192 : List Int → Option (List Int)) (d193v0 : Option (((Int × (Int × (Int × (Int × (Int × (Int × (Int × (Int × (Int × (Int × (Int × (Int × (Int × (Int × (Int × (Int × (Int × (Int × (Int × (Int × (Int × (Int × (Int × (Int × (Int × (Int × (Int × (Int × (Int × (Int × (Int × (Int × (Int × (Int × (Int × (Int × (Int × (Int × (Int × (Int × (Int × (Int × (Int × (Int × (Int × (Int × (Int × (Int × (Int × (Int × (Int × (Int × (Int × (Int × (Int × (Int × (Int × (Int × (Int × (Int × (Int × (Int × (Int × Unit))))))))))))))))))))))))))))))))))))))))))))))))))))))))))))))) × Unit) × Unit)) (c194 : Int → Int → Int → Int → Option Int) (c195 : Int → Int → Option Int) (N : Nat) (a0 : List Int) (a1 : List Int) : evc (T174 c192 d193v0 c194 c195) (rawOf (RW174 c192 d193v0 c194 c195)) (W174 c192 d193v0 c194 c195 N) (retc k174.res (Sh.ar .u32)) (modeOf FT) 0 fuelC k174.body (env0 k174 (encL [(Sh.ar .u32), (Sh.ar .u8)] (a0, (a1, ()))), []) (endK (retc k174.res (Sh.ar .u32))) = p174 c192 d193v0 c194 c195 N a0 a1 := by kernel_rfl
theorem ok174 (c192 : List Int → Option (List Int)) (d193v0 : Option (((Int × (Int × (Int × (Int × (Int × (Int × (Int × (Int × (Int × (Int × (Int × (Int × (Int × (Int × (Int × (Int × (Int × (Int × (Int × (Int × (Int × (Int × (Int × (Int × (Int × (Int × (Int × (Int × (Int × (Int × (Int × (Int × (Int × (Int × (Int × (Int × (Int × (Int × (Int × (Int × (Int × (Int × (Int × (Int × (Int × (Int × (Int × (Int × (Int × (Int × (Int × (Int × (Int × (Int × (Int × (Int × (Int × (Int × (Int × (Int × (Int × (Int × (Int × Unit))))))))))))))))))))))))))))))))))))))))))))))))))))))))))))))) × Unit) × Unit)) (c194 : Int → Int → Int → Int → Option Int) (c195 : Int → Int → Option Int) (h192 : EntOK FT XT 192 (en192 c192)) (h194 : EntOK FT XT 194 (en194 c194)) (h195 : EntOK FT XT 195 (en195 c195)) (h193v0 : REntOK FT XT 193 (rn193v0 d193v0)) {f : List Int → List Int → Option (List Int)} (hf : ∀ a0 a1 r, f a0 a1 = some r → ∃ N, p174 c192 d193v0 c194 c195 N a0 a1 = some r) : EntOK FT XT 174 (en174 f) := by
  have hT : TabOK FT XT (T174 c192 d193v0 c194 c195) := by
    intro g en hg
    unfold T174 at hg
    split at hg <;> first | (injection hg with hg; subst hg; assumption) | cases hg
  have hO : RawOK FT XT (rawOf (α := ((Sh.ar .u32)).T) (RW174 c192 d193v0 c194 c195)) := by
    refine rawOf_ok (fun g en hg => ?_)
    unfold RW174 at hg
    split at hg <;> simp only [List.mem_cons, List.not_mem_nil, or_false] at hg <;> first | (subst hg; assumption) | (rcases hg with rfl | rfl <;> assumption) | (rcases hg with rfl | rfl | rfl <;> assumption) | (rcases hg with rfl | rfl | rfl | rfl <;> assumption)
  refine ⟨rfl, fun v r h => ?_⟩
  obtain ⟨a0, a1, _⟩ := v
  obtain ⟨N, h1⟩ := hf _ _ _ h
  exact ans_c (R := (Sh.ar .u32)) (tab := T174 c192 d193v0 c194 c195) (raw := (rawOf (RW174 c192 d193v0 c194 c195))) (LP := W174 c192 d193v0 c194 c195 N) (fu := fuelC) hT hO rfl rfl (Nat.le_of_ble_eq_true rfl) (loopOK_cons l174_0 (fun s κ a h => o174_0 c192 d193v0 c194 c195 hT hO N h) (loopOK_cons l174_2 (fun s κ a h => o174_2 c192 d193v0 c194 c195 hT hO N h) loopOK_nil)) ((e174 c192 d193v0 c194 c195 N _ _).trans h1)

def T196 : Nat → Option Ent
  | _ => none
def RW196 : Nat → List REnt
  | _ => []
def W196 (N : Nat) : LoopF (((Sh.int .i64)).T) := fun no =>
  match no with
  | _ => fun _ _ => none
theorem e196 (N : Nat) (a0 : Int) : evc (T196) (rawOf (RW196)) (W196 N) (retc k196.res (Sh.int .i64)) (modeOf FT) 0 fuelC k196.body (env0 k196 (encL [(Sh.int .i64)] (a0, ())), []) (endK (retc k196.res (Sh.int .i64))) = p196 N a0 := by kernel_rfl
theorem ok196 {f : Int → Option Int} (hf : ∀ a0 r, f a0 = some r → ∃ N, p196 N a0 = some r) : EntOK FT XT 196 (en196 f) := by
  have hT : TabOK FT XT (T196) := by
    intro g en hg
    unfold T196 at hg
    split at hg <;> first | (injection hg with hg; subst hg; assumption) | cases hg
  have hO : RawOK FT XT (rawOf (α := ((Sh.int .i64)).T) (RW196)) := by
    refine rawOf_ok (fun g en hg => ?_)
    unfold RW196 at hg
    split at hg <;> simp only [List.mem_cons, List.not_mem_nil, or_false] at hg <;> first | (subst hg; assumption) | (rcases hg with rfl | rfl <;> assumption) | (rcases hg with rfl | rfl | rfl <;> assumption) | (rcases hg with rfl | rfl | rfl | rfl <;> assumption)
  refine ⟨rfl, fun v r h => ?_⟩
  obtain ⟨a0, _⟩ := v
  obtain ⟨N, h1⟩ := hf _ _ h
  exact ans_c (R := (Sh.int .i64)) (tab := T196) (raw := (rawOf (RW196))) (LP := W196 N) (fu := fuelC) hT hO rfl rfl (Nat.le_of_ble_eq_true rfl) loopOK_nil ((e196 N _).trans h1)

def T204 : Nat → Option Ent
  | _ => none
def RW204 : Nat → List REnt
  | _ => []
def W204 (N : Nat) : LoopF (((Sh.int .u32)).T) := fun no =>
  match no with
  | _ => fun _ _ => none
theorem e204 (N : Nat) (a0 : Int) (a1 : Int) (a2 : Int) : evc (T204) (rawOf (RW204)) (W204 N) (retc k204.res (Sh.int .u32)) (modeOf FT) 0 fuelC k204.body (env0 k204 (encL [(Sh.int .u32), (Sh.int .u32), (Sh.int .u32)] (a0, (a1, (a2, ())))), []) (endK (retc k204.res (Sh.int .u32))) = p204 N a0 a1 a2 := by kernel_rfl
theorem ok204 {f : Int → Int → Int → Option Int} (hf : ∀ a0 a1 a2 r, f a0 a1 a2 = some r → ∃ N, p204 N a0 a1 a2 = some r) : EntOK FT XT 204 (en204 f) := by
  have hT : TabOK FT XT (T204) := by
    intro g en hg
    unfold T204 at hg
    split at hg <;> first | (injection hg with hg; subst hg; assumption) | cases hg
  have hO : RawOK FT XT (rawOf (α := ((Sh.int .u32)).T) (RW204)) := by
    refine rawOf_ok (fun g en hg => ?_)
    unfold RW204 at hg
    split at hg <;> simp only [List.mem_cons, List.not_mem_nil, or_false] at hg <;> first | (subst hg; assumption) | (rcases hg with rfl | rfl <;> assumption) | (rcases hg with rfl | rfl | rfl <;> assumption) | (rcases hg with rfl | rfl | rfl | rfl <;> assumption)
  refine ⟨rfl, fun v r h => ?_⟩
  obtain ⟨a0, a1, a2, _⟩ := v
  obtain ⟨N, h1⟩ := hf _ _ _ _ h
  exact ans_c (R := (Sh.int .u32)) (tab := T204) (raw := (rawOf (RW204))) (LP := W204 N) (fu := fuelC) hT hO rfl rfl (Nat.le_of_ble_eq_true rfl) loopOK_nil ((e204 N _ _ _).trans h1)

def T198 (c204 : Int → Int → Int → Option Int) : Nat → Option Ent
  | 204 => some (en204 c204)
  | _ => none
def RW198 (c204 : Int → Int → Int → Option Int) : Nat → List REnt
  | _ => []
def W198 (c204 : Int → Int → Int → Option Int) (N : Nat) : LoopF (((Sh.int .u32)).T) := fun no =>
  match no with
  | _ => fun _ _ => none
theorem e198 (c204 : Int → Int → Int → Option Int) (N : Nat) (a0 : Int) (a1 : Int) (a2 : Int) (a3 : Int) : evc (T198 c204) (rawOf (RW198 c204)) (W198 c204 N) (retc k198.res (Sh.int .u32)) (modeOf FT) 0 fuelC k198.body (env0 k198 (encL [(Sh.int .i64), (Sh.int .u32), (Sh.int .u32), (Sh.int .u32)] (a0, (a1, (a2, (a3, ()))))), []) (endK (retc k198.res (Sh.int .u32))) = p198 c204 N a0 a1 a2 a3 := by kernel_rfl
theorem ok198 (c204 : Int → Int → Int → Option Int) (h204 : EntOK FT XT 204 (en204 c204)) {f : Int → Int → Int → Int → Option Int} (hf : ∀ a0 a1 a2 a3 r, f a0 a1 a2 a3 = some r → ∃ N, p198 c204 N a0 a1 a2 a3 = some r) : EntOK FT XT 198 (en198 f) := by
  have hT : TabOK FT XT (T198 c204) := by
    intro g en hg
    unfold T198 at hg
    split at hg <;> first | (injection hg with hg; subst hg; assumption) | cases hg
  have hO : RawOK FT XT (rawOf (α := ((Sh.int .u32)).T) (RW198 c204)) := by
    refine rawOf_ok (fun g en hg => ?_)
    unfold RW198 at hg
    split at hg <;> simp only [List.mem_cons, List.not_mem_nil, or_false] at hg <;> first | (subst hg; assumption) | (rcases hg with rfl | rfl <;> assumption) | (rcases hg with rfl | rfl | rfl <;> assumption) | (rcases hg with rfl | rfl | rfl | rfl <;> assumption)
  refine ⟨rfl, fun v r h => ?_⟩
  obtain ⟨a0, a1, a2, a3, _⟩ := v
  obtain ⟨N, h1⟩ := hf _ _ _ _ _ h
  exact ans_c (R := (Sh.int .u32)) (tab := T198 c204) (raw := (rawOf (RW198 c204))) (LP := W198 c204 N) (fu := fuelC) hT hO rfl rfl (Nat.le_of_ble_eq_true rfl) loopOK_nil ((e198 c204 N _ _ _ _).trans h1)

def T197 : Nat → Option Ent
  | _ => none
def RW197 : Nat → List REnt
  | _ => []
def W197 (N : Nat) : LoopF (((Sh.int .u32)).T) := fun no =>
  match no with
  | _ => fun _ _ => none
theorem e197 (N : Nat) (a0 : Int) (a1 : Int) : evc (T197) (rawOf (RW197)) (W197 N) (retc k197.res (Sh.int .u32)) (modeOf FT) 0 fuelC k197.body (env0 k197 (encL [(Sh.int .u32), (Sh.int .i64)] (a0, (a1, ()))), []) (endK (retc k197.res (Sh.int .u32))) = p197 N a0 a1 := by kernel_rfl
theorem ok197 {f : Int → Int → Option Int} (hf : ∀ a0 a1 r, f a0 a1 = some r → ∃ N, p197 N a0 a1 = some r) : EntOK FT XT 197 (en197 f) := by
  have hT : TabOK FT XT (T197) := by
    intro g en hg
    unfold T197 at hg
    split at hg <;> first | (injection hg with hg; subst hg; assumption) | cases hg
  have hO : RawOK FT XT (rawOf (α := ((Sh.int .u32)).T) (RW197)) := by
    refine rawOf_ok (fun g en hg => ?_)
    unfold RW197 at hg
    split at hg <;> simp only [List.mem_cons, List.not_mem_nil, or_false] at hg <;> first | (subst hg; assumption) | (rcases hg with rfl | rfl <;> assumption) | (rcases hg with rfl | rfl | rfl <;> assumption) | (rcases hg with rfl | rfl | rfl | rfl <;> assumption)
  refine ⟨rfl, fun v r h => ?_⟩
  obtain ⟨a0, a1, _⟩ := v
  obtain ⟨N, h1⟩ := hf _ _ _ h
  exact ans_c (R := (Sh.int .u32)) (tab := T197) (raw := (rawOf (RW197))) (LP := W197 N) (fu := fuelC) hT hO rfl rfl (Nat.le_of_ble_eq_true rfl) loopOK_nil ((e197 N _ _).trans h1)

def T175 (c196 : Int → Option Int) (c198 : Int → Int → Int → Int → Option Int) (c197 : Int → Int → Option Int) : Nat → Option Ent
  | 196 => some (en196 c196)
  | 198 => some (en198 c198)
  | 197 => some (en197 c197)
  | _ => none
def RW175 (c196 : Int → Option Int) (c198 : Int → Int → Int → Int → Option Int) (c197 : Int → Int → Option Int) : Nat → List REnt
  | _ => []
def H175_1 : Trim := ⟨1, [], false, [2, 4, 6, 11], []⟩
theorem l175_1 : loopN k175 1 = .loop H175_1 (bodyOf (loopN k175 1)) := by kernel_rfl
def P175_1 : Ps := ⟨[(0, .u), (1, .u), (2, (.ptr 0 0)), (3, .u), (4, (.ptr 1 0)), (5, .u), (6, (.ptr 2 0)), (7, .u), (8, .u), (9, .u), (10, .u), (11, (.int .i64)), (18, .u), (82, .u)], [(.ints false .u32), (.ints false .u32), (.ints false .u32)]⟩
def Q175_1 : Nat → Ps
  | 2 => ⟨[(0, .u), (1, .u), (2, .u), (3, .u), (4, (.ptr 0 0)), (5, .u), (6, (.ptr 1 0)), (7, .u), (8, .u), (9, .u), (10, .u), (11, .u), (18, .u), (82, .u)], [(.ints false .u32), (.ints false .u32)]⟩
  | _ => noPs
def u175_1 (c196 : Int → Option Int) (c198 : Int → Int → Int → Int → Option Int) (c197 : Int → Int → Option Int) (N n : Nat) (v : P175_1.T) (κ : (i : Nat) → (Q175_1 i).T → Option (((Sh.ar .u32)).T)) : Option (((Sh.ar .u32)).T) :=
  L175_1 c196 c198 c197 N (fun (y0 : List Int) (y1 : List Int) => κ 2 (((), ((), ((), ((), ((), ((), ((), ((), ((), ((), ((), ((), ((), ((), ())))))))))))))), (y0, (y1, ())))) n v.1.2.2.2.2.2.2.2.2.2.2.2.1 v.2.1 v.2.2.1 v.2.2.2.1
def W175_1 (c196 : Int → Option Int) (c198 : Int → Int → Int → Int → Option Int) (c197 : Int → Int → Option Int) (N : Nat) : LoopF (((Sh.ar .u32)).T) := fun no =>
  match no with
  | _ => fun _ _ => none
theorem b175_1 (c196 : Int → Option Int) (c198 : Int → Int → Int → Int → Option Int) (c197 : Int → Int → Option Int) (N n : Nat) (v : P175_1.T) (κ : (i : Nat) → (Q175_1 i).T → Option (((Sh.ar .u32)).T)) :
    evc (T175 c196 c198 c197) (rawOf (RW175 c196 c198 c197)) (W175_1 c196 c198 c197 N) (retc k175.res (Sh.ar .u32)) (modeOf FT) 0 fuelC (bodyOf (loopN k175 1)) (P175_1.st v) (roundK 0 H175_1 P175_1 Q175_1 (u175_1 c196 c198 c197 N n) κ) = u175_1 c196 c198 c197 N (n + 1) v κ := by kernel_rfl
theorem o175_1 (c196 : Int → Option Int) (c198 : Int → Int → Int → Int → Option Int) (c197 : Int → Int → Option Int) (hT : TabOK FT XT (T175 c196 c198 c197)) (hO : RawOK FT XT (rawOf (α := ((Sh.ar .u32)).T) (RW175 c196 c198 c197))) (N : Nat) {s : St} {κ : Ex → St → Option (((Sh.ar .u32)).T)} {a : ((Sh.ar .u32)).T} (h : lpOf 0 H175_1 P175_1 Q175_1 (u175_1 c196 c198 c197 N N) s κ = some a) : Out FT XT 0 (retc k175.res (Sh.ar .u32)) (loopN k175 1) s κ a := by
  rw [l175_1]
  exact loop_out (LP := W175_1 c196 c198 c197 N) (fu := fuelC) hT hO (fun _ _ => rfl) (b175_1 c196 c198 c197 N) loopOK_nil N h
def H175_0 : Trim := ⟨0, [(5, (Sh.sl (Sh.sl (Sh.int .i64))))], false, [2, 3, 4, 5, 6, 7], []⟩
theorem l175_0 : loopN k175 0 = .loop H175_0 (bodyOf (loopN k175 0)) := by kernel_rfl
def P175_0 : Ps := ⟨[(0, .u), (1, .u), (2, (.ptr 0 0)), (3, (.ptr 1 0)), (4, (.ptr 2 0)), (5, (.tb (Sh.sl (Sh.int .i64)))), (6, (.ptr 3 0)), (7, (.int .i64)), (8, .u), (9, .u), (10, .u), (11, .u), (18, .u), (82, .u)], [(.ints false .u32), (.ints false .u8), (.ints false .u32), (.ints false .u32)]⟩
def Q175_0 : Nat → Ps
  | 0 => ⟨[(0, .u), (1, .u), (2, (.ptr 0 0)), (3, .u), (4, (.ptr 1 0)), (5, .u), (6, (.ptr 2 0)), (7, .u), (8, .u), (9, .u), (10, .u), (11, .u), (18, .u), (82, .u)], [(.ints false .u32), (.ints false .u32), (.ints false .u32)]⟩
  | _ => noPs
def u175_0 (c196 : Int → Option Int) (c198 : Int → Int → Int → Int → Option Int) (c197 : Int → Int → Option Int) (N n : Nat) (v : P175_0.T) (κ : (i : Nat) → (Q175_0 i).T → Option (((Sh.ar .u32)).T)) : Option (((Sh.ar .u32)).T) :=
  L175_0 c196 c198 c197 N (fun (y0 : List Int) (y1 : List Int) (y2 : List Int) => κ 0 (((), ((), ((), ((), ((), ((), ((), ((), ((), ((), ((), ((), ((), ((), ())))))))))))))), (y0, (y1, (y2, ()))))) n v.1.2.2.2.2.2.1 v.1.2.2.2.2.2.2.2.1 v.2.1 v.2.2.1 v.2.2.2.1 v.2.2.2.2.1
def W175_0 (c196 : Int → Option Int) (c198 : Int → Int → Int → Int → Option Int) (c197 : Int → Int → Option Int) (N : Nat) : LoopF (((Sh.ar .u32)).T) := fun no =>
  match no with
  | _ => fun _ _ => none
theorem b175_0 (c196 : Int → Option Int) (c198 : Int → Int → Int → Int → Option Int) (c197 : Int → Int → Option Int) (N n : Nat) (v : P175_0.T) (κ : (i : Nat) → (Q175_0 i).T → Option (((Sh.ar .u32)).T)) :
    evc (T175 c196 c198 c197) (rawOf (RW175 c196 c198 c197)) (W175_0 c196 c198 c197 N) (retc k175.res (Sh.ar .u32)) (modeOf FT) 0 fuelC (bodyOf (loopN k175 0)) (P175_0.st v) (roundK 0 H175_0 P175_0 Q175_0 (u175_0 c196 c198 c197 N n) κ) = u175_0 c196 c198 c197 N (n + 1) v κ := by kernel_rfl
theorem o175_0 (c196 : Int → Option Int) (c198 : Int → Int → Int → Int → Option Int) (c197 : Int → Int → Option Int) (hT : TabOK FT XT (T175 c196 c198 c197)) (hO : RawOK FT XT (rawOf (α := ((Sh.ar .u32)).T) (RW175 c196 c198 c197))) (N : Nat) {s : St} {κ : Ex → St → Option (((Sh.ar .u32)).T)} {a : ((Sh.ar .u32)).T} (h : lpOf 0 H175_0 P175_0 Q175_0 (u175_0 c196 c198 c197 N N) s κ = some a) : Out FT XT 0 (retc k175.res (Sh.ar .u32)) (loopN k175 0) s κ a := by
  rw [l175_0]
  exact loop_out (LP := W175_0 c196 c198 c197 N) (fu := fuelC) hT hO (fun _ _ => rfl) (b175_0 c196 c198 c197 N) loopOK_nil N h
def W175 (c196 : Int → Option Int) (c198 : Int → Int → Int → Int → Option Int) (c197 : Int → Int → Option Int) (N : Nat) : LoopF (((Sh.ar .u32)).T) := fun no =>
  match no with
  | 0 => lpOf 0 H175_0 P175_0 Q175_0 (u175_0 c196 c198 c197 N N)
  | 1 => lpOf 0 H175_1 P175_1 Q175_1 (u175_1 c196 c198 c197 N N)
  | _ => fun _ _ => none
theorem e175 (c196 : Int → Option Int) (c198 : Int → Int → Int → Int → Option Int) (c197 : Int → Int → Option Int) (N : Nat) (a0 : List Int) (a1 : List Int) : evc (T175 c196 c198 c197) (rawOf (RW175 c196 c198 c197)) (W175 c196 c198 c197 N) (retc k175.res (Sh.ar .u32)) (modeOf FT) 0 fuelC k175.body (env0 k175 (encL [(Sh.ar .u32), (Sh.ar .u8)] (a0, (a1, ()))), []) (endK (retc k175.res (Sh.ar .u32))) = p175 c196 c198 c197 N a0 a1 := by kernel_rfl
theorem ok175 (c196 : Int → Option Int) (c198 : Int → Int → Int → Int → Option Int) (c197 : Int → Int → Option Int) (h196 : EntOK FT XT 196 (en196 c196)) (h198 : EntOK FT XT 198 (en198 c198)) (h197 : EntOK FT XT 197 (en197 c197)) {f : List Int → List Int → Option (List Int)} (hf : ∀ a0 a1 r, f a0 a1 = some r → ∃ N, p175 c196 c198 c197 N a0 a1 = some r) : EntOK FT XT 175 (en175 f) := by
  have hT : TabOK FT XT (T175 c196 c198 c197) := by
    intro g en hg
    unfold T175 at hg
    split at hg <;> first | (injection hg with hg; subst hg; assumption) | cases hg
  have hO : RawOK FT XT (rawOf (α := ((Sh.ar .u32)).T) (RW175 c196 c198 c197)) := by
    refine rawOf_ok (fun g en hg => ?_)
    unfold RW175 at hg
    split at hg <;> simp only [List.mem_cons, List.not_mem_nil, or_false] at hg <;> first | (subst hg; assumption) | (rcases hg with rfl | rfl <;> assumption) | (rcases hg with rfl | rfl | rfl <;> assumption) | (rcases hg with rfl | rfl | rfl | rfl <;> assumption)
  refine ⟨rfl, fun v r h => ?_⟩
  obtain ⟨a0, a1, _⟩ := v
  obtain ⟨N, h1⟩ := hf _ _ _ h
  exact ans_c (R := (Sh.ar .u32)) (tab := T175 c196 c198 c197) (raw := (rawOf (RW175 c196 c198 c197))) (LP := W175 c196 c198 c197 N) (fu := fuelC) hT hO rfl rfl (Nat.le_of_ble_eq_true rfl) (loopOK_cons l175_0 (fun s κ a h => o175_0 c196 c198 c197 hT hO N h) (loopOK_cons l175_1 (fun s κ a h => o175_1 c196 c198 c197 hT hO N h) loopOK_nil)) ((e175 c196 c198 c197 N _ _).trans h1)

def T176 (c19 : Int → Int → Bool → Option ((List Int) × Int)) : Nat → Option Ent
  | 19 => some (en19 c19)
  | _ => none
def RW176 (c19 : Int → Int → Bool → Option ((List Int) × Int)) : Nat → List REnt
  | _ => []
def W176 (c19 : Int → Int → Bool → Option ((List Int) × Int)) (N : Nat) : LoopF (((Sh.sl (Sh.int .u8))).T) := fun no =>
  match no with
  | _ => fun _ _ => none
theorem e176 (c19 : Int → Int → Bool → Option ((List Int) × Int)) (N : Nat) (a0 : Int) : evc (T176 c19) (rawOf (RW176 c19)) (W176 c19 N) (retc k176.res (Sh.sl (Sh.int .u8))) (modeOf FT) 0 fuelC k176.body (env0 k176 (encL [(Sh.int .u64)] (a0, ())), []) (endK (retc k176.res (Sh.sl (Sh.int .u8)))) = p176 c19 N a0 := by kernel_rfl
theorem ok176 (c19 : Int → Int → Bool → Option ((List Int) × Int)) (h19 : EntOK FT XT 19 (en19 c19)) {f : Int → Option (List Int)} (hf : ∀ a0 r, f a0 = some r → ∃ N, p176 c19 N a0 = some r) : EntOK FT XT 176 (en176 f) := by
  have hT : TabOK FT XT (T176 c19) := by
    intro g en hg
    unfold T176 at hg
    split at hg <;> first | (injection hg with hg; subst hg; assumption) | cases hg
  have hO : RawOK FT XT (rawOf (α := ((Sh.sl (Sh.int .u8))).T) (RW176 c19)) := by
    refine rawOf_ok (fun g en hg => ?_)
    unfold RW176 at hg
    split at hg <;> simp only [List.mem_cons, List.not_mem_nil, or_false] at hg <;> first | (subst hg; assumption) | (rcases hg with rfl | rfl <;> assumption) | (rcases hg with rfl | rfl | rfl <;> assumption) | (rcases hg with rfl | rfl | rfl | rfl <;> assumption)
  refine ⟨rfl, fun v r h => ?_⟩
  obtain ⟨a0, _⟩ := v
  obtain ⟨N, h1⟩ := hf _ _ h
  exact ans_c (R := (Sh.sl (Sh.int .u8))) (tab := T176 c19) (raw := (rawOf (RW176 c19))) (LP := W176 c19 N) (fu := fuelC) hT hO rfl rfl (Nat.le_of_ble_eq_true rfl) loopOK_nil ((e176 c19 N _).trans h1)

def T177 : Nat → Option Ent
  | _ => none
def RW177 : Nat → List REnt
  | _ => []
def H177_1 : Trim := ⟨1, [], false, [3, 4, 5], []⟩
theorem l177_1 : loopN k177 1 = .loop H177_1 (bodyOf (loopN k177 1)) := by kernel_rfl
def P177_1 : Ps := ⟨[(0, .u), (2, .u), (3, (.sl 0 1)), (4, (.int .u64)), (5, (.int .i64)), (13, .u), (20, .u)], [(.ints false .u8)]⟩
def Q177_1 : Nat → Ps
  | 2 => ⟨[(0, .u), (2, .u), (3, (.sl 0 1)), (4, .u), (5, .u), (13, .u), (20, .u)], [(.ints false .u8)]⟩
  | _ => noPs
def u177_1 (N n : Nat) (v : P177_1.T) (κ : (i : Nat) → (Q177_1 i).T → Option (((Sh.sl (Sh.int .u8))).T)) : Option (((Sh.sl (Sh.int .u8))).T) :=
  L177_1 N (fun (y0 : Nat) (y1 : List Int) => κ 2 (((), ((), (y0, ((), ((), ((), ((), ()))))))), (y1, ()))) n v.1.2.2.1 v.1.2.2.2.1 v.1.2.2.2.2.1 v.2.1
def W177_1 (N : Nat) : LoopF (((Sh.sl (Sh.int .u8))).T) := fun no =>
  match no with
  | _ => fun _ _ => none
theorem b177_1 (N n : Nat) (v : P177_1.T) (κ : (i : Nat) → (Q177_1 i).T → Option (((Sh.sl (Sh.int .u8))).T)) :
    evc (T177) (rawOf (RW177)) (W177_1 N) (retc k177.res (Sh.sl (Sh.int .u8))) (modeOf FT) 0 fuelC (bodyOf (loopN k177 1)) (P177_1.st v) (roundK 0 H177_1 P177_1 Q177_1 (u177_1 N n) κ) = u177_1 N (n + 1) v κ := by kernel_rfl
theorem o177_1 (hT : TabOK FT XT (T177)) (hO : RawOK FT XT (rawOf (α := ((Sh.sl (Sh.int .u8))).T) (RW177))) (N : Nat) {s : St} {κ : Ex → St → Option (((Sh.sl (Sh.int .u8))).T)} {a : ((Sh.sl (Sh.int .u8))).T} (h : lpOf 0 H177_1 P177_1 Q177_1 (u177_1 N N) s κ = some a) : Out FT XT 0 (retc k177.res (Sh.sl (Sh.int .u8))) (loopN k177 1) s κ a := by
  rw [l177_1]
  exact loop_out (LP := W177_1 N) (fu := fuelC) hT hO (fun _ _ => rfl) (b177_1 N) loopOK_nil N h
def H177_0 : Trim := ⟨0, [], false, [0, 3], [(3, (.imm []), 1)]⟩
theorem l177_0 : loopN k177 0 = .loop H177_0 (bodyOf (loopN k177 0)) := by kernel_rfl
def P177_0 : Ps := ⟨[(0, (.int .u64)), (2, .u), (3, (.sl 0 1)), (4, .u), (5, .u), (13, .u), (20, .u)], [(.ints false .u8)]⟩
def Q177_0 : Nat → Ps
  | 0 => ⟨[(0, (.int .u64)), (2, .u), (3, (.sl 0 1)), (4, .u), (5, .u), (13, .u), (20, .u)], [(.ints false .u8)]⟩
  | _ => noPs
def u177_0 (N n : Nat) (v : P177_0.T) (κ : (i : Nat) → (Q177_0 i).T → Option (((Sh.sl (Sh.int .u8))).T)) : Option (((Sh.sl (Sh.int .u8))).T) :=
  L177_0 N (fun (y0 : Int) (y1 : Nat) (y2 : List Int) => κ 0 ((y0, ((), (y1, ((), ((), ((), ((), ()))))))), (y2, ()))) n v.1.1 v.1.2.2.1 v.2.1
def W177_0 (N : Nat) : LoopF (((Sh.sl (Sh.int .u8))).T) := fun no =>
  match no with
  | _ => fun _ _ => none
theorem b177_0 (N n : Nat) (v : P177_0.T) (κ : (i : Nat) → (Q177_0 i).T → Option (((Sh.sl (Sh.int .u8))).T)) :
    evc (T177) (rawOf (RW177)) (W177_0 N) (retc k177.res (Sh.sl (Sh.int .u8))) (modeOf FT) 0 fuelC (bodyOf (loopN k177 0)) (P177_0.st v) (roundK 0 H177_0 P177_0 Q177_0 (u177_0 N n) κ) = u177_0 N (n + 1) v κ := by kernel_rfl
theorem o177_0 (hT : TabOK FT XT (T177)) (hO : RawOK FT XT (rawOf (α := ((Sh.sl (Sh.int .u8))).T) (RW177))) (N : Nat) {s : St} {κ : Ex → St → Option (((Sh.sl (Sh.int .u8))).T)} {a : ((Sh.sl (Sh.int .u8))).T} (h : lpOf 0 H177_0 P177_0 Q177_0 (u177_0 N N) s κ = some a) : Out FT XT 0 (retc k177.res (Sh.sl (Sh.int .u8))) (loopN k177 0) s κ a := by
  rw [l177_0]
  exact loop_out (LP := W177_0 N) (fu := fuelC) hT hO (fun _ _ => rfl) (b177_0 N) loopOK_nil N h
def W177 (N : Nat) : LoopF (((Sh.sl (Sh.int .u8))).T) := fun no =>
  match no with
  | 0 => lpOf 0 H177_0 P177_0 Q177_0 (u177_0 N N)
  | 1 => lpOf 0 H177_1 P177_1 Q177_1 (u177_1 N N)
  | _ => fun _ _ => none
theorem e177 (N : Nat) (a0 : Int) : evc (T177) (rawOf (RW177)) (W177 N) (retc k177.res (Sh.sl (Sh.int .u8))) (modeOf FT) 0 fuelC k177.body (env0 k177 (encL [(Sh.int .u64)] (a0, ())), []) (endK (retc k177.res (Sh.sl (Sh.int .u8)))) = p177 N a0 := by kernel_rfl
theorem ok177 {f : Int → Option (List Int)} (hf : ∀ a0 r, f a0 = some r → ∃ N, p177 N a0 = some r) : EntOK FT XT 177 (en177 f) := by
  have hT : TabOK FT XT (T177) := by
    intro g en hg
    unfold T177 at hg
    split at hg <;> first | (injection hg with hg; subst hg; assumption) | cases hg
  have hO : RawOK FT XT (rawOf (α := ((Sh.sl (Sh.int .u8))).T) (RW177)) := by
    refine rawOf_ok (fun g en hg => ?_)
    unfold RW177 at hg
    split at hg <;> simp only [List.mem_cons, List.not_mem_nil, or_false] at hg <;> first | (subst hg; assumption) | (rcases hg with rfl | rfl <;> assumption) | (rcases hg with rfl | rfl | rfl <;> assumption) | (rcases hg with rfl | rfl | rfl | rfl <;> assumption)
  refine ⟨rfl, fun v r h => ?_⟩
  obtain ⟨a0, _⟩ := v
  obtain ⟨N, h1⟩ := hf _ _ h
  exact ans_c (R := (Sh.sl (Sh.int .u8))) (tab := T177) (raw := (rawOf (RW177))) (LP := W177 N) (fu := fuelC) hT hO rfl rfl (Nat.le_of_ble_eq_true rfl) (loopOK_cons l177_0 (fun s κ a h => o177_0 hT hO N h) (loopOK_cons l177_1 (fun s κ a h => o177_1 hT hO N h) loopOK_nil)) ((e177 N _).trans h1)

def T178 : Nat → Option Ent
  | _ => none
def RW178 : Nat → List REnt
  | _ => []
def W178 (N : Nat) : LoopF (((Sh.ar .u32)).T) := fun no =>
  match no with
  | _ => fun _ _ => none
theorem e178 (N : Nat)  : evc (T178) (rawOf (RW178)) (W178 N) (retc k178.res (Sh.ar .u32)) (modeOf FT) 0 fuelC k178.body (env0 k178 (encL [] ()), []) (endK (retc k178.res (Sh.ar .u32))) = p178 N  := by kernel_rfl
theorem ok178 {f : Option (List Int)} (hf : ∀  r, f  = some r → ∃ N, p178 N  = some r) : EntOK FT XT 178 (en178 f) := by
  have hT : TabOK FT XT (T178) := by
    intro g en hg
    unfold T178 at hg
    split at hg <;> first | (injection hg with hg; subst hg; assumption) | cases hg
  have hO : RawOK FT XT (rawOf (α := ((Sh.ar .u32)).T) (RW178)) := by
    refine rawOf_ok (fun g en hg => ?_)
    unfold RW178 at hg
    split at hg <;> simp only [List.mem_cons, List.not_mem_nil, or_false] at hg <;> first | (subst hg; assumption) | (rcases hg with rfl | rfl <;> assumption) | (rcases hg with rfl | rfl | rfl <;> assumption) | (rcases hg with rfl | rfl | rfl | rfl <;> assumption)
  refine ⟨rfl, fun v r h => ?_⟩
  obtain ⟨N, h1⟩ := hf _ h
  exact ans_c (R := (Sh.ar .u32)) (tab := T178) (raw := (rawOf (RW178))) (LP := W178 N) (fu := fuelC) hT hO rfl rfl (Nat.le_of_ble_eq_true rfl) loopOK_nil ((e178 N ).trans h1)

def T179 : Nat → Option Ent
  | _ => none
def RW179 : Nat → List REnt
  | _ => []
def W179 (N : Nat) : LoopF (((Sh.ar .u32)).T) := fun no =>
  match no with
  | _ => fun _ _ => none
theorem e179 (N : Nat)  : evc (T179) (rawOf (RW179)) (W179 N) (retc k179.res (Sh.ar .u32)) (modeOf FT) 0 fuelC k179.body (env0 k179 (encL [] ()), []) (endK (retc k179.res (Sh.ar .u32))) = p179 N  := by kernel_rfl
theorem ok179 {f : Option (List Int)} (hf : ∀  r, f  = some r → ∃ N, p179 N  = some r) : EntOK FT XT 179 (en179 f) := by
  have hT : TabOK FT XT (T179) := by
    intro g en hg
    unfold T179 at hg
    split at hg <;> first | (injection hg with hg; subst hg; assumption) | cases hg
  have hO : RawOK FT XT (rawOf (α := ((Sh.ar .u32)).T) (RW179)) := by
    refine rawOf_ok (fun g en hg => ?_)
    unfold RW179 at hg
    split at hg <;> simp only [List.mem_cons, List.not_mem_nil, or_false] at hg <;> first | (subst hg; assumption) | (rcases hg with rfl | rfl <;> assumption) | (rcases hg with rfl | rfl | rfl <;> assumption) | (rcases hg with rfl | rfl | rfl | rfl <;> assumption)
  refine ⟨rfl, fun v r h => ?_⟩
  obtain ⟨N, h1⟩ := hf _ h
  exact ans_c (R := (Sh.ar .u32)) (tab := T179) (raw := (rawOf (RW179))) (LP := W179 N) (fu := fuelC) hT hO rfl rfl (Nat.le_of_ble_eq_true rfl) loopOK_nil ((e179 N ).trans h1)

def T181 (c46 : List (List Int) → Option (List Int)) (c176 : Int → Option (List Int)) (c178 : Option (List Int)) (c174 : List Int → List Int → Option (List Int)) : Nat → Option Ent
  | 46 => some (en46 c46)
  | 176 => some (en176 c176)
  | 178 => some (en178 c178)
  | 174 => some (en174 c174)
  | _ => none
def RW181 (c46 : List (List Int) → Option (List Int)) (c176 : Int → Option (List Int)) (c178 : Option (List Int)) (c174 : List Int → List Int → Option (List Int)) : Nat → List REnt
  | _ => []
def H181_1 : Trim := ⟨1, [], false, [2, 4, 5, 27], []⟩
theorem l181_1 : loopN k181 1 = .loop H181_1 (bodyOf (loopN k181 1)) := by kernel_rfl
def P181_1 : Ps := ⟨[(0, .u), (2, (.ptr 0 0)), (3, .u), (4, (.ptr 1 0)), (5, (.ptr 2 0)), (6, .u), (18, .u), (27, (.int .i64)), (28, .u)], [(.ints false .u8), (.ints false .u32), (.ints false .u8)]⟩
def Q181_1 : Nat → Ps
  | 2 => ⟨[(0, .u), (2, (.ptr 0 0)), (3, .u), (4, .u), (5, (.ptr 1 0)), (6, .u), (18, .u), (27, .u), (28, .u)], [(.ints false .u8), (.ints false .u8)]⟩
  | _ => noPs
def u181_1 (c46 : List (List Int) → Option (List Int)) (c176 : Int → Option (List Int)) (c178 : Option (List Int)) (c174 : List Int → List Int → Option (List Int)) (N n : Nat) (v : P181_1.T) (κ : (i : Nat) → (Q181_1 i).T → Option (((Sh.ar .u8)).T)) : Option (((Sh.ar .u8)).T) :=
  L181_1 c46 c176 c178 c174 N (fun (y0 : List Int) (y1 : List Int) => κ 2 (((), ((), ((), ((), ((), ((), ((), ((), ((), ()))))))))), (y0, (y1, ())))) n v.1.2.2.2.2.2.2.2.1 v.2.1 v.2.2.1 v.2.2.2.1
def W181_1 (c46 : List (List Int) → Option (List Int)) (c176 : Int → Option (List Int)) (c178 : Option (List Int)) (c174 : List Int → List Int → Option (List Int)) (N : Nat) : LoopF (((Sh.ar .u8)).T) := fun no =>
  match no with
  | _ => fun _ _ => none
theorem b181_1 (c46 : List (List Int) → Option (List Int)) (c176 : Int → Option (List Int)) (c178 : Option (List Int)) (c174 : List Int → List Int → Option (List Int)) (N n : Nat) (v : P181_1.T) (κ : (i : Nat) → (Q181_1 i).T → Option (((Sh.ar .u8)).T)) :
    evc (T181 c46 c176 c178 c174) (rawOf (RW181 c46 c176 c178 c174)) (W181_1 c46 c176 c178 c174 N) (retc k181.res (Sh.ar .u8)) (modeOf FT) 0 fuelC (bodyOf (loopN k181 1)) (P181_1.st v) (roundK 0 H181_1 P181_1 Q181_1 (u181_1 c46 c176 c178 c174 N n) κ) = u181_1 c46 c176 c178 c174 N (n + 1) v κ := by kernel_rfl
theorem o181_1 (c46 : List (List Int) → Option (List Int)) (c176 : Int → Option (List Int)) (c178 : Option (List Int)) (c174 : List Int → List Int → Option (List Int)) (hT : TabOK FT XT (T181 c46 c176 c178 c174)) (hO : RawOK FT XT (rawOf (α := ((Sh.ar .u8)).T) (RW181 c46 c176 c178 c174))) (N : Nat) {s : St} {κ : Ex → St → Option (((Sh.ar .u8)).T)} {a : ((Sh.ar .u8)).T} (h : lpOf 0 H181_1 P181_1 Q181_1 (u181_1 c46 c176 c178 c174 N N) s κ = some a) : Out FT XT 0 (retc k181.res (Sh.ar .u8)) (loopN k181 1) s κ a := by
  rw [l181_1]
  exact loop_out (LP := W181_1 c46 c176 c178 c174 N) (fu := fuelC) hT hO (fun _ _ => rfl) (b181_1 c46 c176 c178 c174 N) loopOK_nil N h
def H181_0 : Trim := ⟨0, [(3, (Sh.sl (Sh.int .u8)))], false, [2, 3, 4], []⟩
theorem l181_0 : loopN k181 0 = .loop H181_0 (bodyOf (loopN k181 0)) := by kernel_rfl
def P181_0 : Ps := ⟨[(0, .u), (2, (.ptr 0 0)), (3, (.tb (Sh.int .u8))), (4, (.ptr 1 0)), (5, .u), (6, .u), (18, .u), (27, .u), (28, .u)], [(.ints false .u8), (.ints false .u32)]⟩
def Q181_0 : Nat → Ps
  | 0 => ⟨[(0, .u), (2, (.ptr 0 0)), (3, .u), (4, (.ptr 1 0)), (5, .u), (6, .u), (18, .u), (27, .u), (28, .u)], [(.ints false .u8), (.ints false .u32)]⟩
  | _ => noPs
def u181_0 (c46 : List (List Int) → Option (List Int)) (c176 : Int → Option (List Int)) (c178 : Option (List Int)) (c174 : List Int → List Int → Option (List Int)) (N n : Nat) (v : P181_0.T) (κ : (i : Nat) → (Q181_0 i).T → Option (((Sh.ar .u8)).T)) : Option (((Sh.ar .u8)).T) :=
  L181_0 c46 c176 c178 c174 N (fun (y0 : List Int) (y1 : List Int) => κ 0 (((), ((), ((), ((), ((), ((), ((), ((), ((), ()))))))))), (y0, (y1, ())))) n v.1.2.2.1 v.2.1 v.2.2.1
def W181_0 (c46 : List (List Int) → Option (List Int)) (c176 : Int → Option (List Int)) (c178 : Option (List Int)) (c174 : List Int → List Int → Option (List Int)) (N : Nat) : LoopF (((Sh.ar .u8)).T) := fun no =>
  match no with
  | _ => fun _ _ => none
theorem b181_0 (c46 : List (List Int) → Option (List Int)) (c176 : Int → Option (List Int)) (c178 : Option (List Int)) (c174 : List Int → List Int → Option (List Int)) (N n : Nat) (v : P181_0.T) (κ : (i : Nat) → (Q181_0 i).T → Option (((Sh.ar .u8)).T)) :
    evc (T181 c46 c176 c178 c174) (rawOf (RW181 c46 c176 c178 c174)) (W181_0 c46 c176 c178 c174 N) (retc k181.res (Sh.ar .u8)) (modeOf FT) 0 fuelC (bodyOf (loopN k181 0)) (P181_0.st v) (roundK 0 H181_0 P181_0 Q181_0 (u181_0 c46 c176 c178 c174 N n) κ) = u181_0 c46 c176 c178 c174 N (n + 1) v κ := by kernel_rfl
theorem o181_0 (c46 : List (List Int) → Option (List Int)) (c176 : Int → Option (List Int)) (c178 : Option (List Int)) (c174 : List Int → List Int → Option (List Int)) (hT : TabOK FT XT (T181 c46 c176 c178 c174)) (hO : RawOK FT XT (rawOf (α := ((Sh.ar .u8)).T) (RW181 c46 c176 c178 c174))) (N : Nat) {s : St} {κ : Ex → St → Option (((Sh.ar .u8)).T)} {a : ((Sh.ar .u8)).T} (h : lpOf 0 H181_0 P181_0 Q181_0 (u181_0 c46 c176 c178 c174 N N) s κ = some a) : Out FT XT 0 (retc k181.res (Sh.ar .u8)) (loopN k181 0) s κ a := by
  rw [l181_0]
  exact loop_out (LP := W181_0 c46 c176 c178 c174 N) (fu := fuelC) hT hO (fun _ _ => rfl) (b181_0 c46 c176 c178 c174 N) loopOK_nil N h
def W181 (c46 : List (List Int) → Option (List Int)) (c176 : Int → Option (List Int)) (c178 : Option (List Int)) (c174 : List Int → List Int → Option (List Int)) (N : Nat) : LoopF (((Sh.ar .u8)).T) := fun no =>
  match no with
  | 0 => lpOf 0 H181_0 P181_0 Q181_0 (u181_0 c46 c176 c178 c174 N N)
  | 1 => lpOf 0 H181_1 P181_1 Q181_1 (u181_1 c46 c176 c178 c174 N N)
  | _ => fun _ _ => none
theorem e181 (c46 : List (List Int) → Option (List Int)) (c176 : Int → Option (List Int)) (c178 : Option (List Int)) (c174 : List Int → List Int → Option (List Int)) (N : Nat) (a0 : List (List Int)) : evc (T181 c46 c176 c178 c174) (rawOf (RW181 c46 c176 c178 c174)) (W181 c46 c176 c178 c174 N) (retc k181.res (Sh.ar .u8)) (modeOf FT) 0 fuelC k181.body (env0 k181 (encL [(Sh.sl (Sh.sl (Sh.int .u8)))] (a0, ())), []) (endK (retc k181.res (Sh.ar .u8))) = p181 c46 c176 c178 c174 N a0 := by kernel_rfl
theorem ok181 (c46 : List (List Int) → Option (List Int)) (c176 : Int → Option (List Int)) (c178 : Option (List Int)) (c174 : List Int → List Int → Option (List Int)) (h46 : EntOK FT XT 46 (en46 c46)) (h176 : EntOK FT XT 176 (en176 c176)) (h178 : EntOK FT XT 178 (en178 c178)) (h174 : EntOK FT XT 174 (en174 c174)) {f : List (List Int) → Option (List Int)} (hf : ∀ a0 r, f a0 = some r → ∃ N, p181 c46 c176 c178 c174 N a0 = some r) : EntOK FT XT 181 (en181 f) := by
  have hT : TabOK FT XT (T181 c46 c176 c178 c174) := by
    intro g en hg
    unfold T181 at hg
    split at hg <;> first | (injection hg with hg; subst hg; assumption) | cases hg
  have hO : RawOK FT XT (rawOf (α := ((Sh.ar .u8)).T) (RW181 c46 c176 c178 c174)) := by
    refine rawOf_ok (fun g en hg => ?_)
    unfold RW181 at hg
    split at hg <;> simp only [List.mem_cons, List.not_mem_nil, or_false] at hg <;> first | (subst hg; assumption) | (rcases hg with rfl | rfl <;> assumption) | (rcases hg with rfl | rfl | rfl <;> assumption) | (rcases hg with rfl | rfl | rfl | rfl <;> assumption)
  refine ⟨rfl, fun v r h => ?_⟩
  obtain ⟨a0, _⟩ := v
  obtain ⟨N, h1⟩ := hf _ _ h
  exact ans_c (R := (Sh.ar .u8)) (tab := T181 c46 c176 c178 c174) (raw := (rawOf (RW181 c46 c176 c178 c174))) (LP := W181 c46 c176 c178 c174 N) (fu := fuelC) hT hO rfl rfl (Nat.le_of_ble_eq_true rfl) (loopOK_cons l181_0 (fun s κ a h => o181_0 c46 c176 c178 c174 hT hO N h) (loopOK_cons l181_1 (fun s κ a h => o181_1 c46 c176 c178 c174 hT hO N h) loopOK_nil)) ((e181 c46 c176 c178 c174 N _).trans h1)

def T180 (c181 : List (List Int) → Option (List Int)) (c176 : Int → Option (List Int)) (c178 : Option (List Int)) : Nat → Option Ent
  | 181 => some (en181 c181)
  | 176 => some (en176 c176)
  | 178 => some (en178 c178)
  | _ => none
def RW180 (c181 : List (List Int) → Option (List Int)) (c176 : Int → Option (List Int)) (c178 : Option (List Int)) : Nat → List REnt
  | _ => []
def W180 (c181 : List (List Int) → Option (List Int)) (c176 : Int → Option (List Int)) (c178 : Option (List Int)) (N : Nat) : LoopF (Sh.bool).T := fun no =>
  match no with
  | _ => fun _ _ => none
theorem e180 (c181 : List (List Int) → Option (List Int)) (c176 : Int → Option (List Int)) (c178 : Option (List Int)) (N : Nat)  : evc (T180 c181 c176 c178) (rawOf (RW180 c181 c176 c178)) (W180 c181 c176 c178 N) (retc k180.res Sh.bool) (modeOf FT) 0 fuelC k180.body (env0 k180 (encL [] ()), []) (endK (retc k180.res Sh.bool)) = p180 c181 c176 c178 N  := by kernel_rfl
theorem ok180 (c181 : List (List Int) → Option (List Int)) (c176 : Int → Option (List Int)) (c178 : Option (List Int)) (h181 : EntOK FT XT 181 (en181 c181)) (h176 : EntOK FT XT 176 (en176 c176)) (h178 : EntOK FT XT 178 (en178 c178)) {f : Option Bool} (hf : ∀  r, f  = some r → ∃ N, p180 c181 c176 c178 N  = some r) : EntOK FT XT 180 (en180 f) := by
  have hT : TabOK FT XT (T180 c181 c176 c178) := by
    intro g en hg
    unfold T180 at hg
    split at hg <;> first | (injection hg with hg; subst hg; assumption) | cases hg
  have hO : RawOK FT XT (rawOf (α := (Sh.bool).T) (RW180 c181 c176 c178)) := by
    refine rawOf_ok (fun g en hg => ?_)
    unfold RW180 at hg
    split at hg <;> simp only [List.mem_cons, List.not_mem_nil, or_false] at hg <;> first | (subst hg; assumption) | (rcases hg with rfl | rfl <;> assumption) | (rcases hg with rfl | rfl | rfl <;> assumption) | (rcases hg with rfl | rfl | rfl | rfl <;> assumption)
  refine ⟨rfl, fun v r h => ?_⟩
  obtain ⟨N, h1⟩ := hf _ h
  exact ans_c (R := Sh.bool) (tab := T180 c181 c176 c178) (raw := (rawOf (RW180 c181 c176 c178))) (LP := W180 c181 c176 c178 N) (fu := fuelC) hT hO rfl rfl (Nat.le_of_ble_eq_true rfl) loopOK_nil ((e180 c181 c176 c178 N ).trans h1)

def T168 (c174 : List Int → List Int → Option (List Int)) (c175 : List Int → List Int → Option (List Int)) (c176 : Int → Option (List Int)) (c177 : Int → Option (List Int)) (c23 : List Int → List Int → Option Bool) (c178 : Option (List Int)) (c179 : Option (List Int)) (c180 : Option Bool) : Nat → Option Ent
  | 174 => some (en174 c174)
  | 175 => some (en175 c175)
  | 176 => some (en176 c176)
  | 177 => some (en177 c177)
  | 23 => some (en23 c23)
  | 178 => some (en178 c178)
  | 179 => some (en179 c179)
  | 180 => some (en180 c180)
  | _ => none
def RW168 (c174 : List Int → List Int → Option (List Int)) (c175 : List Int → List Int → Option (List Int)) (c176 : Int → Option (List Int)) (c177 : Int → Option (List Int)) (c23 : List Int → List Int → Option Bool) (c178 : Option (List Int)) (c179 : Option (List Int)) (c180 : Option Bool) : Nat → List REnt
  | _ => []
def W168 (c174 : List Int → List Int → Option (List Int)) (c175 : List Int → List Int → Option (List Int)) (c176 : Int → Option (List Int)) (c177 : Int → Option (List Int)) (c23 : List Int → List Int → Option Bool) (c178 : Option (List Int)) (c179 : Option (List Int)) (c180 : Option Bool) (N : Nat) : LoopF (Sh.bool).T := fun no =>
  match no with
  | _ => fun _ _ => none
theorem e168 (c174 : List Int → List Int → Option (List Int)) (c175 : List Int → List Int → Option (List Int)) (c176 : Int → Option (List Int)) (c177 : Int → Option (List Int)) (c23 : List Int → List Int → Option Bool) (c178 : Option (List Int)) (c179 : Option (List Int)) (c180 : Option Bool) (N : Nat) (a0 : List Int) (a1 : List Int) (a2 : Int) : evc (T168 c174 c175 c176 c177 c23 c178 c179 c180) (rawOf (RW168 c174 c175 c176 c177 c23 c178 c179 c180)) (W168 c174 c175 c176 c177 c23 c178 c179 c180 N) (retc k168.res Sh.bool) (modeOf FT) 0 fuelC k168.body (env0 k168 (encL [(Sh.ar .u32), (Sh.ar .u8), (Sh.int .u64)] (a0, (a1, (a2, ())))), []) (endK (retc k168.res Sh.bool)) = p168 c174 c175 c176 c177 c23 c178 c179 c180 N a0 a1 a2 := by kernel_rfl
theorem ok168 (c174 : List Int → List Int → Option (List Int)) (c175 : List Int → List Int → Option (List Int)) (c176 : Int → Option (List Int)) (c177 : Int → Option (List Int)) (c23 : List Int → List Int → Option Bool) (c178 : Option (List Int)) (c179 : Option (List Int)) (c180 : Option Bool) (h174 : EntOK FT XT 174 (en174 c174)) (h175 : EntOK FT XT 175 (en175 c175)) (h176 : EntOK FT XT 176 (en176 c176)) (h177 : EntOK FT XT 177 (en177 c177)) (h23 : EntOK FT XT 23 (en23 c23)) (h178 : EntOK FT XT 178 (en178 c178)) (h179 : EntOK FT XT 179 (en179 c179)) (h180 : EntOK FT XT 180 (en180 c180)) {f : List Int → List Int → Int → Option Bool} (hf : ∀ a0 a1 a2 r, f a0 a1 a2 = some r → ∃ N, p168 c174 c175 c176 c177 c23 c178 c179 c180 N a0 a1 a2 = some r) : EntOK FT XT 168 (en168 f) := by
  have hT : TabOK FT XT (T168 c174 c175 c176 c177 c23 c178 c179 c180) := by
    intro g en hg
    unfold T168 at hg
    split at hg <;> first | (injection hg with hg; subst hg; assumption) | cases hg
  have hO : RawOK FT XT (rawOf (α := (Sh.bool).T) (RW168 c174 c175 c176 c177 c23 c178 c179 c180)) := by
    refine rawOf_ok (fun g en hg => ?_)
    unfold RW168 at hg
    split at hg <;> simp only [List.mem_cons, List.not_mem_nil, or_false] at hg <;> first | (subst hg; assumption) | (rcases hg with rfl | rfl <;> assumption) | (rcases hg with rfl | rfl | rfl <;> assumption) | (rcases hg with rfl | rfl | rfl | rfl <;> assumption)
  refine ⟨rfl, fun v r h => ?_⟩
  obtain ⟨a0, a1, a2, _⟩ := v
  obtain ⟨N, h1⟩ := hf _ _ _ _ h
  exact ans_c (R := Sh.bool) (tab := T168 c174 c175 c176 c177 c23 c178 c179 c180) (raw := (rawOf (RW168 c174 c175 c176 c177 c23 c178 c179 c180))) (LP := W168 c174 c175 c176 c177 c23 c178 c179 c180 N) (fu := fuelC) hT hO rfl rfl (Nat.le_of_ble_eq_true rfl) loopOK_nil ((e168 c174 c175 c176 c177 c23 c178 c179 c180 N _ _ _).trans h1)

def T182 (c177 : Int → Option (List Int)) (c179 : Option (List Int)) (c175 : List Int → List Int → Option (List Int)) : Nat → Option Ent
  | 177 => some (en177 c177)
  | 179 => some (en179 c179)
  | 175 => some (en175 c175)
  | _ => none
def RW182 (c177 : Int → Option (List Int)) (c179 : Option (List Int)) (c175 : List Int → List Int → Option (List Int)) : Nat → List REnt
  | _ => []
def H182_2 : Trim := ⟨2, [], false, [2, 4, 8, 9], []⟩
theorem l182_2 : loopN k182 2 = .loop H182_2 (bodyOf (loopN k182 2)) := by kernel_rfl
def P182_2 : Ps := ⟨[(0, .u), (2, (.ptr 0 0)), (3, .u), (4, (.ptr 1 0)), (5, .u), (6, .u), (7, .u), (8, (.ptr 2 0)), (9, (.int .i64)), (21, .u), (25, .u), (40, .u)], [(.ints false .u8), (.ints false .u32), (.ints false .u8)]⟩
def Q182_2 : Nat → Ps
  | 4 => ⟨[(0, .u), (2, (.ptr 0 0)), (3, .u), (4, .u), (5, .u), (6, .u), (7, .u), (8, (.ptr 1 0)), (9, .u), (21, .u), (25, .u), (40, .u)], [(.ints false .u8), (.ints false .u8)]⟩
  | _ => noPs
def u182_2 (c177 : Int → Option (List Int)) (c179 : Option (List Int)) (c175 : List Int → List Int → Option (List Int)) (N n : Nat) (v : P182_2.T) (κ : (i : Nat) → (Q182_2 i).T → Option (((Sh.ar .u8)).T)) : Option (((Sh.ar .u8)).T) :=
  L182_2 c177 c179 c175 N (fun (y0 : List Int) (y1 : List Int) => κ 4 (((), ((), ((), ((), ((), ((), ((), ((), ((), ((), ((), ((), ())))))))))))), (y0, (y1, ())))) n v.1.2.2.2.2.2.2.2.2.1 v.2.1 v.2.2.1 v.2.2.2.1
def W182_2 (c177 : Int → Option (List Int)) (c179 : Option (List Int)) (c175 : List Int → List Int → Option (List Int)) (N : Nat) : LoopF (((Sh.ar .u8)).T) := fun no =>
  match no with
  | _ => fun _ _ => none
theorem b182_2 (c177 : Int → Option (List Int)) (c179 : Option (List Int)) (c175 : List Int → List Int → Option (List Int)) (N n : Nat) (v : P182_2.T) (κ : (i : Nat) → (Q182_2 i).T → Option (((Sh.ar .u8)).T)) :
    evc (T182 c177 c179 c175) (rawOf (RW182 c177 c179 c175)) (W182_2 c177 c179 c175 N) (retc k182.res (Sh.ar .u8)) (modeOf FT) 0 fuelC (bodyOf (loopN k182 2)) (P182_2.st v) (roundK 0 H182_2 P182_2 Q182_2 (u182_2 c177 c179 c175 N n) κ) = u182_2 c177 c179 c175 N (n + 1) v κ := by kernel_rfl
theorem o182_2 (c177 : Int → Option (List Int)) (c179 : Option (List Int)) (c175 : List Int → List Int → Option (List Int)) (hT : TabOK FT XT (T182 c177 c179 c175)) (hO : RawOK FT XT (rawOf (α := ((Sh.ar .u8)).T) (RW182 c177 c179 c175))) (N : Nat) {s : St} {κ : Ex → St → Option (((Sh.ar .u8)).T)} {a : ((Sh.ar .u8)).T} (h : lpOf 0 H182_2 P182_2 Q182_2 (u182_2 c177 c179 c175 N N) s κ = some a) : Out FT XT 0 (retc k182.res (Sh.ar .u8)) (loopN k182 2) s κ a := by
  rw [l182_2]
  exact loop_out (LP := W182_2 c177 c179 c175 N) (fu := fuelC) hT hO (fun _ _ => rfl) (b182_2 c177 c179 c175 N) loopOK_nil N h
def H182_1 : Trim := ⟨1, [], false, [2, 3, 4, 5, 6, 7], []⟩
theorem l182_1 : loopN k182 1 = .loop H182_1 (bodyOf (loopN k182 1)) := by kernel_rfl
def P182_1 : Ps := ⟨[(0, .u), (2, (.ptr 0 0)), (3, (.sl 1 1)), (4, (.ptr 2 0)), (5, (.int .i64)), (6, (.ptr 3 0)), (7, (.int .i64)), (8, .u), (9, .u), (21, .u), (25, .u), (40, .u)], [(.ints false .u8), (.ints false .u8), (.ints false .u32), (.ints false .u8)]⟩
def Q182_1 : Nat → Ps
  | 2 => ⟨[(0, .u), (2, (.ptr 0 0)), (3, (.sl 1 1)), (4, (.ptr 2 0)), (5, (.int .i64)), (6, (.ptr 3 0)), (7, .u), (8, .u), (9, .u), (21, .u), (25, .u), (40, .u)], [(.ints false .u8), (.ints false .u8), (.ints false .u32), (.ints false .u8)]⟩
  | _ => noPs
def u182_1 (c177 : Int → Option (List Int)) (c179 : Option (List Int)) (c175 : List Int → List Int → Option (List Int)) (N n : Nat) (v : P182_1.T) (κ : (i : Nat) → (Q182_1 i).T → Option (((Sh.ar .u8)).T)) : Option (((Sh.ar .u8)).T) :=
  L182_1 c177 c179 c175 N (fun (y0 : Nat) (y1 : Int) (y2 : List Int) (y3 : List Int) (y4 : List Int) (y5 : List Int) => κ 2 (((), ((), (y0, ((), (y1, ((), ((), ((), ((), ((), ((), ((), ())))))))))))), (y2, (y3, (y4, (y5, ())))))) n v.1.2.2.1 v.1.2.2.2.2.1 v.1.2.2.2.2.2.2.1 v.2.1 v.2.2.1 v.2.2.2.1 v.2.2.2.2.1
def W182_1 (c177 : Int → Option (List Int)) (c179 : Option (List Int)) (c175 : List Int → List Int → Option (List Int)) (N : Nat) : LoopF (((Sh.ar .u8)).T) := fun no =>
  match no with
  | _ => fun _ _ => none
theorem b182_1 (c177 : Int → Option (List Int)) (c179 : Option (List Int)) (c175 : List Int → List Int → Option (List Int)) (N n : Nat) (v : P182_1.T) (κ : (i : Nat) → (Q182_1 i).T → Option (((Sh.ar .u8)).T)) :
    evc (T182 c177 c179 c175) (rawOf (RW182 c177 c179 c175)) (W182_1 c177 c179 c175 N) (retc k182.res (Sh.ar .u8)) (modeOf FT) 0 fuelC (bodyOf (loopN k182 1)) (P182_1.st v) (roundK 0 H182_1 P182_1 Q182_1 (u182_1 c177 c179 c175 N n) κ) = u182_1 c177 c179 c175 N (n + 1) v κ := by kernel_rfl
theorem o182_1 (c177 : Int → Option (List Int)) (c179 : Option (List Int)) (c175 : List Int → List Int → Option (List Int)) (hT : TabOK FT XT (T182 c177 c179 c175)) (hO : RawOK FT XT (rawOf (α := ((Sh.ar .u8)).T) (RW182 c177 c179 c175))) (N : Nat) {s : St} {κ : Ex → St → Option (((Sh.ar .u8)).T)} {a : ((Sh.ar .u8)).T} (h : lpOf 0 H182_1 P182_1 Q182_1 (u182_1 c177 c179 c175 N N) s κ = some a) : Out FT XT 0 (retc k182.res (Sh.ar .u8)) (loopN k182 1) s κ a := by
  rw [l182_1]
  exact loop_out (LP := W182_1 c177 c179 c175 N) (fu := fuelC) hT hO (fun _ _ => rfl) (b182_1 c177 c179 c175 N) loopOK_nil N h
def H182_0 : Trim := ⟨0, [], false, [2, 3, 4, 5], []⟩
theorem l182_0 : loopN k182 0 = .loop H182_0 (bodyOf (loopN k182 0)) := by kernel_rfl
def P182_0 : Ps := ⟨[(0, .u), (2, (.ptr 0 0)), (3, (.sl 1 1)), (4, (.ptr 2 0)), (5, (.int .i64)), (6, .u), (7, .u), (8, .u), (9, .u), (21, .u), (25, .u), (40, .u)], [(.ints false .u8), (.ints false .u8), (.ints false .u32)]⟩
def Q182_0 : Nat → Ps
  | 0 => ⟨[(0, .u), (2, (.ptr 0 0)), (3, .u), (4, (.ptr 1 0)), (5, .u), (6, .u), (7, .u), (8, .u), (9, .u), (21, .u), (25, .u), (40, .u)], [(.ints false .u8), (.ints false .u32)]⟩
  | _ => noPs
def u182_0 (c177 : Int → Option (List Int)) (c179 : Option (List Int)) (c175 : List Int → List Int → Option (List Int)) (N n : Nat) (v : P182_0.T) (κ : (i : Nat) → (Q182_0 i).T → Option (((Sh.ar .u8)).T)) : Option (((Sh.ar .u8)).T) :=
  L182_0 c177 c179 c175 N (fun (y0 : List Int) (y1 : List Int) => κ 0 (((), ((), ((), ((), ((), ((), ((), ((), ((), ((), ((), ((), ())))))))))))), (y0, (y1, ())))) n v.1.2.2.1 v.1.2.2.2.2.1 v.2.1 v.2.2.1 v.2.2.2.1
def W182_0 (c177 : Int → Option (List Int)) (c179 : Option (List Int)) (c175 : List Int → List Int → Option (List Int)) (N : Nat) : LoopF (((Sh.ar .u8)).T) := fun no =>
  match no with
  | 1 => lpOf 0 H182_1 P182_1 Q182_1 (u182_1 c177 c179 c175 N N)
  | _ => fun _ _ => none
theorem b182_0 (c177 : Int → Option (List Int)) (c179 : Option (List Int)) (c175 : List Int → List Int → Option (List Int)) (N n : Nat) (v : P182_0.T) (κ : (i : Nat) → (Q182_0 i).T → Option (((Sh.ar .u8)).T)) :
    evc (T182 c177 c179 c175) (rawOf (RW182 c177 c179 c175)) (W182_0 c177 c179 c175 N) (retc k182.res (Sh.ar .u8)) (modeOf FT) 0 fuelC (bodyOf (loopN k182 0)) (P182_0.st v) (roundK 0 H182_0 P182_0 Q182_0 (u182_0 c177 c179 c175 N n) κ) = u182_0 c177 c179 c175 N (n + 1) v κ := by kernel_rfl
theorem o182_0 (c177 : Int → Option (List Int)) (c179 : Option (List Int)) (c175 : List Int → List Int → Option (List Int)) (hT : TabOK FT XT (T182 c177 c179 c175)) (hO : RawOK FT XT (rawOf (α := ((Sh.ar .u8)).T) (RW182 c177 c179 c175))) (N : Nat) {s : St} {κ : Ex → St → Option (((Sh.ar .u8)).T)} {a : ((Sh.ar .u8)).T} (h : lpOf 0 H182_0 P182_0 Q182_0 (u182_0 c177 c179 c175 N N) s κ = some a) : Out FT XT 0 (retc k182.res (Sh.ar .u8)) (loopN k182 0) s κ a := by
  rw [l182_0]
  exact loop_out (LP := W182_0 c177 c179 c175 N) (fu := fuelC) hT hO (fun _ _ => rfl) (b182_0 c177 c179 c175 N) (loopOK_cons l182_1 (fun s κ a h => o182_1 c177 c179 c175 hT hO N h) loopOK_nil) N h
def W182 (c177 : Int → Option (List Int)) (c179 : Option (List Int)) (c175 : List Int → List Int → Option (List Int)) (N : Nat) : LoopF (((Sh.ar .u8)).T) := fun no =>
  match no with
  | 0 => lpOf 0 H182_0 P182_0 Q182_0 (u182_0 c177 c179 c175 N N)
  | 2 => lpOf 0 H182_2 P182_2 Q182_2 (u182_2 c177 c179 c175 N N)
  | _ => fun _ _ => none
theorem e182 (c177 : Int → Option (List Int)) (c179 : Option (List Int)) (c175 : List Int → List Int → Option (List Int)) (N : Nat) (a0 : List Int) : evc (T182 c177 c179 c175) (rawOf (RW182 c177 c179 c175)) (W182 c177 c179 c175 N) (retc k182.res (Sh.ar .u8)) (modeOf FT) 0 fuelC k182.body (env0 k182 (encL [(Sh.sl (Sh.int .u8))] (a0, ())), []) (endK (retc k182.res (Sh.ar .u8))) = p182 c177 c179 c175 N a0 := by kernel_rfl
theorem ok182 (c177 : Int → Option (List Int)) (c179 : Option (List Int)) (c175 : List Int → List Int → Option (List Int)) (h177 : EntOK FT XT 177 (en177 c177)) (h179 : EntOK FT XT 179 (en179 c179)) (h175 : EntOK FT XT 175 (en175 c175)) {f : List Int → Option (List Int)} (hf : ∀ a0 r, f a0 = some r → ∃ N, p182 c177 c179 c175 N a0 = some r) : EntOK FT XT 182 (en182 f) := by
  have hT : TabOK FT XT (T182 c177 c179 c175) := by
    intro g en hg
    unfold T182 at hg
    split at hg <;> first | (injection hg with hg; subst hg; assumption) | cases hg
  have hO : RawOK FT XT (rawOf (α := ((Sh.ar .u8)).T) (RW182 c177 c179 c175)) := by
    refine rawOf_ok (fun g en hg => ?_)
    unfold RW182 at hg
    split at hg <;> simp only [List.mem_cons, List.not_mem_nil, or_false] at hg <;> first | (subst hg; assumption) | (rcases hg with rfl | rfl <;> assumption) | (rcases hg with rfl | rfl | rfl <;> assumption) | (rcases hg with rfl | rfl | rfl | rfl <;> assumption)
  refine ⟨rfl, fun v r h => ?_⟩
  obtain ⟨a0, _⟩ := v
  obtain ⟨N, h1⟩ := hf _ _ h
  exact ans_c (R := (Sh.ar .u8)) (tab := T182 c177 c179 c175) (raw := (rawOf (RW182 c177 c179 c175))) (LP := W182 c177 c179 c175 N) (fu := fuelC) hT hO rfl rfl (Nat.le_of_ble_eq_true rfl) (loopOK_cons l182_0 (fun s κ a h => o182_0 c177 c179 c175 hT hO N h) (loopOK_cons l182_2 (fun s κ a h => o182_2 c177 c179 c175 hT hO N h) loopOK_nil)) ((e182 c177 c179 c175 N _).trans h1)

def T169 (c180 : Option Bool) (c181 : List (List Int) → Option (List Int)) (c182 : List Int → Option (List Int)) : Nat → Option Ent
  | 180 => some (en180 c180)
  | 181 => some (en181 c181)
  | 182 => some (en182 c182)
  | _ => none
def RW169 (c180 : Option Bool) (c181 : List (List Int) → Option (List Int)) (c182 : List Int → Option (List Int)) : Nat → List REnt
  | _ => []
def W169 (c180 : Option Bool) (c181 : List (List Int) → Option (List Int)) (c182 : List Int → Option (List Int)) (N : Nat) : LoopF (Sh.bool).T := fun no =>
  match no with
  | _ => fun _ _ => none
theorem e169 (c180 : Option Bool) (c181 : List (List Int) → Option (List Int)) (c182 : List Int → Option (List Int)) (N : Nat) (a0 : List Int) : evc (T169 c180 c181 c182) (rawOf (RW169 c180 c181 c182)) (W169 c180 c181 c182 N) (retc k169.res Sh.bool) (modeOf FT) 0 fuelC k169.body (env0 k169 (encL [(Sh.sl (Sh.int .u8))] (a0, ())), []) (endK (retc k169.res Sh.bool)) = p169 c180 c181 c182 N a0 := by kernel_rfl
theorem ok169 (c180 : Option Bool) (c181 : List (List Int) → Option (List Int)) (c182 : List Int → Option (List Int)) (h180 : EntOK FT XT 180 (en180 c180)) (h181 : EntOK FT XT 181 (en181 c181)) (h182 : EntOK FT XT 182 (en182 c182)) {f : List Int → Option Bool} (hf : ∀ a0 r, f a0 = some r → ∃ N, p169 c180 c181 c182 N a0 = some r) : EntOK FT XT 169 (en169 f) := by
  have hT : TabOK FT XT (T169 c180 c181 c182) := by
    intro g en hg
    unfold T169 at hg
    split at hg <;> first | (injection hg with hg; subst hg; assumption) | cases hg
  have hO : RawOK FT XT (rawOf (α := (Sh.bool).T) (RW169 c180 c181 c182)) := by
    refine rawOf_ok (fun g en hg => ?_)
    unfold RW169 at hg
    split at hg <;> simp only [List.mem_cons, List.not_mem_nil, or_false] at hg <;> first | (subst hg; assumption) | (rcases hg with rfl | rfl <;> assumption) | (rcases hg with rfl | rfl | rfl <;> assumption) | (rcases hg with rfl | rfl | rfl | rfl <;> assumption)
  refine ⟨rfl, fun v r h => ?_⟩
  obtain ⟨a0, _⟩ := v
  obtain ⟨N, h1⟩ := hf _ _ h
  exact ans_c (R := Sh.bool) (tab := T169 c180 c181 c182) (raw := (rawOf (RW169 c180 c181 c182))) (LP := W169 c180 c181 c182 N) (fu := fuelC) hT hO rfl rfl (Nat.le_of_ble_eq_true rfl) loopOK_nil ((e169 c180 c181 c182 N _).trans h1)

def T170 (c180 : Option Bool) (c176 : Int → Option (List Int)) (c178 : Option (List Int)) (c174 : List Int → List Int → Option (List Int)) (c181 : List (List Int) → Option (List Int)) : Nat → Option Ent
  | 180 => some (en180 c180)
  | 176 => some (en176 c176)
  | 178 => some (en178 c178)
  | 174 => some (en174 c174)
  | 181 => some (en181 c181)
  | _ => none
def RW170 (c180 : Option Bool) (c176 : Int → Option (List Int)) (c178 : Option (List Int)) (c174 : List Int → List Int → Option (List Int)) (c181 : List (List Int) → Option (List Int)) : Nat → List REnt
  | _ => []
def H170_1 : Trim := ⟨1, [(9, (Sh.sl (Sh.int .u8)))], false, [0, 3, 8, 9], []⟩
theorem l170_1 : loopN k170 1 = .loop H170_1 (bodyOf (loopN k170 1)) := by kernel_rfl
def P170_1 : Ps := ⟨[(0, (.tb (Sh.sl (Sh.int .u8)))), (2, .u), (3, (.sl 0 1)), (5, .u), (6, .u), (7, .u), (8, (.ptr 1 0)), (9, (.tb (Sh.int .u8))), (10, .u), (13, .u), (15, .u), (16, .u), (17, .u), (18, .u), (23, .u), (55, .u), (63, .u)], [(.ints false .u8), (.ints false .u32)]⟩
def Q170_1 : Nat → Ps
  | 2 => ⟨[(0, (.tb (Sh.sl (Sh.int .u8)))), (2, .u), (3, (.sl 0 1)), (5, .u), (6, .u), (7, .u), (8, (.ptr 1 0)), (9, .u), (10, .u), (13, .u), (15, .u), (16, .u), (17, .u), (18, .u), (23, .u), (55, .u), (63, .u)], [(.ints false .u8), (.ints false .u32)]⟩
  | _ => noPs
def u170_1 (c180 : Option Bool) (c176 : Int → Option (List Int)) (c178 : Option (List Int)) (c174 : List Int → List Int → Option (List Int)) (c181 : List (List Int) → Option (List Int)) (N n : Nat) (v : P170_1.T) (κ : (i : Nat) → (Q170_1 i).T → Option (Sh.bool).T) : Option (Sh.bool).T :=
  L170_1 c180 c176 c178 c174 c181 N (fun (y0 : List (List Int)) (y1 : Nat) (y2 : List Int) (y3 : List Int) => κ 2 ((y0, ((), (y1, ((), ((), ((), ((), ((), ((), ((), ((), ((), ((), ((), ((), ((), ((), ()))))))))))))))))), (y2, (y3, ())))) n v.1.1 v.1.2.2.1 v.1.2.2.2.2.2.2.2.1 v.2.1 v.2.2.1
def W170_1 (c180 : Option Bool) (c176 : Int → Option (List Int)) (c178 : Option (List Int)) (c174 : List Int → List Int → Option (List Int)) (c181 : List (List Int) → Option (List Int)) (N : Nat) : LoopF (Sh.bool).T := fun no =>
  match no with
  | _ => fun _ _ => none
theorem b170_1 (c180 : Option Bool) (c176 : Int → Option (List Int)) (c178 : Option (List Int)) (c174 : List Int → List Int → Option (List Int)) (c181 : List (List Int) → Option (List Int)) (N n : Nat) (v : P170_1.T) (κ : (i : Nat) → (Q170_1 i).T → Option (Sh.bool).T) :
    evc (T170 c180 c176 c178 c174 c181) (rawOf (RW170 c180 c176 c178 c174 c181)) (W170_1 c180 c176 c178 c174 c181 N) (retc k170.res Sh.bool) (modeOf FT) 0 fuelC (bodyOf (loopN k170 1)) (P170_1.st v) (roundK 0 H170_1 P170_1 Q170_1 (u170_1 c180 c176 c178 c174 c181 N n) κ) = u170_1 c180 c176 c178 c174 c181 N (n + 1) v κ := by kernel_rfl
theorem o170_1 (c180 : Option Bool) (c176 : Int → Option (List Int)) (c178 : Option (List Int)) (c174 : List Int → List Int → Option (List Int)) (c181 : List (List Int) → Option (List Int)) (hT : TabOK FT XT (T170 c180 c176 c178 c174 c181)) (hO : RawOK FT XT (rawOf (α := (Sh.bool).T) (RW170 c180 c176 c178 c174 c181))) (N : Nat) {s : St} {κ : Ex → St → Option (Sh.bool).T} {a : (Sh.bool).T} (h : lpOf 0 H170_1 P170_1 Q170_1 (u170_1 c180 c176 c178 c174 c181 N N) s κ = some a) : Out FT XT 0 (retc k170.res Sh.bool) (loopN k170 1) s κ a := by
  rw [l170_1]
  exact loop_out (LP := W170_1 c180 c176 c178 c174 c181 N) (fu := fuelC) hT hO (fun _ _ => rfl) (b170_1 c180 c176 c178 c174 c181 N) loopOK_nil N h
def H170_0 : Trim := ⟨0, [], false, [0, 3, 15, 16, 17], [(3, (.ints .u8 []), 1)]⟩
theorem l170_0 : loopN k170 0 = .loop H170_0 (bodyOf (loopN k170 0)) := by kernel_rfl
def P170_0 : Ps := ⟨[(0, (.tb (Sh.sl (Sh.int .u8)))), (2, .u), (3, (.sl 0 1)), (5, .u), (6, .u), (7, .u), (8, .u), (9, .u), (10, .u), (13, .u), (15, (.tb (Sh.sl (Sh.int .u8)))), (16, (.int .i64)), (17, (.int .i64)), (18, .u), (23, .u), (55, .u), (63, .u)], [(.ints false .u8)]⟩
def Q170_0 : Nat → Ps
  | 0 => ⟨[(0, (.tb (Sh.sl (Sh.int .u8)))), (2, .u), (3, (.sl 0 1)), (5, .u), (6, .u), (7, .u), (8, .u), (9, .u), (10, .u), (13, .u), (15, .u), (16, .u), (17, .u), (18, .u), (23, .u), (55, .u), (63, .u)], [(.ints false .u8)]⟩
  | _ => noPs
def u170_0 (c180 : Option Bool) (c176 : Int → Option (List Int)) (c178 : Option (List Int)) (c174 : List Int → List Int → Option (List Int)) (c181 : List (List Int) → Option (List Int)) (N n : Nat) (v : P170_0.T) (κ : (i : Nat) → (Q170_0 i).T → Option (Sh.bool).T) : Option (Sh.bool).T :=
  L170_0 c180 c176 c178 c174 c181 N (fun (y0 : List (List Int)) (y1 : Nat) (y2 : List Int) => κ 0 ((y0, ((), (y1, ((), ((), ((), ((), ((), ((), ((), ((), ((), ((), ((), ((), ((), ((), ()))))))))))))))))), (y2, ()))) n v.1.1 v.1.2.2.1 v.1.2.2.2.2.2.2.2.2.2.2.1 v.1.2.2.2.2.2.2.2.2.2.2.2.1 v.1.2.2.2.2.2.2.2.2.2.2.2.2.1 v.2.1
def W170_0 (c180 : Option Bool) (c176 : Int → Option (List Int)) (c178 : Option (List Int)) (c174 : List Int → List Int → Option (List Int)) (c181 : List (List Int) → Option (List Int)) (N : Nat) : LoopF (Sh.bool).T := fun no =>
  match no with
  | _ => fun _ _ => none
theorem b170_0 (c180 : Option Bool) (c176 : Int → Option (List Int)) (c178 : Option (List Int)) (c174 : List Int → List Int → Option (List Int)) (c181 : List (List Int) → Option (List Int)) (N n : Nat) (v : P170_0.T) (κ : (i : Nat) → (Q170_0 i).T → Option (Sh.bool).T) :
    evc (T170 c180 c176 c178 c174 c181) (rawOf (RW170 c180 c176 c178 c174 c181)) (W170_0 c180 c176 c178 c174 c181 N) (retc k170.res Sh.bool) (modeOf FT) 0 fuelC (bodyOf (loopN k170 0)) (P170_0.st v) (roundK 0 H170_0 P170_0 Q170_0 (u170_0 c180 c176 c178 c174 c181 N n) κ) = u170_0 c180 c176 c178 c174 c181 N (n + 1) v κ := by kernel_rfl
theorem o170_0 (c180 : Option Bool) (c176 : Int → Option (List Int)) (c178 : Option (List Int)) (c174 : List Int → List Int → Option (List Int)) (c181 : List (List Int) → Option (List Int)) (hT : TabOK FT XT (T170 c180 c176 c178 c174 c181)) (hO : RawOK FT XT (rawOf (α := (Sh.bool).T) (RW170 c180 c176 c178 c174 c181))) (N : Nat) {s : St} {κ : Ex → St → Option (Sh.bool).T} {a : (Sh.bool).T} (h : lpOf 0 H170_0 P170_0 Q170_0 (u170_0 c180 c176 c178 c174 c181 N N) s κ = some a) : Out FT XT 0 (retc k170.res Sh.bool) (loopN k170 0) s κ a := by
  rw [l170_0]
  exact loop_out (LP := W170_0 c180 c176 c178 c174 c181 N) (fu := fuelC) hT hO (fun _ _ => rfl) (b170_0 c180 c176 c178 c174 c181 N) loopOK_nil N h
def W170 (c180 : Option Bool) (c176 : Int → Option (List Int)) (c178 : Option (List Int)) (c174 : List Int → List Int → Option (List Int)) (c181 : List (List Int) → Option (List Int)) (N : Nat) : LoopF (Sh.bool).T := fun no =>
  match no with
  | 0 => lpOf 0 H170_0 P170_0 Q170_0 (u170_0 c180 c176 c178 c174 c181 N N)
  | 1 => lpOf 0 H170_1 P170_1 Q170_1 (u170_1 c180 c176 c178 c174 c181 N N)
  | _ => fun _ _ => none
theorem e170 (c180 : Option Bool) (c176 : Int → Option (List Int)) (c178 : Option (List Int)) (c174 : List Int → List Int → Option (List Int)) (c181 : List (List Int) → Option (List Int)) (N : Nat) (a0 : List (List Int)) : evc (T170 c180 c176 c178 c174 c181) (rawOf (RW170 c180 c176 c178 c174 c181)) (W170 c180 c176 c178 c174 c181 N) (retc k170.res Sh.bool) (modeOf FT) 0 fuelC k170.body (env0 k170 (encL [(Sh.sl (Sh.sl (Sh.int .u8)))] (a0, ())), []) (endK (retc k170.res Sh.bool)) = p170 c180 c176 c178 c174 c181 N a0 := by kernel_rfl
theorem ok170 (c180 : Option Bool) (c176 : Int → Option (List Int)) (c178 : Option (List Int)) (c174 : List Int → List Int → Option (List Int)) (c181 : List (List Int) → Option (List Int)) (h180 : EntOK FT XT 180 (en180 c180)) (h176 : EntOK FT XT 176 (en176 c176)) (h178 : EntOK FT XT 178 (en178 c178)) (h174 : EntOK FT XT 174 (en174 c174)) (h181 : EntOK FT XT 181 (en181 c181)) {f : List (List Int) → Option Bool} (hf : ∀ a0 r, f a0 = some r → ∃ N, p170 c180 c176 c178 c174 c181 N a0 = some r) : EntOK FT XT 170 (en170 f) := by
  have hT : TabOK FT XT (T170 c180 c176 c178 c174 c181) := by
    intro g en hg
    unfold T170 at hg
    split at hg <;> first | (injection hg with hg; subst hg; assumption) | cases hg
  have hO : RawOK FT XT (rawOf (α := (Sh.bool).T) (RW170 c180 c176 c178 c174 c181)) := by
    refine rawOf_ok (fun g en hg => ?_)
    unfold RW170 at hg
    split at hg <;> simp only [List.mem_cons, List.not_mem_nil, or_false] at hg <;> first | (subst hg; assumption) | (rcases hg with rfl | rfl <;> assumption) | (rcases hg with rfl | rfl | rfl <;> assumption) | (rcases hg with rfl | rfl | rfl | rfl <;> assumption)
  refine ⟨rfl, fun v r h => ?_⟩
  obtain ⟨a0, _⟩ := v
  obtain ⟨N, h1⟩ := hf _ _ h
  exact ans_c (R := Sh.bool) (tab := T170 c180 c176 c178 c174 c181) (raw := (rawOf (RW170 c180 c176 c178 c174 c181))) (LP := W170 c180 c176 c178 c174 c181 N) (fu := fuelC) hT hO rfl rfl (Nat.le_of_ble_eq_true rfl) (loopOK_cons l170_0 (fun s κ a h => o170_0 c180 c176 c178 c174 c181 hT hO N h) (loopOK_cons l170_1 (fun s κ a h => o170_1 c180 c176 c178 c174 c181 hT hO N h) loopOK_nil)) ((e170 c180 c176 c178 c174 c181 N _).trans h1)

def T199 (c21 : List Int → Bool → Option (Int × Int)) (c195 : Int → Int → Option Int) : Nat → Option Ent
  | 21 => some (en21 c21)
  | 195 => some (en195 c195)
  | _ => none
def RW199 (c21 : List Int → Bool → Option (Int × Int)) (c195 : Int → Int → Option Int) : Nat → List REnt
  | _ => []
def H199_0 : Trim := ⟨0, [], false, [1, 2, 3, 7], []⟩
theorem l199_0 : loopN k199 0 = .loop H199_0 (bodyOf (loopN k199 0)) := by kernel_rfl
def P199_0 : Ps := ⟨[(0, .u), (1, (.ptr 0 0)), (2, (.ptr 1 0)), (3, (.ptr 2 0)), (4, .u), (5, .u), (7, (.int .i64)), (8, .u), (11, .u)], [(.ints false .u8), (.ints false .u32), (.ints false .u32)]⟩
def Q199_0 : Nat → Ps
  | 0 => ⟨[(0, .u), (1, .u), (2, (.ptr 0 0)), (3, (.ptr 1 0)), (4, .u), (5, .u), (7, .u), (8, .u), (11, .u)], [(.ints false .u32), (.ints false .u32)]⟩
  | _ => noPs
def u199_0 (c21 : List Int → Bool → Option (Int × Int)) (c195 : Int → Int → Option Int) (N n : Nat) (v : P199_0.T) (κ : (i : Nat) → (Q199_0 i).T → Option (((Sh.ar .u32)).T)) : Option (((Sh.ar .u32)).T) :=
  L199_0 c21 c195 N (fun (y0 : List Int) (y1 : List Int) => κ 0 (((), ((), ((), ((), ((), ((), ((), ((), ((), ()))))))))), (y0, (y1, ())))) n v.1.2.2.2.2.2.2.1 v.2.1 v.2.2.1 v.2.2.2.1
def W199_0 (c21 : List Int → Bool → Option (Int × Int)) (c195 : Int → Int → Option Int) (N : Nat) : LoopF (((Sh.ar .u32)).T) := fun no =>
  match no with
  | _ => fun _ _ => none
theorem b199_0 (c21 : List Int → Bool → Option (Int × Int)) (c195 : Int → Int → Option Int) (N n : Nat) (v : P199_0.T) (κ : (i : Nat) → (Q199_0 i).T → Option (((Sh.ar .u32)).T)) :
    evc (T199 c21 c195) (rawOf (RW199 c21 c195)) (W199_0 c21 c195 N) (retc k199.res (Sh.ar .u32)) (modeOf FT) 0 fuelC (bodyOf (loopN k199 0)) (P199_0.st v) (roundK 0 H199_0 P199_0 Q199_0 (u199_0 c21 c195 N n) κ) = u199_0 c21 c195 N (n + 1) v κ := by kernel_rfl
theorem o199_0 (c21 : List Int → Bool → Option (Int × Int)) (c195 : Int → Int → Option Int) (hT : TabOK FT XT (T199 c21 c195)) (hO : RawOK FT XT (rawOf (α := ((Sh.ar .u32)).T) (RW199 c21 c195))) (N : Nat) {s : St} {κ : Ex → St → Option (((Sh.ar .u32)).T)} {a : ((Sh.ar .u32)).T} (h : lpOf 0 H199_0 P199_0 Q199_0 (u199_0 c21 c195 N N) s κ = some a) : Out FT XT 0 (retc k199.res (Sh.ar .u32)) (loopN k199 0) s κ a := by
  rw [l199_0]
  exact loop_out (LP := W199_0 c21 c195 N) (fu := fuelC) hT hO (fun _ _ => rfl) (b199_0 c21 c195 N) loopOK_nil N h
def W199 (c21 : List Int → Bool → Option (Int × Int)) (c195 : Int → Int → Option Int) (N : Nat) : LoopF (((Sh.ar .u32)).T) := fun no =>
  match no with
  | 0 => lpOf 0 H199_0 P199_0 Q199_0 (u199_0 c21 c195 N N)
  | _ => fun _ _ => none
theorem e199 (c21 : List Int → Bool → Option (Int × Int)) (c195 : Int → Int → Option Int) (N : Nat) (a0 : List Int) : evc (T199 c21 c195) (rawOf (RW199 c21 c195)) (W199 c21 c195 N) (retc k199.res (Sh.ar .u32)) (modeOf FT) 0 fuelC k199.body (env0 k199 (encL [(Sh.ar .u8)] (a0, ())), []) (endK (retc k199.res (Sh.ar .u32))) = p199 c21 c195 N a0 := by kernel_rfl
theorem ok199 (c21 : List Int → Bool → Option (Int × Int)) (c195 : Int → Int → Option Int) (h21 : EntOK FT XT 21 (en21 c21)) (h195 : EntOK FT XT 195 (en195 c195)) {f : List Int → Option (List Int)} (hf : ∀ a0 r, f a0 = some r → ∃ N, p199 c21 c195 N a0 = some r) : EntOK FT XT 199 (en199 f) := by
  have hT : TabOK FT XT (T199 c21 c195) := by
    intro g en hg
    unfold T199 at hg
    split at hg <;> first | (injection hg with hg; subst hg; assumption) | cases hg
  have hO : RawOK FT XT (rawOf (α := ((Sh.ar .u32)).T) (RW199 c21 c195)) := by
    refine rawOf_ok (fun g en hg => ?_)
    unfold RW199 at hg
    split at hg <;> simp only [List.mem_cons, List.not_mem_nil, or_false] at hg <;> first | (subst hg; assumption) | (rcases hg with rfl | rfl <;> assumption) | (rcases hg with rfl | rfl | rfl <;> assumption) | (rcases hg with rfl | rfl | rfl | rfl <;> assumption)
  refine ⟨rfl, fun v r h => ?_⟩
  obtain ⟨a0, _⟩ := v
  obtain ⟨N, h1⟩ := hf _ _ h
  exact ans_c (R := (Sh.ar .u32)) (tab := T199 c21 c195) (raw := (rawOf (RW199 c21 c195))) (LP := W199 c21 c195 N) (fu := fuelC) hT hO rfl rfl (Nat.le_of_ble_eq_true rfl) (loopOK_cons l199_0 (fun s κ a h => o199_0 c21 c195 hT hO N h) loopOK_nil) ((e199 c21 c195 N _).trans h1)

def T200 (c75 : Int → Int → Int → Option (Int × Int)) : Nat → Option Ent
  | 75 => some (en75 c75)
  | _ => none
def RW200 (c75 : Int → Int → Int → Option (Int × Int)) : Nat → List REnt
  | _ => []
def H200_0 : Trim := ⟨0, [], false, [0, 1, 6, 7], []⟩
theorem l200_0 : loopN k200 0 = .loop H200_0 (bodyOf (loopN k200 0)) := by kernel_rfl
def P200_0 : Ps := ⟨[(0, (.ptr 0 0)), (1, (.ptr 1 0)), (2, .u), (3, .u), (4, .u), (6, (.ar .i64)), (7, (.int .i64)), (8, .u)], [(.ints false .u32), (.ints false .u32)]⟩
def Q200_0 : Nat → Ps
  | 0 => ⟨[(0, (.ptr 0 0)), (1, (.ptr 1 0)), (2, .u), (3, .u), (4, .u), (6, .u), (7, .u), (8, .u)], [(.ints false .u32), (.ints false .u32)]⟩
  | _ => noPs
def u200_0 (c75 : Int → Int → Int → Option (Int × Int)) (N n : Nat) (v : P200_0.T) (κ : (i : Nat) → (Q200_0 i).T → Option (((Sh.ar .u32)).T)) : Option (((Sh.ar .u32)).T) :=
  L200_0 c75 N (fun (y0 : List Int) (y1 : List Int) => κ 0 (((), ((), ((), ((), ((), ((), ((), ((), ())))))))), (y0, (y1, ())))) n v.1.2.2.2.2.2.1 v.1.2.2.2.2.2.2.1 v.2.1 v.2.2.1
def W200_0 (c75 : Int → Int → Int → Option (Int × Int)) (N : Nat) : LoopF (((Sh.ar .u32)).T) := fun no =>
  match no with
  | _ => fun _ _ => none
theorem b200_0 (c75 : Int → Int → Int → Option (Int × Int)) (N n : Nat) (v : P200_0.T) (κ : (i : Nat) → (Q200_0 i).T → Option (((Sh.ar .u32)).T)) :
    evc (T200 c75) (rawOf (RW200 c75)) (W200_0 c75 N) (retc k200.res (Sh.ar .u32)) (modeOf FT) 0 fuelC (bodyOf (loopN k200 0)) (P200_0.st v) (roundK 0 H200_0 P200_0 Q200_0 (u200_0 c75 N n) κ) = u200_0 c75 N (n + 1) v κ := by kernel_rfl
theorem o200_0 (c75 : Int → Int → Int → Option (Int × Int)) (hT : TabOK FT XT (T200 c75)) (hO : RawOK FT XT (rawOf (α := ((Sh.ar .u32)).T) (RW200 c75))) (N : Nat) {s : St} {κ : Ex → St → Option (((Sh.ar .u32)).T)} {a : ((Sh.ar .u32)).T} (h : lpOf 0 H200_0 P200_0 Q200_0 (u200_0 c75 N N) s κ = some a) : Out FT XT 0 (retc k200.res (Sh.ar .u32)) (loopN k200 0) s κ a := by
  rw [l200_0]
  exact loop_out (LP := W200_0 c75 N) (fu := fuelC) hT hO (fun _ _ => rfl) (b200_0 c75 N) loopOK_nil N h
def W200 (c75 : Int → Int → Int → Option (Int × Int)) (N : Nat) : LoopF (((Sh.ar .u32)).T) := fun no =>
  match no with
  | 0 => lpOf 0 H200_0 P200_0 Q200_0 (u200_0 c75 N N)
  | _ => fun _ _ => none
theorem e200 (c75 : Int → Int → Int → Option (Int × Int)) (N : Nat)  : evc (T200 c75) (rawOf (RW200 c75)) (W200 c75 N) (retc k200.res (Sh.ar .u32)) (modeOf FT) 0 fuelC k200.body (env0 k200 (encL [] ()), []) (endK (retc k200.res (Sh.ar .u32))) = p200 c75 N  := by kernel_rfl
theorem ok200 (c75 : Int → Int → Int → Option (Int × Int)) (h75 : EntOK FT XT 75 (en75 c75)) {f : Option (List Int)} (hf : ∀  r, f  = some r → ∃ N, p200 c75 N  = some r) : EntOK FT XT 200 (en200 f) := by
  have hT : TabOK FT XT (T200 c75) := by
    intro g en hg
    unfold T200 at hg
    split at hg <;> first | (injection hg with hg; subst hg; assumption) | cases hg
  have hO : RawOK FT XT (rawOf (α := ((Sh.ar .u32)).T) (RW200 c75)) := by
    refine rawOf_ok (fun g en hg => ?_)
    unfold RW200 at hg
    split at hg <;> simp only [List.mem_cons, List.not_mem_nil, or_false] at hg <;> first | (subst hg; assumption) | (rcases hg with rfl | rfl <;> assumption) | (rcases hg with rfl | rfl | rfl <;> assumption) | (rcases hg with rfl | rfl | rfl | rfl <;> assumption)
  refine ⟨rfl, fun v r h => ?_⟩
  obtain ⟨N, h1⟩ := hf _ h
  exact ans_c (R := (Sh.ar .u32)) (tab := T200 c75) (raw := (rawOf (RW200 c75))) (LP := W200 c75 N) (fu := fuelC) hT hO rfl rfl (Nat.le_of_ble_eq_true rfl) (loopOK_cons l200_0 (fun s κ a h => o200_0 c75 hT hO N h) loopOK_nil) ((e200 c75 N ).trans h1)

def T201 : Nat → Option Ent
  | _ => none
def RW201 : Nat → List REnt
  | _ => []
def W201 (N : Nat) : LoopF (((Sh.int .u32)).T) := fun no =>
  match no with
  | _ => fun _ _ => none
theorem e201 (N : Nat) (a0 : Int) (a1 : Int) (a2 : Int) (a3 : Int) : evc (T201) (rawOf (RW201)) (W201 N) (retc k201.res (Sh.int .u32)) (modeOf FT) 0 fuelC k201.body (env0 k201 (encL [(Sh.int .i64), (Sh.int .u32), (Sh.int .u32), (Sh.int .u32)] (a0, (a1, (a2, (a3, ()))))), []) (endK (retc k201.res (Sh.int .u32))) = p201 N a0 a1 a2 a3 := by kernel_rfl
theorem ok201 {f : Int → Int → Int → Int → Option Int} (hf : ∀ a0 a1 a2 a3 r, f a0 a1 a2 a3 = some r → ∃ N, p201 N a0 a1 a2 a3 = some r) : EntOK FT XT 201 (en201 f) := by
  have hT : TabOK FT XT (T201) := by
    intro g en hg
    unfold T201 at hg
    split at hg <;> first | (injection hg with hg; subst hg; assumption) | cases hg
  have hO : RawOK FT XT (rawOf (α := ((Sh.int .u32)).T) (RW201)) := by
    refine rawOf_ok (fun g en hg => ?_)
    unfold RW201 at hg
    split at hg <;> simp only [List.mem_cons, List.not_mem_nil, or_false] at hg <;> first | (subst hg; assumption) | (rcases hg with rfl | rfl <;> assumption) | (rcases hg with rfl | rfl | rfl <;> assumption) | (rcases hg with rfl | rfl | rfl | rfl <;> assumption)
  refine ⟨rfl, fun v r h => ?_⟩
  obtain ⟨a0, a1, a2, a3, _⟩ := v
  obtain ⟨N, h1⟩ := hf _ _ _ _ _ h
  exact ans_c (R := (Sh.int .u32)) (tab := T201) (raw := (rawOf (RW201))) (LP := W201 N) (fu := fuelC) hT hO rfl rfl (Nat.le_of_ble_eq_true rfl) loopOK_nil ((e201 N _ _ _ _).trans h1)

def T183 (c199 : List Int → Option (List Int)) (c200 : Option (List Int)) (c195 : Int → Int → Option Int) (c201 : Int → Int → Int → Int → Option Int) : Nat → Option Ent
  | 199 => some (en199 c199)
  | 200 => some (en200 c200)
  | 195 => some (en195 c195)
  | 201 => some (en201 c201)
  | _ => none
def RW183 (c199 : List Int → Option (List Int)) (c200 : Option (List Int)) (c195 : Int → Int → Option Int) (c201 : Int → Int → Int → Int → Option Int) : Nat → List REnt
  | _ => []
def H183_1 : Trim := ⟨1, [], false, [2, 4, 7, 56], []⟩
theorem l183_1 : loopN k183 1 = .loop H183_1 (bodyOf (loopN k183 1)) := by kernel_rfl
def P183_1 : Ps := ⟨[(0, .u), (1, .u), (2, (.ptr 0 0)), (3, .u), (4, (.ptr 1 0)), (5, .u), (6, .u), (7, (.ptr 2 0)), (8, .u), (9, .u), (10, .u), (11, .u), (16, .u), (17, .u), (56, (.int .i64)), (57, .u)], [(.ints false .u32), (.ints false .u32), (.ints false .u32)]⟩
def Q183_1 : Nat → Ps
  | 2 => ⟨[(0, .u), (1, .u), (2, .u), (3, .u), (4, (.ptr 0 0)), (5, .u), (6, .u), (7, (.ptr 1 0)), (8, .u), (9, .u), (10, .u), (11, .u), (16, .u), (17, .u), (56, .u), (57, .u)], [(.ints false .u32), (.ints false .u32)]⟩
  | _ => noPs
def u183_1 (c199 : List Int → Option (List Int)) (c200 : Option (List Int)) (c195 : Int → Int → Option Int) (c201 : Int → Int → Int → Int → Option Int) (N n : Nat) (v : P183_1.T) (κ : (i : Nat) → (Q183_1 i).T → Option (((Sh.ar .u32)).T)) : Option (((Sh.ar .u32)).T) :=
  L183_1 c199 c200 c195 c201 N (fun (y0 : List Int) (y1 : List Int) => κ 2 (((), ((), ((), ((), ((), ((), ((), ((), ((), ((), ((), ((), ((), ((), ((), ((), ())))))))))))))))), (y0, (y1, ())))) n v.1.2.2.2.2.2.2.2.2.2.2.2.2.2.2.1 v.2.1 v.2.2.1 v.2.2.2.1
def W183_1 (c199 : List Int → Option (List Int)) (c200 : Option (List Int)) (c195 : Int → Int → Option Int) (c201 : Int → Int → Int → Int → Option Int) (N : Nat) : LoopF (((Sh.ar .u32)).T) := fun no =>
  match no with
  | _ => fun _ _ => none
theorem b183_1 (c199 : List Int → Option (List Int)) (c200 : Option (List Int)) (c195 : Int → Int → Option Int) (c201 : Int → Int → Int → Int → Option Int) (N n : Nat) (v : P183_1.T) (κ : (i : Nat) → (Q183_1 i).T → Option (((Sh.ar .u32)).T)) :
    evc (T183 c199 c200 c195 c201) (rawOf (RW183 c199 c200 c195 c201)) (W183_1 c199 c200 c195 c201 N) (retc k183.res (Sh.ar .u32)) (modeOf FT) 0 fuelC (bodyOf (loopN k183 1)) (P183_1.st v) (roundK 0 H183_1 P183_1 Q183_1 (u183_1 c199 c200 c195 c201 N n) κ) = u183_1 c199 c200 c195 c201 N (n + 1) v κ := by kernel_rfl
theorem o183_1 (c199 : List Int → Option (List Int)) (c200 : Option (List Int)) (c195 : Int → Int → Option Int) (c201 : Int → Int → Int → Int → Option Int) (hT : TabOK FT XT (T183 c199 c200 c195 c201)) (hO : RawOK FT XT (rawOf (α := ((Sh.ar .u32)).T) (RW183 c199 c200 c195 c201))) (N : Nat) {s : St} {κ : Ex → St → Option (((Sh.ar .u32)).T)} {a : ((Sh.ar .u32)).T} (h : lpOf 0 H183_1 P183_1 Q183_1 (u183_1 c199 c200 c195 c201 N N) s κ = some a) : Out FT XT 0 (retc k183.res (Sh.ar .u32)) (loopN k183 1) s κ a := by
  rw [l183_1]
  exact loop_out (LP := W183_1 c199 c200 c195 c201 N) (fu := fuelC) hT hO (fun _ _ => rfl) (b183_1 c199 c200 c195 c201 N) loopOK_nil N h
def H183_0 : Trim := ⟨0, [], false, [2, 4, 5, 6, 7, 16], []⟩
theorem l183_0 : loopN k183 0 = .loop H183_0 (bodyOf (loopN k183 0)) := by kernel_rfl
def P183_0 : Ps := ⟨[(0, .u), (1, .u), (2, (.ptr 0 0)), (3, .u), (4, (.ptr 1 0)), (5, (.ptr 2 0)), (6, (.ptr 3 0)), (7, (.ptr 4 0)), (8, .u), (9, .u), (10, .u), (11, .u), (16, (.int .i64)), (17, .u), (56, .u), (57, .u)], [(.ints false .u32), (.ints false .u32), (.ints false .u32), (.ints false .u32), (.ints false .u32)]⟩
def Q183_0 : Nat → Ps
  | 0 => ⟨[(0, .u), (1, .u), (2, (.ptr 0 0)), (3, .u), (4, (.ptr 1 0)), (5, .u), (6, .u), (7, (.ptr 2 0)), (8, .u), (9, .u), (10, .u), (11, .u), (16, .u), (17, .u), (56, .u), (57, .u)], [(.ints false .u32), (.ints false .u32), (.ints false .u32)]⟩
  | _ => noPs
def u183_0 (c199 : List Int → Option (List Int)) (c200 : Option (List Int)) (c195 : Int → Int → Option Int) (c201 : Int → Int → Int → Int → Option Int) (N n : Nat) (v : P183_0.T) (κ : (i : Nat) → (Q183_0 i).T → Option (((Sh.ar .u32)).T)) : Option (((Sh.ar .u32)).T) :=
  L183_0 c199 c200 c195 c201 N (fun (y0 : List Int) (y1 : List Int) (y2 : List Int) => κ 0 (((), ((), ((), ((), ((), ((), ((), ((), ((), ((), ((), ((), ((), ((), ((), ((), ())))))))))))))))), (y0, (y1, (y2, ()))))) n v.1.2.2.2.2.2.2.2.2.2.2.2.2.1 v.2.1 v.2.2.1 v.2.2.2.1 v.2.2.2.2.1 v.2.2.2.2.2.1
def W183_0 (c199 : List Int → Option (List Int)) (c200 : Option (List Int)) (c195 : Int → Int → Option Int) (c201 : Int → Int → Int → Int → Option Int) (N : Nat) : LoopF (((Sh.ar .u32)).T) := fun no =>
  match no with
  | _ => fun _ _ => none
theorem b183_0 (c199 : List Int → Option (List Int)) (c200 : Option (List Int)) (c195 : Int → Int → Option Int) (c201 : Int → Int → Int → Int → Option Int) (N n : Nat) (v : P183_0.T) (κ : (i : Nat) → (Q183_0 i).T → Option (((Sh.ar .u32)).T)) :
    evc (T183 c199 c200 c195 c201) (rawOf (RW183 c199 c200 c195 c201)) (W183_0 c199 c200 c195 c201 N) (retc k183.res (Sh.ar .u32)) (modeOf FT) 0 fuelC (bodyOf (loopN k183 0)) (P183_0.st v) (roundK 0 H183_0 P183_0 Q183_0 (u183_0 c199 c200 c195 c201 N n) κ) = u183_0 c199 c200 c195 c201 N (n + 1) v κ := by kernel_rfl
theorem o183_0 (c199 : List Int → Option (List Int)) (c200 : Option (List Int)) (c195 : Int → Int → Option Int) (c201 : Int → Int → Int → Int → Option Int) (hT : TabOK FT XT (T183 c199 c200 c195 c201)) (hO : RawOK FT XT (rawOf (α := ((Sh.ar .u32)).T) (RW183 c199 c200 c195 c201))) (N : Nat) {s : St} {κ : Ex → St → Option (((Sh.ar .u32)).T)} {a : ((Sh.ar .u32)).T} (h : lpOf 0 H183_0 P183_0 Q183_0 (u183_0 c199 c200 c195 c201 N N) s κ = some a) : Out FT XT 0 (retc k183.res (Sh.ar .u32)) (loopN k183 0) s κ a := by
  rw [l183_0]
  exact loop_out (LP := W183_0 c199 c200 c195 c201 N) (fu := fuelC) hT hO (fun _ _ => rfl) (b183_0 c199 c200 c195 c201 N) loopOK_nil N h
def W183 (c199 : List Int → Option (List Int)) (c200 : Option (List Int)) (c195 : Int → Int → Option Int) (c201 : Int → Int → Int → Int → Option Int) (N : Nat) : LoopF (((Sh.ar .u32)).T) := fun no =>
  match no with
  | 0 => lpOf 0 H183_0 P183_0 Q183_0 (u183_0 c199 c200 c195 c201 N N)
  | 1 => lpOf 0 H183_1 P183_1 Q183_1 (u183_1 c199 c200 c195 c201 N N)
  | _ => fun _ _ => none
theorem e183 (c199 : List Int → Option (List Int)) (c200 : Option (List Int)) (c195 : Int → Int → Option Int) (c201 : Int → Int → Int → Int → Option Int) (N : Nat) (a0 : List Int) (a1 : List Int) : evc (T183 c199 c200 c195 c201) (rawOf (RW183 c199 c200 c195 c201)) (W183 c199 c200 c195 c201 N) (retc k183.res (Sh.ar .u32)) (modeOf FT) 0 fuelC k183.body (env0 k183 (encL [(Sh.ar .u32), (Sh.ar .u8)] (a0, (a1, ()))), []) (endK (retc k183.res (Sh.ar .u32))) = p183 c199 c200 c195 c201 N a0 a1 := by kernel_rfl
theorem ok183 (c199 : List Int → Option (List Int)) (c200 : Option (List Int)) (c195 : Int → Int → Option Int) (c201 : Int → Int → Int → Int → Option Int) (h199 : EntOK FT XT 199 (en199 c199)) (h200 : EntOK FT XT 200 (en200 c200)) (h195 : EntOK FT XT 195 (en195 c195)) (h201 : EntOK FT XT 201 (en201 c201)) {f : List Int → List Int → Option (List Int)} (hf : ∀ a0 a1 r, f a0 a1 = some r → ∃ N, p183 c199 c200 c195 c201 N a0 a1 = some r) : EntOK FT XT 183 (en183 f) := by
  have hT : TabOK FT XT (T183 c199 c200 c195 c201) := by
    intro g en hg
    unfold T183 at hg
    split at hg <;> first | (injection hg with hg; subst hg; assumption) | cases hg
  have hO : RawOK FT XT (rawOf (α := ((Sh.ar .u32)).T) (RW183 c199 c200 c195 c201)) := by
    refine rawOf_ok (fun g en hg => ?_)
    unfold RW183 at hg
    split at hg <;> simp only [List.mem_cons, List.not_mem_nil, or_false] at hg <;> first | (subst hg; assumption) | (rcases hg with rfl | rfl <;> assumption) | (rcases hg with rfl | rfl | rfl <;> assumption) | (rcases hg with rfl | rfl | rfl | rfl <;> assumption)
  refine ⟨rfl, fun v r h => ?_⟩
  obtain ⟨a0, a1, _⟩ := v
  obtain ⟨N, h1⟩ := hf _ _ _ h
  exact ans_c (R := (Sh.ar .u32)) (tab := T183 c199 c200 c195 c201) (raw := (rawOf (RW183 c199 c200 c195 c201))) (LP := W183 c199 c200 c195 c201 N) (fu := fuelC) hT hO rfl rfl (Nat.le_of_ble_eq_true rfl) (loopOK_cons l183_0 (fun s κ a h => o183_0 c199 c200 c195 c201 hT hO N h) (loopOK_cons l183_1 (fun s κ a h => o183_1 c199 c200 c195 c201 hT hO N h) loopOK_nil)) ((e183 c199 c200 c195 c201 N _ _).trans h1)

def T202 : Nat → Option Ent
  | _ => none
def RW202 : Nat → List REnt
  | _ => []
def W202 (N : Nat) : LoopF (((Sh.int .u32)).T) := fun no =>
  match no with
  | _ => fun _ _ => none
theorem e202 (N : Nat) (a0 : Int) (a1 : Int) : evc (T202) (rawOf (RW202)) (W202 N) (retc k202.res (Sh.int .u32)) (modeOf FT) 0 fuelC k202.body (env0 k202 (encL [(Sh.int .u32), (Sh.int .i64)] (a0, (a1, ()))), []) (endK (retc k202.res (Sh.int .u32))) = p202 N a0 a1 := by kernel_rfl
theorem ok202 {f : Int → Int → Option Int} (hf : ∀ a0 a1 r, f a0 a1 = some r → ∃ N, p202 N a0 a1 = some r) : EntOK FT XT 202 (en202 f) := by
  have hT : TabOK FT XT (T202) := by
    intro g en hg
    unfold T202 at hg
    split at hg <;> first | (injection hg with hg; subst hg; assumption) | cases hg
  have hO : RawOK FT XT (rawOf (α := ((Sh.int .u32)).T) (RW202)) := by
    refine rawOf_ok (fun g en hg => ?_)
    unfold RW202 at hg
    split at hg <;> simp only [List.mem_cons, List.not_mem_nil, or_false] at hg <;> first | (subst hg; assumption) | (rcases hg with rfl | rfl <;> assumption) | (rcases hg with rfl | rfl | rfl <;> assumption) | (rcases hg with rfl | rfl | rfl | rfl <;> assumption)
  refine ⟨rfl, fun v r h => ?_⟩
  obtain ⟨a0, a1, _⟩ := v
  obtain ⟨N, h1⟩ := hf _ _ _ h
  exact ans_c (R := (Sh.int .u32)) (tab := T202) (raw := (rawOf (RW202))) (LP := W202 N) (fu := fuelC) hT hO rfl rfl (Nat.le_of_ble_eq_true rfl) loopOK_nil ((e202 N _ _).trans h1)

def T203 : Nat → Option Ent
  | _ => none
def RW203 : Nat → List REnt
  | _ => []
def W203 (N : Nat) : LoopF (((Sh.int .u32)).T) := fun no =>
  match no with
  | _ => fun _ _ => none
theorem e203 (N : Nat) (a0 : Int) (a1 : Int) (a2 : Int) (a3 : Int) : evc (T203) (rawOf (RW203)) (W203 N) (retc k203.res (Sh.int .u32)) (modeOf FT) 0 fuelC k203.body (env0 k203 (encL [(Sh.int .i64), (Sh.int .u32), (Sh.int .u32), (Sh.int .u32)] (a0, (a1, (a2, (a3, ()))))), []) (endK (retc k203.res (Sh.int .u32))) = p203 N a0 a1 a2 a3 := by kernel_rfl
theorem ok203 {f : Int → Int → Int → Int → Option Int} (hf : ∀ a0 a1 a2 a3 r, f a0 a1 a2 a3 = some r → ∃ N, p203 N a0 a1 a2 a3 = some r) : EntOK FT XT 203 (en203 f) := by
  have hT : TabOK FT XT (T203) := by
    intro g en hg
    unfold T203 at hg
    split at hg <;> first | (injection hg with hg; subst hg; assumption) | cases hg
  have hO : RawOK FT XT (rawOf (α := ((Sh.int .u32)).T) (RW203)) := by
    refine rawOf_ok (fun g en hg => ?_)
    unfold RW203 at hg
    split at hg <;> simp only [List.mem_cons, List.not_mem_nil, or_false] at hg <;> first | (subst hg; assumption) | (rcases hg with rfl | rfl <;> assumption) | (rcases hg with rfl | rfl | rfl <;> assumption) | (rcases hg with rfl | rfl | rfl | rfl <;> assumption)
  refine ⟨rfl, fun v r h => ?_⟩
  obtain ⟨a0, a1, a2, a3, _⟩ := v
  obtain ⟨N, h1⟩ := hf _ _ _ _ _ h
  exact ans_c (R := (Sh.int .u32)) (tab := T203) (raw := (rawOf (RW203))) (LP := W203 N) (fu := fuelC) hT hO rfl rfl (Nat.le_of_ble_eq_true rfl) loopOK_nil ((e203 N _ _ _ _).trans h1)

def T184 (c202 : Int → Int → Option Int) (c203 : Int → Int → Int → Int → Option Int) : Nat → Option Ent
  | 202 => some (en202 c202)
  | 203 => some (en203 c203)
  | _ => none
def RW184 (c202 : Int → Int → Option Int) (c203 : Int → Int → Int → Int → Option Int) : Nat → List REnt
  | _ => []
def H184_2 : Trim := ⟨2, [], false, [2, 4, 7, 10], []⟩
theorem l184_2 : loopN k184 2 = .loop H184_2 (bodyOf (loopN k184 2)) := by kernel_rfl
def P184_2 : Ps := ⟨[(0, .u), (1, .u), (2, (.ptr 0 0)), (3, .u), (4, (.ptr 1 0)), (5, .u), (6, .u), (7, (.ptr 2 0)), (8, .u), (9, .u), (10, (.int .i64)), (12, .u), (16, .u), (72, .u), (106, .u)], [(.ints false .u32), (.ints false .u32), (.ints false .u32)]⟩
def Q184_2 : Nat → Ps
  | 4 => ⟨[(0, .u), (1, .u), (2, .u), (3, .u), (4, (.ptr 0 0)), (5, .u), (6, .u), (7, (.ptr 1 0)), (8, .u), (9, .u), (10, .u), (12, .u), (16, .u), (72, .u), (106, .u)], [(.ints false .u32), (.ints false .u32)]⟩
  | _ => noPs
def u184_2 (c202 : Int → Int → Option Int) (c203 : Int → Int → Int → Int → Option Int) (N n : Nat) (v : P184_2.T) (κ : (i : Nat) → (Q184_2 i).T → Option (((Sh.ar .u32)).T)) : Option (((Sh.ar .u32)).T) :=
  L184_2 c202 c203 N (fun (y0 : List Int) (y1 : List Int) => κ 4 (((), ((), ((), ((), ((), ((), ((), ((), ((), ((), ((), ((), ((), ((), ((), ()))))))))))))))), (y0, (y1, ())))) n v.1.2.2.2.2.2.2.2.2.2.2.1 v.2.1 v.2.2.1 v.2.2.2.1
def W184_2 (c202 : Int → Int → Option Int) (c203 : Int → Int → Int → Int → Option Int) (N : Nat) : LoopF (((Sh.ar .u32)).T) := fun no =>
  match no with
  | _ => fun _ _ => none
theorem b184_2 (c202 : Int → Int → Option Int) (c203 : Int → Int → Int → Int → Option Int) (N n : Nat) (v : P184_2.T) (κ : (i : Nat) → (Q184_2 i).T → Option (((Sh.ar .u32)).T)) :
    evc (T184 c202 c203) (rawOf (RW184 c202 c203)) (W184_2 c202 c203 N) (retc k184.res (Sh.ar .u32)) (modeOf FT) 0 fuelC (bodyOf (loopN k184 2)) (P184_2.st v) (roundK 0 H184_2 P184_2 Q184_2 (u184_2 c202 c203 N n) κ) = u184_2 c202 c203 N (n + 1) v κ := by kernel_rfl
theorem o184_2 (c202 : Int → Int → Option Int) (c203 : Int → Int → Int → Int → Option Int) (hT : TabOK FT XT (T184 c202 c203)) (hO : RawOK FT XT (rawOf (α := ((Sh.ar .u32)).T) (RW184 c202 c203))) (N : Nat) {s : St} {κ : Ex → St → Option (((Sh.ar .u32)).T)} {a : ((Sh.ar .u32)).T} (h : lpOf 0 H184_2 P184_2 Q184_2 (u184_2 c202 c203 N N) s κ = some a) : Out FT XT 0 (retc k184.res (Sh.ar .u32)) (loopN k184 2) s κ a := by
  rw [l184_2]
  exact loop_out (LP := W184_2 c202 c203 N) (fu := fuelC) hT hO (fun _ _ => rfl) (b184_2 c202 c203 N) loopOK_nil N h
def H184_1 : Trim := ⟨1, [], false, [2, 4, 5, 7, 8], []⟩
theorem l184_1 : loopN k184 1 = .loop H184_1 (bodyOf (loopN k184 1)) := by kernel_rfl
def P184_1 : Ps := ⟨[(0, .u), (1, .u), (2, (.ptr 0 0)), (3, .u), (4, (.ptr 1 0)), (5, (.ptr 2 0)), (6, .u), (7, (.ptr 3 0)), (8, (.int .i64)), (9, .u), (10, .u), (12, .u), (16, .u), (72, .u), (106, .u)], [(.ints false .u32), (.ints false .u32), (.ints false .u32), (.ints false .u32)]⟩
def Q184_1 : Nat → Ps
  | 2 => ⟨[(0, .u), (1, .u), (2, (.ptr 0 0)), (3, .u), (4, (.ptr 1 0)), (5, .u), (6, .u), (7, (.ptr 2 0)), (8, .u), (9, .u), (10, .u), (12, .u), (16, .u), (72, .u), (106, .u)], [(.ints false .u32), (.ints false .u32), (.ints false .u32)]⟩
  | _ => noPs
def u184_1 (c202 : Int → Int → Option Int) (c203 : Int → Int → Int → Int → Option Int) (N n : Nat) (v : P184_1.T) (κ : (i : Nat) → (Q184_1 i).T → Option (((Sh.ar .u32)).T)) : Option (((Sh.ar .u32)).T) :=
  L184_1 c202 c203 N (fun (y0 : List Int) (y1 : List Int) (y2 : List Int) => κ 2 (((), ((), ((), ((), ((), ((), ((), ((), ((), ((), ((), ((), ((), ((), ((), ()))))))))))))))), (y0, (y1, (y2, ()))))) n v.1.2.2.2.2.2.2.2.2.1 v.2.1 v.2.2.1 v.2.2.2.1 v.2.2.2.2.1
def W184_1 (c202 : Int → Int → Option Int) (c203 : Int → Int → Int → Int → Option Int) (N : Nat) : LoopF (((Sh.ar .u32)).T) := fun no =>
  match no with
  | _ => fun _ _ => none
theorem b184_1 (c202 : Int → Int → Option Int) (c203 : Int → Int → Int → Int → Option Int) (N n : Nat) (v : P184_1.T) (κ : (i : Nat) → (Q184_1 i).T → Option (((Sh.ar .u32)).T)) :
    evc (T184 c202 c203) (rawOf (RW184 c202 c203)) (W184_1 c202 c203 N) (retc k184.res (Sh.ar .u32)) (modeOf FT) 0 fuelC (bodyOf (loopN k184 1)) (P184_1.st v) (roundK 0 H184_1 P184_1 Q184_1 (u184_1 c202 c203 N n) κ) = u184_1 c202 c203 N (n + 1) v κ := by kernel_rfl
theorem o184_1 (c202 : Int → Int → Option Int) (c203 : Int → Int → Int → Int → Option Int) (hT : TabOK FT XT (T184 c202 c203)) (hO : RawOK FT XT (rawOf (α := ((Sh.ar .u32)).T) (RW184 c202 c203))) (N : Nat) {s : St} {κ : Ex → St → Option (((Sh.ar .u32)).T)} {a : ((Sh.ar .u32)).T} (h : lpOf 0 H184_1 P184_1 Q184_1 (u184_1 c202 c203 N N) s κ = some a) : Out FT XT 0 (retc k184.res (Sh.ar .u32)) (loopN k184 1) s κ a := by
  rw [l184_1]
  exact loop_out (LP := W184_1 c202 c203 N) (fu := fuelC) hT hO (fun _ _ => rfl) (b184_1 c202 c203 N) loopOK_nil N h
def H184_0 : Trim := ⟨0, [], false, [2, 3, 4, 5, 6], []⟩
theorem l184_0 : loopN k184 0 = .loop H184_0 (bodyOf (loopN k184 0)) := by kernel_rfl
def P184_0 : Ps := ⟨[(0, .u), (1, .u), (2, (.ptr 0 0)), (3, (.ptr 1 0)), (4, (.ptr 2 0)), (5, (.ptr 3 0)), (6, (.int .i64)), (7, .u), (8, .u), (9, .u), (10, .u), (12, .u), (16, .u), (72, .u), (106, .u)], [(.ints false .u32), (.ints false .u8), (.ints false .u32), (.ints false .u32)]⟩
def Q184_0 : Nat → Ps
  | 0 => ⟨[(0, .u), (1, .u), (2, (.ptr 0 0)), (3, .u), (4, (.ptr 1 0)), (5, (.ptr 2 0)), (6, .u), (7, .u), (8, .u), (9, .u), (10, .u), (12, .u), (16, .u), (72, .u), (106, .u)], [(.ints false .u32), (.ints false .u32), (.ints false .u32)]⟩
  | _ => noPs
def u184_0 (c202 : Int → Int → Option Int) (c203 : Int → Int → Int → Int → Option Int) (N n : Nat) (v : P184_0.T) (κ : (i : Nat) → (Q184_0 i).T → Option (((Sh.ar .u32)).T)) : Option (((Sh.ar .u32)).T) :=
  L184_0 c202 c203 N (fun (y0 : List Int) (y1 : List Int) (y2 : List Int) => κ 0 (((), ((), ((), ((), ((), ((), ((), ((), ((), ((), ((), ((), ((), ((), ((), ()))))))))))))))), (y0, (y1, (y2, ()))))) n v.1.2.2.2.2.2.2.1 v.2.1 v.2.2.1 v.2.2.2.1 v.2.2.2.2.1
def W184_0 (c202 : Int → Int → Option Int) (c203 : Int → Int → Int → Int → Option Int) (N : Nat) : LoopF (((Sh.ar .u32)).T) := fun no =>
  match no with
  | _ => fun _ _ => none
theorem b184_0 (c202 : Int → Int → Option Int) (c203 : Int → Int → Int → Int → Option Int) (N n : Nat) (v : P184_0.T) (κ : (i : Nat) → (Q184_0 i).T → Option (((Sh.ar .u32)).T)) :
    evc (T184 c202 c203) (rawOf (RW184 c202 c203)) (W184_0 c202 c203 N) (retc k184.res (Sh.ar .u32)) (modeOf FT) 0 fuelC (bodyOf (loopN k184 0)) (P184_0.st v) (roundK 0 H184_0 P184_0 Q184_0 (u184_0 c202 c203 N n) κ) = u184_0 c202 c203 N (n + 1) v κ := by kernel_rfl
theorem o184_0 (c202 : Int → Int → Option Int) (c203 : Int → Int → Int → Int → Option Int) (hT : TabOK FT XT (T184 c202 c203)) (hO : RawOK FT XT (rawOf (α := ((Sh.ar .u32)).T) (RW184 c202 c203))) (N : Nat) {s : St} {κ : Ex → St → Option (((Sh.ar .u32)).T)} {a : ((Sh.ar .u32)).T} (h : lpOf 0 H184_0 P184_0 Q184_0 (u184_0 c202 c203 N N) s κ = some a) : Out FT XT 0 (retc k184.res (Sh.ar .u32)) (loopN k184 0) s κ a := by
  rw [l184_0]
  exact loop_out (LP := W184_0 c202 c203 N) (fu := fuelC) hT hO (fun _ _ => rfl) (b184_0 c202 c203 N) loopOK_nil N h
def W184 (c202 : Int → Int → Option Int) (c203 : Int → Int → Int → Int → Option Int) (N : Nat) : LoopF (((Sh.ar .u32)).T) := fun no =>
  match no with
  | 0 => lpOf 0 H184_0 P184_0 Q184_0 (u184_0 c202 c203 N N)
  | 1 => lpOf 0 H184_1 P184_1 Q184_1 (u184_1 c202 c203 N N)
  | 2 => lpOf 0 H184_2 P184_2 Q184_2 (u184_2 c202 c203 N N)
  | _ => fun _ _ => none
theorem e184 (c202 : Int → Int → Option Int) (c203 : Int → Int → Int → Int → Option Int) (N : Nat) (a0 : List Int) (a1 : List Int) : evc (T184 c202 c203) (rawOf (RW184 c202 c203)) (W184 c202 c203 N) (retc k184.res (Sh.ar .u32)) (modeOf FT) 0 fuelC k184.body (env0 k184 (encL [(Sh.ar .u32), (Sh.ar .u8)] (a0, (a1, ()))), []) (endK (retc k184.res (Sh.ar .u32))) = p184 c202 c203 N a0 a1 := by kernel_rfl
theorem ok184 (c202 : Int → Int → Option Int) (c203 : Int → Int → Int → Int → Option Int) (h202 : EntOK FT XT 202 (en202 c202)) (h203 : EntOK FT XT 203 (en203 c203)) {f : List Int → List Int → Option (List Int)} (hf : ∀ a0 a1 r, f a0 a1 = some r → ∃ N, p184 c202 c203 N a0 a1 = some r) : EntOK FT XT 184 (en184 f) := by
  have hT : TabOK FT XT (T184 c202 c203) := by
    intro g en hg
    unfold T184 at hg
    split at hg <;> first | (injection hg with hg; subst hg; assumption) | cases hg
  have hO : RawOK FT XT (rawOf (α := ((Sh.ar .u32)).T) (RW184 c202 c203)) := by
    refine rawOf_ok (fun g en hg => ?_)
    unfold RW184 at hg
    split at hg <;> simp only [List.mem_cons, List.not_mem_nil, or_false] at hg <;> first | (subst hg; assumption) | (rcases hg with rfl | rfl <;> assumption) | (rcases hg with rfl | rfl | rfl <;> assumption) | (rcases hg with rfl | rfl | rfl | rfl <;> assumption)
  refine ⟨rfl, fun v r h => ?_⟩
  obtain ⟨a0, a1, _⟩ := v
  obtain ⟨N, h1⟩ := hf _ _ _ h
  exact ans_c (R := (Sh.ar .u32)) (tab := T184 c202 c203) (raw := (rawOf (RW184 c202 c203))) (LP := W184 c202 c203 N) (fu := fuelC) hT hO rfl rfl (Nat.le_of_ble_eq_true rfl) (loopOK_cons l184_0 (fun s κ a h => o184_0 c202 c203 hT hO N h) (loopOK_cons l184_1 (fun s κ a h => o184_1 c202 c203 hT hO N h) (loopOK_cons l184_2 (fun s κ a h => o184_2 c202 c203 hT hO N h) loopOK_nil))) ((e184 c202 c203 N _ _).trans h1)

def T185 (c19 : Int → Int → Bool → Option ((List Int) × Int)) : Nat → Option Ent
  | 19 => some (en19 c19)
  | _ => none
def RW185 (c19 : Int → Int → Bool → Option ((List Int) × Int)) : Nat → List REnt
  | _ => []
def W185 (c19 : Int → Int → Bool → Option ((List Int) × Int)) (N : Nat) : LoopF (((Sh.sl (Sh.int .u8))).T) := fun no =>
  match no with
  | _ => fun _ _ => none
theorem e185 (c19 : Int → Int → Bool → Option ((List Int) × Int)) (N : Nat) (a0 : Int) : evc (T185 c19) (rawOf (RW185 c19)) (W185 c19 N) (retc k185.res (Sh.sl (Sh.int .u8))) (modeOf FT) 0 fuelC k185.body (env0 k185 (encL [(Sh.int .u64)] (a0, ())), []) (endK (retc k185.res (Sh.sl (Sh.int .u8)))) = p185 c19 N a0 := by kernel_rfl
theorem ok185 (c19 : Int → Int → Bool → Option ((List Int) × Int)) (h19 : EntOK FT XT 19 (en19 c19)) {f : Int → Option (List Int)} (hf : ∀ a0 r, f a0 = some r → ∃ N, p185 c19 N a0 = some r) : EntOK FT XT 185 (en185 f) := by
  have hT : TabOK FT XT (T185 c19) := by
    intro g en hg
    unfold T185 at hg
    split at hg <;> first | (injection hg with hg; subst hg; assumption) | cases hg
  have hO : RawOK FT XT (rawOf (α := ((Sh.sl (Sh.int .u8))).T) (RW185 c19)) := by
    refine rawOf_ok (fun g en hg => ?_)
    unfold RW185 at hg
    split at hg <;> simp only [List.mem_cons, List.not_mem_nil, or_false] at hg <;> first | (subst hg; assumption) | (rcases hg with rfl | rfl <;> assumption) | (rcases hg with rfl | rfl | rfl <;> assumption) | (rcases hg with rfl | rfl | rfl | rfl <;> assumption)
  refine ⟨rfl, fun v r h => ?_⟩
  obtain ⟨a0, _⟩ := v
  obtain ⟨N, h1⟩ := hf _ _ h
  exact ans_c (R := (Sh.sl (Sh.int .u8))) (tab := T185 c19) (raw := (rawOf (RW185 c19))) (LP := W185 c19 N) (fu := fuelC) hT hO rfl rfl (Nat.le_of_ble_eq_true rfl) loopOK_nil ((e185 c19 N _).trans h1)

def T186 (c177 : Int → Option (List Int)) : Nat → Option Ent
  | 177 => some (en177 c177)
  | _ => none
def RW186 (c177 : Int → Option (List Int)) : Nat → List REnt
  | _ => []
def H186_0 : Trim := ⟨0, [], false, [3, 4, 5, 6], []⟩
theorem l186_0 : loopN k186 0 = .loop H186_0 (bodyOf (loopN k186 0)) := by kernel_rfl
def P186_0 : Ps := ⟨[(0, .u), (2, .u), (3, (.tb (Sh.int .u8))), (4, (.int .i64)), (5, (.sl 0 1)), (6, (.int .i64)), (17, .u)], [(.ints false .u8)]⟩
def Q186_0 : Nat → Ps
  | 0 => ⟨[(0, .u), (2, .u), (3, .u), (4, .u), (5, (.sl 0 1)), (6, .u), (17, .u)], [(.ints false .u8)]⟩
  | _ => noPs
def u186_0 (c177 : Int → Option (List Int)) (N n : Nat) (v : P186_0.T) (κ : (i : Nat) → (Q186_0 i).T → Option (((Sh.sl (Sh.int .u8))).T)) : Option (((Sh.sl (Sh.int .u8))).T) :=
  L186_0 c177 N (fun (y0 : Nat) (y1 : List Int) => κ 0 (((), ((), ((), ((), (y0, ((), ((), ()))))))), (y1, ()))) n v.1.2.2.1 v.1.2.2.2.1 v.1.2.2.2.2.1 v.1.2.2.2.2.2.1 v.2.1
def W186_0 (c177 : Int → Option (List Int)) (N : Nat) : LoopF (((Sh.sl (Sh.int .u8))).T) := fun no =>
  match no with
  | _ => fun _ _ => none
theorem b186_0 (c177 : Int → Option (List Int)) (N n : Nat) (v : P186_0.T) (κ : (i : Nat) → (Q186_0 i).T → Option (((Sh.sl (Sh.int .u8))).T)) :
    evc (T186 c177) (rawOf (RW186 c177)) (W186_0 c177 N) (retc k186.res (Sh.sl (Sh.int .u8))) (modeOf FT) 0 fuelC (bodyOf (loopN k186 0)) (P186_0.st v) (roundK 0 H186_0 P186_0 Q186_0 (u186_0 c177 N n) κ) = u186_0 c177 N (n + 1) v κ := by kernel_rfl
theorem o186_0 (c177 : Int → Option (List Int)) (hT : TabOK FT XT (T186 c177)) (hO : RawOK FT XT (rawOf (α := ((Sh.sl (Sh.int .u8))).T) (RW186 c177))) (N : Nat) {s : St} {κ : Ex → St → Option (((Sh.sl (Sh.int .u8))).T)} {a : ((Sh.sl (Sh.int .u8))).T} (h : lpOf 0 H186_0 P186_0 Q186_0 (u186_0 c177 N N) s κ = some a) : Out FT XT 0 (retc k186.res (Sh.sl (Sh.int .u8))) (loopN k186 0) s κ a := by
  rw [l186_0]
  exact loop_out (LP := W186_0 c177 N) (fu := fuelC) hT hO (fun _ _ => rfl) (b186_0 c177 N) loopOK_nil N h
def W186 (c177 : Int → Option (List Int)) (N : Nat) : LoopF (((Sh.sl (Sh.int .u8))).T) := fun no =>
  match no with
  | 0 => lpOf 0 H186_0 P186_0 Q186_0 (u186_0 c177 N N)
  | _ => fun _ _ => none
theorem e186 (c177 : Int → Option (List Int)) (N : Nat) (a0 : Int) : evc (T186 c177) (rawOf (RW186 c177)) (W186 c177 N) (retc k186.res (Sh.sl (Sh.int .u8))) (modeOf FT) 0 fuelC k186.body (env0 k186 (encL [(Sh.int .u64)] (a0, ())), []) (endK (retc k186.res (Sh.sl (Sh.int .u8)))) = p186 c177 N a0 := by kernel_rfl
theorem ok186 (c177 : Int → Option (List Int)) (h177 : EntOK FT XT 177 (en177 c177)) {f : Int → Option (List Int)} (hf : ∀ a0 r, f a0 = some r → ∃ N, p186 c177 N a0 = some r) : EntOK FT XT 186 (en186 f) := by
  have hT : TabOK FT XT (T186 c177) := by
    intro g en hg
    unfold T186 at hg
    split at hg <;> first | (injection hg with hg; subst hg; assumption) | cases hg
  have hO : RawOK FT XT (rawOf (α := ((Sh.sl (Sh.int .u8))).T) (RW186 c177)) := by
    refine rawOf_ok (fun g en hg => ?_)
    unfold RW186 at hg
    split at hg <;> simp only [List.mem_cons, List.not_mem_nil, or_false] at hg <;> first | (subst hg; assumption) | (rcases hg with rfl | rfl <;> assumption) | (rcases hg with rfl | rfl | rfl <;> assumption) | (rcases hg with rfl | rfl | rfl | rfl <;> assumption)
  refine ⟨rfl, fun v r h => ?_⟩
  obtain ⟨a0, _⟩ := v
  obtain ⟨N, h1⟩ := hf _ _ h
  exact ans_c (R := (Sh.sl (Sh.int .u8))) (tab := T186 c177) (raw := (rawOf (RW186 c177))) (LP := W186 c177 N) (fu := fuelC) hT hO rfl rfl (Nat.le_of_ble_eq_true rfl) (loopOK_cons l186_0 (fun s κ a h => o186_0 c177 hT hO N h) loopOK_nil) ((e186 c177 N _).trans h1)

def T187 : Nat → Option Ent
  | _ => none
def RW187 : Nat → List REnt
  | _ => []
def W187 (N : Nat) : LoopF (((Sh.ar .u32)).T) := fun no =>
  match no with
  | _ => fun _ _ => none
theorem e187 (N : Nat)  : evc (T187) (rawOf (RW187)) (W187 N) (retc k187.res (Sh.ar .u32)) (modeOf FT) 0 fuelC k187.body (env0 k187 (encL [] ()), []) (endK (retc k187.res (Sh.ar .u32))) = p187 N  := by kernel_rfl
theorem ok187 {f : Option (List Int)} (hf : ∀  r, f  = some r → ∃ N, p187 N  = some r) : EntOK FT XT 187 (en187 f) := by
  have hT : TabOK FT XT (T187) := by
    intro g en hg
    unfold T187 at hg
    split at hg <;> first | (injection hg with hg; subst hg; assumption) | cases hg
  have hO : RawOK FT XT (rawOf (α := ((Sh.ar .u32)).T) (RW187)) := by
    refine rawOf_ok (fun g en hg => ?_)
    unfold RW187 at hg
    split at hg <;> simp only [List.mem_cons, List.not_mem_nil, or_false] at hg <;> first | (subst hg; assumption) | (rcases hg with rfl | rfl <;> assumption) | (rcases hg with rfl | rfl | rfl <;> assumption) | (rcases hg with rfl | rfl | rfl | rfl <;> assumption)
  refine ⟨rfl, fun v r h => ?_⟩
  obtain ⟨N, h1⟩ := hf _ h
  exact ans_c (R := (Sh.ar .u32)) (tab := T187) (raw := (rawOf (RW187))) (LP := W187 N) (fu := fuelC) hT hO rfl rfl (Nat.le_of_ble_eq_true rfl) loopOK_nil ((e187 N ).trans h1)

def T188 (c179 : Option (List Int)) : Nat → Option Ent
  | 179 => some (en179 c179)
  | _ => none
def RW188 (c179 : Option (List Int)) : Nat → List REnt
  | _ => []
def W188 (c179 : Option (List Int)) (N : Nat) : LoopF (((Sh.ar .u32)).T) := fun no =>
  match no with
  | _ => fun _ _ => none
theorem e188 (c179 : Option (List Int)) (N : Nat)  : evc (T188 c179) (rawOf (RW188 c179)) (W188 c179 N) (retc k188.res (Sh.ar .u32)) (modeOf FT) 0 fuelC k188.body (env0 k188 (encL [] ()), []) (endK (retc k188.res (Sh.ar .u32))) = p188 c179 N  := by kernel_rfl
theorem ok188 (c179 : Option (List Int)) (h179 : EntOK FT XT 179 (en179 c179)) {f : Option (List Int)} (hf : ∀  r, f  = some r → ∃ N, p188 c179 N  = some r) : EntOK FT XT 188 (en188 f) := by
  have hT : TabOK FT XT (T188 c179) := by
    intro g en hg
    unfold T188 at hg
    split at hg <;> first | (injection hg with hg; subst hg; assumption) | cases hg
  have hO : RawOK FT XT (rawOf (α := ((Sh.ar .u32)).T) (RW188 c179)) := by
    refine rawOf_ok (fun g en hg => ?_)
    unfold RW188 at hg
    split at hg <;> simp only [List.mem_cons, List.not_mem_nil, or_false] at hg <;> first | (subst hg; assumption) | (rcases hg with rfl | rfl <;> assumption) | (rcases hg with rfl | rfl | rfl <;> assumption) | (rcases hg with rfl | rfl | rfl | rfl <;> assumption)
  refine ⟨rfl, fun v r h => ?_⟩
  obtain ⟨N, h1⟩ := hf _ h
  exact ans_c (R := (Sh.ar .u32)) (tab := T188 c179) (raw := (rawOf (RW188 c179))) (LP := W188 c179 N) (fu := fuelC) hT hO rfl rfl (Nat.le_of_ble_eq_true rfl) loopOK_nil ((e188 c179 N ).trans h1)

def T190 (c46 : List (List Int) → Option (List Int)) (c185 : Int → Option (List Int)) (c187 : Option (List Int)) (c183 : List Int → List Int → Option (List Int)) (c19 : Int → Int → Bool → Option ((List Int) × Int)) : Nat → Option Ent
  | 46 => some (en46 c46)
  | 185 => some (en185 c185)
  | 187 => some (en187 c187)
  | 183 => some (en183 c183)
  | 19 => some (en19 c19)
  | _ => none
def RW190 (c46 : List (List Int) → Option (List Int)) (c185 : Int → Option (List Int)) (c187 : Option (List Int)) (c183 : List Int → List Int → Option (List Int)) (c19 : Int → Int → Bool → Option ((List Int) × Int)) : Nat → List REnt
  | _ => []
def H190_1 : Trim := ⟨1, [], false, [2, 5, 30, 31], [(5, (.ints .u8 []), 1)]⟩
theorem l190_1 : loopN k190 1 = .loop H190_1 (bodyOf (loopN k190 1)) := by kernel_rfl
def P190_1 : Ps := ⟨[(0, .u), (2, (.ptr 0 0)), (3, .u), (4, .u), (5, (.sl 1 1)), (7, .u), (8, .u), (21, .u), (30, (.ar .u32)), (31, (.int .i64)), (32, .u)], [(.ints false .u8), (.ints false .u8)]⟩
def Q190_1 : Nat → Ps
  | 2 => ⟨[(0, .u), (2, (.ptr 0 0)), (3, .u), (4, .u), (5, (.sl 1 1)), (7, .u), (8, .u), (21, .u), (30, .u), (31, .u), (32, .u)], [(.ints false .u8), (.ints false .u8)]⟩
  | _ => noPs
def u190_1 (c46 : List (List Int) → Option (List Int)) (c185 : Int → Option (List Int)) (c187 : Option (List Int)) (c183 : List Int → List Int → Option (List Int)) (c19 : Int → Int → Bool → Option ((List Int) × Int)) (N n : Nat) (v : P190_1.T) (κ : (i : Nat) → (Q190_1 i).T → Option (((Sh.ar .u8)).T)) : Option (((Sh.ar .u8)).T) :=
  L190_1 c46 c185 c187 c183 c19 N (fun (y0 : Nat) (y1 : List Int) (y2 : List Int) => κ 2 (((), ((), ((), ((), (y0, ((), ((), ((), ((), ((), ((), ()))))))))))), (y1, (y2, ())))) n v.1.2.2.2.2.1 v.1.2.2.2.2.2.2.2.2.1 v.1.2.2.2.2.2.2.2.2.2.1 v.2.1 v.2.2.1
def W190_1 (c46 : List (List Int) → Option (List Int)) (c185 : Int → Option (List Int)) (c187 : Option (List Int)) (c183 : List Int → List Int → Option (List Int)) (c19 : Int → Int → Bool → Option ((List Int) × Int)) (N : Nat) : LoopF (((Sh.ar .u8)).T) := fun no =>
  match no with
  | _ => fun _ _ => none
theorem b190_1 (c46 : List (List Int) → Option (List Int)) (c185 : Int → Option (List Int)) (c187 : Option (List Int)) (c183 : List Int → List Int → Option (List Int)) (c19 : Int → Int → Bool → Option ((List Int) × Int)) (N n : Nat) (v : P190_1.T) (κ : (i : Nat) → (Q190_1 i).T → Option (((Sh.ar .u8)).T)) :
    evc (T190 c46 c185 c187 c183 c19) (rawOf (RW190 c46 c185 c187 c183 c19)) (W190_1 c46 c185 c187 c183 c19 N) (retc k190.res (Sh.ar .u8)) (modeOf FT) 0 fuelC (bodyOf (loopN k190 1)) (P190_1.st v) (roundK 0 H190_1 P190_1 Q190_1 (u190_1 c46 c185 c187 c183 c19 N n) κ) = u190_1 c46 c185 c187 c183 c19 N (n + 1) v κ := by kernel_rfl
theorem o190_1 (c46 : List (List Int) → Option (List Int)) (c185 : Int → Option (List Int)) (c187 : Option (List Int)) (c183 : List Int → List Int → Option (List Int)) (c19 : Int → Int → Bool → Option ((List Int) × Int)) (hT : TabOK FT XT (T190 c46 c185 c187 c183 c19)) (hO : RawOK FT XT (rawOf (α := ((Sh.ar .u8)).T) (RW190 c46 c185 c187 c183 c19))) (N : Nat) {s : St} {κ : Ex → St → Option (((Sh.ar .u8)).T)} {a : ((Sh.ar .u8)).T} (h : lpOf 0 H190_1 P190_1 Q190_1 (u190_1 c46 c185 c187 c183 c19 N N) s κ = some a) : Out FT XT 0 (retc k190.res (Sh.ar .u8)) (loopN k190 1) s κ a := by
  rw [l190_1]
  exact loop_out (LP := W190_1 c46 c185 c187 c183 c19 N) (fu := fuelC) hT hO (fun _ _ => rfl) (b190_1 c46 c185 c187 c183 c19 N) loopOK_nil N h
def H190_0 : Trim := ⟨0, [(3, (Sh.sl (Sh.int .u8)))], false, [2, 3, 4], []⟩
theorem l190_0 : loopN k190 0 = .loop H190_0 (bodyOf (loopN k190 0)) := by kernel_rfl
def P190_0 : Ps := ⟨[(0, .u), (2, (.ptr 0 0)), (3, (.tb (Sh.int .u8))), (4, (.ptr 1 0)), (5, .u), (7, .u), (8, .u), (21, .u), (30, .u), (31, .u), (32, .u)], [(.ints false .u8), (.ints false .u32)]⟩
def Q190_0 : Nat → Ps
  | 0 => ⟨[(0, .u), (2, (.ptr 0 0)), (3, .u), (4, (.ptr 1 0)), (5, .u), (7, .u), (8, .u), (21, .u), (30, .u), (31, .u), (32, .u)], [(.ints false .u8), (.ints false .u32)]⟩
  | _ => noPs
def u190_0 (c46 : List (List Int) → Option (List Int)) (c185 : Int → Option (List Int)) (c187 : Option (List Int)) (c183 : List Int → List Int → Option (List Int)) (c19 : Int → Int → Bool → Option ((List Int) × Int)) (N n : Nat) (v : P190_0.T) (κ : (i : Nat) → (Q190_0 i).T → Option (((Sh.ar .u8)).T)) : Option (((Sh.ar .u8)).T) :=
  L190_0 c46 c185 c187 c183 c19 N (fun (y0 : List Int) (y1 : List Int) => κ 0 (((), ((), ((), ((), ((), ((), ((), ((), ((), ((), ((), ()))))))))))), (y0, (y1, ())))) n v.1.2.2.1 v.2.1 v.2.2.1
def W190_0 (c46 : List (List Int) → Option (List Int)) (c185 : Int → Option (List Int)) (c187 : Option (List Int)) (c183 : List Int → List Int → Option (List Int)) (c19 : Int → Int → Bool → Option ((List Int) × Int)) (N : Nat) : LoopF (((Sh.ar .u8)).T) := fun no =>
  match no with
  | _ => fun _ _ => none
theorem b190_0 (c46 : List (List Int) → Option (List Int)) (c185 : Int → Option (List Int)) (c187 : Option (List Int)) (c183 : List Int → List Int → Option (List Int)) (c19 : Int → Int → Bool → Option ((List Int) × Int)) (N n : Nat) (v : P190_0.T) (κ : (i : Nat) → (Q190_0 i).T → Option (((Sh.ar .u8)).T)) :
    evc (T190 c46 c185 c187 c183 c19) (rawOf (RW190 c46 c185 c187 c183 c19)) (W190_0 c46 c185 c187 c183 c19 N) (retc k190.res (Sh.ar .u8)) (modeOf FT) 0 fuelC (bodyOf (loopN k190 0)) (P190_0.st v) (roundK 0 H190_0 P190_0 Q190_0 (u190_0 c46 c185 c187 c183 c19 N n) κ) = u190_0 c46 c185 c187 c183 c19 N (n + 1) v κ := by kernel_rfl
theorem o190_0 (c46 : List (List Int) → Option (List Int)) (c185 : Int → Option (List Int)) (c187 : Option (List Int)) (c183 : List Int → List Int → Option (List Int)) (c19 : Int → Int → Bool → Option ((List Int) × Int)) (hT : TabOK FT XT (T190 c46 c185 c187 c183 c19)) (hO : RawOK FT XT (rawOf (α := ((Sh.ar .u8)).T) (RW190 c46 c185 c187 c183 c19))) (N : Nat) {s : St} {κ : Ex → St → Option (((Sh.ar .u8)).T)} {a : ((Sh.ar .u8)).T} (h : lpOf 0 H190_0 P190_0 Q190_0 (u190_0 c46 c185 c187 c183 c19 N N) s κ = some a) : Out FT XT 0 (retc k190.res (Sh.ar .u8)) (loopN k190 0) s κ a := by
  rw [l190_0]
  exact loop_out (LP := W190_0 c46 c185 c187 c183 c19 N) (fu := fuelC) hT hO (fun _ _ => rfl) (b190_0 c46 c185 c187 c183 c19 N) loopOK_nil N h
def W190 (c46 : List (List Int) → Option (List Int)) (c185 : Int → Option (List Int)) (c187 : Option (List Int)) (c183 : List Int → List Int → Option (List Int)) (c19 : Int → Int → Bool → Option ((List Int) × Int)) (N : Nat) : LoopF (((Sh.ar .u8)).T) := fun no =>
  match no with
  | 0 => lpOf 0 H190_0 P190_0 Q190_0 (u190_0 c46 c185 c187 c183 c19 N N)
  | 1 => lpOf 0 H190_1 P190_1 Q190_1 (u190_1 c46 c185 c187 c183 c19 N N)
  | _ => fun _ _ => none
theorem e190 (c46 : List (List Int) → Option (List Int)) (c185 : Int → Option (List Int)) (c187 : Option (List Int)) (c183 : List Int → List Int → Option (List Int)) (c19 : Int → Int → Bool → Option ((List Int) × Int)) (N : Nat) (a0 : List (List Int)) : evc (T190 c46 c185 c187 c183 c19) (rawOf (RW190 c46 c185 c187 c183 c19)) (W190 c46 c185 c187 c183 c19 N) (retc k190.res (Sh.ar .u8)) (modeOf FT) 0 fuelC k190.body (env0 k190 (encL [(Sh.sl (Sh.sl (Sh.int .u8)))] (a0, ())), []) (endK (retc k190.res (Sh.ar .u8))) = p190 c46 c185 c187 c183 c19 N a0 := by kernel_rfl
theorem ok190 (c46 : List (List Int) → Option (List Int)) (c185 : Int → Option (List Int)) (c187 : Option (List Int)) (c183 : List Int → List Int → Option (List Int)) (c19 : Int → Int → Bool → Option ((List Int) × Int)) (h46 : EntOK FT XT 46 (en46 c46)) (h185 : EntOK FT XT 185 (en185 c185)) (h187 : EntOK FT XT 187 (en187 c187)) (h183 : EntOK FT XT 183 (en183 c183)) (h19 : EntOK FT XT 19 (en19 c19)) {f : List (List Int) → Option (List Int)} (hf : ∀ a0 r, f a0 = some r → ∃ N, p190 c46 c185 c187 c183 c19 N a0 = some r) : EntOK FT XT 190 (en190 f) := by
  have hT : TabOK FT XT (T190 c46 c185 c187 c183 c19) := by
    intro g en hg
    unfold T190 at hg
    split at hg <;> first | (injection hg with hg; subst hg; assumption) | cases hg
  have hO : RawOK FT XT (rawOf (α := ((Sh.ar .u8)).T) (RW190 c46 c185 c187 c183 c19)) := by
    refine rawOf_ok (fun g en hg => ?_)
    unfold RW190 at hg
    split at hg <;> simp only [List.mem_cons, List.not_mem_nil, or_false] at hg <;> first | (subst hg; assumption) | (rcases hg with rfl | rfl <;> assumption) | (rcases hg with rfl | rfl | rfl <;> assumption) | (rcases hg with rfl | rfl | rfl | rfl <;> assumption)
  refine ⟨rfl, fun v r h => ?_⟩
  obtain ⟨a0, _⟩ := v
  obtain ⟨N, h1⟩ := hf _ _ h
  exact ans_c (R := (Sh.ar .u8)) (tab := T190 c46 c185 c187 c183 c19) (raw := (rawOf (RW190 c46 c185 c187 c183 c19))) (LP := W190 c46 c185 c187 c183 c19 N) (fu := fuelC) hT hO rfl rfl (Nat.le_of_ble_eq_true rfl) (loopOK_cons l190_0 (fun s κ a h => o190_0 c46 c185 c187 c183 c19 hT hO N h) (loopOK_cons l190_1 (fun s κ a h => o190_1 c46 c185 c187 c183 c19 hT hO N h) loopOK_nil)) ((e190 c46 c185 c187 c183 c19 N _).trans h1)

def T189 (c190 : List (List Int) → Option (List Int)) (c185 : Int → Option (List Int)) (c187 : Option (List Int)) : Nat → Option Ent
  | 190 => some (en190 c190)
  | 185 => some (en185 c185)
  | 187 => some (en187 c187)
  | _ => none
def RW189 (c190 : List (List Int) → Option (List Int)) (c185 : Int → Option (List Int)) (c187 : Option (List Int)) : Nat → List REnt
  | _ => []
def W189 (c190 : List (List Int) → Option (List Int)) (c185 : Int → Option (List Int)) (c187 : Option (List Int)) (N : Nat) : LoopF (Sh.bool).T := fun no =>
  match no with
  | _ => fun _ _ => none
theorem e189 (c190 : List (List Int) → Option (List Int)) (c185 : Int → Option (List Int)) (c187 : Option (List Int)) (N : Nat)  : evc (T189 c190 c185 c187) (rawOf (RW189 c190 c185 c187)) (W189 c190 c185 c187 N) (retc k189.res Sh.bool) (modeOf FT) 0 fuelC k189.body (env0 k189 (encL [] ()), []) (endK (retc k189.res Sh.bool)) = p189 c190 c185 c187 N  := by kernel_rfl
theorem ok189 (c190 : List (List Int) → Option (List Int)) (c185 : Int → Option (List Int)) (c187 : Option (List Int)) (h190 : EntOK FT XT 190 (en190 c190)) (h185 : EntOK FT XT 185 (en185 c185)) (h187 : EntOK FT XT 187 (en187 c187)) {f : Option Bool} (hf : ∀  r, f  = some r → ∃ N, p189 c190 c185 c187 N  = some r) : EntOK FT XT 189 (en189 f) := by
  have hT : TabOK FT XT (T189 c190 c185 c187) := by
    intro g en hg
    unfold T189 at hg
    split at hg <;> first | (injection hg with hg; subst hg; assumption) | cases hg
  have hO : RawOK FT XT (rawOf (α := (Sh.bool).T) (RW189 c190 c185 c187)) := by
    refine rawOf_ok (fun g en hg => ?_)
    unfold RW189 at hg
    split at hg <;> simp only [List.mem_cons, List.not_mem_nil, or_false] at hg <;> first | (subst hg; assumption) | (rcases hg with rfl | rfl <;> assumption) | (rcases hg with rfl | rfl | rfl <;> assumption) | (rcases hg with rfl | rfl | rfl | rfl <;> assumption)
  refine ⟨rfl, fun v r h => ?_⟩
  obtain ⟨N, h1⟩ := hf _ h
  exact ans_c (R := Sh.bool) (tab := T189 c190 c185 c187) (raw := (rawOf (RW189 c190 c185 c187))) (LP := W189 c190 c185 c187 N) (fu := fuelC) hT hO rfl rfl (Nat.le_of_ble_eq_true rfl) loopOK_nil ((e189 c190 c185 c187 N ).trans h1)

def T171 (c183 : List Int → List Int → Option (List Int)) (c184 : List Int → List Int → Option (List Int)) (c185 : Int → Option (List Int)) (c186 : Int → Option (List Int)) (c23 : List Int → List Int → Option Bool) (c187 : Option (List Int)) (c188 : Option (List Int)) (c189 : Option Bool) : Nat → Option Ent
  | 183 => some (en183 c183)
  | 184 => some (en184 c184)
  | 185 => some (en185 c185)
  | 186 => some (en186 c186)
  | 23 => some (en23 c23)
  | 187 => some (en187 c187)
  | 188 => some (en188 c188)
  | 189 => some (en189 c189)
  | _ => none
def RW171 (c183 : List Int → List Int → Option (List Int)) (c184 : List Int → List Int → Option (List Int)) (c185 : Int → Option (List Int)) (c186 : Int → Option (List Int)) (c23 : List Int → List Int → Option Bool) (c187 : Option (List Int)) (c188 : Option (List Int)) (c189 : Option Bool) : Nat → List REnt
  | _ => []
def W171 (c183 : List Int → List Int → Option (List Int)) (c184 : List Int → List Int → Option (List Int)) (c185 : Int → Option (List Int)) (c186 : Int → Option (List Int)) (c23 : List Int → List Int → Option Bool) (c187 : Option (List Int)) (c188 : Option (List Int)) (c189 : Option Bool) (N : Nat) : LoopF (Sh.bool).T := fun no =>
  match no with
  | _ => fun _ _ => none
theorem e171 (c183 : List Int → List Int → Option (List Int)) (c184 : List Int → List Int → Option (List Int)) (c185 : Int → Option (List Int)) (c186 : Int → Option (List Int)) (c23 : List Int → List Int → Option Bool) (c187 : Option (List Int)) (c188 : Option (List Int)) (c189 : Option Bool) (N : Nat) (a0 : List Int) (a1 : List Int) (a2 : Int) : evc (T171 c183 c184 c185 c186 c23 c187 c188 c189) (rawOf (RW171 c183 c184 c185 c186 c23 c187 c188 c189)) (W171 c183 c184 c185 c186 c23 c187 c188 c189 N) (retc k171.res Sh.bool) (modeOf FT) 0 fuelC k171.body (env0 k171 (encL [(Sh.ar .u32), (Sh.ar .u8), (Sh.int .u64)] (a0, (a1, (a2, ())))), []) (endK (retc k171.res Sh.bool)) = p171 c183 c184 c185 c186 c23 c187 c188 c189 N a0 a1 a2 := by kernel_rfl
theorem ok171 (c183 : List Int → List Int → Option (List Int)) (c184 : List Int → List Int → Option (List Int)) (c185 : Int → Option (List Int)) (c186 : Int → Option (List Int)) (c23 : List Int → List Int → Option Bool) (c187 : Option (List Int)) (c188 : Option (List Int)) (c189 : Option Bool) (h183 : EntOK FT XT 183 (en183 c183)) (h184 : EntOK FT XT 184 (en184 c184)) (h185 : EntOK FT XT 185 (en185 c185)) (h186 : EntOK FT XT 186 (en186 c186)) (h23 : EntOK FT XT 23 (en23 c23)) (h187 : EntOK FT XT 187 (en187 c187)) (h188 : EntOK FT XT 188 (en188 c188)) (h189 : EntOK FT XT 189 (en189 c189)) {f : List Int → List Int → Int → Option Bool} (hf : ∀ a0 a1 a2 r, f a0 a1 a2 = some r → ∃ N, p171 c183 c184 c185 c186 c23 c187 c188 c189 N a0 a1 a2 = some r) : EntOK FT XT 171 (en171 f) := by
  have hT : TabOK FT XT (T171 c183 c184 c185 c186 c23 c187 c188 c189) := by
    intro g en hg
    unfold T171 at hg
    split at hg <;> first | (injection hg with hg; subst hg; assumption) | cases hg
  have hO : RawOK FT XT (rawOf (α := (Sh.bool).T) (RW171 c183 c184 c185 c186 c23 c187 c188 c189)) := by
    refine rawOf_ok (fun g en hg => ?_)
    unfold RW171 at hg
    split at hg <;> simp only [List.mem_cons, List.not_mem_nil, or_false] at hg <;> first | (subst hg; assumption) | (rcases hg with rfl | rfl <;> assumption) | (rcases hg with rfl | rfl | rfl <;> assumption) | (rcases hg with rfl | rfl | rfl | rfl <;> assumption)
  refine ⟨rfl, fun v r h => ?_⟩
  obtain ⟨a0, a1, a2, _⟩ := v
  obtain ⟨N, h1⟩ := hf _ _ _ _ h
  exact ans_c (R := Sh.bool) (tab := T171 c183 c184 c185 c186 c23 c187 c188 c189) (raw := (rawOf (RW171 c183 c184 c185 c186 c23 c187 c188 c189))) (LP := W171 c183 c184 c185 c186 c23 c187 c188 c189 N) (fu := fuelC) hT hO rfl rfl (Nat.le_of_ble_eq_true rfl) loopOK_nil ((e171 c183 c184 c185 c186 c23 c187 c188 c189 N _ _ _).trans h1)

def T191 (c186 : Int → Option (List Int)) (c188 : Option (List Int)) (c184 : List Int → List Int → Option (List Int)) : Nat → Option Ent
  | 186 => some (en186 c186)
  | 188 => some (en188 c188)
  | 184 => some (en184 c184)
  | _ => none
def RW191 (c186 : Int → Option (List Int)) (c188 : Option (List Int)) (c184 : List Int → List Int → Option (List Int)) : Nat → List REnt
  | _ => []
def H191_2 : Trim := ⟨2, [], false, [2, 4, 8, 9], []⟩
theorem l191_2 : loopN k191 2 = .loop H191_2 (bodyOf (loopN k191 2)) := by kernel_rfl
def P191_2 : Ps := ⟨[(0, .u), (2, (.ptr 0 0)), (3, .u), (4, (.ptr 1 0)), (5, .u), (6, .u), (7, .u), (8, (.ptr 2 0)), (9, (.int .i64)), (21, .u), (25, .u), (40, .u)], [(.ints false .u8), (.ints false .u32), (.ints false .u8)]⟩
def Q191_2 : Nat → Ps
  | 4 => ⟨[(0, .u), (2, (.ptr 0 0)), (3, .u), (4, .u), (5, .u), (6, .u), (7, .u), (8, (.ptr 1 0)), (9, .u), (21, .u), (25, .u), (40, .u)], [(.ints false .u8), (.ints false .u8)]⟩
  | _ => noPs
def u191_2 (c186 : Int → Option (List Int)) (c188 : Option (List Int)) (c184 : List Int → List Int → Option (List Int)) (N n : Nat) (v : P191_2.T) (κ : (i : Nat) → (Q191_2 i).T → Option (((Sh.ar .u8)).T)) : Option (((Sh.ar .u8)).T) :=
  L191_2 c186 c188 c184 N (fun (y0 : List Int) (y1 : List Int) => κ 4 (((), ((), ((), ((), ((), ((), ((), ((), ((), ((), ((), ((), ())))))))))))), (y0, (y1, ())))) n v.1.2.2.2.2.2.2.2.2.1 v.2.1 v.2.2.1 v.2.2.2.1
def W191_2 (c186 : Int → Option (List Int)) (c188 : Option (List Int)) (c184 : List Int → List Int → Option (List Int)) (N : Nat) : LoopF (((Sh.ar .u8)).T) := fun no =>
  match no with
  | _ => fun _ _ => none
theorem b191_2 (c186 : Int → Option (List Int)) (c188 : Option (List Int)) (c184 : List Int → List Int → Option (List Int)) (N n : Nat) (v : P191_2.T) (κ : (i : Nat) → (Q191_2 i).T → Option (((Sh.ar .u8)).T)) :
    evc (T191 c186 c188 c184) (rawOf (RW191 c186 c188 c184)) (W191_2 c186 c188 c184 N) (retc k191.res (Sh.ar .u8)) (modeOf FT) 0 fuelC (bodyOf (loopN k191 2)) (P191_2.st v) (roundK 0 H191_2 P191_2 Q191_2 (u191_2 c186 c188 c184 N n) κ) = u191_2 c186 c188 c184 N (n + 1) v κ := by kernel_rfl
theorem o191_2 (c186 : Int → Option (List Int)) (c188 : Option (List Int)) (c184 : List Int → List Int → Option (List Int)) (hT : TabOK FT XT (T191 c186 c188 c184)) (hO : RawOK FT XT (rawOf (α := ((Sh.ar .u8)).T) (RW191 c186 c188 c184))) (N : Nat) {s : St} {κ : Ex → St → Option (((Sh.ar .u8)).T)} {a : ((Sh.ar .u8)).T} (h : lpOf 0 H191_2 P191_2 Q191_2 (u191_2 c186 c188 c184 N N) s κ = some a) : Out FT XT 0 (retc k191.res (Sh.ar .u8)) (loopN k191 2) s κ a := by
  rw [l191_2]
  exact loop_out (LP := W191_2 c186 c188 c184 N) (fu := fuelC) hT hO (fun _ _ => rfl) (b191_2 c186 c188 c184 N) loopOK_nil N h
def H191_1 : Trim := ⟨1, [], false, [2, 3, 4, 5, 6, 7], []⟩
theorem l191_1 : loopN k191 1 = .loop H191_1 (bodyOf (loopN k191 1)) := by kernel_rfl
def P191_1 : Ps := ⟨[(0, .u), (2, (.ptr 0 0)), (3, (.sl 1 1)), (4, (.ptr 2 0)), (5, (.int .i64)), (6, (.ptr 3 0)), (7, (.int .i64)), (8, .u), (9, .u), (21, .u), (25, .u), (40, .u)], [(.ints false .u8), (.ints false .u8), (.ints false .u32), (.ints false .u8)]⟩
def Q191_1 : Nat → Ps
  | 2 => ⟨[(0, .u), (2, (.ptr 0 0)), (3, (.sl 1 1)), (4, (.ptr 2 0)), (5, (.int .i64)), (6, (.ptr 3 0)), (7, .u), (8, .u), (9, .u), (21, .u), (25, .u), (40, .u)], [(.ints false .u8), (.ints false .u8), (.ints false .u32), (.ints false .u8)]⟩
  | _ => noPs
def u191_1 (c186 : Int → Option (List Int)) (c188 : Option (List Int)) (c184 : List Int → List Int → Option (List Int)) (N n : Nat) (v : P191_1.T) (κ : (i : Nat) → (Q191_1 i).T → Option (((Sh.ar .u8)).T)) : Option (((Sh.ar .u8)).T) :=
  L191_1 c186 c188 c184 N (fun (y0 : Nat) (y1 : Int) (y2 : List Int) (y3 : List Int) (y4 : List Int) (y5 : List Int) => κ 2 (((), ((), (y0, ((), (y1, ((), ((), ((), ((), ((), ((), ((), ())))))))))))), (y2, (y3, (y4, (y5, ())))))) n v.1.2.2.1 v.1.2.2.2.2.1 v.1.2.2.2.2.2.2.1 v.2.1 v.2.2.1 v.2.2.2.1 v.2.2.2.2.1
def W191_1 (c186 : Int → Option (List Int)) (c188 : Option (List Int)) (c184 : List Int → List Int → Option (List Int)) (N : Nat) : LoopF (((Sh.ar .u8)).T) := fun no =>
  match no with
  | _ => fun _ _ => none
theorem b191_1 (c186 : Int → Option (List Int)) (c188 : Option (List Int)) (c184 : List Int → List Int → Option (List Int)) (N n : Nat) (v : P191_1.T) (κ : (i : Nat) → (Q191_1 i).T → Option (((Sh.ar .u8)).T)) :
    evc (T191 c186 c188 c184) (rawOf (RW191 c186 c188 c184)) (W191_1 c186 c188 c184 N) (retc k191.res (Sh.ar .u8)) (modeOf FT) 0 fuelC (bodyOf (loopN k191 1)) (P191_1.st v) (roundK 0 H191_1 P191_1 Q191_1 (u191_1 c186 c188 c184 N n) κ) = u191_1 c186 c188 c184 N (n + 1) v κ := by kernel_rfl
theorem o191_1 (c186 : Int → Option (List Int)) (c188 : Option (List Int)) (c184 : List Int → List Int → Option (List Int)) (hT : TabOK FT XT (T191 c186 c188 c184)) (hO : RawOK FT XT (rawOf (α := ((Sh.ar .u8)).T) (RW191 c186 c188 c184))) (N : Nat) {s : St} {κ : Ex → St → Option (((Sh.ar .u8)).T)} {a : ((Sh.ar .u8)).T} (h : lpOf 0 H191_1 P191_1 Q191_1 (u191_1 c186 c188 c184 N N) s κ = some a) : Out FT XT 0 (retc k191.res (Sh.ar .u8)) (loopN k191 1) s κ a := by
  rw [l191_1]
  exact loop_out (LP := W191_1 c186 c188 c184 N) (fu := fuelC) hT hO (fun _ _ => rfl) (b191_1 c186 c188 c184 N) loopOK_nil N h
def H191_0 : Trim := ⟨0, [], false, [2, 3, 4, 5], []⟩
theorem l191_0 : loopN k191 0 = .loop H191_0 (bodyOf (loopN k191 0)) := by kernel_rfl
def P191_0 : Ps := ⟨[(0, .u), (2, (.ptr 0 0)), (3, (.sl 1 1)), (4, (.ptr 2 0)), (5, (.int .i64)), (6, .u), (7, .u), (8, .u), (9, .u), (21, .u), (25, .u), (40, .u)], [(.ints false .u8), (.ints false .u8), (.ints false .u32)]⟩
def Q191_0 : Nat → Ps
  | 0 => ⟨[(0, .u), (2, (.ptr 0 0)), (3, .u), (4, (.ptr 1 0)), (5, .u), (6, .u), (7, .u), (8, .u), (9, .u), (21, .u), (25, .u), (40, .u)], [(.ints false .u8), (.ints false .u32)]⟩
  | _ => noPs
def u191_0 (c186 : Int → Option (List Int)) (c188 : Option (List Int)) (c184 : List Int → List Int → Option (List Int)) (N n : Nat) (v : P191_0.T) (κ : (i : Nat) → (Q191_0 i).T → Option (((Sh.ar .u8)).T)) : Option (((Sh.ar .u8)).T) :=
  L191_0 c186 c188 c184 N (fun (y0 : List Int) (y1 : List Int) => κ 0 (((), ((), ((), ((), ((), ((), ((), ((), ((), ((), ((), ((), ())))))))))))), (y0, (y1, ())))) n v.1.2.2.1 v.1.2.2.2.2.1 v.2.1 v.2.2.1 v.2.2.2.1
def W191_0 (c186 : Int → Option (List Int)) (c188 : Option (List Int)) (c184 : List Int → List Int → Option (List Int)) (N : Nat) : LoopF (((Sh.ar .u8)).T) := fun no =>
  match no with
  | 1 => lpOf 0 H191_1 P191_1 Q191_1 (u191_1 c186 c188 c184 N N)
  | _ => fun _ _ => none
theorem b191_0 (c186 : Int → Option (List Int)) (c188 : Option (List Int)) (c184 : List Int → List Int → Option (List Int)) (N n : Nat) (v : P191_0.T) (κ : (i : Nat) → (Q191_0 i).T → Option (((Sh.ar .u8)).T)) :
    evc (T191 c186 c188 c184) (rawOf (RW191 c186 c188 c184)) (W191_0 c186 c188 c184 N) (retc k191.res (Sh.ar .u8)) (modeOf FT) 0 fuelC (bodyOf (loopN k191 0)) (P191_0.st v) (roundK 0 H191_0 P191_0 Q191_0 (u191_0 c186 c188 c184 N n) κ) = u191_0 c186 c188 c184 N (n + 1) v κ := by kernel_rfl
theorem o191_0 (c186 : Int → Option (List Int)) (c188 : Option (List Int)) (c184 : List Int → List Int → Option (List Int)) (hT : TabOK FT XT (T191 c186 c188 c184)) (hO : RawOK FT XT (rawOf (α := ((Sh.ar .u8)).T) (RW191 c186 c188 c184))) (N : Nat) {s : St} {κ : Ex → St → Option (((Sh.ar .u8)).T)} {a : ((Sh.ar .u8)).T} (h : lpOf 0 H191_0 P191_0 Q191_0 (u191_0 c186 c188 c184 N N) s κ = some a) : Out FT XT 0 (retc k191.res (Sh.ar .u8)) (loopN k191 0) s κ a := by
  rw [l191_0]
  exact loop_out (LP := W191_0 c186 c188 c184 N) (fu := fuelC) hT hO (fun _ _ => rfl) (b191_0 c186 c188 c184 N) (loopOK_cons l191_1 (fun s κ a h => o191_1 c186 c188 c184 hT hO N h) loopOK_nil) N h
def W191 (c186 : Int → Option (List Int)) (c188 : Option (List Int)) (c184 : List Int → List Int → Option (List Int)) (N : Nat) : LoopF (((Sh.ar .u8)).T) := fun no =>
  match no with
  | 0 => lpOf 0 H191_0 P191_0 Q191_0 (u191_0 c186 c188 c184 N N)
  | 2 => lpOf 0 H191_2 P191_2 Q191_2 (u191_2 c186 c188 c184 N N)
  | _ => fun _ _ => none
theorem e191 (c186 : Int → Option (List Int)) (c188 : Option (List Int)) (c184 : List Int → List Int → Option (List Int)) (N : Nat) (a0 : List Int) : evc (T191 c186 c188 c184) (rawOf (RW191 c186 c188 c184)) (W191 c186 c188 c184 N) (retc k191.res (Sh.ar .u8)) (modeOf FT) 0 fuelC k191.body (env0 k191 (encL [(Sh.sl (Sh.int .u8))] (a0, ())), []) (endK (retc k191.res (Sh.ar .u8))) = p191 c186 c188 c184 N a0 := by kernel_rfl
theorem ok191 (c186 : Int → Option (List Int)) (c188 : Option (List Int)) (c184 : List Int → List Int → Option (List Int)) (h186 : EntOK FT XT 186 (en186 c186)) (h188 : EntOK FT XT 188 (en188 c188)) (h184 : EntOK FT XT 184 (en184 c184)) {f : List Int → Option (List Int)} (hf : ∀ a0 r, f a0 = some r → ∃ N, p191 c186 c188 c184 N a0 = some r) : EntOK FT XT 191 (en191 f) := by
  have hT : TabOK FT XT (T191 c186 c188 c184) := by
    intro g en hg
    unfold T191 at hg
    split at hg <;> first | (injection hg with hg; subst hg; assumption) | cases hg
  have hO : RawOK FT XT (rawOf (α := ((Sh.ar .u8)).T) (RW191 c186 c188 c184)) := by
    refine rawOf_ok (fun g en hg => ?_)
    unfold RW191 at hg
    split at hg <;> simp only [List.mem_cons, List.not_mem_nil, or_false] at hg <;> first | (subst hg; assumption) | (rcases hg with rfl | rfl <;> assumption) | (rcases hg with rfl | rfl | rfl <;> assumption) | (rcases hg with rfl | rfl | rfl | rfl <;> assumption)
  refine ⟨rfl, fun v r h => ?_⟩
  obtain ⟨a0, _⟩ := v
  obtain ⟨N, h1⟩ := hf _ _ h
  exact ans_c (R := (Sh.ar .u8)) (tab := T191 c186 c188 c184) (raw := (rawOf (RW191 c186 c188 c184))) (LP := W191 c186 c188 c184 N) (fu := fuelC) hT hO rfl rfl (Nat.le_of_ble_eq_true rfl) (loopOK_cons l191_0 (fun s κ a h => o191_0 c186 c188 c184 hT hO N h) (loopOK_cons l191_2 (fun s κ a h => o191_2 c186 c188 c184 hT hO N h) loopOK_nil)) ((e191 c186 c188 c184 N _).trans h1)

def T172 (c189 : Option Bool) (c190 : List (List Int) → Option (List Int)) (c191 : List Int → Option (List Int)) : Nat → Option Ent
  | 189 => some (en189 c189)
  | 190 => some (en190 c190)
  | 191 => some (en191 c191)
  | _ => none
def RW172 (c189 : Option Bool) (c190 : List (List Int) → Option (List Int)) (c191 : List Int → Option (List Int)) : Nat → List REnt
  | _ => []
def W172 (c189 : Option Bool) (c190 : List (List Int) → Option (List Int)) (c191 : List Int → Option (List Int)) (N : Nat) : LoopF (Sh.bool).T := fun no =>
  match no with
  | _ => fun _ _ => none
theorem e172 (c189 : Option Bool) (c190 : List (List Int) → Option (List Int)) (c191 : List Int → Option (List Int)) (N : Nat) (a0 : List Int) : evc (T172 c189 c190 c191) (rawOf (RW172 c189 c190 c191)) (W172 c189 c190 c191 N) (retc k172.res Sh.bool) (modeOf FT) 0 fuelC k172.body (env0 k172 (encL [(Sh.sl (Sh.int .u8))] (a0, ())), []) (endK (retc k172.res Sh.bool)) = p172 c189 c190 c191 N a0 := by kernel_rfl
theorem ok172 (c189 : Option Bool) (c190 : List (List Int) → Option (List Int)) (c191 : List Int → Option (List Int)) (h189 : EntOK FT XT 189 (en189 c189)) (h190 : EntOK FT XT 190 (en190 c190)) (h191 : EntOK FT XT 191 (en191 c191)) {f : List Int → Option Bool} (hf : ∀ a0 r, f a0 = some r → ∃ N, p172 c189 c190 c191 N a0 = some r) : EntOK FT XT 172 (en172 f) := by
  have hT : TabOK FT XT (T172 c189 c190 c191) := by
    intro g en hg
    unfold T172 at hg
    split at hg <;> first | (injection hg with hg; subst hg; assumption) | cases hg
  have hO : RawOK FT XT (rawOf (α := (Sh.bool).T) (RW172 c189 c190 c191)) := by
    refine rawOf_ok (fun g en hg => ?_)
    unfold RW172 at hg
    split at hg <;> simp only [List.mem_cons, List.not_mem_nil, or_false] at hg <;> first | (subst hg; assumption) | (rcases hg with rfl | rfl <;> assumption) | (rcases hg with rfl | rfl | rfl <;> assumption) | (rcases hg with rfl | rfl | rfl | rfl <;> assumption)
  refine ⟨rfl, fun v r h => ?_⟩
  obtain ⟨a0, _⟩ := v
  obtain ⟨N, h1⟩ := hf _ _ h
  exact ans_c (R := Sh.bool) (tab := T172 c189 c190 c191) (raw := (rawOf (RW172 c189 c190 c191))) (LP := W172 c189 c190 c191 N) (fu := fuelC) hT hO rfl rfl (Nat.le_of_ble_eq_true rfl) loopOK_nil ((e172 c189 c190 c191 N _).trans h1)

def T173 (c189 : Option Bool) (c185 : Int → Option (List Int)) (c187 : Option (List Int)) (c183 : List Int → List Int → Option (List Int)) (c190 : List (List Int) → Option (List Int)) : Nat → Option Ent
  | 189 => some (en189 c189)
  | 185 => some (en185 c185)
  | 187 => some (en187 c187)
  | 183 => some (en183 c183)
  | 190 => some (en190 c190)
  | _ => none
def RW173 (c189 : Option Bool) (c185 : Int → Option (List Int)) (c187 : Option (List Int)) (c183 : List Int → List Int → Option (List Int)) (c190 : List (List Int) → Option (List Int)) : Nat → List REnt
  | _ => []
def H173_1 : Trim := ⟨1, [(9, (Sh.sl (Sh.int .u8)))], false, [0, 3, 8, 9], []⟩
theorem l173_1 : loopN k173 1 = .loop H173_1 (bodyOf (loopN k173 1)) := by kernel_rfl
def P173_1 : Ps := ⟨[(0, (.tb (Sh.sl (Sh.int .u8)))), (2, .u), (3, (.sl 0 1)), (5, .u), (6, .u), (7, .u), (8, (.ptr 1 0)), (9, (.tb (Sh.int .u8))), (10, .u), (13, .u), (15, .u), (16, .u), (17, .u), (18, .u), (23, .u), (55, .u), (63, .u)], [(.ints false .u8), (.ints false .u32)]⟩
def Q173_1 : Nat → Ps
  | 2 => ⟨[(0, (.tb (Sh.sl (Sh.int .u8)))), (2, .u), (3, (.sl 0 1)), (5, .u), (6, .u), (7, .u), (8, (.ptr 1 0)), (9, .u), (10, .u), (13, .u), (15, .u), (16, .u), (17, .u), (18, .u), (23, .u), (55, .u), (63, .u)], [(.ints false .u8), (.ints false .u32)]⟩
  | _ => noPs
def u173_1 (c189 : Option Bool) (c185 : Int → Option (List Int)) (c187 : Option (List Int)) (c183 : List Int → List Int → Option (List Int)) (c190 : List (List Int) → Option (List Int)) (N n : Nat) (v : P173_1.T) (κ : (i : Nat) → (Q173_1 i).T → Option (Sh.bool).T) : Option (Sh.bool).T :=
  L173_1 c189 c185 c187 c183 c190 N (fun (y0 : List (List Int)) (y1 : Nat) (y2 : List Int) (y3 : List Int) => κ 2 ((y0, ((), (y1, ((), ((), ((), ((), ((), ((), ((), ((), ((), ((), ((), ((), ((), ((), ()))))))))))))))))), (y2, (y3, ())))) n v.1.1 v.1.2.2.1 v.1.2.2.2.2.2.2.2.1 v.2.1 v.2.2.1
def W173_1 (c189 : Option Bool) (c185 : Int → Option (List Int)) (c187 : Option (List Int)) (c183 : List Int → List Int → Option (List Int)) (c190 : List (List Int) → Option (List Int)) (N : Nat) : LoopF (Sh.bool).T := fun no =>
  match no with
  | _ => fun _ _ => none
theorem b173_1 (c189 : Option Bool) (c185 : Int → Option (List Int)) (c187 : Option (List Int)) (c183 : List Int → List Int → Option (List Int)) (c190 : List (List Int) → Option (List Int)) (N n : Nat) (v : P173_1.T) (κ : (i : Nat) → (Q173_1 i).T → Option (Sh.bool).T) :
    evc (T173 c189 c185 c187 c183 c190) (rawOf (RW173 c189 c185 c187 c183 c190)) (W173_1 c189 c185 c187 c183 c190 N) (retc k173.res Sh.bool) (modeOf FT) 0 fuelC (bodyOf (loopN k173 1)) (P173_1.st v) (roundK 0 H173_1 P173_1 Q173_1 (u173_1 c189 c185 c187 c183 c190 N n) κ) = u173_1 c189 c185 c187 c183 c190 N (n + 1) v κ := by kernel_rfl
theorem o173_1 (c189 : Option Bool) (c185 : Int → Option (List Int)) (c187 : Option (List Int)) (c183 : List Int → List Int → Option (List Int)) (c190 : List (List Int) → Option (List Int)) (hT : TabOK FT XT (T173 c189 c185 c187 c183 c190)) (hO : RawOK FT XT (rawOf (α := (Sh.bool).T) (RW173 c189 c185 c187 c183 c190))) (N : Nat) {s : St} {κ : Ex → St → Option (Sh.bool).T} {a : (Sh.bool).T} (h : lpOf 0 H173_1 P173_1 Q173_1 (u173_1 c189 c185 c187 c183 c190 N N) s κ = some a) : Out FT XT 0 (retc k173.res Sh.bool) (loopN k173 1) s κ a := by
  rw [l173_1]
  exact loop_out (LP := W173_1 c189 c185 c187 c183 c190 N) (fu := fuelC) hT hO (fun _ _ => rfl) (b173_1 c189 c185 c187 c183 c190 N) loopOK_nil N h
def H173_0 : Trim := ⟨0, [], false, [0, 3, 15, 16, 17], [(3, (.ints .u8 []), 1)]⟩
theorem l173_0 : loopN k173 0 = .loop H173_0 (bodyOf (loopN k173 0)) := by kernel_rfl
def P173_0 : Ps := ⟨[(0, (.tb (Sh.sl (Sh.int .u8)))), (2, .u), (3, (.sl 0 1)), (5, .u), (6, .u), (7, .u), (8, .u), (9, .u), (10, .u), (13, .u), (15, (.tb (Sh.sl (Sh.int .u8)))), (16, (.int .i64)), (17, (.int .i64)), (18, .u), (23, .u), (55, .u), (63, .u)], [(.ints false .u8)]⟩
def Q173_0 : Nat → Ps
  | 0 => ⟨[(0, (.tb (Sh.sl (Sh.int .u8)))), (2, .u), (3, (.sl 0 1)), (5, .u), (6, .u), (7, .u), (8, .u), (9, .u), (10, .u), (13, .u), (15, .u), (16, .u), (17, .u), (18, .u), (23, .u), (55, .u), (63, .u)], [(.ints false .u8)]⟩
  | _ => noPs
def u173_0 (c189 : Option Bool) (c185 : Int → Option (List Int)) (c187 : Option (List Int)) (c183 : List Int → List Int → Option (List Int)) (c190 : List (List Int) → Option (List Int)) (N n : Nat) (v : P173_0.T) (κ : (i : Nat) → (Q173_0 i).T → Option (Sh.bool).T) : Option (Sh.bool).T :=
  L173_0 c189 c185 c187 c183 c190 N (fun (y0 : List (List Int)) (y1 : Nat) (y2 : List Int) => κ 0 ((y0, ((), (y1, ((), ((), ((), ((), ((), ((), ((), ((), ((), ((), ((), ((), ((), ((), ()))))))))))))))))), (y2, ()))) n v.1.1 v.1.2.2.1 v.1.2.2.2.2.2.2.2.2.2.2.1 v.1.2.2.2.2.2.2.2.2.2.2.2.1 v.1.2.2.2.2.2.2.2.2.2.2.2.2.1 v.2.1
def W173_0 (c189 : Option Bool) (c185 : Int → Option (List Int)) (c187 : Option (List Int)) (c183 : List Int → List Int → Option (List Int)) (c190 : List (List Int) → Option (List Int)) (N : Nat) : LoopF (Sh.bool).T := fun no =>
  match no with
  | _ => fun _ _ => none
theorem b173_0 (c189 : Option Bool) (c185 : Int → Option (List Int)) (c187 : Option (List Int)) (c183 : List Int → List Int → Option (List Int)) (c190 : List (List Int) → Option (List Int)) (N n : Nat) (v : P173_0.T) (κ : (i : Nat) → (Q173_0 i).T → Option (Sh.bool).T) :
    evc (T173 c189 c185 c187 c183 c190) (rawOf (RW173 c189 c185 c187 c183 c190)) (W173_0 c189 c185 c187 c183 c190 N) (retc k173.res Sh.bool) (modeOf FT) 0 fuelC (bodyOf (loopN k173 0)) (P173_0.st v) (roundK 0 H173_0 P173_0 Q173_0 (u173_0 c189 c185 c187 c183 c190 N n) κ) = u173_0 c189 c185 c187 c183 c190 N (n + 1) v κ := by kernel_rfl
theorem o173_0 (c189 : Option Bool) (c185 : Int → Option (List Int)) (c187 : Option (List Int)) (c183 : List Int → List Int → Option (List Int)) (c190 : List (List Int) → Option (List Int)) (hT : TabOK FT XT (T173 c189 c185 c187 c183 c190)) (hO : RawOK FT XT (rawOf (α := (Sh.bool).T) (RW173 c189 c185 c187 c183 c190))) (N : Nat) {s : St} {κ : Ex → St → Option (Sh.bool).T} {a : (Sh.bool).T} (h : lpOf 0 H173_0 P173_0 Q173_0 (u173_0 c189 c185 c187 c183 c190 N N) s κ = some a) : Out FT XT 0 (retc k173.res Sh.bool) (loopN k173 0) s κ a := by
  rw [l173_0]
  exact loop_out (LP := W173_0 c189 c185 c187 c183 c190 N) (fu := fuelC) hT hO (fun _ _ => rfl) (b173_0 c189 c185 c187 c183 c190 N) loopOK_nil N h
def W173 (c189 : Option Bool) (c185 : Int → Option (List Int)) (c187 : Option (List Int)) (c183 : List Int → List Int → Option (List Int)) (c190 : List (List Int) → Option (List Int)) (N : Nat) : LoopF (Sh.bool).T := fun no =>
  match no with
  | 0 => lpOf 0 H173_0 P173_0 Q173_0 (u173_0 c189 c185 c187 c183 c190 N N)
  | 1 => lpOf 0 H173_1 P173_1 Q173_1 (u173_1 c189 c185 c187 c183 c190 N N)
  | _ => fun _ _ => none
theorem e173 (c189 : Option Bool) (c185 : Int → Option (List Int)) (c187 : Option (List Int)) (c183 : List Int → List Int → Option (List Int)) (c190 : List (List Int) → Option (List Int)) (N : Nat) (a0 : List (List Int)) : evc (T173 c189 c185 c187 c183 c190) (rawOf (RW173 c189 c185 c187 c183 c190)) (W173 c189 c185 c187 c183 c190 N) (retc k173.res Sh.bool) (modeOf FT) 0 fuelC k173.body (env0 k173 (encL [(Sh.sl (Sh.sl (Sh.int .u8)))] (a0, ())), []) (endK (retc k173.res Sh.bool)) = p173 c189 c185 c187 c183 c190 N a0 := by kernel_rfl
theorem ok173 (c189 : Option Bool) (c185 : Int → Option (List Int)) (c187 : Option (List Int)) (c183 : List Int → List Int → Option (List Int)) (c190 : List (List Int) → Option (List Int)) (h189 : EntOK FT XT 189 (en189 c189)) (h185 : EntOK FT XT 185 (en185 c185)) (h187 : EntOK FT XT 187 (en187 c187)) (h183 : EntOK FT XT 183 (en183 c183)) (h190 : EntOK FT XT 190 (en190 c190)) {f : List (List Int) → Option Bool} (hf : ∀ a0 r, f a0 = some r → ∃ N, p173 c189 c185 c187 c183 c190 N a0 = some r) : EntOK FT XT 173 (en173 f) := by
  have hT : TabOK FT XT (T173 c189 c185 c187 c183 c190) := by
    intro g en hg
    unfold T173 at hg
    split at hg <;> first | (injection hg with hg; subst hg; assumption) | cases hg
  have hO : RawOK FT XT (rawOf (α := (Sh.bool).T) (RW173 c189 c185 c187 c183 c190)) := by
    refine rawOf_ok (fun g en hg => ?_)
    unfold RW173 at hg
    split at hg <;> simp only [List.mem_cons, List.not_mem_nil, or_false] at hg <;> first | (subst hg; assumption) | (rcases hg with rfl | rfl <;> assumption) | (rcases hg with rfl | rfl | rfl <;> assumption) | (rcases hg with rfl | rfl | rfl | rfl <;> assumption)
  refine ⟨rfl, fun v r h => ?_⟩
  obtain ⟨a0, _⟩ := v
  obtain ⟨N, h1⟩ := hf _ _ h
  exact ans_c (R := Sh.bool) (tab := T173 c189 c185 c187 c183 c190) (raw := (rawOf (RW173 c189 c185 c187 c183 c190))) (LP := W173 c189 c185 c187 c183 c190 N) (fu := fuelC) hT hO rfl rfl (Nat.le_of_ble_eq_true rfl) (loopOK_cons l173_0 (fun s κ a h => o173_0 c189 c185 c187 c183 c190 hT hO N h) (loopOK_cons l173_1 (fun s κ a h => o173_1 c189 c185 c187 c183 c190 hT hO N h) loopOK_nil)) ((e173 c189 c185 c187 c183 c190 N _).trans h1)
end Go.Proofs.YtjgaemdfaknemaaE
