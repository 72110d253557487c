/- The plain functions are the evaluator's. -/
import Derived.Test.YtpiadkdalilmnaaEvGE
import Derived.KernelRfl
namespace Go.Proofs.YtpiadkdalilmnaaE
open Go
set_option linter.unusedVariables false
set_option linter.unusedSimpArgs false

def T283v0 : Nat → Option Ent
  | _ => none
def RW283v0 : Nat → List REnt
  | _ => []
def W283v0 (N : Nat) : LoopF QR283v0.T := fun no =>
  match no with
  | _ => fun _ _ => none
theorem e283v0 (N : Nat) (v : PR283v0.T) : evc (T283v0) (rawOf (RW283v0)) (W283v0 N) (retr k283.res 0 QR283v0) (modeOf FT) 0 fuelC k283.body (env0 k283 (PR283v0.a.st v.1), stH PR283v0.h v.2) (endK (retr k283.res 0 QR283v0)) = p283v0 N v.1.2.1 := by kernel_rfl
theorem ok283v0 {f : Int → Option ((Nat × Unit) × ((List Int) × Unit))} (hf : ∀ a0 r, f a0 = some r → ∃ N, p283v0 N a0 = some r) : REntOK FT XT 283 (rn283v0 f) := by
  have hT : TabOK FT XT (T283v0) := by
    intro g en hg
    unfold T283v0 at hg
    split at hg <;> first | (injection hg with hg; subst hg; assumption) | cases hg
  have hO : RawOK FT XT (rawOf (α := QR283v0.T) (RW283v0)) := by
    refine rawOf_ok (fun g en hg => ?_)
    unfold RW283v0 at hg
    split at hg <;> simp only [List.mem_cons, List.not_mem_nil, or_false] at hg <;> first | (subst hg; assumption) | (rcases hg with rfl | rfl <;> assumption) | (rcases hg with rfl | rfl | rfl <;> assumption) | (rcases hg with rfl | rfl | rfl | rfl <;> assumption)
  intro v r w h hw
  obtain ⟨N, h1⟩ := hf _ _ h
  exact ans_r (Q := QR283v0) (tab := T283v0) (raw := (rawOf (RW283v0))) (LP := W283v0 N) (fu := fuelC) hT hO rfl rfl (Nat.le_of_ble_eq_true rfl) rfl loopOK_nil ((e283v0 N v).trans h1) hw

def T2 (d283v0 : Int → Option ((Nat × Unit) × ((List Int) × Unit))) : Nat → Option Ent
  | _ => none
def RW2 (d283v0 : Int → Option ((Nat × Unit) × ((List Int) × Unit))) : Nat → List REnt
  | 283 => [rn283v0 d283v0]
  | _ => []
def H2_1 : Trim := ⟨1, [], false, [6, 25, 26, 27], []⟩
theorem l2_1 : loopN k2 1 = .loop H2_1 (bodyOf (loopN k2 1)) := by kernel_rfl
def P2_1 : Ps := ⟨[(0, .u), (2, .u), (3, .u), (5, .u), (6, (.sl 0 1)), (8, .u), (9, .u), (10, .u), (11, .u), (12, .u), (20, .u), (25, (.tb (Sh.sl (Sh.int .i64)))), (26, (.int .i64)), (27, (.int .i64)), (28, .u)], [(.ints false .i64)]⟩
def Q2_1 : Nat → Ps
  | 2 => ⟨[(0, .u), (2, .u), (3, .u), (5, .u), (6, (.sl 0 1)), (8, .u), (9, .u), (10, .u), (11, .u), (12, .u), (20, .u), (25, .u), (26, .u), (27, .u), (28, .u)], [(.ints false .i64)]⟩
  | _ => noPs
def u2_1 (d283v0 : Int → Option ((Nat × Unit) × ((List Int) × Unit))) (N n : Nat) (v : P2_1.T) (κ : (i : Nat) → (Q2_1 i).T → Option (List Int)) : Option (List Int) :=
  L2_1 d283v0 N (fun (y0 : Nat) (y1 : List Int) => κ 2 (((), ((), ((), ((), (y0, ((), ((), ((), ((), ((), ((), ((), ((), ((), ((), ()))))))))))))))), (y1, ()))) n v.1.2.2.2.2.1 v.1.2.2.2.2.2.2.2.2.2.2.2.1 v.1.2.2.2.2.2.2.2.2.2.2.2.2.1 v.1.2.2.2.2.2.2.2.2.2.2.2.2.2.1 v.2.1
def W2_1 (d283v0 : Int → Option ((Nat × Unit) × ((List Int) × Unit))) (N : Nat) : LoopF (List Int) := fun no =>
  match no with
  | _ => fun _ _ => none
theorem b2_1 (d283v0 : Int → Option ((Nat × Unit) × ((List Int) × Unit))) (N n : Nat) (v : P2_1.T) (κ : (i : Nat) → (Q2_1 i).T → Option (List Int)) :
    evc (T2 d283v0) (rawOf (RW2 d283v0)) (W2_1 d283v0 N) (reto k2.res .i64) (modeOf FT) 0 fuelC (bodyOf (loopN k2 1)) (P2_1.st v) (roundK 0 H2_1 P2_1 Q2_1 (u2_1 d283v0 N n) κ) = u2_1 d283v0 N (n + 1) v κ := by kernel_rfl
theorem o2_1 (d283v0 : Int → Option ((Nat × Unit) × ((List Int) × Unit))) (hT : TabOK FT XT (T2 d283v0)) (hO : RawOK FT XT (rawOf (α := List Int) (RW2 d283v0))) (N : Nat) {s : St} {κ : Ex → St → Option (List Int)} {a : List Int} (h : lpOf 0 H2_1 P2_1 Q2_1 (u2_1 d283v0 N N) s κ = some a) : Out FT XT 0 (reto k2.res .i64) (loopN k2 1) s κ a := by
  rw [l2_1]
  exact loop_out (LP := W2_1 d283v0 N) (fu := fuelC) hT hO (fun _ _ => rfl) (b2_1 d283v0 N) loopOK_nil N h
def H2_0 : Trim := ⟨0, [], false, [0, 3, 9, 10, 11], []⟩
theorem l2_0 : loopN k2 0 = .loop H2_0 (bodyOf (loopN k2 0)) := by kernel_rfl
def P2_0 : Ps := ⟨[(0, (.tb (Sh.sl (Sh.int .i64)))), (2, .u), (3, (.int .i64)), (5, .u), (6, .u), (8, .u), (9, (.tb (Sh.sl (Sh.int .i64)))), (10, (.int .i64)), (11, (.int .i64)), (12, .u), (20, .u), (25, .u), (26, .u), (27, .u), (28, .u)], []⟩
def Q2_0 : Nat → Ps
  | 0 => ⟨[(0, (.tb (Sh.sl (Sh.int .i64)))), (2, .u), (3, (.int .i64)), (5, .u), (6, .u), (8, .u), (9, .u), (10, .u), (11, .u), (12, .u), (20, .u), (25, .u), (26, .u), (27, .u), (28, .u)], []⟩
  | _ => noPs
def u2_0 (d283v0 : Int → Option ((Nat × Unit) × ((List Int) × Unit))) (N n : Nat) (v : P2_0.T) (κ : (i : Nat) → (Q2_0 i).T → Option (List Int)) : Option (List Int) :=
  L2_0 d283v0 N (fun (y0 : List (List Int)) (y1 : Int) => κ 0 ((y0, ((), (y1, ((), ((), ((), ((), ((), ((), ((), ((), ((), ((), ((), ((), ()))))))))))))))), ())) n v.1.1 v.1.2.2.1 v.1.2.2.2.2.2.2.1 v.1.2.2.2.2.2.2.2.1 v.1.2.2.2.2.2.2.2.2.1
def W2_0 (d283v0 : Int → Option ((Nat × Unit) × ((List Int) × Unit))) (N : Nat) : LoopF (List Int) := fun no =>
  match no with
  | _ => fun _ _ => none
theorem b2_0 (d283v0 : Int → Option ((Nat × Unit) × ((List Int) × Unit))) (N n : Nat) (v : P2_0.T) (κ : (i : Nat) → (Q2_0 i).T → Option (List Int)) :
    evc (T2 d283v0) (rawOf (RW2 d283v0)) (W2_0 d283v0 N) (reto k2.res .i64) (modeOf FT) 0 fuelC (bodyOf (loopN k2 0)) (P2_0.st v) (roundK 0 H2_0 P2_0 Q2_0 (u2_0 d283v0 N n) κ) = u2_0 d283v0 N (n + 1) v κ := by kernel_rfl
theorem o2_0 (d283v0 : Int → Option ((Nat × Unit) × ((List Int) × Unit))) (hT : TabOK FT XT (T2 d283v0)) (hO : RawOK FT XT (rawOf (α := List Int) (RW2 d283v0))) (N : Nat) {s : St} {κ : Ex → St → Option (List Int)} {a : List Int} (h : lpOf 0 H2_0 P2_0 Q2_0 (u2_0 d283v0 N N) s κ = some a) : Out FT XT 0 (reto k2.res .i64) (loopN k2 0) s κ a := by
  rw [l2_0]
  exact loop_out (LP := W2_0 d283v0 N) (fu := fuelC) hT hO (fun _ _ => rfl) (b2_0 d283v0 N) loopOK_nil N h
def W2 (d283v0 : Int → Option ((Nat × Unit) × ((List Int) × Unit))) (N : Nat) : LoopF (List Int) := fun no =>
  match no with
  | 0 => lpOf 0 H2_0 P2_0 Q2_0 (u2_0 d283v0 N N)
  | 1 => lpOf 0 H2_1 P2_1 Q2_1 (u2_1 d283v0 N N)
  | _ => fun _ _ => none
theorem e2 (d283v0 : Int → Option ((Nat × Unit) × ((List Int) × Unit))) (N : Nat) (a0 : List (List Int)) : evc (T2 d283v0) (rawOf (RW2 d283v0)) (W2 d283v0 N) (reto k2.res .i64) (modeOf FT) 0 fuelC k2.body (env0 k2 (encL [(Sh.sl (Sh.sl (Sh.int .i64)))] (a0, ())), []) (endK (reto k2.res .i64)) = p2 d283v0 N a0 := by kernel_rfl
theorem ok2 (d283v0 : Int → Option ((Nat × Unit) × ((List Int) × Unit))) (h283v0 : REntOK FT XT 283 (rn283v0 d283v0)) {f : List (List Int) → Option (List Int)} (hf : ∀ a0 r, f a0 = some r → ∃ N, p2 d283v0 N a0 = some r) : EntOK FT XT 2 (en2 f) := by
  have hT : TabOK FT XT (T2 d283v0) := by
    intro g en hg
    unfold T2 at hg
    split at hg <;> first | (injection hg with hg; subst hg; assumption) | cases hg
  have hO : RawOK FT XT (rawOf (α := List Int) (RW2 d283v0)) := by
    refine rawOf_ok (fun g en hg => ?_)
    unfold RW2 at hg
    split at hg <;> simp only [List.mem_cons, List.not_mem_nil, or_false] at hg <;> first | (subst hg; assumption) | (rcases hg with rfl | rfl <;> assumption) | (rcases hg with rfl | rfl | rfl <;> assumption) | (rcases hg with rfl | rfl | rfl | rfl <;> assumption)
  refine ⟨rfl, fun v r h => ?_⟩
  obtain ⟨a0, _⟩ := v
  obtain ⟨N, h1⟩ := hf _ _ h
  exact ans_o (tab := T2 d283v0) (raw := (rawOf (RW2 d283v0))) (LP := W2 d283v0 N) (fu := fuelC) hT hO rfl rfl (Nat.le_of_ble_eq_true rfl) (loopOK_cons l2_0 (fun s κ a h => o2_0 d283v0 hT hO N h) (loopOK_cons l2_1 (fun s κ a h => o2_1 d283v0 hT hO N h) loopOK_nil)) ((e2 d283v0 N _).trans h1)

def T48v0 : Nat → Option Ent
  | _ => none
def RW48v0 : Nat → List REnt
  | _ => []
def H48v0_0 : Trim := ⟨0, [], false, [0, 2, 3], []⟩
theorem l48v0_0 : loopN k48 0 = .loop H48v0_0 (bodyOf (loopN k48 0)) := by kernel_rfl
def P48v0_0 : Ps := ⟨[(0, (.slc 0 1)), (2, (.int .i64)), (3, (.int .i64)), (9, .u)], [(.ints false .u8)]⟩
def Q48v0_0 : Nat → Ps
  | 0 => ⟨[(0, .u), (2, .u), (3, .u), (9, .u)], [(.ints false .u8)]⟩
  | _ => noPs
def u48v0_0 (N n : Nat) (v : P48v0_0.T) (κ : (i : Nat) → (Q48v0_0 i).T → Option QR48v0.T) : Option QR48v0.T :=
  L48v0_0 N (fun (y0 : List Int) => κ 0 (((), ((), ((), ((), ())))), (y0, ()))) n v.1.1.1 v.1.1.2 v.1.2.1 v.1.2.2.1 v.2.1
def W48v0_0 (N : Nat) : LoopF QR48v0.T := fun no =>
  match no with
  | _ => fun _ _ => none
theorem b48v0_0 (N n : Nat) (v : P48v0_0.T) (κ : (i : Nat) → (Q48v0_0 i).T → Option QR48v0.T) :
    evc (T48v0) (rawOf (RW48v0)) (W48v0_0 N) (retr k48.res 1 QR48v0) (modeOf FT) 1 fuelC (bodyOf (loopN k48 0)) (P48v0_0.st v) (roundK 1 H48v0_0 P48v0_0 Q48v0_0 (u48v0_0 N n) κ) = u48v0_0 N (n + 1) v κ := by kernel_rfl
theorem o48v0_0 (hT : TabOK FT XT (T48v0)) (hO : RawOK FT XT (rawOf (α := QR48v0.T) (RW48v0))) (N : Nat) {s : St} {κ : Ex → St → Option QR48v0.T} {a : QR48v0.T} (h : lpOf 1 H48v0_0 P48v0_0 Q48v0_0 (u48v0_0 N N) s κ = some a) : Out FT XT 1 (retr k48.res 1 QR48v0) (loopN k48 0) s κ a := by
  rw [l48v0_0]
  exact loop_out (LP := W48v0_0 N) (fu := fuelC) hT hO (fun _ _ => rfl) (b48v0_0 N) loopOK_nil N h
def W48v0 (N : Nat) : LoopF QR48v0.T := fun no =>
  match no with
  | 0 => lpOf 1 H48v0_0 P48v0_0 Q48v0_0 (u48v0_0 N N)
  | _ => fun _ _ => none
theorem e48v0 (N : Nat) (v : PR48v0.T) : evc (T48v0) (rawOf (RW48v0)) (W48v0 N) (retr k48.res 1 QR48v0) (modeOf FT) 1 fuelC k48.body (env0 k48 (PR48v0.a.st v.1), stH PR48v0.h v.2) (endK (retr k48.res 1 QR48v0)) = p48v0 N v.1.1.1 v.1.1.2 v.2.1 := by kernel_rfl
theorem ok48v0 {f : Nat → Nat → List Int → Option ((Unit × Unit) × ((List Int) × Unit))} (hf : ∀ a0 a1 a2 r, f a0 a1 a2 = some r → ∃ N, p48v0 N a0 a1 a2 = some r) : REntOK FT XT 48 (rn48v0 f) := by
  have hT : TabOK FT XT (T48v0) := by
    intro g en hg
    unfold T48v0 at hg
    split at hg <;> first | (injection hg with hg; subst hg; assumption) | cases hg
  have hO : RawOK FT XT (rawOf (α := QR48v0.T) (RW48v0)) := by
    refine rawOf_ok (fun g en hg => ?_)
    unfold RW48v0 at hg
    split at hg <;> simp only [List.mem_cons, List.not_mem_nil, or_false] at hg <;> first | (subst hg; assumption) | (rcases hg with rfl | rfl <;> assumption) | (rcases hg with rfl | rfl | rfl <;> assumption) | (rcases hg with rfl | rfl | rfl | rfl <;> assumption)
  intro v r w h hw
  obtain ⟨N, h1⟩ := hf _ _ _ _ h
  exact ans_r (Q := QR48v0) (tab := T48v0) (raw := (rawOf (RW48v0))) (LP := W48v0 N) (fu := fuelC) hT hO rfl rfl (Nat.le_of_ble_eq_true rfl) rfl (loopOK_cons l48v0_0 (fun s κ a h => o48v0_0 hT hO N h) loopOK_nil) ((e48v0 N v).trans h1) hw

def T19 (d48v0 : Nat → Nat → List Int → Option ((Unit × Unit) × ((List Int) × Unit))) : Nat → Option Ent
  | _ => none
def RW19 (d48v0 : Nat → Nat → List Int → Option ((Unit × Unit) × ((List Int) × Unit))) : Nat → List REnt
  | 48 => [rn48v0 d48v0]
  | _ => []
def H19_0 : Trim := ⟨0, [], false, [0, 2, 8, 19, 20], []⟩
theorem l19_0 : loopN k19 0 = .loop H19_0 (bodyOf (loopN k19 0)) := by kernel_rfl
def P19_0 : Ps := ⟨[(0, (.int .u64)), (1, .u), (2, .bool), (6, .u), (7, .u), (8, (.slc 0 1)), (9, .u), (15, .u), (19, (.int .i64)), (20, (.int .i64)), (21, .u), (33, .u)], [(.ints false .u8)]⟩
def Q19_0 : Nat → Ps
  | 0 => ⟨[(0, .u), (1, .u), (2, .bool), (6, .u), (7, .u), (8, (.slc 0 1)), (9, .u), (15, .u), (19, .u), (20, .u), (21, .u), (33, .u)], [(.ints false .u8)]⟩
  | _ => noPs
def u19_0 (d48v0 : Nat → Nat → List Int → Option ((Unit × Unit) × ((List Int) × Unit))) (N n : Nat) (v : P19_0.T) (κ : (i : Nat) → (Q19_0 i).T → Option (((Sh.tu (Sh.pr (Sh.sl (Sh.int .u8)) (Sh.int .i64)))).T)) : Option (((Sh.tu (Sh.pr (Sh.sl (Sh.int .u8)) (Sh.int .i64)))).T) :=
  L19_0 d48v0 N (fun (y0 : Bool) (y1 : Nat) (y2 : Nat) (y3 : List Int) => κ 0 (((), ((), (y0, ((), ((), ((y1, y2), ((), ((), ((), ((), ((), ((), ())))))))))))), (y3, ()))) n v.1.1 v.1.2.2.1 v.1.2.2.2.2.2.1.1 v.1.2.2.2.2.2.1.2 v.1.2.2.2.2.2.2.2.2.1 v.1.2.2.2.2.2.2.2.2.2.1 v.2.1
def W19_0 (d48v0 : Nat → Nat → List Int → Option ((Unit × Unit) × ((List Int) × Unit))) (N : Nat) : LoopF (((Sh.tu (Sh.pr (Sh.sl (Sh.int .u8)) (Sh.int .i64)))).T) := fun no =>
  match no with
  | _ => fun _ _ => none
theorem b19_0 (d48v0 : Nat → Nat → List Int → Option ((Unit × Unit) × ((List Int) × Unit))) (N n : Nat) (v : P19_0.T) (κ : (i : Nat) → (Q19_0 i).T → Option (((Sh.tu (Sh.pr (Sh.sl (Sh.int .u8)) (Sh.int .i64)))).T)) :
    evc (T19 d48v0) (rawOf (RW19 d48v0)) (W19_0 d48v0 N) (retc k19.res (Sh.tu (Sh.pr (Sh.sl (Sh.int .u8)) (Sh.int .i64)))) (modeOf FT) 0 fuelC (bodyOf (loopN k19 0)) (P19_0.st v) (roundK 0 H19_0 P19_0 Q19_0 (u19_0 d48v0 N n) κ) = u19_0 d48v0 N (n + 1) v κ := by kernel_rfl
theorem o19_0 (d48v0 : Nat → Nat → List Int → Option ((Unit × Unit) × ((List Int) × Unit))) (hT : TabOK FT XT (T19 d48v0)) (hO : RawOK FT XT (rawOf (α := ((Sh.tu (Sh.pr (Sh.sl (Sh.int .u8)) (Sh.int .i64)))).T) (RW19 d48v0))) (N : Nat) {s : St} {κ : Ex → St → Option (((Sh.tu (Sh.pr (Sh.sl (Sh.int .u8)) (Sh.int .i64)))).T)} {a : ((Sh.tu (Sh.pr (Sh.sl (Sh.int .u8)) (Sh.int .i64)))).T} (h : lpOf 0 H19_0 P19_0 Q19_0 (u19_0 d48v0 N N) s κ = some a) : Out FT XT 0 (retc k19.res (Sh.tu (Sh.pr (Sh.sl (Sh.int .u8)) (Sh.int .i64)))) (loopN k19 0) s κ a := by
  rw [l19_0]
  exact loop_out (LP := W19_0 d48v0 N) (fu := fuelC) hT hO (fun _ _ => rfl) (b19_0 d48v0 N) loopOK_nil N h
def W19 (d48v0 : Nat → Nat → List Int → Option ((Unit × Unit) × ((List Int) × Unit))) (N : Nat) : LoopF (((Sh.tu (Sh.pr (Sh.sl (Sh.int .u8)) (Sh.int .i64)))).T) := fun no =>
  match no with
  | 0 => lpOf 0 H19_0 P19_0 Q19_0 (u19_0 d48v0 N N)
  | _ => fun _ _ => none
theorem e19 (d48v0 : Nat → Nat → List Int → Option ((Unit × Unit) × ((List Int) × Unit))) (N : Nat) (a0 : Int) (a1 : Int) (a2 : Bool) : evc (T19 d48v0) (rawOf (RW19 d48v0)) (W19 d48v0 N) (retc k19.res (Sh.tu (Sh.pr (Sh.sl (Sh.int .u8)) (Sh.int .i64)))) (modeOf FT) 0 fuelC k19.body (env0 k19 (encL [(Sh.int .u64), (Sh.int .i64), Sh.bool] (a0, (a1, (a2, ())))), []) (endK (retc k19.res (Sh.tu (Sh.pr (Sh.sl (Sh.int .u8)) (Sh.int .i64))))) = p19 d48v0 N a0 a1 a2 := by kernel_rfl
theorem ok19 (d48v0 : Nat → Nat → List Int → Option ((Unit × Unit) × ((List Int) × Unit))) (h48v0 : REntOK FT XT 48 (rn48v0 d48v0)) {f : Int → Int → Bool → Option ((List Int) × Int)} (hf : ∀ a0 a1 a2 r, f a0 a1 a2 = some r → ∃ N, p19 d48v0 N a0 a1 a2 = some r) : EntOK FT XT 19 (en19 f) := by
  have hT : TabOK FT XT (T19 d48v0) := by
    intro g en hg
    unfold T19 at hg
    split at hg <;> first | (injection hg with hg; subst hg; assumption) | cases hg
  have hO : RawOK FT XT (rawOf (α := ((Sh.tu (Sh.pr (Sh.sl (Sh.int .u8)) (Sh.int .i64)))).T) (RW19 d48v0)) := by
    refine rawOf_ok (fun g en hg => ?_)
    unfold RW19 at hg
    split at hg <;> simp only [List.mem_cons, List.not_mem_nil, or_false] at hg <;> first | (subst hg; assumption) | (rcases hg with rfl | rfl <;> assumption) | (rcases hg with rfl | rfl | rfl <;> assumption) | (rcases hg with rfl | rfl | rfl | rfl <;> assumption)
  refine ⟨rfl, fun v r h => ?_⟩
  obtain ⟨a0, a1, a2, _⟩ := v
  obtain ⟨N, h1⟩ := hf _ _ _ _ h
  exact ans_c (R := (Sh.tu (Sh.pr (Sh.sl (Sh.int .u8)) (Sh.int .i64)))) (tab := T19 d48v0) (raw := (rawOf (RW19 d48v0))) (LP := W19 d48v0 N) (fu := fuelC) hT hO rfl rfl (Nat.le_of_ble_eq_true rfl) (loopOK_cons l19_0 (fun s κ a h => o19_0 d48v0 hT hO N h) loopOK_nil) ((e19 d48v0 N _ _ _).trans h1)

def T21 : Nat → Option Ent
  | _ => none
def RW21 : Nat → List REnt
  | _ => []
def H21_0 : Trim := ⟨0, [], false, [1, 6, 17, 18, 19], []⟩
theorem l21_0 : loopN k21 0 = .loop H21_0 (bodyOf (loopN k21 0)) := by kernel_rfl
def P21_0 : Ps := ⟨[(0, .u), (1, .bool), (4, .u), (5, .u), (6, (.int .u64)), (7, .u), (8, .u), (16, .u), (17, (.tb (Sh.int .u8))), (18, (.int .i64)), (19, (.int .i64)), (20, .u), (24, .u)], []⟩
def Q21_0 : Nat → Ps
  | 0 => ⟨[(0, .u), (1, .u), (4, .u), (5, .u), (6, (.int .u64)), (7, .u), (8, .u), (16, .u), (17, .u), (18, .u), (19, .u), (20, .u), (24, .u)], []⟩
  | _ => noPs
def u21_0 (N n : Nat) (v : P21_0.T) (κ : (i : Nat) → (Q21_0 i).T → Option (((Sh.tu (Sh.pr (Sh.int .u64) (Sh.int .i64)))).T)) : Option (((Sh.tu (Sh.pr (Sh.int .u64) (Sh.int .i64)))).T) :=
  L21_0 N (fun (y0 : Int) => κ 0 (((), ((), ((), ((), (y0, ((), ((), ((), ((), ((), ((), ((), ((), ()))))))))))))), ())) n v.1.2.1 v.1.2.2.2.2.1 v.1.2.2.2.2.2.2.2.2.1 v.1.2.2.2.2.2.2.2.2.2.1 v.1.2.2.2.2.2.2.2.2.2.2.1
def W21_0 (N : Nat) : LoopF (((Sh.tu (Sh.pr (Sh.int .u64) (Sh.int .i64)))).T) := fun no =>
  match no with
  | _ => fun _ _ => none
theorem b21_0 (N n : Nat) (v : P21_0.T) (κ : (i : Nat) → (Q21_0 i).T → Option (((Sh.tu (Sh.pr (Sh.int .u64) (Sh.int .i64)))).T)) :
    evc (T21) (rawOf (RW21)) (W21_0 N) (retc k21.res (Sh.tu (Sh.pr (Sh.int .u64) (Sh.int .i64)))) (modeOf FT) 0 fuelC (bodyOf (loopN k21 0)) (P21_0.st v) (roundK 0 H21_0 P21_0 Q21_0 (u21_0 N n) κ) = u21_0 N (n + 1) v κ := by kernel_rfl
theorem o21_0 (hT : TabOK FT XT (T21)) (hO : RawOK FT XT (rawOf (α := ((Sh.tu (Sh.pr (Sh.int .u64) (Sh.int .i64)))).T) (RW21))) (N : Nat) {s : St} {κ : Ex → St → Option (((Sh.tu (Sh.pr (Sh.int .u64) (Sh.int .i64)))).T)} {a : ((Sh.tu (Sh.pr (Sh.int .u64) (Sh.int .i64)))).T} (h : lpOf 0 H21_0 P21_0 Q21_0 (u21_0 N N) s κ = some a) : Out FT XT 0 (retc k21.res (Sh.tu (Sh.pr (Sh.int .u64) (Sh.int .i64)))) (loopN k21 0) s κ a := by
  rw [l21_0]
  exact loop_out (LP := W21_0 N) (fu := fuelC) hT hO (fun _ _ => rfl) (b21_0 N) loopOK_nil N h
def W21 (N : Nat) : LoopF (((Sh.tu (Sh.pr (Sh.int .u64) (Sh.int .i64)))).T) := fun no =>
  match no with
  | 0 => lpOf 0 H21_0 P21_0 Q21_0 (u21_0 N N)
  | _ => fun _ _ => none
theorem e21 (N : Nat) (a0 : List Int) (a1 : Bool) : evc (T21) (rawOf (RW21)) (W21 N) (retc k21.res (Sh.tu (Sh.pr (Sh.int .u64) (Sh.int .i64)))) (modeOf FT) 0 fuelC k21.body (env0 k21 (encL [(Sh.sl (Sh.int .u8)), Sh.bool] (a0, (a1, ()))), []) (endK (retc k21.res (Sh.tu (Sh.pr (Sh.int .u64) (Sh.int .i64))))) = p21 N a0 a1 := by kernel_rfl
theorem ok21 {f : List Int → Bool → Option (Int × Int)} (hf : ∀ a0 a1 r, f a0 a1 = some r → ∃ N, p21 N a0 a1 = some r) : EntOK FT XT 21 (en21 f) := by
  have hT : TabOK FT XT (T21) := by
    intro g en hg
    unfold T21 at hg
    split at hg <;> first | (injection hg with hg; subst hg; assumption) | cases hg
  have hO : RawOK FT XT (rawOf (α := ((Sh.tu (Sh.pr (Sh.int .u64) (Sh.int .i64)))).T) (RW21)) := by
    refine rawOf_ok (fun g en hg => ?_)
    unfold RW21 at hg
    split at hg <;> simp only [List.mem_cons, List.not_mem_nil, or_false] at hg <;> first | (subst hg; assumption) | (rcases hg with rfl | rfl <;> assumption) | (rcases hg with rfl | rfl | rfl <;> assumption) | (rcases hg with rfl | rfl | rfl | rfl <;> assumption)
  refine ⟨rfl, fun v r h => ?_⟩
  obtain ⟨a0, a1, _⟩ := v
  obtain ⟨N, h1⟩ := hf _ _ _ h
  exact ans_c (R := (Sh.tu (Sh.pr (Sh.int .u64) (Sh.int .i64)))) (tab := T21) (raw := (rawOf (RW21))) (LP := W21 N) (fu := fuelC) hT hO rfl rfl (Nat.le_of_ble_eq_true rfl) (loopOK_cons l21_0 (fun s κ a h => o21_0 hT hO N h) loopOK_nil) ((e21 N _ _).trans h1)

def T23 : Nat → Option Ent
  | _ => none
def RW23 : Nat → List REnt
  | _ => []
def H23_0 : Trim := ⟨0, [], false, [0, 1, 5], []⟩
theorem l23_0 : loopN k23 0 = .loop H23_0 (bodyOf (loopN k23 0)) := by kernel_rfl
def P23_0 : Ps := ⟨[(0, (.tb (Sh.int .u8))), (1, (.tb (Sh.int .u8))), (4, .u), (5, (.int .i64)), (10, .u), (14, .u), (25, .u)], []⟩
def Q23_0 : Nat → Ps
  | 0 => ⟨[(0, .u), (1, .u), (4, .u), (5, .u), (10, .u), (14, .u), (25, .u)], []⟩
  | _ => noPs
def u23_0 (N n : Nat) (v : P23_0.T) (κ : (i : Nat) → (Q23_0 i).T → Option (Sh.bool).T) : Option (Sh.bool).T :=
  L23_0 N (κ 0 (((), ((), ((), ((), ((), ((), ((), ()))))))), ())) n v.1.1 v.1.2.1 v.1.2.2.2.1
def W23_0 (N : Nat) : LoopF (Sh.bool).T := fun no =>
  match no with
  | _ => fun _ _ => none
theorem b23_0 (N n : Nat) (v : P23_0.T) (κ : (i : Nat) → (Q23_0 i).T → Option (Sh.bool).T) :
    evc (T23) (rawOf (RW23)) (W23_0 N) (retc k23.res Sh.bool) (modeOf FT) 0 fuelC (bodyOf (loopN k23 0)) (P23_0.st v) (roundK 0 H23_0 P23_0 Q23_0 (u23_0 N n) κ) = u23_0 N (n + 1) v κ := by kernel_rfl
theorem o23_0 (hT : TabOK FT XT (T23)) (hO : RawOK FT XT (rawOf (α := (Sh.bool).T) (RW23))) (N : Nat) {s : St} {κ : Ex → St → Option (Sh.bool).T} {a : (Sh.bool).T} (h : lpOf 0 H23_0 P23_0 Q23_0 (u23_0 N N) s κ = some a) : Out FT XT 0 (retc k23.res Sh.bool) (loopN k23 0) s κ a := by
  rw [l23_0]
  exact loop_out (LP := W23_0 N) (fu := fuelC) hT hO (fun _ _ => rfl) (b23_0 N) loopOK_nil N h
def W23 (N : Nat) : LoopF (Sh.bool).T := fun no =>
  match no with
  | 0 => lpOf 0 H23_0 P23_0 Q23_0 (u23_0 N N)
  | _ => fun _ _ => none
theorem e23 (N : Nat) (a0 : List Int) (a1 : List Int) : evc (T23) (rawOf (RW23)) (W23 N) (retc k23.res Sh.bool) (modeOf FT) 0 fuelC k23.body (env0 k23 (encL [(Sh.sl (Sh.int .u8)), (Sh.sl (Sh.int .u8))] (a0, (a1, ()))), []) (endK (retc k23.res Sh.bool)) = p23 N a0 a1 := by kernel_rfl
theorem ok23 {f : List Int → List Int → Option Bool} (hf : ∀ a0 a1 r, f a0 a1 = some r → ∃ N, p23 N a0 a1 = some r) : EntOK FT XT 23 (en23 f) := by
  have hT : TabOK FT XT (T23) := by
    intro g en hg
    unfold T23 at hg
    split at hg <;> first | (injection hg with hg; subst hg; assumption) | cases hg
  have hO : RawOK FT XT (rawOf (α := (Sh.bool).T) (RW23)) := by
    refine rawOf_ok (fun g en hg => ?_)
    unfold RW23 at hg
    split at hg <;> simp only [List.mem_cons, List.not_mem_nil, or_false] at hg <;> first | (subst hg; assumption) | (rcases hg with rfl | rfl <;> assumption) | (rcases hg with rfl | rfl | rfl <;> assumption) | (rcases hg with rfl | rfl | rfl | rfl <;> assumption)
  refine ⟨rfl, fun v r h => ?_⟩
  obtain ⟨a0, a1, _⟩ := v
  obtain ⟨N, h1⟩ := hf _ _ _ h
  exact ans_c (R := Sh.bool) (tab := T23) (raw := (rawOf (RW23))) (LP := W23 N) (fu := fuelC) hT hO rfl rfl (Nat.le_of_ble_eq_true rfl) (loopOK_cons l23_0 (fun s κ a h => o23_0 hT hO N h) loopOK_nil) ((e23 N _ _).trans h1)

def T52 : Nat → Option Ent
  | _ => none
def RW52 : Nat → List REnt
  | _ => []
def W52 (N : Nat) : LoopF (((Sh.int .i64)).T) := fun no =>
  match no with
  | _ => fun _ _ => none
theorem e52 (N : Nat) (a0 : Int) : evc (T52) (rawOf (RW52)) (W52 N) (retc k52.res (Sh.int .i64)) (modeOf FT) 0 fuelC k52.body (env0 k52 (encL [(Sh.int .u8)] (a0, ())), []) (endK (retc k52.res (Sh.int .i64))) = p52 N a0 := by kernel_rfl
theorem ok52 {f : Int → Option Int} (hf : ∀ a0 r, f a0 = some r → ∃ N, p52 N a0 = some r) : EntOK FT XT 52 (en52 f) := by
  have hT : TabOK FT XT (T52) := by
    intro g en hg
    unfold T52 at hg
    split at hg <;> first | (injection hg with hg; subst hg; assumption) | cases hg
  have hO : RawOK FT XT (rawOf (α := ((Sh.int .i64)).T) (RW52)) := by
    refine rawOf_ok (fun g en hg => ?_)
    unfold RW52 at hg
    split at hg <;> simp only [List.mem_cons, List.not_mem_nil, or_false] at hg <;> first | (subst hg; assumption) | (rcases hg with rfl | rfl <;> assumption) | (rcases hg with rfl | rfl | rfl <;> assumption) | (rcases hg with rfl | rfl | rfl | rfl <;> assumption)
  refine ⟨rfl, fun v r h => ?_⟩
  obtain ⟨a0, _⟩ := v
  obtain ⟨N, h1⟩ := hf _ _ h
  exact ans_c (R := (Sh.int .i64)) (tab := T52) (raw := (rawOf (RW52))) (LP := W52 N) (fu := fuelC) hT hO rfl rfl (Nat.le_of_ble_eq_true rfl) loopOK_nil ((e52 N _).trans h1)

def T25 (c52 : Int → Option Int) : Nat → Option Ent
  | 52 => some (en52 c52)
  | _ => none
def RW25 (c52 : Int → Option Int) : Nat → List REnt
  | _ => []
def W25 (c52 : Int → Option Int) (N : Nat) : LoopF (((Sh.int .u8)).T) := fun no =>
  match no with
  | _ => fun _ _ => none
theorem e25 (c52 : Int → Option Int) (N : Nat) (a0 : Int) : evc (T25 c52) (rawOf (RW25 c52)) (W25 c52 N) (retc k25.res (Sh.int .u8)) (modeOf FT) 0 fuelC k25.body (env0 k25 (encL [(Sh.int .u8)] (a0, ())), []) (endK (retc k25.res (Sh.int .u8))) = p25 c52 N a0 := by kernel_rfl
theorem ok25 (c52 : Int → Option Int) (h52 : EntOK FT XT 52 (en52 c52)) {f : Int → Option Int} (hf : ∀ a0 r, f a0 = some r → ∃ N, p25 c52 N a0 = some r) : EntOK FT XT 25 (en25 f) := by
  have hT : TabOK FT XT (T25 c52) := by
    intro g en hg
    unfold T25 at hg
    split at hg <;> first | (injection hg with hg; subst hg; assumption) | cases hg
  have hO : RawOK FT XT (rawOf (α := ((Sh.int .u8)).T) (RW25 c52)) := by
    refine rawOf_ok (fun g en hg => ?_)
    unfold RW25 at hg
    split at hg <;> simp only [List.mem_cons, List.not_mem_nil, or_false] at hg <;> first | (subst hg; assumption) | (rcases hg with rfl | rfl <;> assumption) | (rcases hg with rfl | rfl | rfl <;> assumption) | (rcases hg with rfl | rfl | rfl | rfl <;> assumption)
  refine ⟨rfl, fun v r h => ?_⟩
  obtain ⟨a0, _⟩ := v
  obtain ⟨N, h1⟩ := hf _ _ h
  exact ans_c (R := (Sh.int .u8)) (tab := T25 c52) (raw := (rawOf (RW25 c52))) (LP := W25 c52 N) (fu := fuelC) hT hO rfl rfl (Nat.le_of_ble_eq_true rfl) loopOK_nil ((e25 c52 N _).trans h1)

def T24 (c25 : Int → Option Int) : Nat → Option Ent
  | 25 => some (en25 c25)
  | _ => none
def RW24 (c25 : Int → Option Int) : Nat → List REnt
  | _ => []
def H24_1 : Trim := ⟨1, [], false, [4, 7, 26, 27], []⟩
theorem l24_1 : loopN k24 1 = .loop H24_1 (bodyOf (loopN k24 1)) := by kernel_rfl
def P24_1 : Ps := ⟨[(0, .u), (2, .u), (3, .u), (4, (.int .u64)), (6, .u), (7, (.slc 0 1)), (8, .u), (11, .u), (12, .u), (13, .u), (14, .u), (15, .u), (26, (.int .i64)), (27, (.int .i64)), (28, .u)], [(.ints false .u8)]⟩
def Q24_1 : Nat → Ps
  | 2 => ⟨[(0, .u), (2, .u), (3, .u), (4, .u), (6, .u), (7, (.slc 0 1)), (8, .u), (11, .u), (12, .u), (13, .u), (14, .u), (15, .u), (26, .u), (27, .u), (28, .u)], [(.ints false .u8)]⟩
  | _ => noPs
def u24_1 (c25 : Int → Option Int) (N n : Nat) (v : P24_1.T) (κ : (i : Nat) → (Q24_1 i).T → Option (((Sh.tu (Sh.pr (Sh.sl (Sh.int .u8)) (Sh.int .i64)))).T)) : Option (((Sh.tu (Sh.pr (Sh.sl (Sh.int .u8)) (Sh.int .i64)))).T) :=
  L24_1 c25 N (fun (y0 : Nat) (y1 : Nat) (y2 : List Int) => κ 2 (((), ((), ((), ((), ((), ((y0, y1), ((), ((), ((), ((), ((), ((), ((), ((), ((), ()))))))))))))))), (y2, ()))) n v.1.2.2.2.1 v.1.2.2.2.2.2.1.1 v.1.2.2.2.2.2.1.2 v.1.2.2.2.2.2.2.2.2.2.2.2.2.1 v.1.2.2.2.2.2.2.2.2.2.2.2.2.2.1 v.2.1
def W24_1 (c25 : Int → Option Int) (N : Nat) : LoopF (((Sh.tu (Sh.pr (Sh.sl (Sh.int .u8)) (Sh.int .i64)))).T) := fun no =>
  match no with
  | _ => fun _ _ => none
theorem b24_1 (c25 : Int → Option Int) (N n : Nat) (v : P24_1.T) (κ : (i : Nat) → (Q24_1 i).T → Option (((Sh.tu (Sh.pr (Sh.sl (Sh.int .u8)) (Sh.int .i64)))).T)) :
    evc (T24 c25) (rawOf (RW24 c25)) (W24_1 c25 N) (retc k24.res (Sh.tu (Sh.pr (Sh.sl (Sh.int .u8)) (Sh.int .i64)))) (modeOf FT) 0 fuelC (bodyOf (loopN k24 1)) (P24_1.st v) (roundK 0 H24_1 P24_1 Q24_1 (u24_1 c25 N n) κ) = u24_1 c25 N (n + 1) v κ := by kernel_rfl
theorem o24_1 (c25 : Int → Option Int) (hT : TabOK FT XT (T24 c25)) (hO : RawOK FT XT (rawOf (α := ((Sh.tu (Sh.pr (Sh.sl (Sh.int .u8)) (Sh.int .i64)))).T) (RW24 c25))) (N : Nat) {s : St} {κ : Ex → St → Option (((Sh.tu (Sh.pr (Sh.sl (Sh.int .u8)) (Sh.int .i64)))).T)} {a : ((Sh.tu (Sh.pr (Sh.sl (Sh.int .u8)) (Sh.int .i64)))).T} (h : lpOf 0 H24_1 P24_1 Q24_1 (u24_1 c25 N N) s κ = some a) : Out FT XT 0 (retc k24.res (Sh.tu (Sh.pr (Sh.sl (Sh.int .u8)) (Sh.int .i64)))) (loopN k24 1) s κ a := by
  rw [l24_1]
  exact loop_out (LP := W24_1 c25 N) (fu := fuelC) hT hO (fun _ _ => rfl) (b24_1 c25 N) loopOK_nil N h
def H24_0 : Trim := ⟨0, [], false, [4, 12, 13, 14], []⟩
theorem l24_0 : loopN k24 0 = .loop H24_0 (bodyOf (loopN k24 0)) := by kernel_rfl
def P24_0 : Ps := ⟨[(0, .u), (2, .u), (3, .u), (4, (.int .u64)), (6, .u), (7, .u), (8, .u), (11, .u), (12, (.tb (Sh.int .u8))), (13, (.int .i64)), (14, (.int .i64)), (15, .u), (26, .u), (27, .u), (28, .u)], []⟩
def Q24_0 : Nat → Ps
  | 0 => ⟨[(0, .u), (2, .u), (3, .u), (4, (.int .u64)), (6, .u), (7, .u), (8, .u), (11, .u), (12, .u), (13, .u), (14, .u), (15, .u), (26, .u), (27, .u), (28, .u)], []⟩
  | _ => noPs
def u24_0 (c25 : Int → Option Int) (N n : Nat) (v : P24_0.T) (κ : (i : Nat) → (Q24_0 i).T → Option (((Sh.tu (Sh.pr (Sh.sl (Sh.int .u8)) (Sh.int .i64)))).T)) : Option (((Sh.tu (Sh.pr (Sh.sl (Sh.int .u8)) (Sh.int .i64)))).T) :=
  L24_0 c25 N (fun (y0 : Int) => κ 0 (((), ((), ((), (y0, ((), ((), ((), ((), ((), ((), ((), ((), ((), ((), ((), ()))))))))))))))), ())) n v.1.2.2.2.1 v.1.2.2.2.2.2.2.2.2.1 v.1.2.2.2.2.2.2.2.2.2.1 v.1.2.2.2.2.2.2.2.2.2.2.1
def W24_0 (c25 : Int → Option Int) (N : Nat) : LoopF (((Sh.tu (Sh.pr (Sh.sl (Sh.int .u8)) (Sh.int .i64)))).T) := fun no =>
  match no with
  | _ => fun _ _ => none
theorem b24_0 (c25 : Int → Option Int) (N n : Nat) (v : P24_0.T) (κ : (i : Nat) → (Q24_0 i).T → Option (((Sh.tu (Sh.pr (Sh.sl (Sh.int .u8)) (Sh.int .i64)))).T)) :
    evc (T24 c25) (rawOf (RW24 c25)) (W24_0 c25 N) (retc k24.res (Sh.tu (Sh.pr (Sh.sl (Sh.int .u8)) (Sh.int .i64)))) (modeOf FT) 0 fuelC (bodyOf (loopN k24 0)) (P24_0.st v) (roundK 0 H24_0 P24_0 Q24_0 (u24_0 c25 N n) κ) = u24_0 c25 N (n + 1) v κ := by kernel_rfl
theorem o24_0 (c25 : Int → Option Int) (hT : TabOK FT XT (T24 c25)) (hO : RawOK FT XT (rawOf (α := ((Sh.tu (Sh.pr (Sh.sl (Sh.int .u8)) (Sh.int .i64)))).T) (RW24 c25))) (N : Nat) {s : St} {κ : Ex → St → Option (((Sh.tu (Sh.pr (Sh.sl (Sh.int .u8)) (Sh.int .i64)))).T)} {a : ((Sh.tu (Sh.pr (Sh.sl (Sh.int .u8)) (Sh.int .i64)))).T} (h : lpOf 0 H24_0 P24_0 Q24_0 (u24_0 c25 N N) s κ = some a) : Out FT XT 0 (retc k24.res (Sh.tu (Sh.pr (Sh.sl (Sh.int .u8)) (Sh.int .i64)))) (loopN k24 0) s κ a := by
  rw [l24_0]
  exact loop_out (LP := W24_0 c25 N) (fu := fuelC) hT hO (fun _ _ => rfl) (b24_0 c25 N) loopOK_nil N h
def W24 (c25 : Int → Option Int) (N : Nat) : LoopF (((Sh.tu (Sh.pr (Sh.sl (Sh.int .u8)) (Sh.int .i64)))).T) := fun no =>
  match no with
  | 0 => lpOf 0 H24_0 P24_0 Q24_0 (u24_0 c25 N N)
  | 1 => lpOf 0 H24_1 P24_1 Q24_1 (u24_1 c25 N N)
  | _ => fun _ _ => none
theorem e24 (c25 : Int → Option Int) (N : Nat) (a0 : List Int) : evc (T24 c25) (rawOf (RW24 c25)) (W24 c25 N) (retc k24.res (Sh.tu (Sh.pr (Sh.sl (Sh.int .u8)) (Sh.int .i64)))) (modeOf FT) 0 fuelC k24.body (env0 k24 (encL [(Sh.sl (Sh.int .u8))] (a0, ())), []) (endK (retc k24.res (Sh.tu (Sh.pr (Sh.sl (Sh.int .u8)) (Sh.int .i64))))) = p24 c25 N a0 := by kernel_rfl
theorem ok24 (c25 : Int → Option Int) (h25 : EntOK FT XT 25 (en25 c25)) {f : List Int → Option ((List Int) × Int)} (hf : ∀ a0 r, f a0 = some r → ∃ N, p24 c25 N a0 = some r) : EntOK FT XT 24 (en24 f) := by
  have hT : TabOK FT XT (T24 c25) := by
    intro g en hg
    unfold T24 at hg
    split at hg <;> first | (injection hg with hg; subst hg; assumption) | cases hg
  have hO : RawOK FT XT (rawOf (α := ((Sh.tu (Sh.pr (Sh.sl (Sh.int .u8)) (Sh.int .i64)))).T) (RW24 c25)) := by
    refine rawOf_ok (fun g en hg => ?_)
    unfold RW24 at hg
    split at hg <;> simp only [List.mem_cons, List.not_mem_nil, or_false] at hg <;> first | (subst hg; assumption) | (rcases hg with rfl | rfl <;> assumption) | (rcases hg with rfl | rfl | rfl <;> assumption) | (rcases hg with rfl | rfl | rfl | rfl <;> assumption)
  refine ⟨rfl, fun v r h => ?_⟩
  obtain ⟨a0, _⟩ := v
  obtain ⟨N, h1⟩ := hf _ _ h
  exact ans_c (R := (Sh.tu (Sh.pr (Sh.sl (Sh.int .u8)) (Sh.int .i64)))) (tab := T24 c25) (raw := (rawOf (RW24 c25))) (LP := W24 c25 N) (fu := fuelC) hT hO rfl rfl (Nat.le_of_ble_eq_true rfl) (loopOK_cons l24_0 (fun s κ a h => o24_0 c25 hT hO N h) (loopOK_cons l24_1 (fun s κ a h => o24_1 c25 hT hO N h) loopOK_nil)) ((e24 c25 N _).trans h1)

def T53 : Nat → Option Ent
  | _ => none
def RW53 : Nat → List REnt
  | _ => []
def W53 (N : Nat) : LoopF (Sh.bool).T := fun no =>
  match no with
  | _ => fun _ _ => none
theorem e53 (N : Nat) (a0 : Int) : evc (T53) (rawOf (RW53)) (W53 N) (retc k53.res Sh.bool) (modeOf FT) 0 fuelC k53.body (env0 k53 (encL [(Sh.int .i64)] (a0, ())), []) (endK (retc k53.res Sh.bool)) = p53 N a0 := by kernel_rfl
theorem ok53 {f : Int → Option Bool} (hf : ∀ a0 r, f a0 = some r → ∃ N, p53 N a0 = some r) : EntOK FT XT 53 (en53 f) := by
  have hT : TabOK FT XT (T53) := by
    intro g en hg
    unfold T53 at hg
    split at hg <;> first | (injection hg with hg; subst hg; assumption) | cases hg
  have hO : RawOK FT XT (rawOf (α := (Sh.bool).T) (RW53)) := by
    refine rawOf_ok (fun g en hg => ?_)
    unfold RW53 at hg
    split at hg <;> simp only [List.mem_cons, List.not_mem_nil, or_false] at hg <;> first | (subst hg; assumption) | (rcases hg with rfl | rfl <;> assumption) | (rcases hg with rfl | rfl | rfl <;> assumption) | (rcases hg with rfl | rfl | rfl | rfl <;> assumption)
  refine ⟨rfl, fun v r h => ?_⟩
  obtain ⟨a0, _⟩ := v
  obtain ⟨N, h1⟩ := hf _ _ h
  exact ans_c (R := Sh.bool) (tab := T53) (raw := (rawOf (RW53))) (LP := W53 N) (fu := fuelC) hT hO rfl rfl (Nat.le_of_ble_eq_true rfl) loopOK_nil ((e53 N _).trans h1)

def T33 (c53 : Int → Option Bool) : Nat → Option Ent
  | 53 => some (en53 c53)
  | _ => none
def RW33 (c53 : Int → Option Bool) : Nat → List REnt
  | _ => []
def W33 (c53 : Int → Option Bool) (N : Nat) : LoopF (((Sh.int .u64)).T) := fun no =>
  match no with
  | _ => fun _ _ => none
theorem e33 (c53 : Int → Option Bool) (N : Nat) (a0 : Int) (a1 : Int) (a2 : Int) : evc (T33 c53) (rawOf (RW33 c53)) (W33 c53 N) (retc k33.res (Sh.int .u64)) (modeOf FT) 0 fuelC k33.body (env0 k33 (encL [(Sh.int .u64), (Sh.int .i64), (Sh.int .i64)] (a0, (a1, (a2, ())))), []) (endK (retc k33.res (Sh.int .u64))) = p33 c53 N a0 a1 a2 := by kernel_rfl
theorem ok33 (c53 : Int → Option Bool) (h53 : EntOK FT XT 53 (en53 c53)) {f : Int → Int → Int → Option Int} (hf : ∀ a0 a1 a2 r, f a0 a1 a2 = some r → ∃ N, p33 c53 N a0 a1 a2 = some r) : EntOK FT XT 33 (en33 f) := by
  have hT : TabOK FT XT (T33 c53) := by
    intro g en hg
    unfold T33 at hg
    split at hg <;> first | (injection hg with hg; subst hg; assumption) | cases hg
  have hO : RawOK FT XT (rawOf (α := ((Sh.int .u64)).T) (RW33 c53)) := by
    refine rawOf_ok (fun g en hg => ?_)
    unfold RW33 at hg
    split at hg <;> simp only [List.mem_cons, List.not_mem_nil, or_false] at hg <;> first | (subst hg; assumption) | (rcases hg with rfl | rfl <;> assumption) | (rcases hg with rfl | rfl | rfl <;> assumption) | (rcases hg with rfl | rfl | rfl | rfl <;> assumption)
  refine ⟨rfl, fun v r h => ?_⟩
  obtain ⟨a0, a1, a2, _⟩ := v
  obtain ⟨N, h1⟩ := hf _ _ _ _ h
  exact ans_c (R := (Sh.int .u64)) (tab := T33 c53) (raw := (rawOf (RW33 c53))) (LP := W33 c53 N) (fu := fuelC) hT hO rfl rfl (Nat.le_of_ble_eq_true rfl) loopOK_nil ((e33 c53 N _ _ _).trans h1)

def T54v0 (c33 : Int → Int → Int → Option Int) : Nat → Option Ent
  | 33 => some (en33 c33)
  | _ => none
def RW54v0 (c33 : Int → Int → Int → Option Int) : Nat → List REnt
  | _ => []
def W54v0 (c33 : Int → Int → Int → Option Int) (N : Nat) : LoopF QR54v0.T := fun no =>
  match no with
  | _ => fun _ _ => none
theorem e54v0 (c33 : Int → Int → Int → Option Int) (N : Nat) (v : PR54v0.T) : evc (T54v0 c33) (rawOf (RW54v0 c33)) (W54v0 c33 N) (retr k54.res 4 QR54v0) (modeOf FT) 4 fuelC k54.body (env0 k54 (PR54v0.a.st v.1), stH PR54v0.h v.2) (endK (retr k54.res 4 QR54v0)) = p54v0 c33 N v.1.1 v.2.1.1 v.2.2.1 v.2.2.2.1 v.2.2.2.2.1 := by kernel_rfl
theorem ok54v0 (c33 : Int → Int → Int → Option Int) (h33 : EntOK FT XT 33 (en33 c33)) {f : Int → Bool → List Int → List Int → List Int → Option ((Unit × Unit) × ((Bool × Unit) × ((List Int) × ((List Int) × ((List Int) × Unit)))))} (hf : ∀ a0 a1 a2 a3 a4 r, f a0 a1 a2 a3 a4 = some r → ∃ N, p54v0 c33 N a0 a1 a2 a3 a4 = some r) : REntOK FT XT 54 (rn54v0 f) := by
  have hT : TabOK FT XT (T54v0 c33) := by
    intro g en hg
    unfold T54v0 at hg
    split at hg <;> first | (injection hg with hg; subst hg; assumption) | cases hg
  have hO : RawOK FT XT (rawOf (α := QR54v0.T) (RW54v0 c33)) := by
    refine rawOf_ok (fun g en hg => ?_)
    unfold RW54v0 at hg
    split at hg <;> simp only [List.mem_cons, List.not_mem_nil, or_false] at hg <;> first | (subst hg; assumption) | (rcases hg with rfl | rfl <;> assumption) | (rcases hg with rfl | rfl | rfl <;> assumption) | (rcases hg with rfl | rfl | rfl | rfl <;> assumption)
  intro v r w h hw
  obtain ⟨N, h1⟩ := hf _ _ _ _ _ _ h
  exact ans_r (Q := QR54v0) (tab := T54v0 c33) (raw := (rawOf (RW54v0 c33))) (LP := W54v0 c33 N) (fu := fuelC) hT hO rfl rfl (Nat.le_of_ble_eq_true rfl) rfl loopOK_nil ((e54v0 c33 N v).trans h1) hw

def T27 (c53 : Int → Option Bool) (d54v0 : Int → Bool → List Int → List Int → List Int → Option ((Unit × Unit) × ((Bool × Unit) × ((List Int) × ((List Int) × ((List Int) × Unit)))))) : Nat → Option Ent
  | 53 => some (en53 c53)
  | _ => none
def RW27 (c53 : Int → Option Bool) (d54v0 : Int → Bool → List Int → List Int → List Int → Option ((Unit × Unit) × ((Bool × Unit) × ((List Int) × ((List Int) × ((List Int) × Unit)))))) : Nat → List REnt
  | 54 => [rn54v0 d54v0]
  | _ => []
def H27_0 : Trim := ⟨0, [], false, [8, 9, 10, 22, 23, 24], []⟩
theorem l27_0 : loopN k27 0 = .loop H27_0 (bodyOf (loopN k27 0)) := by kernel_rfl
def P27_0 : Ps := ⟨[(0, .u), (1, .u), (2, .u), (3, .u), (4, .u), (6, .u), (7, .u), (8, (.ptr 0 0)), (9, (.ptr 1 0)), (10, (.fn 54 (.cons (.ptr 1 0) (.cons (.ptr 2 0) (.cons (.ptr 0 0) (.cons (.ptr 3 0) .nil)))))), (12, .u), (20, .u), (22, (.tb (Sh.int .i64))), (23, (.int .i64)), (24, (.int .i64)), (25, .u), (32, .u)], [(.ints false .u64), (.vals false (.cons .bool .nil)), (.ints false .i64), (.ints false .u64)]⟩
def Q27_0 : Nat → Ps
  | 0 => ⟨[(0, .u), (1, .u), (2, .u), (3, .u), (4, .u), (6, .u), (7, .u), (8, (.ptr 0 0)), (9, (.ptr 1 0)), (10, .u), (12, .u), (20, .u), (22, .u), (23, .u), (24, .u), (25, .u), (32, .u)], [(.ints false .u64), (.vals false (.cons .bool .nil))]⟩
  | _ => noPs
def u27_0 (c53 : Int → Option Bool) (d54v0 : Int → Bool → List Int → List Int → List Int → Option ((Unit × Unit) × ((Bool × Unit) × ((List Int) × ((List Int) × ((List Int) × Unit)))))) (N n : Nat) (v : P27_0.T) (κ : (i : Nat) → (Q27_0 i).T → Option (((Sh.tu (Sh.pr (Sh.int .u64) (Sh.int .i64)))).T)) : Option (((Sh.tu (Sh.pr (Sh.int .u64) (Sh.int .i64)))).T) :=
  L27_0 c53 d54v0 N (fun (y0 : List Int) (y1 : Bool) => κ 0 (((), ((), ((), ((), ((), ((), ((), ((), ((), ((), ((), ((), ((), ((), ((), ((), ((), ()))))))))))))))))), (y0, ((y1, ()), ())))) n v.1.2.2.2.2.2.2.2.2.2.2.2.2.1 v.1.2.2.2.2.2.2.2.2.2.2.2.2.2.1 v.1.2.2.2.2.2.2.2.2.2.2.2.2.2.2.1 v.2.1 v.2.2.1.1 v.2.2.2.1 v.2.2.2.2.1
def W27_0 (c53 : Int → Option Bool) (d54v0 : Int → Bool → List Int → List Int → List Int → Option ((Unit × Unit) × ((Bool × Unit) × ((List Int) × ((List Int) × ((List Int) × Unit)))))) (N : Nat) : LoopF (((Sh.tu (Sh.pr (Sh.int .u64) (Sh.int .i64)))).T) := fun no =>
  match no with
  | _ => fun _ _ => none
theorem b27_0 (c53 : Int → Option Bool) (d54v0 : Int → Bool → List Int → List Int → List Int → Option ((Unit × Unit) × ((Bool × Unit) × ((List Int) × ((List Int) × ((List Int) × Unit)))))) (N n : Nat) (v : P27_0.T) (κ : (i : Nat) → (Q27_0 i).T → Option (((Sh.tu (Sh.pr (Sh.int .u64) (Sh.int .i64)))).T)) :
    evc (T27 c53 d54v0) (rawOf (RW27 c53 d54v0)) (W27_0 c53 d54v0 N) (retc k27.res (Sh.tu (Sh.pr (Sh.int .u64) (Sh.int .i64)))) (modeOf FT) 0 fuelC (bodyOf (loopN k27 0)) (P27_0.st v) (roundK 0 H27_0 P27_0 Q27_0 (u27_0 c53 d54v0 N n) κ) = u27_0 c53 d54v0 N (n + 1) v κ := by kernel_rfl
theorem o27_0 (c53 : Int → Option Bool) (d54v0 : Int → Bool → List Int → List Int → List Int → Option ((Unit × Unit) × ((Bool × Unit) × ((List Int) × ((List Int) × ((List Int) × Unit)))))) (hT : TabOK FT XT (T27 c53 d54v0)) (hO : RawOK FT XT (rawOf (α := ((Sh.tu (Sh.pr (Sh.int .u64) (Sh.int .i64)))).T) (RW27 c53 d54v0))) (N : Nat) {s : St} {κ : Ex → St → Option (((Sh.tu (Sh.pr (Sh.int .u64) (Sh.int .i64)))).T)} {a : ((Sh.tu (Sh.pr (Sh.int .u64) (Sh.int .i64)))).T} (h : lpOf 0 H27_0 P27_0 Q27_0 (u27_0 c53 d54v0 N N) s κ = some a) : Out FT XT 0 (retc k27.res (Sh.tu (Sh.pr (Sh.int .u64) (Sh.int .i64)))) (loopN k27 0) s κ a := by
  rw [l27_0]
  exact loop_out (LP := W27_0 c53 d54v0 N) (fu := fuelC) hT hO (fun _ _ => rfl) (b27_0 c53 d54v0 N) loopOK_nil N h
def W27 (c53 : Int → Option Bool) (d54v0 : Int → Bool → List Int → List Int → List Int → Option ((Unit × Unit) × ((Bool × Unit) × ((List Int) × ((List Int) × ((List Int) × Unit)))))) (N : Nat) : LoopF (((Sh.tu (Sh.pr (Sh.int .u64) (Sh.int .i64)))).T) := fun no =>
  match no with
  | 0 => lpOf 0 H27_0 P27_0 Q27_0 (u27_0 c53 d54v0 N N)
  | _ => fun _ _ => none
theorem e27 (c53 : Int → Option Bool) (d54v0 : Int → Bool → List Int → List Int → List Int → Option ((Unit × Unit) × ((Bool × Unit) × ((List Int) × ((List Int) × ((List Int) × Unit)))))) (N : Nat) (a0 : Int) (a1 : Int) (a2 : List Int) : evc (T27 c53 d54v0) (rawOf (RW27 c53 d54v0)) (W27 c53 d54v0 N) (retc k27.res (Sh.tu (Sh.pr (Sh.int .u64) (Sh.int .i64)))) (modeOf FT) 0 fuelC k27.body (env0 k27 (encL [(Sh.int .u64), (Sh.int .i64), (Sh.sl (Sh.int .i64))] (a0, (a1, (a2, ())))), []) (endK (retc k27.res (Sh.tu (Sh.pr (Sh.int .u64) (Sh.int .i64))))) = p27 c53 d54v0 N a0 a1 a2 := by kernel_rfl
theorem ok27 (c53 : Int → Option Bool) (d54v0 : Int → Bool → List Int → List Int → List Int → Option ((Unit × Unit) × ((Bool × Unit) × ((List Int) × ((List Int) × ((List Int) × Unit)))))) (h53 : EntOK FT XT 53 (en53 c53)) (h54v0 : REntOK FT XT 54 (rn54v0 d54v0)) {f : Int → Int → List Int → Option (Int × Int)} (hf : ∀ a0 a1 a2 r, f a0 a1 a2 = some r → ∃ N, p27 c53 d54v0 N a0 a1 a2 = some r) : EntOK FT XT 27 (en27 f) := by
  have hT : TabOK FT XT (T27 c53 d54v0) := by
    intro g en hg
    unfold T27 at hg
    split at hg <;> first | (injection hg with hg; subst hg; assumption) | cases hg
  have hO : RawOK FT XT (rawOf (α := ((Sh.tu (Sh.pr (Sh.int .u64) (Sh.int .i64)))).T) (RW27 c53 d54v0)) := by
    refine rawOf_ok (fun g en hg => ?_)
    unfold RW27 at hg
    split at hg <;> simp only [List.mem_cons, List.not_mem_nil, or_false] at hg <;> first | (subst hg; assumption) | (rcases hg with rfl | rfl <;> assumption) | (rcases hg with rfl | rfl | rfl <;> assumption) | (rcases hg with rfl | rfl | rfl | rfl <;> assumption)
  refine ⟨rfl, fun v r h => ?_⟩
  obtain ⟨a0, a1, a2, _⟩ := v
  obtain ⟨N, h1⟩ := hf _ _ _ _ h
  exact ans_c (R := (Sh.tu (Sh.pr (Sh.int .u64) (Sh.int .i64)))) (tab := T27 c53 d54v0) (raw := (rawOf (RW27 c53 d54v0))) (LP := W27 c53 d54v0 N) (fu := fuelC) hT hO rfl rfl (Nat.le_of_ble_eq_true rfl) (loopOK_cons l27_0 (fun s κ a h => o27_0 c53 d54v0 hT hO N h) loopOK_nil) ((e27 c53 d54v0 N _ _ _).trans h1)

def T58 : Nat → Option Ent
  | _ => none
def RW58 : Nat → List REnt
  | _ => []
def W58 (N : Nat) : LoopF (((Sh.int .u64)).T) := fun no =>
  match no with
  | _ => fun _ _ => none
theorem e58 (N : Nat) (a0 : Int) : evc (T58) (rawOf (RW58)) (W58 N) (retc k58.res (Sh.int .u64)) (modeOf FT) 0 fuelC k58.body (env0 k58 (encL [(Sh.int .i64)] (a0, ())), []) (endK (retc k58.res (Sh.int .u64))) = p58 N a0 := by kernel_rfl
theorem ok58 {f : Int → Option Int} (hf : ∀ a0 r, f a0 = some r → ∃ N, p58 N a0 = some r) : EntOK FT XT 58 (en58 f) := by
  have hT : TabOK FT XT (T58) := by
    intro g en hg
    unfold T58 at hg
    split at hg <;> first | (injection hg with hg; subst hg; assumption) | cases hg
  have hO : RawOK FT XT (rawOf (α := ((Sh.int .u64)).T) (RW58)) := by
    refine rawOf_ok (fun g en hg => ?_)
    unfold RW58 at hg
    split at hg <;> simp only [List.mem_cons, List.not_mem_nil, or_false] at hg <;> first | (subst hg; assumption) | (rcases hg with rfl | rfl <;> assumption) | (rcases hg with rfl | rfl | rfl <;> assumption) | (rcases hg with rfl | rfl | rfl | rfl <;> assumption)
  refine ⟨rfl, fun v r h => ?_⟩
  obtain ⟨a0, _⟩ := v
  obtain ⟨N, h1⟩ := hf _ _ h
  exact ans_c (R := (Sh.int .u64)) (tab := T58) (raw := (rawOf (RW58))) (LP := W58 N) (fu := fuelC) hT hO rfl rfl (Nat.le_of_ble_eq_true rfl) loopOK_nil ((e58 N _).trans h1)

def T29 (c53 : Int → Option Bool) (c58 : Int → Option Int) : Nat → Option Ent
  | 53 => some (en53 c53)
  | 58 => some (en58 c58)
  | _ => none
def RW29 (c53 : Int → Option Bool) (c58 : Int → Option Int) : Nat → List REnt
  | _ => []
def W29 (c53 : Int → Option Bool) (c58 : Int → Option Int) (N : Nat) : LoopF (((Sh.tu (Sh.pr (Sh.int .u64) (Sh.int .i64)))).T) := fun no =>
  match no with
  | _ => fun _ _ => none
theorem e29 (c53 : Int → Option Bool) (c58 : Int → Option Int) (N : Nat) (a0 : Int) (a1 : Int) (a2 : Int) : evc (T29 c53 c58) (rawOf (RW29 c53 c58)) (W29 c53 c58 N) (retc k29.res (Sh.tu (Sh.pr (Sh.int .u64) (Sh.int .i64)))) (modeOf FT) 0 fuelC k29.body (env0 k29 (encL [(Sh.int .u64), (Sh.int .i64), (Sh.int .i64)] (a0, (a1, (a2, ())))), []) (endK (retc k29.res (Sh.tu (Sh.pr (Sh.int .u64) (Sh.int .i64))))) = p29 c53 c58 N a0 a1 a2 := by kernel_rfl
theorem ok29 (c53 : Int → Option Bool) (c58 : Int → Option Int) (h53 : EntOK FT XT 53 (en53 c53)) (h58 : EntOK FT XT 58 (en58 c58)) {f : Int → Int → Int → Option (Int × Int)} (hf : ∀ a0 a1 a2 r, f a0 a1 a2 = some r → ∃ N, p29 c53 c58 N a0 a1 a2 = some r) : EntOK FT XT 29 (en29 f) := by
  have hT : TabOK FT XT (T29 c53 c58) := by
    intro g en hg
    unfold T29 at hg
    split at hg <;> first | (injection hg with hg; subst hg; assumption) | cases hg
  have hO : RawOK FT XT (rawOf (α := ((Sh.tu (Sh.pr (Sh.int .u64) (Sh.int .i64)))).T) (RW29 c53 c58)) := by
    refine rawOf_ok (fun g en hg => ?_)
    unfold RW29 at hg
    split at hg <;> simp only [List.mem_cons, List.not_mem_nil, or_false] at hg <;> first | (subst hg; assumption) | (rcases hg with rfl | rfl <;> assumption) | (rcases hg with rfl | rfl | rfl <;> assumption) | (rcases hg with rfl | rfl | rfl | rfl <;> assumption)
  refine ⟨rfl, fun v r h => ?_⟩
  obtain ⟨a0, a1, a2, _⟩ := v
  obtain ⟨N, h1⟩ := hf _ _ _ _ h
  exact ans_c (R := (Sh.tu (Sh.pr (Sh.int .u64) (Sh.int .i64)))) (tab := T29 c53 c58) (raw := (rawOf (RW29 c53 c58))) (LP := W29 c53 c58 N) (fu := fuelC) hT hO rfl rfl (Nat.le_of_ble_eq_true rfl) loopOK_nil ((e29 c53 c58 N _ _ _).trans h1)

def T31 (c53 : Int → Option Bool) (c58 : Int → Option Int) : Nat → Option Ent
  | 53 => some (en53 c53)
  | 58 => some (en58 c58)
  | _ => none
def RW31 (c53 : Int → Option Bool) (c58 : Int → Option Int) : Nat → List REnt
  | _ => []
def W31 (c53 : Int → Option Bool) (c58 : Int → Option Int) (N : Nat) : LoopF (((Sh.tu (Sh.pr (Sh.int .u64) (Sh.pr (Sh.int .u64) (Sh.int .i64))))).T) := fun no =>
  match no with
  | _ => fun _ _ => none
theorem e31 (c53 : Int → Option Bool) (c58 : Int → Option Int) (N : Nat) (a0 : Int) (a1 : Int) (a2 : Int) : evc (T31 c53 c58) (rawOf (RW31 c53 c58)) (W31 c53 c58 N) (retc k31.res (Sh.tu (Sh.pr (Sh.int .u64) (Sh.pr (Sh.int .u64) (Sh.int .i64))))) (modeOf FT) 0 fuelC k31.body (env0 k31 (encL [(Sh.int .u64), (Sh.int .i64), (Sh.int .i64)] (a0, (a1, (a2, ())))), []) (endK (retc k31.res (Sh.tu (Sh.pr (Sh.int .u64) (Sh.pr (Sh.int .u64) (Sh.int .i64)))))) = p31 c53 c58 N a0 a1 a2 := by kernel_rfl
theorem ok31 (c53 : Int → Option Bool) (c58 : Int → Option Int) (h53 : EntOK FT XT 53 (en53 c53)) (h58 : EntOK FT XT 58 (en58 c58)) {f : Int → Int → Int → Option (Int × Int × Int)} (hf : ∀ a0 a1 a2 r, f a0 a1 a2 = some r → ∃ N, p31 c53 c58 N a0 a1 a2 = some r) : EntOK FT XT 31 (en31 f) := by
  have hT : TabOK FT XT (T31 c53 c58) := by
    intro g en hg
    unfold T31 at hg
    split at hg <;> first | (injection hg with hg; subst hg; assumption) | cases hg
  have hO : RawOK FT XT (rawOf (α := ((Sh.tu (Sh.pr (Sh.int .u64) (Sh.pr (Sh.int .u64) (Sh.int .i64))))).T) (RW31 c53 c58)) := by
    refine rawOf_ok (fun g en hg => ?_)
    unfold RW31 at hg
    split at hg <;> simp only [List.mem_cons, List.not_mem_nil, or_false] at hg <;> first | (subst hg; assumption) | (rcases hg with rfl | rfl <;> assumption) | (rcases hg with rfl | rfl | rfl <;> assumption) | (rcases hg with rfl | rfl | rfl | rfl <;> assumption)
  refine ⟨rfl, fun v r h => ?_⟩
  obtain ⟨a0, a1, a2, _⟩ := v
  obtain ⟨N, h1⟩ := hf _ _ _ _ h
  exact ans_c (R := (Sh.tu (Sh.pr (Sh.int .u64) (Sh.pr (Sh.int .u64) (Sh.int .i64))))) (tab := T31 c53 c58) (raw := (rawOf (RW31 c53 c58))) (LP := W31 c53 c58 N) (fu := fuelC) hT hO rfl rfl (Nat.le_of_ble_eq_true rfl) loopOK_nil ((e31 c53 c58 N _ _ _).trans h1)

def T56 : Nat → Option Ent
  | _ => none
def RW56 : Nat → List REnt
  | _ => []
def H56_0 : Trim := ⟨0, [], false, [0, 5, 6], []⟩
theorem l56_0 : loopN k56 0 = .loop H56_0 (bodyOf (loopN k56 0)) := by kernel_rfl
def P56_0 : Ps := ⟨[(0, (.int .u64)), (1, .u), (4, .u), (5, (.slc 0 1)), (6, (.int .i64)), (12, .u)], [(.ints false .u8)]⟩
def Q56_0 : Nat → Ps
  | 0 => ⟨[(0, .u), (1, .u), (4, .u), (5, (.slc 0 1)), (6, .u), (12, .u)], [(.ints false .u8)]⟩
  | _ => noPs
def u56_0 (N n : Nat) (v : P56_0.T) (κ : (i : Nat) → (Q56_0 i).T → Option (((Sh.sl (Sh.int .u8))).T)) : Option (((Sh.sl (Sh.int .u8))).T) :=
  L56_0 N (fun (y0 : Nat) (y1 : Nat) (y2 : List Int) => κ 0 (((), ((), ((), ((y0, y1), ((), ((), ())))))), (y2, ()))) n v.1.1 v.1.2.2.2.1.1 v.1.2.2.2.1.2 v.1.2.2.2.2.1 v.2.1
def W56_0 (N : Nat) : LoopF (((Sh.sl (Sh.int .u8))).T) := fun no =>
  match no with
  | _ => fun _ _ => none
theorem b56_0 (N n : Nat) (v : P56_0.T) (κ : (i : Nat) → (Q56_0 i).T → Option (((Sh.sl (Sh.int .u8))).T)) :
    evc (T56) (rawOf (RW56)) (W56_0 N) (retc k56.res (Sh.sl (Sh.int .u8))) (modeOf FT) 0 fuelC (bodyOf (loopN k56 0)) (P56_0.st v) (roundK 0 H56_0 P56_0 Q56_0 (u56_0 N n) κ) = u56_0 N (n + 1) v κ := by kernel_rfl
theorem o56_0 (hT : TabOK FT XT (T56)) (hO : RawOK FT XT (rawOf (α := ((Sh.sl (Sh.int .u8))).T) (RW56))) (N : Nat) {s : St} {κ : Ex → St → Option (((Sh.sl (Sh.int .u8))).T)} {a : ((Sh.sl (Sh.int .u8))).T} (h : lpOf 0 H56_0 P56_0 Q56_0 (u56_0 N N) s κ = some a) : Out FT XT 0 (retc k56.res (Sh.sl (Sh.int .u8))) (loopN k56 0) s κ a := by
  rw [l56_0]
  exact loop_out (LP := W56_0 N) (fu := fuelC) hT hO (fun _ _ => rfl) (b56_0 N) loopOK_nil N h
def W56 (N : Nat) : LoopF (((Sh.sl (Sh.int .u8))).T) := fun no =>
  match no with
  | 0 => lpOf 0 H56_0 P56_0 Q56_0 (u56_0 N N)
  | _ => fun _ _ => none
theorem e56 (N : Nat) (a0 : Int) (a1 : Int) : evc (T56) (rawOf (RW56)) (W56 N) (retc k56.res (Sh.sl (Sh.int .u8))) (modeOf FT) 0 fuelC k56.body (env0 k56 (encL [(Sh.int .u64), (Sh.int .i64)] (a0, (a1, ()))), []) (endK (retc k56.res (Sh.sl (Sh.int .u8)))) = p56 N a0 a1 := by kernel_rfl
theorem ok56 {f : Int → Int → Option (List Int)} (hf : ∀ a0 a1 r, f a0 a1 = some r → ∃ N, p56 N a0 a1 = some r) : EntOK FT XT 56 (en56 f) := by
  have hT : TabOK FT XT (T56) := by
    intro g en hg
    unfold T56 at hg
    split at hg <;> first | (injection hg with hg; subst hg; assumption) | cases hg
  have hO : RawOK FT XT (rawOf (α := ((Sh.sl (Sh.int .u8))).T) (RW56)) := by
    refine rawOf_ok (fun g en hg => ?_)
    unfold RW56 at hg
    split at hg <;> simp only [List.mem_cons, List.not_mem_nil, or_false] at hg <;> first | (subst hg; assumption) | (rcases hg with rfl | rfl <;> assumption) | (rcases hg with rfl | rfl | rfl <;> assumption) | (rcases hg with rfl | rfl | rfl | rfl <;> assumption)
  refine ⟨rfl, fun v r h => ?_⟩
  obtain ⟨a0, a1, _⟩ := v
  obtain ⟨N, h1⟩ := hf _ _ _ h
  exact ans_c (R := (Sh.sl (Sh.int .u8))) (tab := T56) (raw := (rawOf (RW56))) (LP := W56 N) (fu := fuelC) hT hO rfl rfl (Nat.le_of_ble_eq_true rfl) (loopOK_cons l56_0 (fun s κ a h => o56_0 hT hO N h) loopOK_nil) ((e56 N _ _).trans h1)

def T57 : Nat → Option Ent
  | _ => none
def RW57 : Nat → List REnt
  | _ => []
def H57_0 : Trim := ⟨0, [], false, [0, 3, 4], []⟩
theorem l57_0 : loopN k57 0 = .loop H57_0 (bodyOf (loopN k57 0)) := by kernel_rfl
def P57_0 : Ps := ⟨[(0, (.tb (Sh.int .u8))), (2, .u), (3, (.int .u64)), (4, (.int .i64)), (8, .u)], []⟩
def Q57_0 : Nat → Ps
  | 0 => ⟨[(0, .u), (2, .u), (3, (.int .u64)), (4, .u), (8, .u)], []⟩
  | _ => noPs
def u57_0 (N n : Nat) (v : P57_0.T) (κ : (i : Nat) → (Q57_0 i).T → Option (((Sh.int .u64)).T)) : Option (((Sh.int .u64)).T) :=
  L57_0 N (fun (y0 : Int) => κ 0 (((), ((), (y0, ((), ((), ()))))), ())) n v.1.1 v.1.2.2.1 v.1.2.2.2.1
def W57_0 (N : Nat) : LoopF (((Sh.int .u64)).T) := fun no =>
  match no with
  | _ => fun _ _ => none
theorem b57_0 (N n : Nat) (v : P57_0.T) (κ : (i : Nat) → (Q57_0 i).T → Option (((Sh.int .u64)).T)) :
    evc (T57) (rawOf (RW57)) (W57_0 N) (retc k57.res (Sh.int .u64)) (modeOf FT) 0 fuelC (bodyOf (loopN k57 0)) (P57_0.st v) (roundK 0 H57_0 P57_0 Q57_0 (u57_0 N n) κ) = u57_0 N (n + 1) v κ := by kernel_rfl
theorem o57_0 (hT : TabOK FT XT (T57)) (hO : RawOK FT XT (rawOf (α := ((Sh.int .u64)).T) (RW57))) (N : Nat) {s : St} {κ : Ex → St → Option (((Sh.int .u64)).T)} {a : ((Sh.int .u64)).T} (h : lpOf 0 H57_0 P57_0 Q57_0 (u57_0 N N) s κ = some a) : Out FT XT 0 (retc k57.res (Sh.int .u64)) (loopN k57 0) s κ a := by
  rw [l57_0]
  exact loop_out (LP := W57_0 N) (fu := fuelC) hT hO (fun _ _ => rfl) (b57_0 N) loopOK_nil N h
def W57 (N : Nat) : LoopF (((Sh.int .u64)).T) := fun no =>
  match no with
  | 0 => lpOf 0 H57_0 P57_0 Q57_0 (u57_0 N N)
  | _ => fun _ _ => none
theorem e57 (N : Nat) (a0 : List Int) : evc (T57) (rawOf (RW57)) (W57 N) (retc k57.res (Sh.int .u64)) (modeOf FT) 0 fuelC k57.body (env0 k57 (encL [(Sh.sl (Sh.int .u8))] (a0, ())), []) (endK (retc k57.res (Sh.int .u64))) = p57 N a0 := by kernel_rfl
theorem ok57 {f : List Int → Option Int} (hf : ∀ a0 r, f a0 = some r → ∃ N, p57 N a0 = some r) : EntOK FT XT 57 (en57 f) := by
  have hT : TabOK FT XT (T57) := by
    intro g en hg
    unfold T57 at hg
    split at hg <;> first | (injection hg with hg; subst hg; assumption) | cases hg
  have hO : RawOK FT XT (rawOf (α := ((Sh.int .u64)).T) (RW57)) := by
    refine rawOf_ok (fun g en hg => ?_)
    unfold RW57 at hg
    split at hg <;> simp only [List.mem_cons, List.not_mem_nil, or_false] at hg <;> first | (subst hg; assumption) | (rcases hg with rfl | rfl <;> assumption) | (rcases hg with rfl | rfl | rfl <;> assumption) | (rcases hg with rfl | rfl | rfl | rfl <;> assumption)
  refine ⟨rfl, fun v r h => ?_⟩
  obtain ⟨a0, _⟩ := v
  obtain ⟨N, h1⟩ := hf _ _ h
  exact ans_c (R := (Sh.int .u64)) (tab := T57) (raw := (rawOf (RW57))) (LP := W57 N) (fu := fuelC) hT hO rfl rfl (Nat.le_of_ble_eq_true rfl) (loopOK_cons l57_0 (fun s κ a h => o57_0 hT hO N h) loopOK_nil) ((e57 N _).trans h1)

def T39 : Nat → Option Ent
  | _ => none
def RW39 : Nat → List REnt
  | _ => []
def H39_0 : Trim := ⟨0, [], false, [0, 3, 4], []⟩
theorem l39_0 : loopN k39 0 = .loop H39_0 (bodyOf (loopN k39 0)) := by kernel_rfl
def P39_0 : Ps := ⟨[(0, (.int .u8)), (2, .u), (3, (.int .u8)), (4, (.int .i64)), (6, .u)], []⟩
def Q39_0 : Nat → Ps
  | 0 => ⟨[(0, (.int .u8)), (2, .u), (3, (.int .u8)), (4, .u), (6, .u)], []⟩
  | _ => noPs
def u39_0 (N n : Nat) (v : P39_0.T) (κ : (i : Nat) → (Q39_0 i).T → Option (((Sh.int .u8)).T)) : Option (((Sh.int .u8)).T) :=
  L39_0 N (fun (y0 : Int) (y1 : Int) => κ 0 ((y0, ((), (y1, ((), ((), ()))))), ())) n v.1.1 v.1.2.2.1 v.1.2.2.2.1
def W39_0 (N : Nat) : LoopF (((Sh.int .u8)).T) := fun no =>
  match no with
  | _ => fun _ _ => none
theorem b39_0 (N n : Nat) (v : P39_0.T) (κ : (i : Nat) → (Q39_0 i).T → Option (((Sh.int .u8)).T)) :
    evc (T39) (rawOf (RW39)) (W39_0 N) (retc k39.res (Sh.int .u8)) (modeOf FT) 0 fuelC (bodyOf (loopN k39 0)) (P39_0.st v) (roundK 0 H39_0 P39_0 Q39_0 (u39_0 N n) κ) = u39_0 N (n + 1) v κ := by kernel_rfl
theorem o39_0 (hT : TabOK FT XT (T39)) (hO : RawOK FT XT (rawOf (α := ((Sh.int .u8)).T) (RW39))) (N : Nat) {s : St} {κ : Ex → St → Option (((Sh.int .u8)).T)} {a : ((Sh.int .u8)).T} (h : lpOf 0 H39_0 P39_0 Q39_0 (u39_0 N N) s κ = some a) : Out FT XT 0 (retc k39.res (Sh.int .u8)) (loopN k39 0) s κ a := by
  rw [l39_0]
  exact loop_out (LP := W39_0 N) (fu := fuelC) hT hO (fun _ _ => rfl) (b39_0 N) loopOK_nil N h
def W39 (N : Nat) : LoopF (((Sh.int .u8)).T) := fun no =>
  match no with
  | 0 => lpOf 0 H39_0 P39_0 Q39_0 (u39_0 N N)
  | _ => fun _ _ => none
theorem e39 (N : Nat) (a0 : Int) : evc (T39) (rawOf (RW39)) (W39 N) (retc k39.res (Sh.int .u8)) (modeOf FT) 0 fuelC k39.body (env0 k39 (encL [(Sh.int .u8)] (a0, ())), []) (endK (retc k39.res (Sh.int .u8))) = p39 N a0 := by kernel_rfl
theorem ok39 {f : Int → Option Int} (hf : ∀ a0 r, f a0 = some r → ∃ N, p39 N a0 = some r) : EntOK FT XT 39 (en39 f) := by
  have hT : TabOK FT XT (T39) := by
    intro g en hg
    unfold T39 at hg
    split at hg <;> first | (injection hg with hg; subst hg; assumption) | cases hg
  have hO : RawOK FT XT (rawOf (α := ((Sh.int .u8)).T) (RW39)) := by
    refine rawOf_ok (fun g en hg => ?_)
    unfold RW39 at hg
    split at hg <;> simp only [List.mem_cons, List.not_mem_nil, or_false] at hg <;> first | (subst hg; assumption) | (rcases hg with rfl | rfl <;> assumption) | (rcases hg with rfl | rfl | rfl <;> assumption) | (rcases hg with rfl | rfl | rfl | rfl <;> assumption)
  refine ⟨rfl, fun v r h => ?_⟩
  obtain ⟨a0, _⟩ := v
  obtain ⟨N, h1⟩ := hf _ _ h
  exact ans_c (R := (Sh.int .u8)) (tab := T39) (raw := (rawOf (RW39))) (LP := W39 N) (fu := fuelC) hT hO rfl rfl (Nat.le_of_ble_eq_true rfl) (loopOK_cons l39_0 (fun s κ a h => o39_0 hT hO N h) loopOK_nil) ((e39 N _).trans h1)

def T36 (c56 : Int → Int → Option (List Int)) (c57 : List Int → Option Int) (c39 : Int → Option Int) : Nat → Option Ent
  | 56 => some (en56 c56)
  | 57 => some (en57 c57)
  | 39 => some (en39 c39)
  | _ => none
def RW36 (c56 : Int → Int → Option (List Int)) (c57 : List Int → Option Int) (c39 : Int → Option Int) : Nat → List REnt
  | _ => []
def H36_1 : Trim := ⟨1, [], false, [4, 5, 7], [(5, (.ints .u8 []), 1)]⟩
theorem l36_1 : loopN k36 1 = .loop H36_1 (bodyOf (loopN k36 1)) := by kernel_rfl
def P36_1 : Ps := ⟨[(0, .u), (2, .u), (3, .u), (4, (.sl 0 1)), (5, (.sl 1 1)), (6, .u), (7, (.int .i64)), (10, .u), (12, .u), (24, .u)], [(.ints false .u8), (.ints false .u8)]⟩
def Q36_1 : Nat → Ps
  | 2 => ⟨[(0, .u), (2, .u), (3, .u), (4, .u), (5, (.sl 0 1)), (6, .u), (7, .u), (10, .u), (12, .u), (24, .u)], [(.ints false .u8)]⟩
  | _ => noPs
def u36_1 (c56 : Int → Int → Option (List Int)) (c57 : List Int → Option Int) (c39 : Int → Option Int) (N n : Nat) (v : P36_1.T) (κ : (i : Nat) → (Q36_1 i).T → Option (((Sh.tu (Sh.pr (Sh.sl (Sh.int .u8)) (Sh.int .i64)))).T)) : Option (((Sh.tu (Sh.pr (Sh.sl (Sh.int .u8)) (Sh.int .i64)))).T) :=
  L36_1 c56 c57 c39 N (fun (y0 : Nat) (y1 : List Int) => κ 2 (((), ((), ((), ((), (y0, ((), ((), ((), ((), ((), ())))))))))), (y1, ()))) n v.1.2.2.2.1 v.1.2.2.2.2.1 v.1.2.2.2.2.2.2.1 v.2.1 v.2.2.1
def W36_1 (c56 : Int → Int → Option (List Int)) (c57 : List Int → Option Int) (c39 : Int → Option Int) (N : Nat) : LoopF (((Sh.tu (Sh.pr (Sh.sl (Sh.int .u8)) (Sh.int .i64)))).T) := fun no =>
  match no with
  | _ => fun _ _ => none
theorem b36_1 (c56 : Int → Int → Option (List Int)) (c57 : List Int → Option Int) (c39 : Int → Option Int) (N n : Nat) (v : P36_1.T) (κ : (i : Nat) → (Q36_1 i).T → Option (((Sh.tu (Sh.pr (Sh.sl (Sh.int .u8)) (Sh.int .i64)))).T)) :
    evc (T36 c56 c57 c39) (rawOf (RW36 c56 c57 c39)) (W36_1 c56 c57 c39 N) (retc k36.res (Sh.tu (Sh.pr (Sh.sl (Sh.int .u8)) (Sh.int .i64)))) (modeOf FT) 0 fuelC (bodyOf (loopN k36 1)) (P36_1.st v) (roundK 0 H36_1 P36_1 Q36_1 (u36_1 c56 c57 c39 N n) κ) = u36_1 c56 c57 c39 N (n + 1) v κ := by kernel_rfl
theorem o36_1 (c56 : Int → Int → Option (List Int)) (c57 : List Int → Option Int) (c39 : Int → Option Int) (hT : TabOK FT XT (T36 c56 c57 c39)) (hO : RawOK FT XT (rawOf (α := ((Sh.tu (Sh.pr (Sh.sl (Sh.int .u8)) (Sh.int .i64)))).T) (RW36 c56 c57 c39))) (N : Nat) {s : St} {κ : Ex → St → Option (((Sh.tu (Sh.pr (Sh.sl (Sh.int .u8)) (Sh.int .i64)))).T)} {a : ((Sh.tu (Sh.pr (Sh.sl (Sh.int .u8)) (Sh.int .i64)))).T} (h : lpOf 0 H36_1 P36_1 Q36_1 (u36_1 c56 c57 c39 N N) s κ = some a) : Out FT XT 0 (retc k36.res (Sh.tu (Sh.pr (Sh.sl (Sh.int .u8)) (Sh.int .i64)))) (loopN k36 1) s κ a := by
  rw [l36_1]
  exact loop_out (LP := W36_1 c56 c57 c39 N) (fu := fuelC) hT hO (fun _ _ => rfl) (b36_1 c56 c57 c39 N) loopOK_nil N h
def H36_0 : Trim := ⟨0, [], false, [0, 4, 5, 6], [(4, (.ints .u8 []), 1)]⟩
theorem l36_0 : loopN k36 0 = .loop H36_0 (bodyOf (loopN k36 0)) := by kernel_rfl
def P36_0 : Ps := ⟨[(0, (.tb (Sh.int .u8))), (2, .u), (3, .u), (4, (.sl 0 1)), (5, .nils), (6, (.int .i64)), (7, .u), (10, .u), (12, .u), (24, .u)], [(.ints false .u8)]⟩
def Q36_0 : Nat → Ps
  | 0 => ⟨[(0, .u), (2, .u), (3, .u), (4, (.sl 0 1)), (5, .nils), (6, .u), (7, .u), (10, .u), (12, .u), (24, .u)], [(.ints false .u8)]⟩
  | _ => noPs
def u36_0 (c56 : Int → Int → Option (List Int)) (c57 : List Int → Option Int) (c39 : Int → Option Int) (N n : Nat) (v : P36_0.T) (κ : (i : Nat) → (Q36_0 i).T → Option (((Sh.tu (Sh.pr (Sh.sl (Sh.int .u8)) (Sh.int .i64)))).T)) : Option (((Sh.tu (Sh.pr (Sh.sl (Sh.int .u8)) (Sh.int .i64)))).T) :=
  L36_0 c56 c57 c39 N (fun (y0 : Nat) (y1 : List Int) => κ 0 (((), ((), ((), (y0, ((), ((), ((), ((), ((), ((), ())))))))))), (y1, ()))) n v.1.1 v.1.2.2.2.1 v.1.2.2.2.2.2.1 v.2.1
def W36_0 (c56 : Int → Int → Option (List Int)) (c57 : List Int → Option Int) (c39 : Int → Option Int) (N : Nat) : LoopF (((Sh.tu (Sh.pr (Sh.sl (Sh.int .u8)) (Sh.int .i64)))).T) := fun no =>
  match no with
  | _ => fun _ _ => none
theorem b36_0 (c56 : Int → Int → Option (List Int)) (c57 : List Int → Option Int) (c39 : Int → Option Int) (N n : Nat) (v : P36_0.T) (κ : (i : Nat) → (Q36_0 i).T → Option (((Sh.tu (Sh.pr (Sh.sl (Sh.int .u8)) (Sh.int .i64)))).T)) :
    evc (T36 c56 c57 c39) (rawOf (RW36 c56 c57 c39)) (W36_0 c56 c57 c39 N) (retc k36.res (Sh.tu (Sh.pr (Sh.sl (Sh.int .u8)) (Sh.int .i64)))) (modeOf FT) 0 fuelC (bodyOf (loopN k36 0)) (P36_0.st v) (roundK 0 H36_0 P36_0 Q36_0 (u36_0 c56 c57 c39 N n) κ) = u36_0 c56 c57 c39 N (n + 1) v κ := by kernel_rfl
theorem o36_0 (c56 : Int → Int → Option (List Int)) (c57 : List Int → Option Int) (c39 : Int → Option Int) (hT : TabOK FT XT (T36 c56 c57 c39)) (hO : RawOK FT XT (rawOf (α := ((Sh.tu (Sh.pr (Sh.sl (Sh.int .u8)) (Sh.int .i64)))).T) (RW36 c56 c57 c39))) (N : Nat) {s : St} {κ : Ex → St → Option (((Sh.tu (Sh.pr (Sh.sl (Sh.int .u8)) (Sh.int .i64)))).T)} {a : ((Sh.tu (Sh.pr (Sh.sl (Sh.int .u8)) (Sh.int .i64)))).T} (h : lpOf 0 H36_0 P36_0 Q36_0 (u36_0 c56 c57 c39 N N) s κ = some a) : Out FT XT 0 (retc k36.res (Sh.tu (Sh.pr (Sh.sl (Sh.int .u8)) (Sh.int .i64)))) (loopN k36 0) s κ a := by
  rw [l36_0]
  exact loop_out (LP := W36_0 c56 c57 c39 N) (fu := fuelC) hT hO (fun _ _ => rfl) (b36_0 c56 c57 c39 N) loopOK_nil N h
def W36 (c56 : Int → Int → Option (List Int)) (c57 : List Int → Option Int) (c39 : Int → Option Int) (N : Nat) : LoopF (((Sh.tu (Sh.pr (Sh.sl (Sh.int .u8)) (Sh.int .i64)))).T) := fun no =>
  match no with
  | 0 => lpOf 0 H36_0 P36_0 Q36_0 (u36_0 c56 c57 c39 N N)
  | 1 => lpOf 0 H36_1 P36_1 Q36_1 (u36_1 c56 c57 c39 N N)
  | _ => fun _ _ => none
theorem e36 (c56 : Int → Int → Option (List Int)) (c57 : List Int → Option Int) (c39 : Int → Option Int) (N : Nat) (a0 : List Int) : evc (T36 c56 c57 c39) (rawOf (RW36 c56 c57 c39)) (W36 c56 c57 c39 N) (retc k36.res (Sh.tu (Sh.pr (Sh.sl (Sh.int .u8)) (Sh.int .i64)))) (modeOf FT) 0 fuelC k36.body (env0 k36 (encL [(Sh.sl (Sh.int .u8))] (a0, ())), []) (endK (retc k36.res (Sh.tu (Sh.pr (Sh.sl (Sh.int .u8)) (Sh.int .i64))))) = p36 c56 c57 c39 N a0 := by kernel_rfl
theorem ok36 (c56 : Int → Int → Option (List Int)) (c57 : List Int → Option Int) (c39 : Int → Option Int) (h56 : EntOK FT XT 56 (en56 c56)) (h57 : EntOK FT XT 57 (en57 c57)) (h39 : EntOK FT XT 39 (en39 c39)) {f : List Int → Option ((List Int) × Int)} (hf : ∀ a0 r, f a0 = some r → ∃ N, p36 c56 c57 c39 N a0 = some r) : EntOK FT XT 36 (en36 f) := by
  have hT : TabOK FT XT (T36 c56 c57 c39) := by
    intro g en hg
    unfold T36 at hg
    split at hg <;> first | (injection hg with hg; subst hg; assumption) | cases hg
  have hO : RawOK FT XT (rawOf (α := ((Sh.tu (Sh.pr (Sh.sl (Sh.int .u8)) (Sh.int .i64)))).T) (RW36 c56 c57 c39)) := by
    refine rawOf_ok (fun g en hg => ?_)
    unfold RW36 at hg
    split at hg <;> simp only [List.mem_cons, List.not_mem_nil, or_false] at hg <;> first | (subst hg; assumption) | (rcases hg with rfl | rfl <;> assumption) | (rcases hg with rfl | rfl | rfl <;> assumption) | (rcases hg with rfl | rfl | rfl | rfl <;> assumption)
  refine ⟨rfl, fun v r h => ?_⟩
  obtain ⟨a0, _⟩ := v
  obtain ⟨N, h1⟩ := hf _ _ h
  exact ans_c (R := (Sh.tu (Sh.pr (Sh.sl (Sh.int .u8)) (Sh.int .i64)))) (tab := T36 c56 c57 c39) (raw := (rawOf (RW36 c56 c57 c39))) (LP := W36 c56 c57 c39 N) (fu := fuelC) hT hO rfl rfl (Nat.le_of_ble_eq_true rfl) (loopOK_cons l36_0 (fun s κ a h => o36_0 c56 c57 c39 hT hO N h) (loopOK_cons l36_1 (fun s κ a h => o36_1 c56 c57 c39 hT hO N h) loopOK_nil)) ((e36 c56 c57 c39 N _).trans h1)

def T50 : Nat → Option Ent
  | _ => none
def RW50 : Nat → List REnt
  | _ => []
def H50_0 : Trim := ⟨0, [], false, [0, 5, 6], []⟩
theorem l50_0 : loopN k50 0 = .loop H50_0 (bodyOf (loopN k50 0)) := by kernel_rfl
def P50_0 : Ps := ⟨[(0, (.int .u64)), (1, .u), (4, .u), (5, (.slc 0 1)), (6, (.int .i64)), (12, .u)], [(.ints false .u8)]⟩
def Q50_0 : Nat → Ps
  | 0 => ⟨[(0, .u), (1, .u), (4, .u), (5, (.slc 0 1)), (6, .u), (12, .u)], [(.ints false .u8)]⟩
  | _ => noPs
def u50_0 (N n : Nat) (v : P50_0.T) (κ : (i : Nat) → (Q50_0 i).T → Option (((Sh.sl (Sh.int .u8))).T)) : Option (((Sh.sl (Sh.int .u8))).T) :=
  L50_0 N (fun (y0 : Nat) (y1 : Nat) (y2 : List Int) => κ 0 (((), ((), ((), ((y0, y1), ((), ((), ())))))), (y2, ()))) n v.1.1 v.1.2.2.2.1.1 v.1.2.2.2.1.2 v.1.2.2.2.2.1 v.2.1
def W50_0 (N : Nat) : LoopF (((Sh.sl (Sh.int .u8))).T) := fun no =>
  match no with
  | _ => fun _ _ => none
theorem b50_0 (N n : Nat) (v : P50_0.T) (κ : (i : Nat) → (Q50_0 i).T → Option (((Sh.sl (Sh.int .u8))).T)) :
    evc (T50) (rawOf (RW50)) (W50_0 N) (retc k50.res (Sh.sl (Sh.int .u8))) (modeOf FT) 0 fuelC (bodyOf (loopN k50 0)) (P50_0.st v) (roundK 0 H50_0 P50_0 Q50_0 (u50_0 N n) κ) = u50_0 N (n + 1) v κ := by kernel_rfl
theorem o50_0 (hT : TabOK FT XT (T50)) (hO : RawOK FT XT (rawOf (α := ((Sh.sl (Sh.int .u8))).T) (RW50))) (N : Nat) {s : St} {κ : Ex → St → Option (((Sh.sl (Sh.int .u8))).T)} {a : ((Sh.sl (Sh.int .u8))).T} (h : lpOf 0 H50_0 P50_0 Q50_0 (u50_0 N N) s κ = some a) : Out FT XT 0 (retc k50.res (Sh.sl (Sh.int .u8))) (loopN k50 0) s κ a := by
  rw [l50_0]
  exact loop_out (LP := W50_0 N) (fu := fuelC) hT hO (fun _ _ => rfl) (b50_0 N) loopOK_nil N h
def W50 (N : Nat) : LoopF (((Sh.sl (Sh.int .u8))).T) := fun no =>
  match no with
  | 0 => lpOf 0 H50_0 P50_0 Q50_0 (u50_0 N N)
  | _ => fun _ _ => none
theorem e50 (N : Nat) (a0 : Int) (a1 : Int) : evc (T50) (rawOf (RW50)) (W50 N) (retc k50.res (Sh.sl (Sh.int .u8))) (modeOf FT) 0 fuelC k50.body (env0 k50 (encL [(Sh.int .u64), (Sh.int .i64)] (a0, (a1, ()))), []) (endK (retc k50.res (Sh.sl (Sh.int .u8)))) = p50 N a0 a1 := by kernel_rfl
theorem ok50 {f : Int → Int → Option (List Int)} (hf : ∀ a0 a1 r, f a0 a1 = some r → ∃ N, p50 N a0 a1 = some r) : EntOK FT XT 50 (en50 f) := by
  have hT : TabOK FT XT (T50) := by
    intro g en hg
    unfold T50 at hg
    split at hg <;> first | (injection hg with hg; subst hg; assumption) | cases hg
  have hO : RawOK FT XT (rawOf (α := ((Sh.sl (Sh.int .u8))).T) (RW50)) := by
    refine rawOf_ok (fun g en hg => ?_)
    unfold RW50 at hg
    split at hg <;> simp only [List.mem_cons, List.not_mem_nil, or_false] at hg <;> first | (subst hg; assumption) | (rcases hg with rfl | rfl <;> assumption) | (rcases hg with rfl | rfl | rfl <;> assumption) | (rcases hg with rfl | rfl | rfl | rfl <;> assumption)
  refine ⟨rfl, fun v r h => ?_⟩
  obtain ⟨a0, a1, _⟩ := v
  obtain ⟨N, h1⟩ := hf _ _ _ h
  exact ans_c (R := (Sh.sl (Sh.int .u8))) (tab := T50) (raw := (rawOf (RW50))) (LP := W50 N) (fu := fuelC) hT hO rfl rfl (Nat.le_of_ble_eq_true rfl) (loopOK_cons l50_0 (fun s κ a h => o50_0 hT hO N h) loopOK_nil) ((e50 N _ _).trans h1)

def T51 : Nat → Option Ent
  | _ => none
def RW51 : Nat → List REnt
  | _ => []
def H51_0 : Trim := ⟨0, [], false, [0, 3, 4], []⟩
theorem l51_0 : loopN k51 0 = .loop H51_0 (bodyOf (loopN k51 0)) := by kernel_rfl
def P51_0 : Ps := ⟨[(0, (.tb (Sh.int .u8))), (2, .u), (3, (.int .u64)), (4, (.int .i64)), (8, .u)], []⟩
def Q51_0 : Nat → Ps
  | 0 => ⟨[(0, .u), (2, .u), (3, (.int .u64)), (4, .u), (8, .u)], []⟩
  | _ => noPs
def u51_0 (N n : Nat) (v : P51_0.T) (κ : (i : Nat) → (Q51_0 i).T → Option (((Sh.int .u64)).T)) : Option (((Sh.int .u64)).T) :=
  L51_0 N (fun (y0 : Int) => κ 0 (((), ((), (y0, ((), ((), ()))))), ())) n v.1.1 v.1.2.2.1 v.1.2.2.2.1
def W51_0 (N : Nat) : LoopF (((Sh.int .u64)).T) := fun no =>
  match no with
  | _ => fun _ _ => none
theorem b51_0 (N n : Nat) (v : P51_0.T) (κ : (i : Nat) → (Q51_0 i).T → Option (((Sh.int .u64)).T)) :
    evc (T51) (rawOf (RW51)) (W51_0 N) (retc k51.res (Sh.int .u64)) (modeOf FT) 0 fuelC (bodyOf (loopN k51 0)) (P51_0.st v) (roundK 0 H51_0 P51_0 Q51_0 (u51_0 N n) κ) = u51_0 N (n + 1) v κ := by kernel_rfl
theorem o51_0 (hT : TabOK FT XT (T51)) (hO : RawOK FT XT (rawOf (α := ((Sh.int .u64)).T) (RW51))) (N : Nat) {s : St} {κ : Ex → St → Option (((Sh.int .u64)).T)} {a : ((Sh.int .u64)).T} (h : lpOf 0 H51_0 P51_0 Q51_0 (u51_0 N N) s κ = some a) : Out FT XT 0 (retc k51.res (Sh.int .u64)) (loopN k51 0) s κ a := by
  rw [l51_0]
  exact loop_out (LP := W51_0 N) (fu := fuelC) hT hO (fun _ _ => rfl) (b51_0 N) loopOK_nil N h
def W51 (N : Nat) : LoopF (((Sh.int .u64)).T) := fun no =>
  match no with
  | 0 => lpOf 0 H51_0 P51_0 Q51_0 (u51_0 N N)
  | _ => fun _ _ => none
theorem e51 (N : Nat) (a0 : List Int) : evc (T51) (rawOf (RW51)) (W51 N) (retc k51.res (Sh.int .u64)) (modeOf FT) 0 fuelC k51.body (env0 k51 (encL [(Sh.sl (Sh.int .u8))] (a0, ())), []) (endK (retc k51.res (Sh.int .u64))) = p51 N a0 := by kernel_rfl
theorem ok51 {f : List Int → Option Int} (hf : ∀ a0 r, f a0 = some r → ∃ N, p51 N a0 = some r) : EntOK FT XT 51 (en51 f) := by
  have hT : TabOK FT XT (T51) := by
    intro g en hg
    unfold T51 at hg
    split at hg <;> first | (injection hg with hg; subst hg; assumption) | cases hg
  have hO : RawOK FT XT (rawOf (α := ((Sh.int .u64)).T) (RW51)) := by
    refine rawOf_ok (fun g en hg => ?_)
    unfold RW51 at hg
    split at hg <;> simp only [List.mem_cons, List.not_mem_nil, or_false] at hg <;> first | (subst hg; assumption) | (rcases hg with rfl | rfl <;> assumption) | (rcases hg with rfl | rfl | rfl <;> assumption) | (rcases hg with rfl | rfl | rfl | rfl <;> assumption)
  refine ⟨rfl, fun v r h => ?_⟩
  obtain ⟨a0, _⟩ := v
  obtain ⟨N, h1⟩ := hf _ _ h
  exact ans_c (R := (Sh.int .u64)) (tab := T51) (raw := (rawOf (RW51))) (LP := W51 N) (fu := fuelC) hT hO rfl rfl (Nat.le_of_ble_eq_true rfl) (loopOK_cons l51_0 (fun s κ a h => o51_0 hT hO N h) loopOK_nil) ((e51 N _).trans h1)

def T65 (c66 : List UInt8 → Int → Option Int) : Nat → Option Ent
  | 66 => some (en66 c66)
  | _ => none
def RW65 (c66 : List UInt8 → Int → Option Int) : Nat → List REnt
  | _ => []
def W65 (c66 : List UInt8 → Int → Option Int) (N : Nat) : LoopF (((Sh.int .i64)).T) := fun no =>
  match no with
  | _ => fun _ _ => none
theorem e65 (c66 : List UInt8 → Int → Option Int) (N : Nat) (a0 : List UInt8) (a1 : Int) : evc (T65 c66) (rawOf (RW65 c66)) (W65 c66 N) (retc k65.res (Sh.int .i64)) (modeOf FT) 0 fuelC k65.body (env0 k65 (encL [Sh.str, (Sh.int .u8)] (a0, (a1, ()))), []) (endK (retc k65.res (Sh.int .i64))) = p65 c66 N a0 a1 := by kernel_rfl
theorem ok65 (c66 : List UInt8 → Int → Option Int) (h66 : EntOK FT XT 66 (en66 c66)) {f : List UInt8 → Int → Option Int} (hf : ∀ a0 a1 r, f a0 a1 = some r → ∃ N, p65 c66 N a0 a1 = some r) : EntOK FT XT 65 (en65 f) := by
  have hT : TabOK FT XT (T65 c66) := by
    intro g en hg
    unfold T65 at hg
    split at hg <;> first | (injection hg with hg; subst hg; assumption) | cases hg
  have hO : RawOK FT XT (rawOf (α := ((Sh.int .i64)).T) (RW65 c66)) := by
    refine rawOf_ok (fun g en hg => ?_)
    unfold RW65 at hg
    split at hg <;> simp only [List.mem_cons, List.not_mem_nil, or_false] at hg <;> first | (subst hg; assumption) | (rcases hg with rfl | rfl <;> assumption) | (rcases hg with rfl | rfl | rfl <;> assumption) | (rcases hg with rfl | rfl | rfl | rfl <;> assumption)
  refine ⟨rfl, fun v r h => ?_⟩
  obtain ⟨a0, a1, _⟩ := v
  obtain ⟨N, h1⟩ := hf _ _ _ h
  exact ans_c (R := (Sh.int .i64)) (tab := T65 c66) (raw := (rawOf (RW65 c66))) (LP := W65 c66 N) (fu := fuelC) hT hO rfl rfl (Nat.le_of_ble_eq_true rfl) loopOK_nil ((e65 c66 N _ _).trans h1)

def T63 (c65 : List UInt8 → Int → Option Int) : Nat → Option Ent
  | 65 => some (en65 c65)
  | _ => none
def RW63 (c65 : List UInt8 → Int → Option Int) : Nat → List REnt
  | _ => []
def W63 (c65 : List UInt8 → Int → Option Int) (N : Nat) : LoopF (((Sh.int .i64)).T) := fun no =>
  match no with
  | _ => fun _ _ => none
theorem e63 (c65 : List UInt8 → Int → Option Int) (N : Nat) (a0 : List UInt8) (a1 : Int) : evc (T63 c65) (rawOf (RW63 c65)) (W63 c65 N) (retc k63.res (Sh.int .i64)) (modeOf FT) 0 fuelC k63.body (env0 k63 (encL [Sh.str, (Sh.int .u8)] (a0, (a1, ()))), []) (endK (retc k63.res (Sh.int .i64))) = p63 c65 N a0 a1 := by kernel_rfl
theorem ok63 (c65 : List UInt8 → Int → Option Int) (h65 : EntOK FT XT 65 (en65 c65)) {f : List UInt8 → Int → Option Int} (hf : ∀ a0 a1 r, f a0 a1 = some r → ∃ N, p63 c65 N a0 a1 = some r) : EntOK FT XT 63 (en63 f) := by
  have hT : TabOK FT XT (T63 c65) := by
    intro g en hg
    unfold T63 at hg
    split at hg <;> first | (injection hg with hg; subst hg; assumption) | cases hg
  have hO : RawOK FT XT (rawOf (α := ((Sh.int .i64)).T) (RW63 c65)) := by
    refine rawOf_ok (fun g en hg => ?_)
    unfold RW63 at hg
    split at hg <;> simp only [List.mem_cons, List.not_mem_nil, or_false] at hg <;> first | (subst hg; assumption) | (rcases hg with rfl | rfl <;> assumption) | (rcases hg with rfl | rfl | rfl <;> assumption) | (rcases hg with rfl | rfl | rfl | rfl <;> assumption)
  refine ⟨rfl, fun v r h => ?_⟩
  obtain ⟨a0, a1, _⟩ := v
  obtain ⟨N, h1⟩ := hf _ _ _ h
  exact ans_c (R := (Sh.int .i64)) (tab := T63 c65) (raw := (rawOf (RW63 c65))) (LP := W63 c65 N) (fu := fuelC) hT hO rfl rfl (Nat.le_of_ble_eq_true rfl) loopOK_nil ((e63 c65 N _ _).trans h1)

def T258 : Nat → Option Ent
  | _ => none
def RW258 : Nat → List REnt
  | _ => []
def W258 (N : Nat) : LoopF (((Sh.st (Sh.pr Sh.str (Sh.pr Sh.str (Sh.pr Sh.str (Sh.pr Sh.str (Sh.pr Sh.str (Sh.pr Sh.str (Sh.pr Sh.str Sh.str))))))))).T) := fun no =>
  match no with
  | _ => fun _ _ => none
theorem e258 (N : Nat)  : evc (T258) (rawOf (RW258)) (W258 N) (retc k258.res (Sh.st (Sh.pr Sh.str (Sh.pr Sh.str (Sh.pr Sh.str (Sh.pr Sh.str (Sh.pr Sh.str (Sh.pr Sh.str (Sh.pr Sh.str Sh.str))))))))) (modeOf FT) 0 fuelC k258.body (env0 k258 (encL [] ()), []) (endK (retc k258.res (Sh.st (Sh.pr Sh.str (Sh.pr Sh.str (Sh.pr Sh.str (Sh.pr Sh.str (Sh.pr Sh.str (Sh.pr Sh.str (Sh.pr Sh.str Sh.str)))))))))) = p258 N  := by kernel_rfl
theorem ok258 {f : Option ((List UInt8) × (List UInt8) × (List UInt8) × (List UInt8) × (List UInt8) × (List UInt8) × (List UInt8) × (List UInt8))} (hf : ∀  r, f  = some r → ∃ N, p258 N  = some r) : EntOK FT XT 258 (en258 f) := by
  have hT : TabOK FT XT (T258) := by
    intro g en hg
    unfold T258 at hg
    split at hg <;> first | (injection hg with hg; subst hg; assumption) | cases hg
  have hO : RawOK FT XT (rawOf (α := ((Sh.st (Sh.pr Sh.str (Sh.pr Sh.str (Sh.pr Sh.str (Sh.pr Sh.str (Sh.pr Sh.str (Sh.pr Sh.str (Sh.pr Sh.str Sh.str))))))))).T) (RW258)) := by
    refine rawOf_ok (fun g en hg => ?_)
    unfold RW258 at hg
    split at hg <;> simp only [List.mem_cons, List.not_mem_nil, or_false] at hg <;> first | (subst hg; assumption) | (rcases hg with rfl | rfl <;> assumption) | (rcases hg with rfl | rfl | rfl <;> assumption) | (rcases hg with rfl | rfl | rfl | rfl <;> assumption)
  refine ⟨rfl, fun v r h => ?_⟩
  obtain ⟨N, h1⟩ := hf _ h
  exact ans_c (R := (Sh.st (Sh.pr Sh.str (Sh.pr Sh.str (Sh.pr Sh.str (Sh.pr Sh.str (Sh.pr Sh.str (Sh.pr Sh.str (Sh.pr Sh.str Sh.str))))))))) (tab := T258) (raw := (rawOf (RW258))) (LP := W258 N) (fu := fuelC) hT hO rfl rfl (Nat.le_of_ble_eq_true rfl) loopOK_nil ((e258 N ).trans h1)

def T245 (c258 : Option ((List UInt8) × (List UInt8) × (List UInt8) × (List UInt8) × (List UInt8) × (List UInt8) × (List UInt8) × (List UInt8))) (c63 : List UInt8 → Int → Option Int) : Nat → Option Ent
  | 258 => some (en258 c258)
  | 63 => some (en63 c63)
  | _ => none
def RW245 (c258 : Option ((List UInt8) × (List UInt8) × (List UInt8) × (List UInt8) × (List UInt8) × (List UInt8) × (List UInt8) × (List UInt8))) (c63 : List UInt8 → Int → Option Int) : Nat → List REnt
  | _ => []
def W245 (c258 : Option ((List UInt8) × (List UInt8) × (List UInt8) × (List UInt8) × (List UInt8) × (List UInt8) × (List UInt8) × (List UInt8))) (c63 : List UInt8 → Int → Option Int) (N : Nat) : LoopF (((Sh.int .u64)).T) := fun no =>
  match no with
  | _ => fun _ _ => none
theorem e245 (c258 : Option ((List UInt8) × (List UInt8) × (List UInt8) × (List UInt8) × (List UInt8) × (List UInt8) × (List UInt8) × (List UInt8))) (c63 : List UInt8 → Int → Option Int) (N : Nat) (a0 : Int) (a1 : Int) : evc (T245 c258 c63) (rawOf (RW245 c258 c63)) (W245 c258 c63 N) (retc k245.res (Sh.int .u64)) (modeOf FT) 0 fuelC k245.body (env0 k245 (encL [(Sh.int .i64), (Sh.int .u64)] (a0, (a1, ()))), []) (endK (retc k245.res (Sh.int .u64))) = p245 c258 c63 N a0 a1 := by kernel_rfl
theorem ok245 (c258 : Option ((List UInt8) × (List UInt8) × (List UInt8) × (List UInt8) × (List UInt8) × (List UInt8) × (List UInt8) × (List UInt8))) (c63 : List UInt8 → Int → Option Int) (h258 : EntOK FT XT 258 (en258 c258)) (h63 : EntOK FT XT 63 (en63 c63)) {f : Int → Int → Option Int} (hf : ∀ a0 a1 r, f a0 a1 = some r → ∃ N, p245 c258 c63 N a0 a1 = some r) : EntOK FT XT 245 (en245 f) := by
  have hT : TabOK FT XT (T245 c258 c63) := by
    intro g en hg
    unfold T245 at hg
    split at hg <;> first | (injection hg with hg; subst hg; assumption) | cases hg
  have hO : RawOK FT XT (rawOf (α := ((Sh.int .u64)).T) (RW245 c258 c63)) := by
    refine rawOf_ok (fun g en hg => ?_)
    unfold RW245 at hg
    split at hg <;> simp only [List.mem_cons, List.not_mem_nil, or_false] at hg <;> first | (subst hg; assumption) | (rcases hg with rfl | rfl <;> assumption) | (rcases hg with rfl | rfl | rfl <;> assumption) | (rcases hg with rfl | rfl | rfl | rfl <;> assumption)
  refine ⟨rfl, fun v r h => ?_⟩
  obtain ⟨a0, a1, _⟩ := v
  obtain ⟨N, h1⟩ := hf _ _ _ h
  exact ans_c (R := (Sh.int .u64)) (tab := T245 c258 c63) (raw := (rawOf (RW245 c258 c63))) (LP := W245 c258 c63 N) (fu := fuelC) hT hO rfl rfl (Nat.le_of_ble_eq_true rfl) loopOK_nil ((e245 c258 c63 N _ _).trans h1)

def T271 : Nat → Option Ent
  | _ => none
def RW271 : Nat → List REnt
  | _ => []
def W271 (N : Nat) : LoopF (((Sh.sl (Sh.int .i64))).T) := fun no =>
  match no with
  | _ => fun _ _ => none
theorem e271 (N : Nat) (a0 : Int) : evc (T271) (rawOf (RW271)) (W271 N) (retc k271.res (Sh.sl (Sh.int .i64))) (modeOf FT) 0 fuelC k271.body (env0 k271 (encL [(Sh.int .i64)] (a0, ())), []) (endK (retc k271.res (Sh.sl (Sh.int .i64)))) = p271 N a0 := by kernel_rfl
theorem ok271 {f : Int → Option (List Int)} (hf : ∀ a0 r, f a0 = some r → ∃ N, p271 N a0 = some r) : EntOK FT XT 271 (en271 f) := by
  have hT : TabOK FT XT (T271) := by
    intro g en hg
    unfold T271 at hg
    split at hg <;> first | (injection hg with hg; subst hg; assumption) | cases hg
  have hO : RawOK FT XT (rawOf (α := ((Sh.sl (Sh.int .i64))).T) (RW271)) := by
    refine rawOf_ok (fun g en hg => ?_)
    unfold RW271 at hg
    split at hg <;> simp only [List.mem_cons, List.not_mem_nil, or_false] at hg <;> first | (subst hg; assumption) | (rcases hg with rfl | rfl <;> assumption) | (rcases hg with rfl | rfl | rfl <;> assumption) | (rcases hg with rfl | rfl | rfl | rfl <;> assumption)
  refine ⟨rfl, fun v r h => ?_⟩
  obtain ⟨a0, _⟩ := v
  obtain ⟨N, h1⟩ := hf _ _ h
  exact ans_c (R := (Sh.sl (Sh.int .i64))) (tab := T271) (raw := (rawOf (RW271))) (LP := W271 N) (fu := fuelC) hT hO rfl rfl (Nat.le_of_ble_eq_true rfl) loopOK_nil ((e271 N _).trans h1)

def T259 (c57 : List Int → Option Int) (c271 : Int → Option (List Int)) : Nat → Option Ent
  | 57 => some (en57 c57)
  | 271 => some (en271 c271)
  | _ => none
def RW259 (c57 : List Int → Option Int) (c271 : Int → Option (List Int)) : Nat → List REnt
  | _ => []
def W259 (c57 : List Int → Option Int) (c271 : Int → Option (List Int)) (N : Nat) : LoopF (((Sh.int .i64)).T) := fun no =>
  match no with
  | _ => fun _ _ => none
theorem e259 (c57 : List Int → Option Int) (c271 : Int → Option (List Int)) (N : Nat) (a0 : Int) (a1 : List Int) : evc (T259 c57 c271) (rawOf (RW259 c57 c271)) (W259 c57 c271 N) (retc k259.res (Sh.int .i64)) (modeOf FT) 0 fuelC k259.body (env0 k259 (encL [(Sh.int .i64), (Sh.sl (Sh.int .u8))] (a0, (a1, ()))), []) (endK (retc k259.res (Sh.int .i64))) = p259 c57 c271 N a0 a1 := by kernel_rfl
theorem ok259 (c57 : List Int → Option Int) (c271 : Int → Option (List Int)) (h57 : EntOK FT XT 57 (en57 c57)) (h271 : EntOK FT XT 271 (en271 c271)) {f : Int → List Int → Option Int} (hf : ∀ a0 a1 r, f a0 a1 = some r → ∃ N, p259 c57 c271 N a0 a1 = some r) : EntOK FT XT 259 (en259 f) := by
  have hT : TabOK FT XT (T259 c57 c271) := by
    intro g en hg
    unfold T259 at hg
    split at hg <;> first | (injection hg with hg; subst hg; assumption) | cases hg
  have hO : RawOK FT XT (rawOf (α := ((Sh.int .i64)).T) (RW259 c57 c271)) := by
    refine rawOf_ok (fun g en hg => ?_)
    unfold RW259 at hg
    split at hg <;> simp only [List.mem_cons, List.not_mem_nil, or_false] at hg <;> first | (subst hg; assumption) | (rcases hg with rfl | rfl <;> assumption) | (rcases hg with rfl | rfl | rfl <;> assumption) | (rcases hg with rfl | rfl | rfl | rfl <;> assumption)
  refine ⟨rfl, fun v r h => ?_⟩
  obtain ⟨a0, a1, _⟩ := v
  obtain ⟨N, h1⟩ := hf _ _ _ h
  exact ans_c (R := (Sh.int .i64)) (tab := T259 c57 c271) (raw := (rawOf (RW259 c57 c271))) (LP := W259 c57 c271 N) (fu := fuelC) hT hO rfl rfl (Nat.le_of_ble_eq_true rfl) loopOK_nil ((e259 c57 c271 N _ _).trans h1)

def T246 (c56 : Int → Int → Option (List Int)) (c259 : Int → List Int → Option Int) : Nat → Option Ent
  | 56 => some (en56 c56)
  | 259 => some (en259 c259)
  | _ => none
def RW246 (c56 : Int → Int → Option (List Int)) (c259 : Int → List Int → Option Int) : Nat → List REnt
  | _ => []
def W246 (c56 : Int → Int → Option (List Int)) (c259 : Int → List Int → Option Int) (N : Nat) : LoopF (((Sh.int .u64)).T) := fun no =>
  match no with
  | _ => fun _ _ => none
theorem e246 (c56 : Int → Int → Option (List Int)) (c259 : Int → List Int → Option Int) (N : Nat) (a0 : Int) (a1 : Int) : evc (T246 c56 c259) (rawOf (RW246 c56 c259)) (W246 c56 c259 N) (retc k246.res (Sh.int .u64)) (modeOf FT) 0 fuelC k246.body (env0 k246 (encL [(Sh.int .i64), (Sh.int .u64)] (a0, (a1, ()))), []) (endK (retc k246.res (Sh.int .u64))) = p246 c56 c259 N a0 a1 := by kernel_rfl
theorem ok246 (c56 : Int → Int → Option (List Int)) (c259 : Int → List Int → Option Int) (h56 : EntOK FT XT 56 (en56 c56)) (h259 : EntOK FT XT 259 (en259 c259)) {f : Int → Int → Option Int} (hf : ∀ a0 a1 r, f a0 a1 = some r → ∃ N, p246 c56 c259 N a0 a1 = some r) : EntOK FT XT 246 (en246 f) := by
  have hT : TabOK FT XT (T246 c56 c259) := by
    intro g en hg
    unfold T246 at hg
    split at hg <;> first | (injection hg with hg; subst hg; assumption) | cases hg
  have hO : RawOK FT XT (rawOf (α := ((Sh.int .u64)).T) (RW246 c56 c259)) := by
    refine rawOf_ok (fun g en hg => ?_)
    unfold RW246 at hg
    split at hg <;> simp only [List.mem_cons, List.not_mem_nil, or_false] at hg <;> first | (subst hg; assumption) | (rcases hg with rfl | rfl <;> assumption) | (rcases hg with rfl | rfl | rfl <;> assumption) | (rcases hg with rfl | rfl | rfl | rfl <;> assumption)
  refine ⟨rfl, fun v r h => ?_⟩
  obtain ⟨a0, a1, _⟩ := v
  obtain ⟨N, h1⟩ := hf _ _ _ h
  exact ans_c (R := (Sh.int .u64)) (tab := T246 c56 c259) (raw := (rawOf (RW246 c56 c259))) (LP := W246 c56 c259 N) (fu := fuelC) hT hO rfl rfl (Nat.le_of_ble_eq_true rfl) loopOK_nil ((e246 c56 c259 N _ _).trans h1)

def T272 : Nat → Option Ent
  | _ => none
def RW272 : Nat → List REnt
  | _ => []
def H272_0 : Trim := ⟨0, [], false, [1, 5, 6], [(5, (.ints .i64 []), 1)]⟩
theorem l272_0 : loopN k272 0 = .loop H272_0 (bodyOf (loopN k272 0)) := by kernel_rfl
def P272_0 : Ps := ⟨[(0, .u), (1, (.int .i64)), (4, .u), (5, (.sl 0 1)), (6, (.int .i64)), (10, .u)], [(.ints false .i64)]⟩
def Q272_0 : Nat → Ps
  | 0 => ⟨[(0, .u), (1, .u), (4, .u), (5, (.sl 0 1)), (6, .u), (10, .u)], [(.ints false .i64)]⟩
  | _ => noPs
def u272_0 (N n : Nat) (v : P272_0.T) (κ : (i : Nat) → (Q272_0 i).T → Option (((Sh.sl (Sh.int .i64))).T)) : Option (((Sh.sl (Sh.int .i64))).T) :=
  L272_0 N (fun (y0 : Nat) (y1 : List Int) => κ 0 (((), ((), ((), (y0, ((), ((), ())))))), (y1, ()))) n v.1.2.1 v.1.2.2.2.1 v.1.2.2.2.2.1 v.2.1
def W272_0 (N : Nat) : LoopF (((Sh.sl (Sh.int .i64))).T) := fun no =>
  match no with
  | _ => fun _ _ => none
theorem b272_0 (N n : Nat) (v : P272_0.T) (κ : (i : Nat) → (Q272_0 i).T → Option (((Sh.sl (Sh.int .i64))).T)) :
    evc (T272) (rawOf (RW272)) (W272_0 N) (retc k272.res (Sh.sl (Sh.int .i64))) (modeOf FT) 0 fuelC (bodyOf (loopN k272 0)) (P272_0.st v) (roundK 0 H272_0 P272_0 Q272_0 (u272_0 N n) κ) = u272_0 N (n + 1) v κ := by kernel_rfl
theorem o272_0 (hT : TabOK FT XT (T272)) (hO : RawOK FT XT (rawOf (α := ((Sh.sl (Sh.int .i64))).T) (RW272))) (N : Nat) {s : St} {κ : Ex → St → Option (((Sh.sl (Sh.int .i64))).T)} {a : ((Sh.sl (Sh.int .i64))).T} (h : lpOf 0 H272_0 P272_0 Q272_0 (u272_0 N N) s κ = some a) : Out FT XT 0 (retc k272.res (Sh.sl (Sh.int .i64))) (loopN k272 0) s κ a := by
  rw [l272_0]
  exact loop_out (LP := W272_0 N) (fu := fuelC) hT hO (fun _ _ => rfl) (b272_0 N) loopOK_nil N h
def W272 (N : Nat) : LoopF (((Sh.sl (Sh.int .i64))).T) := fun no =>
  match no with
  | 0 => lpOf 0 H272_0 P272_0 Q272_0 (u272_0 N N)
  | _ => fun _ _ => none
theorem e272 (N : Nat) (a0 : Int) (a1 : Int) : evc (T272) (rawOf (RW272)) (W272 N) (retc k272.res (Sh.sl (Sh.int .i64))) (modeOf FT) 0 fuelC k272.body (env0 k272 (encL [(Sh.int .i64), (Sh.int .i64)] (a0, (a1, ()))), []) (endK (retc k272.res (Sh.sl (Sh.int .i64)))) = p272 N a0 a1 := by kernel_rfl
theorem ok272 {f : Int → Int → Option (List Int)} (hf : ∀ a0 a1 r, f a0 a1 = some r → ∃ N, p272 N a0 a1 = some r) : EntOK FT XT 272 (en272 f) := by
  have hT : TabOK FT XT (T272) := by
    intro g en hg
    unfold T272 at hg
    split at hg <;> first | (injection hg with hg; subst hg; assumption) | cases hg
  have hO : RawOK FT XT (rawOf (α := ((Sh.sl (Sh.int .i64))).T) (RW272)) := by
    refine rawOf_ok (fun g en hg => ?_)
    unfold RW272 at hg
    split at hg <;> simp only [List.mem_cons, List.not_mem_nil, or_false] at hg <;> first | (subst hg; assumption) | (rcases hg with rfl | rfl <;> assumption) | (rcases hg with rfl | rfl | rfl <;> assumption) | (rcases hg with rfl | rfl | rfl | rfl <;> assumption)
  refine ⟨rfl, fun v r h => ?_⟩
  obtain ⟨a0, a1, _⟩ := v
  obtain ⟨N, h1⟩ := hf _ _ _ h
  exact ans_c (R := (Sh.sl (Sh.int .i64))) (tab := T272) (raw := (rawOf (RW272))) (LP := W272 N) (fu := fuelC) hT hO rfl rfl (Nat.le_of_ble_eq_true rfl) (loopOK_cons l272_0 (fun s κ a h => o272_0 hT hO N h) loopOK_nil) ((e272 N _ _).trans h1)

def T261 (c272 : Int → Int → Option (List Int)) (c2 : List (List Int) → Option (List Int)) : Nat → Option Ent
  | 272 => some (en272 c272)
  | 2 => some (en2 c2)
  | _ => none
def RW261 (c272 : Int → Int → Option (List Int)) (c2 : List (List Int) → Option (List Int)) : Nat → List REnt
  | _ => []
def W261 (c272 : Int → Int → Option (List Int)) (c2 : List (List Int) → Option (List Int)) (N : Nat) : LoopF (((Sh.sl (Sh.int .i64))).T) := fun no =>
  match no with
  | _ => fun _ _ => none
theorem e261 (c272 : Int → Int → Option (List Int)) (c2 : List (List Int) → Option (List Int)) (N : Nat)  : evc (T261 c272 c2) (rawOf (RW261 c272 c2)) (W261 c272 c2 N) (retc k261.res (Sh.sl (Sh.int .i64))) (modeOf FT) 0 fuelC k261.body (env0 k261 (encL [] ()), []) (endK (retc k261.res (Sh.sl (Sh.int .i64)))) = p261 c272 c2 N  := by kernel_rfl
theorem ok261 (c272 : Int → Int → Option (List Int)) (c2 : List (List Int) → Option (List Int)) (h272 : EntOK FT XT 272 (en272 c272)) (h2 : EntOK FT XT 2 (en2 c2)) {f : Option (List Int)} (hf : ∀  r, f  = some r → ∃ N, p261 c272 c2 N  = some r) : EntOK FT XT 261 (en261 f) := by
  have hT : TabOK FT XT (T261 c272 c2) := by
    intro g en hg
    unfold T261 at hg
    split at hg <;> first | (injection hg with hg; subst hg; assumption) | cases hg
  have hO : RawOK FT XT (rawOf (α := ((Sh.sl (Sh.int .i64))).T) (RW261 c272 c2)) := by
    refine rawOf_ok (fun g en hg => ?_)
    unfold RW261 at hg
    split at hg <;> simp only [List.mem_cons, List.not_mem_nil, or_false] at hg <;> first | (subst hg; assumption) | (rcases hg with rfl | rfl <;> assumption) | (rcases hg with rfl | rfl | rfl <;> assumption) | (rcases hg with rfl | rfl | rfl | rfl <;> assumption)
  refine ⟨rfl, fun v r h => ?_⟩
  obtain ⟨N, h1⟩ := hf _ h
  exact ans_c (R := (Sh.sl (Sh.int .i64))) (tab := T261 c272 c2) (raw := (rawOf (RW261 c272 c2))) (LP := W261 c272 c2 N) (fu := fuelC) hT hO rfl rfl (Nat.le_of_ble_eq_true rfl) loopOK_nil ((e261 c272 c2 N ).trans h1)

def T260 (c27 : Int → Int → List Int → Option (Int × Int)) : Nat → Option Ent
  | 27 => some (en27 c27)
  | _ => none
def RW260 (c27 : Int → Int → List Int → Option (Int × Int)) : Nat → List REnt
  | _ => []
def W260 (c27 : Int → Int → List Int → Option (Int × Int)) (N : Nat) : LoopF (((Sh.int .u64)).T) := fun no =>
  match no with
  | _ => fun _ _ => none
theorem e260 (c27 : Int → Int → List Int → Option (Int × Int)) (N : Nat) (a0 : Int) (a1 : Int) (a2 : List Int) : evc (T260 c27) (rawOf (RW260 c27)) (W260 c27 N) (retc k260.res (Sh.int .u64)) (modeOf FT) 0 fuelC k260.body (env0 k260 (encL [(Sh.int .u64), (Sh.int .i64), (Sh.sl (Sh.int .i64))] (a0, (a1, (a2, ())))), []) (endK (retc k260.res (Sh.int .u64))) = p260 c27 N a0 a1 a2 := by kernel_rfl
theorem ok260 (c27 : Int → Int → List Int → Option (Int × Int)) (h27 : EntOK FT XT 27 (en27 c27)) {f : Int → Int → List Int → Option Int} (hf : ∀ a0 a1 a2 r, f a0 a1 a2 = some r → ∃ N, p260 c27 N a0 a1 a2 = some r) : EntOK FT XT 260 (en260 f) := by
  have hT : TabOK FT XT (T260 c27) := by
    intro g en hg
    unfold T260 at hg
    split at hg <;> first | (injection hg with hg; subst hg; assumption) | cases hg
  have hO : RawOK FT XT (rawOf (α := ((Sh.int .u64)).T) (RW260 c27)) := by
    refine rawOf_ok (fun g en hg => ?_)
    unfold RW260 at hg
    split at hg <;> simp only [List.mem_cons, List.not_mem_nil, or_false] at hg <;> first | (subst hg; assumption) | (rcases hg with rfl | rfl <;> assumption) | (rcases hg with rfl | rfl | rfl <;> assumption) | (rcases hg with rfl | rfl | rfl | rfl <;> assumption)
  refine ⟨rfl, fun v r h => ?_⟩
  obtain ⟨a0, a1, a2, _⟩ := v
  obtain ⟨N, h1⟩ := hf _ _ _ _ h
  exact ans_c (R := (Sh.int .u64)) (tab := T260 c27) (raw := (rawOf (RW260 c27))) (LP := W260 c27 N) (fu := fuelC) hT hO rfl rfl (Nat.le_of_ble_eq_true rfl) loopOK_nil ((e260 c27 N _ _ _).trans h1)

def T262 : Nat → Option Ent
  | _ => none
def RW262 : Nat → List REnt
  | _ => []
def W262 (N : Nat) : LoopF (((Sh.int .i64)).T) := fun no =>
  match no with
  | _ => fun _ _ => none
theorem e262 (N : Nat) (a0 : Int) : evc (T262) (rawOf (RW262)) (W262 N) (retc k262.res (Sh.int .i64)) (modeOf FT) 0 fuelC k262.body (env0 k262 (encL [(Sh.int .i64)] (a0, ())), []) (endK (retc k262.res (Sh.int .i64))) = p262 N a0 := by kernel_rfl
theorem ok262 {f : Int → Option Int} (hf : ∀ a0 r, f a0 = some r → ∃ N, p262 N a0 = some r) : EntOK FT XT 262 (en262 f) := by
  have hT : TabOK FT XT (T262) := by
    intro g en hg
    unfold T262 at hg
    split at hg <;> first | (injection hg with hg; subst hg; assumption) | cases hg
  have hO : RawOK FT XT (rawOf (α := ((Sh.int .i64)).T) (RW262)) := by
    refine rawOf_ok (fun g en hg => ?_)
    unfold RW262 at hg
    split at hg <;> simp only [List.mem_cons, List.not_mem_nil, or_false] at hg <;> first | (subst hg; assumption) | (rcases hg with rfl | rfl <;> assumption) | (rcases hg with rfl | rfl | rfl <;> assumption) | (rcases hg with rfl | rfl | rfl | rfl <;> assumption)
  refine ⟨rfl, fun v r h => ?_⟩
  obtain ⟨a0, _⟩ := v
  obtain ⟨N, h1⟩ := hf _ _ h
  exact ans_c (R := (Sh.int .i64)) (tab := T262) (raw := (rawOf (RW262))) (LP := W262 N) (fu := fuelC) hT hO rfl rfl (Nat.le_of_ble_eq_true rfl) loopOK_nil ((e262 N _).trans h1)

def T263 : Nat → Option Ent
  | _ => none
def RW263 : Nat → List REnt
  | _ => []
def W263 (N : Nat) : LoopF (((Sh.sl (Sh.int .i64))).T) := fun no =>
  match no with
  | _ => fun _ _ => none
theorem e263 (N : Nat)  : evc (T263) (rawOf (RW263)) (W263 N) (retc k263.res (Sh.sl (Sh.int .i64))) (modeOf FT) 0 fuelC k263.body (env0 k263 (encL [] ()), []) (endK (retc k263.res (Sh.sl (Sh.int .i64)))) = p263 N  := by kernel_rfl
theorem ok263 {f : Option (List Int)} (hf : ∀  r, f  = some r → ∃ N, p263 N  = some r) : EntOK FT XT 263 (en263 f) := by
  have hT : TabOK FT XT (T263) := by
    intro g en hg
    unfold T263 at hg
    split at hg <;> first | (injection hg with hg; subst hg; assumption) | cases hg
  have hO : RawOK FT XT (rawOf (α := ((Sh.sl (Sh.int .i64))).T) (RW263)) := by
    refine rawOf_ok (fun g en hg => ?_)
    unfold RW263 at hg
    split at hg <;> simp only [List.mem_cons, List.not_mem_nil, or_false] at hg <;> first | (subst hg; assumption) | (rcases hg with rfl | rfl <;> assumption) | (rcases hg with rfl | rfl | rfl <;> assumption) | (rcases hg with rfl | rfl | rfl | rfl <;> assumption)
  refine ⟨rfl, fun v r h => ?_⟩
  obtain ⟨N, h1⟩ := hf _ h
  exact ans_c (R := (Sh.sl (Sh.int .i64))) (tab := T263) (raw := (rawOf (RW263))) (LP := W263 N) (fu := fuelC) hT hO rfl rfl (Nat.le_of_ble_eq_true rfl) loopOK_nil ((e263 N ).trans h1)

def T247 (c261 : Option (List Int)) (c260 : Int → Int → List Int → Option Int) (c31 : Int → Int → Int → Option (Int × Int × Int)) (c262 : Int → Option Int) (c29 : Int → Int → Int → Option (Int × Int)) (c263 : Option (List Int)) : Nat → Option Ent
  | 261 => some (en261 c261)
  | 260 => some (en260 c260)
  | 31 => some (en31 c31)
  | 262 => some (en262 c262)
  | 29 => some (en29 c29)
  | 263 => some (en263 c263)
  | _ => none
def RW247 (c261 : Option (List Int)) (c260 : Int → Int → List Int → Option Int) (c31 : Int → Int → Int → Option (Int × Int × Int)) (c262 : Int → Option Int) (c29 : Int → Int → Int → Option (Int × Int)) (c263 : Option (List Int)) : Nat → List REnt
  | _ => []
def H247_0 : Trim := ⟨0, [], false, [2, 3, 4, 5, 16], []⟩
theorem l247_0 : loopN k247 0 = .loop H247_0 (bodyOf (loopN k247 0)) := by kernel_rfl
def P247_0 : Ps := ⟨[(0, .u), (2, (.ptr 0 0)), (3, (.ptr 1 0)), (4, (.int .u64)), (5, (.int .u64)), (7, .u), (16, (.int .i64)), (17, .u)], [(.ints false .u64), (.ints false .u64)]⟩
def Q247_0 : Nat → Ps
  | 0 => ⟨[(0, .u), (2, (.ptr 0 0)), (3, (.ptr 1 0)), (4, .u), (5, .u), (7, .u), (16, .u), (17, .u)], [(.ints false .u64), (.ints false .u64)]⟩
  | _ => noPs
def u247_0 (c261 : Option (List Int)) (c260 : Int → Int → List Int → Option Int) (c31 : Int → Int → Int → Option (Int × Int × Int)) (c262 : Int → Option Int) (c29 : Int → Int → Int → Option (Int × Int)) (c263 : Option (List Int)) (N n : Nat) (v : P247_0.T) (κ : (i : Nat) → (Q247_0 i).T → Option (((Sh.ar .u64)).T)) : Option (((Sh.ar .u64)).T) :=
  L247_0 c261 c260 c31 c262 c29 c263 N (fun (y0 : List Int) (y1 : List Int) => κ 0 (((), ((), ((), ((), ((), ((), ((), ((), ())))))))), (y0, (y1, ())))) n v.1.2.2.2.1 v.1.2.2.2.2.1 v.1.2.2.2.2.2.2.1 v.2.1 v.2.2.1
def W247_0 (c261 : Option (List Int)) (c260 : Int → Int → List Int → Option Int) (c31 : Int → Int → Int → Option (Int × Int × Int)) (c262 : Int → Option Int) (c29 : Int → Int → Int → Option (Int × Int)) (c263 : Option (List Int)) (N : Nat) : LoopF (((Sh.ar .u64)).T) := fun no =>
  match no with
  | _ => fun _ _ => none
theorem b247_0 (c261 : Option (List Int)) (c260 : Int → Int → List Int → Option Int) (c31 : Int → Int → Int → Option (Int × Int × Int)) (c262 : Int → Option Int) (c29 : Int → Int → Int → Option (Int × Int)) (c263 : Option (List Int)) (N n : Nat) (v : P247_0.T) (κ : (i : Nat) → (Q247_0 i).T → Option (((Sh.ar .u64)).T)) :
    evc (T247 c261 c260 c31 c262 c29 c263) (rawOf (RW247 c261 c260 c31 c262 c29 c263)) (W247_0 c261 c260 c31 c262 c29 c263 N) (retc k247.res (Sh.ar .u64)) (modeOf FT) 0 fuelC (bodyOf (loopN k247 0)) (P247_0.st v) (roundK 0 H247_0 P247_0 Q247_0 (u247_0 c261 c260 c31 c262 c29 c263 N n) κ) = u247_0 c261 c260 c31 c262 c29 c263 N (n + 1) v κ := by kernel_rfl
theorem o247_0 (c261 : Option (List Int)) (c260 : Int → Int → List Int → Option Int) (c31 : Int → Int → Int → Option (Int × Int × Int)) (c262 : Int → Option Int) (c29 : Int → Int → Int → Option (Int × Int)) (c263 : Option (List Int)) (hT : TabOK FT XT (T247 c261 c260 c31 c262 c29 c263)) (hO : RawOK FT XT (rawOf (α := ((Sh.ar .u64)).T) (RW247 c261 c260 c31 c262 c29 c263))) (N : Nat) {s : St} {κ : Ex → St → Option (((Sh.ar .u64)).T)} {a : ((Sh.ar .u64)).T} (h : lpOf 0 H247_0 P247_0 Q247_0 (u247_0 c261 c260 c31 c262 c29 c263 N N) s κ = some a) : Out FT XT 0 (retc k247.res (Sh.ar .u64)) (loopN k247 0) s κ a := by
  rw [l247_0]
  exact loop_out (LP := W247_0 c261 c260 c31 c262 c29 c263 N) (fu := fuelC) hT hO (fun _ _ => rfl) (b247_0 c261 c260 c31 c262 c29 c263 N) loopOK_nil N h
def W247 (c261 : Option (List Int)) (c260 : Int → Int → List Int → Option Int) (c31 : Int → Int → Int → Option (Int × Int × Int)) (c262 : Int → Option Int) (c29 : Int → Int → Int → Option (Int × Int)) (c263 : Option (List Int)) (N : Nat) : LoopF (((Sh.ar .u64)).T) := fun no =>
  match no with
  | 0 => lpOf 0 H247_0 P247_0 Q247_0 (u247_0 c261 c260 c31 c262 c29 c263 N N)
  | _ => fun _ _ => none
theorem e247 (c261 : Option (List Int)) (c260 : Int → Int → List Int → Option Int) (c31 : Int → Int → Int → Option (Int × Int × Int)) (c262 : Int → Option Int) (c29 : Int → Int → Int → Option (Int × Int)) (c263 : Option (List Int)) (N : Nat) (a0 : Int) : evc (T247 c261 c260 c31 c262 c29 c263) (rawOf (RW247 c261 c260 c31 c262 c29 c263)) (W247 c261 c260 c31 c262 c29 c263 N) (retc k247.res (Sh.ar .u64)) (modeOf FT) 0 fuelC k247.body (env0 k247 (encL [(Sh.int .u64)] (a0, ())), []) (endK (retc k247.res (Sh.ar .u64))) = p247 c261 c260 c31 c262 c29 c263 N a0 := by kernel_rfl
theorem ok247 (c261 : Option (List Int)) (c260 : Int → Int → List Int → Option Int) (c31 : Int → Int → Int → Option (Int × Int × Int)) (c262 : Int → Option Int) (c29 : Int → Int → Int → Option (Int × Int)) (c263 : Option (List Int)) (h261 : EntOK FT XT 261 (en261 c261)) (h260 : EntOK FT XT 260 (en260 c260)) (h31 : EntOK FT XT 31 (en31 c31)) (h262 : EntOK FT XT 262 (en262 c262)) (h29 : EntOK FT XT 29 (en29 c29)) (h263 : EntOK FT XT 263 (en263 c263)) {f : Int → Option (List Int)} (hf : ∀ a0 r, f a0 = some r → ∃ N, p247 c261 c260 c31 c262 c29 c263 N a0 = some r) : EntOK FT XT 247 (en247 f) := by
  have hT : TabOK FT XT (T247 c261 c260 c31 c262 c29 c263) := by
    intro g en hg
    unfold T247 at hg
    split at hg <;> first | (injection hg with hg; subst hg; assumption) | cases hg
  have hO : RawOK FT XT (rawOf (α := ((Sh.ar .u64)).T) (RW247 c261 c260 c31 c262 c29 c263)) := by
    refine rawOf_ok (fun g en hg => ?_)
    unfold RW247 at hg
    split at hg <;> simp only [List.mem_cons, List.not_mem_nil, or_false] at hg <;> first | (subst hg; assumption) | (rcases hg with rfl | rfl <;> assumption) | (rcases hg with rfl | rfl | rfl <;> assumption) | (rcases hg with rfl | rfl | rfl | rfl <;> assumption)
  refine ⟨rfl, fun v r h => ?_⟩
  obtain ⟨a0, _⟩ := v
  obtain ⟨N, h1⟩ := hf _ _ h
  exact ans_c (R := (Sh.ar .u64)) (tab := T247 c261 c260 c31 c262 c29 c263) (raw := (rawOf (RW247 c261 c260 c31 c262 c29 c263))) (LP := W247 c261 c260 c31 c262 c29 c263 N) (fu := fuelC) hT hO rfl rfl (Nat.le_of_ble_eq_true rfl) (loopOK_cons l247_0 (fun s κ a h => o247_0 c261 c260 c31 c262 c29 c263 hT hO N h) loopOK_nil) ((e247 c261 c260 c31 c262 c29 c263 N _).trans h1)

def T274 : Nat → Option Ent
  | _ => none
def RW274 : Nat → List REnt
  | _ => []
def W274 (N : Nat) : LoopF (((Sh.sl (Sh.int .i64))).T) := fun no =>
  match no with
  | _ => fun _ _ => none
theorem e274 (N : Nat)  : evc (T274) (rawOf (RW274)) (W274 N) (retc k274.res (Sh.sl (Sh.int .i64))) (modeOf FT) 0 fuelC k274.body (env0 k274 (encL [] ()), []) (endK (retc k274.res (Sh.sl (Sh.int .i64)))) = p274 N  := by kernel_rfl
theorem ok274 {f : Option (List Int)} (hf : ∀  r, f  = some r → ∃ N, p274 N  = some r) : EntOK FT XT 274 (en274 f) := by
  have hT : TabOK FT XT (T274) := by
    intro g en hg
    unfold T274 at hg
    split at hg <;> first | (injection hg with hg; subst hg; assumption) | cases hg
  have hO : RawOK FT XT (rawOf (α := ((Sh.sl (Sh.int .i64))).T) (RW274)) := by
    refine rawOf_ok (fun g en hg => ?_)
    unfold RW274 at hg
    split at hg <;> simp only [List.mem_cons, List.not_mem_nil, or_false] at hg <;> first | (subst hg; assumption) | (rcases hg with rfl | rfl <;> assumption) | (rcases hg with rfl | rfl | rfl <;> assumption) | (rcases hg with rfl | rfl | rfl | rfl <;> assumption)
  refine ⟨rfl, fun v r h => ?_⟩
  obtain ⟨N, h1⟩ := hf _ h
  exact ans_c (R := (Sh.sl (Sh.int .i64))) (tab := T274) (raw := (rawOf (RW274))) (LP := W274 N) (fu := fuelC) hT hO rfl rfl (Nat.le_of_ble_eq_true rfl) loopOK_nil ((e274 N ).trans h1)

def T273 : Nat → Option Ent
  | _ => none
def RW273 : Nat → List REnt
  | _ => []
def H273_0 : Trim := ⟨0, [], false, [0, 1, 5, 6], [(5, (.ints .u8 []), 1)]⟩
theorem l273_0 : loopN k273 0 = .loop H273_0 (bodyOf (loopN k273 0)) := by kernel_rfl
def P273_0 : Ps := ⟨[(0, (.tb (Sh.int .u8))), (1, (.tb (Sh.int .i64))), (4, .u), (5, (.sl 0 1)), (6, (.int .i64)), (10, .u)], [(.ints false .u8)]⟩
def Q273_0 : Nat → Ps
  | 0 => ⟨[(0, .u), (1, .u), (4, .u), (5, (.sl 0 1)), (6, .u), (10, .u)], [(.ints false .u8)]⟩
  | _ => noPs
def u273_0 (N n : Nat) (v : P273_0.T) (κ : (i : Nat) → (Q273_0 i).T → Option (((Sh.sl (Sh.int .u8))).T)) : Option (((Sh.sl (Sh.int .u8))).T) :=
  L273_0 N (fun (y0 : Nat) (y1 : List Int) => κ 0 (((), ((), ((), (y0, ((), ((), ())))))), (y1, ()))) n v.1.1 v.1.2.1 v.1.2.2.2.1 v.1.2.2.2.2.1 v.2.1
def W273_0 (N : Nat) : LoopF (((Sh.sl (Sh.int .u8))).T) := fun no =>
  match no with
  | _ => fun _ _ => none
theorem b273_0 (N n : Nat) (v : P273_0.T) (κ : (i : Nat) → (Q273_0 i).T → Option (((Sh.sl (Sh.int .u8))).T)) :
    evc (T273) (rawOf (RW273)) (W273_0 N) (retc k273.res (Sh.sl (Sh.int .u8))) (modeOf FT) 0 fuelC (bodyOf (loopN k273 0)) (P273_0.st v) (roundK 0 H273_0 P273_0 Q273_0 (u273_0 N n) κ) = u273_0 N (n + 1) v κ := by kernel_rfl
theorem o273_0 (hT : TabOK FT XT (T273)) (hO : RawOK FT XT (rawOf (α := ((Sh.sl (Sh.int .u8))).T) (RW273))) (N : Nat) {s : St} {κ : Ex → St → Option (((Sh.sl (Sh.int .u8))).T)} {a : ((Sh.sl (Sh.int .u8))).T} (h : lpOf 0 H273_0 P273_0 Q273_0 (u273_0 N N) s κ = some a) : Out FT XT 0 (retc k273.res (Sh.sl (Sh.int .u8))) (loopN k273 0) s κ a := by
  rw [l273_0]
  exact loop_out (LP := W273_0 N) (fu := fuelC) hT hO (fun _ _ => rfl) (b273_0 N) loopOK_nil N h
def W273 (N : Nat) : LoopF (((Sh.sl (Sh.int .u8))).T) := fun no =>
  match no with
  | 0 => lpOf 0 H273_0 P273_0 Q273_0 (u273_0 N N)
  | _ => fun _ _ => none
theorem e273 (N : Nat) (a0 : List Int) (a1 : List Int) : evc (T273) (rawOf (RW273)) (W273 N) (retc k273.res (Sh.sl (Sh.int .u8))) (modeOf FT) 0 fuelC k273.body (env0 k273 (encL [(Sh.sl (Sh.int .u8)), (Sh.sl (Sh.int .i64))] (a0, (a1, ()))), []) (endK (retc k273.res (Sh.sl (Sh.int .u8)))) = p273 N a0 a1 := by kernel_rfl
theorem ok273 {f : List Int → List Int → Option (List Int)} (hf : ∀ a0 a1 r, f a0 a1 = some r → ∃ N, p273 N a0 a1 = some r) : EntOK FT XT 273 (en273 f) := by
  have hT : TabOK FT XT (T273) := by
    intro g en hg
    unfold T273 at hg
    split at hg <;> first | (injection hg with hg; subst hg; assumption) | cases hg
  have hO : RawOK FT XT (rawOf (α := ((Sh.sl (Sh.int .u8))).T) (RW273)) := by
    refine rawOf_ok (fun g en hg => ?_)
    unfold RW273 at hg
    split at hg <;> simp only [List.mem_cons, List.not_mem_nil, or_false] at hg <;> first | (subst hg; assumption) | (rcases hg with rfl | rfl <;> assumption) | (rcases hg with rfl | rfl | rfl <;> assumption) | (rcases hg with rfl | rfl | rfl | rfl <;> assumption)
  refine ⟨rfl, fun v r h => ?_⟩
  obtain ⟨a0, a1, _⟩ := v
  obtain ⟨N, h1⟩ := hf _ _ _ h
  exact ans_c (R := (Sh.sl (Sh.int .u8))) (tab := T273) (raw := (rawOf (RW273))) (LP := W273 N) (fu := fuelC) hT hO rfl rfl (Nat.le_of_ble_eq_true rfl) (loopOK_cons l273_0 (fun s κ a h => o273_0 hT hO N h) loopOK_nil) ((e273 N _ _).trans h1)

def T275 : Nat → Option Ent
  | _ => none
def RW275 : Nat → List REnt
  | _ => []
def W275 (N : Nat) : LoopF (((Sh.sl (Sh.int .i64))).T) := fun no =>
  match no with
  | _ => fun _ _ => none
theorem e275 (N : Nat)  : evc (T275) (rawOf (RW275)) (W275 N) (retc k275.res (Sh.sl (Sh.int .i64))) (modeOf FT) 0 fuelC k275.body (env0 k275 (encL [] ()), []) (endK (retc k275.res (Sh.sl (Sh.int .i64)))) = p275 N  := by kernel_rfl
theorem ok275 {f : Option (List Int)} (hf : ∀  r, f  = some r → ∃ N, p275 N  = some r) : EntOK FT XT 275 (en275 f) := by
  have hT : TabOK FT XT (T275) := by
    intro g en hg
    unfold T275 at hg
    split at hg <;> first | (injection hg with hg; subst hg; assumption) | cases hg
  have hO : RawOK FT XT (rawOf (α := ((Sh.sl (Sh.int .i64))).T) (RW275)) := by
    refine rawOf_ok (fun g en hg => ?_)
    unfold RW275 at hg
    split at hg <;> simp only [List.mem_cons, List.not_mem_nil, or_false] at hg <;> first | (subst hg; assumption) | (rcases hg with rfl | rfl <;> assumption) | (rcases hg with rfl | rfl | rfl <;> assumption) | (rcases hg with rfl | rfl | rfl | rfl <;> assumption)
  refine ⟨rfl, fun v r h => ?_⟩
  obtain ⟨N, h1⟩ := hf _ h
  exact ans_c (R := (Sh.sl (Sh.int .i64))) (tab := T275) (raw := (rawOf (RW275))) (LP := W275 N) (fu := fuelC) hT hO rfl rfl (Nat.le_of_ble_eq_true rfl) loopOK_nil ((e275 N ).trans h1)

def T264 (c56 : Int → Int → Option (List Int)) (c274 : Option (List Int)) (c273 : List Int → List Int → Option (List Int)) (c275 : Option (List Int)) : Nat → Option Ent
  | 56 => some (en56 c56)
  | 274 => some (en274 c274)
  | 273 => some (en273 c273)
  | 275 => some (en275 c275)
  | _ => none
def RW264 (c56 : Int → Int → Option (List Int)) (c274 : Option (List Int)) (c273 : List Int → List Int → Option (List Int)) (c275 : Option (List Int)) : Nat → List REnt
  | _ => []
def H264_0 : Trim := ⟨0, [(4, (Sh.sl (Sh.int .u8))), (5, (Sh.sl (Sh.int .u8)))], false, [4, 5, 6, 7], [(6, (.imm []), 1)]⟩
theorem l264_0 : loopN k264 0 = .loop H264_0 (bodyOf (loopN k264 0)) := by kernel_rfl
def P264_0 : Ps := ⟨[(0, .u), (2, .u), (3, .u), (4, (.tb (Sh.int .u8))), (5, (.tb (Sh.int .u8))), (6, (.sl 0 1)), (7, (.int .i64)), (8, .u), (18, .u), (34, .u)], [(.imm false)]⟩
def Q264_0 : Nat → Ps
  | 0 => ⟨[(0, .u), (2, .u), (3, .u), (4, .u), (5, .u), (6, (.sl 0 1)), (7, .u), (8, .u), (18, .u), (34, .u)], [(.imm false)]⟩
  | _ => noPs
def u264_0 (c56 : Int → Int → Option (List Int)) (c274 : Option (List Int)) (c273 : List Int → List Int → Option (List Int)) (c275 : Option (List Int)) (N n : Nat) (v : P264_0.T) (κ : (i : Nat) → (Q264_0 i).T → Option (((Sh.sl (Sh.sl (Sh.int .u8)))).T)) : Option (((Sh.sl (Sh.sl (Sh.int .u8)))).T) :=
  L264_0 c56 c274 c273 c275 N (fun (y0 : Nat) (y1 : List V) => κ 0 (((), ((), ((), ((), ((), (y0, ((), ((), ((), ((), ())))))))))), (y1, ()))) n v.1.2.2.2.1 v.1.2.2.2.2.1 v.1.2.2.2.2.2.1 v.1.2.2.2.2.2.2.1 v.2.1
def W264_0 (c56 : Int → Int → Option (List Int)) (c274 : Option (List Int)) (c273 : List Int → List Int → Option (List Int)) (c275 : Option (List Int)) (N : Nat) : LoopF (((Sh.sl (Sh.sl (Sh.int .u8)))).T) := fun no =>
  match no with
  | _ => fun _ _ => none
theorem b264_0 (c56 : Int → Int → Option (List Int)) (c274 : Option (List Int)) (c273 : List Int → List Int → Option (List Int)) (c275 : Option (List Int)) (N n : Nat) (v : P264_0.T) (κ : (i : Nat) → (Q264_0 i).T → Option (((Sh.sl (Sh.sl (Sh.int .u8)))).T)) :
    evc (T264 c56 c274 c273 c275) (rawOf (RW264 c56 c274 c273 c275)) (W264_0 c56 c274 c273 c275 N) (retc k264.res (Sh.sl (Sh.sl (Sh.int .u8)))) (modeOf FT) 0 fuelC (bodyOf (loopN k264 0)) (P264_0.st v) (roundK 0 H264_0 P264_0 Q264_0 (u264_0 c56 c274 c273 c275 N n) κ) = u264_0 c56 c274 c273 c275 N (n + 1) v κ := by kernel_rfl
theorem o264_0 (c56 : Int → Int → Option (List Int)) (c274 : Option (List Int)) (c273 : List Int → List Int → Option (List Int)) (c275 : Option (List Int)) (hT : TabOK FT XT (T264 c56 c274 c273 c275)) (hO : RawOK FT XT (rawOf (α := ((Sh.sl (Sh.sl (Sh.int .u8)))).T) (RW264 c56 c274 c273 c275))) (N : Nat) {s : St} {κ : Ex → St → Option (((Sh.sl (Sh.sl (Sh.int .u8)))).T)} {a : ((Sh.sl (Sh.sl (Sh.int .u8)))).T} (h : lpOf 0 H264_0 P264_0 Q264_0 (u264_0 c56 c274 c273 c275 N N) s κ = some a) : Out FT XT 0 (retc k264.res (Sh.sl (Sh.sl (Sh.int .u8)))) (loopN k264 0) s κ a := by
  rw [l264_0]
  exact loop_out (LP := W264_0 c56 c274 c273 c275 N) (fu := fuelC) hT hO (fun _ _ => rfl) (b264_0 c56 c274 c273 c275 N) loopOK_nil N h
def W264 (c56 : Int → Int → Option (List Int)) (c274 : Option (List Int)) (c273 : List Int → List Int → Option (List Int)) (c275 : Option (List Int)) (N : Nat) : LoopF (((Sh.sl (Sh.sl (Sh.int .u8)))).T) := fun no =>
  match no with
  | 0 => lpOf 0 H264_0 P264_0 Q264_0 (u264_0 c56 c274 c273 c275 N N)
  | _ => fun _ _ => none
theorem e264 (c56 : Int → Int → Option (List Int)) (c274 : Option (List Int)) (c273 : List Int → List Int → Option (List Int)) (c275 : Option (List Int)) (N : Nat) (a0 : Int) : evc (T264 c56 c274 c273 c275) (rawOf (RW264 c56 c274 c273 c275)) (W264 c56 c274 c273 c275 N) (retc k264.res (Sh.sl (Sh.sl (Sh.int .u8)))) (modeOf FT) 0 fuelC k264.body (env0 k264 (encL [(Sh.int .u64)] (a0, ())), []) (endK (retc k264.res (Sh.sl (Sh.sl (Sh.int .u8))))) = p264 c56 c274 c273 c275 N a0 := by kernel_rfl
theorem ok264 (c56 : Int → Int → Option (List Int)) (c274 : Option (List Int)) (c273 : List Int → List Int → Option (List Int)) (c275 : Option (List Int)) (h56 : EntOK FT XT 56 (en56 c56)) (h274 : EntOK FT XT 274 (en274 c274)) (h273 : EntOK FT XT 273 (en273 c273)) (h275 : EntOK FT XT 275 (en275 c275)) {f : Int → Option (List (List Int))} (hf : ∀ a0 r, f a0 = some r → ∃ N, p264 c56 c274 c273 c275 N a0 = some r) : EntOK FT XT 264 (en264 f) := by
  have hT : TabOK FT XT (T264 c56 c274 c273 c275) := by
    intro g en hg
    unfold T264 at hg
    split at hg <;> first | (injection hg with hg; subst hg; assumption) | cases hg
  have hO : RawOK FT XT (rawOf (α := ((Sh.sl (Sh.sl (Sh.int .u8)))).T) (RW264 c56 c274 c273 c275)) := by
    refine rawOf_ok (fun g en hg => ?_)
    unfold RW264 at hg
    split at hg <;> simp only [List.mem_cons, List.not_mem_nil, or_false] at hg <;> first | (subst hg; assumption) | (rcases hg with rfl | rfl <;> assumption) | (rcases hg with rfl | rfl | rfl <;> assumption) | (rcases hg with rfl | rfl | rfl | rfl <;> assumption)
  refine ⟨rfl, fun v r h => ?_⟩
  obtain ⟨a0, _⟩ := v
  obtain ⟨N, h1⟩ := hf _ _ h
  exact ans_c (R := (Sh.sl (Sh.sl (Sh.int .u8)))) (tab := T264 c56 c274 c273 c275) (raw := (rawOf (RW264 c56 c274 c273 c275))) (LP := W264 c56 c274 c273 c275 N) (fu := fuelC) hT hO rfl rfl (Nat.le_of_ble_eq_true rfl) (loopOK_cons l264_0 (fun s κ a h => o264_0 c56 c274 c273 c275 hT hO N h) loopOK_nil) ((e264 c56 c274 c273 c275 N _).trans h1)

def T248 (c264 : Int → Option (List (List Int))) (c57 : List Int → Option Int) : Nat → Option Ent
  | 264 => some (en264 c264)
  | 57 => some (en57 c57)
  | _ => none
def RW248 (c264 : Int → Option (List (List Int))) (c57 : List Int → Option Int) : Nat → List REnt
  | _ => []
def H248_0 : Trim := ⟨0, [], false, [2, 3, 4, 5], []⟩
theorem l248_0 : loopN k248 0 = .loop H248_0 (bodyOf (loopN k248 0)) := by kernel_rfl
def P248_0 : Ps := ⟨[(0, .u), (2, (.ptr 0 0)), (3, (.ptr 1 0)), (4, (.tb (Sh.sl (Sh.int .u8)))), (5, (.int .i64)), (9, .u)], [(.ints false .u64), (.ints false .u64)]⟩
def Q248_0 : Nat → Ps
  | 0 => ⟨[(0, .u), (2, (.ptr 0 0)), (3, (.ptr 1 0)), (4, .u), (5, .u), (9, .u)], [(.ints false .u64), (.ints false .u64)]⟩
  | _ => noPs
def u248_0 (c264 : Int → Option (List (List Int))) (c57 : List Int → Option Int) (N n : Nat) (v : P248_0.T) (κ : (i : Nat) → (Q248_0 i).T → Option (((Sh.ar .u64)).T)) : Option (((Sh.ar .u64)).T) :=
  L248_0 c264 c57 N (fun (y0 : List Int) (y1 : List Int) => κ 0 (((), ((), ((), ((), ((), ((), ())))))), (y0, (y1, ())))) n v.1.2.2.2.1 v.1.2.2.2.2.1 v.2.1 v.2.2.1
def W248_0 (c264 : Int → Option (List (List Int))) (c57 : List Int → Option Int) (N : Nat) : LoopF (((Sh.ar .u64)).T) := fun no =>
  match no with
  | _ => fun _ _ => none
theorem b248_0 (c264 : Int → Option (List (List Int))) (c57 : List Int → Option Int) (N n : Nat) (v : P248_0.T) (κ : (i : Nat) → (Q248_0 i).T → Option (((Sh.ar .u64)).T)) :
    evc (T248 c264 c57) (rawOf (RW248 c264 c57)) (W248_0 c264 c57 N) (retc k248.res (Sh.ar .u64)) (modeOf FT) 0 fuelC (bodyOf (loopN k248 0)) (P248_0.st v) (roundK 0 H248_0 P248_0 Q248_0 (u248_0 c264 c57 N n) κ) = u248_0 c264 c57 N (n + 1) v κ := by kernel_rfl
theorem o248_0 (c264 : Int → Option (List (List Int))) (c57 : List Int → Option Int) (hT : TabOK FT XT (T248 c264 c57)) (hO : RawOK FT XT (rawOf (α := ((Sh.ar .u64)).T) (RW248 c264 c57))) (N : Nat) {s : St} {κ : Ex → St → Option (((Sh.ar .u64)).T)} {a : ((Sh.ar .u64)).T} (h : lpOf 0 H248_0 P248_0 Q248_0 (u248_0 c264 c57 N N) s κ = some a) : Out FT XT 0 (retc k248.res (Sh.ar .u64)) (loopN k248 0) s κ a := by
  rw [l248_0]
  exact loop_out (LP := W248_0 c264 c57 N) (fu := fuelC) hT hO (fun _ _ => rfl) (b248_0 c264 c57 N) loopOK_nil N h
def W248 (c264 : Int → Option (List (List Int))) (c57 : List Int → Option Int) (N : Nat) : LoopF (((Sh.ar .u64)).T) := fun no =>
  match no with
  | 0 => lpOf 0 H248_0 P248_0 Q248_0 (u248_0 c264 c57 N N)
  | _ => fun _ _ => none
theorem e248 (c264 : Int → Option (List (List Int))) (c57 : List Int → Option Int) (N : Nat) (a0 : Int) : evc (T248 c264 c57) (rawOf (RW248 c264 c57)) (W248 c264 c57 N) (retc k248.res (Sh.ar .u64)) (modeOf FT) 0 fuelC k248.body (env0 k248 (encL [(Sh.int .u64)] (a0, ())), []) (endK (retc k248.res (Sh.ar .u64))) = p248 c264 c57 N a0 := by kernel_rfl
theorem ok248 (c264 : Int → Option (List (List Int))) (c57 : List Int → Option Int) (h264 : EntOK FT XT 264 (en264 c264)) (h57 : EntOK FT XT 57 (en57 c57)) {f : Int → Option (List Int)} (hf : ∀ a0 r, f a0 = some r → ∃ N, p248 c264 c57 N a0 = some r) : EntOK FT XT 248 (en248 f) := by
  have hT : TabOK FT XT (T248 c264 c57) := by
    intro g en hg
    unfold T248 at hg
    split at hg <;> first | (injection hg with hg; subst hg; assumption) | cases hg
  have hO : RawOK FT XT (rawOf (α := ((Sh.ar .u64)).T) (RW248 c264 c57)) := by
    refine rawOf_ok (fun g en hg => ?_)
    unfold RW248 at hg
    split at hg <;> simp only [List.mem_cons, List.not_mem_nil, or_false] at hg <;> first | (subst hg; assumption) | (rcases hg with rfl | rfl <;> assumption) | (rcases hg with rfl | rfl | rfl <;> assumption) | (rcases hg with rfl | rfl | rfl | rfl <;> assumption)
  refine ⟨rfl, fun v r h => ?_⟩
  obtain ⟨a0, _⟩ := v
  obtain ⟨N, h1⟩ := hf _ _ h
  exact ans_c (R := (Sh.ar .u64)) (tab := T248 c264 c57) (raw := (rawOf (RW248 c264 c57))) (LP := W248 c264 c57 N) (fu := fuelC) hT hO rfl rfl (Nat.le_of_ble_eq_true rfl) (loopOK_cons l248_0 (fun s κ a h => o248_0 c264 c57 hT hO N h) loopOK_nil) ((e248 c264 c57 N _).trans h1)

def T265 : Nat → Option Ent
  | _ => none
def RW265 : Nat → List REnt
  | _ => []
def H265_1 : Trim := ⟨1, [], false, [1, 2, 4, 7], [(1, (.ints .i64 []), 1)]⟩
theorem l265_1 : loopN k265 1 = .loop H265_1 (bodyOf (loopN k265 1)) := by kernel_rfl
def P265_1 : Ps := ⟨[(0, .u), (1, (.sl 0 1)), (2, (.int .i64)), (3, .u), (4, (.int .i64)), (5, .u), (7, (.int .i64)), (8, .u)], [(.ints false .i64)]⟩
def Q265_1 : Nat → Ps
  | 2 => ⟨[(0, .u), (1, (.sl 0 1)), (2, .u), (3, .u), (4, (.int .i64)), (5, .u), (7, .u), (8, .u)], [(.ints false .i64)]⟩
  | _ => noPs
def u265_1 (N n : Nat) (v : P265_1.T) (κ : (i : Nat) → (Q265_1 i).T → Option (((Sh.sl (Sh.int .i64))).T)) : Option (((Sh.sl (Sh.int .i64))).T) :=
  L265_1 N (fun (y0 : Nat) (y1 : Int) (y2 : List Int) => κ 2 (((), (y0, ((), ((), (y1, ((), ((), ((), ())))))))), (y2, ()))) n v.1.2.1 v.1.2.2.1 v.1.2.2.2.2.1 v.1.2.2.2.2.2.2.1 v.2.1
def W265_1 (N : Nat) : LoopF (((Sh.sl (Sh.int .i64))).T) := fun no =>
  match no with
  | _ => fun _ _ => none
theorem b265_1 (N n : Nat) (v : P265_1.T) (κ : (i : Nat) → (Q265_1 i).T → Option (((Sh.sl (Sh.int .i64))).T)) :
    evc (T265) (rawOf (RW265)) (W265_1 N) (retc k265.res (Sh.sl (Sh.int .i64))) (modeOf FT) 0 fuelC (bodyOf (loopN k265 1)) (P265_1.st v) (roundK 0 H265_1 P265_1 Q265_1 (u265_1 N n) κ) = u265_1 N (n + 1) v κ := by kernel_rfl
theorem o265_1 (hT : TabOK FT XT (T265)) (hO : RawOK FT XT (rawOf (α := ((Sh.sl (Sh.int .i64))).T) (RW265))) (N : Nat) {s : St} {κ : Ex → St → Option (((Sh.sl (Sh.int .i64))).T)} {a : ((Sh.sl (Sh.int .i64))).T} (h : lpOf 0 H265_1 P265_1 Q265_1 (u265_1 N N) s κ = some a) : Out FT XT 0 (retc k265.res (Sh.sl (Sh.int .i64))) (loopN k265 1) s κ a := by
  rw [l265_1]
  exact loop_out (LP := W265_1 N) (fu := fuelC) hT hO (fun _ _ => rfl) (b265_1 N) loopOK_nil N h
def H265_0 : Trim := ⟨0, [], false, [1, 4], [(1, (.ints .i64 []), 1)]⟩
theorem l265_0 : loopN k265 0 = .loop H265_0 (bodyOf (loopN k265 0)) := by kernel_rfl
def P265_0 : Ps := ⟨[(0, .u), (1, (.sl 0 1)), (2, .u), (3, .u), (4, (.int .i64)), (5, .u), (7, .u), (8, .u)], [(.ints false .i64)]⟩
def Q265_0 : Nat → Ps
  | 0 => ⟨[(0, .u), (1, (.sl 0 1)), (2, .u), (3, .u), (4, .u), (5, .u), (7, .u), (8, .u)], [(.ints false .i64)]⟩
  | _ => noPs
def u265_0 (N n : Nat) (v : P265_0.T) (κ : (i : Nat) → (Q265_0 i).T → Option (((Sh.sl (Sh.int .i64))).T)) : Option (((Sh.sl (Sh.int .i64))).T) :=
  L265_0 N (fun (y0 : Nat) (y1 : List Int) => κ 0 (((), (y0, ((), ((), ((), ((), ((), ((), ())))))))), (y1, ()))) n v.1.2.1 v.1.2.2.2.2.1 v.2.1
def W265_0 (N : Nat) : LoopF (((Sh.sl (Sh.int .i64))).T) := fun no =>
  match no with
  | 1 => lpOf 0 H265_1 P265_1 Q265_1 (u265_1 N N)
  | _ => fun _ _ => none
theorem b265_0 (N n : Nat) (v : P265_0.T) (κ : (i : Nat) → (Q265_0 i).T → Option (((Sh.sl (Sh.int .i64))).T)) :
    evc (T265) (rawOf (RW265)) (W265_0 N) (retc k265.res (Sh.sl (Sh.int .i64))) (modeOf FT) 0 fuelC (bodyOf (loopN k265 0)) (P265_0.st v) (roundK 0 H265_0 P265_0 Q265_0 (u265_0 N n) κ) = u265_0 N (n + 1) v κ := by kernel_rfl
theorem o265_0 (hT : TabOK FT XT (T265)) (hO : RawOK FT XT (rawOf (α := ((Sh.sl (Sh.int .i64))).T) (RW265))) (N : Nat) {s : St} {κ : Ex → St → Option (((Sh.sl (Sh.int .i64))).T)} {a : ((Sh.sl (Sh.int .i64))).T} (h : lpOf 0 H265_0 P265_0 Q265_0 (u265_0 N N) s κ = some a) : Out FT XT 0 (retc k265.res (Sh.sl (Sh.int .i64))) (loopN k265 0) s κ a := by
  rw [l265_0]
  exact loop_out (LP := W265_0 N) (fu := fuelC) hT hO (fun _ _ => rfl) (b265_0 N) (loopOK_cons l265_1 (fun s κ a h => o265_1 hT hO N h) loopOK_nil) N h
def W265 (N : Nat) : LoopF (((Sh.sl (Sh.int .i64))).T) := fun no =>
  match no with
  | 0 => lpOf 0 H265_0 P265_0 Q265_0 (u265_0 N N)
  | _ => fun _ _ => none
theorem e265 (N : Nat)  : evc (T265) (rawOf (RW265)) (W265 N) (retc k265.res (Sh.sl (Sh.int .i64))) (modeOf FT) 0 fuelC k265.body (env0 k265 (encL [] ()), []) (endK (retc k265.res (Sh.sl (Sh.int .i64)))) = p265 N  := by kernel_rfl
theorem ok265 {f : Option (List Int)} (hf : ∀  r, f  = some r → ∃ N, p265 N  = some r) : EntOK FT XT 265 (en265 f) := by
  have hT : TabOK FT XT (T265) := by
    intro g en hg
    unfold T265 at hg
    split at hg <;> first | (injection hg with hg; subst hg; assumption) | cases hg
  have hO : RawOK FT XT (rawOf (α := ((Sh.sl (Sh.int .i64))).T) (RW265)) := by
    refine rawOf_ok (fun g en hg => ?_)
    unfold RW265 at hg
    split at hg <;> simp only [List.mem_cons, List.not_mem_nil, or_false] at hg <;> first | (subst hg; assumption) | (rcases hg with rfl | rfl <;> assumption) | (rcases hg with rfl | rfl | rfl <;> assumption) | (rcases hg with rfl | rfl | rfl | rfl <;> assumption)
  refine ⟨rfl, fun v r h => ?_⟩
  obtain ⟨N, h1⟩ := hf _ h
  exact ans_c (R := (Sh.sl (Sh.int .i64))) (tab := T265) (raw := (rawOf (RW265))) (LP := W265 N) (fu := fuelC) hT hO rfl rfl (Nat.le_of_ble_eq_true rfl) (loopOK_cons l265_0 (fun s κ a h => o265_0 hT hO N h) loopOK_nil) ((e265 N ).trans h1)

def T266 : Nat → Option Ent
  | _ => none
def RW266 : Nat → List REnt
  | _ => []
def W266 (N : Nat) : LoopF (((Sh.sl (Sh.int .i64))).T) := fun no =>
  match no with
  | _ => fun _ _ => none
theorem e266 (N : Nat)  : evc (T266) (rawOf (RW266)) (W266 N) (retc k266.res (Sh.sl (Sh.int .i64))) (modeOf FT) 0 fuelC k266.body (env0 k266 (encL [] ()), []) (endK (retc k266.res (Sh.sl (Sh.int .i64)))) = p266 N  := by kernel_rfl
theorem ok266 {f : Option (List Int)} (hf : ∀  r, f  = some r → ∃ N, p266 N  = some r) : EntOK FT XT 266 (en266 f) := by
  have hT : TabOK FT XT (T266) := by
    intro g en hg
    unfold T266 at hg
    split at hg <;> first | (injection hg with hg; subst hg; assumption) | cases hg
  have hO : RawOK FT XT (rawOf (α := ((Sh.sl (Sh.int .i64))).T) (RW266)) := by
    refine rawOf_ok (fun g en hg => ?_)
    unfold RW266 at hg
    split at hg <;> simp only [List.mem_cons, List.not_mem_nil, or_false] at hg <;> first | (subst hg; assumption) | (rcases hg with rfl | rfl <;> assumption) | (rcases hg with rfl | rfl | rfl <;> assumption) | (rcases hg with rfl | rfl | rfl | rfl <;> assumption)
  refine ⟨rfl, fun v r h => ?_⟩
  obtain ⟨N, h1⟩ := hf _ h
  exact ans_c (R := (Sh.sl (Sh.int .i64))) (tab := T266) (raw := (rawOf (RW266))) (LP := W266 N) (fu := fuelC) hT hO rfl rfl (Nat.le_of_ble_eq_true rfl) loopOK_nil ((e266 N ).trans h1)

def T249 (c265 : Option (List Int)) (c260 : Int → Int → List Int → Option Int) (c245 : Int → Int → Option Int) (c266 : Option (List Int)) : Nat → Option Ent
  | 265 => some (en265 c265)
  | 260 => some (en260 c260)
  | 245 => some (en245 c245)
  | 266 => some (en266 c266)
  | _ => none
def RW249 (c265 : Option (List Int)) (c260 : Int → Int → List Int → Option Int) (c245 : Int → Int → Option Int) (c266 : Option (List Int)) : Nat → List REnt
  | _ => []
def H249_0 : Trim := ⟨0, [], false, [5, 6, 14], []⟩
theorem l249_0 : loopN k249 0 = .loop H249_0 (bodyOf (loopN k249 0)) := by kernel_rfl
def P249_0 : Ps := ⟨[(0, .u), (1, .u), (4, .u), (5, (.int .u64)), (6, (.int .u64)), (7, .u), (14, (.int .i64)), (15, .u)], []⟩
def Q249_0 : Nat → Ps
  | 0 => ⟨[(0, .u), (1, .u), (4, .u), (5, .u), (6, (.int .u64)), (7, .u), (14, .u), (15, .u)], []⟩
  | _ => noPs
def u249_0 (c265 : Option (List Int)) (c260 : Int → Int → List Int → Option Int) (c245 : Int → Int → Option Int) (c266 : Option (List Int)) (N n : Nat) (v : P249_0.T) (κ : (i : Nat) → (Q249_0 i).T → Option (((Sh.int .u32)).T)) : Option (((Sh.int .u32)).T) :=
  L249_0 c265 c260 c245 c266 N (fun (y0 : Int) => κ 0 (((), ((), ((), ((), (y0, ((), ((), ((), ())))))))), ())) n v.1.2.2.2.1 v.1.2.2.2.2.1 v.1.2.2.2.2.2.2.1
def W249_0 (c265 : Option (List Int)) (c260 : Int → Int → List Int → Option Int) (c245 : Int → Int → Option Int) (c266 : Option (List Int)) (N : Nat) : LoopF (((Sh.int .u32)).T) := fun no =>
  match no with
  | _ => fun _ _ => none
theorem b249_0 (c265 : Option (List Int)) (c260 : Int → Int → List Int → Option Int) (c245 : Int → Int → Option Int) (c266 : Option (List Int)) (N n : Nat) (v : P249_0.T) (κ : (i : Nat) → (Q249_0 i).T → Option (((Sh.int .u32)).T)) :
    evc (T249 c265 c260 c245 c266) (rawOf (RW249 c265 c260 c245 c266)) (W249_0 c265 c260 c245 c266 N) (retc k249.res (Sh.int .u32)) (modeOf FT) 0 fuelC (bodyOf (loopN k249 0)) (P249_0.st v) (roundK 0 H249_0 P249_0 Q249_0 (u249_0 c265 c260 c245 c266 N n) κ) = u249_0 c265 c260 c245 c266 N (n + 1) v κ := by kernel_rfl
theorem o249_0 (c265 : Option (List Int)) (c260 : Int → Int → List Int → Option Int) (c245 : Int → Int → Option Int) (c266 : Option (List Int)) (hT : TabOK FT XT (T249 c265 c260 c245 c266)) (hO : RawOK FT XT (rawOf (α := ((Sh.int .u32)).T) (RW249 c265 c260 c245 c266))) (N : Nat) {s : St} {κ : Ex → St → Option (((Sh.int .u32)).T)} {a : ((Sh.int .u32)).T} (h : lpOf 0 H249_0 P249_0 Q249_0 (u249_0 c265 c260 c245 c266 N N) s κ = some a) : Out FT XT 0 (retc k249.res (Sh.int .u32)) (loopN k249 0) s κ a := by
  rw [l249_0]
  exact loop_out (LP := W249_0 c265 c260 c245 c266 N) (fu := fuelC) hT hO (fun _ _ => rfl) (b249_0 c265 c260 c245 c266 N) loopOK_nil N h
def W249 (c265 : Option (List Int)) (c260 : Int → Int → List Int → Option Int) (c245 : Int → Int → Option Int) (c266 : Option (List Int)) (N : Nat) : LoopF (((Sh.int .u32)).T) := fun no =>
  match no with
  | 0 => lpOf 0 H249_0 P249_0 Q249_0 (u249_0 c265 c260 c245 c266 N N)
  | _ => fun _ _ => none
theorem e249 (c265 : Option (List Int)) (c260 : Int → Int → List Int → Option Int) (c245 : Int → Int → Option Int) (c266 : Option (List Int)) (N : Nat) (a0 : Int) (a1 : Int) : evc (T249 c265 c260 c245 c266) (rawOf (RW249 c265 c260 c245 c266)) (W249 c265 c260 c245 c266 N) (retc k249.res (Sh.int .u32)) (modeOf FT) 0 fuelC k249.body (env0 k249 (encL [(Sh.int .u32), (Sh.int .u64)] (a0, (a1, ()))), []) (endK (retc k249.res (Sh.int .u32))) = p249 c265 c260 c245 c266 N a0 a1 := by kernel_rfl
theorem ok249 (c265 : Option (List Int)) (c260 : Int → Int → List Int → Option Int) (c245 : Int → Int → Option Int) (c266 : Option (List Int)) (h265 : EntOK FT XT 265 (en265 c265)) (h260 : EntOK FT XT 260 (en260 c260)) (h245 : EntOK FT XT 245 (en245 c245)) (h266 : EntOK FT XT 266 (en266 c266)) {f : Int → Int → Option Int} (hf : ∀ a0 a1 r, f a0 a1 = some r → ∃ N, p249 c265 c260 c245 c266 N a0 a1 = some r) : EntOK FT XT 249 (en249 f) := by
  have hT : TabOK FT XT (T249 c265 c260 c245 c266) := by
    intro g en hg
    unfold T249 at hg
    split at hg <;> first | (injection hg with hg; subst hg; assumption) | cases hg
  have hO : RawOK FT XT (rawOf (α := ((Sh.int .u32)).T) (RW249 c265 c260 c245 c266)) := by
    refine rawOf_ok (fun g en hg => ?_)
    unfold RW249 at hg
    split at hg <;> simp only [List.mem_cons, List.not_mem_nil, or_false] at hg <;> first | (subst hg; assumption) | (rcases hg with rfl | rfl <;> assumption) | (rcases hg with rfl | rfl | rfl <;> assumption) | (rcases hg with rfl | rfl | rfl | rfl <;> assumption)
  refine ⟨rfl, fun v r h => ?_⟩
  obtain ⟨a0, a1, _⟩ := v
  obtain ⟨N, h1⟩ := hf _ _ _ h
  exact ans_c (R := (Sh.int .u32)) (tab := T249 c265 c260 c245 c266) (raw := (rawOf (RW249 c265 c260 c245 c266))) (LP := W249 c265 c260 c245 c266 N) (fu := fuelC) hT hO rfl rfl (Nat.le_of_ble_eq_true rfl) (loopOK_cons l249_0 (fun s κ a h => o249_0 c265 c260 c245 c266 hT hO N h) loopOK_nil) ((e249 c265 c260 c245 c266 N _ _).trans h1)

def T277 : Nat → Option Ent
  | _ => none
def RW277 : Nat → List REnt
  | _ => []
def W277 (N : Nat) : LoopF (((Sh.sl (Sh.int .i64))).T) := fun no =>
  match no with
  | _ => fun _ _ => none
theorem e277 (N : Nat)  : evc (T277) (rawOf (RW277)) (W277 N) (retc k277.res (Sh.sl (Sh.int .i64))) (modeOf FT) 0 fuelC k277.body (env0 k277 (encL [] ()), []) (endK (retc k277.res (Sh.sl (Sh.int .i64)))) = p277 N  := by kernel_rfl
theorem ok277 {f : Option (List Int)} (hf : ∀  r, f  = some r → ∃ N, p277 N  = some r) : EntOK FT XT 277 (en277 f) := by
  have hT : TabOK FT XT (T277) := by
    intro g en hg
    unfold T277 at hg
    split at hg <;> first | (injection hg with hg; subst hg; assumption) | cases hg
  have hO : RawOK FT XT (rawOf (α := ((Sh.sl (Sh.int .i64))).T) (RW277)) := by
    refine rawOf_ok (fun g en hg => ?_)
    unfold RW277 at hg
    split at hg <;> simp only [List.mem_cons, List.not_mem_nil, or_false] at hg <;> first | (subst hg; assumption) | (rcases hg with rfl | rfl <;> assumption) | (rcases hg with rfl | rfl | rfl <;> assumption) | (rcases hg with rfl | rfl | rfl | rfl <;> assumption)
  refine ⟨rfl, fun v r h => ?_⟩
  obtain ⟨N, h1⟩ := hf _ h
  exact ans_c (R := (Sh.sl (Sh.int .i64))) (tab := T277) (raw := (rawOf (RW277))) (LP := W277 N) (fu := fuelC) hT hO rfl rfl (Nat.le_of_ble_eq_true rfl) loopOK_nil ((e277 N ).trans h1)

def T276 : Nat → Option Ent
  | _ => none
def RW276 : Nat → List REnt
  | _ => []
def H276_0 : Trim := ⟨0, [], false, [0, 1, 5, 6], []⟩
theorem l276_0 : loopN k276 0 = .loop H276_0 (bodyOf (loopN k276 0)) := by kernel_rfl
def P276_0 : Ps := ⟨[(0, (.tb (Sh.int .u8))), (1, (.tb (Sh.int .u8))), (4, .u), (5, (.slc 0 1)), (6, (.int .i64)), (13, .u)], [(.ints false .u8)]⟩
def Q276_0 : Nat → Ps
  | 0 => ⟨[(0, .u), (1, .u), (4, .u), (5, (.slc 0 1)), (6, .u), (13, .u)], [(.ints false .u8)]⟩
  | _ => noPs
def u276_0 (N n : Nat) (v : P276_0.T) (κ : (i : Nat) → (Q276_0 i).T → Option (((Sh.sl (Sh.int .u8))).T)) : Option (((Sh.sl (Sh.int .u8))).T) :=
  L276_0 N (fun (y0 : Nat) (y1 : Nat) (y2 : List Int) => κ 0 (((), ((), ((), ((y0, y1), ((), ((), ())))))), (y2, ()))) n v.1.1 v.1.2.1 v.1.2.2.2.1.1 v.1.2.2.2.1.2 v.1.2.2.2.2.1 v.2.1
def W276_0 (N : Nat) : LoopF (((Sh.sl (Sh.int .u8))).T) := fun no =>
  match no with
  | _ => fun _ _ => none
theorem b276_0 (N n : Nat) (v : P276_0.T) (κ : (i : Nat) → (Q276_0 i).T → Option (((Sh.sl (Sh.int .u8))).T)) :
    evc (T276) (rawOf (RW276)) (W276_0 N) (retc k276.res (Sh.sl (Sh.int .u8))) (modeOf FT) 0 fuelC (bodyOf (loopN k276 0)) (P276_0.st v) (roundK 0 H276_0 P276_0 Q276_0 (u276_0 N n) κ) = u276_0 N (n + 1) v κ := by kernel_rfl
theorem o276_0 (hT : TabOK FT XT (T276)) (hO : RawOK FT XT (rawOf (α := ((Sh.sl (Sh.int .u8))).T) (RW276))) (N : Nat) {s : St} {κ : Ex → St → Option (((Sh.sl (Sh.int .u8))).T)} {a : ((Sh.sl (Sh.int .u8))).T} (h : lpOf 0 H276_0 P276_0 Q276_0 (u276_0 N N) s κ = some a) : Out FT XT 0 (retc k276.res (Sh.sl (Sh.int .u8))) (loopN k276 0) s κ a := by
  rw [l276_0]
  exact loop_out (LP := W276_0 N) (fu := fuelC) hT hO (fun _ _ => rfl) (b276_0 N) loopOK_nil N h
def W276 (N : Nat) : LoopF (((Sh.sl (Sh.int .u8))).T) := fun no =>
  match no with
  | 0 => lpOf 0 H276_0 P276_0 Q276_0 (u276_0 N N)
  | _ => fun _ _ => none
theorem e276 (N : Nat) (a0 : List Int) (a1 : List Int) : evc (T276) (rawOf (RW276)) (W276 N) (retc k276.res (Sh.sl (Sh.int .u8))) (modeOf FT) 0 fuelC k276.body (env0 k276 (encL [(Sh.sl (Sh.int .u8)), (Sh.sl (Sh.int .u8))] (a0, (a1, ()))), []) (endK (retc k276.res (Sh.sl (Sh.int .u8)))) = p276 N a0 a1 := by kernel_rfl
theorem ok276 {f : List Int → List Int → Option (List Int)} (hf : ∀ a0 a1 r, f a0 a1 = some r → ∃ N, p276 N a0 a1 = some r) : EntOK FT XT 276 (en276 f) := by
  have hT : TabOK FT XT (T276) := by
    intro g en hg
    unfold T276 at hg
    split at hg <;> first | (injection hg with hg; subst hg; assumption) | cases hg
  have hO : RawOK FT XT (rawOf (α := ((Sh.sl (Sh.int .u8))).T) (RW276)) := by
    refine rawOf_ok (fun g en hg => ?_)
    unfold RW276 at hg
    split at hg <;> simp only [List.mem_cons, List.not_mem_nil, or_false] at hg <;> first | (subst hg; assumption) | (rcases hg with rfl | rfl <;> assumption) | (rcases hg with rfl | rfl | rfl <;> assumption) | (rcases hg with rfl | rfl | rfl | rfl <;> assumption)
  refine ⟨rfl, fun v r h => ?_⟩
  obtain ⟨a0, a1, _⟩ := v
  obtain ⟨N, h1⟩ := hf _ _ _ h
  exact ans_c (R := (Sh.sl (Sh.int .u8))) (tab := T276) (raw := (rawOf (RW276))) (LP := W276 N) (fu := fuelC) hT hO rfl rfl (Nat.le_of_ble_eq_true rfl) (loopOK_cons l276_0 (fun s κ a h => o276_0 hT hO N h) loopOK_nil) ((e276 N _ _).trans h1)

def T278 : Nat → Option Ent
  | _ => none
def RW278 : Nat → List REnt
  | _ => []
def W278 (N : Nat) : LoopF (((Sh.sl (Sh.int .i64))).T) := fun no =>
  match no with
  | _ => fun _ _ => none
theorem e278 (N : Nat)  : evc (T278) (rawOf (RW278)) (W278 N) (retc k278.res (Sh.sl (Sh.int .i64))) (modeOf FT) 0 fuelC k278.body (env0 k278 (encL [] ()), []) (endK (retc k278.res (Sh.sl (Sh.int .i64)))) = p278 N  := by kernel_rfl
theorem ok278 {f : Option (List Int)} (hf : ∀  r, f  = some r → ∃ N, p278 N  = some r) : EntOK FT XT 278 (en278 f) := by
  have hT : TabOK FT XT (T278) := by
    intro g en hg
    unfold T278 at hg
    split at hg <;> first | (injection hg with hg; subst hg; assumption) | cases hg
  have hO : RawOK FT XT (rawOf (α := ((Sh.sl (Sh.int .i64))).T) (RW278)) := by
    refine rawOf_ok (fun g en hg => ?_)
    unfold RW278 at hg
    split at hg <;> simp only [List.mem_cons, List.not_mem_nil, or_false] at hg <;> first | (subst hg; assumption) | (rcases hg with rfl | rfl <;> assumption) | (rcases hg with rfl | rfl | rfl <;> assumption) | (rcases hg with rfl | rfl | rfl | rfl <;> assumption)
  refine ⟨rfl, fun v r h => ?_⟩
  obtain ⟨N, h1⟩ := hf _ h
  exact ans_c (R := (Sh.sl (Sh.int .i64))) (tab := T278) (raw := (rawOf (RW278))) (LP := W278 N) (fu := fuelC) hT hO rfl rfl (Nat.le_of_ble_eq_true rfl) loopOK_nil ((e278 N ).trans h1)

def T267 (c277 : Option (List Int)) (c273 : List Int → List Int → Option (List Int)) (c276 : List Int → List Int → Option (List Int)) (c259 : Int → List Int → Option Int) (c56 : Int → Int → Option (List Int)) (c278 : Option (List Int)) : Nat → Option Ent
  | 277 => some (en277 c277)
  | 273 => some (en273 c273)
  | 276 => some (en276 c276)
  | 259 => some (en259 c259)
  | 56 => some (en56 c56)
  | 278 => some (en278 c278)
  | _ => none
def RW267 (c277 : Option (List Int)) (c273 : List Int → List Int → Option (List Int)) (c276 : List Int → List Int → Option (List Int)) (c259 : Int → List Int → Option Int) (c56 : Int → Int → Option (List Int)) (c278 : Option (List Int)) : Nat → List REnt
  | _ => []
def H267_0 : Trim := ⟨0, [], false, [5, 6, 7], [(6, (.ints .u8 []), 1)]⟩
theorem l267_0 : loopN k267 0 = .loop H267_0 (bodyOf (loopN k267 0)) := by kernel_rfl
def P267_0 : Ps := ⟨[(0, .u), (1, .u), (4, .u), (5, (.tb (Sh.int .u8))), (6, (.sl 0 1)), (7, (.int .i64)), (14, .u)], [(.ints false .u8)]⟩
def Q267_0 : Nat → Ps
  | 0 => ⟨[(0, .u), (1, .u), (4, .u), (5, .u), (6, (.sl 0 1)), (7, .u), (14, .u)], [(.ints false .u8)]⟩
  | _ => noPs
def u267_0 (c277 : Option (List Int)) (c273 : List Int → List Int → Option (List Int)) (c276 : List Int → List Int → Option (List Int)) (c259 : Int → List Int → Option Int) (c56 : Int → Int → Option (List Int)) (c278 : Option (List Int)) (N n : Nat) (v : P267_0.T) (κ : (i : Nat) → (Q267_0 i).T → Option (((Sh.sl (Sh.int .u8))).T)) : Option (((Sh.sl (Sh.int .u8))).T) :=
  L267_0 c277 c273 c276 c259 c56 c278 N (fun (y0 : Nat) (y1 : List Int) => κ 0 (((), ((), ((), ((), (y0, ((), ((), ()))))))), (y1, ()))) n v.1.2.2.2.1 v.1.2.2.2.2.1 v.1.2.2.2.2.2.1 v.2.1
def W267_0 (c277 : Option (List Int)) (c273 : List Int → List Int → Option (List Int)) (c276 : List Int → List Int → Option (List Int)) (c259 : Int → List Int → Option Int) (c56 : Int → Int → Option (List Int)) (c278 : Option (List Int)) (N : Nat) : LoopF (((Sh.sl (Sh.int .u8))).T) := fun no =>
  match no with
  | _ => fun _ _ => none
theorem b267_0 (c277 : Option (List Int)) (c273 : List Int → List Int → Option (List Int)) (c276 : List Int → List Int → Option (List Int)) (c259 : Int → List Int → Option Int) (c56 : Int → Int → Option (List Int)) (c278 : Option (List Int)) (N n : Nat) (v : P267_0.T) (κ : (i : Nat) → (Q267_0 i).T → Option (((Sh.sl (Sh.int .u8))).T)) :
    evc (T267 c277 c273 c276 c259 c56 c278) (rawOf (RW267 c277 c273 c276 c259 c56 c278)) (W267_0 c277 c273 c276 c259 c56 c278 N) (retc k267.res (Sh.sl (Sh.int .u8))) (modeOf FT) 0 fuelC (bodyOf (loopN k267 0)) (P267_0.st v) (roundK 0 H267_0 P267_0 Q267_0 (u267_0 c277 c273 c276 c259 c56 c278 N n) κ) = u267_0 c277 c273 c276 c259 c56 c278 N (n + 1) v κ := by kernel_rfl
theorem o267_0 (c277 : Option (List Int)) (c273 : List Int → List Int → Option (List Int)) (c276 : List Int → List Int → Option (List Int)) (c259 : Int → List Int → Option Int) (c56 : Int → Int → Option (List Int)) (c278 : Option (List Int)) (hT : TabOK FT XT (T267 c277 c273 c276 c259 c56 c278)) (hO : RawOK FT XT (rawOf (α := ((Sh.sl (Sh.int .u8))).T) (RW267 c277 c273 c276 c259 c56 c278))) (N : Nat) {s : St} {κ : Ex → St → Option (((Sh.sl (Sh.int .u8))).T)} {a : ((Sh.sl (Sh.int .u8))).T} (h : lpOf 0 H267_0 P267_0 Q267_0 (u267_0 c277 c273 c276 c259 c56 c278 N N) s κ = some a) : Out FT XT 0 (retc k267.res (Sh.sl (Sh.int .u8))) (loopN k267 0) s κ a := by
  rw [l267_0]
  exact loop_out (LP := W267_0 c277 c273 c276 c259 c56 c278 N) (fu := fuelC) hT hO (fun _ _ => rfl) (b267_0 c277 c273 c276 c259 c56 c278 N) loopOK_nil N h
def W267 (c277 : Option (List Int)) (c273 : List Int → List Int → Option (List Int)) (c276 : List Int → List Int → Option (List Int)) (c259 : Int → List Int → Option Int) (c56 : Int → Int → Option (List Int)) (c278 : Option (List Int)) (N : Nat) : LoopF (((Sh.sl (Sh.int .u8))).T) := fun no =>
  match no with
  | 0 => lpOf 0 H267_0 P267_0 Q267_0 (u267_0 c277 c273 c276 c259 c56 c278 N N)
  | _ => fun _ _ => none
theorem e267 (c277 : Option (List Int)) (c273 : List Int → List Int → Option (List Int)) (c276 : List Int → List Int → Option (List Int)) (c259 : Int → List Int → Option Int) (c56 : Int → Int → Option (List Int)) (c278 : Option (List Int)) (N : Nat) (a0 : List Int) (a1 : List Int) : evc (T267 c277 c273 c276 c259 c56 c278) (rawOf (RW267 c277 c273 c276 c259 c56 c278)) (W267 c277 c273 c276 c259 c56 c278 N) (retc k267.res (Sh.sl (Sh.int .u8))) (modeOf FT) 0 fuelC k267.body (env0 k267 (encL [(Sh.sl (Sh.int .u8)), (Sh.sl (Sh.int .u8))] (a0, (a1, ()))), []) (endK (retc k267.res (Sh.sl (Sh.int .u8)))) = p267 c277 c273 c276 c259 c56 c278 N a0 a1 := by kernel_rfl
theorem ok267 (c277 : Option (List Int)) (c273 : List Int → List Int → Option (List Int)) (c276 : List Int → List Int → Option (List Int)) (c259 : Int → List Int → Option Int) (c56 : Int → Int → Option (List Int)) (c278 : Option (List Int)) (h277 : EntOK FT XT 277 (en277 c277)) (h273 : EntOK FT XT 273 (en273 c273)) (h276 : EntOK FT XT 276 (en276 c276)) (h259 : EntOK FT XT 259 (en259 c259)) (h56 : EntOK FT XT 56 (en56 c56)) (h278 : EntOK FT XT 278 (en278 c278)) {f : List Int → List Int → Option (List Int)} (hf : ∀ a0 a1 r, f a0 a1 = some r → ∃ N, p267 c277 c273 c276 c259 c56 c278 N a0 a1 = some r) : EntOK FT XT 267 (en267 f) := by
  have hT : TabOK FT XT (T267 c277 c273 c276 c259 c56 c278) := by
    intro g en hg
    unfold T267 at hg
    split at hg <;> first | (injection hg with hg; subst hg; assumption) | cases hg
  have hO : RawOK FT XT (rawOf (α := ((Sh.sl (Sh.int .u8))).T) (RW267 c277 c273 c276 c259 c56 c278)) := by
    refine rawOf_ok (fun g en hg => ?_)
    unfold RW267 at hg
    split at hg <;> simp only [List.mem_cons, List.not_mem_nil, or_false] at hg <;> first | (subst hg; assumption) | (rcases hg with rfl | rfl <;> assumption) | (rcases hg with rfl | rfl | rfl <;> assumption) | (rcases hg with rfl | rfl | rfl | rfl <;> assumption)
  refine ⟨rfl, fun v r h => ?_⟩
  obtain ⟨a0, a1, _⟩ := v
  obtain ⟨N, h1⟩ := hf _ _ _ h
  exact ans_c (R := (Sh.sl (Sh.int .u8))) (tab := T267 c277 c273 c276 c259 c56 c278) (raw := (rawOf (RW267 c277 c273 c276 c259 c56 c278))) (LP := W267 c277 c273 c276 c259 c56 c278 N) (fu := fuelC) hT hO rfl rfl (Nat.le_of_ble_eq_true rfl) (loopOK_cons l267_0 (fun s κ a h => o267_0 c277 c273 c276 c259 c56 c278 hT hO N h) loopOK_nil) ((e267 c277 c273 c276 c259 c56 c278 N _ _).trans h1)

def T250 (c56 : Int → Int → Option (List Int)) (c267 : List Int → List Int → Option (List Int)) (c57 : List Int → Option Int) : Nat → Option Ent
  | 56 => some (en56 c56)
  | 267 => some (en267 c267)
  | 57 => some (en57 c57)
  | _ => none
def RW250 (c56 : Int → Int → Option (List Int)) (c267 : List Int → List Int → Option (List Int)) (c57 : List Int → Option Int) : Nat → List REnt
  | _ => []
def W250 (c56 : Int → Int → Option (List Int)) (c267 : List Int → List Int → Option (List Int)) (c57 : List Int → Option Int) (N : Nat) : LoopF (((Sh.int .u32)).T) := fun no =>
  match no with
  | _ => fun _ _ => none
theorem e250 (c56 : Int → Int → Option (List Int)) (c267 : List Int → List Int → Option (List Int)) (c57 : List Int → Option Int) (N : Nat) (a0 : Int) (a1 : Int) : evc (T250 c56 c267 c57) (rawOf (RW250 c56 c267 c57)) (W250 c56 c267 c57 N) (retc k250.res (Sh.int .u32)) (modeOf FT) 0 fuelC k250.body (env0 k250 (encL [(Sh.int .u32), (Sh.int .u64)] (a0, (a1, ()))), []) (endK (retc k250.res (Sh.int .u32))) = p250 c56 c267 c57 N a0 a1 := by kernel_rfl
theorem ok250 (c56 : Int → Int → Option (List Int)) (c267 : List Int → List Int → Option (List Int)) (c57 : List Int → Option Int) (h56 : EntOK FT XT 56 (en56 c56)) (h267 : EntOK FT XT 267 (en267 c267)) (h57 : EntOK FT XT 57 (en57 c57)) {f : Int → Int → Option Int} (hf : ∀ a0 a1 r, f a0 a1 = some r → ∃ N, p250 c56 c267 c57 N a0 a1 = some r) : EntOK FT XT 250 (en250 f) := by
  have hT : TabOK FT XT (T250 c56 c267 c57) := by
    intro g en hg
    unfold T250 at hg
    split at hg <;> first | (injection hg with hg; subst hg; assumption) | cases hg
  have hO : RawOK FT XT (rawOf (α := ((Sh.int .u32)).T) (RW250 c56 c267 c57)) := by
    refine rawOf_ok (fun g en hg => ?_)
    unfold RW250 at hg
    split at hg <;> simp only [List.mem_cons, List.not_mem_nil, or_false] at hg <;> first | (subst hg; assumption) | (rcases hg with rfl | rfl <;> assumption) | (rcases hg with rfl | rfl | rfl <;> assumption) | (rcases hg with rfl | rfl | rfl | rfl <;> assumption)
  refine ⟨rfl, fun v r h => ?_⟩
  obtain ⟨a0, a1, _⟩ := v
  obtain ⟨N, h1⟩ := hf _ _ _ h
  exact ans_c (R := (Sh.int .u32)) (tab := T250 c56 c267 c57) (raw := (rawOf (RW250 c56 c267 c57))) (LP := W250 c56 c267 c57 N) (fu := fuelC) hT hO rfl rfl (Nat.le_of_ble_eq_true rfl) loopOK_nil ((e250 c56 c267 c57 N _ _).trans h1)

def T279 (c272 : Int → Int → Option (List Int)) : Nat → Option Ent
  | 272 => some (en272 c272)
  | _ => none
def RW279 (c272 : Int → Int → Option (List Int)) : Nat → List REnt
  | _ => []
def H279_0 : Trim := ⟨0, [], false, [1, 4, 5], [(1, (.ints .i64 []), 1)]⟩
theorem l279_0 : loopN k279 0 = .loop H279_0 (bodyOf (loopN k279 0)) := by kernel_rfl
def P279_0 : Ps := ⟨[(0, .u), (1, (.sl 0 1)), (3, .u), (4, (.ar .i64)), (5, (.int .i64)), (6, .u)], [(.ints false .i64)]⟩
def Q279_0 : Nat → Ps
  | 0 => ⟨[(0, .u), (1, (.sl 0 1)), (3, .u), (4, .u), (5, .u), (6, .u)], [(.ints false .i64)]⟩
  | _ => noPs
def u279_0 (c272 : Int → Int → Option (List Int)) (N n : Nat) (v : P279_0.T) (κ : (i : Nat) → (Q279_0 i).T → Option (((Sh.sl (Sh.int .i64))).T)) : Option (((Sh.sl (Sh.int .i64))).T) :=
  L279_0 c272 N (fun (y0 : Nat) (y1 : List Int) => κ 0 (((), (y0, ((), ((), ((), ((), ())))))), (y1, ()))) n v.1.2.1 v.1.2.2.2.1 v.1.2.2.2.2.1 v.2.1
def W279_0 (c272 : Int → Int → Option (List Int)) (N : Nat) : LoopF (((Sh.sl (Sh.int .i64))).T) := fun no =>
  match no with
  | _ => fun _ _ => none
theorem b279_0 (c272 : Int → Int → Option (List Int)) (N n : Nat) (v : P279_0.T) (κ : (i : Nat) → (Q279_0 i).T → Option (((Sh.sl (Sh.int .i64))).T)) :
    evc (T279 c272) (rawOf (RW279 c272)) (W279_0 c272 N) (retc k279.res (Sh.sl (Sh.int .i64))) (modeOf FT) 0 fuelC (bodyOf (loopN k279 0)) (P279_0.st v) (roundK 0 H279_0 P279_0 Q279_0 (u279_0 c272 N n) κ) = u279_0 c272 N (n + 1) v κ := by kernel_rfl
theorem o279_0 (c272 : Int → Int → Option (List Int)) (hT : TabOK FT XT (T279 c272)) (hO : RawOK FT XT (rawOf (α := ((Sh.sl (Sh.int .i64))).T) (RW279 c272))) (N : Nat) {s : St} {κ : Ex → St → Option (((Sh.sl (Sh.int .i64))).T)} {a : ((Sh.sl (Sh.int .i64))).T} (h : lpOf 0 H279_0 P279_0 Q279_0 (u279_0 c272 N N) s κ = some a) : Out FT XT 0 (retc k279.res (Sh.sl (Sh.int .i64))) (loopN k279 0) s κ a := by
  rw [l279_0]
  exact loop_out (LP := W279_0 c272 N) (fu := fuelC) hT hO (fun _ _ => rfl) (b279_0 c272 N) loopOK_nil N h
def W279 (c272 : Int → Int → Option (List Int)) (N : Nat) : LoopF (((Sh.sl (Sh.int .i64))).T) := fun no =>
  match no with
  | 0 => lpOf 0 H279_0 P279_0 Q279_0 (u279_0 c272 N N)
  | _ => fun _ _ => none
theorem e279 (c272 : Int → Int → Option (List Int)) (N : Nat)  : evc (T279 c272) (rawOf (RW279 c272)) (W279 c272 N) (retc k279.res (Sh.sl (Sh.int .i64))) (modeOf FT) 0 fuelC k279.body (env0 k279 (encL [] ()), []) (endK (retc k279.res (Sh.sl (Sh.int .i64)))) = p279 c272 N  := by kernel_rfl
theorem ok279 (c272 : Int → Int → Option (List Int)) (h272 : EntOK FT XT 272 (en272 c272)) {f : Option (List Int)} (hf : ∀  r, f  = some r → ∃ N, p279 c272 N  = some r) : EntOK FT XT 279 (en279 f) := by
  have hT : TabOK FT XT (T279 c272) := by
    intro g en hg
    unfold T279 at hg
    split at hg <;> first | (injection hg with hg; subst hg; assumption) | cases hg
  have hO : RawOK FT XT (rawOf (α := ((Sh.sl (Sh.int .i64))).T) (RW279 c272)) := by
    refine rawOf_ok (fun g en hg => ?_)
    unfold RW279 at hg
    split at hg <;> simp only [List.mem_cons, List.not_mem_nil, or_false] at hg <;> first | (subst hg; assumption) | (rcases hg with rfl | rfl <;> assumption) | (rcases hg with rfl | rfl | rfl <;> assumption) | (rcases hg with rfl | rfl | rfl | rfl <;> assumption)
  refine ⟨rfl, fun v r h => ?_⟩
  obtain ⟨N, h1⟩ := hf _ h
  exact ans_c (R := (Sh.sl (Sh.int .i64))) (tab := T279 c272) (raw := (rawOf (RW279 c272))) (LP := W279 c272 N) (fu := fuelC) hT hO rfl rfl (Nat.le_of_ble_eq_true rfl) (loopOK_cons l279_0 (fun s κ a h => o279_0 c272 hT hO N h) loopOK_nil) ((e279 c272 N ).trans h1)

def T280 (c279 : Option (List Int)) : Nat → Option Ent
  | 279 => some (en279 c279)
  | _ => none
def RW280 (c279 : Option (List Int)) : Nat → List REnt
  | _ => []
def H280_0 : Trim := ⟨0, [], false, [1, 5, 6, 7], []⟩
theorem l280_0 : loopN k280 0 = .loop H280_0 (bodyOf (loopN k280 0)) := by kernel_rfl
def P280_0 : Ps := ⟨[(0, .u), (1, (.slc 0 1)), (2, .u), (3, .u), (5, (.tb (Sh.int .i64))), (6, (.int .i64)), (7, (.int .i64)), (8, .u)], [(.ints false .i64)]⟩
def Q280_0 : Nat → Ps
  | 0 => ⟨[(0, .u), (1, (.slc 0 1)), (2, .u), (3, .u), (5, .u), (6, .u), (7, .u), (8, .u)], [(.ints false .i64)]⟩
  | _ => noPs
def u280_0 (c279 : Option (List Int)) (N n : Nat) (v : P280_0.T) (κ : (i : Nat) → (Q280_0 i).T → Option (((Sh.sl (Sh.int .i64))).T)) : Option (((Sh.sl (Sh.int .i64))).T) :=
  L280_0 c279 N (fun (y0 : Nat) (y1 : Nat) (y2 : List Int) => κ 0 (((), ((y0, y1), ((), ((), ((), ((), ((), ((), ())))))))), (y2, ()))) n v.1.2.1.1 v.1.2.1.2 v.1.2.2.2.2.1 v.1.2.2.2.2.2.1 v.1.2.2.2.2.2.2.1 v.2.1
def W280_0 (c279 : Option (List Int)) (N : Nat) : LoopF (((Sh.sl (Sh.int .i64))).T) := fun no =>
  match no with
  | _ => fun _ _ => none
theorem b280_0 (c279 : Option (List Int)) (N n : Nat) (v : P280_0.T) (κ : (i : Nat) → (Q280_0 i).T → Option (((Sh.sl (Sh.int .i64))).T)) :
    evc (T280 c279) (rawOf (RW280 c279)) (W280_0 c279 N) (retc k280.res (Sh.sl (Sh.int .i64))) (modeOf FT) 0 fuelC (bodyOf (loopN k280 0)) (P280_0.st v) (roundK 0 H280_0 P280_0 Q280_0 (u280_0 c279 N n) κ) = u280_0 c279 N (n + 1) v κ := by kernel_rfl
theorem o280_0 (c279 : Option (List Int)) (hT : TabOK FT XT (T280 c279)) (hO : RawOK FT XT (rawOf (α := ((Sh.sl (Sh.int .i64))).T) (RW280 c279))) (N : Nat) {s : St} {κ : Ex → St → Option (((Sh.sl (Sh.int .i64))).T)} {a : ((Sh.sl (Sh.int .i64))).T} (h : lpOf 0 H280_0 P280_0 Q280_0 (u280_0 c279 N N) s κ = some a) : Out FT XT 0 (retc k280.res (Sh.sl (Sh.int .i64))) (loopN k280 0) s κ a := by
  rw [l280_0]
  exact loop_out (LP := W280_0 c279 N) (fu := fuelC) hT hO (fun _ _ => rfl) (b280_0 c279 N) loopOK_nil N h
def W280 (c279 : Option (List Int)) (N : Nat) : LoopF (((Sh.sl (Sh.int .i64))).T) := fun no =>
  match no with
  | 0 => lpOf 0 H280_0 P280_0 Q280_0 (u280_0 c279 N N)
  | _ => fun _ _ => none
theorem e280 (c279 : Option (List Int)) (N : Nat)  : evc (T280 c279) (rawOf (RW280 c279)) (W280 c279 N) (retc k280.res (Sh.sl (Sh.int .i64))) (modeOf FT) 0 fuelC k280.body (env0 k280 (encL [] ()), []) (endK (retc k280.res (Sh.sl (Sh.int .i64)))) = p280 c279 N  := by kernel_rfl
theorem ok280 (c279 : Option (List Int)) (h279 : EntOK FT XT 279 (en279 c279)) {f : Option (List Int)} (hf : ∀  r, f  = some r → ∃ N, p280 c279 N  = some r) : EntOK FT XT 280 (en280 f) := by
  have hT : TabOK FT XT (T280 c279) := by
    intro g en hg
    unfold T280 at hg
    split at hg <;> first | (injection hg with hg; subst hg; assumption) | cases hg
  have hO : RawOK FT XT (rawOf (α := ((Sh.sl (Sh.int .i64))).T) (RW280 c279)) := by
    refine rawOf_ok (fun g en hg => ?_)
    unfold RW280 at hg
    split at hg <;> simp only [List.mem_cons, List.not_mem_nil, or_false] at hg <;> first | (subst hg; assumption) | (rcases hg with rfl | rfl <;> assumption) | (rcases hg with rfl | rfl | rfl <;> assumption) | (rcases hg with rfl | rfl | rfl | rfl <;> assumption)
  refine ⟨rfl, fun v r h => ?_⟩
  obtain ⟨N, h1⟩ := hf _ h
  exact ans_c (R := (Sh.sl (Sh.int .i64))) (tab := T280 c279) (raw := (rawOf (RW280 c279))) (LP := W280 c279 N) (fu := fuelC) hT hO rfl rfl (Nat.le_of_ble_eq_true rfl) (loopOK_cons l280_0 (fun s κ a h => o280_0 c279 hT hO N h) loopOK_nil) ((e280 c279 N ).trans h1)

def T268 (c279 : Option (List Int)) (c260 : Int → Int → List Int → Option Int) (c249 : Int → Int → Option Int) (c280 : Option (List Int)) : Nat → Option Ent
  | 279 => some (en279 c279)
  | 260 => some (en260 c260)
  | 249 => some (en249 c249)
  | 280 => some (en280 c280)
  | _ => none
def RW268 (c279 : Option (List Int)) (c260 : Int → Int → List Int → Option Int) (c249 : Int → Int → Option Int) (c280 : Option (List Int)) : Nat → List REnt
  | _ => []
def H268_0 : Trim := ⟨0, [], false, [6, 7, 18, 19, 20], []⟩
theorem l268_0 : loopN k268 0 = .loop H268_0 (bodyOf (loopN k268 0)) := by kernel_rfl
def P268_0 : Ps := ⟨[(0, .u), (1, .u), (4, .u), (5, .u), (6, (.int .u32)), (7, (.int .u32)), (9, .u), (18, (.tb (Sh.int .u64))), (19, (.int .i64)), (20, (.int .i64)), (21, .u)], []⟩
def Q268_0 : Nat → Ps
  | 0 => ⟨[(0, .u), (1, .u), (4, .u), (5, .u), (6, (.int .u32)), (7, (.int .u32)), (9, .u), (18, .u), (19, .u), (20, .u), (21, .u)], []⟩
  | _ => noPs
def u268_0 (c279 : Option (List Int)) (c260 : Int → Int → List Int → Option Int) (c249 : Int → Int → Option Int) (c280 : Option (List Int)) (N n : Nat) (v : P268_0.T) (κ : (i : Nat) → (Q268_0 i).T → Option (((Sh.int .u64)).T)) : Option (((Sh.int .u64)).T) :=
  L268_0 c279 c260 c249 c280 N (fun (y0 : Int) (y1 : Int) => κ 0 (((), ((), ((), ((), (y0, (y1, ((), ((), ((), ((), ((), ()))))))))))), ())) n v.1.2.2.2.2.1 v.1.2.2.2.2.2.1 v.1.2.2.2.2.2.2.2.1 v.1.2.2.2.2.2.2.2.2.1 v.1.2.2.2.2.2.2.2.2.2.1
def W268_0 (c279 : Option (List Int)) (c260 : Int → Int → List Int → Option Int) (c249 : Int → Int → Option Int) (c280 : Option (List Int)) (N : Nat) : LoopF (((Sh.int .u64)).T) := fun no =>
  match no with
  | _ => fun _ _ => none
theorem b268_0 (c279 : Option (List Int)) (c260 : Int → Int → List Int → Option Int) (c249 : Int → Int → Option Int) (c280 : Option (List Int)) (N n : Nat) (v : P268_0.T) (κ : (i : Nat) → (Q268_0 i).T → Option (((Sh.int .u64)).T)) :
    evc (T268 c279 c260 c249 c280) (rawOf (RW268 c279 c260 c249 c280)) (W268_0 c279 c260 c249 c280 N) (retc k268.res (Sh.int .u64)) (modeOf FT) 0 fuelC (bodyOf (loopN k268 0)) (P268_0.st v) (roundK 0 H268_0 P268_0 Q268_0 (u268_0 c279 c260 c249 c280 N n) κ) = u268_0 c279 c260 c249 c280 N (n + 1) v κ := by kernel_rfl
theorem o268_0 (c279 : Option (List Int)) (c260 : Int → Int → List Int → Option Int) (c249 : Int → Int → Option Int) (c280 : Option (List Int)) (hT : TabOK FT XT (T268 c279 c260 c249 c280)) (hO : RawOK FT XT (rawOf (α := ((Sh.int .u64)).T) (RW268 c279 c260 c249 c280))) (N : Nat) {s : St} {κ : Ex → St → Option (((Sh.int .u64)).T)} {a : ((Sh.int .u64)).T} (h : lpOf 0 H268_0 P268_0 Q268_0 (u268_0 c279 c260 c249 c280 N N) s κ = some a) : Out FT XT 0 (retc k268.res (Sh.int .u64)) (loopN k268 0) s κ a := by
  rw [l268_0]
  exact loop_out (LP := W268_0 c279 c260 c249 c280 N) (fu := fuelC) hT hO (fun _ _ => rfl) (b268_0 c279 c260 c249 c280 N) loopOK_nil N h
def W268 (c279 : Option (List Int)) (c260 : Int → Int → List Int → Option Int) (c249 : Int → Int → Option Int) (c280 : Option (List Int)) (N : Nat) : LoopF (((Sh.int .u64)).T) := fun no =>
  match no with
  | 0 => lpOf 0 H268_0 P268_0 Q268_0 (u268_0 c279 c260 c249 c280 N N)
  | _ => fun _ _ => none
theorem e268 (c279 : Option (List Int)) (c260 : Int → Int → List Int → Option Int) (c249 : Int → Int → Option Int) (c280 : Option (List Int)) (N : Nat) (a0 : Int) (a1 : List Int) : evc (T268 c279 c260 c249 c280) (rawOf (RW268 c279 c260 c249 c280)) (W268 c279 c260 c249 c280 N) (retc k268.res (Sh.int .u64)) (modeOf FT) 0 fuelC k268.body (env0 k268 (encL [(Sh.int .u64), (Sh.sl (Sh.int .u64))] (a0, (a1, ()))), []) (endK (retc k268.res (Sh.int .u64))) = p268 c279 c260 c249 c280 N a0 a1 := by kernel_rfl
theorem ok268 (c279 : Option (List Int)) (c260 : Int → Int → List Int → Option Int) (c249 : Int → Int → Option Int) (c280 : Option (List Int)) (h279 : EntOK FT XT 279 (en279 c279)) (h260 : EntOK FT XT 260 (en260 c260)) (h249 : EntOK FT XT 249 (en249 c249)) (h280 : EntOK FT XT 280 (en280 c280)) {f : Int → List Int → Option Int} (hf : ∀ a0 a1 r, f a0 a1 = some r → ∃ N, p268 c279 c260 c249 c280 N a0 a1 = some r) : EntOK FT XT 268 (en268 f) := by
  have hT : TabOK FT XT (T268 c279 c260 c249 c280) := by
    intro g en hg
    unfold T268 at hg
    split at hg <;> first | (injection hg with hg; subst hg; assumption) | cases hg
  have hO : RawOK FT XT (rawOf (α := ((Sh.int .u64)).T) (RW268 c279 c260 c249 c280)) := by
    refine rawOf_ok (fun g en hg => ?_)
    unfold RW268 at hg
    split at hg <;> simp only [List.mem_cons, List.not_mem_nil, or_false] at hg <;> first | (subst hg; assumption) | (rcases hg with rfl | rfl <;> assumption) | (rcases hg with rfl | rfl | rfl <;> assumption) | (rcases hg with rfl | rfl | rfl | rfl <;> assumption)
  refine ⟨rfl, fun v r h => ?_⟩
  obtain ⟨a0, a1, _⟩ := v
  obtain ⟨N, h1⟩ := hf _ _ _ h
  exact ans_c (R := (Sh.int .u64)) (tab := T268 c279 c260 c249 c280) (raw := (rawOf (RW268 c279 c260 c249 c280))) (LP := W268 c279 c260 c249 c280 N) (fu := fuelC) hT hO rfl rfl (Nat.le_of_ble_eq_true rfl) (loopOK_cons l268_0 (fun s κ a h => o268_0 c279 c260 c249 c280 hT hO N h) loopOK_nil) ((e268 c279 c260 c249 c280 N _ _).trans h1)

def T254 (c247 : Int → Option (List Int)) (c268 : Int → List Int → Option Int) : Nat → Option Ent
  | 247 => some (en247 c247)
  | 268 => some (en268 c268)
  | _ => none
def RW254 (c247 : Int → Option (List Int)) (c268 : Int → List Int → Option Int) : Nat → List REnt
  | _ => []
def W254 (c247 : Int → Option (List Int)) (c268 : Int → List Int → Option Int) (N : Nat) : LoopF (((Sh.int .u64)).T) := fun no =>
  match no with
  | _ => fun _ _ => none
theorem e254 (c247 : Int → Option (List Int)) (c268 : Int → List Int → Option Int) (N : Nat) (a0 : Int) (a1 : Int) : evc (T254 c247 c268) (rawOf (RW254 c247 c268)) (W254 c247 c268 N) (retc k254.res (Sh.int .u64)) (modeOf FT) 0 fuelC k254.body (env0 k254 (encL [(Sh.int .u64), (Sh.int .u64)] (a0, (a1, ()))), []) (endK (retc k254.res (Sh.int .u64))) = p254 c247 c268 N a0 a1 := by kernel_rfl
theorem ok254 (c247 : Int → Option (List Int)) (c268 : Int → List Int → Option Int) (h247 : EntOK FT XT 247 (en247 c247)) (h268 : EntOK FT XT 268 (en268 c268)) {f : Int → Int → Option Int} (hf : ∀ a0 a1 r, f a0 a1 = some r → ∃ N, p254 c247 c268 N a0 a1 = some r) : EntOK FT XT 254 (en254 f) := by
  have hT : TabOK FT XT (T254 c247 c268) := by
    intro g en hg
    unfold T254 at hg
    split at hg <;> first | (injection hg with hg; subst hg; assumption) | cases hg
  have hO : RawOK FT XT (rawOf (α := ((Sh.int .u64)).T) (RW254 c247 c268)) := by
    refine rawOf_ok (fun g en hg => ?_)
    unfold RW254 at hg
    split at hg <;> simp only [List.mem_cons, List.not_mem_nil, or_false] at hg <;> first | (subst hg; assumption) | (rcases hg with rfl | rfl <;> assumption) | (rcases hg with rfl | rfl | rfl <;> assumption) | (rcases hg with rfl | rfl | rfl | rfl <;> assumption)
  refine ⟨rfl, fun v r h => ?_⟩
  obtain ⟨a0, a1, _⟩ := v
  obtain ⟨N, h1⟩ := hf _ _ _ h
  exact ans_c (R := (Sh.int .u64)) (tab := T254 c247 c268) (raw := (rawOf (RW254 c247 c268))) (LP := W254 c247 c268 N) (fu := fuelC) hT hO rfl rfl (Nat.le_of_ble_eq_true rfl) loopOK_nil ((e254 c247 c268 N _ _).trans h1)

def T252 (c24 : List Int → Option ((List Int) × Int)) (c21 : List Int → Bool → Option (Int × Int)) (c254 : Int → Int → Option Int) (c19 : Int → Int → Bool → Option ((List Int) × Int)) : Nat → Option Ent
  | 24 => some (en24 c24)
  | 21 => some (en21 c21)
  | 254 => some (en254 c254)
  | 19 => some (en19 c19)
  | _ => none
def RW252 (c24 : List Int → Option ((List Int) × Int)) (c21 : List Int → Bool → Option (Int × Int)) (c254 : Int → Int → Option Int) (c19 : Int → Int → Bool → Option ((List Int) × Int)) : Nat → List REnt
  | _ => []
def W252 (c24 : List Int → Option ((List Int) × Int)) (c21 : List Int → Bool → Option (Int × Int)) (c254 : Int → Int → Option Int) (c19 : Int → Int → Bool → Option ((List Int) × Int)) (N : Nat) : LoopF (((Sh.tu (Sh.pr (Sh.sl (Sh.int .u8)) (Sh.int .i64)))).T) := fun no =>
  match no with
  | _ => fun _ _ => none
theorem e252 (c24 : List Int → Option ((List Int) × Int)) (c21 : List Int → Bool → Option (Int × Int)) (c254 : Int → Int → Option Int) (c19 : Int → Int → Bool → Option ((List Int) × Int)) (N : Nat) (a0 : List Int) (a1 : List Int) : evc (T252 c24 c21 c254 c19) (rawOf (RW252 c24 c21 c254 c19)) (W252 c24 c21 c254 c19 N) (retc k252.res (Sh.tu (Sh.pr (Sh.sl (Sh.int .u8)) (Sh.int .i64)))) (modeOf FT) 0 fuelC k252.body (env0 k252 (encL [(Sh.sl (Sh.int .u8)), (Sh.sl (Sh.int .u8))] (a0, (a1, ()))), []) (endK (retc k252.res (Sh.tu (Sh.pr (Sh.sl (Sh.int .u8)) (Sh.int .i64))))) = p252 c24 c21 c254 c19 N a0 a1 := by kernel_rfl
theorem ok252 (c24 : List Int → Option ((List Int) × Int)) (c21 : List Int → Bool → Option (Int × Int)) (c254 : Int → Int → Option Int) (c19 : Int → Int → Bool → Option ((List Int) × Int)) (h24 : EntOK FT XT 24 (en24 c24)) (h21 : EntOK FT XT 21 (en21 c21)) (h254 : EntOK FT XT 254 (en254 c254)) (h19 : EntOK FT XT 19 (en19 c19)) {f : List Int → List Int → Option ((List Int) × Int)} (hf : ∀ a0 a1 r, f a0 a1 = some r → ∃ N, p252 c24 c21 c254 c19 N a0 a1 = some r) : EntOK FT XT 252 (en252 f) := by
  have hT : TabOK FT XT (T252 c24 c21 c254 c19) := by
    intro g en hg
    unfold T252 at hg
    split at hg <;> first | (injection hg with hg; subst hg; assumption) | cases hg
  have hO : RawOK FT XT (rawOf (α := ((Sh.tu (Sh.pr (Sh.sl (Sh.int .u8)) (Sh.int .i64)))).T) (RW252 c24 c21 c254 c19)) := by
    refine rawOf_ok (fun g en hg => ?_)
    unfold RW252 at hg
    split at hg <;> simp only [List.mem_cons, List.not_mem_nil, or_false] at hg <;> first | (subst hg; assumption) | (rcases hg with rfl | rfl <;> assumption) | (rcases hg with rfl | rfl | rfl <;> assumption) | (rcases hg with rfl | rfl | rfl | rfl <;> assumption)
  refine ⟨rfl, fun v r h => ?_⟩
  obtain ⟨a0, a1, _⟩ := v
  obtain ⟨N, h1⟩ := hf _ _ _ h
  exact ans_c (R := (Sh.tu (Sh.pr (Sh.sl (Sh.int .u8)) (Sh.int .i64)))) (tab := T252 c24 c21 c254 c19) (raw := (rawOf (RW252 c24 c21 c254 c19))) (LP := W252 c24 c21 c254 c19 N) (fu := fuelC) hT hO rfl rfl (Nat.le_of_ble_eq_true rfl) loopOK_nil ((e252 c24 c21 c254 c19 N _ _).trans h1)

def T251 (c252 : List Int → List Int → Option ((List Int) × Int)) (c254 : Int → Int → Option Int) (c245 : Int → Int → Option Int) : Nat → Option Ent
  | 252 => some (en252 c252)
  | 254 => some (en254 c254)
  | 245 => some (en245 c245)
  | _ => none
def RW251 (c252 : List Int → List Int → Option ((List Int) × Int)) (c254 : Int → Int → Option Int) (c245 : Int → Int → Option Int) : Nat → List REnt
  | _ => []
def W251 (c252 : List Int → List Int → Option ((List Int) × Int)) (c254 : Int → Int → Option Int) (c245 : Int → Int → Option Int) (N : Nat) : LoopF (Sh.bool).T := fun no =>
  match no with
  | _ => fun _ _ => none
theorem e251 (c252 : List Int → List Int → Option ((List Int) × Int)) (c254 : Int → Int → Option Int) (c245 : Int → Int → Option Int) (N : Nat)  : evc (T251 c252 c254 c245) (rawOf (RW251 c252 c254 c245)) (W251 c252 c254 c245 N) (retc k251.res Sh.bool) (modeOf FT) 0 fuelC k251.body (env0 k251 (encL [] ()), []) (endK (retc k251.res Sh.bool)) = p251 c252 c254 c245 N  := by kernel_rfl
theorem ok251 (c252 : List Int → List Int → Option ((List Int) × Int)) (c254 : Int → Int → Option Int) (c245 : Int → Int → Option Int) (h252 : EntOK FT XT 252 (en252 c252)) (h254 : EntOK FT XT 254 (en254 c254)) (h245 : EntOK FT XT 245 (en245 c245)) {f : Option Bool} (hf : ∀  r, f  = some r → ∃ N, p251 c252 c254 c245 N  = some r) : EntOK FT XT 251 (en251 f) := by
  have hT : TabOK FT XT (T251 c252 c254 c245) := by
    intro g en hg
    unfold T251 at hg
    split at hg <;> first | (injection hg with hg; subst hg; assumption) | cases hg
  have hO : RawOK FT XT (rawOf (α := (Sh.bool).T) (RW251 c252 c254 c245)) := by
    refine rawOf_ok (fun g en hg => ?_)
    unfold RW251 at hg
    split at hg <;> simp only [List.mem_cons, List.not_mem_nil, or_false] at hg <;> first | (subst hg; assumption) | (rcases hg with rfl | rfl <;> assumption) | (rcases hg with rfl | rfl | rfl <;> assumption) | (rcases hg with rfl | rfl | rfl | rfl <;> assumption)
  refine ⟨rfl, fun v r h => ?_⟩
  obtain ⟨N, h1⟩ := hf _ h
  exact ans_c (R := Sh.bool) (tab := T251 c252 c254 c245) (raw := (rawOf (RW251 c252 c254 c245))) (LP := W251 c252 c254 c245 N) (fu := fuelC) hT hO rfl rfl (Nat.le_of_ble_eq_true rfl) loopOK_nil ((e251 c252 c254 c245 N ).trans h1)

def T240 (c245 : Int → Int → Option Int) (c246 : Int → Int → Option Int) (c247 : Int → Option (List Int)) (c248 : Int → Option (List Int)) (c249 : Int → Int → Option Int) (c250 : Int → Int → Option Int) (c251 : Option Bool) : Nat → Option Ent
  | 245 => some (en245 c245)
  | 246 => some (en246 c246)
  | 247 => some (en247 c247)
  | 248 => some (en248 c248)
  | 249 => some (en249 c249)
  | 250 => some (en250 c250)
  | 251 => some (en251 c251)
  | _ => none
def RW240 (c245 : Int → Int → Option Int) (c246 : Int → Int → Option Int) (c247 : Int → Option (List Int)) (c248 : Int → Option (List Int)) (c249 : Int → Int → Option Int) (c250 : Int → Int → Option Int) (c251 : Option Bool) : Nat → List REnt
  | _ => []
def W240 (c245 : Int → Int → Option Int) (c246 : Int → Int → Option Int) (c247 : Int → Option (List Int)) (c248 : Int → Option (List Int)) (c249 : Int → Int → Option Int) (c250 : Int → Int → Option Int) (c251 : Option Bool) (N : Nat) : LoopF (Sh.bool).T := fun no =>
  match no with
  | _ => fun _ _ => none
theorem e240 (c245 : Int → Int → Option Int) (c246 : Int → Int → Option Int) (c247 : Int → Option (List Int)) (c248 : Int → Option (List Int)) (c249 : Int → Int → Option Int) (c250 : Int → Int → Option Int) (c251 : Option Bool) (N : Nat) (a0 : Int) (a1 : Int) (a2 : Int) : evc (T240 c245 c246 c247 c248 c249 c250 c251) (rawOf (RW240 c245 c246 c247 c248 c249 c250 c251)) (W240 c245 c246 c247 c248 c249 c250 c251 N) (retc k240.res Sh.bool) (modeOf FT) 0 fuelC k240.body (env0 k240 (encL [(Sh.int .i64), (Sh.int .u64), (Sh.int .u32)] (a0, (a1, (a2, ())))), []) (endK (retc k240.res Sh.bool)) = p240 c245 c246 c247 c248 c249 c250 c251 N a0 a1 a2 := by kernel_rfl
theorem ok240 (c245 : Int → Int → Option Int) (c246 : Int → Int → Option Int) (c247 : Int → Option (List Int)) (c248 : Int → Option (List Int)) (c249 : Int → Int → Option Int) (c250 : Int → Int → Option Int) (c251 : Option Bool) (h245 : EntOK FT XT 245 (en245 c245)) (h246 : EntOK FT XT 246 (en246 c246)) (h247 : EntOK FT XT 247 (en247 c247)) (h248 : EntOK FT XT 248 (en248 c248)) (h249 : EntOK FT XT 249 (en249 c249)) (h250 : EntOK FT XT 250 (en250 c250)) (h251 : EntOK FT XT 251 (en251 c251)) {f : Int → Int → Int → Option Bool} (hf : ∀ a0 a1 a2 r, f a0 a1 a2 = some r → ∃ N, p240 c245 c246 c247 c248 c249 c250 c251 N a0 a1 a2 = some r) : EntOK FT XT 240 (en240 f) := by
  have hT : TabOK FT XT (T240 c245 c246 c247 c248 c249 c250 c251) := by
    intro g en hg
    unfold T240 at hg
    split at hg <;> first | (injection hg with hg; subst hg; assumption) | cases hg
  have hO : RawOK FT XT (rawOf (α := (Sh.bool).T) (RW240 c245 c246 c247 c248 c249 c250 c251)) := by
    refine rawOf_ok (fun g en hg => ?_)
    unfold RW240 at hg
    split at hg <;> simp only [List.mem_cons, List.not_mem_nil, or_false] at hg <;> first | (subst hg; assumption) | (rcases hg with rfl | rfl <;> assumption) | (rcases hg with rfl | rfl | rfl <;> assumption) | (rcases hg with rfl | rfl | rfl | rfl <;> assumption)
  refine ⟨rfl, fun v r h => ?_⟩
  obtain ⟨a0, a1, a2, _⟩ := v
  obtain ⟨N, h1⟩ := hf _ _ _ _ h
  exact ans_c (R := Sh.bool) (tab := T240 c245 c246 c247 c248 c249 c250 c251) (raw := (rawOf (RW240 c245 c246 c247 c248 c249 c250 c251))) (LP := W240 c245 c246 c247 c248 c249 c250 c251 N) (fu := fuelC) hT hO rfl rfl (Nat.le_of_ble_eq_true rfl) loopOK_nil ((e240 c245 c246 c247 c248 c249 c250 c251 N _ _ _).trans h1)

def T281 : Nat → Option Ent
  | _ => none
def RW281 : Nat → List REnt
  | _ => []
def W281 (N : Nat) : LoopF (((Sh.sl (Sh.int .i64))).T) := fun no =>
  match no with
  | _ => fun _ _ => none
theorem e281 (N : Nat)  : evc (T281) (rawOf (RW281)) (W281 N) (retc k281.res (Sh.sl (Sh.int .i64))) (modeOf FT) 0 fuelC k281.body (env0 k281 (encL [] ()), []) (endK (retc k281.res (Sh.sl (Sh.int .i64)))) = p281 N  := by kernel_rfl
theorem ok281 {f : Option (List Int)} (hf : ∀  r, f  = some r → ∃ N, p281 N  = some r) : EntOK FT XT 281 (en281 f) := by
  have hT : TabOK FT XT (T281) := by
    intro g en hg
    unfold T281 at hg
    split at hg <;> first | (injection hg with hg; subst hg; assumption) | cases hg
  have hO : RawOK FT XT (rawOf (α := ((Sh.sl (Sh.int .i64))).T) (RW281)) := by
    refine rawOf_ok (fun g en hg => ?_)
    unfold RW281 at hg
    split at hg <;> simp only [List.mem_cons, List.not_mem_nil, or_false] at hg <;> first | (subst hg; assumption) | (rcases hg with rfl | rfl <;> assumption) | (rcases hg with rfl | rfl | rfl <;> assumption) | (rcases hg with rfl | rfl | rfl | rfl <;> assumption)
  refine ⟨rfl, fun v r h => ?_⟩
  obtain ⟨N, h1⟩ := hf _ h
  exact ans_c (R := (Sh.sl (Sh.int .i64))) (tab := T281) (raw := (rawOf (RW281))) (LP := W281 N) (fu := fuelC) hT hO rfl rfl (Nat.le_of_ble_eq_true rfl) loopOK_nil ((e281 N ).trans h1)

def T282 : Nat → Option Ent
  | _ => none
def RW282 : Nat → List REnt
  | _ => []
def W282 (N : Nat) : LoopF (((Sh.sl (Sh.int .i64))).T) := fun no =>
  match no with
  | _ => fun _ _ => none
theorem e282 (N : Nat)  : evc (T282) (rawOf (RW282)) (W282 N) (retc k282.res (Sh.sl (Sh.int .i64))) (modeOf FT) 0 fuelC k282.body (env0 k282 (encL [] ()), []) (endK (retc k282.res (Sh.sl (Sh.int .i64)))) = p282 N  := by kernel_rfl
theorem ok282 {f : Option (List Int)} (hf : ∀  r, f  = some r → ∃ N, p282 N  = some r) : EntOK FT XT 282 (en282 f) := by
  have hT : TabOK FT XT (T282) := by
    intro g en hg
    unfold T282 at hg
    split at hg <;> first | (injection hg with hg; subst hg; assumption) | cases hg
  have hO : RawOK FT XT (rawOf (α := ((Sh.sl (Sh.int .i64))).T) (RW282)) := by
    refine rawOf_ok (fun g en hg => ?_)
    unfold RW282 at hg
    split at hg <;> simp only [List.mem_cons, List.not_mem_nil, or_false] at hg <;> first | (subst hg; assumption) | (rcases hg with rfl | rfl <;> assumption) | (rcases hg with rfl | rfl | rfl <;> assumption) | (rcases hg with rfl | rfl | rfl | rfl <;> assumption)
  refine ⟨rfl, fun v r h => ?_⟩
  obtain ⟨N, h1⟩ := hf _ h
  exact ans_c (R := (Sh.sl (Sh.int .i64))) (tab := T282) (raw := (rawOf (RW282))) (LP := W282 N) (fu := fuelC) hT hO rfl rfl (Nat.le_of_ble_eq_true rfl) loopOK_nil ((e282 N ).trans h1)

def T269 (c56 : Int → Int → Option (List Int)) (c281 : Option (List Int)) (c273 : List Int → List Int → Option (List Int)) (c267 : List Int → List Int → Option (List Int)) (c276 : List Int → List Int → Option (List Int)) (c282 : Option (List Int)) (c57 : List Int → Option Int) : Nat → Option Ent
  | 56 => some (en56 c56)
  | 281 => some (en281 c281)
  | 273 => some (en273 c273)
  | 267 => some (en267 c267)
  | 276 => some (en276 c276)
  | 282 => some (en282 c282)
  | 57 => some (en57 c57)
  | _ => none
def RW269 (c56 : Int → Int → Option (List Int)) (c281 : Option (List Int)) (c273 : List Int → List Int → Option (List Int)) (c267 : List Int → List Int → Option (List Int)) (c276 : List Int → List Int → Option (List Int)) (c282 : Option (List Int)) (c57 : List Int → Option Int) : Nat → List REnt
  | _ => []
def H269_0 : Trim := ⟨0, [], false, [1, 6, 7, 8], []⟩
theorem l269_0 : loopN k269 0 = .loop H269_0 (bodyOf (loopN k269 0)) := by kernel_rfl
def P269_0 : Ps := ⟨[(0, .u), (1, (.tb (Sh.sl (Sh.int .u8)))), (4, .u), (5, .u), (6, (.tb (Sh.int .u8))), (7, (.tb (Sh.int .u8))), (8, (.int .i64)), (20, .u)], []⟩
def Q269_0 : Nat → Ps
  | 0 => ⟨[(0, .u), (1, .u), (4, .u), (5, .u), (6, (.tb (Sh.int .u8))), (7, (.tb (Sh.int .u8))), (8, .u), (20, .u)], []⟩
  | _ => noPs
def u269_0 (c56 : Int → Int → Option (List Int)) (c281 : Option (List Int)) (c273 : List Int → List Int → Option (List Int)) (c267 : List Int → List Int → Option (List Int)) (c276 : List Int → List Int → Option (List Int)) (c282 : Option (List Int)) (c57 : List Int → Option Int) (N n : Nat) (v : P269_0.T) (κ : (i : Nat) → (Q269_0 i).T → Option (((Sh.int .u64)).T)) : Option (((Sh.int .u64)).T) :=
  L269_0 c56 c281 c273 c267 c276 c282 c57 N (fun (y0 : List Int) (y1 : List Int) => κ 0 (((), ((), ((), ((), (y0, (y1, ((), ((), ())))))))), ())) n v.1.2.1 v.1.2.2.2.2.1 v.1.2.2.2.2.2.1 v.1.2.2.2.2.2.2.1
def W269_0 (c56 : Int → Int → Option (List Int)) (c281 : Option (List Int)) (c273 : List Int → List Int → Option (List Int)) (c267 : List Int → List Int → Option (List Int)) (c276 : List Int → List Int → Option (List Int)) (c282 : Option (List Int)) (c57 : List Int → Option Int) (N : Nat) : LoopF (((Sh.int .u64)).T) := fun no =>
  match no with
  | _ => fun _ _ => none
theorem b269_0 (c56 : Int → Int → Option (List Int)) (c281 : Option (List Int)) (c273 : List Int → List Int → Option (List Int)) (c267 : List Int → List Int → Option (List Int)) (c276 : List Int → List Int → Option (List Int)) (c282 : Option (List Int)) (c57 : List Int → Option Int) (N n : Nat) (v : P269_0.T) (κ : (i : Nat) → (Q269_0 i).T → Option (((Sh.int .u64)).T)) :
    evc (T269 c56 c281 c273 c267 c276 c282 c57) (rawOf (RW269 c56 c281 c273 c267 c276 c282 c57)) (W269_0 c56 c281 c273 c267 c276 c282 c57 N) (retc k269.res (Sh.int .u64)) (modeOf FT) 0 fuelC (bodyOf (loopN k269 0)) (P269_0.st v) (roundK 0 H269_0 P269_0 Q269_0 (u269_0 c56 c281 c273 c267 c276 c282 c57 N n) κ) = u269_0 c56 c281 c273 c267 c276 c282 c57 N (n + 1) v κ := by kernel_rfl
theorem o269_0 (c56 : Int → Int → Option (List Int)) (c281 : Option (List Int)) (c273 : List Int → List Int → Option (List Int)) (c267 : List Int → List Int → Option (List Int)) (c276 : List Int → List Int → Option (List Int)) (c282 : Option (List Int)) (c57 : List Int → Option Int) (hT : TabOK FT XT (T269 c56 c281 c273 c267 c276 c282 c57)) (hO : RawOK FT XT (rawOf (α := ((Sh.int .u64)).T) (RW269 c56 c281 c273 c267 c276 c282 c57))) (N : Nat) {s : St} {κ : Ex → St → Option (((Sh.int .u64)).T)} {a : ((Sh.int .u64)).T} (h : lpOf 0 H269_0 P269_0 Q269_0 (u269_0 c56 c281 c273 c267 c276 c282 c57 N N) s κ = some a) : Out FT XT 0 (retc k269.res (Sh.int .u64)) (loopN k269 0) s κ a := by
  rw [l269_0]
  exact loop_out (LP := W269_0 c56 c281 c273 c267 c276 c282 c57 N) (fu := fuelC) hT hO (fun _ _ => rfl) (b269_0 c56 c281 c273 c267 c276 c282 c57 N) loopOK_nil N h
def W269 (c56 : Int → Int → Option (List Int)) (c281 : Option (List Int)) (c273 : List Int → List Int → Option (List Int)) (c267 : List Int → List Int → Option (List Int)) (c276 : List Int → List Int → Option (List Int)) (c282 : Option (List Int)) (c57 : List Int → Option Int) (N : Nat) : LoopF (((Sh.int .u64)).T) := fun no =>
  match no with
  | 0 => lpOf 0 H269_0 P269_0 Q269_0 (u269_0 c56 c281 c273 c267 c276 c282 c57 N N)
  | _ => fun _ _ => none
theorem e269 (c56 : Int → Int → Option (List Int)) (c281 : Option (List Int)) (c273 : List Int → List Int → Option (List Int)) (c267 : List Int → List Int → Option (List Int)) (c276 : List Int → List Int → Option (List Int)) (c282 : Option (List Int)) (c57 : List Int → Option Int) (N : Nat) (a0 : Int) (a1 : List (List Int)) : evc (T269 c56 c281 c273 c267 c276 c282 c57) (rawOf (RW269 c56 c281 c273 c267 c276 c282 c57)) (W269 c56 c281 c273 c267 c276 c282 c57 N) (retc k269.res (Sh.int .u64)) (modeOf FT) 0 fuelC k269.body (env0 k269 (encL [(Sh.int .u64), (Sh.sl (Sh.sl (Sh.int .u8)))] (a0, (a1, ()))), []) (endK (retc k269.res (Sh.int .u64))) = p269 c56 c281 c273 c267 c276 c282 c57 N a0 a1 := by kernel_rfl
theorem ok269 (c56 : Int → Int → Option (List Int)) (c281 : Option (List Int)) (c273 : List Int → List Int → Option (List Int)) (c267 : List Int → List Int → Option (List Int)) (c276 : List Int → List Int → Option (List Int)) (c282 : Option (List Int)) (c57 : List Int → Option Int) (h56 : EntOK FT XT 56 (en56 c56)) (h281 : EntOK FT XT 281 (en281 c281)) (h273 : EntOK FT XT 273 (en273 c273)) (h267 : EntOK FT XT 267 (en267 c267)) (h276 : EntOK FT XT 276 (en276 c276)) (h282 : EntOK FT XT 282 (en282 c282)) (h57 : EntOK FT XT 57 (en57 c57)) {f : Int → List (List Int) → Option Int} (hf : ∀ a0 a1 r, f a0 a1 = some r → ∃ N, p269 c56 c281 c273 c267 c276 c282 c57 N a0 a1 = some r) : EntOK FT XT 269 (en269 f) := by
  have hT : TabOK FT XT (T269 c56 c281 c273 c267 c276 c282 c57) := by
    intro g en hg
    unfold T269 at hg
    split at hg <;> first | (injection hg with hg; subst hg; assumption) | cases hg
  have hO : RawOK FT XT (rawOf (α := ((Sh.int .u64)).T) (RW269 c56 c281 c273 c267 c276 c282 c57)) := by
    refine rawOf_ok (fun g en hg => ?_)
    unfold RW269 at hg
    split at hg <;> simp only [List.mem_cons, List.not_mem_nil, or_false] at hg <;> first | (subst hg; assumption) | (rcases hg with rfl | rfl <;> assumption) | (rcases hg with rfl | rfl | rfl <;> assumption) | (rcases hg with rfl | rfl | rfl | rfl <;> assumption)
  refine ⟨rfl, fun v r h => ?_⟩
  obtain ⟨a0, a1, _⟩ := v
  obtain ⟨N, h1⟩ := hf _ _ _ h
  exact ans_c (R := (Sh.int .u64)) (tab := T269 c56 c281 c273 c267 c276 c282 c57) (raw := (rawOf (RW269 c56 c281 c273 c267 c276 c282 c57))) (LP := W269 c56 c281 c273 c267 c276 c282 c57 N) (fu := fuelC) hT hO rfl rfl (Nat.le_of_ble_eq_true rfl) (loopOK_cons l269_0 (fun s κ a h => o269_0 c56 c281 c273 c267 c276 c282 c57 hT hO N h) loopOK_nil) ((e269 c56 c281 c273 c267 c276 c282 c57 N _ _).trans h1)

def T255 (c264 : Int → Option (List (List Int))) (c269 : Int → List (List Int) → Option Int) : Nat → Option Ent
  | 264 => some (en264 c264)
  | 269 => some (en269 c269)
  | _ => none
def RW255 (c264 : Int → Option (List (List Int))) (c269 : Int → List (List Int) → Option Int) : Nat → List REnt
  | _ => []
def W255 (c264 : Int → Option (List (List Int))) (c269 : Int → List (List Int) → Option Int) (N : Nat) : LoopF (((Sh.int .u64)).T) := fun no =>
  match no with
  | _ => fun _ _ => none
theorem e255 (c264 : Int → Option (List (List Int))) (c269 : Int → List (List Int) → Option Int) (N : Nat) (a0 : Int) (a1 : Int) : evc (T255 c264 c269) (rawOf (RW255 c264 c269)) (W255 c264 c269 N) (retc k255.res (Sh.int .u64)) (modeOf FT) 0 fuelC k255.body (env0 k255 (encL [(Sh.int .u64), (Sh.int .u64)] (a0, (a1, ()))), []) (endK (retc k255.res (Sh.int .u64))) = p255 c264 c269 N a0 a1 := by kernel_rfl
theorem ok255 (c264 : Int → Option (List (List Int))) (c269 : Int → List (List Int) → Option Int) (h264 : EntOK FT XT 264 (en264 c264)) (h269 : EntOK FT XT 269 (en269 c269)) {f : Int → Int → Option Int} (hf : ∀ a0 a1 r, f a0 a1 = some r → ∃ N, p255 c264 c269 N a0 a1 = some r) : EntOK FT XT 255 (en255 f) := by
  have hT : TabOK FT XT (T255 c264 c269) := by
    intro g en hg
    unfold T255 at hg
    split at hg <;> first | (injection hg with hg; subst hg; assumption) | cases hg
  have hO : RawOK FT XT (rawOf (α := ((Sh.int .u64)).T) (RW255 c264 c269)) := by
    refine rawOf_ok (fun g en hg => ?_)
    unfold RW255 at hg
    split at hg <;> simp only [List.mem_cons, List.not_mem_nil, or_false] at hg <;> first | (subst hg; assumption) | (rcases hg with rfl | rfl <;> assumption) | (rcases hg with rfl | rfl | rfl <;> assumption) | (rcases hg with rfl | rfl | rfl | rfl <;> assumption)
  refine ⟨rfl, fun v r h => ?_⟩
  obtain ⟨a0, a1, _⟩ := v
  obtain ⟨N, h1⟩ := hf _ _ _ h
  exact ans_c (R := (Sh.int .u64)) (tab := T255 c264 c269) (raw := (rawOf (RW255 c264 c269))) (LP := W255 c264 c269 N) (fu := fuelC) hT hO rfl rfl (Nat.le_of_ble_eq_true rfl) loopOK_nil ((e255 c264 c269 N _ _).trans h1)

def T253 (c36 : List Int → Option ((List Int) × Int)) (c51 : List Int → Option Int) (c255 : Int → Int → Option Int) (c50 : Int → Int → Option (List Int)) : Nat → Option Ent
  | 36 => some (en36 c36)
  | 51 => some (en51 c51)
  | 255 => some (en255 c255)
  | 50 => some (en50 c50)
  | _ => none
def RW253 (c36 : List Int → Option ((List Int) × Int)) (c51 : List Int → Option Int) (c255 : Int → Int → Option Int) (c50 : Int → Int → Option (List Int)) : Nat → List REnt
  | _ => []
def W253 (c36 : List Int → Option ((List Int) × Int)) (c51 : List Int → Option Int) (c255 : Int → Int → Option Int) (c50 : Int → Int → Option (List Int)) (N : Nat) : LoopF (((Sh.tu (Sh.pr (Sh.sl (Sh.int .u8)) (Sh.int .i64)))).T) := fun no =>
  match no with
  | _ => fun _ _ => none
theorem e253 (c36 : List Int → Option ((List Int) × Int)) (c51 : List Int → Option Int) (c255 : Int → Int → Option Int) (c50 : Int → Int → Option (List Int)) (N : Nat) (a0 : List Int) (a1 : List Int) : evc (T253 c36 c51 c255 c50) (rawOf (RW253 c36 c51 c255 c50)) (W253 c36 c51 c255 c50 N) (retc k253.res (Sh.tu (Sh.pr (Sh.sl (Sh.int .u8)) (Sh.int .i64)))) (modeOf FT) 0 fuelC k253.body (env0 k253 (encL [(Sh.sl (Sh.int .u8)), (Sh.sl (Sh.int .u8))] (a0, (a1, ()))), []) (endK (retc k253.res (Sh.tu (Sh.pr (Sh.sl (Sh.int .u8)) (Sh.int .i64))))) = p253 c36 c51 c255 c50 N a0 a1 := by kernel_rfl
theorem ok253 (c36 : List Int → Option ((List Int) × Int)) (c51 : List Int → Option Int) (c255 : Int → Int → Option Int) (c50 : Int → Int → Option (List Int)) (h36 : EntOK FT XT 36 (en36 c36)) (h51 : EntOK FT XT 51 (en51 c51)) (h255 : EntOK FT XT 255 (en255 c255)) (h50 : EntOK FT XT 50 (en50 c50)) {f : List Int → List Int → Option ((List Int) × Int)} (hf : ∀ a0 a1 r, f a0 a1 = some r → ∃ N, p253 c36 c51 c255 c50 N a0 a1 = some r) : EntOK FT XT 253 (en253 f) := by
  have hT : TabOK FT XT (T253 c36 c51 c255 c50) := by
    intro g en hg
    unfold T253 at hg
    split at hg <;> first | (injection hg with hg; subst hg; assumption) | cases hg
  have hO : RawOK FT XT (rawOf (α := ((Sh.tu (Sh.pr (Sh.sl (Sh.int .u8)) (Sh.int .i64)))).T) (RW253 c36 c51 c255 c50)) := by
    refine rawOf_ok (fun g en hg => ?_)
    unfold RW253 at hg
    split at hg <;> simp only [List.mem_cons, List.not_mem_nil, or_false] at hg <;> first | (subst hg; assumption) | (rcases hg with rfl | rfl <;> assumption) | (rcases hg with rfl | rfl | rfl <;> assumption) | (rcases hg with rfl | rfl | rfl | rfl <;> assumption)
  refine ⟨rfl, fun v r h => ?_⟩
  obtain ⟨a0, a1, _⟩ := v
  obtain ⟨N, h1⟩ := hf _ _ _ h
  exact ans_c (R := (Sh.tu (Sh.pr (Sh.sl (Sh.int .u8)) (Sh.int .i64)))) (tab := T253 c36 c51 c255 c50) (raw := (rawOf (RW253 c36 c51 c255 c50))) (LP := W253 c36 c51 c255 c50 N) (fu := fuelC) hT hO rfl rfl (Nat.le_of_ble_eq_true rfl) loopOK_nil ((e253 c36 c51 c255 c50 N _ _).trans h1)

def T241 (c251 : Option Bool) (c252 : List Int → List Int → Option ((List Int) × Int)) (c253 : List Int → List Int → Option ((List Int) × Int)) (c23 : List Int → List Int → Option Bool) : Nat → Option Ent
  | 251 => some (en251 c251)
  | 252 => some (en252 c252)
  | 253 => some (en253 c253)
  | 23 => some (en23 c23)
  | _ => none
def RW241 (c251 : Option Bool) (c252 : List Int → List Int → Option ((List Int) × Int)) (c253 : List Int → List Int → Option ((List Int) × Int)) (c23 : List Int → List Int → Option Bool) : Nat → List REnt
  | _ => []
def W241 (c251 : Option Bool) (c252 : List Int → List Int → Option ((List Int) × Int)) (c253 : List Int → List Int → Option ((List Int) × Int)) (c23 : List Int → List Int → Option Bool) (N : Nat) : LoopF (Sh.bool).T := fun no =>
  match no with
  | _ => fun _ _ => none
theorem e241 (c251 : Option Bool) (c252 : List Int → List Int → Option ((List Int) × Int)) (c253 : List Int → List Int → Option ((List Int) × Int)) (c23 : List Int → List Int → Option Bool) (N : Nat) (a0 : List Int) (a1 : List Int) : evc (T241 c251 c252 c253 c23) (rawOf (RW241 c251 c252 c253 c23)) (W241 c251 c252 c253 c23 N) (retc k241.res Sh.bool) (modeOf FT) 0 fuelC k241.body (env0 k241 (encL [(Sh.sl (Sh.int .u8)), (Sh.sl (Sh.int .u8))] (a0, (a1, ()))), []) (endK (retc k241.res Sh.bool)) = p241 c251 c252 c253 c23 N a0 a1 := by kernel_rfl
theorem ok241 (c251 : Option Bool) (c252 : List Int → List Int → Option ((List Int) × Int)) (c253 : List Int → List Int → Option ((List Int) × Int)) (c23 : List Int → List Int → Option Bool) (h251 : EntOK FT XT 251 (en251 c251)) (h252 : EntOK FT XT 252 (en252 c252)) (h253 : EntOK FT XT 253 (en253 c253)) (h23 : EntOK FT XT 23 (en23 c23)) {f : List Int → List Int → Option Bool} (hf : ∀ a0 a1 r, f a0 a1 = some r → ∃ N, p241 c251 c252 c253 c23 N a0 a1 = some r) : EntOK FT XT 241 (en241 f) := by
  have hT : TabOK FT XT (T241 c251 c252 c253 c23) := by
    intro g en hg
    unfold T241 at hg
    split at hg <;> first | (injection hg with hg; subst hg; assumption) | cases hg
  have hO : RawOK FT XT (rawOf (α := (Sh.bool).T) (RW241 c251 c252 c253 c23)) := by
    refine rawOf_ok (fun g en hg => ?_)
    unfold RW241 at hg
    split at hg <;> simp only [List.mem_cons, List.not_mem_nil, or_false] at hg <;> first | (subst hg; assumption) | (rcases hg with rfl | rfl <;> assumption) | (rcases hg with rfl | rfl | rfl <;> assumption) | (rcases hg with rfl | rfl | rfl | rfl <;> assumption)
  refine ⟨rfl, fun v r h => ?_⟩
  obtain ⟨a0, a1, _⟩ := v
  obtain ⟨N, h1⟩ := hf _ _ _ h
  exact ans_c (R := Sh.bool) (tab := T241 c251 c252 c253 c23) (raw := (rawOf (RW241 c251 c252 c253 c23))) (LP := W241 c251 c252 c253 c23 N) (fu := fuelC) hT hO rfl rfl (Nat.le_of_ble_eq_true rfl) loopOK_nil ((e241 c251 c252 c253 c23 N _ _).trans h1)

def T270v0 : Nat → Option Ent
  | _ => none
def RW270v0 : Nat → List REnt
  | _ => []
def H270v0_0 : Trim := ⟨0, [], false, [0, 2, 3], []⟩
theorem l270v0_0 : loopN k270 0 = .loop H270v0_0 (bodyOf (loopN k270 0)) := by kernel_rfl
def P270v0_0 : Ps := ⟨[(0, (.slc 0 1)), (2, (.int .i64)), (3, (.int .i64)), (9, .u)], [(.ints false .u64)]⟩
def Q270v0_0 : Nat → Ps
  | 0 => ⟨[(0, .u), (2, .u), (3, .u), (9, .u)], [(.ints false .u64)]⟩
  | _ => noPs
def u270v0_0 (N n : Nat) (v : P270v0_0.T) (κ : (i : Nat) → (Q270v0_0 i).T → Option QR270v0.T) : Option QR270v0.T :=
  L270v0_0 N (fun (y0 : List Int) => κ 0 (((), ((), ((), ((), ())))), (y0, ()))) n v.1.1.1 v.1.1.2 v.1.2.1 v.1.2.2.1 v.2.1
def W270v0_0 (N : Nat) : LoopF QR270v0.T := fun no =>
  match no with
  | _ => fun _ _ => none
theorem b270v0_0 (N n : Nat) (v : P270v0_0.T) (κ : (i : Nat) → (Q270v0_0 i).T → Option QR270v0.T) :
    evc (T270v0) (rawOf (RW270v0)) (W270v0_0 N) (retr k270.res 1 QR270v0) (modeOf FT) 1 fuelC (bodyOf (loopN k270 0)) (P270v0_0.st v) (roundK 1 H270v0_0 P270v0_0 Q270v0_0 (u270v0_0 N n) κ) = u270v0_0 N (n + 1) v κ := by kernel_rfl
theorem o270v0_0 (hT : TabOK FT XT (T270v0)) (hO : RawOK FT XT (rawOf (α := QR270v0.T) (RW270v0))) (N : Nat) {s : St} {κ : Ex → St → Option QR270v0.T} {a : QR270v0.T} (h : lpOf 1 H270v0_0 P270v0_0 Q270v0_0 (u270v0_0 N N) s κ = some a) : Out FT XT 1 (retr k270.res 1 QR270v0) (loopN k270 0) s κ a := by
  rw [l270v0_0]
  exact loop_out (LP := W270v0_0 N) (fu := fuelC) hT hO (fun _ _ => rfl) (b270v0_0 N) loopOK_nil N h
def W270v0 (N : Nat) : LoopF QR270v0.T := fun no =>
  match no with
  | 0 => lpOf 1 H270v0_0 P270v0_0 Q270v0_0 (u270v0_0 N N)
  | _ => fun _ _ => none
theorem e270v0 (N : Nat) (v : PR270v0.T) : evc (T270v0) (rawOf (RW270v0)) (W270v0 N) (retr k270.res 1 QR270v0) (modeOf FT) 1 fuelC k270.body (env0 k270 (PR270v0.a.st v.1), stH PR270v0.h v.2) (endK (retr k270.res 1 QR270v0)) = p270v0 N v.1.1.1 v.1.1.2 v.2.1 := by kernel_rfl
theorem ok270v0 {f : Nat → Nat → List Int → Option ((Unit × Unit) × ((List Int) × Unit))} (hf : ∀ a0 a1 a2 r, f a0 a1 a2 = some r → ∃ N, p270v0 N a0 a1 a2 = some r) : REntOK FT XT 270 (rn270v0 f) := by
  have hT : TabOK FT XT (T270v0) := by
    intro g en hg
    unfold T270v0 at hg
    split at hg <;> first | (injection hg with hg; subst hg; assumption) | cases hg
  have hO : RawOK FT XT (rawOf (α := QR270v0.T) (RW270v0)) := by
    refine rawOf_ok (fun g en hg => ?_)
    unfold RW270v0 at hg
    split at hg <;> simp only [List.mem_cons, List.not_mem_nil, or_false] at hg <;> first | (subst hg; assumption) | (rcases hg with rfl | rfl <;> assumption) | (rcases hg with rfl | rfl | rfl <;> assumption) | (rcases hg with rfl | rfl | rfl | rfl <;> assumption)
  intro v r w h hw
  obtain ⟨N, h1⟩ := hf _ _ _ _ h
  exact ans_r (Q := QR270v0) (tab := T270v0) (raw := (rawOf (RW270v0))) (LP := W270v0 N) (fu := fuelC) hT hO rfl rfl (Nat.le_of_ble_eq_true rfl) rfl (loopOK_cons l270v0_0 (fun s κ a h => o270v0_0 hT hO N h) loopOK_nil) ((e270v0 N v).trans h1) hw

def T256 (c247 : Int → Option (List Int)) (d270v0 : Nat → Nat → List Int → Option ((Unit × Unit) × ((List Int) × Unit))) (c268 : Int → List Int → Option Int) : Nat → Option Ent
  | 247 => some (en247 c247)
  | 268 => some (en268 c268)
  | _ => none
def RW256 (c247 : Int → Option (List Int)) (d270v0 : Nat → Nat → List Int → Option ((Unit × Unit) × ((List Int) × Unit))) (c268 : Int → List Int → Option Int) : Nat → List REnt
  | 270 => [rn270v0 d270v0]
  | _ => []
def W256 (c247 : Int → Option (List Int)) (d270v0 : Nat → Nat → List Int → Option ((Unit × Unit) × ((List Int) × Unit))) (c268 : Int → List Int → Option Int) (N : Nat) : LoopF (((Sh.int .u64)).T) := fun no =>
  match no with
  | _ => fun _ _ => none
theorem e256 (c247 : Int → Option (List Int)) (d270v0 : Nat → Nat → List Int → Option ((Unit × Unit) × ((List Int) × Unit))) (c268 : Int → List Int → Option Int) (N : Nat) (a0 : Int) (a1 : Int) : evc (T256 c247 d270v0 c268) (rawOf (RW256 c247 d270v0 c268)) (W256 c247 d270v0 c268 N) (retc k256.res (Sh.int .u64)) (modeOf FT) 0 fuelC k256.body (env0 k256 (encL [(Sh.int .u64), (Sh.int .u64)] (a0, (a1, ()))), []) (endK (retc k256.res (Sh.int .u64))) = p256 c247 d270v0 c268 N a0 a1 := by kernel_rfl
theorem ok256 (c247 : Int → Option (List Int)) (d270v0 : Nat → Nat → List Int → Option ((Unit × Unit) × ((List Int) × Unit))) (c268 : Int → List Int → Option Int) (h247 : EntOK FT XT 247 (en247 c247)) (h268 : EntOK FT XT 268 (en268 c268)) (h270v0 : REntOK FT XT 270 (rn270v0 d270v0)) {f : Int → Int → Option Int} (hf : ∀ a0 a1 r, f a0 a1 = some r → ∃ N, p256 c247 d270v0 c268 N a0 a1 = some r) : EntOK FT XT 256 (en256 f) := by
  have hT : TabOK FT XT (T256 c247 d270v0 c268) := by
    intro g en hg
    unfold T256 at hg
    split at hg <;> first | (injection hg with hg; subst hg; assumption) | cases hg
  have hO : RawOK FT XT (rawOf (α := ((Sh.int .u64)).T) (RW256 c247 d270v0 c268)) := by
    refine rawOf_ok (fun g en hg => ?_)
    unfold RW256 at hg
    split at hg <;> simp only [List.mem_cons, List.not_mem_nil, or_false] at hg <;> first | (subst hg; assumption) | (rcases hg with rfl | rfl <;> assumption) | (rcases hg with rfl | rfl | rfl <;> assumption) | (rcases hg with rfl | rfl | rfl | rfl <;> assumption)
  refine ⟨rfl, fun v r h => ?_⟩
  obtain ⟨a0, a1, _⟩ := v
  obtain ⟨N, h1⟩ := hf _ _ _ h
  exact ans_c (R := (Sh.int .u64)) (tab := T256 c247 d270v0 c268) (raw := (rawOf (RW256 c247 d270v0 c268))) (LP := W256 c247 d270v0 c268 N) (fu := fuelC) hT hO rfl rfl (Nat.le_of_ble_eq_true rfl) loopOK_nil ((e256 c247 d270v0 c268 N _ _).trans h1)

def T257 (c264 : Int → Option (List (List Int))) (c269 : Int → List (List Int) → Option Int) : Nat → Option Ent
  | 264 => some (en264 c264)
  | 269 => some (en269 c269)
  | _ => none
def RW257 (c264 : Int → Option (List (List Int))) (c269 : Int → List (List Int) → Option Int) : Nat → List REnt
  | _ => []
def H257_0 : Trim := ⟨0, [], false, [1, 5, 6, 7], [(6, (.imm []), 1)]⟩
theorem l257_0 : loopN k257 0 = .loop H257_0 (bodyOf (loopN k257 0)) := by kernel_rfl
def P257_0 : Ps := ⟨[(0, .u), (1, (.int .u64)), (4, .u), (5, (.tb (Sh.sl (Sh.int .u8)))), (6, (.sl 0 1)), (7, (.int .i64)), (14, .u)], [(.imm false)]⟩
def Q257_0 : Nat → Ps
  | 0 => ⟨[(0, .u), (1, (.int .u64)), (4, .u), (5, .u), (6, (.sl 0 1)), (7, .u), (14, .u)], [(.imm false)]⟩
  | _ => noPs
def u257_0 (c264 : Int → Option (List (List Int))) (c269 : Int → List (List Int) → Option Int) (N n : Nat) (v : P257_0.T) (κ : (i : Nat) → (Q257_0 i).T → Option (((Sh.int .u64)).T)) : Option (((Sh.int .u64)).T) :=
  L257_0 c264 c269 N (fun (y0 : Int) (y1 : Nat) (y2 : List V) => κ 0 (((), (y0, ((), ((), (y1, ((), ((), ()))))))), (y2, ()))) n v.1.2.1 v.1.2.2.2.1 v.1.2.2.2.2.1 v.1.2.2.2.2.2.1 v.2.1
def W257_0 (c264 : Int → Option (List (List Int))) (c269 : Int → List (List Int) → Option Int) (N : Nat) : LoopF (((Sh.int .u64)).T) := fun no =>
  match no with
  | _ => fun _ _ => none
theorem b257_0 (c264 : Int → Option (List (List Int))) (c269 : Int → List (List Int) → Option Int) (N n : Nat) (v : P257_0.T) (κ : (i : Nat) → (Q257_0 i).T → Option (((Sh.int .u64)).T)) :
    evc (T257 c264 c269) (rawOf (RW257 c264 c269)) (W257_0 c264 c269 N) (retc k257.res (Sh.int .u64)) (modeOf FT) 0 fuelC (bodyOf (loopN k257 0)) (P257_0.st v) (roundK 0 H257_0 P257_0 Q257_0 (u257_0 c264 c269 N n) κ) = u257_0 c264 c269 N (n + 1) v κ := by kernel_rfl
theorem o257_0 (c264 : Int → Option (List (List Int))) (c269 : Int → List (List Int) → Option Int) (hT : TabOK FT XT (T257 c264 c269)) (hO : RawOK FT XT (rawOf (α := ((Sh.int .u64)).T) (RW257 c264 c269))) (N : Nat) {s : St} {κ : Ex → St → Option (((Sh.int .u64)).T)} {a : ((Sh.int .u64)).T} (h : lpOf 0 H257_0 P257_0 Q257_0 (u257_0 c264 c269 N N) s κ = some a) : Out FT XT 0 (retc k257.res (Sh.int .u64)) (loopN k257 0) s κ a := by
  rw [l257_0]
  exact loop_out (LP := W257_0 c264 c269 N) (fu := fuelC) hT hO (fun _ _ => rfl) (b257_0 c264 c269 N) loopOK_nil N h
def W257 (c264 : Int → Option (List (List Int))) (c269 : Int → List (List Int) → Option Int) (N : Nat) : LoopF (((Sh.int .u64)).T) := fun no =>
  match no with
  | 0 => lpOf 0 H257_0 P257_0 Q257_0 (u257_0 c264 c269 N N)
  | _ => fun _ _ => none
theorem e257 (c264 : Int → Option (List (List Int))) (c269 : Int → List (List Int) → Option Int) (N : Nat) (a0 : Int) (a1 : Int) : evc (T257 c264 c269) (rawOf (RW257 c264 c269)) (W257 c264 c269 N) (retc k257.res (Sh.int .u64)) (modeOf FT) 0 fuelC k257.body (env0 k257 (encL [(Sh.int .u64), (Sh.int .u64)] (a0, (a1, ()))), []) (endK (retc k257.res (Sh.int .u64))) = p257 c264 c269 N a0 a1 := by kernel_rfl
theorem ok257 (c264 : Int → Option (List (List Int))) (c269 : Int → List (List Int) → Option Int) (h264 : EntOK FT XT 264 (en264 c264)) (h269 : EntOK FT XT 269 (en269 c269)) {f : Int → Int → Option Int} (hf : ∀ a0 a1 r, f a0 a1 = some r → ∃ N, p257 c264 c269 N a0 a1 = some r) : EntOK FT XT 257 (en257 f) := by
  have hT : TabOK FT XT (T257 c264 c269) := by
    intro g en hg
    unfold T257 at hg
    split at hg <;> first | (injection hg with hg; subst hg; assumption) | cases hg
  have hO : RawOK FT XT (rawOf (α := ((Sh.int .u64)).T) (RW257 c264 c269)) := by
    refine rawOf_ok (fun g en hg => ?_)
    unfold RW257 at hg
    split at hg <;> simp only [List.mem_cons, List.not_mem_nil, or_false] at hg <;> first | (subst hg; assumption) | (rcases hg with rfl | rfl <;> assumption) | (rcases hg with rfl | rfl | rfl <;> assumption) | (rcases hg with rfl | rfl | rfl | rfl <;> assumption)
  refine ⟨rfl, fun v r h => ?_⟩
  obtain ⟨a0, a1, _⟩ := v
  obtain ⟨N, h1⟩ := hf _ _ _ h
  exact ans_c (R := (Sh.int .u64)) (tab := T257 c264 c269) (raw := (rawOf (RW257 c264 c269))) (LP := W257 c264 c269 N) (fu := fuelC) hT hO rfl rfl (Nat.le_of_ble_eq_true rfl) (loopOK_cons l257_0 (fun s κ a h => o257_0 c264 c269 hT hO N h) loopOK_nil) ((e257 c264 c269 N _ _).trans h1)

def T242 (c254 : Int → Int → Option Int) (c255 : Int → Int → Option Int) (c256 : Int → Int → Option Int) (c257 : Int → Int → Option Int) (c251 : Option Bool) : Nat → Option Ent
  | 254 => some (en254 c254)
  | 255 => some (en255 c255)
  | 256 => some (en256 c256)
  | 257 => some (en257 c257)
  | 251 => some (en251 c251)
  | _ => none
def RW242 (c254 : Int → Int → Option Int) (c255 : Int → Int → Option Int) (c256 : Int → Int → Option Int) (c257 : Int → Int → Option Int) (c251 : Option Bool) : Nat → List REnt
  | _ => []
def W242 (c254 : Int → Int → Option Int) (c255 : Int → Int → Option Int) (c256 : Int → Int → Option Int) (c257 : Int → Int → Option Int) (c251 : Option Bool) (N : Nat) : LoopF (Sh.bool).T := fun no =>
  match no with
  | _ => fun _ _ => none
theorem e242 (c254 : Int → Int → Option Int) (c255 : Int → Int → Option Int) (c256 : Int → Int → Option Int) (c257 : Int → Int → Option Int) (c251 : Option Bool) (N : Nat) (a0 : Int) (a1 : Int) : evc (T242 c254 c255 c256 c257 c251) (rawOf (RW242 c254 c255 c256 c257 c251)) (W242 c254 c255 c256 c257 c251 N) (retc k242.res Sh.bool) (modeOf FT) 0 fuelC k242.body (env0 k242 (encL [(Sh.int .u64), (Sh.int .u64)] (a0, (a1, ()))), []) (endK (retc k242.res Sh.bool)) = p242 c254 c255 c256 c257 c251 N a0 a1 := by kernel_rfl
theorem ok242 (c254 : Int → Int → Option Int) (c255 : Int → Int → Option Int) (c256 : Int → Int → Option Int) (c257 : Int → Int → Option Int) (c251 : Option Bool) (h254 : EntOK FT XT 254 (en254 c254)) (h255 : EntOK FT XT 255 (en255 c255)) (h256 : EntOK FT XT 256 (en256 c256)) (h257 : EntOK FT XT 257 (en257 c257)) (h251 : EntOK FT XT 251 (en251 c251)) {f : Int → Int → Option Bool} (hf : ∀ a0 a1 r, f a0 a1 = some r → ∃ N, p242 c254 c255 c256 c257 c251 N a0 a1 = some r) : EntOK FT XT 242 (en242 f) := by
  have hT : TabOK FT XT (T242 c254 c255 c256 c257 c251) := by
    intro g en hg
    unfold T242 at hg
    split at hg <;> first | (injection hg with hg; subst hg; assumption) | cases hg
  have hO : RawOK FT XT (rawOf (α := (Sh.bool).T) (RW242 c254 c255 c256 c257 c251)) := by
    refine rawOf_ok (fun g en hg => ?_)
    unfold RW242 at hg
    split at hg <;> simp only [List.mem_cons, List.not_mem_nil, or_false] at hg <;> first | (subst hg; assumption) | (rcases hg with rfl | rfl <;> assumption) | (rcases hg with rfl | rfl | rfl <;> assumption) | (rcases hg with rfl | rfl | rfl | rfl <;> assumption)
  refine ⟨rfl, fun v r h => ?_⟩
  obtain ⟨a0, a1, _⟩ := v
  obtain ⟨N, h1⟩ := hf _ _ _ h
  exact ans_c (R := Sh.bool) (tab := T242 c254 c255 c256 c257 c251) (raw := (rawOf (RW242 c254 c255 c256 c257 c251))) (LP := W242 c254 c255 c256 c257 c251 N) (fu := fuelC) hT hO rfl rfl (Nat.le_of_ble_eq_true rfl) loopOK_nil ((e242 c254 c255 c256 c257 c251 N _ _).trans h1)

def T243 (c254 : Int → Int → Option Int) (c256 : Int → Int → Option Int) (c251 : Option Bool) : Nat → Option Ent
  | 254 => some (en254 c254)
  | 256 => some (en256 c256)
  | 251 => some (en251 c251)
  | _ => none
def RW243 (c254 : Int → Int → Option Int) (c256 : Int → Int → Option Int) (c251 : Option Bool) : Nat → List REnt
  | _ => []
def W243 (c254 : Int → Int → Option Int) (c256 : Int → Int → Option Int) (c251 : Option Bool) (N : Nat) : LoopF (Sh.bool).T := fun no =>
  match no with
  | _ => fun _ _ => none
theorem e243 (c254 : Int → Int → Option Int) (c256 : Int → Int → Option Int) (c251 : Option Bool) (N : Nat) (a0 : Int) (a1 : Int) (a2 : Int) : evc (T243 c254 c256 c251) (rawOf (RW243 c254 c256 c251)) (W243 c254 c256 c251 N) (retc k243.res Sh.bool) (modeOf FT) 0 fuelC k243.body (env0 k243 (encL [(Sh.int .u64), (Sh.int .u64), (Sh.int .u64)] (a0, (a1, (a2, ())))), []) (endK (retc k243.res Sh.bool)) = p243 c254 c256 c251 N a0 a1 a2 := by kernel_rfl
theorem ok243 (c254 : Int → Int → Option Int) (c256 : Int → Int → Option Int) (c251 : Option Bool) (h254 : EntOK FT XT 254 (en254 c254)) (h256 : EntOK FT XT 256 (en256 c256)) (h251 : EntOK FT XT 251 (en251 c251)) {f : Int → Int → Int → Option Bool} (hf : ∀ a0 a1 a2 r, f a0 a1 a2 = some r → ∃ N, p243 c254 c256 c251 N a0 a1 a2 = some r) : EntOK FT XT 243 (en243 f) := by
  have hT : TabOK FT XT (T243 c254 c256 c251) := by
    intro g en hg
    unfold T243 at hg
    split at hg <;> first | (injection hg with hg; subst hg; assumption) | cases hg
  have hO : RawOK FT XT (rawOf (α := (Sh.bool).T) (RW243 c254 c256 c251)) := by
    refine rawOf_ok (fun g en hg => ?_)
    unfold RW243 at hg
    split at hg <;> simp only [List.mem_cons, List.not_mem_nil, or_false] at hg <;> first | (subst hg; assumption) | (rcases hg with rfl | rfl <;> assumption) | (rcases hg with rfl | rfl | rfl <;> assumption) | (rcases hg with rfl | rfl | rfl | rfl <;> assumption)
  refine ⟨rfl, fun v r h => ?_⟩
  obtain ⟨a0, a1, a2, _⟩ := v
  obtain ⟨N, h1⟩ := hf _ _ _ _ h
  exact ans_c (R := Sh.bool) (tab := T243 c254 c256 c251) (raw := (rawOf (RW243 c254 c256 c251))) (LP := W243 c254 c256 c251 N) (fu := fuelC) hT hO rfl rfl (Nat.le_of_ble_eq_true rfl) loopOK_nil ((e243 c254 c256 c251 N _ _ _).trans h1)

def T244 (c254 : Int → Int → Option Int) (c256 : Int → Int → Option Int) (c251 : Option Bool) : Nat → Option Ent
  | 254 => some (en254 c254)
  | 256 => some (en256 c256)
  | 251 => some (en251 c251)
  | _ => none
def RW244 (c254 : Int → Int → Option Int) (c256 : Int → Int → Option Int) (c251 : Option Bool) : Nat → List REnt
  | _ => []
def W244 (c254 : Int → Int → Option Int) (c256 : Int → Int → Option Int) (c251 : Option Bool) (N : Nat) : LoopF (Sh.bool).T := fun no =>
  match no with
  | _ => fun _ _ => none
theorem e244 (c254 : Int → Int → Option Int) (c256 : Int → Int → Option Int) (c251 : Option Bool) (N : Nat) (a0 : Int) (a1 : Int) : evc (T244 c254 c256 c251) (rawOf (RW244 c254 c256 c251)) (W244 c254 c256 c251 N) (retc k244.res Sh.bool) (modeOf FT) 0 fuelC k244.body (env0 k244 (encL [(Sh.int .u64), (Sh.int .u64)] (a0, (a1, ()))), []) (endK (retc k244.res Sh.bool)) = p244 c254 c256 c251 N a0 a1 := by kernel_rfl
theorem ok244 (c254 : Int → Int → Option Int) (c256 : Int → Int → Option Int) (c251 : Option Bool) (h254 : EntOK FT XT 254 (en254 c254)) (h256 : EntOK FT XT 256 (en256 c256)) (h251 : EntOK FT XT 251 (en251 c251)) {f : Int → Int → Option Bool} (hf : ∀ a0 a1 r, f a0 a1 = some r → ∃ N, p244 c254 c256 c251 N a0 a1 = some r) : EntOK FT XT 244 (en244 f) := by
  have hT : TabOK FT XT (T244 c254 c256 c251) := by
    intro g en hg
    unfold T244 at hg
    split at hg <;> first | (injection hg with hg; subst hg; assumption) | cases hg
  have hO : RawOK FT XT (rawOf (α := (Sh.bool).T) (RW244 c254 c256 c251)) := by
    refine rawOf_ok (fun g en hg => ?_)
    unfold RW244 at hg
    split at hg <;> simp only [List.mem_cons, List.not_mem_nil, or_false] at hg <;> first | (subst hg; assumption) | (rcases hg with rfl | rfl <;> assumption) | (rcases hg with rfl | rfl | rfl <;> assumption) | (rcases hg with rfl | rfl | rfl | rfl <;> assumption)
  refine ⟨rfl, fun v r h => ?_⟩
  obtain ⟨a0, a1, _⟩ := v
  obtain ⟨N, h1⟩ := hf _ _ _ h
  exact ans_c (R := Sh.bool) (tab := T244 c254 c256 c251) (raw := (rawOf (RW244 c254 c256 c251))) (LP := W244 c254 c256 c251 N) (fu := fuelC) hT hO rfl rfl (Nat.le_of_ble_eq_true rfl) loopOK_nil ((e244 c254 c256 c251 N _ _).trans h1)
end Go.Proofs.YtpiadkdalilmnaaE
