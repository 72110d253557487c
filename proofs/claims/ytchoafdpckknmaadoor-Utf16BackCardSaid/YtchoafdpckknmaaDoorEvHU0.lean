/- The plain functions are the evaluator's. -/
import Derived.Test.YtchoafdpckknmaaDoorEvGU0
import Derived.KernelRfl
namespace Go.Proofs.YtchoafdpckknmaaDoorE.U0
open Go
set_option linter.unusedVariables false
set_option linter.unusedSimpArgs false

def T21 : Nat → Option Ent := tb []
def H21_0 : Trim := ⟨0, [], false, [1, 6, 17, 18, 19], []⟩
theorem l21_0 : loopN k21 0 = .loop H21_0 (bodyOf (loopN k21 0)) := by kernel_rfl
def P21_0 : Ps := ⟨[(0, .u), (1, .bool), (4, .u), (5, .u), (6, (.int .u64)), (7, .u), (8, .u), (16, .u), (17, (.tb (Sh.int .u8))), (18, (.int .i64)), (19, (.int .i64)), (20, .u), (24, .u)], []⟩
def Q21_0 : Nat → Ps
  | 0 => ⟨[(0, .u), (1, .u), (4, .u), (5, .u), (6, (.int .u64)), (7, .u), (8, .u), (16, .u), (17, .u), (18, .u), (19, .u), (20, .u), (24, .u)], []⟩
  | _ => noPs
def u21_0 (N n : Nat) (v : P21_0.T) (κ : (i : Nat) → (Q21_0 i).T → Option (((Sh.tu (Sh.pr (Sh.int .u64) (Sh.int .i64)))).T)) : Option (((Sh.tu (Sh.pr (Sh.int .u64) (Sh.int .i64)))).T) :=
  L21_0 N (fun (y0 : Int) => κ 0 (((), ((), ((), ((), (y0, ((), ((), ((), ((), ((), ((), ((), ((), ()))))))))))))), ())) n v.1.2.1 v.1.2.2.2.2.1 v.1.2.2.2.2.2.2.2.2.1 v.1.2.2.2.2.2.2.2.2.2.1 v.1.2.2.2.2.2.2.2.2.2.2.1
def W21_0 (N : Nat) : LoopF (((Sh.tu (Sh.pr (Sh.int .u64) (Sh.int .i64)))).T) := fun no =>
  match no with
  | _ => fun _ _ => none
theorem b21_0 (N n : Nat) (v : P21_0.T) (κ : (i : Nat) → (Q21_0 i).T → Option (((Sh.tu (Sh.pr (Sh.int .u64) (Sh.int .i64)))).T)) :
    evc (T21) (rawOf RW0) (W21_0 N) (retc k21.res (Sh.tu (Sh.pr (Sh.int .u64) (Sh.int .i64)))) (modeOf FT) 0 fuelC (bodyOf (loopN k21 0)) (P21_0.st v) (roundK 0 H21_0 P21_0 Q21_0 (u21_0 N n) κ) = u21_0 N (n + 1) v κ := by kernel_rfl
theorem o21_0 (hT : TabOK FT XT (T21)) (hO : RawOK FT XT (rawOf (α := ((Sh.tu (Sh.pr (Sh.int .u64) (Sh.int .i64)))).T) RW0)) (N : Nat) {s : St} {κ : Ex → St → Option (((Sh.tu (Sh.pr (Sh.int .u64) (Sh.int .i64)))).T)} {a : ((Sh.tu (Sh.pr (Sh.int .u64) (Sh.int .i64)))).T} (h : lpOf 0 H21_0 P21_0 Q21_0 (u21_0 N N) s κ = some a) : Out FT XT 0 (retc k21.res (Sh.tu (Sh.pr (Sh.int .u64) (Sh.int .i64)))) (loopN k21 0) s κ a := by
  rw [l21_0]
  exact loop_out (LP := W21_0 N) (fu := fuelC) hT hO (fun _ _ => rfl) (b21_0 N) loopOK_nil N h
def W21 (N : Nat) : LoopF (((Sh.tu (Sh.pr (Sh.int .u64) (Sh.int .i64)))).T) := fun no =>
  match no with
  | 0 => lpOf 0 H21_0 P21_0 Q21_0 (u21_0 N N)
  | _ => fun _ _ => none
theorem e21 (N : Nat) (a0 : List Int) (a1 : Bool) : evc (T21) (rawOf RW0) (W21 N) (retc k21.res (Sh.tu (Sh.pr (Sh.int .u64) (Sh.int .i64)))) (modeOf FT) 0 fuelC k21.body (env0 k21 (encL [(Sh.sl (Sh.int .u8)), Sh.bool] (a0, (a1, ()))), []) (endK (retc k21.res (Sh.tu (Sh.pr (Sh.int .u64) (Sh.int .i64))))) = p21 N a0 a1 := by kernel_rfl
theorem ok21 {f : D21} (hf : ∀ a0 a1 r, f a0 a1 = some r → ∃ N, p21 N a0 a1 = some r) : O21 f := by
  have hT : TabOK FT XT (T21) := tb0
  have hO0 : RawOK FT XT (rawOf (α := ((Sh.tu (Sh.pr (Sh.int .u64) (Sh.int .i64)))).T) RW0) := rawOK0
  have hO : RawOK FT XT (rawOf (α := ((Sh.tu (Sh.pr (Sh.int .u64) (Sh.int .i64)))).T) RW0) := hO0
  refine ⟨rfl, fun v r h => ?_⟩
  obtain ⟨a0, a1, _⟩ := v
  obtain ⟨N, h1⟩ := hf _ _ _ h
  exact ans_c (R := (Sh.tu (Sh.pr (Sh.int .u64) (Sh.int .i64)))) (tab := T21) (raw := (rawOf RW0)) (LP := W21 N) (fu := fuelC) hT hO rfl rfl (Nat.le_of_ble_eq_true rfl) (loopOK_cons l21_0 (fun s κ a h => o21_0 hT hO N h) loopOK_nil) ((e21 N _ _).trans h1)

def T397 : Nat → Option Ent := tb []
def H397_0 : Trim := ⟨0, [], false, [2, 4], []⟩
theorem l397_0 : loopN k397 0 = .loop H397_0 (bodyOf (loopN k397 0)) := by kernel_rfl
def P397_0 : Ps := ⟨[(0, .u), (2, (.int .i64)), (4, (.ptr 0 0)), (6, .u)], [.iter]⟩
def Q397_0 : Nat → Ps
  | 0 => ⟨[(0, .u), (2, (.int .i64)), (4, .u), (6, .u)], []⟩
  | _ => noPs
def u397_0 (N n : Nat) (v : P397_0.T) (κ : (i : Nat) → (Q397_0 i).T → Option (((Sh.int .i64)).T)) : Option (((Sh.int .i64)).T) :=
  L397_0 N (fun (y0 : Int) => κ 0 (((), (y0, ((), ((), ())))), ())) n v.1.2.1 v.2.1.1 v.2.1.2
def W397_0 (N : Nat) : LoopF (((Sh.int .i64)).T) := fun no =>
  match no with
  | _ => fun _ _ => none
theorem b397_0 (N n : Nat) (v : P397_0.T) (κ : (i : Nat) → (Q397_0 i).T → Option (((Sh.int .i64)).T)) :
    evc (T397) (rawOf RW0) (W397_0 N) (retc k397.res (Sh.int .i64)) (modeOf FT) 0 fuelC (bodyOf (loopN k397 0)) (P397_0.st v) (roundK 0 H397_0 P397_0 Q397_0 (u397_0 N n) κ) = u397_0 N (n + 1) v κ := by kernel_rfl
theorem o397_0 (hT : TabOK FT XT (T397)) (hO : RawOK FT XT (rawOf (α := ((Sh.int .i64)).T) RW0)) (N : Nat) {s : St} {κ : Ex → St → Option (((Sh.int .i64)).T)} {a : ((Sh.int .i64)).T} (h : lpOf 0 H397_0 P397_0 Q397_0 (u397_0 N N) s κ = some a) : Out FT XT 0 (retc k397.res (Sh.int .i64)) (loopN k397 0) s κ a := by
  rw [l397_0]
  exact loop_out (LP := W397_0 N) (fu := fuelC) hT hO (fun _ _ => rfl) (b397_0 N) loopOK_nil N h
def W397 (N : Nat) : LoopF (((Sh.int .i64)).T) := fun no =>
  match no with
  | 0 => lpOf 0 H397_0 P397_0 Q397_0 (u397_0 N N)
  | _ => fun _ _ => none
theorem e397 (N : Nat) (a0 : List UInt8) : evc (T397) (rawOf RW0) (W397 N) (retc k397.res (Sh.int .i64)) (modeOf FT) 0 fuelC k397.body (env0 k397 (encL [Sh.str] (a0, ())), []) (endK (retc k397.res (Sh.int .i64))) = p397 N a0 := by kernel_rfl
theorem ok397 {f : D397} (hf : ∀ a0 r, f a0 = some r → ∃ N, p397 N a0 = some r) : O397 f := by
  have hT : TabOK FT XT (T397) := tb0
  have hO0 : RawOK FT XT (rawOf (α := ((Sh.int .i64)).T) RW0) := rawOK0
  have hO : RawOK FT XT (rawOf (α := ((Sh.int .i64)).T) RW0) := hO0
  refine ⟨rfl, fun v r h => ?_⟩
  obtain ⟨a0, _⟩ := v
  obtain ⟨N, h1⟩ := hf _ _ h
  exact ans_c (R := (Sh.int .i64)) (tab := T397) (raw := (rawOf RW0)) (LP := W397 N) (fu := fuelC) hT hO rfl rfl (Nat.le_of_ble_eq_true rfl) (loopOK_cons l397_0 (fun s κ a h => o397_0 hT hO N h) loopOK_nil) ((e397 N _).trans h1)

theorem ok417 (c21 : D21) (h21 : O21 c21) {f : D417} (hf : ∀ a0 r, f a0 = some r → ∃ N, p417 c21 N a0 = some r) : O417 f :=
 okc (fu := fuelC) (tb1 h21 tb0) rfl rfl rfl (fun _ => rfl) (fun v r h => by
 obtain ⟨N, h⟩ := hf v.1 r h
 refine Eq.trans ?_ h; kernel_rfl) rfl

theorem ok413 (c417 : D417) (h417 : O417 c417) {f : D413} (hf : ∀ a0 r, f a0 = some r → ∃ N, p413 c417 N a0 = some r) : O413 f :=
 okc (fu := fuelC) (tb1 h417 tb0) rfl rfl rfl (fun _ => rfl) (fun v r h => by
 obtain ⟨N, h⟩ := hf v.1 r h
 refine Eq.trans ?_ h; kernel_rfl) rfl
end Go.Proofs.YtchoafdpckknmaaDoorE.U0
