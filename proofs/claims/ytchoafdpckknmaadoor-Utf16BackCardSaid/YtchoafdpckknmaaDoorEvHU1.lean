/- The plain functions are the evaluator's. -/
import Derived.Test.YtchoafdpckknmaaDoorEvGU1
import Derived.KernelRfl
namespace Go.Proofs.YtchoafdpckknmaaDoorE
open Go
set_option linter.unusedVariables false
set_option linter.unusedSimpArgs false

def T48v0 : Nat → Option Ent := tb []
def H48v0_0 : Trim := ⟨0, [], false, [0, 2, 3], []⟩
theorem l48v0_0 : loopN k48 0 = .loop H48v0_0 (bodyOf (loopN k48 0)) := by kernel_rfl
def P48v0_0 : Ps := ⟨[(0, (.slc 0 1)), (2, (.int .i64)), (3, (.int .i64)), (9, .u)], [(.ints false .u8)]⟩
def Q48v0_0 : Nat → Ps
  | 0 => ⟨[(0, .u), (2, .u), (3, .u), (9, .u)], [(.ints false .u8)]⟩
  | _ => noPs
def u48v0_0 (N n : Nat) (v : P48v0_0.T) (κ : (i : Nat) → (Q48v0_0 i).T → Option QR48v0.T) : Option QR48v0.T :=
  L48v0_0 N (fun (y0 : List Int) => κ 0 (((), ((), ((), ((), ())))), (y0, ()))) n v.1.1.1 v.1.1.2 v.1.2.1 v.1.2.2.1 v.2.1
def W48v0_0 (N : Nat) : LoopF QR48v0.T := fun no =>
  match no with
  | _ => fun _ _ => none
theorem b48v0_0 (N n : Nat) (v : P48v0_0.T) (κ : (i : Nat) → (Q48v0_0 i).T → Option QR48v0.T) :
    evc (T48v0) (rawOf RW0) (W48v0_0 N) (retr k48.res 1 QR48v0) (modeOf FT) 1 fuelC (bodyOf (loopN k48 0)) (P48v0_0.st v) (roundK 1 H48v0_0 P48v0_0 Q48v0_0 (u48v0_0 N n) κ) = u48v0_0 N (n + 1) v κ := by kernel_rfl
theorem o48v0_0 (hT : TabOK FT XU (T48v0)) (hO : RawOK FT XU (rawOf (α := QR48v0.T) RW0)) (N : Nat) {s : St} {κ : Ex → St → Option QR48v0.T} {a : QR48v0.T} (h : lpOf 1 H48v0_0 P48v0_0 Q48v0_0 (u48v0_0 N N) s κ = some a) : Out FT XU 1 (retr k48.res 1 QR48v0) (loopN k48 0) s κ a := by
  rw [l48v0_0]
  exact loop_out (LP := W48v0_0 N) (fu := fuelC) hT hO (fun _ _ => rfl) (b48v0_0 N) loopOK_nil N h
def W48v0 (N : Nat) : LoopF QR48v0.T := fun no =>
  match no with
  | 0 => lpOf 1 H48v0_0 P48v0_0 Q48v0_0 (u48v0_0 N N)
  | _ => fun _ _ => none
theorem e48v0 (N : Nat) (v : PR48v0.T) : evc (T48v0) (rawOf RW0) (W48v0 N) (retr k48.res 1 QR48v0) (modeOf FT) 1 fuelC k48.body (env0 k48 (PR48v0.a.st v.1), stH PR48v0.h v.2) (endK (retr k48.res 1 QR48v0)) = p48v0 N v.1.1.1 v.1.1.2 v.2.1 := by kernel_rfl
theorem ok48v0 {f : D48v0} (hf : ∀ a0 a1 a2 r, f a0 a1 a2 = some r → ∃ N, p48v0 N a0 a1 a2 = some r) : O48v0 f := by
  have hT : TabOK FT XU (T48v0) := tb0
  have hO0 : RawOK FT XU (rawOf (α := QR48v0.T) RW0) := rawOK0
  have hO : RawOK FT XU (rawOf (α := QR48v0.T) RW0) := hO0
  intro v r w h hw
  obtain ⟨N, h1⟩ := hf _ _ _ _ h
  exact ans_r (Q := QR48v0) (tab := T48v0) (raw := (rawOf RW0)) (LP := W48v0 N) (fu := fuelC) hT hO rfl rfl (Nat.le_of_ble_eq_true rfl) rfl (loopOK_cons l48v0_0 (fun s κ a h => o48v0_0 hT hO N h) loopOK_nil) ((e48v0 N v).trans h1) hw

def T19 (d48v0 : D48v0) : Nat → Option Ent := tb []
def RW19 (d48v0 : D48v0) : Nat → List REnt
  | 48 => [rn48v0 d48v0]
  | _ => []
def H19_0 : Trim := ⟨0, [], false, [0, 2, 8, 19, 20], []⟩
theorem l19_0 : loopN k19 0 = .loop H19_0 (bodyOf (loopN k19 0)) := by kernel_rfl
def P19_0 : Ps := ⟨[(0, (.int .u64)), (1, .u), (2, .bool), (6, .u), (7, .u), (8, (.slc 0 1)), (9, .u), (15, .u), (19, (.int .i64)), (20, (.int .i64)), (21, .u), (33, .u)], [(.ints false .u8)]⟩
def Q19_0 : Nat → Ps
  | 0 => ⟨[(0, .u), (1, .u), (2, .bool), (6, .u), (7, .u), (8, (.slc 0 1)), (9, .u), (15, .u), (19, .u), (20, .u), (21, .u), (33, .u)], [(.ints false .u8)]⟩
  | _ => noPs
def u19_0 (d48v0 : D48v0) (N n : Nat) (v : P19_0.T) (κ : (i : Nat) → (Q19_0 i).T → Option (((Sh.tu (Sh.pr (Sh.sl (Sh.int .u8)) (Sh.int .i64)))).T)) : Option (((Sh.tu (Sh.pr (Sh.sl (Sh.int .u8)) (Sh.int .i64)))).T) :=
  L19_0 d48v0 N (fun (y0 : Bool) (y1 : Nat) (y2 : Nat) (y3 : List Int) => κ 0 (((), ((), (y0, ((), ((), ((y1, y2), ((), ((), ((), ((), ((), ((), ())))))))))))), (y3, ()))) n v.1.1 v.1.2.2.1 v.1.2.2.2.2.2.1.1 v.1.2.2.2.2.2.1.2 v.1.2.2.2.2.2.2.2.2.1 v.1.2.2.2.2.2.2.2.2.2.1 v.2.1
def W19_0 (d48v0 : D48v0) (N : Nat) : LoopF (((Sh.tu (Sh.pr (Sh.sl (Sh.int .u8)) (Sh.int .i64)))).T) := fun no =>
  match no with
  | _ => fun _ _ => none
theorem b19_0 (d48v0 : D48v0) (N n : Nat) (v : P19_0.T) (κ : (i : Nat) → (Q19_0 i).T → Option (((Sh.tu (Sh.pr (Sh.sl (Sh.int .u8)) (Sh.int .i64)))).T)) :
    evc (T19 d48v0) (rawOf (RW19 d48v0)) (W19_0 d48v0 N) (retc k19.res (Sh.tu (Sh.pr (Sh.sl (Sh.int .u8)) (Sh.int .i64)))) (modeOf FT) 0 fuelC (bodyOf (loopN k19 0)) (P19_0.st v) (roundK 0 H19_0 P19_0 Q19_0 (u19_0 d48v0 N n) κ) = u19_0 d48v0 N (n + 1) v κ := by kernel_rfl
theorem o19_0 (d48v0 : D48v0) (hT : TabOK FT XU (T19 d48v0)) (hO : RawOK FT XU (rawOf (α := ((Sh.tu (Sh.pr (Sh.sl (Sh.int .u8)) (Sh.int .i64)))).T) (RW19 d48v0))) (N : Nat) {s : St} {κ : Ex → St → Option (((Sh.tu (Sh.pr (Sh.sl (Sh.int .u8)) (Sh.int .i64)))).T)} {a : ((Sh.tu (Sh.pr (Sh.sl (Sh.int .u8)) (Sh.int .i64)))).T} (h : lpOf 0 H19_0 P19_0 Q19_0 (u19_0 d48v0 N N) s κ = some a) : Out FT XU 0 (retc k19.res (Sh.tu (Sh.pr (Sh.sl (Sh.int .u8)) (Sh.int .i64)))) (loopN k19 0) s κ a := by
  rw [l19_0]
  exact loop_out (LP := W19_0 d48v0 N) (fu := fuelC) hT hO (fun _ _ => rfl) (b19_0 d48v0 N) loopOK_nil N h
def W19 (d48v0 : D48v0) (N : Nat) : LoopF (((Sh.tu (Sh.pr (Sh.sl (Sh.int .u8)) (Sh.int .i64)))).T) := fun no =>
  match no with
  | 0 => lpOf 0 H19_0 P19_0 Q19_0 (u19_0 d48v0 N N)
  | _ => fun _ _ => none
theorem e19 (d48v0 : D48v0) (N : Nat) (a0 : Int) (a1 : Int) (a2 : Bool) : evc (T19 d48v0) (rawOf (RW19 d48v0)) (W19 d48v0 N) (retc k19.res (Sh.tu (Sh.pr (Sh.sl (Sh.int .u8)) (Sh.int .i64)))) (modeOf FT) 0 fuelC k19.body (env0 k19 (encL [(Sh.int .u64), (Sh.int .i64), Sh.bool] (a0, (a1, (a2, ())))), []) (endK (retc k19.res (Sh.tu (Sh.pr (Sh.sl (Sh.int .u8)) (Sh.int .i64))))) = p19 d48v0 N a0 a1 a2 := by kernel_rfl
theorem ok19 (d48v0 : D48v0) (h48v0 : O48v0 d48v0) {f : D19} (hf : ∀ a0 a1 a2 r, f a0 a1 a2 = some r → ∃ N, p19 d48v0 N a0 a1 a2 = some r) : O19 f := by
  have hT : TabOK FT XU (T19 d48v0) := tb0
  have hO0 : RawOK FT XU (rawOf (α := ((Sh.tu (Sh.pr (Sh.sl (Sh.int .u8)) (Sh.int .i64)))).T) (RW19 d48v0)) := by
    refine rawOf_ok (fun g en hg => ?_)
    unfold RW19 at hg
    split at hg <;> simp only [List.mem_cons, List.not_mem_nil, or_false] at hg <;> first | (subst hg; assumption) | (rcases hg with rfl | rfl <;> assumption) | (rcases hg with rfl | rfl | rfl <;> assumption) | (rcases hg with rfl | rfl | rfl | rfl <;> assumption)
  have hO : RawOK FT XU (rawOf (α := ((Sh.tu (Sh.pr (Sh.sl (Sh.int .u8)) (Sh.int .i64)))).T) (RW19 d48v0)) := hO0
  refine ⟨rfl, fun v r h => ?_⟩
  obtain ⟨a0, a1, a2, _⟩ := v
  obtain ⟨N, h1⟩ := hf _ _ _ _ h
  exact ans_c (R := (Sh.tu (Sh.pr (Sh.sl (Sh.int .u8)) (Sh.int .i64)))) (tab := T19 d48v0) (raw := (rawOf (RW19 d48v0))) (LP := W19 d48v0 N) (fu := fuelC) hT hO rfl rfl (Nat.le_of_ble_eq_true rfl) (loopOK_cons l19_0 (fun s κ a h => o19_0 d48v0 hT hO N h) loopOK_nil) ((e19 d48v0 N _ _ _).trans h1)

def T23 : Nat → Option Ent := tb []
def H23_0 : Trim := ⟨0, [], false, [0, 1, 5], []⟩
theorem l23_0 : loopN k23 0 = .loop H23_0 (bodyOf (loopN k23 0)) := by kernel_rfl
def P23_0 : Ps := ⟨[(0, (.tb (Sh.int .u8))), (1, (.tb (Sh.int .u8))), (4, .u), (5, (.int .i64)), (10, .u), (14, .u), (25, .u)], []⟩
def Q23_0 : Nat → Ps
  | 0 => ⟨[(0, .u), (1, .u), (4, .u), (5, .u), (10, .u), (14, .u), (25, .u)], []⟩
  | _ => noPs
def u23_0 (N n : Nat) (v : P23_0.T) (κ : (i : Nat) → (Q23_0 i).T → Option (Sh.bool).T) : Option (Sh.bool).T :=
  L23_0 N (κ 0 (((), ((), ((), ((), ((), ((), ((), ()))))))), ())) n v.1.1 v.1.2.1 v.1.2.2.2.1
def W23_0 (N : Nat) : LoopF (Sh.bool).T := fun no =>
  match no with
  | _ => fun _ _ => none
theorem b23_0 (N n : Nat) (v : P23_0.T) (κ : (i : Nat) → (Q23_0 i).T → Option (Sh.bool).T) :
    evc (T23) (rawOf RW0) (W23_0 N) (retc k23.res Sh.bool) (modeOf FT) 0 fuelC (bodyOf (loopN k23 0)) (P23_0.st v) (roundK 0 H23_0 P23_0 Q23_0 (u23_0 N n) κ) = u23_0 N (n + 1) v κ := by kernel_rfl
theorem o23_0 (hT : TabOK FT XU (T23)) (hO : RawOK FT XU (rawOf (α := (Sh.bool).T) RW0)) (N : Nat) {s : St} {κ : Ex → St → Option (Sh.bool).T} {a : (Sh.bool).T} (h : lpOf 0 H23_0 P23_0 Q23_0 (u23_0 N N) s κ = some a) : Out FT XU 0 (retc k23.res Sh.bool) (loopN k23 0) s κ a := by
  rw [l23_0]
  exact loop_out (LP := W23_0 N) (fu := fuelC) hT hO (fun _ _ => rfl) (b23_0 N) loopOK_nil N h
def W23 (N : Nat) : LoopF (Sh.bool).T := fun no =>
  match no with
  | 0 => lpOf 0 H23_0 P23_0 Q23_0 (u23_0 N N)
  | _ => fun _ _ => none
theorem e23 (N : Nat) (a0 : List Int) (a1 : List Int) : evc (T23) (rawOf RW0) (W23 N) (retc k23.res Sh.bool) (modeOf FT) 0 fuelC k23.body (env0 k23 (encL [(Sh.sl (Sh.int .u8)), (Sh.sl (Sh.int .u8))] (a0, (a1, ()))), []) (endK (retc k23.res Sh.bool)) = p23 N a0 a1 := by kernel_rfl
theorem ok23 {f : D23} (hf : ∀ a0 a1 r, f a0 a1 = some r → ∃ N, p23 N a0 a1 = some r) : O23 f := by
  have hT : TabOK FT XU (T23) := tb0
  have hO0 : RawOK FT XU (rawOf (α := (Sh.bool).T) RW0) := rawOK0
  have hO : RawOK FT XU (rawOf (α := (Sh.bool).T) RW0) := hO0
  refine ⟨rfl, fun v r h => ?_⟩
  obtain ⟨a0, a1, _⟩ := v
  obtain ⟨N, h1⟩ := hf _ _ _ h
  exact ans_c (R := Sh.bool) (tab := T23) (raw := (rawOf RW0)) (LP := W23 N) (fu := fuelC) hT hO rfl rfl (Nat.le_of_ble_eq_true rfl) (loopOK_cons l23_0 (fun s κ a h => o23_0 hT hO N h) loopOK_nil) ((e23 N _ _).trans h1)

theorem ok401 {f : D401} (hf : ∀ a0 r, f a0 = some r → ∃ N, p401 N a0 = some r) : O401 f :=
 okc (fu := fuelC) tb0 rfl rfl rfl (fun _ => rfl) (fun v r h => by
 obtain ⟨N, h⟩ := hf v.1 r h
 refine Eq.trans ?_ h; kernel_rfl) rfl

def T396 (c401 : D401) : Nat → Option Ent := tb [(401, en401 c401)]
def H396_1 : Trim := ⟨1, [], false, [0], []⟩
theorem l396_1 : loopN k396 1 = .loop H396_1 (bodyOf (loopN k396 1)) := by kernel_rfl
def P396_1 : Ps := ⟨[(0, .str), (2, .u), (3, .u), (4, .u), (5, .u), (6, .u), (9, .u), (13, .u), (24, .u), (39, .u), (62, .u), (75, .u), (76, .u), (94, .u), (97, .u), (125, .u), (128, .u), (166, .u)], []⟩
def Q396_1 : Nat → Ps
  | 2 => ⟨[(0, .str), (2, .u), (3, .u), (4, .u), (5, .u), (6, .u), (9, .u), (13, .u), (24, .u), (39, .u), (62, .u), (75, .u), (76, .u), (94, .u), (97, .u), (125, .u), (128, .u), (166, .u)], []⟩
  | _ => noPs
def u396_1 (c401 : D401) (N n : Nat) (v : P396_1.T) (κ : (i : Nat) → (Q396_1 i).T → Option (Sh.bool).T) : Option (Sh.bool).T :=
  L396_1 c401 N (fun (y0 : List UInt8) => κ 2 ((y0, ((), ((), ((), ((), ((), ((), ((), ((), ((), ((), ((), ((), ((), ((), ((), ((), ((), ())))))))))))))))))), ())) n v.1.1
def W396_1 (c401 : D401) (N : Nat) : LoopF (Sh.bool).T := fun no =>
  match no with
  | _ => fun _ _ => none
theorem b396_1 (c401 : D401) (N n : Nat) (v : P396_1.T) (κ : (i : Nat) → (Q396_1 i).T → Option (Sh.bool).T) :
    evc (T396 c401) (rawOf RW0) (W396_1 c401 N) (retc k396.res Sh.bool) (modeOf FT) 0 fuelC (bodyOf (loopN k396 1)) (P396_1.st v) (roundK 0 H396_1 P396_1 Q396_1 (u396_1 c401 N n) κ) = u396_1 c401 N (n + 1) v κ := by kernel_rfl
theorem o396_1 (c401 : D401) (hT : TabOK FT XU (T396 c401)) (hO : RawOK FT XU (rawOf (α := (Sh.bool).T) RW0)) (N : Nat) {s : St} {κ : Ex → St → Option (Sh.bool).T} {a : (Sh.bool).T} (h : lpOf 0 H396_1 P396_1 Q396_1 (u396_1 c401 N N) s κ = some a) : Out FT XU 0 (retc k396.res Sh.bool) (loopN k396 1) s κ a := by
  rw [l396_1]
  exact loop_out (LP := W396_1 c401 N) (fu := fuelC) hT hO (fun _ _ => rfl) (b396_1 c401 N) loopOK_nil N h
def H396_0 : Trim := ⟨0, [], false, [0], []⟩
theorem l396_0 : loopN k396 0 = .loop H396_0 (bodyOf (loopN k396 0)) := by kernel_rfl
def P396_0 : Ps := ⟨[(0, .str), (2, .u), (3, .u), (4, .u), (5, .u), (6, .u), (9, .u), (13, .u), (24, .u), (39, .u), (62, .u), (75, .u), (76, .u), (94, .u), (97, .u), (125, .u), (128, .u), (166, .u)], []⟩
def Q396_0 : Nat → Ps
  | 0 => ⟨[(0, .u), (2, .u), (3, .u), (4, .u), (5, .u), (6, .u), (9, .u), (13, .u), (24, .u), (39, .u), (62, .u), (75, .u), (76, .u), (94, .u), (97, .u), (125, .u), (128, .u), (166, .u)], []⟩
  | _ => noPs
def u396_0 (c401 : D401) (N n : Nat) (v : P396_0.T) (κ : (i : Nat) → (Q396_0 i).T → Option (Sh.bool).T) : Option (Sh.bool).T :=
  L396_0 c401 N (κ 0 (((), ((), ((), ((), ((), ((), ((), ((), ((), ((), ((), ((), ((), ((), ((), ((), ((), ((), ())))))))))))))))))), ())) n v.1.1
def W396_0 (c401 : D401) (N : Nat) : LoopF (Sh.bool).T := fun no =>
  match no with
  | 1 => lpOf 0 H396_1 P396_1 Q396_1 (u396_1 c401 N N)
  | _ => fun _ _ => none
theorem b396_0 (c401 : D401) (N n : Nat) (v : P396_0.T) (κ : (i : Nat) → (Q396_0 i).T → Option (Sh.bool).T) :
    evc (T396 c401) (rawOf RW0) (W396_0 c401 N) (retc k396.res Sh.bool) (modeOf FT) 0 fuelC (bodyOf (loopN k396 0)) (P396_0.st v) (roundK 0 H396_0 P396_0 Q396_0 (u396_0 c401 N n) κ) = u396_0 c401 N (n + 1) v κ := by kernel_rfl
theorem o396_0 (c401 : D401) (hT : TabOK FT XU (T396 c401)) (hO : RawOK FT XU (rawOf (α := (Sh.bool).T) RW0)) (N : Nat) {s : St} {κ : Ex → St → Option (Sh.bool).T} {a : (Sh.bool).T} (h : lpOf 0 H396_0 P396_0 Q396_0 (u396_0 c401 N N) s κ = some a) : Out FT XU 0 (retc k396.res Sh.bool) (loopN k396 0) s κ a := by
  rw [l396_0]
  exact loop_out (LP := W396_0 c401 N) (fu := fuelC) hT hO (fun _ _ => rfl) (b396_0 c401 N) (loopOK_cons l396_1 (fun s κ a h => o396_1 c401 hT hO N h) loopOK_nil) N h
def W396 (c401 : D401) (N : Nat) : LoopF (Sh.bool).T := fun no =>
  match no with
  | 0 => lpOf 0 H396_0 P396_0 Q396_0 (u396_0 c401 N N)
  | _ => fun _ _ => none
theorem e396 (c401 : D401) (N : Nat) (a0 : List UInt8) : evc (T396 c401) (rawOf RW0) (W396 c401 N) (retc k396.res Sh.bool) (modeOf FT) 0 fuelC k396.body (env0 k396 (encL [Sh.str] (a0, ())), []) (endK (retc k396.res Sh.bool)) = p396 c401 N a0 := by kernel_rfl
theorem ok396 (c401 : D401) (h401 : O401 c401) {f : D396} (hf : ∀ a0 r, f a0 = some r → ∃ N, p396 c401 N a0 = some r) : O396 f := by
  have hT : TabOK FT XU (T396 c401) := (tb1 h401 tb0)
  have hO0 : RawOK FT XU (rawOf (α := (Sh.bool).T) RW0) := rawOK0
  have hO : RawOK FT XU (rawOf (α := (Sh.bool).T) RW0) := hO0
  refine ⟨rfl, fun v r h => ?_⟩
  obtain ⟨a0, _⟩ := v
  obtain ⟨N, h1⟩ := hf _ _ h
  exact ans_c (R := Sh.bool) (tab := T396 c401) (raw := (rawOf RW0)) (LP := W396 c401 N) (fu := fuelC) hT hO rfl rfl (Nat.le_of_ble_eq_true rfl) (loopOK_cons l396_0 (fun s κ a h => o396_0 c401 hT hO N h) loopOK_nil) ((e396 c401 N _).trans h1)

def T397 : Nat → Option Ent := tb []
def H397_0 : Trim := ⟨0, [], false, [2, 4], []⟩
theorem l397_0 : loopN k397 0 = .loop H397_0 (bodyOf (loopN k397 0)) := by kernel_rfl
def P397_0 : Ps := ⟨[(0, .u), (2, (.int .i64)), (4, (.ptr 0 0)), (6, .u)], [.iter]⟩
def Q397_0 : Nat → Ps
  | 0 => ⟨[(0, .u), (2, (.int .i64)), (4, .u), (6, .u)], []⟩
  | _ => noPs
def u397_0 (N n : Nat) (v : P397_0.T) (κ : (i : Nat) → (Q397_0 i).T → Option (((Sh.int .i64)).T)) : Option (((Sh.int .i64)).T) :=
  L397_0 N (fun (y0 : Int) => κ 0 (((), (y0, ((), ((), ())))), ())) n v.1.2.1 v.2.1.1 v.2.1.2
def W397_0 (N : Nat) : LoopF (((Sh.int .i64)).T) := fun no =>
  match no with
  | _ => fun _ _ => none
theorem b397_0 (N n : Nat) (v : P397_0.T) (κ : (i : Nat) → (Q397_0 i).T → Option (((Sh.int .i64)).T)) :
    evc (T397) (rawOf RW0) (W397_0 N) (retc k397.res (Sh.int .i64)) (modeOf FT) 0 fuelC (bodyOf (loopN k397 0)) (P397_0.st v) (roundK 0 H397_0 P397_0 Q397_0 (u397_0 N n) κ) = u397_0 N (n + 1) v κ := by kernel_rfl
theorem o397_0 (hT : TabOK FT XU (T397)) (hO : RawOK FT XU (rawOf (α := ((Sh.int .i64)).T) RW0)) (N : Nat) {s : St} {κ : Ex → St → Option (((Sh.int .i64)).T)} {a : ((Sh.int .i64)).T} (h : lpOf 0 H397_0 P397_0 Q397_0 (u397_0 N N) s κ = some a) : Out FT XU 0 (retc k397.res (Sh.int .i64)) (loopN k397 0) s κ a := by
  rw [l397_0]
  exact loop_out (LP := W397_0 N) (fu := fuelC) hT hO (fun _ _ => rfl) (b397_0 N) loopOK_nil N h
def W397 (N : Nat) : LoopF (((Sh.int .i64)).T) := fun no =>
  match no with
  | 0 => lpOf 0 H397_0 P397_0 Q397_0 (u397_0 N N)
  | _ => fun _ _ => none
theorem e397 (N : Nat) (a0 : List UInt8) : evc (T397) (rawOf RW0) (W397 N) (retc k397.res (Sh.int .i64)) (modeOf FT) 0 fuelC k397.body (env0 k397 (encL [Sh.str] (a0, ())), []) (endK (retc k397.res (Sh.int .i64))) = p397 N a0 := by kernel_rfl
theorem ok397 {f : D397} (hf : ∀ a0 r, f a0 = some r → ∃ N, p397 N a0 = some r) : O397 f := by
  have hT : TabOK FT XU (T397) := tb0
  have hO0 : RawOK FT XU (rawOf (α := ((Sh.int .i64)).T) RW0) := rawOK0
  have hO : RawOK FT XU (rawOf (α := ((Sh.int .i64)).T) RW0) := hO0
  refine ⟨rfl, fun v r h => ?_⟩
  obtain ⟨a0, _⟩ := v
  obtain ⟨N, h1⟩ := hf _ _ h
  exact ans_c (R := (Sh.int .i64)) (tab := T397) (raw := (rawOf RW0)) (LP := W397 N) (fu := fuelC) hT hO rfl rfl (Nat.le_of_ble_eq_true rfl) (loopOK_cons l397_0 (fun s κ a h => o397_0 hT hO N h) loopOK_nil) ((e397 N _).trans h1)

theorem ok391 (c396 : D396) (c397 : D397) (h396 : O396 c396) (h397 : O397 c397) {f : D391} (hf : ∀ a0 r, f a0 = some r → ∃ N, p391 c396 c397 N a0 = some r) : O391 f :=
 okc (fu := fuelC) (tb1 h396 (tb1 h397 tb0)) rfl rfl rfl (fun _ => rfl) (fun v r h => by
 obtain ⟨N, h⟩ := hf v.1 r h
 refine Eq.trans ?_ h; kernel_rfl) rfl

def T392 (c391 : D391) : Nat → Option Ent := tb [(391, en391 c391)]
def H392_0 : Trim := ⟨0, [], false, [3, 10], [(3, (.ints .u16 []), 1)]⟩
theorem l392_0 : loopN k392 0 = .loop H392_0 (bodyOf (loopN k392 0)) := by kernel_rfl
def P392_0 : Ps := ⟨[(0, .u), (2, .u), (3, (.sl 0 1)), (5, .u), (8, .u), (10, (.ptr 1 0)), (11, .u), (12, .u), (15, .u)], [(.ints false .u16), .iter]⟩
def Q392_0 : Nat → Ps
  | 0 => ⟨[(0, .u), (2, .u), (3, (.sl 0 1)), (5, .u), (8, .u), (10, .u), (11, .u), (12, .u), (15, .u)], [(.ints false .u16)]⟩
  | _ => noPs
def u392_0 (c391 : D391) (N n : Nat) (v : P392_0.T) (κ : (i : Nat) → (Q392_0 i).T → Option (((Sh.sl (Sh.int .u16))).T)) : Option (((Sh.sl (Sh.int .u16))).T) :=
  L392_0 c391 N (fun (y0 : Nat) (y1 : List Int) => κ 0 (((), ((), (y0, ((), ((), ((), ((), ((), ((), ()))))))))), (y1, ()))) n v.1.2.2.1 v.2.1 v.2.2.1.1 v.2.2.1.2
def W392_0 (c391 : D391) (N : Nat) : LoopF (((Sh.sl (Sh.int .u16))).T) := fun no =>
  match no with
  | _ => fun _ _ => none
set_option maxRecDepth 100000 in
theorem b392_0 (c391 : D391) (N n : Nat) (v : P392_0.T) (κ : (i : Nat) → (Q392_0 i).T → Option (((Sh.sl (Sh.int .u16))).T)) :
    evc (T392 c391) (rawOf RW0) (W392_0 c391 N) (retc k392.res (Sh.sl (Sh.int .u16))) (modeOf FT) 0 fuelC (bodyOf (loopN k392 0)) (P392_0.st v) (roundK 0 H392_0 P392_0 Q392_0 (u392_0 c391 N n) κ) = u392_0 c391 N (n + 1) v κ := by kernel_rfl
theorem o392_0 (c391 : D391) (hT : TabOK FT XU (T392 c391)) (hO : RawOK FT XU (rawOf (α := ((Sh.sl (Sh.int .u16))).T) RW0)) (N : Nat) {s : St} {κ : Ex → St → Option (((Sh.sl (Sh.int .u16))).T)} {a : ((Sh.sl (Sh.int .u16))).T} (h : lpOf 0 H392_0 P392_0 Q392_0 (u392_0 c391 N N) s κ = some a) : Out FT XU 0 (retc k392.res (Sh.sl (Sh.int .u16))) (loopN k392 0) s κ a := by
  rw [l392_0]
  exact loop_out (LP := W392_0 c391 N) (fu := fuelC) hT hO (fun _ _ => rfl) (b392_0 c391 N) loopOK_nil N h
def W392 (c391 : D391) (N : Nat) : LoopF (((Sh.sl (Sh.int .u16))).T) := fun no =>
  match no with
  | 0 => lpOf 0 H392_0 P392_0 Q392_0 (u392_0 c391 N N)
  | _ => fun _ _ => none
theorem e392 (c391 : D391) (N : Nat) (a0 : List UInt8) : evc (T392 c391) (rawOf RW0) (W392 c391 N) (retc k392.res (Sh.sl (Sh.int .u16))) (modeOf FT) 0 fuelC k392.body (env0 k392 (encL [Sh.str] (a0, ())), []) (endK (retc k392.res (Sh.sl (Sh.int .u16)))) = p392 c391 N a0 := by kernel_rfl
theorem ok392 (c391 : D391) (h391 : O391 c391) {f : D392} (hf : ∀ a0 r, f a0 = some r → ∃ N, p392 c391 N a0 = some r) : O392 f := by
  have hT : TabOK FT XU (T392 c391) := (tb1 h391 tb0)
  have hO0 : RawOK FT XU (rawOf (α := ((Sh.sl (Sh.int .u16))).T) RW0) := rawOK0
  have hO : RawOK FT XU (rawOf (α := ((Sh.sl (Sh.int .u16))).T) RW0) := hO0
  refine ⟨rfl, fun v r h => ?_⟩
  obtain ⟨a0, _⟩ := v
  obtain ⟨N, h1⟩ := hf _ _ h
  exact ans_c (R := (Sh.sl (Sh.int .u16))) (tab := T392 c391) (raw := (rawOf RW0)) (LP := W392 c391 N) (fu := fuelC) hT hO rfl rfl (Nat.le_of_ble_eq_true rfl) (loopOK_cons l392_0 (fun s κ a h => o392_0 c391 hT hO N h) loopOK_nil) ((e392 c391 N _).trans h1)

def T387 (c391 : D391) (c392 : D392) (c19 : D19) : Nat → Option Ent := tb [(391, en391 c391), (392, en392 c392), (19, en19 c19)]
def H387_0 : Trim := ⟨0, [], false, [5, 16, 17, 18], [(5, (.ints .u8 []), 1)]⟩
theorem l387_0 : loopN k387 0 = .loop H387_0 (bodyOf (loopN k387 0)) := by kernel_rfl
def P387_0 : Ps := ⟨[(0, .u), (2, .u), (3, .u), (4, .u), (5, (.sl 0 1)), (7, .u), (8, .u), (13, .u), (16, (.tb (Sh.int .u16))), (17, (.int .i64)), (18, (.int .i64)), (19, .u)], [(.ints false .u8)]⟩
def Q387_0 : Nat → Ps
  | 0 => ⟨[(0, .u), (2, .u), (3, .u), (4, .u), (5, (.sl 0 1)), (7, .u), (8, .u), (13, .u), (16, .u), (17, .u), (18, .u), (19, .u)], [(.ints false .u8)]⟩
  | _ => noPs
def u387_0 (c391 : D391) (c392 : D392) (c19 : D19) (N n : Nat) (v : P387_0.T) (κ : (i : Nat) → (Q387_0 i).T → Option (((Sh.tu (Sh.pr (Sh.sl (Sh.int .u8)) (Sh.int .i64)))).T)) : Option (((Sh.tu (Sh.pr (Sh.sl (Sh.int .u8)) (Sh.int .i64)))).T) :=
  L387_0 c391 c392 c19 N (fun (y0 : Nat) (y1 : List Int) => κ 0 (((), ((), ((), ((), (y0, ((), ((), ((), ((), ((), ((), ((), ())))))))))))), (y1, ()))) n v.1.2.2.2.2.1 v.1.2.2.2.2.2.2.2.2.1 v.1.2.2.2.2.2.2.2.2.2.1 v.1.2.2.2.2.2.2.2.2.2.2.1 v.2.1
def W387_0 (c391 : D391) (c392 : D392) (c19 : D19) (N : Nat) : LoopF (((Sh.tu (Sh.pr (Sh.sl (Sh.int .u8)) (Sh.int .i64)))).T) := fun no =>
  match no with
  | _ => fun _ _ => none
theorem b387_0 (c391 : D391) (c392 : D392) (c19 : D19) (N n : Nat) (v : P387_0.T) (κ : (i : Nat) → (Q387_0 i).T → Option (((Sh.tu (Sh.pr (Sh.sl (Sh.int .u8)) (Sh.int .i64)))).T)) :
    evc (T387 c391 c392 c19) (rawOf RW0) (W387_0 c391 c392 c19 N) (retc k387.res (Sh.tu (Sh.pr (Sh.sl (Sh.int .u8)) (Sh.int .i64)))) (modeOf FT) 0 fuelC (bodyOf (loopN k387 0)) (P387_0.st v) (roundK 0 H387_0 P387_0 Q387_0 (u387_0 c391 c392 c19 N n) κ) = u387_0 c391 c392 c19 N (n + 1) v κ := by kernel_rfl
theorem o387_0 (c391 : D391) (c392 : D392) (c19 : D19) (hT : TabOK FT XU (T387 c391 c392 c19)) (hO : RawOK FT XU (rawOf (α := ((Sh.tu (Sh.pr (Sh.sl (Sh.int .u8)) (Sh.int .i64)))).T) RW0)) (N : Nat) {s : St} {κ : Ex → St → Option (((Sh.tu (Sh.pr (Sh.sl (Sh.int .u8)) (Sh.int .i64)))).T)} {a : ((Sh.tu (Sh.pr (Sh.sl (Sh.int .u8)) (Sh.int .i64)))).T} (h : lpOf 0 H387_0 P387_0 Q387_0 (u387_0 c391 c392 c19 N N) s κ = some a) : Out FT XU 0 (retc k387.res (Sh.tu (Sh.pr (Sh.sl (Sh.int .u8)) (Sh.int .i64)))) (loopN k387 0) s κ a := by
  rw [l387_0]
  exact loop_out (LP := W387_0 c391 c392 c19 N) (fu := fuelC) hT hO (fun _ _ => rfl) (b387_0 c391 c392 c19 N) loopOK_nil N h
def W387 (c391 : D391) (c392 : D392) (c19 : D19) (N : Nat) : LoopF (((Sh.tu (Sh.pr (Sh.sl (Sh.int .u8)) (Sh.int .i64)))).T) := fun no =>
  match no with
  | 0 => lpOf 0 H387_0 P387_0 Q387_0 (u387_0 c391 c392 c19 N N)
  | _ => fun _ _ => none
theorem e387 (c391 : D391) (c392 : D392) (c19 : D19) (N : Nat) (a0 : List UInt8) : evc (T387 c391 c392 c19) (rawOf RW0) (W387 c391 c392 c19 N) (retc k387.res (Sh.tu (Sh.pr (Sh.sl (Sh.int .u8)) (Sh.int .i64)))) (modeOf FT) 0 fuelC k387.body (env0 k387 (encL [Sh.str] (a0, ())), []) (endK (retc k387.res (Sh.tu (Sh.pr (Sh.sl (Sh.int .u8)) (Sh.int .i64))))) = p387 c391 c392 c19 N a0 := by kernel_rfl
theorem ok387 (c391 : D391) (c392 : D392) (c19 : D19) (h391 : O391 c391) (h392 : O392 c392) (h19 : O19 c19) {f : D387} (hf : ∀ a0 r, f a0 = some r → ∃ N, p387 c391 c392 c19 N a0 = some r) : O387 f := by
  have hT : TabOK FT XU (T387 c391 c392 c19) := (tb1 h391 (tb1 h392 (tb1 h19 tb0)))
  have hO0 : RawOK FT XU (rawOf (α := ((Sh.tu (Sh.pr (Sh.sl (Sh.int .u8)) (Sh.int .i64)))).T) RW0) := rawOK0
  have hO : RawOK FT XU (rawOf (α := ((Sh.tu (Sh.pr (Sh.sl (Sh.int .u8)) (Sh.int .i64)))).T) RW0) := hO0
  refine ⟨rfl, fun v r h => ?_⟩
  obtain ⟨a0, _⟩ := v
  obtain ⟨N, h1⟩ := hf _ _ h
  exact ans_c (R := (Sh.tu (Sh.pr (Sh.sl (Sh.int .u8)) (Sh.int .i64)))) (tab := T387 c391 c392 c19) (raw := (rawOf RW0)) (LP := W387 c391 c392 c19 N) (fu := fuelC) hT hO rfl rfl (Nat.le_of_ble_eq_true rfl) (loopOK_cons l387_0 (fun s κ a h => o387_0 c391 c392 c19 hT hO N h) loopOK_nil) ((e387 c391 c392 c19 N _).trans h1)

theorem ok404 {f : D404} (hf : ∀ a0 a1 r, f a0 a1 = some r → ∃ N, p404 N a0 a1 = some r) : O404 f :=
 okc (fu := fuelC) tb0 rfl rfl rfl (fun _ => rfl) (fun v r h => by
 obtain ⟨N, h⟩ := hf v.1 v.2.1 r h
 refine Eq.trans ?_ h; kernel_rfl) rfl

def T402 (c404 : D404) : Nat → Option Ent := tb [(404, en404 c404)]
def H402_0 : Trim := ⟨0, [], false, [0, 1, 7, 8, 9, 10], []⟩
theorem l402_0 : loopN k402 0 = .loop H402_0 (bodyOf (loopN k402 0)) := by kernel_rfl
def P402_0 : Ps := ⟨[(0, .str), (1, (.int .i64)), (4, .u), (5, .u), (6, .u), (7, (.int .i64)), (8, (.int .i64)), (9, (.int .i64)), (10, (.int .i64)), (11, .u), (12, .u), (17, .u), (21, .u), (30, .u), (39, .u), (50, .u), (62, .u), (81, .u)], []⟩
def Q402_0 : Nat → Ps
  | 1 => ⟨[(0, .u), (1, .u), (4, .u), (5, .u), (6, .u), (7, (.int .i64)), (8, (.int .i64)), (9, (.int .i64)), (10, .u), (11, .u), (12, .u), (17, .u), (21, .u), (30, .u), (39, .u), (50, .u), (62, .u), (81, .u)], []⟩
  | _ => noPs
def u402_0 (c404 : D404) (N n : Nat) (v : P402_0.T) (κ : (i : Nat) → (Q402_0 i).T → Option (((Sh.tu (Sh.pr (Sh.int .i64) (Sh.int .i64)))).T)) : Option (((Sh.tu (Sh.pr (Sh.int .i64) (Sh.int .i64)))).T) :=
  L402_0 c404 N (fun (y0 : Int) (y1 : Int) (y2 : Int) => κ 1 (((), ((), ((), ((), ((), (y0, (y1, (y2, ((), ((), ((), ((), ((), ((), ((), ((), ((), ((), ())))))))))))))))))), ())) n v.1.1 v.1.2.1 v.1.2.2.2.2.2.1 v.1.2.2.2.2.2.2.1 v.1.2.2.2.2.2.2.2.1 v.1.2.2.2.2.2.2.2.2.1
def W402_0 (c404 : D404) (N : Nat) : LoopF (((Sh.tu (Sh.pr (Sh.int .i64) (Sh.int .i64)))).T) := fun no =>
  match no with
  | _ => fun _ _ => none
theorem b402_0 (c404 : D404) (N n : Nat) (v : P402_0.T) (κ : (i : Nat) → (Q402_0 i).T → Option (((Sh.tu (Sh.pr (Sh.int .i64) (Sh.int .i64)))).T)) :
    evc (T402 c404) (rawOf RW0) (W402_0 c404 N) (retc k402.res (Sh.tu (Sh.pr (Sh.int .i64) (Sh.int .i64)))) (modeOf FT) 0 fuelC (bodyOf (loopN k402 0)) (P402_0.st v) (roundK 0 H402_0 P402_0 Q402_0 (u402_0 c404 N n) κ) = u402_0 c404 N (n + 1) v κ := by kernel_rfl
theorem o402_0 (c404 : D404) (hT : TabOK FT XU (T402 c404)) (hO : RawOK FT XU (rawOf (α := ((Sh.tu (Sh.pr (Sh.int .i64) (Sh.int .i64)))).T) RW0)) (N : Nat) {s : St} {κ : Ex → St → Option (((Sh.tu (Sh.pr (Sh.int .i64) (Sh.int .i64)))).T)} {a : ((Sh.tu (Sh.pr (Sh.int .i64) (Sh.int .i64)))).T} (h : lpOf 0 H402_0 P402_0 Q402_0 (u402_0 c404 N N) s κ = some a) : Out FT XU 0 (retc k402.res (Sh.tu (Sh.pr (Sh.int .i64) (Sh.int .i64)))) (loopN k402 0) s κ a := by
  rw [l402_0]
  exact loop_out (LP := W402_0 c404 N) (fu := fuelC) hT hO (fun _ _ => rfl) (b402_0 c404 N) loopOK_nil N h
def W402 (c404 : D404) (N : Nat) : LoopF (((Sh.tu (Sh.pr (Sh.int .i64) (Sh.int .i64)))).T) := fun no =>
  match no with
  | 0 => lpOf 0 H402_0 P402_0 Q402_0 (u402_0 c404 N N)
  | _ => fun _ _ => none
theorem e402 (c404 : D404) (N : Nat) (a0 : List UInt8) (a1 : Int) : evc (T402 c404) (rawOf RW0) (W402 c404 N) (retc k402.res (Sh.tu (Sh.pr (Sh.int .i64) (Sh.int .i64)))) (modeOf FT) 0 fuelC k402.body (env0 k402 (encL [Sh.str, (Sh.int .i64)] (a0, (a1, ()))), []) (endK (retc k402.res (Sh.tu (Sh.pr (Sh.int .i64) (Sh.int .i64))))) = p402 c404 N a0 a1 := by kernel_rfl
theorem ok402 (c404 : D404) (h404 : O404 c404) {f : D402} (hf : ∀ a0 a1 r, f a0 a1 = some r → ∃ N, p402 c404 N a0 a1 = some r) : O402 f := by
  have hT : TabOK FT XU (T402 c404) := (tb1 h404 tb0)
  have hO0 : RawOK FT XU (rawOf (α := ((Sh.tu (Sh.pr (Sh.int .i64) (Sh.int .i64)))).T) RW0) := rawOK0
  have hO : RawOK FT XU (rawOf (α := ((Sh.tu (Sh.pr (Sh.int .i64) (Sh.int .i64)))).T) RW0) := hO0
  refine ⟨rfl, fun v r h => ?_⟩
  obtain ⟨a0, a1, _⟩ := v
  obtain ⟨N, h1⟩ := hf _ _ _ h
  exact ans_c (R := (Sh.tu (Sh.pr (Sh.int .i64) (Sh.int .i64)))) (tab := T402 c404) (raw := (rawOf RW0)) (LP := W402 c404 N) (fu := fuelC) hT hO rfl rfl (Nat.le_of_ble_eq_true rfl) (loopOK_cons l402_0 (fun s κ a h => o402_0 c404 hT hO N h) loopOK_nil) ((e402 c404 N _ _).trans h1)

def T398 (c402 : D402) : Nat → Option Ent := tb [(402, en402 c402)]
def H398_0 : Trim := ⟨0, [], false, [0, 4, 5], [(4, (.ints .i64 []), 1)]⟩
theorem l398_0 : loopN k398 0 = .loop H398_0 (bodyOf (loopN k398 0)) := by kernel_rfl
def P398_0 : Ps := ⟨[(0, .str), (2, .u), (3, .u), (4, (.sl 0 1)), (5, (.int .i64)), (6, .u), (7, .u), (11, .u), (19, .u)], [(.ints false .i64)]⟩
def Q398_0 : Nat → Ps
  | 0 => ⟨[(0, .u), (2, .u), (3, .u), (4, (.sl 0 1)), (5, .u), (6, .u), (7, .u), (11, .u), (19, .u)], [(.ints false .i64)]⟩
  | _ => noPs
def u398_0 (c402 : D402) (N n : Nat) (v : P398_0.T) (κ : (i : Nat) → (Q398_0 i).T → Option (((Sh.tu (Sh.pr (Sh.sl (Sh.int .i64)) Sh.bool))).T)) : Option (((Sh.tu (Sh.pr (Sh.sl (Sh.int .i64)) Sh.bool))).T) :=
  L398_0 c402 N (fun (y0 : Nat) (y1 : List Int) => κ 0 (((), ((), ((), (y0, ((), ((), ((), ((), ((), ()))))))))), (y1, ()))) n v.1.1 v.1.2.2.2.1 v.1.2.2.2.2.1 v.2.1
def W398_0 (c402 : D402) (N : Nat) : LoopF (((Sh.tu (Sh.pr (Sh.sl (Sh.int .i64)) Sh.bool))).T) := fun no =>
  match no with
  | _ => fun _ _ => none
theorem b398_0 (c402 : D402) (N n : Nat) (v : P398_0.T) (κ : (i : Nat) → (Q398_0 i).T → Option (((Sh.tu (Sh.pr (Sh.sl (Sh.int .i64)) Sh.bool))).T)) :
    evc (T398 c402) (rawOf RW0) (W398_0 c402 N) (retc k398.res (Sh.tu (Sh.pr (Sh.sl (Sh.int .i64)) Sh.bool))) (modeOf FT) 0 fuelC (bodyOf (loopN k398 0)) (P398_0.st v) (roundK 0 H398_0 P398_0 Q398_0 (u398_0 c402 N n) κ) = u398_0 c402 N (n + 1) v κ := by kernel_rfl
theorem o398_0 (c402 : D402) (hT : TabOK FT XU (T398 c402)) (hO : RawOK FT XU (rawOf (α := ((Sh.tu (Sh.pr (Sh.sl (Sh.int .i64)) Sh.bool))).T) RW0)) (N : Nat) {s : St} {κ : Ex → St → Option (((Sh.tu (Sh.pr (Sh.sl (Sh.int .i64)) Sh.bool))).T)} {a : ((Sh.tu (Sh.pr (Sh.sl (Sh.int .i64)) Sh.bool))).T} (h : lpOf 0 H398_0 P398_0 Q398_0 (u398_0 c402 N N) s κ = some a) : Out FT XU 0 (retc k398.res (Sh.tu (Sh.pr (Sh.sl (Sh.int .i64)) Sh.bool))) (loopN k398 0) s κ a := by
  rw [l398_0]
  exact loop_out (LP := W398_0 c402 N) (fu := fuelC) hT hO (fun _ _ => rfl) (b398_0 c402 N) loopOK_nil N h
def W398 (c402 : D402) (N : Nat) : LoopF (((Sh.tu (Sh.pr (Sh.sl (Sh.int .i64)) Sh.bool))).T) := fun no =>
  match no with
  | 0 => lpOf 0 H398_0 P398_0 Q398_0 (u398_0 c402 N N)
  | _ => fun _ _ => none
theorem e398 (c402 : D402) (N : Nat) (a0 : List UInt8) : evc (T398 c402) (rawOf RW0) (W398 c402 N) (retc k398.res (Sh.tu (Sh.pr (Sh.sl (Sh.int .i64)) Sh.bool))) (modeOf FT) 0 fuelC k398.body (env0 k398 (encL [Sh.str] (a0, ())), []) (endK (retc k398.res (Sh.tu (Sh.pr (Sh.sl (Sh.int .i64)) Sh.bool)))) = p398 c402 N a0 := by kernel_rfl
theorem ok398 (c402 : D402) (h402 : O402 c402) {f : D398} (hf : ∀ a0 r, f a0 = some r → ∃ N, p398 c402 N a0 = some r) : O398 f := by
  have hT : TabOK FT XU (T398 c402) := (tb1 h402 tb0)
  have hO0 : RawOK FT XU (rawOf (α := ((Sh.tu (Sh.pr (Sh.sl (Sh.int .i64)) Sh.bool))).T) RW0) := rawOK0
  have hO : RawOK FT XU (rawOf (α := ((Sh.tu (Sh.pr (Sh.sl (Sh.int .i64)) Sh.bool))).T) RW0) := hO0
  refine ⟨rfl, fun v r h => ?_⟩
  obtain ⟨a0, _⟩ := v
  obtain ⟨N, h1⟩ := hf _ _ h
  exact ans_c (R := (Sh.tu (Sh.pr (Sh.sl (Sh.int .i64)) Sh.bool))) (tab := T398 c402) (raw := (rawOf RW0)) (LP := W398 c402 N) (fu := fuelC) hT hO rfl rfl (Nat.le_of_ble_eq_true rfl) (loopOK_cons l398_0 (fun s κ a h => o398_0 c402 hT hO N h) loopOK_nil) ((e398 c402 N _).trans h1)

theorem ok393 (c398 : D398) (h398 : O398 c398) {f : D393} (hf : ∀ a0 r, f a0 = some r → ∃ N, p393 c398 N a0 = some r) : O393 f :=
 okc (fu := fuelC) (tb1 h398 tb0) rfl rfl rfl (fun _ => rfl) (fun v r h => by
 obtain ⟨N, h⟩ := hf v.1 r h
 refine Eq.trans ?_ h; kernel_rfl) rfl

def T394 (c393 : D393) (c398 : D398) : Nat → Option Ent := tb [(393, en393 c393), (398, en398 c398)]
def H394_0 : Trim := ⟨0, [], false, [3, 5, 6], [(5, (.ints .u16 []), 1)]⟩
theorem l394_0 : loopN k394 0 = .loop H394_0 (bodyOf (loopN k394 0)) := by kernel_rfl
def P394_0 : Ps := ⟨[(0, .u), (2, .u), (3, (.tb (Sh.int .i64))), (5, (.sl 0 1)), (6, (.int .i64)), (7, .u), (10, .u), (19, .u), (26, .u)], [(.ints false .u16)]⟩
def Q394_0 : Nat → Ps
  | 0 => ⟨[(0, .u), (2, .u), (3, .u), (5, (.sl 0 1)), (6, .u), (7, .u), (10, .u), (19, .u), (26, .u)], [(.ints false .u16)]⟩
  | _ => noPs
def u394_0 (c393 : D393) (c398 : D398) (N n : Nat) (v : P394_0.T) (κ : (i : Nat) → (Q394_0 i).T → Option (((Sh.sl (Sh.int .u16))).T)) : Option (((Sh.sl (Sh.int .u16))).T) :=
  L394_0 c393 c398 N (fun (y0 : Nat) (y1 : List Int) => κ 0 (((), ((), ((), (y0, ((), ((), ((), ((), ((), ()))))))))), (y1, ()))) n v.1.2.2.1 v.1.2.2.2.1 v.1.2.2.2.2.1 v.2.1
def W394_0 (c393 : D393) (c398 : D398) (N : Nat) : LoopF (((Sh.sl (Sh.int .u16))).T) := fun no =>
  match no with
  | _ => fun _ _ => none
theorem b394_0 (c393 : D393) (c398 : D398) (N n : Nat) (v : P394_0.T) (κ : (i : Nat) → (Q394_0 i).T → Option (((Sh.sl (Sh.int .u16))).T)) :
    evc (T394 c393 c398) (rawOf RW0) (W394_0 c393 c398 N) (retc k394.res (Sh.sl (Sh.int .u16))) (modeOf FT) 0 fuelC (bodyOf (loopN k394 0)) (P394_0.st v) (roundK 0 H394_0 P394_0 Q394_0 (u394_0 c393 c398 N n) κ) = u394_0 c393 c398 N (n + 1) v κ := by kernel_rfl
theorem o394_0 (c393 : D393) (c398 : D398) (hT : TabOK FT XU (T394 c393 c398)) (hO : RawOK FT XU (rawOf (α := ((Sh.sl (Sh.int .u16))).T) RW0)) (N : Nat) {s : St} {κ : Ex → St → Option (((Sh.sl (Sh.int .u16))).T)} {a : ((Sh.sl (Sh.int .u16))).T} (h : lpOf 0 H394_0 P394_0 Q394_0 (u394_0 c393 c398 N N) s κ = some a) : Out FT XU 0 (retc k394.res (Sh.sl (Sh.int .u16))) (loopN k394 0) s κ a := by
  rw [l394_0]
  exact loop_out (LP := W394_0 c393 c398 N) (fu := fuelC) hT hO (fun _ _ => rfl) (b394_0 c393 c398 N) loopOK_nil N h
def W394 (c393 : D393) (c398 : D398) (N : Nat) : LoopF (((Sh.sl (Sh.int .u16))).T) := fun no =>
  match no with
  | 0 => lpOf 0 H394_0 P394_0 Q394_0 (u394_0 c393 c398 N N)
  | _ => fun _ _ => none
theorem e394 (c393 : D393) (c398 : D398) (N : Nat) (a0 : List UInt8) : evc (T394 c393 c398) (rawOf RW0) (W394 c393 c398 N) (retc k394.res (Sh.sl (Sh.int .u16))) (modeOf FT) 0 fuelC k394.body (env0 k394 (encL [Sh.str] (a0, ())), []) (endK (retc k394.res (Sh.sl (Sh.int .u16)))) = p394 c393 c398 N a0 := by kernel_rfl
theorem ok394 (c393 : D393) (c398 : D398) (h393 : O393 c393) (h398 : O398 c398) {f : D394} (hf : ∀ a0 r, f a0 = some r → ∃ N, p394 c393 c398 N a0 = some r) : O394 f := by
  have hT : TabOK FT XU (T394 c393 c398) := (tb1 h393 (tb1 h398 tb0))
  have hO0 : RawOK FT XU (rawOf (α := ((Sh.sl (Sh.int .u16))).T) RW0) := rawOK0
  have hO : RawOK FT XU (rawOf (α := ((Sh.sl (Sh.int .u16))).T) RW0) := hO0
  refine ⟨rfl, fun v r h => ?_⟩
  obtain ⟨a0, _⟩ := v
  obtain ⟨N, h1⟩ := hf _ _ h
  exact ans_c (R := (Sh.sl (Sh.int .u16))) (tab := T394 c393 c398) (raw := (rawOf RW0)) (LP := W394 c393 c398 N) (fu := fuelC) hT hO rfl rfl (Nat.le_of_ble_eq_true rfl) (loopOK_cons l394_0 (fun s κ a h => o394_0 c393 c398 hT hO N h) loopOK_nil) ((e394 c393 c398 N _).trans h1)

def T388 (c393 : D393) (c394 : D394) : Nat → Option Ent := tb [(393, en393 c393), (394, en394 c394)]
def H388_0 : Trim := ⟨0, [], false, [5, 6, 7], [(5, (.ints .u8 []), 1)]⟩
theorem l388_0 : loopN k388 0 = .loop H388_0 (bodyOf (loopN k388 0)) := by kernel_rfl
def P388_0 : Ps := ⟨[(0, .u), (2, .u), (3, .u), (4, .u), (5, (.sl 0 1)), (6, (.tb (Sh.int .u16))), (7, (.int .i64)), (11, .u), (18, .u)], [(.ints false .u8)]⟩
def Q388_0 : Nat → Ps
  | 0 => ⟨[(0, .u), (2, .u), (3, .u), (4, .u), (5, (.sl 0 1)), (6, .u), (7, .u), (11, .u), (18, .u)], [(.ints false .u8)]⟩
  | _ => noPs
def u388_0 (c393 : D393) (c394 : D394) (N n : Nat) (v : P388_0.T) (κ : (i : Nat) → (Q388_0 i).T → Option (((Sh.tu (Sh.pr (Sh.sl (Sh.int .u8)) (Sh.int .i64)))).T)) : Option (((Sh.tu (Sh.pr (Sh.sl (Sh.int .u8)) (Sh.int .i64)))).T) :=
  L388_0 c393 c394 N (fun (y0 : Nat) (y1 : List Int) => κ 0 (((), ((), ((), ((), (y0, ((), ((), ((), ((), ()))))))))), (y1, ()))) n v.1.2.2.2.2.1 v.1.2.2.2.2.2.1 v.1.2.2.2.2.2.2.1 v.2.1
def W388_0 (c393 : D393) (c394 : D394) (N : Nat) : LoopF (((Sh.tu (Sh.pr (Sh.sl (Sh.int .u8)) (Sh.int .i64)))).T) := fun no =>
  match no with
  | _ => fun _ _ => none
theorem b388_0 (c393 : D393) (c394 : D394) (N n : Nat) (v : P388_0.T) (κ : (i : Nat) → (Q388_0 i).T → Option (((Sh.tu (Sh.pr (Sh.sl (Sh.int .u8)) (Sh.int .i64)))).T)) :
    evc (T388 c393 c394) (rawOf RW0) (W388_0 c393 c394 N) (retc k388.res (Sh.tu (Sh.pr (Sh.sl (Sh.int .u8)) (Sh.int .i64)))) (modeOf FT) 0 fuelC (bodyOf (loopN k388 0)) (P388_0.st v) (roundK 0 H388_0 P388_0 Q388_0 (u388_0 c393 c394 N n) κ) = u388_0 c393 c394 N (n + 1) v κ := by kernel_rfl
theorem o388_0 (c393 : D393) (c394 : D394) (hT : TabOK FT XU (T388 c393 c394)) (hO : RawOK FT XU (rawOf (α := ((Sh.tu (Sh.pr (Sh.sl (Sh.int .u8)) (Sh.int .i64)))).T) RW0)) (N : Nat) {s : St} {κ : Ex → St → Option (((Sh.tu (Sh.pr (Sh.sl (Sh.int .u8)) (Sh.int .i64)))).T)} {a : ((Sh.tu (Sh.pr (Sh.sl (Sh.int .u8)) (Sh.int .i64)))).T} (h : lpOf 0 H388_0 P388_0 Q388_0 (u388_0 c393 c394 N N) s κ = some a) : Out FT XU 0 (retc k388.res (Sh.tu (Sh.pr (Sh.sl (Sh.int .u8)) (Sh.int .i64)))) (loopN k388 0) s κ a := by
  rw [l388_0]
  exact loop_out (LP := W388_0 c393 c394 N) (fu := fuelC) hT hO (fun _ _ => rfl) (b388_0 c393 c394 N) loopOK_nil N h
def W388 (c393 : D393) (c394 : D394) (N : Nat) : LoopF (((Sh.tu (Sh.pr (Sh.sl (Sh.int .u8)) (Sh.int .i64)))).T) := fun no =>
  match no with
  | 0 => lpOf 0 H388_0 P388_0 Q388_0 (u388_0 c393 c394 N N)
  | _ => fun _ _ => none
theorem e388 (c393 : D393) (c394 : D394) (N : Nat) (a0 : List UInt8) : evc (T388 c393 c394) (rawOf RW0) (W388 c393 c394 N) (retc k388.res (Sh.tu (Sh.pr (Sh.sl (Sh.int .u8)) (Sh.int .i64)))) (modeOf FT) 0 fuelC k388.body (env0 k388 (encL [Sh.str] (a0, ())), []) (endK (retc k388.res (Sh.tu (Sh.pr (Sh.sl (Sh.int .u8)) (Sh.int .i64))))) = p388 c393 c394 N a0 := by kernel_rfl
theorem ok388 (c393 : D393) (c394 : D394) (h393 : O393 c393) (h394 : O394 c394) {f : D388} (hf : ∀ a0 r, f a0 = some r → ∃ N, p388 c393 c394 N a0 = some r) : O388 f := by
  have hT : TabOK FT XU (T388 c393 c394) := (tb1 h393 (tb1 h394 tb0))
  have hO0 : RawOK FT XU (rawOf (α := ((Sh.tu (Sh.pr (Sh.sl (Sh.int .u8)) (Sh.int .i64)))).T) RW0) := rawOK0
  have hO : RawOK FT XU (rawOf (α := ((Sh.tu (Sh.pr (Sh.sl (Sh.int .u8)) (Sh.int .i64)))).T) RW0) := hO0
  refine ⟨rfl, fun v r h => ?_⟩
  obtain ⟨a0, _⟩ := v
  obtain ⟨N, h1⟩ := hf _ _ h
  exact ans_c (R := (Sh.tu (Sh.pr (Sh.sl (Sh.int .u8)) (Sh.int .i64)))) (tab := T388 c393 c394) (raw := (rawOf RW0)) (LP := W388 c393 c394 N) (fu := fuelC) hT hO rfl rfl (Nat.le_of_ble_eq_true rfl) (loopOK_cons l388_0 (fun s κ a h => o388_0 c393 c394 hT hO N h) loopOK_nil) ((e388 c393 c394 N _).trans h1)

def T420 : Nat → Option Ent := tb []
def H420_0 : Trim := ⟨0, [], false, [0, 1, 5], []⟩
theorem l420_0 : loopN k420 0 = .loop H420_0 (bodyOf (loopN k420 0)) := by kernel_rfl
def P420_0 : Ps := ⟨[(0, .str), (1, (.int .u8)), (4, .u), (5, (.int .i64)), (10, .u), (17, .u)], []⟩
def Q420_0 : Nat → Ps
  | 0 => ⟨[(0, .u), (1, .u), (4, .u), (5, .u), (10, .u), (17, .u)], []⟩
  | _ => noPs
def u420_0 (N n : Nat) (v : P420_0.T) (κ : (i : Nat) → (Q420_0 i).T → Option (((Sh.int .i64)).T)) : Option (((Sh.int .i64)).T) :=
  L420_0 N (κ 0 (((), ((), ((), ((), ((), ((), ())))))), ())) n v.1.1 v.1.2.1 v.1.2.2.2.1
def W420_0 (N : Nat) : LoopF (((Sh.int .i64)).T) := fun no =>
  match no with
  | _ => fun _ _ => none
theorem b420_0 (N n : Nat) (v : P420_0.T) (κ : (i : Nat) → (Q420_0 i).T → Option (((Sh.int .i64)).T)) :
    evc (T420) (rawOf RW0) (W420_0 N) (retc k420.res (Sh.int .i64)) (modeOf FT) 0 fuelC (bodyOf (loopN k420 0)) (P420_0.st v) (roundK 0 H420_0 P420_0 Q420_0 (u420_0 N n) κ) = u420_0 N (n + 1) v κ := by kernel_rfl
theorem o420_0 (hT : TabOK FT XU (T420)) (hO : RawOK FT XU (rawOf (α := ((Sh.int .i64)).T) RW0)) (N : Nat) {s : St} {κ : Ex → St → Option (((Sh.int .i64)).T)} {a : ((Sh.int .i64)).T} (h : lpOf 0 H420_0 P420_0 Q420_0 (u420_0 N N) s κ = some a) : Out FT XU 0 (retc k420.res (Sh.int .i64)) (loopN k420 0) s κ a := by
  rw [l420_0]
  exact loop_out (LP := W420_0 N) (fu := fuelC) hT hO (fun _ _ => rfl) (b420_0 N) loopOK_nil N h
def W420 (N : Nat) : LoopF (((Sh.int .i64)).T) := fun no =>
  match no with
  | 0 => lpOf 0 H420_0 P420_0 Q420_0 (u420_0 N N)
  | _ => fun _ _ => none
theorem e420 (N : Nat) (a0 : List UInt8) (a1 : Int) : evc (T420) (rawOf RW0) (W420 N) (retc k420.res (Sh.int .i64)) (modeOf FT) 0 fuelC k420.body (env0 k420 (encL [Sh.str, (Sh.int .u8)] (a0, (a1, ()))), []) (endK (retc k420.res (Sh.int .i64))) = p420 N a0 a1 := by kernel_rfl
theorem ok420 {f : D420} (hf : ∀ a0 a1 r, f a0 a1 = some r → ∃ N, p420 N a0 a1 = some r) : O420 f := by
  have hT : TabOK FT XU (T420) := tb0
  have hO0 : RawOK FT XU (rawOf (α := ((Sh.int .i64)).T) RW0) := rawOK0
  have hO : RawOK FT XU (rawOf (α := ((Sh.int .i64)).T) RW0) := hO0
  refine ⟨rfl, fun v r h => ?_⟩
  obtain ⟨a0, a1, _⟩ := v
  obtain ⟨N, h1⟩ := hf _ _ _ h
  exact ans_c (R := (Sh.int .i64)) (tab := T420) (raw := (rawOf RW0)) (LP := W420 N) (fu := fuelC) hT hO rfl rfl (Nat.le_of_ble_eq_true rfl) (loopOK_cons l420_0 (fun s κ a h => o420_0 hT hO N h) loopOK_nil) ((e420 N _ _).trans h1)

def T424 : Nat → Option Ent := tb []
def H424_1 : Trim := ⟨1, [], false, [4, 6, 7, 8], []⟩
theorem l424_1 : loopN k424 1 = .loop H424_1 (bodyOf (loopN k424 1)) := by kernel_rfl
def P424_1 : Ps := ⟨[(0, .u), (2, .u), (3, .u), (4, (.int .u32)), (5, .u), (6, (.int .u32)), (7, (.int .u32)), (8, (.int .i64)), (13, .u), (26, .u), (31, .u)], []⟩
def Q424_1 : Nat → Ps
  | 2 => ⟨[(0, .u), (2, .u), (3, .u), (4, (.int .u32)), (5, .u), (6, (.int .u32)), (7, .u), (8, .u), (13, .u), (26, .u), (31, .u)], []⟩
  | _ => noPs
def u424_1 (N n : Nat) (v : P424_1.T) (κ : (i : Nat) → (Q424_1 i).T → Option (((Sh.tu (Sh.pr (Sh.int .u32) (Sh.int .u32)))).T)) : Option (((Sh.tu (Sh.pr (Sh.int .u32) (Sh.int .u32)))).T) :=
  L424_1 N (fun (y0 : Int) (y1 : Int) => κ 2 (((), ((), ((), (y0, ((), (y1, ((), ((), ((), ((), ((), ()))))))))))), ())) n v.1.2.2.2.1 v.1.2.2.2.2.2.1 v.1.2.2.2.2.2.2.1 v.1.2.2.2.2.2.2.2.1
def W424_1 (N : Nat) : LoopF (((Sh.tu (Sh.pr (Sh.int .u32) (Sh.int .u32)))).T) := fun no =>
  match no with
  | _ => fun _ _ => none
theorem b424_1 (N n : Nat) (v : P424_1.T) (κ : (i : Nat) → (Q424_1 i).T → Option (((Sh.tu (Sh.pr (Sh.int .u32) (Sh.int .u32)))).T)) :
    evc (T424) (rawOf RW0) (W424_1 N) (retc k424.res (Sh.tu (Sh.pr (Sh.int .u32) (Sh.int .u32)))) (modeOf FT) 0 fuelC (bodyOf (loopN k424 1)) (P424_1.st v) (roundK 0 H424_1 P424_1 Q424_1 (u424_1 N n) κ) = u424_1 N (n + 1) v κ := by kernel_rfl
theorem o424_1 (hT : TabOK FT XU (T424)) (hO : RawOK FT XU (rawOf (α := ((Sh.tu (Sh.pr (Sh.int .u32) (Sh.int .u32)))).T) RW0)) (N : Nat) {s : St} {κ : Ex → St → Option (((Sh.tu (Sh.pr (Sh.int .u32) (Sh.int .u32)))).T)} {a : ((Sh.tu (Sh.pr (Sh.int .u32) (Sh.int .u32)))).T} (h : lpOf 0 H424_1 P424_1 Q424_1 (u424_1 N N) s κ = some a) : Out FT XU 0 (retc k424.res (Sh.tu (Sh.pr (Sh.int .u32) (Sh.int .u32)))) (loopN k424 1) s κ a := by
  rw [l424_1]
  exact loop_out (LP := W424_1 N) (fu := fuelC) hT hO (fun _ _ => rfl) (b424_1 N) loopOK_nil N h
def H424_0 : Trim := ⟨0, [], false, [0, 4, 5], []⟩
theorem l424_0 : loopN k424 0 = .loop H424_0 (bodyOf (loopN k424 0)) := by kernel_rfl
def P424_0 : Ps := ⟨[(0, .str), (2, .u), (3, .u), (4, (.int .u32)), (5, (.int .i64)), (6, .u), (7, .u), (8, .u), (13, .u), (26, .u), (31, .u)], []⟩
def Q424_0 : Nat → Ps
  | 0 => ⟨[(0, .str), (2, .u), (3, .u), (4, (.int .u32)), (5, .u), (6, .u), (7, .u), (8, .u), (13, .u), (26, .u), (31, .u)], []⟩
  | _ => noPs
def u424_0 (N n : Nat) (v : P424_0.T) (κ : (i : Nat) → (Q424_0 i).T → Option (((Sh.tu (Sh.pr (Sh.int .u32) (Sh.int .u32)))).T)) : Option (((Sh.tu (Sh.pr (Sh.int .u32) (Sh.int .u32)))).T) :=
  L424_0 N (fun (y0 : List UInt8) (y1 : Int) => κ 0 ((y0, ((), ((), (y1, ((), ((), ((), ((), ((), ((), ((), ()))))))))))), ())) n v.1.1 v.1.2.2.2.1 v.1.2.2.2.2.1
def W424_0 (N : Nat) : LoopF (((Sh.tu (Sh.pr (Sh.int .u32) (Sh.int .u32)))).T) := fun no =>
  match no with
  | _ => fun _ _ => none
theorem b424_0 (N n : Nat) (v : P424_0.T) (κ : (i : Nat) → (Q424_0 i).T → Option (((Sh.tu (Sh.pr (Sh.int .u32) (Sh.int .u32)))).T)) :
    evc (T424) (rawOf RW0) (W424_0 N) (retc k424.res (Sh.tu (Sh.pr (Sh.int .u32) (Sh.int .u32)))) (modeOf FT) 0 fuelC (bodyOf (loopN k424 0)) (P424_0.st v) (roundK 0 H424_0 P424_0 Q424_0 (u424_0 N n) κ) = u424_0 N (n + 1) v κ := by kernel_rfl
theorem o424_0 (hT : TabOK FT XU (T424)) (hO : RawOK FT XU (rawOf (α := ((Sh.tu (Sh.pr (Sh.int .u32) (Sh.int .u32)))).T) RW0)) (N : Nat) {s : St} {κ : Ex → St → Option (((Sh.tu (Sh.pr (Sh.int .u32) (Sh.int .u32)))).T)} {a : ((Sh.tu (Sh.pr (Sh.int .u32) (Sh.int .u32)))).T} (h : lpOf 0 H424_0 P424_0 Q424_0 (u424_0 N N) s κ = some a) : Out FT XU 0 (retc k424.res (Sh.tu (Sh.pr (Sh.int .u32) (Sh.int .u32)))) (loopN k424 0) s κ a := by
  rw [l424_0]
  exact loop_out (LP := W424_0 N) (fu := fuelC) hT hO (fun _ _ => rfl) (b424_0 N) loopOK_nil N h
def W424 (N : Nat) : LoopF (((Sh.tu (Sh.pr (Sh.int .u32) (Sh.int .u32)))).T) := fun no =>
  match no with
  | 0 => lpOf 0 H424_0 P424_0 Q424_0 (u424_0 N N)
  | 1 => lpOf 0 H424_1 P424_1 Q424_1 (u424_1 N N)
  | _ => fun _ _ => none
theorem e424 (N : Nat) (a0 : List UInt8) : evc (T424) (rawOf RW0) (W424 N) (retc k424.res (Sh.tu (Sh.pr (Sh.int .u32) (Sh.int .u32)))) (modeOf FT) 0 fuelC k424.body (env0 k424 (encL [Sh.str] (a0, ())), []) (endK (retc k424.res (Sh.tu (Sh.pr (Sh.int .u32) (Sh.int .u32))))) = p424 N a0 := by kernel_rfl
theorem ok424 {f : D424} (hf : ∀ a0 r, f a0 = some r → ∃ N, p424 N a0 = some r) : O424 f := by
  have hT : TabOK FT XU (T424) := tb0
  have hO0 : RawOK FT XU (rawOf (α := ((Sh.tu (Sh.pr (Sh.int .u32) (Sh.int .u32)))).T) RW0) := rawOK0
  have hO : RawOK FT XU (rawOf (α := ((Sh.tu (Sh.pr (Sh.int .u32) (Sh.int .u32)))).T) RW0) := hO0
  refine ⟨rfl, fun v r h => ?_⟩
  obtain ⟨a0, _⟩ := v
  obtain ⟨N, h1⟩ := hf _ _ h
  exact ans_c (R := (Sh.tu (Sh.pr (Sh.int .u32) (Sh.int .u32)))) (tab := T424) (raw := (rawOf RW0)) (LP := W424 N) (fu := fuelC) hT hO rfl rfl (Nat.le_of_ble_eq_true rfl) (loopOK_cons l424_0 (fun s κ a h => o424_0 hT hO N h) (loopOK_cons l424_1 (fun s κ a h => o424_1 hT hO N h) loopOK_nil)) ((e424 N _).trans h1)

def T421 (c424 : D424) : Nat → Option Ent := tb [(424, en424 c424)]
def H421_1 : Trim := ⟨1, [], false, [0, 1, 5, 6, 7, 9, 11], []⟩
theorem l421_1 : loopN k421 1 = .loop H421_1 (bodyOf (loopN k421 1)) := by kernel_rfl
def P421_1 : Ps := ⟨[(0, .str), (1, .str), (4, .u), (5, (.int .u32)), (6, (.int .u32)), (7, (.int .i64)), (8, .u), (9, (.int .u32)), (10, .u), (11, (.int .i64)), (28, .u), (47, .u), (52, .u), (85, .u)], []⟩
def Q421_1 : Nat → Ps
  | 2 => ⟨[(0, .u), (1, .u), (4, .u), (5, .u), (6, .u), (7, .u), (8, .u), (9, .u), (10, .u), (11, .u), (28, .u), (47, .u), (52, .u), (85, .u)], []⟩
  | _ => noPs
def u421_1 (c424 : D424) (N n : Nat) (v : P421_1.T) (κ : (i : Nat) → (Q421_1 i).T → Option (((Sh.int .i64)).T)) : Option (((Sh.int .i64)).T) :=
  L421_1 c424 N (κ 2 (((), ((), ((), ((), ((), ((), ((), ((), ((), ((), ((), ((), ((), ((), ())))))))))))))), ())) n v.1.1 v.1.2.1 v.1.2.2.2.1 v.1.2.2.2.2.1 v.1.2.2.2.2.2.1 v.1.2.2.2.2.2.2.2.1 v.1.2.2.2.2.2.2.2.2.2.1
def W421_1 (c424 : D424) (N : Nat) : LoopF (((Sh.int .i64)).T) := fun no =>
  match no with
  | _ => fun _ _ => none
theorem b421_1 (c424 : D424) (N n : Nat) (v : P421_1.T) (κ : (i : Nat) → (Q421_1 i).T → Option (((Sh.int .i64)).T)) :
    evc (T421 c424) (rawOf RW0) (W421_1 c424 N) (retc k421.res (Sh.int .i64)) (modeOf FT) 0 fuelC (bodyOf (loopN k421 1)) (P421_1.st v) (roundK 0 H421_1 P421_1 Q421_1 (u421_1 c424 N n) κ) = u421_1 c424 N (n + 1) v κ := by kernel_rfl
theorem o421_1 (c424 : D424) (hT : TabOK FT XU (T421 c424)) (hO : RawOK FT XU (rawOf (α := ((Sh.int .i64)).T) RW0)) (N : Nat) {s : St} {κ : Ex → St → Option (((Sh.int .i64)).T)} {a : ((Sh.int .i64)).T} (h : lpOf 0 H421_1 P421_1 Q421_1 (u421_1 c424 N N) s κ = some a) : Out FT XU 0 (retc k421.res (Sh.int .i64)) (loopN k421 1) s κ a := by
  rw [l421_1]
  exact loop_out (LP := W421_1 c424 N) (fu := fuelC) hT hO (fun _ _ => rfl) (b421_1 c424 N) loopOK_nil N h
def H421_0 : Trim := ⟨0, [], false, [0, 1, 5, 6, 7, 8, 9, 10], []⟩
theorem l421_0 : loopN k421 0 = .loop H421_0 (bodyOf (loopN k421 0)) := by kernel_rfl
def P421_0 : Ps := ⟨[(0, .str), (1, .str), (4, .u), (5, (.int .u32)), (6, (.int .u32)), (7, (.int .i64)), (8, (.int .i64)), (9, (.int .u32)), (10, (.int .i64)), (11, .u), (28, .u), (47, .u), (52, .u), (85, .u)], []⟩
def Q421_0 : Nat → Ps
  | 0 => ⟨[(0, .str), (1, .str), (4, .u), (5, (.int .u32)), (6, (.int .u32)), (7, (.int .i64)), (8, (.int .i64)), (9, (.int .u32)), (10, .u), (11, .u), (28, .u), (47, .u), (52, .u), (85, .u)], []⟩
  | _ => noPs
def u421_0 (c424 : D424) (N n : Nat) (v : P421_0.T) (κ : (i : Nat) → (Q421_0 i).T → Option (((Sh.int .i64)).T)) : Option (((Sh.int .i64)).T) :=
  L421_0 c424 N (fun (y0 : List UInt8) (y1 : List UInt8) (y2 : Int) (y3 : Int) (y4 : Int) (y5 : Int) (y6 : Int) => κ 0 ((y0, (y1, ((), (y2, (y3, (y4, (y5, (y6, ((), ((), ((), ((), ((), ((), ())))))))))))))), ())) n v.1.1 v.1.2.1 v.1.2.2.2.1 v.1.2.2.2.2.1 v.1.2.2.2.2.2.1 v.1.2.2.2.2.2.2.1 v.1.2.2.2.2.2.2.2.1 v.1.2.2.2.2.2.2.2.2.1
def W421_0 (c424 : D424) (N : Nat) : LoopF (((Sh.int .i64)).T) := fun no =>
  match no with
  | _ => fun _ _ => none
theorem b421_0 (c424 : D424) (N n : Nat) (v : P421_0.T) (κ : (i : Nat) → (Q421_0 i).T → Option (((Sh.int .i64)).T)) :
    evc (T421 c424) (rawOf RW0) (W421_0 c424 N) (retc k421.res (Sh.int .i64)) (modeOf FT) 0 fuelC (bodyOf (loopN k421 0)) (P421_0.st v) (roundK 0 H421_0 P421_0 Q421_0 (u421_0 c424 N n) κ) = u421_0 c424 N (n + 1) v κ := by kernel_rfl
theorem o421_0 (c424 : D424) (hT : TabOK FT XU (T421 c424)) (hO : RawOK FT XU (rawOf (α := ((Sh.int .i64)).T) RW0)) (N : Nat) {s : St} {κ : Ex → St → Option (((Sh.int .i64)).T)} {a : ((Sh.int .i64)).T} (h : lpOf 0 H421_0 P421_0 Q421_0 (u421_0 c424 N N) s κ = some a) : Out FT XU 0 (retc k421.res (Sh.int .i64)) (loopN k421 0) s κ a := by
  rw [l421_0]
  exact loop_out (LP := W421_0 c424 N) (fu := fuelC) hT hO (fun _ _ => rfl) (b421_0 c424 N) loopOK_nil N h
def W421 (c424 : D424) (N : Nat) : LoopF (((Sh.int .i64)).T) := fun no =>
  match no with
  | 0 => lpOf 0 H421_0 P421_0 Q421_0 (u421_0 c424 N N)
  | 1 => lpOf 0 H421_1 P421_1 Q421_1 (u421_1 c424 N N)
  | _ => fun _ _ => none
theorem e421 (c424 : D424) (N : Nat) (a0 : List UInt8) (a1 : List UInt8) : evc (T421 c424) (rawOf RW0) (W421 c424 N) (retc k421.res (Sh.int .i64)) (modeOf FT) 0 fuelC k421.body (env0 k421 (encL [Sh.str, Sh.str] (a0, (a1, ()))), []) (endK (retc k421.res (Sh.int .i64))) = p421 c424 N a0 a1 := by kernel_rfl
theorem ok421 (c424 : D424) (h424 : O424 c424) {f : D421} (hf : ∀ a0 a1 r, f a0 a1 = some r → ∃ N, p421 c424 N a0 a1 = some r) : O421 f := by
  have hT : TabOK FT XU (T421 c424) := (tb1 h424 tb0)
  have hO0 : RawOK FT XU (rawOf (α := ((Sh.int .i64)).T) RW0) := rawOK0
  have hO : RawOK FT XU (rawOf (α := ((Sh.int .i64)).T) RW0) := hO0
  refine ⟨rfl, fun v r h => ?_⟩
  obtain ⟨a0, a1, _⟩ := v
  obtain ⟨N, h1⟩ := hf _ _ _ h
  exact ans_c (R := (Sh.int .i64)) (tab := T421 c424) (raw := (rawOf RW0)) (LP := W421 c424 N) (fu := fuelC) hT hO rfl rfl (Nat.le_of_ble_eq_true rfl) (loopOK_cons l421_0 (fun s κ a h => o421_0 c424 hT hO N h) (loopOK_cons l421_1 (fun s κ a h => o421_1 c424 hT hO N h) loopOK_nil)) ((e421 c424 N _ _).trans h1)

theorem ok416 (c420 : D420) (c421 : D421) (h420 : O420 c420) (h421 : O421 c421) {f : D416} (hf : ∀ a0 a1 r, f a0 a1 = some r → ∃ N, p416 c420 c421 N a0 a1 = some r) : O416 f :=
 okc (fu := fuelC) (tb1 h420 (tb1 h421 tb0)) rfl rfl rfl (fun _ => rfl) (fun v r h => by
 obtain ⟨N, h⟩ := hf v.1 v.2.1 r h
 refine Eq.trans ?_ h; kernel_rfl) rfl

theorem ok411 (c416 : D416) (h416 : O416 c416) {f : D411} (hf : ∀ a0 r, f a0 = some r → ∃ N, p411 c416 N a0 = some r) : O411 f :=
 okc (fu := fuelC) (tb1 h416 tb0) rfl rfl rfl (fun _ => rfl) (fun v r h => by
 obtain ⟨N, h⟩ := hf v.1 r h
 refine Eq.trans ?_ h; kernel_rfl) rfl

theorem ok409 (c396 : D396) (c397 : D397) (h396 : O396 c396) (h397 : O397 c397) {f : D409} (hf : ∀ a0 r, f a0 = some r → ∃ N, p409 c396 c397 N a0 = some r) : O409 f :=
 okc (fu := fuelC) (tb1 h396 (tb1 h397 tb0)) rfl rfl rfl (fun _ => rfl) (fun v r h => by
 obtain ⟨N, h⟩ := hf v.1 r h
 refine Eq.trans ?_ h; kernel_rfl) rfl

def T412 : Nat → Option Ent := tb []
def H412_0 : Trim := ⟨0, [], false, [6], []⟩
theorem l412_0 : loopN k412 0 = .loop H412_0 (bodyOf (loopN k412 0)) := by kernel_rfl
def P412_0 : Ps := ⟨[(0, .u), (2, .u), (4, .u), (6, (.ptr 0 0)), (7, .u), (8, .u), (15, .u)], [.iter]⟩
def Q412_0 : Nat → Ps
  | 0 => ⟨[(0, .u), (2, .u), (4, .u), (6, .u), (7, .u), (8, .u), (15, .u)], []⟩
  | _ => noPs
def u412_0 (N n : Nat) (v : P412_0.T) (κ : (i : Nat) → (Q412_0 i).T → Option (Sh.bool).T) : Option (Sh.bool).T :=
  L412_0 N (κ 0 (((), ((), ((), ((), ((), ((), ((), ()))))))), ())) n v.2.1.1 v.2.1.2
def W412_0 (N : Nat) : LoopF (Sh.bool).T := fun no =>
  match no with
  | _ => fun _ _ => none
theorem b412_0 (N n : Nat) (v : P412_0.T) (κ : (i : Nat) → (Q412_0 i).T → Option (Sh.bool).T) :
    evc (T412) (rawOf RW0) (W412_0 N) (retc k412.res Sh.bool) (modeOf FT) 0 fuelC (bodyOf (loopN k412 0)) (P412_0.st v) (roundK 0 H412_0 P412_0 Q412_0 (u412_0 N n) κ) = u412_0 N (n + 1) v κ := by kernel_rfl
theorem o412_0 (hT : TabOK FT XU (T412)) (hO : RawOK FT XU (rawOf (α := (Sh.bool).T) RW0)) (N : Nat) {s : St} {κ : Ex → St → Option (Sh.bool).T} {a : (Sh.bool).T} (h : lpOf 0 H412_0 P412_0 Q412_0 (u412_0 N N) s κ = some a) : Out FT XU 0 (retc k412.res Sh.bool) (loopN k412 0) s κ a := by
  rw [l412_0]
  exact loop_out (LP := W412_0 N) (fu := fuelC) hT hO (fun _ _ => rfl) (b412_0 N) loopOK_nil N h
def W412 (N : Nat) : LoopF (Sh.bool).T := fun no =>
  match no with
  | 0 => lpOf 0 H412_0 P412_0 Q412_0 (u412_0 N N)
  | _ => fun _ _ => none
theorem e412 (N : Nat) (a0 : List UInt8) : evc (T412) (rawOf RW0) (W412 N) (retc k412.res Sh.bool) (modeOf FT) 0 fuelC k412.body (env0 k412 (encL [Sh.str] (a0, ())), []) (endK (retc k412.res Sh.bool)) = p412 N a0 := by kernel_rfl
theorem ok412 {f : D412} (hf : ∀ a0 r, f a0 = some r → ∃ N, p412 N a0 = some r) : O412 f := by
  have hT : TabOK FT XU (T412) := tb0
  have hO0 : RawOK FT XU (rawOf (α := (Sh.bool).T) RW0) := rawOK0
  have hO : RawOK FT XU (rawOf (α := (Sh.bool).T) RW0) := hO0
  refine ⟨rfl, fun v r h => ?_⟩
  obtain ⟨a0, _⟩ := v
  obtain ⟨N, h1⟩ := hf _ _ h
  exact ans_c (R := Sh.bool) (tab := T412) (raw := (rawOf RW0)) (LP := W412 N) (fu := fuelC) hT hO rfl rfl (Nat.le_of_ble_eq_true rfl) (loopOK_cons l412_0 (fun s κ a h => o412_0 hT hO N h) loopOK_nil) ((e412 N _).trans h1)

theorem ok408 (c387 : D387) (c410 : D410) (c411 : D411) (c409 : D409) (c412 : D412) (c391 : D391) (h387 : O387 c387) (h410 : O410 c410) (h411 : O411 c411) (h409 : O409 c409) (h412 : O412 c412) (h391 : O391 c391) {f : D408} (hf : ∀  r, f  = some r → ∃ N, p408 c387 c410 c411 c409 c412 c391 N  = some r) : O408 f :=
 okc (fu := fuelC) (tb1 h387 (tb1 h410 (tb1 h411 (tb1 h409 (tb1 h412 (tb1 h391 tb0)))))) rfl rfl rfl (fun _ => rfl) (fun v r h => by
 obtain ⟨N, h⟩ := hf r h
 refine Eq.trans ?_ h; kernel_rfl) rfl

def T405 (c408 : D408) (c387 : D387) (c388 : D388) (c392 : D392) (c394 : D394) (c398 : D398) (c409 : D409) (c23 : D23) (c391 : D391) (c393 : D393) : Nat → Option Ent := tb [(408, en408 c408), (387, en387 c387), (388, en388 c388), (392, en392 c392), (394, en394 c394), (398, en398 c398), (409, en409 c409), (23, en23 c23), (391, en391 c391), (393, en393 c393)]
def H405_0 : Trim := ⟨0, [], false, [0, 3, 4, 5, 6, 7, 8, 60, 61], []⟩
theorem l405_0 : loopN k405 0 = .loop H405_0 (bodyOf (loopN k405 0)) := by kernel_rfl
def P405_0 : Ps := ⟨[(0, .str), (2, .u), (3, (.tb (Sh.int .u8))), (4, (.int .i64)), (5, (.tb (Sh.int .u8))), (6, (.int .i64)), (7, (.tb (Sh.int .u16))), (8, (.tb (Sh.int .u16))), (9, .u), (10, .u), (11, .u), (14, .u), (58, .u), (60, (.int .i64)), (61, (.int .i64)), (62, .u), (72, .u)], []⟩
def Q405_0 : Nat → Ps
  | 0 => ⟨[(0, .str), (2, .u), (3, (.tb (Sh.int .u8))), (4, (.int .i64)), (5, (.tb (Sh.int .u8))), (6, (.int .i64)), (7, .u), (8, .u), (9, .u), (10, .u), (11, .u), (14, .u), (58, .u), (60, .u), (61, .u), (62, .u), (72, .u)], []⟩
  | _ => noPs
def u405_0 (c408 : D408) (c387 : D387) (c388 : D388) (c392 : D392) (c394 : D394) (c398 : D398) (c409 : D409) (c23 : D23) (c391 : D391) (c393 : D393) (N n : Nat) (v : P405_0.T) (κ : (i : Nat) → (Q405_0 i).T → Option (Sh.bool).T) : Option (Sh.bool).T :=
  L405_0 c408 c387 c388 c392 c394 c398 c409 c23 c391 c393 N (fun (y0 : List UInt8) (y1 : List Int) (y2 : Int) (y3 : List Int) (y4 : Int) => κ 0 ((y0, ((), (y1, (y2, (y3, (y4, ((), ((), ((), ((), ((), ((), ((), ((), ((), ((), ((), ()))))))))))))))))), ())) n v.1.1 v.1.2.2.1 v.1.2.2.2.1 v.1.2.2.2.2.1 v.1.2.2.2.2.2.1 v.1.2.2.2.2.2.2.1 v.1.2.2.2.2.2.2.2.1 v.1.2.2.2.2.2.2.2.2.2.2.2.2.2.1 v.1.2.2.2.2.2.2.2.2.2.2.2.2.2.2.1
def W405_0 (c408 : D408) (c387 : D387) (c388 : D388) (c392 : D392) (c394 : D394) (c398 : D398) (c409 : D409) (c23 : D23) (c391 : D391) (c393 : D393) (N : Nat) : LoopF (Sh.bool).T := fun no =>
  match no with
  | _ => fun _ _ => none
theorem b405_0 (c408 : D408) (c387 : D387) (c388 : D388) (c392 : D392) (c394 : D394) (c398 : D398) (c409 : D409) (c23 : D23) (c391 : D391) (c393 : D393) (N n : Nat) (v : P405_0.T) (κ : (i : Nat) → (Q405_0 i).T → Option (Sh.bool).T) :
    evc (T405 c408 c387 c388 c392 c394 c398 c409 c23 c391 c393) (rawOf RW0) (W405_0 c408 c387 c388 c392 c394 c398 c409 c23 c391 c393 N) (retc k405.res Sh.bool) (modeOf FT) 0 fuelC (bodyOf (loopN k405 0)) (P405_0.st v) (roundK 0 H405_0 P405_0 Q405_0 (u405_0 c408 c387 c388 c392 c394 c398 c409 c23 c391 c393 N n) κ) = u405_0 c408 c387 c388 c392 c394 c398 c409 c23 c391 c393 N (n + 1) v κ := by kernel_rfl
theorem o405_0 (c408 : D408) (c387 : D387) (c388 : D388) (c392 : D392) (c394 : D394) (c398 : D398) (c409 : D409) (c23 : D23) (c391 : D391) (c393 : D393) (hT : TabOK FT XU (T405 c408 c387 c388 c392 c394 c398 c409 c23 c391 c393)) (hO : RawOK FT XU (rawOf (α := (Sh.bool).T) RW0)) (N : Nat) {s : St} {κ : Ex → St → Option (Sh.bool).T} {a : (Sh.bool).T} (h : lpOf 0 H405_0 P405_0 Q405_0 (u405_0 c408 c387 c388 c392 c394 c398 c409 c23 c391 c393 N N) s κ = some a) : Out FT XU 0 (retc k405.res Sh.bool) (loopN k405 0) s κ a := by
  rw [l405_0]
  exact loop_out (LP := W405_0 c408 c387 c388 c392 c394 c398 c409 c23 c391 c393 N) (fu := fuelC) hT hO (fun _ _ => rfl) (b405_0 c408 c387 c388 c392 c394 c398 c409 c23 c391 c393 N) loopOK_nil N h
def W405 (c408 : D408) (c387 : D387) (c388 : D388) (c392 : D392) (c394 : D394) (c398 : D398) (c409 : D409) (c23 : D23) (c391 : D391) (c393 : D393) (N : Nat) : LoopF (Sh.bool).T := fun no =>
  match no with
  | 0 => lpOf 0 H405_0 P405_0 Q405_0 (u405_0 c408 c387 c388 c392 c394 c398 c409 c23 c391 c393 N N)
  | _ => fun _ _ => none
theorem e405 (c408 : D408) (c387 : D387) (c388 : D388) (c392 : D392) (c394 : D394) (c398 : D398) (c409 : D409) (c23 : D23) (c391 : D391) (c393 : D393) (N : Nat) (a0 : List UInt8) : evc (T405 c408 c387 c388 c392 c394 c398 c409 c23 c391 c393) (rawOf RW0) (W405 c408 c387 c388 c392 c394 c398 c409 c23 c391 c393 N) (retc k405.res Sh.bool) (modeOf FT) 0 fuelC k405.body (env0 k405 (encL [Sh.str] (a0, ())), []) (endK (retc k405.res Sh.bool)) = p405 c408 c387 c388 c392 c394 c398 c409 c23 c391 c393 N a0 := by kernel_rfl
theorem ok405 (c408 : D408) (c387 : D387) (c388 : D388) (c392 : D392) (c394 : D394) (c398 : D398) (c409 : D409) (c23 : D23) (c391 : D391) (c393 : D393) (h408 : O408 c408) (h387 : O387 c387) (h388 : O388 c388) (h392 : O392 c392) (h394 : O394 c394) (h398 : O398 c398) (h409 : O409 c409) (h23 : O23 c23) (h391 : O391 c391) (h393 : O393 c393) {f : D405} (hf : ∀ a0 r, f a0 = some r → ∃ N, p405 c408 c387 c388 c392 c394 c398 c409 c23 c391 c393 N a0 = some r) : O405 f := by
  have hT : TabOK FT XU (T405 c408 c387 c388 c392 c394 c398 c409 c23 c391 c393) := (tb1 h408 (tb1 h387 (tb1 h388 (tb1 h392 (tb1 h394 (tb1 h398 (tb1 h409 (tb1 h23 (tb1 h391 (tb1 h393 tb0))))))))))
  have hO0 : RawOK FT XU (rawOf (α := (Sh.bool).T) RW0) := rawOK0
  have hO : RawOK FT XU (rawOf (α := (Sh.bool).T) RW0) := hO0
  refine ⟨rfl, fun v r h => ?_⟩
  obtain ⟨a0, _⟩ := v
  obtain ⟨N, h1⟩ := hf _ _ h
  exact ans_c (R := Sh.bool) (tab := T405 c408 c387 c388 c392 c394 c398 c409 c23 c391 c393) (raw := (rawOf RW0)) (LP := W405 c408 c387 c388 c392 c394 c398 c409 c23 c391 c393 N) (fu := fuelC) hT hO rfl rfl (Nat.le_of_ble_eq_true rfl) (loopOK_cons l405_0 (fun s κ a h => o405_0 c408 c387 c388 c392 c394 c398 c409 c23 c391 c393 hT hO N h) loopOK_nil) ((e405 c408 c387 c388 c392 c394 c398 c409 c23 c391 c393 N _).trans h1)

theorem ok406 (c408 : D408) (c387 : D387) (c410 : D410) (c23 : D23) (h408 : O408 c408) (h387 : O387 c387) (h410 : O410 c410) (h23 : O23 c23) {f : D406} (hf : ∀ a0 a1 r, f a0 a1 = some r → ∃ N, p406 c408 c387 c410 c23 N a0 a1 = some r) : O406 f :=
 okc (fu := fuelC) (tb1 h408 (tb1 h387 (tb1 h410 (tb1 h23 tb0)))) rfl rfl rfl (fun _ => rfl) (fun v r h => by
 obtain ⟨N, h⟩ := hf v.1 v.2.1 r h
 refine Eq.trans ?_ h; kernel_rfl) rfl

def T407 (c408 : D408) (c392 : D392) (c409 : D409) (c387 : D387) (c391 : D391) : Nat → Option Ent := tb [(408, en408 c408), (392, en392 c392), (409, en409 c409), (387, en387 c387), (391, en391 c391)]
def H407_0 : Trim := ⟨0, [], false, [3, 4, 5, 47, 48, 49], []⟩
theorem l407_0 : loopN k407 0 = .loop H407_0 (bodyOf (loopN k407 0)) := by kernel_rfl
def P407_0 : Ps := ⟨[(0, .u), (2, .u), (3, (.tb (Sh.int .u16))), (4, (.int .i64)), (5, (.tb (Sh.int .u8))), (6, .u), (7, .u), (8, .u), (11, .u), (23, .u), (46, .u), (47, (.tb (Sh.int .u16))), (48, (.int .i64)), (49, (.int .i64)), (50, .u), (71, .u)], []⟩
def Q407_0 : Nat → Ps
  | 0 => ⟨[(0, .u), (2, .u), (3, (.tb (Sh.int .u16))), (4, (.int .i64)), (5, .u), (6, .u), (7, .u), (8, .u), (11, .u), (23, .u), (46, .u), (47, .u), (48, .u), (49, .u), (50, .u), (71, .u)], []⟩
  | _ => noPs
def u407_0 (c408 : D408) (c392 : D392) (c409 : D409) (c387 : D387) (c391 : D391) (N n : Nat) (v : P407_0.T) (κ : (i : Nat) → (Q407_0 i).T → Option (Sh.bool).T) : Option (Sh.bool).T :=
  L407_0 c408 c392 c409 c387 c391 N (fun (y0 : List Int) (y1 : Int) => κ 0 (((), ((), (y0, (y1, ((), ((), ((), ((), ((), ((), ((), ((), ((), ((), ((), ((), ())))))))))))))))), ())) n v.1.2.2.1 v.1.2.2.2.1 v.1.2.2.2.2.1 v.1.2.2.2.2.2.2.2.2.2.2.2.1 v.1.2.2.2.2.2.2.2.2.2.2.2.2.1 v.1.2.2.2.2.2.2.2.2.2.2.2.2.2.1
def W407_0 (c408 : D408) (c392 : D392) (c409 : D409) (c387 : D387) (c391 : D391) (N : Nat) : LoopF (Sh.bool).T := fun no =>
  match no with
  | _ => fun _ _ => none
theorem b407_0 (c408 : D408) (c392 : D392) (c409 : D409) (c387 : D387) (c391 : D391) (N n : Nat) (v : P407_0.T) (κ : (i : Nat) → (Q407_0 i).T → Option (Sh.bool).T) :
    evc (T407 c408 c392 c409 c387 c391) (rawOf RW0) (W407_0 c408 c392 c409 c387 c391 N) (retc k407.res Sh.bool) (modeOf FT) 0 fuelC (bodyOf (loopN k407 0)) (P407_0.st v) (roundK 0 H407_0 P407_0 Q407_0 (u407_0 c408 c392 c409 c387 c391 N n) κ) = u407_0 c408 c392 c409 c387 c391 N (n + 1) v κ := by kernel_rfl
theorem o407_0 (c408 : D408) (c392 : D392) (c409 : D409) (c387 : D387) (c391 : D391) (hT : TabOK FT XU (T407 c408 c392 c409 c387 c391)) (hO : RawOK FT XU (rawOf (α := (Sh.bool).T) RW0)) (N : Nat) {s : St} {κ : Ex → St → Option (Sh.bool).T} {a : (Sh.bool).T} (h : lpOf 0 H407_0 P407_0 Q407_0 (u407_0 c408 c392 c409 c387 c391 N N) s κ = some a) : Out FT XU 0 (retc k407.res Sh.bool) (loopN k407 0) s κ a := by
  rw [l407_0]
  exact loop_out (LP := W407_0 c408 c392 c409 c387 c391 N) (fu := fuelC) hT hO (fun _ _ => rfl) (b407_0 c408 c392 c409 c387 c391 N) loopOK_nil N h
def W407 (c408 : D408) (c392 : D392) (c409 : D409) (c387 : D387) (c391 : D391) (N : Nat) : LoopF (Sh.bool).T := fun no =>
  match no with
  | 0 => lpOf 0 H407_0 P407_0 Q407_0 (u407_0 c408 c392 c409 c387 c391 N N)
  | _ => fun _ _ => none
theorem e407 (c408 : D408) (c392 : D392) (c409 : D409) (c387 : D387) (c391 : D391) (N : Nat) (a0 : List UInt8) : evc (T407 c408 c392 c409 c387 c391) (rawOf RW0) (W407 c408 c392 c409 c387 c391 N) (retc k407.res Sh.bool) (modeOf FT) 0 fuelC k407.body (env0 k407 (encL [Sh.str] (a0, ())), []) (endK (retc k407.res Sh.bool)) = p407 c408 c392 c409 c387 c391 N a0 := by kernel_rfl
theorem ok407 (c408 : D408) (c392 : D392) (c409 : D409) (c387 : D387) (c391 : D391) (h408 : O408 c408) (h392 : O392 c392) (h409 : O409 c409) (h387 : O387 c387) (h391 : O391 c391) {f : D407} (hf : ∀ a0 r, f a0 = some r → ∃ N, p407 c408 c392 c409 c387 c391 N a0 = some r) : O407 f := by
  have hT : TabOK FT XU (T407 c408 c392 c409 c387 c391) := (tb1 h408 (tb1 h392 (tb1 h409 (tb1 h387 (tb1 h391 tb0)))))
  have hO0 : RawOK FT XU (rawOf (α := (Sh.bool).T) RW0) := rawOK0
  have hO : RawOK FT XU (rawOf (α := (Sh.bool).T) RW0) := hO0
  refine ⟨rfl, fun v r h => ?_⟩
  obtain ⟨a0, _⟩ := v
  obtain ⟨N, h1⟩ := hf _ _ h
  exact ans_c (R := Sh.bool) (tab := T407 c408 c392 c409 c387 c391) (raw := (rawOf RW0)) (LP := W407 c408 c392 c409 c387 c391 N) (fu := fuelC) hT hO rfl rfl (Nat.le_of_ble_eq_true rfl) (loopOK_cons l407_0 (fun s κ a h => o407_0 c408 c392 c409 c387 c391 hT hO N h) loopOK_nil) ((e407 c408 c392 c409 c387 c391 N _).trans h1)
end Go.Proofs.YtchoafdpckknmaaDoorE
