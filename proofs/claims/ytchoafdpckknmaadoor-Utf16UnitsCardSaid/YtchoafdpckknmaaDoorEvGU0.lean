/- The functions as plain ones. -/
import Derived.Test.YtchoafdpckknmaaDoorEvFU0
namespace Go.Proofs.YtchoafdpckknmaaDoorE.U0
open Go
set_option linter.unusedVariables false
set_option linter.unusedSimpArgs false
abbrev zz (n : Nat) : List Int := List.replicate n 0
abbrev D21 : Type := List Int → Bool → Option (Int × Int)
/-- euphroe/octs.Get -/
abbrev en21 (f : D21) : Ent := ⟨[(Sh.sl (Sh.int .u8)), Sh.bool], ((Sh.tu (Sh.pr (Sh.int .u64) (Sh.int .i64)))).T, fun v => f v.1 v.2.1, fun r => (((Sh.tu (Sh.pr (Sh.int .u64) (Sh.int .i64)))).enc r, [])⟩
abbrev O21 (f : D21) : Prop := EntOK FT XT 21 (en21 f)
abbrev D397 : Type := List UInt8 → Option Int
/-- unicode/utf8.RuneCountInString -/
abbrev en397 (f : D397) : Ent := ⟨[Sh.str], ((Sh.int .i64)).T, fun v => f v.1, fun r => (((Sh.int .i64)).enc r, [])⟩
abbrev O397 (f : D397) : Prop := EntOK FT XT 397 (en397 f)
abbrev D413 : Type := List Int → Option (Int × Int)
/-- euphroe/utf16.sign -/
abbrev en413 (f : D413) : Ent := ⟨[(Sh.sl (Sh.int .u8))], ((Sh.tu (Sh.pr (Sh.int .i32) (Sh.int .i64)))).T, fun v => f v.1, fun r => (((Sh.tu (Sh.pr (Sh.int .i32) (Sh.int .i64)))).enc r, [])⟩
abbrev O413 (f : D413) : Prop := EntOK FT XT 413 (en413 f)
abbrev D417 : Type := List Int → Option Int
/-- euphroe/utf16.unit -/
abbrev en417 (f : D417) : Ent := ⟨[(Sh.sl (Sh.int .u8))], ((Sh.int .i32)).T, fun v => f v.1, fun r => (((Sh.int .i32)).enc r, [])⟩
abbrev O417 (f : D417) : Prop := EntOK FT XT 417 (en417 f)

def L21_0 (N : Nat) (q0_0 : Int → Option (Int × Int)) : Nat → Bool → Int → List Int → Int → Int → Option (Int × Int)
  | 0, _, _, _, _, _ => none
  | n0 + 1, v1, v2, v3, v4, v5 =>
    bif (decide (v5 < v4)) then
 match geti v3 v5 with
 | none => none
 | some x6 =>
 bif v1 then
 bif (decide ((imul .i64 (8 : Int) v5) < (0 : Int))) then
 none
 else
 L21_0 N q0_0 n0 v1 (ior .u64 v2 (ishl .u64 (IntKind.wrap .u64 x6) (imul .i64 (8 : Int) v5))) v3 v4 (iadd .i64 v5 (1 : Int))
 else
 L21_0 N q0_0 n0 v1 (ior .u64 (ishl .u64 v2 (8 : Int)) (IntKind.wrap .u64 x6)) v3 v4 (iadd .i64 v5 (1 : Int))
 else
 q0_0 v2
/-- euphroe/octs.Get -/
def p21 (N : Nat) (a0 : List Int) (a1 : Bool) : Option (Int × Int) :=
  bif (decide ((((List.length a0) : Nat) : Int) < (1 : Int))) then
 some ((0 : Int), (1 : Int))
 else
 bif (decide ((((List.length a0) : Nat) : Int) > (8 : Int))) then
 some ((0 : Int), (1 : Int))
 else
 L21_0 N (fun (y7 : Int) =>
 some (y7, (0 : Int))) N a1 (0 : Int) a0 (((List.length a0) : Nat) : Int) (0 : Int)

def L397_0 (N : Nat) (q0_0 : Int → Option Int) : Nat → Int → List UInt8 → Nat → Option Int
  | 0, _, _, _ => none
  | n0 + 1, v1, v2, v3 =>
    bif (decide (v3 < (List.length v2))) then
 L397_0 N q0_0 n0 (iadd .i64 v1 (1 : Int)) v2 (v3 + (Utf8.decode ⟨List.toArray v2⟩ v3).2)
 else
 q0_0 v1
/-- unicode/utf8.RuneCountInString -/
def p397 (N : Nat) (a0 : List UInt8) : Option Int :=
  L397_0 N (fun (y4 : Int) =>
 some y4) N (0 : Int) a0 0

/-- euphroe/utf16.unit -/
def p417 (c21 : D21) (N : Nat) (a0 : List Int) : Option Int :=
  bif (decide ((((List.length a0) : Nat) : Int) < (2 : Int))) then
 some (-1 : Int)
 else
 bif (decide ((2 : Int) ≤ (((List.length a0) : Nat) : Int))) then
 match c21 (List.take 2 a0) true with
 | none => none
 | some r1 =>
 some (IntKind.wrap .i32 r1.1)
 else none

/-- euphroe/utf16.sign -/
def p413 (c417 : D417) (N : Nat) (a0 : List Int) : Option (Int × Int) :=
  match c417 a0 with
 | none => none
 | some r1 =>
 bif (decide (r1 < (55296 : Int))) then
 some (r1, (2 : Int))
 else
 bif (decide (r1 ≥ (57344 : Int))) then
 some (r1, (2 : Int))
 else
 bif (decide ((2 : Int) ≤ (((List.length a0) : Nat) : Int))) then
 match c417 (List.drop 2 a0) with
 | none => none
 | some r2 =>
 bif (decide (r1 ≥ (56320 : Int))) then
 some ((0 : Int), (0 : Int))
 else
 bif (decide (r2 < (56320 : Int))) then
 some ((0 : Int), (0 : Int))
 else
 bif (decide (r2 ≥ (57344 : Int))) then
 some ((0 : Int), (0 : Int))
 else
 some ((isub .i32 (iadd .i32 (iadd .i32 (65536 : Int) (ishl .i32 (isub .i32 r1 (55296 : Int)) (10 : Int))) r2) (56320 : Int)), (4 : Int))
 else none
end Go.Proofs.YtchoafdpckknmaaDoorE.U0
