/- The functions as plain ones. -/
import Derived.Test.YtchoafdpckknmaaDoorEvFU1
namespace Go.Proofs.YtchoafdpckknmaaDoorE
open Go
set_option linter.unusedVariables false
set_option linter.unusedSimpArgs false
abbrev zz (n : Nat) : List Int := List.replicate n 0
abbrev D19 : Type := Int → Int → Bool → Option ((List Int) × Int)
/-- euphroe/octs.Put -/
abbrev en19 (f : D19) : Ent := ⟨[(Sh.int .u64), (Sh.int .i64), Sh.bool], ((Sh.tu (Sh.pr (Sh.sl (Sh.int .u8)) (Sh.int .i64)))).T, fun v => f v.1 v.2.1 v.2.2.1, fun r => (((Sh.tu (Sh.pr (Sh.sl (Sh.int .u8)) (Sh.int .i64)))).enc r, [])⟩
abbrev O19 (f : D19) : Prop := EntOK FT XU 19 (en19 f)
abbrev D23 : Type := List Int → List Int → Option Bool
/-- euphroe/euphroeref01.Same -/
abbrev en23 (f : D23) : Ent := ⟨[(Sh.sl (Sh.int .u8)), (Sh.sl (Sh.int .u8))], (Sh.bool).T, fun v => f v.1 v.2.1, fun r => ((Sh.bool).enc r, [])⟩
abbrev O23 (f : D23) : Prop := EntOK FT XU 23 (en23 f)
abbrev D387 : Type := List UInt8 → Option ((List Int) × Int)
/-- euphroe/utf16.Lay -/
abbrev en387 (f : D387) : Ent := ⟨[Sh.str], ((Sh.tu (Sh.pr (Sh.sl (Sh.int .u8)) (Sh.int .i64)))).T, fun v => f v.1, fun r => (((Sh.tu (Sh.pr (Sh.sl (Sh.int .u8)) (Sh.int .i64)))).enc r, [])⟩
abbrev O387 (f : D387) : Prop := EntOK FT XU 387 (en387 f)
abbrev D388 : Type := List UInt8 → Option ((List Int) × Int)
/-- euphroe/euphroeref09.Lay -/
abbrev en388 (f : D388) : Ent := ⟨[Sh.str], ((Sh.tu (Sh.pr (Sh.sl (Sh.int .u8)) (Sh.int .i64)))).T, fun v => f v.1, fun r => (((Sh.tu (Sh.pr (Sh.sl (Sh.int .u8)) (Sh.int .i64)))).enc r, [])⟩
abbrev O388 (f : D388) : Prop := EntOK FT XU 388 (en388 f)
abbrev D391 : Type := List UInt8 → Option Int
/-- euphroe/utf16.May -/
abbrev en391 (f : D391) : Ent := ⟨[Sh.str], ((Sh.int .i64)).T, fun v => f v.1, fun r => (((Sh.int .i64)).enc r, [])⟩
abbrev O391 (f : D391) : Prop := EntOK FT XU 391 (en391 f)
abbrev D392 : Type := List UInt8 → Option (List Int)
/-- euphroe/utf16.Units -/
abbrev en392 (f : D392) : Ent := ⟨[Sh.str], ((Sh.sl (Sh.int .u16))).T, fun v => f v.1, fun r => (((Sh.sl (Sh.int .u16))).enc r, [])⟩
abbrev O392 (f : D392) : Prop := EntOK FT XU 392 (en392 f)
abbrev D393 : Type := List UInt8 → Option Int
/-- euphroe/euphroeref09.May -/
abbrev en393 (f : D393) : Ent := ⟨[Sh.str], ((Sh.int .i64)).T, fun v => f v.1, fun r => (((Sh.int .i64)).enc r, [])⟩
abbrev O393 (f : D393) : Prop := EntOK FT XU 393 (en393 f)
abbrev D394 : Type := List UInt8 → Option (List Int)
/-- euphroe/euphroeref09.Units -/
abbrev en394 (f : D394) : Ent := ⟨[Sh.str], ((Sh.sl (Sh.int .u16))).T, fun v => f v.1, fun r => (((Sh.sl (Sh.int .u16))).enc r, [])⟩
abbrev O394 (f : D394) : Prop := EntOK FT XU 394 (en394 f)
abbrev D396 : Type := List UInt8 → Option Bool
/-- unicode/utf8.ValidString -/
abbrev en396 (f : D396) : Ent := ⟨[Sh.str], (Sh.bool).T, fun v => f v.1, fun r => ((Sh.bool).enc r, [])⟩
abbrev O396 (f : D396) : Prop := EntOK FT XU 396 (en396 f)
abbrev D397 : Type := List UInt8 → Option Int
/-- unicode/utf8.RuneCountInString -/
abbrev en397 (f : D397) : Ent := ⟨[Sh.str], ((Sh.int .i64)).T, fun v => f v.1, fun r => (((Sh.int .i64)).enc r, [])⟩
abbrev O397 (f : D397) : Prop := EntOK FT XU 397 (en397 f)
abbrev D398 : Type := List UInt8 → Option ((List Int) × Bool)
/-- euphroe/euphroeref09.Signs -/
abbrev en398 (f : D398) : Ent := ⟨[Sh.str], ((Sh.tu (Sh.pr (Sh.sl (Sh.int .i64)) Sh.bool))).T, fun v => f v.1, fun r => (((Sh.tu (Sh.pr (Sh.sl (Sh.int .i64)) Sh.bool))).enc r, [])⟩
abbrev O398 (f : D398) : Prop := EntOK FT XU 398 (en398 f)
abbrev D401 : Type := List UInt8 → Option Int
/-- unicode/utf8.word[string] -/
abbrev en401 (f : D401) : Ent := ⟨[Sh.str], ((Sh.int .u64)).T, fun v => f v.1, fun r => (((Sh.int .u64)).enc r, [])⟩
abbrev O401 (f : D401) : Prop := EntOK FT XU 401 (en401 f)
abbrev D402 : Type := List UInt8 → Int → Option (Int × Int)
/-- euphroe/euphroeref09.sign -/
abbrev en402 (f : D402) : Ent := ⟨[Sh.str, (Sh.int .i64)], ((Sh.tu (Sh.pr (Sh.int .i64) (Sh.int .i64)))).T, fun v => f v.1 v.2.1, fun r => (((Sh.tu (Sh.pr (Sh.int .i64) (Sh.int .i64)))).enc r, [])⟩
abbrev O402 (f : D402) : Prop := EntOK FT XU 402 (en402 f)
abbrev D404 : Type := List UInt8 → Int → Option (Int × Bool)
/-- euphroe/euphroeref09.more -/
abbrev en404 (f : D404) : Ent := ⟨[Sh.str, (Sh.int .i64)], ((Sh.tu (Sh.pr (Sh.int .i64) Sh.bool))).T, fun v => f v.1 v.2.1, fun r => (((Sh.tu (Sh.pr (Sh.int .i64) Sh.bool))).enc r, [])⟩
abbrev O404 (f : D404) : Prop := EntOK FT XU 404 (en404 f)
abbrev D405 : Type := List UInt8 → Option Bool
/-- euphroe/euphroelaw09.Utf16Lays -/
abbrev en405 (f : D405) : Ent := ⟨[Sh.str], (Sh.bool).T, fun v => f v.1, fun r => ((Sh.bool).enc r, [])⟩
abbrev O405 (f : D405) : Prop := EntOK FT XU 405 (en405 f)
abbrev D406 : Type := List UInt8 → List Int → Option Bool
/-- euphroe/euphroelaw09.Utf16Back -/
abbrev en406 (f : D406) : Ent := ⟨[Sh.str, (Sh.sl (Sh.int .u8))], (Sh.bool).T, fun v => f v.1 v.2.1, fun r => ((Sh.bool).enc r, [])⟩
abbrev O406 (f : D406) : Prop := EntOK FT XU 406 (en406 f)
abbrev D407 : Type := List UInt8 → Option Bool
/-- euphroe/euphroelaw09.Utf16Units -/
abbrev en407 (f : D407) : Ent := ⟨[Sh.str], (Sh.bool).T, fun v => f v.1, fun r => ((Sh.bool).enc r, [])⟩
abbrev O407 (f : D407) : Prop := EntOK FT XU 407 (en407 f)
abbrev D408 : Type := Option Bool
/-- euphroe/euphroelaw09.alive -/
abbrev en408 (f : D408) : Ent := ⟨[], (Sh.bool).T, fun v => f, fun r => ((Sh.bool).enc r, [])⟩
abbrev O408 (f : D408) : Prop := EntOK FT XU 408 (en408 f)
abbrev D409 : Type := List UInt8 → Option Int
/-- euphroe/utf16.Count -/
abbrev en409 (f : D409) : Ent := ⟨[Sh.str], ((Sh.int .i64)).T, fun v => f v.1, fun r => (((Sh.int .i64)).enc r, [])⟩
abbrev O409 (f : D409) : Prop := EntOK FT XU 409 (en409 f)
abbrev D410 : Type := List Int → Option ((List UInt8) × Int)
/-- euphroe/utf16.Parse -/
abbrev en410 (f : D410) : Ent := ⟨[(Sh.sl (Sh.int .u8))], ((Sh.tu (Sh.pr Sh.str (Sh.int .i64)))).T, fun v => f v.1, fun r => (((Sh.tu (Sh.pr Sh.str (Sh.int .i64)))).enc r, [])⟩
abbrev O410 (f : D410) : Prop := EntOK FT XU 410 (en410 f)
abbrev D411 : Type := List UInt8 → Option (List UInt8)
/-- euphroe/utf16.Bare -/
abbrev en411 (f : D411) : Ent := ⟨[Sh.str], (Sh.str).T, fun v => f v.1, fun r => ((Sh.str).enc r, [])⟩
abbrev O411 (f : D411) : Prop := EntOK FT XU 411 (en411 f)
abbrev D412 : Type := List UInt8 → Option Bool
/-- euphroe/utf16.Ascii -/
abbrev en412 (f : D412) : Ent := ⟨[Sh.str], (Sh.bool).T, fun v => f v.1, fun r => ((Sh.bool).enc r, [])⟩
abbrev O412 (f : D412) : Prop := EntOK FT XU 412 (en412 f)
abbrev D416 : Type := List UInt8 → List UInt8 → Option Int
/-- strings.LastIndex -/
abbrev en416 (f : D416) : Ent := ⟨[Sh.str, Sh.str], ((Sh.int .i64)).T, fun v => f v.1 v.2.1, fun r => (((Sh.int .i64)).enc r, [])⟩
abbrev O416 (f : D416) : Prop := EntOK FT XU 416 (en416 f)
abbrev D420 : Type := List UInt8 → Int → Option Int
/-- internal/bytealg.LastIndexByteString -/
abbrev en420 (f : D420) : Ent := ⟨[Sh.str, (Sh.int .u8)], ((Sh.int .i64)).T, fun v => f v.1 v.2.1, fun r => (((Sh.int .i64)).enc r, [])⟩
abbrev O420 (f : D420) : Prop := EntOK FT XU 420 (en420 f)
abbrev D421 : Type := List UInt8 → List UInt8 → Option Int
/-- internal/bytealg.LastIndexRabinKarp[string] -/
abbrev en421 (f : D421) : Ent := ⟨[Sh.str, Sh.str], ((Sh.int .i64)).T, fun v => f v.1 v.2.1, fun r => (((Sh.int .i64)).enc r, [])⟩
abbrev O421 (f : D421) : Prop := EntOK FT XU 421 (en421 f)
abbrev D424 : Type := List UInt8 → Option (Int × Int)
/-- internal/bytealg.hashStrRev[string] -/
abbrev en424 (f : D424) : Ent := ⟨[Sh.str], ((Sh.tu (Sh.pr (Sh.int .u32) (Sh.int .u32)))).T, fun v => f v.1, fun r => (((Sh.tu (Sh.pr (Sh.int .u32) (Sh.int .u32)))).enc r, [])⟩
abbrev O424 (f : D424) : Prop := EntOK FT XU 424 (en424 f)
abbrev R48v0 : Type := (Unit × Unit) × ((List Int) × Unit)
abbrev D48v0 : Type := Nat → Nat → List Int → Option R48v0
def PR48v0 : Pr := ⟨(.cons (.slc 0 1) .nil), [(.ints false .u8)]⟩
def QR48v0 : Pr := ⟨(.cons .tup0 .nil), [(.ints false .u8)]⟩
/-- slices.Reverse[[]byte,byte] -/
abbrev rn48v0 (f : D48v0) : REnt := ⟨PR48v0, QR48v0, R48v0, fun v => f v.1.1.1 v.1.1.2 v.2.1, fun r => r⟩
abbrev O48v0 (f : D48v0) : Prop := REntOK FT XU 48 (rn48v0 f)

def L48v0_0 (N : Nat) (q0_0 : List Int → Option R48v0) : Nat → Nat → Nat → Int → Int → List Int → Option R48v0
  | 0, _, _, _, _, _ => none
  | n0 + 1, v1, v2, v3, v4, v5 =>
    bif (decide (v3 < v4)) then
 bif ((decide ((0 : Int) ≤ v4)) && (decide (v4 < ((v1 : Nat) : Int)))) then
 match (v5)[(0 + ((Int.toNat v4) * 1))]? with
 | none => none
 | some x6 =>
 bif ((decide ((0 : Int) ≤ v3)) && (decide (v3 < ((v1 : Nat) : Int)))) then
 match (v5)[(0 + ((Int.toNat v3) * 1))]? with
 | none => none
 | some x7 =>
 bif ((decide ((0 : Int) ≤ v3)) && (decide (v3 < ((v1 : Nat) : Int)))) then
 bif (decide ((0 + ((Int.toNat v3) * 1)) < (List.length v5))) then
 bif ((decide ((0 : Int) ≤ v4)) && (decide (v4 < ((v1 : Nat) : Int)))) then
 bif (decide ((0 + ((Int.toNat v4) * 1)) < (List.length (List.set v5 (0 + ((Int.toNat v3) * 1)) x6)))) then
 L48v0_0 N q0_0 n0 v1 v2 (iadd .i64 v3 (1 : Int)) (isub .i64 v4 (1 : Int)) (List.set (List.set v5 (0 + ((Int.toNat v3) * 1)) x6) (0 + ((Int.toNat v4) * 1)) x7)
 else none
 else none
 else none
 else none
 else none
 else none
 else
 q0_0 v5
/-- slices.Reverse[[]byte,byte] -/
def p48v0 (N : Nat) (a0 : Nat) (a1 : Nat) (a2 : List Int) : Option R48v0 :=
  L48v0_0 N (fun (y8 : List Int) =>
 some (((), ()), (y8, ()))) N a0 a1 (0 : Int) (isub .i64 ((a0 : Nat) : Int) (1 : Int)) a2

def L19_0 (d48v0 : D48v0) (N : Nat) (q0_0 : Bool → Nat → Nat → List Int → Option ((List Int) × Int)) : Nat → Int → Bool → Nat → Nat → Int → Int → List Int → Option ((List Int) × Int)
  | 0, _, _, _, _, _, _, _ => none
  | n0 + 1, v1, v2, v3, v4, v5, v6, v7 =>
    bif (decide (v6 < v5)) then
 bif (decide ((imul .i64 (8 : Int) v6) < (0 : Int))) then
 none
 else
 bif ((decide ((0 : Int) ≤ v6)) && (decide (v6 < ((v3 : Nat) : Int)))) then
 bif (decide ((0 + ((Int.toNat v6) * 1)) < (List.length v7))) then
 L19_0 d48v0 N q0_0 n0 v1 v2 v3 v4 v5 (iadd .i64 v6 (1 : Int)) (List.set v7 (0 + ((Int.toNat v6) * 1)) (IntKind.wrap .u8 (ishr .u64 v1 (imul .i64 (8 : Int) v6))))
 else none
 else none
 else
 q0_0 v2 v3 v4 v7
/-- euphroe/octs.Put -/
def p19 (d48v0 : D48v0) (N : Nat) (a0 : Int) (a1 : Int) (a2 : Bool) : Option ((List Int) × Int) :=
  bif (decide (a1 < (1 : Int))) then
 some (([] : List Int), (1 : Int))
 else
 bif (decide (a1 > (8 : Int))) then
 some (([] : List Int), (1 : Int))
 else
 bif ((decide ((0 : Int) ≤ a1)) && ((decide (a1 ≤ a1)) && ((decide ((a1 * ((1 : Nat) : Int)) ≤ (1099511627776 : Int))) && (decide (a1 ≤ (1099511627776 : Int)))))) then
 L19_0 d48v0 N (fun (y8 : Bool) (y9 : Nat) (y10 : Nat) (y11 : List Int) =>
 bif (!y8) then
 match d48v0 y9 y10 y11 with
 | none => none
 | some r12 =>
 bif (decide ((0 + (y9 * 1)) ≤ (List.length r12.2.1))) then
 some ((List.take y9 (List.drop 0 r12.2.1)), (0 : Int))
 else none
 else
 bif (decide ((0 + (y9 * 1)) ≤ (List.length y11))) then
 some ((List.take y9 (List.drop 0 y11)), (0 : Int))
 else none) N a0 a2 (Int.toNat a1) (Int.toNat a1) (((Int.toNat a1) : Nat) : Int) (0 : Int) (List.replicate (Int.toNat a1) (0 : Int))
 else none

def L23_0 (N : Nat) (q0_0 : Option Bool) : Nat → List Int → List Int → Int → Option Bool
  | 0, _, _, _ => none
  | n0 + 1, v1, v2, v3 =>
    bif (decide (v3 < (((List.length v1) : Nat) : Int))) then
 match geti v1 v3 with
 | none => none
 | some x4 =>
 match geti v2 v3 with
 | none => none
 | some x5 =>
 bif (x4 != x5) then
 some false
 else
 L23_0 N q0_0 n0 v1 v2 (iadd .i64 v3 (1 : Int))
 else
 q0_0
/-- euphroe/euphroeref01.Same -/
def p23 (N : Nat) (a0 : List Int) (a1 : List Int) : Option Bool :=
  bif ((((List.length a0) : Nat) : Int) != (((List.length a1) : Nat) : Int)) then
 some false
 else
 L23_0 N (
 some true) N a0 a1 (0 : Int)

/-- unicode/utf8.word[string] -/
def p401 (N : Nat) (a0 : List UInt8) : Option Int :=
  match geti a0 (0 : Int) with
 | none => none
 | some x1 =>
 match geti a0 (1 : Int) with
 | none => none
 | some x2 =>
 match geti a0 (2 : Int) with
 | none => none
 | some x3 =>
 match geti a0 (3 : Int) with
 | none => none
 | some x4 =>
 match geti a0 (4 : Int) with
 | none => none
 | some x5 =>
 match geti a0 (5 : Int) with
 | none => none
 | some x6 =>
 match geti a0 (6 : Int) with
 | none => none
 | some x7 =>
 match geti a0 (7 : Int) with
 | none => none
 | some x8 =>
 some (ior .u64 (ior .u64 (ior .u64 (ior .u64 (ior .u64 (ior .u64 (ior .u64 (IntKind.wrap .u64 ((UInt8.toNat x1 : Nat) : Int)) (ishl .u64 (IntKind.wrap .u64 ((UInt8.toNat x2 : Nat) : Int)) (8 : Int))) (ishl .u64 (IntKind.wrap .u64 ((UInt8.toNat x3 : Nat) : Int)) (16 : Int))) (ishl .u64 (IntKind.wrap .u64 ((UInt8.toNat x4 : Nat) : Int)) (24 : Int))) (ishl .u64 (IntKind.wrap .u64 ((UInt8.toNat x5 : Nat) : Int)) (32 : Int))) (ishl .u64 (IntKind.wrap .u64 ((UInt8.toNat x6 : Nat) : Int)) (40 : Int))) (ishl .u64 (IntKind.wrap .u64 ((UInt8.toNat x7 : Nat) : Int)) (48 : Int))) (ishl .u64 (IntKind.wrap .u64 ((UInt8.toNat x8 : Nat) : Int)) (56 : Int)))

def L396_1 (c401 : D401) (N : Nat) (q1_2 : List UInt8 → Option Bool) : Nat → List UInt8 → Option Bool
  | 0, _ => none
  | n1 + 1, v6 =>
    bif (decide ((((List.length v6) : Nat) : Int) > (32 : Int))) then
 match c401 v6 with
 | none => none
 | some r7 =>
 bif (decide ((8 : Int) ≤ (((List.length v6) : Nat) : Int))) then
 match c401 (List.take ((List.length v6) - 8) (List.drop 8 v6)) with
 | none => none
 | some r8 =>
 bif (decide ((16 : Int) ≤ (((List.length v6) : Nat) : Int))) then
 match c401 (List.take ((List.length v6) - 16) (List.drop 16 v6)) with
 | none => none
 | some r9 =>
 bif (decide ((24 : Int) ≤ (((List.length v6) : Nat) : Int))) then
 match c401 (List.take ((List.length v6) - 24) (List.drop 24 v6)) with
 | none => none
 | some r10 =>
 bif ((iand .u64 (ior .u64 (ior .u64 r7 r8) (ior .u64 r9 r10)) (9259542123273814144 : Int)) == (0 : Int)) then
 bif (decide ((32 : Int) ≤ (((List.length v6) : Nat) : Int))) then
 L396_1 c401 N q1_2 n1 (List.take ((List.length v6) - 32) (List.drop 32 v6))
 else none
 else
 q1_2 v6
 else none
 else none
 else none
 else
 q1_2 v6
def L396_0 (c401 : D401) (N : Nat) (q0_0 : Option Bool) : Nat → List UInt8 → Option Bool
  | 0, _ => none
  | n0 + 1, v1 =>
    bif (decide ((((List.length v1) : Nat) : Int) > (0 : Int))) then
 match geti v1 (0 : Int) with
 | none => none
 | some x2 =>
 bif (decide (((UInt8.toNat x2 : Nat) : Int) < (128 : Int))) then
 bif (decide ((1 : Int) ≤ (((List.length v1) : Nat) : Int))) then
 bif (decide ((((List.length (List.take ((List.length v1) - 1) (List.drop 1 v1))) : Nat) : Int) > (8 : Int))) then
 match c401 (List.take ((List.length v1) - 1) (List.drop 1 v1)) with
 | none => none
 | some r3 =>
 bif ((iand .u64 r3 (9259542123273814144 : Int)) == (0 : Int)) then
 bif (decide ((8 : Int) ≤ (((List.length (List.take ((List.length v1) - 1) (List.drop 1 v1))) : Nat) : Int))) then
 bif (decide ((((List.length (List.take ((List.length (List.take ((List.length v1) - 1) (List.drop 1 v1))) - 8) (List.drop 8 (List.take ((List.length v1) - 1) (List.drop 1 v1))))) : Nat) : Int) > (16 : Int))) then
 match c401 (List.take ((List.length (List.take ((List.length v1) - 1) (List.drop 1 v1))) - 8) (List.drop 8 (List.take ((List.length v1) - 1) (List.drop 1 v1)))) with
 | none => none
 | some r4 =>
 bif (decide ((8 : Int) ≤ (((List.length (List.take ((List.length (List.take ((List.length v1) - 1) (List.drop 1 v1))) - 8) (List.drop 8 (List.take ((List.length v1) - 1) (List.drop 1 v1))))) : Nat) : Int))) then
 match c401 (List.take ((List.length (List.take ((List.length (List.take ((List.length v1) - 1) (List.drop 1 v1))) - 8) (List.drop 8 (List.take ((List.length v1) - 1) (List.drop 1 v1))))) - 8) (List.drop 8 (List.take ((List.length (List.take ((List.length v1) - 1) (List.drop 1 v1))) - 8) (List.drop 8 (List.take ((List.length v1) - 1) (List.drop 1 v1)))))) with
 | none => none
 | some r5 =>
 bif ((iand .u64 (ior .u64 r4 r5) (9259542123273814144 : Int)) == (0 : Int)) then
 bif (decide ((16 : Int) ≤ (((List.length (List.take ((List.length (List.take ((List.length v1) - 1) (List.drop 1 v1))) - 8) (List.drop 8 (List.take ((List.length v1) - 1) (List.drop 1 v1))))) : Nat) : Int))) then
 L396_1 c401 N (fun (y11 : List UInt8) =>
 L396_0 c401 N q0_0 n0 y11) N (List.take ((List.length (List.take ((List.length (List.take ((List.length v1) - 1) (List.drop 1 v1))) - 8) (List.drop 8 (List.take ((List.length v1) - 1) (List.drop 1 v1))))) - 16) (List.drop 16 (List.take ((List.length (List.take ((List.length v1) - 1) (List.drop 1 v1))) - 8) (List.drop 8 (List.take ((List.length v1) - 1) (List.drop 1 v1))))))
 else none
 else
 L396_0 c401 N q0_0 n0 (List.take ((List.length (List.take ((List.length v1) - 1) (List.drop 1 v1))) - 8) (List.drop 8 (List.take ((List.length v1) - 1) (List.drop 1 v1))))
 else none
 else
 L396_0 c401 N q0_0 n0 (List.take ((List.length (List.take ((List.length v1) - 1) (List.drop 1 v1))) - 8) (List.drop 8 (List.take ((List.length v1) - 1) (List.drop 1 v1))))
 else none
 else
 L396_0 c401 N q0_0 n0 (List.take ((List.length v1) - 1) (List.drop 1 v1))
 else
 L396_0 c401 N q0_0 n0 (List.take ((List.length v1) - 1) (List.drop 1 v1))
 else none
 else
 bif ((decide ((0 : Int) ≤ ((UInt8.toNat x2 : Nat) : Int))) && (decide (((UInt8.toNat x2 : Nat) : Int) < (256 : Int)))) then
 match ((List.drop ((Int.toNat ((UInt8.toNat x2 : Nat) : Int)) * 1) vt0))[0]? with
 | none => none
 | some x12 =>
 bif ((decide ((0 : Int) ≤ (ishr .u8 x12 (4 : Int)))) && (decide ((ishr .u8 x12 (4 : Int)) < (16 : Int)))) then
 bif (decide (2 ≤ (List.length (List.drop ((Int.toNat (ishr .u8 x12 (4 : Int))) * 2) vt1)))) then
 bif ((List.length (List.take 2 (List.drop 0 (List.drop ((Int.toNat (ishr .u8 x12 (4 : Int))) * 2) vt1)))) == 2) then
 bif (decide ((0 + (List.length (List.take 2 (List.drop 0 (List.drop ((Int.toNat (ishr .u8 x12 (4 : Int))) * 2) vt1))))) ≤ 2)) then
 bif ((IntKind.wrap .i64 (iand .u8 x12 (7 : Int))) == (2 : Int)) then
 bif (decide ((((List.length v1) : Nat) : Int) < (2 : Int))) then
 some false
 else
 match geti v1 (1 : Int) with
 | none => none
 | some x13 =>
 match ((([] ++ (List.take 2 (List.drop 0 (List.drop ((Int.toNat (ishr .u8 x12 (4 : Int))) * 2) vt1)))) ++ (List.drop (0 + (List.length (List.take 2 (List.drop 0 (List.drop ((Int.toNat (ishr .u8 x12 (4 : Int))) * 2) vt1))))) [(0 : Int), 0])))[0]? with
 | none => none
 | some x14 =>
 bif (decide (((UInt8.toNat x13 : Nat) : Int) < x14)) then
 some false
 else
 match ((([] ++ (List.take 2 (List.drop 0 (List.drop ((Int.toNat (ishr .u8 x12 (4 : Int))) * 2) vt1)))) ++ (List.drop (0 + (List.length (List.take 2 (List.drop 0 (List.drop ((Int.toNat (ishr .u8 x12 (4 : Int))) * 2) vt1))))) [(0 : Int), 0])))[1]? with
 | none => none
 | some x15 =>
 match geti v1 (1 : Int) with
 | none => none
 | some x16 =>
 bif (decide (x15 < ((UInt8.toNat x16 : Nat) : Int))) then
 some false
 else
 bif (decide ((2 : Int) ≤ (((List.length v1) : Nat) : Int))) then
 L396_0 c401 N q0_0 n0 (List.take ((List.length v1) - 2) (List.drop 2 v1))
 else none
 else
 bif ((IntKind.wrap .i64 (iand .u8 x12 (7 : Int))) == (3 : Int)) then
 bif (decide ((((List.length v1) : Nat) : Int) < (3 : Int))) then
 some false
 else
 match geti v1 (1 : Int) with
 | none => none
 | some x17 =>
 match ((([] ++ (List.take 2 (List.drop 0 (List.drop ((Int.toNat (ishr .u8 x12 (4 : Int))) * 2) vt1)))) ++ (List.drop (0 + (List.length (List.take 2 (List.drop 0 (List.drop ((Int.toNat (ishr .u8 x12 (4 : Int))) * 2) vt1))))) [(0 : Int), 0])))[0]? with
 | none => none
 | some x18 =>
 bif (decide (((UInt8.toNat x17 : Nat) : Int) < x18)) then
 some false
 else
 match ((([] ++ (List.take 2 (List.drop 0 (List.drop ((Int.toNat (ishr .u8 x12 (4 : Int))) * 2) vt1)))) ++ (List.drop (0 + (List.length (List.take 2 (List.drop 0 (List.drop ((Int.toNat (ishr .u8 x12 (4 : Int))) * 2) vt1))))) [(0 : Int), 0])))[1]? with
 | none => none
 | some x19 =>
 match geti v1 (1 : Int) with
 | none => none
 | some x20 =>
 bif (decide (x19 < ((UInt8.toNat x20 : Nat) : Int))) then
 some false
 else
 match geti v1 (2 : Int) with
 | none => none
 | some x21 =>
 bif (decide (((UInt8.toNat x21 : Nat) : Int) < (128 : Int))) then
 some false
 else
 match geti v1 (2 : Int) with
 | none => none
 | some x22 =>
 bif (decide ((191 : Int) < ((UInt8.toNat x22 : Nat) : Int))) then
 some false
 else
 bif (decide ((3 : Int) ≤ (((List.length v1) : Nat) : Int))) then
 L396_0 c401 N q0_0 n0 (List.take ((List.length v1) - 3) (List.drop 3 v1))
 else none
 else
 bif ((IntKind.wrap .i64 (iand .u8 x12 (7 : Int))) == (4 : Int)) then
 bif (decide ((((List.length v1) : Nat) : Int) < (4 : Int))) then
 some false
 else
 match geti v1 (1 : Int) with
 | none => none
 | some x23 =>
 match ((([] ++ (List.take 2 (List.drop 0 (List.drop ((Int.toNat (ishr .u8 x12 (4 : Int))) * 2) vt1)))) ++ (List.drop (0 + (List.length (List.take 2 (List.drop 0 (List.drop ((Int.toNat (ishr .u8 x12 (4 : Int))) * 2) vt1))))) [(0 : Int), 0])))[0]? with
 | none => none
 | some x24 =>
 bif (decide (((UInt8.toNat x23 : Nat) : Int) < x24)) then
 some false
 else
 match ((([] ++ (List.take 2 (List.drop 0 (List.drop ((Int.toNat (ishr .u8 x12 (4 : Int))) * 2) vt1)))) ++ (List.drop (0 + (List.length (List.take 2 (List.drop 0 (List.drop ((Int.toNat (ishr .u8 x12 (4 : Int))) * 2) vt1))))) [(0 : Int), 0])))[1]? with
 | none => none
 | some x25 =>
 match geti v1 (1 : Int) with
 | none => none
 | some x26 =>
 bif (decide (x25 < ((UInt8.toNat x26 : Nat) : Int))) then
 some false
 else
 match geti v1 (2 : Int) with
 | none => none
 | some x27 =>
 bif (decide (((UInt8.toNat x27 : Nat) : Int) < (128 : Int))) then
 some false
 else
 match geti v1 (2 : Int) with
 | none => none
 | some x28 =>
 bif (decide ((191 : Int) < ((UInt8.toNat x28 : Nat) : Int))) then
 some false
 else
 match geti v1 (3 : Int) with
 | none => none
 | some x29 =>
 bif (decide (((UInt8.toNat x29 : Nat) : Int) < (128 : Int))) then
 some false
 else
 match geti v1 (3 : Int) with
 | none => none
 | some x30 =>
 bif (decide ((191 : Int) < ((UInt8.toNat x30 : Nat) : Int))) then
 some false
 else
 bif (decide ((4 : Int) ≤ (((List.length v1) : Nat) : Int))) then
 L396_0 c401 N q0_0 n0 (List.take ((List.length v1) - 4) (List.drop 4 v1))
 else none
 else
 some false
 else none
 else none
 else none
 else none
 else none
 else
 q0_0
/-- unicode/utf8.ValidString -/
def p396 (c401 : D401) (N : Nat) (a0 : List UInt8) : Option Bool :=
  L396_0 c401 N (
 some true) N a0

def L397_0 (N : Nat) (q0_0 : Int → Option Int) : Nat → Int → List UInt8 → Nat → Option Int
  | 0, _, _, _ => none
  | n0 + 1, v1, v2, v3 =>
    bif (decide (v3 < (List.length v2))) then
 L397_0 N q0_0 n0 (iadd .i64 v1 (1 : Int)) v2 (v3 + (Utf8.decode ⟨List.toArray v2⟩ v3).2)
 else
 q0_0 v1
/-- unicode/utf8.RuneCountInString -/
def p397 (N : Nat) (a0 : List UInt8) : Option Int :=
  L397_0 N (fun (y4 : Int) =>
 some y4) N (0 : Int) a0 0

/-- euphroe/utf16.May -/
def p391 (c396 : D396) (c397 : D397) (N : Nat) (a0 : List UInt8) : Option Int :=
  match c396 a0 with
 | none => none
 | some r1 =>
 bif (!r1) then
 some (3 : Int)
 else
 match c397 a0 with
 | none => none
 | some r2 =>
 bif (decide (r2 > (64 : Int))) then
 some (8 : Int)
 else
 some (0 : Int)

def L392_0 (c391 : D391) (N : Nat) (q0_0 : Nat → List Int → Option (List Int)) : Nat → Nat → List Int → List UInt8 → Nat → Option (List Int)
  | 0, _, _, _, _ => none
  | n0 + 1, v2, v3, v4, v5 =>
    bif (decide (v5 < (List.length v4))) then
 bif (decide ((((Utf8.decode ⟨List.toArray v4⟩ v5).1 : Nat) : Int) < (65536 : Int))) then
 bif (((List.length v3) == (v2 * 1)) && ((decide (((v2 + 1) * 2) ≤ 1099511627776)) && (decide ((v2 + 1) ≤ 1099511627776)))) then
 L392_0 c391 N q0_0 n0 (v2 + 1) (v3 ++ [(IntKind.wrap .u16 (((Utf8.decode ⟨List.toArray v4⟩ v5).1 : Nat) : Int))]) v4 (v5 + (Utf8.decode ⟨List.toArray v4⟩ v5).2)
 else none
 else
 bif (((List.length v3) == (v2 * 1)) && ((decide (((v2 + 2) * 2) ≤ 1099511627776)) && (decide ((v2 + 2) ≤ 1099511627776)))) then
 L392_0 c391 N q0_0 n0 (v2 + 2) (v3 ++ [(IntKind.wrap .u16 (ior .i32 (55296 : Int) (ishr .i32 (isub .i32 (((Utf8.decode ⟨List.toArray v4⟩ v5).1 : Nat) : Int) (65536 : Int)) (10 : Int)))), (IntKind.wrap .u16 (ior .i32 (56320 : Int) (iand .i32 (isub .i32 (((Utf8.decode ⟨List.toArray v4⟩ v5).1 : Nat) : Int) (65536 : Int)) (1023 : Int))))]) v4 (v5 + (Utf8.decode ⟨List.toArray v4⟩ v5).2)
 else none
 else
 q0_0 v2 v3
/-- euphroe/utf16.Units -/
def p392 (c391 : D391) (N : Nat) (a0 : List UInt8) : Option (List Int) :=
  match c391 a0 with
 | none => none
 | some r1 =>
 bif (r1 != (0 : Int)) then
 some ([] : List Int)
 else
 L392_0 c391 N (fun (y6 : Nat) (y7 : List Int) =>
 bif (decide ((0 + (y6 * 1)) ≤ (List.length y7))) then
 some (List.take y6 (List.drop 0 y7))
 else none) N 0 ([] : List Int) a0 0

def L387_0 (c391 : D391) (c392 : D392) (c19 : D19) (N : Nat) (q0_0 : Nat → List Int → Option ((List Int) × Int)) : Nat → Nat → List Int → Int → Int → List Int → Option ((List Int) × Int)
  | 0, _, _, _, _, _ => none
  | n0 + 1, v3, v4, v5, v6, v7 =>
    bif (decide (v6 < v5)) then
 match geti v4 v6 with
 | none => none
 | some x8 =>
 match c19 (IntKind.wrap .u64 x8) (2 : Int) true with
 | none => none
 | some r9 =>
 bif (((List.length v7) == (v3 * 1)) && ((decide (((v3 + (List.length r9.1)) * 1) ≤ 1099511627776)) && (decide ((v3 + (List.length r9.1)) ≤ 1099511627776)))) then
 L387_0 c391 c392 c19 N q0_0 n0 (v3 + (List.length r9.1)) v4 v5 (iadd .i64 v6 (1 : Int)) (v7 ++ r9.1)
 else none
 else
 q0_0 v3 v7
/-- euphroe/utf16.Lay -/
def p387 (c391 : D391) (c392 : D392) (c19 : D19) (N : Nat) (a0 : List UInt8) : Option ((List Int) × Int) :=
  match c391 a0 with
 | none => none
 | some r1 =>
 bif (r1 != (0 : Int)) then
 some (([] : List Int), r1)
 else
 match c392 a0 with
 | none => none
 | some r2 =>
 L387_0 c391 c392 c19 N (fun (y10 : Nat) (y11 : List Int) =>
 bif (decide ((0 + (y10 * 1)) ≤ (List.length y11))) then
 some ((List.take y10 (List.drop 0 y11)), (0 : Int))
 else none) N 0 r2 (((List.length r2) : Nat) : Int) (0 : Int) ([] : List Int)

/-- euphroe/euphroeref09.more -/
def p404 (N : Nat) (a0 : List UInt8) (a1 : Int) : Option (Int × Bool) :=
  bif (decide (a1 ≥ (((List.length a0) : Nat) : Int))) then
 some ((0 : Int), false)
 else
 match geti a0 a1 with
 | none => none
 | some x1 =>
 bif (decide (((UInt8.toNat x1 : Nat) : Int) < (128 : Int))) then
 some ((0 : Int), false)
 else
 match geti a0 a1 with
 | none => none
 | some x2 =>
 bif (decide (((UInt8.toNat x2 : Nat) : Int) > (191 : Int))) then
 some ((0 : Int), false)
 else
 match geti a0 a1 with
 | none => none
 | some x3 =>
 some ((isub .i64 (IntKind.wrap .i64 ((UInt8.toNat x3 : Nat) : Int)) (128 : Int)), true)

def L402_0 (c404 : D404) (N : Nat) (q0_1 : Int → Int → Int → Option (Int × Int)) : Nat → List UInt8 → Int → Int → Int → Int → Int → Option (Int × Int)
  | 0, _, _, _, _, _, _ => none
  | n0 + 1, v2, v3, v4, v5, v6, v7 =>
    bif (decide (v7 ≤ v4)) then
 match c404 v2 (iadd .i64 v3 v7) with
 | none => none
 | some r8 =>
 bif (!r8.2) then
 some ((0 : Int), (0 : Int))
 else
 L402_0 c404 N q0_1 n0 v2 v3 v4 (iadd .i64 (imul .i64 (64 : Int) v5) r8.1) v6 (iadd .i64 v7 (1 : Int))
 else
 q0_1 v4 v5 v6
/-- euphroe/euphroeref09.sign -/
def p402 (c404 : D404) (N : Nat) (a0 : List UInt8) (a1 : Int) : Option (Int × Int) :=
  match geti a0 a1 with
 | none => none
 | some x1 =>
 bif (decide ((IntKind.wrap .i64 ((UInt8.toNat x1 : Nat) : Int)) < (128 : Int))) then
 some ((IntKind.wrap .i64 ((UInt8.toNat x1 : Nat) : Int)), (1 : Int))
 else
 bif (decide ((IntKind.wrap .i64 ((UInt8.toNat x1 : Nat) : Int)) ≥ (192 : Int))) then
 bif (decide ((IntKind.wrap .i64 ((UInt8.toNat x1 : Nat) : Int)) < (224 : Int))) then
 L402_0 c404 N (fun (y9 : Int) (y10 : Int) (y11 : Int) =>
 bif (decide (y10 < y11)) then
 some ((0 : Int), (0 : Int))
 else
 bif (decide (y10 > (1114111 : Int))) then
 some ((0 : Int), (0 : Int))
 else
 bif (decide (y10 ≥ (55296 : Int))) then
 bif (decide (y10 ≤ (57343 : Int))) then
 some ((0 : Int), (0 : Int))
 else
 some (y10, (iadd .i64 y9 (1 : Int)))
 else
 some (y10, (iadd .i64 y9 (1 : Int)))) N a0 a1 (1 : Int) (isub .i64 (IntKind.wrap .i64 ((UInt8.toNat x1 : Nat) : Int)) (192 : Int)) (128 : Int) (1 : Int)
 else
 bif (decide ((IntKind.wrap .i64 ((UInt8.toNat x1 : Nat) : Int)) ≥ (224 : Int))) then
 bif (decide ((IntKind.wrap .i64 ((UInt8.toNat x1 : Nat) : Int)) < (240 : Int))) then
 L402_0 c404 N (fun (y12 : Int) (y13 : Int) (y14 : Int) =>
 bif (decide (y13 < y14)) then
 some ((0 : Int), (0 : Int))
 else
 bif (decide (y13 > (1114111 : Int))) then
 some ((0 : Int), (0 : Int))
 else
 bif (decide (y13 ≥ (55296 : Int))) then
 bif (decide (y13 ≤ (57343 : Int))) then
 some ((0 : Int), (0 : Int))
 else
 some (y13, (iadd .i64 y12 (1 : Int)))
 else
 some (y13, (iadd .i64 y12 (1 : Int)))) N a0 a1 (2 : Int) (isub .i64 (IntKind.wrap .i64 ((UInt8.toNat x1 : Nat) : Int)) (224 : Int)) (2048 : Int) (1 : Int)
 else
 bif (decide ((IntKind.wrap .i64 ((UInt8.toNat x1 : Nat) : Int)) ≥ (240 : Int))) then
 bif (decide ((IntKind.wrap .i64 ((UInt8.toNat x1 : Nat) : Int)) < (248 : Int))) then
 L402_0 c404 N (fun (y15 : Int) (y16 : Int) (y17 : Int) =>
 bif (decide (y16 < y17)) then
 some ((0 : Int), (0 : Int))
 else
 bif (decide (y16 > (1114111 : Int))) then
 some ((0 : Int), (0 : Int))
 else
 bif (decide (y16 ≥ (55296 : Int))) then
 bif (decide (y16 ≤ (57343 : Int))) then
 some ((0 : Int), (0 : Int))
 else
 some (y16, (iadd .i64 y15 (1 : Int)))
 else
 some (y16, (iadd .i64 y15 (1 : Int)))) N a0 a1 (3 : Int) (isub .i64 (IntKind.wrap .i64 ((UInt8.toNat x1 : Nat) : Int)) (240 : Int)) (65536 : Int) (1 : Int)
 else
 some ((0 : Int), (0 : Int))
 else
 some ((0 : Int), (0 : Int))
 else
 bif (decide ((IntKind.wrap .i64 ((UInt8.toNat x1 : Nat) : Int)) ≥ (240 : Int))) then
 bif (decide ((IntKind.wrap .i64 ((UInt8.toNat x1 : Nat) : Int)) < (248 : Int))) then
 L402_0 c404 N (fun (y18 : Int) (y19 : Int) (y20 : Int) =>
 bif (decide (y19 < y20)) then
 some ((0 : Int), (0 : Int))
 else
 bif (decide (y19 > (1114111 : Int))) then
 some ((0 : Int), (0 : Int))
 else
 bif (decide (y19 ≥ (55296 : Int))) then
 bif (decide (y19 ≤ (57343 : Int))) then
 some ((0 : Int), (0 : Int))
 else
 some (y19, (iadd .i64 y18 (1 : Int)))
 else
 some (y19, (iadd .i64 y18 (1 : Int)))) N a0 a1 (3 : Int) (isub .i64 (IntKind.wrap .i64 ((UInt8.toNat x1 : Nat) : Int)) (240 : Int)) (65536 : Int) (1 : Int)
 else
 some ((0 : Int), (0 : Int))
 else
 some ((0 : Int), (0 : Int))
 else
 bif (decide ((IntKind.wrap .i64 ((UInt8.toNat x1 : Nat) : Int)) ≥ (224 : Int))) then
 bif (decide ((IntKind.wrap .i64 ((UInt8.toNat x1 : Nat) : Int)) < (240 : Int))) then
 L402_0 c404 N (fun (y21 : Int) (y22 : Int) (y23 : Int) =>
 bif (decide (y22 < y23)) then
 some ((0 : Int), (0 : Int))
 else
 bif (decide (y22 > (1114111 : Int))) then
 some ((0 : Int), (0 : Int))
 else
 bif (decide (y22 ≥ (55296 : Int))) then
 bif (decide (y22 ≤ (57343 : Int))) then
 some ((0 : Int), (0 : Int))
 else
 some (y22, (iadd .i64 y21 (1 : Int)))
 else
 some (y22, (iadd .i64 y21 (1 : Int)))) N a0 a1 (2 : Int) (isub .i64 (IntKind.wrap .i64 ((UInt8.toNat x1 : Nat) : Int)) (224 : Int)) (2048 : Int) (1 : Int)
 else
 bif (decide ((IntKind.wrap .i64 ((UInt8.toNat x1 : Nat) : Int)) ≥ (240 : Int))) then
 bif (decide ((IntKind.wrap .i64 ((UInt8.toNat x1 : Nat) : Int)) < (248 : Int))) then
 L402_0 c404 N (fun (y24 : Int) (y25 : Int) (y26 : Int) =>
 bif (decide (y25 < y26)) then
 some ((0 : Int), (0 : Int))
 else
 bif (decide (y25 > (1114111 : Int))) then
 some ((0 : Int), (0 : Int))
 else
 bif (decide (y25 ≥ (55296 : Int))) then
 bif (decide (y25 ≤ (57343 : Int))) then
 some ((0 : Int), (0 : Int))
 else
 some (y25, (iadd .i64 y24 (1 : Int)))
 else
 some (y25, (iadd .i64 y24 (1 : Int)))) N a0 a1 (3 : Int) (isub .i64 (IntKind.wrap .i64 ((UInt8.toNat x1 : Nat) : Int)) (240 : Int)) (65536 : Int) (1 : Int)
 else
 some ((0 : Int), (0 : Int))
 else
 some ((0 : Int), (0 : Int))
 else
 bif (decide ((IntKind.wrap .i64 ((UInt8.toNat x1 : Nat) : Int)) ≥ (240 : Int))) then
 bif (decide ((IntKind.wrap .i64 ((UInt8.toNat x1 : Nat) : Int)) < (248 : Int))) then
 L402_0 c404 N (fun (y27 : Int) (y28 : Int) (y29 : Int) =>
 bif (decide (y28 < y29)) then
 some ((0 : Int), (0 : Int))
 else
 bif (decide (y28 > (1114111 : Int))) then
 some ((0 : Int), (0 : Int))
 else
 bif (decide (y28 ≥ (55296 : Int))) then
 bif (decide (y28 ≤ (57343 : Int))) then
 some ((0 : Int), (0 : Int))
 else
 some (y28, (iadd .i64 y27 (1 : Int)))
 else
 some (y28, (iadd .i64 y27 (1 : Int)))) N a0 a1 (3 : Int) (isub .i64 (IntKind.wrap .i64 ((UInt8.toNat x1 : Nat) : Int)) (240 : Int)) (65536 : Int) (1 : Int)
 else
 some ((0 : Int), (0 : Int))
 else
 some ((0 : Int), (0 : Int))

def L398_0 (c402 : D402) (N : Nat) (q0_0 : Nat → List Int → Option ((List Int) × Bool)) : Nat → List UInt8 → Nat → Int → List Int → Option ((List Int) × Bool)
  | 0, _, _, _, _ => none
  | n0 + 1, v1, v2, v3, v4 =>
    bif (decide (v3 < (((List.length v1) : Nat) : Int))) then
 match c402 v1 v3 with
 | none => none
 | some r5 =>
 bif (r5.2 == (0 : Int)) then
 some (([] : List Int), false)
 else
 bif (((List.length v4) == (v2 * 1)) && ((decide (((v2 + 1) * 8) ≤ 1099511627776)) && (decide ((v2 + 1) ≤ 1099511627776)))) then
 L398_0 c402 N q0_0 n0 v1 (v2 + 1) (iadd .i64 v3 r5.2) (v4 ++ [r5.1])
 else none
 else
 q0_0 v2 v4
/-- euphroe/euphroeref09.Signs -/
def p398 (c402 : D402) (N : Nat) (a0 : List UInt8) : Option ((List Int) × Bool) :=
  L398_0 c402 N (fun (y6 : Nat) (y7 : List Int) =>
 bif (decide ((0 + (y6 * 1)) ≤ (List.length y7))) then
 some ((List.take y6 (List.drop 0 y7)), true)
 else none) N a0 0 (0 : Int) ([] : List Int)

/-- euphroe/euphroeref09.May -/
def p393 (c398 : D398) (N : Nat) (a0 : List UInt8) : Option Int :=
  match c398 a0 with
 | none => none
 | some r1 =>
 bif (!r1.2) then
 some (3 : Int)
 else
 bif (decide ((((List.length r1.1) : Nat) : Int) > (64 : Int))) then
 some (8 : Int)
 else
 some (0 : Int)

def L394_0 (c393 : D393) (c398 : D398) (N : Nat) (q0_0 : Nat → List Int → Option (List Int)) : Nat → List Int → Nat → Int → List Int → Option (List Int)
  | 0, _, _, _, _ => none
  | n0 + 1, v3, v4, v5, v6 =>
    bif (decide (v5 < (((List.length v3) : Nat) : Int))) then
 match geti v3 v5 with
 | none => none
 | some x7 =>
 bif (decide (x7 < (65536 : Int))) then
 match geti v3 v5 with
 | none => none
 | some x8 =>
 bif (((List.length v6) == (v4 * 1)) && ((decide (((v4 + 1) * 2) ≤ 1099511627776)) && (decide ((v4 + 1) ≤ 1099511627776)))) then
 L394_0 c393 c398 N q0_0 n0 v3 (v4 + 1) (iadd .i64 v5 (1 : Int)) (v6 ++ [(IntKind.wrap .u16 x8)])
 else none
 else
 match geti v3 v5 with
 | none => none
 | some x9 =>
 bif (((List.length v6) == (v4 * 1)) && ((decide (((v4 + 2) * 2) ≤ 1099511627776)) && (decide ((v4 + 2) ≤ 1099511627776)))) then
 L394_0 c393 c398 N q0_0 n0 v3 (v4 + 2) (iadd .i64 v5 (1 : Int)) (v6 ++ [(IntKind.wrap .u16 (iadd .i64 (55296 : Int) (iquo .i64 (isub .i64 x9 (65536 : Int)) (1024 : Int)))), (IntKind.wrap .u16 (iadd .i64 (56320 : Int) (irem (isub .i64 x9 (65536 : Int)) (1024 : Int))))])
 else none
 else
 q0_0 v4 v6
/-- euphroe/euphroeref09.Units -/
def p394 (c393 : D393) (c398 : D398) (N : Nat) (a0 : List UInt8) : Option (List Int) :=
  match c393 a0 with
 | none => none
 | some r1 =>
 bif (r1 != (0 : Int)) then
 some ([] : List Int)
 else
 match c398 a0 with
 | none => none
 | some r2 =>
 L394_0 c393 c398 N (fun (y10 : Nat) (y11 : List Int) =>
 bif (decide ((0 + (y10 * 1)) ≤ (List.length y11))) then
 some (List.take y10 (List.drop 0 y11))
 else none) N r2.1 0 (0 : Int) ([] : List Int)

def L388_0 (c393 : D393) (c394 : D394) (N : Nat) (q0_0 : Nat → List Int → Option ((List Int) × Int)) : Nat → Nat → List Int → Int → List Int → Option ((List Int) × Int)
  | 0, _, _, _, _ => none
  | n0 + 1, v3, v4, v5, v6 =>
    bif (decide (v5 < (((List.length v4) : Nat) : Int))) then
 match geti v4 v5 with
 | none => none
 | some x7 =>
 match geti v4 v5 with
 | none => none
 | some x8 =>
 bif (((List.length v6) == (v3 * 1)) && ((decide (((v3 + 2) * 1) ≤ 1099511627776)) && (decide ((v3 + 2) ≤ 1099511627776)))) then
 L388_0 c393 c394 N q0_0 n0 (v3 + 2) v4 (iadd .i64 v5 (1 : Int)) (v6 ++ [(IntKind.wrap .u8 (irem x7 (256 : Int))), (IntKind.wrap .u8 (iquo .u16 x8 (256 : Int)))])
 else none
 else
 q0_0 v3 v6
/-- euphroe/euphroeref09.Lay -/
def p388 (c393 : D393) (c394 : D394) (N : Nat) (a0 : List UInt8) : Option ((List Int) × Int) :=
  match c393 a0 with
 | none => none
 | some r1 =>
 bif (r1 != (0 : Int)) then
 some (([] : List Int), r1)
 else
 match c394 a0 with
 | none => none
 | some r2 =>
 L388_0 c393 c394 N (fun (y9 : Nat) (y10 : List Int) =>
 bif (decide ((0 + (y9 * 1)) ≤ (List.length y10))) then
 some ((List.take y9 (List.drop 0 y10)), (0 : Int))
 else none) N 0 r2 (0 : Int) ([] : List Int)

def L420_0 (N : Nat) (q0_0 : Option Int) : Nat → List UInt8 → Int → Int → Option Int
  | 0, _, _, _ => none
  | n0 + 1, v1, v2, v3 =>
    bif (decide (v3 ≥ (0 : Int))) then
 match geti v1 v3 with
 | none => none
 | some x4 =>
 bif (((UInt8.toNat x4 : Nat) : Int) == v2) then
 some v3
 else
 L420_0 N q0_0 n0 v1 v2 (isub .i64 v3 (1 : Int))
 else
 q0_0
/-- internal/bytealg.LastIndexByteString -/
def p420 (N : Nat) (a0 : List UInt8) (a1 : Int) : Option Int :=
  L420_0 N (
 some (-1 : Int)) N a0 a1 (isub .i64 (((List.length a0) : Nat) : Int) (1 : Int))

def L424_0 (N : Nat) (q0_0 : List UInt8 → Int → Option (Int × Int)) : Nat → List UInt8 → Int → Int → Option (Int × Int)
  | 0, _, _, _ => none
  | n0 + 1, v1, v2, v3 =>
    bif (decide (v3 ≥ (0 : Int))) then
 match geti v1 v3 with
 | none => none
 | some x4 =>
 L424_0 N q0_0 n0 v1 (iadd .u32 (imul .u32 v2 (16777619 : Int)) (IntKind.wrap .u32 ((UInt8.toNat x4 : Nat) : Int))) (isub .i64 v3 (1 : Int))
 else
 q0_0 v1 v2
def L424_1 (N : Nat) (q1_2 : Int → Int → Option (Int × Int)) : Nat → Int → Int → Int → Int → Option (Int × Int)
  | 0, _, _, _, _ => none
  | n1 + 1, v7, v8, v9, v10 =>
    bif (decide (v10 > (0 : Int))) then
 bif ((iand .i64 v10 (1 : Int)) != (0 : Int)) then
 L424_1 N q1_2 n1 v7 (imul .u32 v8 v9) (imul .u32 v9 v9) (ishr .i64 v10 (1 : Int))
 else
 L424_1 N q1_2 n1 v7 v8 (imul .u32 v9 v9) (ishr .i64 v10 (1 : Int))
 else
 q1_2 v7 v8
/-- internal/bytealg.hashStrRev[string] -/
def p424 (N : Nat) (a0 : List UInt8) : Option (Int × Int) :=
  L424_0 N (fun (y5 : List UInt8) (y6 : Int) =>
 L424_1 N (fun (y11 : Int) (y12 : Int) =>
 some (y11, y12)) N y6 (1 : Int) (16777619 : Int) (((List.length y5) : Nat) : Int)) N a0 (0 : Int) (isub .i64 (((List.length a0) : Nat) : Int) (1 : Int))

def L421_0 (c424 : D424) (N : Nat) (q0_0 : List UInt8 → List UInt8 → Int → Int → Int → Int → Int → Option Int) : Nat → List UInt8 → List UInt8 → Int → Int → Int → Int → Int → Int → Option Int
  | 0, _, _, _, _, _, _, _, _ => none
  | n0 + 1, v2, v3, v4, v5, v6, v7, v8, v9 =>
    bif (decide (v9 ≥ v7)) then
 match geti v2 v9 with
 | none => none
 | some x10 =>
 L421_0 c424 N q0_0 n0 v2 v3 v4 v5 v6 v7 (iadd .u32 (imul .u32 v8 (16777619 : Int)) (IntKind.wrap .u32 ((UInt8.toNat x10 : Nat) : Int))) (isub .i64 v9 (1 : Int))
 else
 q0_0 v2 v3 v4 v5 v6 v7 v8
def L421_1 (c424 : D424) (N : Nat) (q1_2 : Option Int) : Nat → List UInt8 → List UInt8 → Int → Int → Int → Int → Int → Option Int
  | 0, _, _, _, _, _, _, _ => none
  | n1 + 1, v18, v19, v20, v21, v22, v23, v24 =>
    bif (decide (v24 ≥ (0 : Int))) then
 match geti v18 v24 with
 | none => none
 | some x25 =>
 match geti v18 (iadd .i64 v24 v22) with
 | none => none
 | some x26 =>
 bif ((isub .u32 (iadd .u32 (imul .u32 v23 (16777619 : Int)) (IntKind.wrap .u32 ((UInt8.toNat x25 : Nat) : Int))) (imul .u32 v21 (IntKind.wrap .u32 ((UInt8.toNat x26 : Nat) : Int)))) == v20) then
 bif ((decide ((0 : Int) ≤ (iadd .i64 v24 v22))) && (decide ((iadd .i64 v24 v22) ≤ (((List.length v18) : Nat) : Int)))) then
 bif ((decide ((0 : Int) ≤ v24)) && (decide (v24 ≤ (((Int.toNat (iadd .i64 v24 v22)) : Nat) : Int)))) then
 bif ((List.take ((Int.toNat (iadd .i64 v24 v22)) - (Int.toNat v24)) (List.drop (Int.toNat v24) v18)) == v19) then
 some v24
 else
 L421_1 c424 N q1_2 n1 v18 v19 v20 v21 v22 (isub .u32 (iadd .u32 (imul .u32 v23 (16777619 : Int)) (IntKind.wrap .u32 ((UInt8.toNat x25 : Nat) : Int))) (imul .u32 v21 (IntKind.wrap .u32 ((UInt8.toNat x26 : Nat) : Int)))) (isub .i64 v24 (1 : Int))
 else none
 else none
 else
 L421_1 c424 N q1_2 n1 v18 v19 v20 v21 v22 (isub .u32 (iadd .u32 (imul .u32 v23 (16777619 : Int)) (IntKind.wrap .u32 ((UInt8.toNat x25 : Nat) : Int))) (imul .u32 v21 (IntKind.wrap .u32 ((UInt8.toNat x26 : Nat) : Int)))) (isub .i64 v24 (1 : Int))
 else
 q1_2
/-- internal/bytealg.LastIndexRabinKarp[string] -/
def p421 (c424 : D424) (N : Nat) (a0 : List UInt8) (a1 : List UInt8) : Option Int :=
  match c424 a1 with
 | none => none
 | some r1 =>
 L421_0 c424 N (fun (y11 : List UInt8) (y12 : List UInt8) (y13 : Int) (y14 : Int) (y15 : Int) (y16 : Int) (y17 : Int) =>
 bif (y17 == y13) then
 bif ((decide ((0 : Int) ≤ y16)) && (decide (y16 ≤ (((List.length y11) : Nat) : Int)))) then
 bif ((List.take ((List.length y11) - (Int.toNat y16)) (List.drop (Int.toNat y16) y11)) == y12) then
 some y16
 else
 L421_1 c424 N (
 some (-1 : Int)) N y11 y12 y13 y14 y15 y17 (isub .i64 y16 (1 : Int))
 else none
 else
 L421_1 c424 N (
 some (-1 : Int)) N y11 y12 y13 y14 y15 y17 (isub .i64 y16 (1 : Int))) N a0 a1 r1.1 r1.2 (((List.length a1) : Nat) : Int) (isub .i64 (((List.length a0) : Nat) : Int) (((List.length a1) : Nat) : Int)) (0 : Int) (isub .i64 (((List.length a0) : Nat) : Int) (1 : Int))

/-- strings.LastIndex -/
def p416 (c420 : D420) (c421 : D421) (N : Nat) (a0 : List UInt8) (a1 : List UInt8) : Option Int :=
  bif ((((List.length a1) : Nat) : Int) == (0 : Int)) then
 some (((List.length a0) : Nat) : Int)
 else
 bif ((((List.length a1) : Nat) : Int) == (1 : Int)) then
 match geti a1 (0 : Int) with
 | none => none
 | some x1 =>
 match c420 a0 ((UInt8.toNat x1 : Nat) : Int) with
 | none => none
 | some r2 =>
 some r2
 else
 bif ((((List.length a1) : Nat) : Int) == (((List.length a0) : Nat) : Int)) then
 bif (a1 == a0) then
 some (0 : Int)
 else
 some (-1 : Int)
 else
 bif (decide ((((List.length a1) : Nat) : Int) > (((List.length a0) : Nat) : Int))) then
 some (-1 : Int)
 else
 match c421 a0 a1 with
 | none => none
 | some r3 =>
 some r3

/-- euphroe/utf16.Bare -/
def p411 (c416 : D416) (N : Nat) (a0 : List UInt8) : Option (List UInt8) :=
  match c416 a0 ([(92 : UInt8)] : List UInt8) with
 | none => none
 | some r1 =>
 bif ((decide ((0 : Int) ≤ (iadd .i64 r1 (1 : Int)))) && (decide ((iadd .i64 r1 (1 : Int)) ≤ (((List.length a0) : Nat) : Int)))) then
 some (List.take ((List.length a0) - (Int.toNat (iadd .i64 r1 (1 : Int)))) (List.drop (Int.toNat (iadd .i64 r1 (1 : Int))) a0))
 else none

/-- euphroe/utf16.Count -/
def p409 (c396 : D396) (c397 : D397) (N : Nat) (a0 : List UInt8) : Option Int :=
  match c396 a0 with
 | none => none
 | some r1 =>
 bif (!r1) then
 some (0 : Int)
 else
 match c397 a0 with
 | none => none
 | some r2 =>
 some r2

def L412_0 (N : Nat) (q0_0 : Option Bool) : Nat → List UInt8 → Nat → Option Bool
  | 0, _, _ => none
  | n0 + 1, v1, v2 =>
    bif (decide (v2 < (List.length v1))) then
 bif (decide ((((Utf8.decode ⟨List.toArray v1⟩ v2).1 : Nat) : Int) < (32 : Int))) then
 some false
 else
 bif (decide ((((Utf8.decode ⟨List.toArray v1⟩ v2).1 : Nat) : Int) > (126 : Int))) then
 some false
 else
 L412_0 N q0_0 n0 v1 (v2 + (Utf8.decode ⟨List.toArray v1⟩ v2).2)
 else
 q0_0
/-- euphroe/utf16.Ascii -/
def p412 (N : Nat) (a0 : List UInt8) : Option Bool :=
  L412_0 N (
 some true) N a0 0

/-- euphroe/euphroelaw09.alive -/
def p408 (c387 : D387) (c410 : D410) (c411 : D411) (c409 : D409) (c412 : D412) (c391 : D391) (N : Nat)  : Option Bool :=
  match c387 ([(97 : UInt8)] : List UInt8) with
 | none => none
 | some r1 =>
 match c410 r1.1 with
 | none => none
 | some r2 =>
 bif ((List.map (fun n : Int => UInt8.ofNat n.toNat) r1.1) == ([(97 : UInt8), (0 : UInt8)] : List UInt8)) then
 bif (r1.2 == (0 : Int)) then
 bif (r2.1 == ([(97 : UInt8)] : List UInt8)) then
 bif (r2.2 == (0 : Int)) then
 match c411 ([(100 : UInt8), (92 : UInt8), (117 : UInt8)] : List UInt8) with
 | none => none
 | some r3 =>
 bif (r3 == ([(117 : UInt8)] : List UInt8)) then
 match c409 ([(97 : UInt8), (98 : UInt8)] : List UInt8) with
 | none => none
 | some r4 =>
 bif (r4 == (2 : Int)) then
 match c412 ([(126 : UInt8)] : List UInt8) with
 | none => none
 | some r5 =>
 bif r5 then
 match c391 ([(255 : UInt8)] : List UInt8) with
 | none => none
 | some r6 =>
 some (r6 == (3 : Int))
 else
 some false
 else
 some false
 else
 some false
 else
 some false
 else
 some false
 else
 some false
 else
 some false

def L405_0 (c408 : D408) (c387 : D387) (c388 : D388) (c392 : D392) (c394 : D394) (c398 : D398) (c409 : D409) (c23 : D23) (c391 : D391) (c393 : D393) (N : Nat) (q0_0 : List UInt8 → List Int → Int → List Int → Int → Option Bool) : Nat → List UInt8 → List Int → Int → List Int → Int → List Int → List Int → Int → Int → Option Bool
  | 0, _, _, _, _, _, _, _, _, _ => none
  | n0 + 1, v9, v10, v11, v12, v13, v14, v15, v16, v17 =>
    bif (decide (v17 < v16)) then
 match geti v14 v17 with
 | none => none
 | some x18 =>
 match geti v15 v17 with
 | none => none
 | some x19 =>
 bif (x18 != x19) then
 some false
 else
 L405_0 c408 c387 c388 c392 c394 c398 c409 c23 c391 c393 N q0_0 n0 v9 v10 v11 v12 v13 v14 v15 v16 (iadd .i64 v17 (1 : Int))
 else
 q0_0 v9 v10 v11 v12 v13
/-- euphroe/euphroelaw09.Utf16Lays -/
def p405 (c408 : D408) (c387 : D387) (c388 : D388) (c392 : D392) (c394 : D394) (c398 : D398) (c409 : D409) (c23 : D23) (c391 : D391) (c393 : D393) (N : Nat) (a0 : List UInt8) : Option Bool :=
  bif (decide ((((List.length a0) : Nat) : Int) > (600 : Int))) then
 match c408 with
 | none => none
 | some r1 =>
 some r1
 else
 match c387 a0 with
 | none => none
 | some r2 =>
 match c388 a0 with
 | none => none
 | some r3 =>
 match c392 a0 with
 | none => none
 | some r4 =>
 match c394 a0 with
 | none => none
 | some r5 =>
 match c398 a0 with
 | none => none
 | some r6 =>
 bif ((((List.length r4) : Nat) : Int) != (((List.length r5) : Nat) : Int)) then
 some false
 else
 bif (!r6.2) then
 match c409 a0 with
 | none => none
 | some r7 =>
 bif (r7 != (0 : Int)) then
 some false
 else
 bif r6.2 then
 match c409 a0 with
 | none => none
 | some r8 =>
 bif (r8 != (((List.length r6.1) : Nat) : Int)) then
 some false
 else
 L405_0 c408 c387 c388 c392 c394 c398 c409 c23 c391 c393 N (fun (y20 : List UInt8) (y21 : List Int) (y22 : Int) (y23 : List Int) (y24 : Int) =>
 match c23 y21 y23 with
 | none => none
 | some r25 =>
 bif r25 then
 bif (y22 == y24) then
 match c391 y20 with
 | none => none
 | some r26 =>
 match c393 y20 with
 | none => none
 | some r27 =>
 bif (r26 == r27) then
 match c408 with
 | none => none
 | some r28 =>
 some r28
 else
 some false
 else
 some false
 else
 some false) N a0 r2.1 r2.2 r3.1 r3.2 r4 r5 (((List.length r4) : Nat) : Int) (0 : Int)
 else
 L405_0 c408 c387 c388 c392 c394 c398 c409 c23 c391 c393 N (fun (y29 : List UInt8) (y30 : List Int) (y31 : Int) (y32 : List Int) (y33 : Int) =>
 match c23 y30 y32 with
 | none => none
 | some r34 =>
 bif r34 then
 bif (y31 == y33) then
 match c391 y29 with
 | none => none
 | some r35 =>
 match c393 y29 with
 | none => none
 | some r36 =>
 bif (r35 == r36) then
 match c408 with
 | none => none
 | some r37 =>
 some r37
 else
 some false
 else
 some false
 else
 some false) N a0 r2.1 r2.2 r3.1 r3.2 r4 r5 (((List.length r4) : Nat) : Int) (0 : Int)
 else
 bif r6.2 then
 match c409 a0 with
 | none => none
 | some r38 =>
 bif (r38 != (((List.length r6.1) : Nat) : Int)) then
 some false
 else
 L405_0 c408 c387 c388 c392 c394 c398 c409 c23 c391 c393 N (fun (y39 : List UInt8) (y40 : List Int) (y41 : Int) (y42 : List Int) (y43 : Int) =>
 match c23 y40 y42 with
 | none => none
 | some r44 =>
 bif r44 then
 bif (y41 == y43) then
 match c391 y39 with
 | none => none
 | some r45 =>
 match c393 y39 with
 | none => none
 | some r46 =>
 bif (r45 == r46) then
 match c408 with
 | none => none
 | some r47 =>
 some r47
 else
 some false
 else
 some false
 else
 some false) N a0 r2.1 r2.2 r3.1 r3.2 r4 r5 (((List.length r4) : Nat) : Int) (0 : Int)
 else
 L405_0 c408 c387 c388 c392 c394 c398 c409 c23 c391 c393 N (fun (y48 : List UInt8) (y49 : List Int) (y50 : Int) (y51 : List Int) (y52 : Int) =>
 match c23 y49 y51 with
 | none => none
 | some r53 =>
 bif r53 then
 bif (y50 == y52) then
 match c391 y48 with
 | none => none
 | some r54 =>
 match c393 y48 with
 | none => none
 | some r55 =>
 bif (r54 == r55) then
 match c408 with
 | none => none
 | some r56 =>
 some r56
 else
 some false
 else
 some false
 else
 some false) N a0 r2.1 r2.2 r3.1 r3.2 r4 r5 (((List.length r4) : Nat) : Int) (0 : Int)

/-- euphroe/euphroelaw09.Utf16Back -/
def p406 (c408 : D408) (c387 : D387) (c410 : D410) (c23 : D23) (N : Nat) (a0 : List UInt8) (a1 : List Int) : Option Bool :=
  bif (decide ((((List.length a0) : Nat) : Int) > (600 : Int))) then
 match c408 with
 | none => none
 | some r1 =>
 some r1
 else
 bif (decide ((((List.length a1) : Nat) : Int) > (600 : Int))) then
 match c408 with
 | none => none
 | some r2 =>
 some r2
 else
 match c387 a0 with
 | none => none
 | some r3 =>
 bif (r3.2 == (0 : Int)) then
 match c410 r3.1 with
 | none => none
 | some r4 =>
 bif (!(r4.1 == a0)) then
 some false
 else
 bif (r4.2 != (0 : Int)) then
 some false
 else
 match c410 a1 with
 | none => none
 | some r5 =>
 bif (r5.2 != (0 : Int)) then
 bif (r5.1 == ([] : List UInt8)) then
 match c408 with
 | none => none
 | some r6 =>
 some r6
 else
 some false
 else
 match c387 r5.1 with
 | none => none
 | some r7 =>
 bif (r7.2 == (0 : Int)) then
 match c23 r7.1 a1 with
 | none => none
 | some r8 =>
 bif r8 then
 match c408 with
 | none => none
 | some r9 =>
 some r9
 else
 some false
 else
 some false
 else
 match c410 a1 with
 | none => none
 | some r10 =>
 bif (r10.2 != (0 : Int)) then
 bif (r10.1 == ([] : List UInt8)) then
 match c408 with
 | none => none
 | some r11 =>
 some r11
 else
 some false
 else
 match c387 r10.1 with
 | none => none
 | some r12 =>
 bif (r12.2 == (0 : Int)) then
 match c23 r12.1 a1 with
 | none => none
 | some r13 =>
 bif r13 then
 match c408 with
 | none => none
 | some r14 =>
 some r14
 else
 some false
 else
 some false

def L407_0 (c408 : D408) (c392 : D392) (c409 : D409) (c387 : D387) (c391 : D391) (N : Nat) (q0_0 : List Int → Int → Option Bool) : Nat → List Int → Int → List Int → List Int → Int → Int → Option Bool
  | 0, _, _, _, _, _, _ => none
  | n0 + 1, v7, v8, v9, v10, v11, v12 =>
    bif (decide (v12 < v11)) then
 match geti v10 v12 with
 | none => none
 | some x13 =>
 match geti v9 (imul .i64 (2 : Int) v12) with
 | none => none
 | some x14 =>
 match geti v9 (iadd .i64 (imul .i64 (2 : Int) v12) (1 : Int)) with
 | none => none
 | some x15 =>
 bif ((iadd .i64 (IntKind.wrap .i64 x14) (imul .i64 (256 : Int) (IntKind.wrap .i64 x15))) != (IntKind.wrap .i64 x13)) then
 some false
 else
 L407_0 c408 c392 c409 c387 c391 N q0_0 n0 v7 v8 v9 v10 v11 (iadd .i64 v12 (1 : Int))
 else
 q0_0 v7 v8
/-- euphroe/euphroelaw09.Utf16Units -/
def p407 (c408 : D408) (c392 : D392) (c409 : D409) (c387 : D387) (c391 : D391) (N : Nat) (a0 : List UInt8) : Option Bool :=
  bif (decide ((((List.length a0) : Nat) : Int) > (600 : Int))) then
 match c408 with
 | none => none
 | some r1 =>
 some r1
 else
 match c392 a0 with
 | none => none
 | some r2 =>
 match c409 a0 with
 | none => none
 | some r3 =>
 match c387 a0 with
 | none => none
 | some r4 =>
 bif (r4.2 != (0 : Int)) then
 bif ((((List.length r2) : Nat) : Int) == (0 : Int)) then
 bif ((((List.length r4.1) : Nat) : Int) == (0 : Int)) then
 match c391 a0 with
 | none => none
 | some r5 =>
 bif (r5 == r4.2) then
 match c408 with
 | none => none
 | some r6 =>
 some r6
 else
 some false
 else
 some false
 else
 some false
 else
 bif ((((List.length r4.1) : Nat) : Int) != (imul .i64 (2 : Int) (((List.length r2) : Nat) : Int))) then
 some false
 else
 L407_0 c408 c392 c409 c387 c391 N (fun (y16 : List Int) (y17 : Int) =>
 bif (decide ((((List.length y16) : Nat) : Int) ≥ y17)) then
 bif (decide ((((List.length y16) : Nat) : Int) ≤ (imul .i64 (2 : Int) y17))) then
 bif (decide (y17 ≤ (64 : Int))) then
 match c408 with
 | none => none
 | some r18 =>
 some r18
 else
 some false
 else
 some false
 else
 some false) N r2 r3 r4.1 r2 (((List.length r2) : Nat) : Int) (0 : Int)
end Go.Proofs.YtchoafdpckknmaaDoorE
