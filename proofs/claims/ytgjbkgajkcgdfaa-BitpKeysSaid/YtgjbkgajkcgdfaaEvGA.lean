/- The functions as plain ones. -/
import Derived.Test.YtgjbkgajkcgdfaaEvFA
namespace Go.Proofs.YtgjbkgajkcgdfaaE
open Go
set_option linter.unusedVariables false
set_option linter.unusedSimpArgs false
/-- slices.Concat[[]byte,byte] -/
abbrev en1 (f : List (List Int) → Option (List Int)) : Ent := ⟨[(Sh.sl (Sh.sl (Sh.int .u8)))], List Int, fun v => f v.1, ownOut .u8⟩
/-- euphroe/euphroelaw01.OctsPuts -/
abbrev en10 (f : Int → Int → List Int → Option Bool) : Ent := ⟨[(Sh.int .u64), (Sh.int .i64), (Sh.sl (Sh.int .u8))], Bool, fun v => f v.1 v.2.1 v.2.2.1, fun r => ((Sh.bool).enc r, [])⟩
/-- euphroe/euphroelaw03.BitpWords -/
abbrev en12 (f : Int → List Int → List Int → Option Bool) : Ent := ⟨[(Sh.int .u64), (Sh.ar .i64), (Sh.sl (Sh.int .i64))], Bool, fun v => f v.1 v.2.1 v.2.2.1, fun r => ((Sh.bool).enc r, [])⟩
/-- euphroe/euphroelaw03.BitpTurns -/
abbrev en13 (f : Int → Int → List Int → Option Bool) : Ent := ⟨[(Sh.int .u64), (Sh.int .i64), (Sh.ar .i16)], Bool, fun v => f v.1 v.2.1 v.2.2.1, fun r => ((Sh.bool).enc r, [])⟩
/-- euphroe/euphroelaw03.BitpKeys -/
abbrev en14 (f : List Int → Int → Option Bool) : Ent := ⟨[(Sh.sl (Sh.int .u8)), (Sh.int .u8)], Bool, fun v => f v.1 v.2.1, fun r => ((Sh.bool).enc r, [])⟩
/-- euphroe/euphroelaw01.OctsHex -/
abbrev en15 (f : List Int → List UInt8 → Option Bool) : Ent := ⟨[(Sh.sl (Sh.int .u8)), Sh.str], Bool, fun v => f v.1 v.2.1, fun r => ((Sh.bool).enc r, [])⟩
/-- euphroe/euphroelaw01.OctsTurns -/
abbrev en16 (f : List Int → List Int → Option Bool) : Ent := ⟨[(Sh.sl (Sh.int .u8)), (Sh.sl (Sh.int .u8))], Bool, fun v => f v.1 v.2.1, fun r => ((Sh.bool).enc r, [])⟩
/-- euphroe/euphroelaw01.OctsBack -/
abbrev en17 (f : Int → Int → (List Int) × (List Int) → Option Bool) : Ent := ⟨[(Sh.int .u64), (Sh.int .i64), (Sh.st (Sh.pr (Sh.sl (Sh.int .u8)) (Sh.sl (Sh.int .u8))))], Bool, fun v => f v.1 v.2.1 v.2.2.1, fun r => ((Sh.bool).enc r, [])⟩
/-- euphroe/euphroelaw01.alive -/
abbrev en18 (f : Option Bool) : Ent := ⟨[], Bool, fun v => f, fun r => ((Sh.bool).enc r, [])⟩
/-- euphroe/octs.Put -/
abbrev en19 (f : Int → Int → Bool → Option ((List Int) × Int)) : Ent := ⟨[(Sh.int .u64), (Sh.int .i64), Sh.bool], (List Int) × Int, fun v => f v.1 v.2.1 v.2.2.1, fun r => (((Sh.tu (Sh.pr (Sh.sl (Sh.int .u8)) (Sh.int .i64)))).enc r, [])⟩
/-- euphroe/euphroeref01.Put -/
abbrev en20 (f : Int → Int → Bool → Option ((List Int) × Int)) : Ent := ⟨[(Sh.int .u64), (Sh.int .i64), Sh.bool], (List Int) × Int, fun v => f v.1 v.2.1 v.2.2.1, fun r => (((Sh.tu (Sh.pr (Sh.sl (Sh.int .u8)) (Sh.int .i64)))).enc r, [])⟩
/-- euphroe/octs.Get -/
abbrev en21 (f : List Int → Bool → Option (Int × Int)) : Ent := ⟨[(Sh.sl (Sh.int .u8)), Sh.bool], Int × Int, fun v => f v.1 v.2.1, fun r => (((Sh.tu (Sh.pr (Sh.int .u64) (Sh.int .i64)))).enc r, [])⟩
/-- euphroe/euphroeref01.Get -/
abbrev en22 (f : List Int → Bool → Option (Int × Int)) : Ent := ⟨[(Sh.sl (Sh.int .u8)), Sh.bool], Int × Int, fun v => f v.1 v.2.1, fun r => (((Sh.tu (Sh.pr (Sh.int .u64) (Sh.int .i64)))).enc r, [])⟩
/-- euphroe/euphroeref01.Same -/
abbrev en23 (f : List Int → List Int → Option Bool) : Ent := ⟨[(Sh.sl (Sh.int .u8)), (Sh.sl (Sh.int .u8))], Bool, fun v => f v.1 v.2.1, fun r => ((Sh.bool).enc r, [])⟩
/-- euphroe/bitp.Spread -/
abbrev en24 (f : List Int → Option ((List Int) × Int)) : Ent := ⟨[(Sh.sl (Sh.int .u8))], (List Int) × Int, fun v => f v.1, fun r => (((Sh.tu (Sh.pr (Sh.sl (Sh.int .u8)) (Sh.int .i64)))).enc r, [])⟩
/-- euphroe/bitp.Odd -/
abbrev en25 (f : Int → Option Int) : Ent := ⟨[(Sh.int .u8)], Int, fun v => f v.1, fun r => (((Sh.int .u8)).enc r, [])⟩
/-- euphroe/euphroelaw03.alive -/
abbrev en26 (f : Option Bool) : Ent := ⟨[], Bool, fun v => f, fun r => ((Sh.bool).enc r, [])⟩
/-- euphroe/bitp.Permute -/
abbrev en27 (f : Int → Int → List Int → Option (Int × Int)) : Ent := ⟨[(Sh.int .u64), (Sh.int .i64), (Sh.sl (Sh.int .i64))], Int × Int, fun v => f v.1 v.2.1 v.2.2.1, fun r => (((Sh.tu (Sh.pr (Sh.int .u64) (Sh.int .i64)))).enc r, [])⟩
/-- euphroe/euphroeref03.Permute -/
abbrev en28 (f : Int → Int → List Int → Option (Int × Int)) : Ent := ⟨[(Sh.int .u64), (Sh.int .i64), (Sh.sl (Sh.int .i64))], Int × Int, fun v => f v.1 v.2.1 v.2.2.1, fun r => (((Sh.tu (Sh.pr (Sh.int .u64) (Sh.int .i64)))).enc r, [])⟩
/-- euphroe/bitp.Turn -/
abbrev en29 (f : Int → Int → Int → Option (Int × Int)) : Ent := ⟨[(Sh.int .u64), (Sh.int .i64), (Sh.int .i64)], Int × Int, fun v => f v.1 v.2.1 v.2.2.1, fun r => (((Sh.tu (Sh.pr (Sh.int .u64) (Sh.int .i64)))).enc r, [])⟩
/-- euphroe/euphroeref03.Turn -/
abbrev en30 (f : Int → Int → Int → Option (Int × Int)) : Ent := ⟨[(Sh.int .u64), (Sh.int .i64), (Sh.int .i64)], Int × Int, fun v => f v.1 v.2.1 v.2.2.1, fun r => (((Sh.tu (Sh.pr (Sh.int .u64) (Sh.int .i64)))).enc r, [])⟩
/-- euphroe/bitp.Split -/
abbrev en31 (f : Int → Int → Int → Option (Int × Int × Int)) : Ent := ⟨[(Sh.int .u64), (Sh.int .i64), (Sh.int .i64)], Int × Int × Int, fun v => f v.1 v.2.1 v.2.2.1, fun r => (((Sh.tu (Sh.pr (Sh.int .u64) (Sh.pr (Sh.int .u64) (Sh.int .i64))))).enc r, [])⟩
/-- euphroe/euphroeref03.Split -/
abbrev en32 (f : Int → Int → Int → Option (Int × Int × Int)) : Ent := ⟨[(Sh.int .u64), (Sh.int .i64), (Sh.int .i64)], Int × Int × Int, fun v => f v.1 v.2.1 v.2.2.1, fun r => (((Sh.tu (Sh.pr (Sh.int .u64) (Sh.pr (Sh.int .u64) (Sh.int .i64))))).enc r, [])⟩
/-- euphroe/bitp.Bit -/
abbrev en33 (f : Int → Int → Int → Option Int) : Ent := ⟨[(Sh.int .u64), (Sh.int .i64), (Sh.int .i64)], Int, fun v => f v.1 v.2.1 v.2.2.1, fun r => (((Sh.int .u64)).enc r, [])⟩
/-- euphroe/euphroeref03.Bit -/
abbrev en34 (f : Int → Int → Int → Option Int) : Ent := ⟨[(Sh.int .u64), (Sh.int .i64), (Sh.int .i64)], Int, fun v => f v.1 v.2.1 v.2.2.1, fun r => (((Sh.int .u64)).enc r, [])⟩
/-- euphroe/euphroelaw03.a0 -/
abbrev en35 (f : Int → Int → Option Int) : Ent := ⟨[(Sh.int .u64), (Sh.int .i64)], Int, fun v => f v.1 v.2.1, fun r => (((Sh.int .u64)).enc r, [])⟩
/-- euphroe/euphroeref03.Spread -/
abbrev en36 (f : List Int → Option ((List Int) × Int)) : Ent := ⟨[(Sh.sl (Sh.int .u8))], (List Int) × Int, fun v => f v.1, fun r => (((Sh.tu (Sh.pr (Sh.sl (Sh.int .u8)) (Sh.int .i64)))).enc r, [])⟩
/-- euphroe/bitp.Gather -/
abbrev en37 (f : List Int → Option ((List Int) × Int)) : Ent := ⟨[(Sh.sl (Sh.int .u8))], (List Int) × Int, fun v => f v.1, fun r => (((Sh.tu (Sh.pr (Sh.sl (Sh.int .u8)) (Sh.int .i64)))).enc r, [])⟩
/-- euphroe/euphroeref03.Gather -/
abbrev en38 (f : List Int → Option ((List Int) × Int)) : Ent := ⟨[(Sh.sl (Sh.int .u8))], (List Int) × Int, fun v => f v.1, fun r => (((Sh.tu (Sh.pr (Sh.sl (Sh.int .u8)) (Sh.int .i64)))).enc r, [])⟩
/-- euphroe/euphroeref03.Odd -/
abbrev en39 (f : Int → Option Int) : Ent := ⟨[(Sh.int .u8)], Int, fun v => f v.1, fun r => (((Sh.int .u8)).enc r, [])⟩
/-- euphroe/octs.Unhex -/
abbrev en40 (f : List UInt8 → Option ((List Int) × Int)) : Ent := ⟨[Sh.str], (List Int) × Int, fun v => f v.1, fun r => (((Sh.tu (Sh.pr (Sh.sl (Sh.int .u8)) (Sh.int .i64)))).enc r, [])⟩
/-- euphroe/euphroeref01.Unhex -/
abbrev en41 (f : List UInt8 → Option ((List Int) × Int)) : Ent := ⟨[Sh.str], (List Int) × Int, fun v => f v.1, fun r => (((Sh.tu (Sh.pr (Sh.sl (Sh.int .u8)) (Sh.int .i64)))).enc r, [])⟩
/-- euphroe/octs.Hex -/
abbrev en42 (f : List Int → Option (List UInt8)) : Ent := ⟨[(Sh.sl (Sh.int .u8))], List UInt8, fun v => f v.1, fun r => ((Sh.str).enc r, [])⟩
/-- euphroe/euphroeref01.Hex -/
abbrev en43 (f : List Int → Option (List UInt8)) : Ent := ⟨[(Sh.sl (Sh.int .u8))], List UInt8, fun v => f v.1, fun r => ((Sh.str).enc r, [])⟩
/-- euphroe/octs.Xor -/
abbrev en44 (f : List Int → List Int → Option ((List Int) × Int)) : Ent := ⟨[(Sh.sl (Sh.int .u8)), (Sh.sl (Sh.int .u8))], (List Int) × Int, fun v => f v.1 v.2.1, fun r => (((Sh.tu (Sh.pr (Sh.sl (Sh.int .u8)) (Sh.int .i64)))).enc r, [])⟩
/-- euphroe/euphroeref01.Xor -/
abbrev en45 (f : List Int → List Int → Option ((List Int) × Int)) : Ent := ⟨[(Sh.sl (Sh.int .u8)), (Sh.sl (Sh.int .u8))], (List Int) × Int, fun v => f v.1 v.2.1, fun r => (((Sh.tu (Sh.pr (Sh.sl (Sh.int .u8)) (Sh.int .i64)))).enc r, [])⟩
/-- euphroe/octs.Join -/
abbrev en46 (f : List (List Int) → Option (List Int)) : Ent := ⟨[(Sh.sl (Sh.sl (Sh.int .u8)))], List Int, fun v => f v.1, ownOut .u8⟩
/-- euphroe/octs.Same -/
abbrev en47 (f : List Int → List Int → Option Bool) : Ent := ⟨[(Sh.sl (Sh.int .u8)), (Sh.sl (Sh.int .u8))], Bool, fun v => f v.1 v.2.1, fun r => ((Sh.bool).enc r, [])⟩
/-- euphroe/euphroeref01.turned -/
abbrev en49 (f : List Int → Option (List Int)) : Ent := ⟨[(Sh.sl (Sh.int .u8))], List Int, fun v => f v.1, fun r => (((Sh.sl (Sh.int .u8))).enc r, [])⟩
/-- euphroe/euphroeref01.Big -/
abbrev en50 (f : Int → Int → Option (List Int)) : Ent := ⟨[(Sh.int .u64), (Sh.int .i64)], List Int, fun v => f v.1 v.2.1, fun r => (((Sh.sl (Sh.int .u8))).enc r, [])⟩
/-- euphroe/euphroeref01.Num -/
abbrev en51 (f : List Int → Option Int) : Ent := ⟨[(Sh.sl (Sh.int .u8))], Int, fun v => f v.1, fun r => (((Sh.int .u64)).enc r, [])⟩
/-- math/bits.OnesCount8 -/
abbrev en52 (f : Int → Option Int) : Ent := ⟨[(Sh.int .u8)], Int, fun v => f v.1, fun r => (((Sh.int .i64)).enc r, [])⟩
/-- euphroe/bitp.isWidth -/
abbrev en53 (f : Int → Option Bool) : Ent := ⟨[(Sh.int .i64)], Bool, fun v => f v.1, fun r => ((Sh.bool).enc r, [])⟩
/-- euphroe/euphroeref03.wide -/
abbrev en55 (f : Int → Option Bool) : Ent := ⟨[(Sh.int .i64)], Bool, fun v => f v.1, fun r => ((Sh.bool).enc r, [])⟩
/-- euphroe/euphroeref03.Row -/
abbrev en56 (f : Int → Int → Option (List Int)) : Ent := ⟨[(Sh.int .u64), (Sh.int .i64)], List Int, fun v => f v.1 v.2.1, fun r => (((Sh.sl (Sh.int .u8))).enc r, [])⟩
/-- euphroe/euphroeref03.Word -/
abbrev en57 (f : List Int → Option Int) : Ent := ⟨[(Sh.sl (Sh.int .u8))], Int, fun v => f v.1, fun r => (((Sh.int .u64)).enc r, [])⟩
/-- euphroe/bitp.mask -/
abbrev en58 (f : Int → Option Int) : Ent := ⟨[(Sh.int .i64)], Int, fun v => f v.1, fun r => (((Sh.int .u64)).enc r, [])⟩
/-- euphroe/octs.digit -/
abbrev en59 (f : Int → Option Int) : Ent := ⟨[(Sh.int .u8)], Int, fun v => f v.1, fun r => (((Sh.int .i64)).enc r, [])⟩
/-- euphroe/euphroeref01.Digit -/
abbrev en60 (f : Int → Option Int) : Ent := ⟨[(Sh.int .u8)], Int, fun v => f v.1, fun r => (((Sh.int .u8)).enc r, [])⟩
/-- slices.Clone[[]byte,byte] -/
abbrev en61 (f : List Int → Option (List Int)) : Ent := ⟨[(Sh.sl (Sh.int .u8))], List Int, fun v => f v.1, ownOut .u8⟩
/-- strings.IndexByte -/
abbrev en63 (f : List UInt8 → Int → Option Int) : Ent := ⟨[Sh.str, (Sh.int .u8)], Int, fun v => f v.1 v.2.1, fun r => (((Sh.int .i64)).enc r, [])⟩
/-- internal/stringslite.IndexByte -/
abbrev en65 (f : List UInt8 → Int → Option Int) : Ent := ⟨[Sh.str, (Sh.int .u8)], Int, fun v => f v.1 v.2.1, fun r => (((Sh.int .i64)).enc r, [])⟩
def PR48v0 : Pr := ⟨(.cons (.slc 0 1) .nil), [(.ints false .u8)]⟩
def QR48v0 : Pr := ⟨(.cons .tup0 .nil), [(.ints false .u8)]⟩
/-- slices.Reverse[[]byte,byte] -/
abbrev rn48v0 (f : Nat → Nat → List Int → Option ((Unit × Unit) × ((List Int) × Unit))) : REnt := ⟨PR48v0, QR48v0, (Unit × Unit) × ((List Int) × Unit), fun v => f v.1.1.1 v.1.1.2 v.2.1, fun r => r⟩
def PR54v0 : Pr := ⟨(.cons (.int .i64) (.cons (.ptr 0 0) (.cons (.ptr 1 0) (.cons (.ptr 2 0) (.cons (.ptr 3 0) .nil))))), [(.vals false (.cons .bool .nil)), (.ints false .i64), (.ints false .u64), (.ints false .u64)]⟩
def QR54v0 : Pr := ⟨(.cons .tup0 .nil), [(.vals false (.cons .bool .nil)), (.ints false .i64), (.ints false .u64), (.ints false .u64)]⟩
/-- euphroe/bitp.Permute$1 -/
abbrev rn54v0 (f : Int → Bool → List Int → List Int → List Int → Option ((Unit × Unit) × ((Bool × Unit) × ((List Int) × ((List Int) × ((List Int) × Unit)))))) : REnt := ⟨PR54v0, QR54v0, (Unit × Unit) × ((Bool × Unit) × ((List Int) × ((List Int) × ((List Int) × Unit)))), fun v => f v.1.1 v.2.1.1 v.2.2.1 v.2.2.2.1 v.2.2.2.2.1, fun r => r⟩

def L48v0_0 (N : Nat) (q0_0 : List Int → Option ((Unit × Unit) × ((List Int) × Unit))) : Nat → Nat → Nat → Int → Int → List Int → Option ((Unit × Unit) × ((List Int) × Unit))
  | 0, _, _, _, _, _ => none
  | n0 + 1, v1, v2, v3, v4, v5 =>
    bif (decide (v3 < v4)) then
      bif ((decide ((0 : Int) ≤ v4)) && (decide (v4 < ((v1 : Nat) : Int)))) then
        match (v5)[(0 + ((Int.toNat v4) * 1))]? with
        | none => none
        | some x6 =>
          bif ((decide ((0 : Int) ≤ v3)) && (decide (v3 < ((v1 : Nat) : Int)))) then
            match (v5)[(0 + ((Int.toNat v3) * 1))]? with
            | none => none
            | some x7 =>
              bif ((decide ((0 : Int) ≤ v3)) && (decide (v3 < ((v1 : Nat) : Int)))) then
                bif (decide ((0 + ((Int.toNat v3) * 1)) < (List.length v5))) then
                  bif ((decide ((0 : Int) ≤ v4)) && (decide (v4 < ((v1 : Nat) : Int)))) then
                    bif (decide ((0 + ((Int.toNat v4) * 1)) < (List.length (List.set v5 (0 + ((Int.toNat v3) * 1)) x6)))) then
                      L48v0_0 N q0_0 n0 v1 v2 (iadd .i64 v3 (1 : Int)) (isub .i64 v4 (1 : Int)) (List.set (List.set v5 (0 + ((Int.toNat v3) * 1)) x6) (0 + ((Int.toNat v4) * 1)) x7)
                    else none
                  else none
                else none
              else none
          else none
      else none
    else
      q0_0 v5
/-- slices.Reverse[[]byte,byte] -/
def p48v0 (N : Nat) (a0 : Nat) (a1 : Nat) (a2 : List Int) : Option ((Unit × Unit) × ((List Int) × Unit)) :=
  L48v0_0 N (fun (y8 : List Int) =>
      some (((), ()), (y8, ()))) N a0 a1 (0 : Int) (isub .i64 ((a0 : Nat) : Int) (1 : Int)) a2

def L19_0 (d48v0 : Nat → Nat → List Int → Option ((Unit × Unit) × ((List Int) × Unit))) (N : Nat) (q0_0 : Bool → Nat → Nat → List Int → Option ((List Int) × Int)) : Nat → Int → Bool → Nat → Nat → Int → Int → List Int → Option ((List Int) × Int)
  | 0, _, _, _, _, _, _, _ => none
  | n0 + 1, v1, v2, v3, v4, v5, v6, v7 =>
    bif (decide (v6 < v5)) then
      bif (decide ((imul .i64 (8 : Int) v6) < (0 : Int))) then
        none
      else
        bif ((decide ((0 : Int) ≤ v6)) && (decide (v6 < ((v3 : Nat) : Int)))) then
          bif (decide ((0 + ((Int.toNat v6) * 1)) < (List.length v7))) then
            L19_0 d48v0 N q0_0 n0 v1 v2 v3 v4 v5 (iadd .i64 v6 (1 : Int)) (List.set v7 (0 + ((Int.toNat v6) * 1)) (IntKind.wrap .u8 (ishr .u64 v1 (imul .i64 (8 : Int) v6))))
          else none
        else none
    else
      q0_0 v2 v3 v4 v7
/-- euphroe/octs.Put -/
def p19 (d48v0 : Nat → Nat → List Int → Option ((Unit × Unit) × ((List Int) × Unit))) (N : Nat) (a0 : Int) (a1 : Int) (a2 : Bool) : Option ((List Int) × Int) :=
  bif (decide (a1 < (1 : Int))) then
    some (([] : List Int), (1 : Int))
  else
    bif (decide (a1 > (8 : Int))) then
      some (([] : List Int), (1 : Int))
    else
      bif ((decide ((0 : Int) ≤ a1)) && ((decide (a1 ≤ a1)) && ((decide ((a1 * ((1 : Nat) : Int)) ≤ (1099511627776 : Int))) && (decide (a1 ≤ (1099511627776 : Int)))))) then
        L19_0 d48v0 N (fun (y8 : Bool) (y9 : Nat) (y10 : Nat) (y11 : List Int) =>
            bif (!y8) then
              match d48v0 y9 y10 y11 with
              | none => none
              | some r12 =>
                bif (decide ((0 + (y9 * 1)) ≤ (List.length r12.2.1))) then
                  some ((List.take y9 (List.drop 0 r12.2.1)), (0 : Int))
                else none
            else
              bif (decide ((0 + (y9 * 1)) ≤ (List.length y11))) then
                some ((List.take y9 (List.drop 0 y11)), (0 : Int))
              else none) N a0 a2 (Int.toNat a1) (Int.toNat a1) (((Int.toNat a1) : Nat) : Int) (0 : Int) (List.replicate (Int.toNat a1) (0 : Int))
      else none

def L21_0 (N : Nat) (q0_0 : Int → Option (Int × Int)) : Nat → Bool → Int → List Int → Int → Int → Option (Int × Int)
  | 0, _, _, _, _, _ => none
  | n0 + 1, v1, v2, v3, v4, v5 =>
    bif (decide (v5 < v4)) then
      match geti v3 v5 with
      | none => none
      | some x6 =>
        bif v1 then
          bif (decide ((imul .i64 (8 : Int) v5) < (0 : Int))) then
            none
          else
            L21_0 N q0_0 n0 v1 (ior .u64 v2 (ishl .u64 (IntKind.wrap .u64 x6) (imul .i64 (8 : Int) v5))) v3 v4 (iadd .i64 v5 (1 : Int))
        else
          L21_0 N q0_0 n0 v1 (ior .u64 (ishl .u64 v2 (8 : Int)) (IntKind.wrap .u64 x6)) v3 v4 (iadd .i64 v5 (1 : Int))
    else
      q0_0 v2
/-- euphroe/octs.Get -/
def p21 (N : Nat) (a0 : List Int) (a1 : Bool) : Option (Int × Int) :=
  bif (decide ((((List.length a0) : Nat) : Int) < (1 : Int))) then
    some ((0 : Int), (1 : Int))
  else
    bif (decide ((((List.length a0) : Nat) : Int) > (8 : Int))) then
      some ((0 : Int), (1 : Int))
    else
      L21_0 N (fun (y7 : Int) =>
          some (y7, (0 : Int))) N a1 (0 : Int) a0 (((List.length a0) : Nat) : Int) (0 : Int)

def L42_0 (N : Nat) (q0_0 : Nat → List Int → Option (List UInt8)) : Nat → Nat → List Int → Int → Int → List Int → Option (List UInt8)
  | 0, _, _, _, _, _ => none
  | n0 + 1, v1, v2, v3, v4, v5 =>
    bif (decide (v4 < v3)) then
      match geti v2 v4 with
      | none => none
      | some x6 =>
        match geti ([(48 : UInt8), (49 : UInt8), (50 : UInt8), (51 : UInt8), (52 : UInt8), (53 : UInt8), (54 : UInt8), (55 : UInt8), (56 : UInt8), (57 : UInt8), (65 : UInt8), (66 : UInt8), (67 : UInt8), (68 : UInt8), (69 : UInt8), (70 : UInt8)] : List UInt8) (ishr .u8 x6 (4 : Int)) with
        | none => none
        | some x7 =>
          match geti ([(48 : UInt8), (49 : UInt8), (50 : UInt8), (51 : UInt8), (52 : UInt8), (53 : UInt8), (54 : UInt8), (55 : UInt8), (56 : UInt8), (57 : UInt8), (65 : UInt8), (66 : UInt8), (67 : UInt8), (68 : UInt8), (69 : UInt8), (70 : UInt8)] : List UInt8) (iand .u8 x6 (15 : Int)) with
          | none => none
          | some x8 =>
            bif (((List.length v5) == (v1 * 1)) && ((decide (((v1 + 2) * 1) ≤ 1099511627776)) && (decide ((v1 + 2) ≤ 1099511627776)))) then
              L42_0 N q0_0 n0 (v1 + 2) v2 v3 (iadd .i64 v4 (1 : Int)) (v5 ++ [((UInt8.toNat x7 : Nat) : Int), ((UInt8.toNat x8 : Nat) : Int)])
            else none
    else
      q0_0 v1 v5
/-- euphroe/octs.Hex -/
def p42 (N : Nat) (a0 : List Int) : Option (List UInt8) :=
  bif ((decide ((0 : Int) ≤ (imul .i64 (2 : Int) (((List.length a0) : Nat) : Int)))) && ((decide (((imul .i64 (2 : Int) (((List.length a0) : Nat) : Int)) * ((1 : Nat) : Int)) ≤ (1099511627776 : Int))) && (decide ((imul .i64 (2 : Int) (((List.length a0) : Nat) : Int)) ≤ (1099511627776 : Int))))) then
    L42_0 N (fun (y9 : Nat) (y10 : List Int) =>
        bif (decide ((0 + (y9 * 1)) ≤ (List.length y10))) then
          some (List.map (fun n : Int => UInt8.ofNat n.toNat) (List.take (y9 * 1) (List.drop 0 y10)))
        else none) N 0 a0 (((List.length a0) : Nat) : Int) (0 : Int) (List.take 0 (List.drop 0 (List.replicate (Int.toNat (imul .i64 (2 : Int) (((List.length a0) : Nat) : Int))) (0 : Int))))
  else none

def L47_0 (N : Nat) (q0_0 : Int → Option Bool) : Nat → List Int → Int → List Int → Int → Int → Option Bool
  | 0, _, _, _, _, _ => none
  | n0 + 1, v1, v2, v3, v4, v5 =>
    bif (decide (v5 < v4)) then
      match geti v3 v5 with
      | none => none
      | some x6 =>
        match geti v1 v5 with
        | none => none
        | some x7 =>
          L47_0 N q0_0 n0 v1 (ior .u8 v2 (ixor .u8 x6 x7)) v3 v4 (iadd .i64 v5 (1 : Int))
    else
      q0_0 v2
/-- euphroe/octs.Same -/
def p47 (N : Nat) (a0 : List Int) (a1 : List Int) : Option Bool :=
  bif ((((List.length a0) : Nat) : Int) != (((List.length a1) : Nat) : Int)) then
    some false
  else
    L47_0 N (fun (y8 : Int) =>
        some (y8 == (0 : Int))) N a1 (0 : Int) a0 (((List.length a0) : Nat) : Int) (0 : Int)

/-- euphroe/euphroelaw01.alive -/
def p18 (c19 : Int → Int → Bool → Option ((List Int) × Int)) (c21 : List Int → Bool → Option (Int × Int)) (c42 : List Int → Option (List UInt8)) (c47 : List Int → List Int → Option Bool) (N : Nat)  : Option Bool :=
  match c19 (258 : Int) (2 : Int) false with
  | none => none
  | some r1 =>
    match c19 (258 : Int) (2 : Int) true with
    | none => none
    | some r2 =>
      match c21 r1.1 false with
      | none => none
      | some r3 =>
        bif ((List.map (fun n : Int => UInt8.ofNat n.toNat) r1.1) == ([(1 : UInt8), (2 : UInt8)] : List UInt8)) then
          bif (r1.2 == (0 : Int)) then
            bif ((List.map (fun n : Int => UInt8.ofNat n.toNat) r2.1) == ([(2 : UInt8), (1 : UInt8)] : List UInt8)) then
              bif (r2.2 == (0 : Int)) then
                bif (r3.1 == (258 : Int)) then
                  bif (r3.2 == (0 : Int)) then
                    match c42 ([(171 : Int)] : List Int) with
                    | none => none
                    | some r4 =>
                      bif (r4 == ([(65 : UInt8), (66 : UInt8)] : List UInt8)) then
                        match c47 r1.1 r1.1 with
                        | none => none
                        | some r5 =>
                          some r5
                      else
                        some false
                  else
                    some false
                else
                  some false
              else
                some false
            else
              some false
          else
            some false
        else
          some false

def L50_0 (N : Nat) (q0_0 : Nat → Nat → List Int → Option (List Int)) : Nat → Int → Nat → Nat → Int → List Int → Option (List Int)
  | 0, _, _, _, _, _ => none
  | n0 + 1, v1, v2, v3, v4, v5 =>
    bif (decide (v4 ≥ (0 : Int))) then
      bif ((decide ((0 : Int) ≤ v4)) && (decide (v4 < ((v2 : Nat) : Int)))) then
        bif (decide ((0 + ((Int.toNat v4) * 1)) < (List.length v5))) then
          L50_0 N q0_0 n0 (iquo .u64 v1 (256 : Int)) v2 v3 (isub .i64 v4 (1 : Int)) (List.set v5 (0 + ((Int.toNat v4) * 1)) (IntKind.wrap .u8 (irem v1 (256 : Int))))
        else none
      else none
    else
      q0_0 v2 v3 v5
/-- euphroe/euphroeref01.Big -/
def p50 (N : Nat) (a0 : Int) (a1 : Int) : Option (List Int) :=
  bif ((decide ((0 : Int) ≤ a1)) && ((decide (a1 ≤ a1)) && ((decide ((a1 * ((1 : Nat) : Int)) ≤ (1099511627776 : Int))) && (decide (a1 ≤ (1099511627776 : Int)))))) then
    L50_0 N (fun (y6 : Nat) (y7 : Nat) (y8 : List Int) =>
        bif (decide ((0 + (y6 * 1)) ≤ (List.length y8))) then
          some (List.take y6 (List.drop 0 y8))
        else none) N a0 (Int.toNat a1) (Int.toNat a1) (isub .i64 a1 (1 : Int)) (List.replicate (Int.toNat a1) (0 : Int))
  else none

def L49_0 (N : Nat) (q0_0 : Nat → Nat → List Int → Option (List Int)) : Nat → List Int → Nat → Nat → Int → List Int → Option (List Int)
  | 0, _, _, _, _, _ => none
  | n0 + 1, v1, v2, v3, v4, v5 =>
    bif (decide (v4 < (((List.length v1) : Nat) : Int))) then
      match geti v1 v4 with
      | none => none
      | some x6 =>
        bif ((decide ((0 : Int) ≤ (isub .i64 (isub .i64 (((List.length v1) : Nat) : Int) (1 : Int)) v4))) && (decide ((isub .i64 (isub .i64 (((List.length v1) : Nat) : Int) (1 : Int)) v4) < ((v2 : Nat) : Int)))) then
          bif (decide ((0 + ((Int.toNat (isub .i64 (isub .i64 (((List.length v1) : Nat) : Int) (1 : Int)) v4)) * 1)) < (List.length v5))) then
            L49_0 N q0_0 n0 v1 v2 v3 (iadd .i64 v4 (1 : Int)) (List.set v5 (0 + ((Int.toNat (isub .i64 (isub .i64 (((List.length v1) : Nat) : Int) (1 : Int)) v4)) * 1)) x6)
          else none
        else none
    else
      q0_0 v2 v3 v5
/-- euphroe/euphroeref01.turned -/
def p49 (N : Nat) (a0 : List Int) : Option (List Int) :=
  bif ((decide ((0 : Int) ≤ (((List.length a0) : Nat) : Int))) && ((decide ((((List.length a0) : Nat) : Int) ≤ (((List.length a0) : Nat) : Int))) && ((decide (((((List.length a0) : Nat) : Int) * ((1 : Nat) : Int)) ≤ (1099511627776 : Int))) && (decide ((((List.length a0) : Nat) : Int) ≤ (1099511627776 : Int)))))) then
    L49_0 N (fun (y7 : Nat) (y8 : Nat) (y9 : List Int) =>
        bif (decide ((0 + (y7 * 1)) ≤ (List.length y9))) then
          some (List.take y7 (List.drop 0 y9))
        else none) N a0 (Int.toNat (((List.length a0) : Nat) : Int)) (Int.toNat (((List.length a0) : Nat) : Int)) (0 : Int) (List.replicate (Int.toNat (((List.length a0) : Nat) : Int)) (0 : Int))
  else none

/-- euphroe/euphroeref01.Put -/
def p20 (c50 : Int → Int → Option (List Int)) (c49 : List Int → Option (List Int)) (N : Nat) (a0 : Int) (a1 : Int) (a2 : Bool) : Option ((List Int) × Int) :=
  bif (decide (a1 < (1 : Int))) then
    some (([] : List Int), (1 : Int))
  else
    bif (decide (a1 > (8 : Int))) then
      some (([] : List Int), (1 : Int))
    else
      bif a2 then
        match c50 a0 a1 with
        | none => none
        | some r1 =>
          match c49 r1 with
          | none => none
          | some r2 =>
            some (r2, (0 : Int))
      else
        match c50 a0 a1 with
        | none => none
        | some r3 =>
          some (r3, (0 : Int))

def L51_0 (N : Nat) (q0_0 : Int → Option Int) : Nat → List Int → Int → Int → Option Int
  | 0, _, _, _ => none
  | n0 + 1, v1, v2, v3 =>
    bif (decide (v3 < (((List.length v1) : Nat) : Int))) then
      match geti v1 v3 with
      | none => none
      | some x4 =>
        L51_0 N q0_0 n0 v1 (iadd .u64 (imul .u64 v2 (256 : Int)) (IntKind.wrap .u64 x4)) (iadd .i64 v3 (1 : Int))
    else
      q0_0 v2
/-- euphroe/euphroeref01.Num -/
def p51 (N : Nat) (a0 : List Int) : Option Int :=
  L51_0 N (fun (y5 : Int) =>
      some y5) N a0 (0 : Int) (0 : Int)

/-- euphroe/euphroeref01.Get -/
def p22 (c49 : List Int → Option (List Int)) (c51 : List Int → Option Int) (N : Nat) (a0 : List Int) (a1 : Bool) : Option (Int × Int) :=
  bif (decide ((((List.length a0) : Nat) : Int) < (1 : Int))) then
    some ((0 : Int), (1 : Int))
  else
    bif (decide ((((List.length a0) : Nat) : Int) > (8 : Int))) then
      some ((0 : Int), (1 : Int))
    else
      bif a1 then
        match c49 a0 with
        | none => none
        | some r1 =>
          match c51 r1 with
          | none => none
          | some r2 =>
            some (r2, (0 : Int))
      else
        match c51 a0 with
        | none => none
        | some r3 =>
          some (r3, (0 : Int))

def L23_0 (N : Nat) (q0_0 : Option Bool) : Nat → List Int → List Int → Int → Option Bool
  | 0, _, _, _ => none
  | n0 + 1, v1, v2, v3 =>
    bif (decide (v3 < (((List.length v1) : Nat) : Int))) then
      match geti v1 v3 with
      | none => none
      | some x4 =>
        match geti v2 v3 with
        | none => none
        | some x5 =>
          bif (x4 != x5) then
            some false
          else
            L23_0 N q0_0 n0 v1 v2 (iadd .i64 v3 (1 : Int))
    else
      q0_0
/-- euphroe/euphroeref01.Same -/
def p23 (N : Nat) (a0 : List Int) (a1 : List Int) : Option Bool :=
  bif ((((List.length a0) : Nat) : Int) != (((List.length a1) : Nat) : Int)) then
    some false
  else
    L23_0 N (
        some true) N a0 a1 (0 : Int)

/-- euphroe/euphroelaw01.OctsPuts -/
def p10 (c18 : Option Bool) (c19 : Int → Int → Bool → Option ((List Int) × Int)) (c20 : Int → Int → Bool → Option ((List Int) × Int)) (c21 : List Int → Bool → Option (Int × Int)) (c22 : List Int → Bool → Option (Int × Int)) (c23 : List Int → List Int → Option Bool) (N : Nat) (a0 : Int) (a1 : Int) (a2 : List Int) : Option Bool :=
  bif (decide ((((List.length a2) : Nat) : Int) > (100 : Int))) then
    match c18 with
    | none => none
    | some r1 =>
      some r1
  else
    match c19 a0 a1 false with
    | none => none
    | some r2 =>
      match c20 a0 a1 false with
      | none => none
      | some r3 =>
        match c21 a2 false with
        | none => none
        | some r4 =>
          match c22 a2 false with
          | none => none
          | some r5 =>
            match c23 r2.1 r3.1 with
            | none => none
            | some r6 =>
              bif (!r6) then
                some false
              else
                bif (r2.2 != r3.2) then
                  some false
                else
                  bif (r4.1 != r5.1) then
                    some false
                  else
                    bif (r4.2 != r5.2) then
                      some false
                    else
                      match c19 a0 a1 true with
                      | none => none
                      | some r7 =>
                        match c20 a0 a1 true with
                        | none => none
                        | some r8 =>
                          match c21 a2 true with
                          | none => none
                          | some r9 =>
                            match c22 a2 true with
                            | none => none
                            | some r10 =>
                              match c23 r7.1 r8.1 with
                              | none => none
                              | some r11 =>
                                bif (!r11) then
                                  some false
                                else
                                  bif (r7.2 != r8.2) then
                                    some false
                                  else
                                    bif (r9.1 != r10.1) then
                                      some false
                                    else
                                      bif (r9.2 != r10.2) then
                                        some false
                                      else
                                        match c18 with
                                        | none => none
                                        | some r12 =>
                                          some r12

/-- euphroe/bitp.isWidth -/
def p53 (N : Nat) (a0 : Int) : Option Bool :=
  bif (decide (a0 ≥ (1 : Int))) then
    some (decide (a0 ≤ (64 : Int)))
  else
    some false

/-- euphroe/bitp.Bit -/
def p33 (c53 : Int → Option Bool) (N : Nat) (a0 : Int) (a1 : Int) (a2 : Int) : Option Int :=
  match c53 a1 with
  | none => none
  | some r1 =>
    bif (!r1) then
      some (0 : Int)
    else
      bif (decide (a2 < (1 : Int))) then
        some (0 : Int)
      else
        bif (decide (a2 > a1)) then
          some (0 : Int)
        else
          bif (decide ((isub .i64 a1 a2) < (0 : Int))) then
            none
          else
            some (iand .u64 (ishr .u64 a0 (isub .i64 a1 a2)) (1 : Int))

/-- euphroe/bitp.Permute$1 -/
def p54v0 (c33 : Int → Int → Int → Option Int) (N : Nat) (a0 : Int) (a1 : Bool) (a2 : List Int) (a3 : List Int) (a4 : List Int) : Option ((Unit × Unit) × ((Bool × Unit) × ((List Int) × ((List Int) × ((List Int) × Unit))))) :=
  bif a1 then
    match (a3)[0]? with
    | none => none
    | some x1 =>
      match (a4)[0]? with
      | none => none
      | some x2 =>
        match (a2)[0]? with
        | none => none
        | some x3 =>
          match c33 x2 x3 a0 with
          | none => none
          | some r4 =>
            bif (decide (0 < (List.length a3))) then
              some (((), ()), ((true, ()), (a2, ((List.set a3 0 (ior .u64 (ishl .u64 x1 (1 : Int)) r4)), (a4, ())))))
            else none
  else
    bif (decide (a0 < (1 : Int))) then
      match (a3)[0]? with
      | none => none
      | some x5 =>
        match (a4)[0]? with
        | none => none
        | some x6 =>
          match (a2)[0]? with
          | none => none
          | some x7 =>
            match c33 x6 x7 a0 with
            | none => none
            | some r8 =>
              bif (decide (0 < (List.length a3))) then
                some (((), ()), ((true, ()), (a2, ((List.set a3 0 (ior .u64 (ishl .u64 x5 (1 : Int)) r8)), (a4, ())))))
              else none
    else
      match (a2)[0]? with
      | none => none
      | some x9 =>
        match (a3)[0]? with
        | none => none
        | some x10 =>
          match (a4)[0]? with
          | none => none
          | some x11 =>
            match (a2)[0]? with
            | none => none
            | some x12 =>
              match c33 x11 x12 a0 with
              | none => none
              | some r13 =>
                bif (decide (0 < (List.length a3))) then
                  some (((), ()), (((decide (a0 > x9)), ()), (a2, ((List.set a3 0 (ior .u64 (ishl .u64 x10 (1 : Int)) r13)), (a4, ())))))
                else none

def L27_0 (c53 : Int → Option Bool) (d54v0 : Int → Bool → List Int → List Int → List Int → Option ((Unit × Unit) × ((Bool × Unit) × ((List Int) × ((List Int) × ((List Int) × Unit)))))) (N : Nat) (q0_0 : List Int → Bool → Option (Int × Int)) : Nat → List Int → Int → Int → List Int → Bool → List Int → List Int → Option (Int × Int)
  | 0, _, _, _, _, _, _, _ => none
  | n0 + 1, v2, v3, v4, v5, v6, v7, v8 =>
    bif (decide (v4 < v3)) then
      match geti v2 v4 with
      | none => none
      | some x9 =>
        match d54v0 x9 v6 v7 v5 v8 with
        | none => none
        | some r10 =>
          L27_0 c53 d54v0 N q0_0 n0 v2 v3 (iadd .i64 v4 (1 : Int)) r10.2.2.2.1 r10.2.1.1 r10.2.2.1 r10.2.2.2.2.1
    else
      q0_0 v5 v6
/-- euphroe/bitp.Permute -/
def p27 (c53 : Int → Option Bool) (d54v0 : Int → Bool → List Int → List Int → List Int → Option ((Unit × Unit) × ((Bool × Unit) × ((List Int) × ((List Int) × ((List Int) × Unit)))))) (N : Nat) (a0 : Int) (a1 : Int) (a2 : List Int) : Option (Int × Int) :=
  match c53 a1 with
  | none => none
  | some r1 =>
    bif (!r1) then
      some ((0 : Int), (1 : Int))
    else
      bif (decide ((((List.length a2) : Nat) : Int) > (64 : Int))) then
        some ((0 : Int), (1 : Int))
      else
        L27_0 c53 d54v0 N (fun (y11 : List Int) (y12 : Bool) =>
            bif y12 then
              some ((0 : Int), (1 : Int))
            else
              match (y11)[0]? with
              | none => none
              | some x13 =>
                some (x13, (0 : Int))) N a2 (((List.length a2) : Nat) : Int) (0 : Int) ([(0 : Int)] : List Int) false ([a1] : List Int) ([a0] : List Int)

/-- euphroe/bitp.mask -/
def p58 (N : Nat) (a0 : Int) : Option Int :=
  bif (decide ((isub .i64 (64 : Int) a0) < (0 : Int))) then
    none
  else
    some (ishr .u64 (18446744073709551615 : Int) (isub .i64 (64 : Int) a0))

/-- euphroe/bitp.Turn -/
def p29 (c53 : Int → Option Bool) (c58 : Int → Option Int) (N : Nat) (a0 : Int) (a1 : Int) (a2 : Int) : Option (Int × Int) :=
  match c53 a1 with
  | none => none
  | some r1 =>
    bif (!r1) then
      some ((0 : Int), (1 : Int))
    else
      bif (a1 == (0 : Int)) then
        none
      else
        bif (decide ((irem a2 a1) < (0 : Int))) then
          match c58 a1 with
          | none => none
          | some r2 =>
            bif (decide ((iadd .i64 (irem a2 a1) a1) < (0 : Int))) then
              none
            else
              bif (decide ((isub .i64 a1 (iadd .i64 (irem a2 a1) a1)) < (0 : Int))) then
                none
              else
                match c58 a1 with
                | none => none
                | some r3 =>
                  some ((iand .u64 (ior .u64 (ishl .u64 (iand .u64 a0 r2) (iadd .i64 (irem a2 a1) a1)) (ishr .u64 (iand .u64 a0 r2) (isub .i64 a1 (iadd .i64 (irem a2 a1) a1)))) r3), (0 : Int))
        else
          match c58 a1 with
          | none => none
          | some r4 =>
            bif (decide ((irem a2 a1) < (0 : Int))) then
              none
            else
              bif (decide ((isub .i64 a1 (irem a2 a1)) < (0 : Int))) then
                none
              else
                match c58 a1 with
                | none => none
                | some r5 =>
                  some ((iand .u64 (ior .u64 (ishl .u64 (iand .u64 a0 r4) (irem a2 a1)) (ishr .u64 (iand .u64 a0 r4) (isub .i64 a1 (irem a2 a1)))) r5), (0 : Int))

/-- math/bits.OnesCount8 -/
def p52 (N : Nat) (a0 : Int) : Option Int :=
  match geti ([(0 : UInt8), (1 : UInt8), (1 : UInt8), (2 : UInt8), (1 : UInt8), (2 : UInt8), (2 : UInt8), (3 : UInt8), (1 : UInt8), (2 : UInt8), (2 : UInt8), (3 : UInt8), (2 : UInt8), (3 : UInt8), (3 : UInt8), (4 : UInt8), (1 : UInt8), (2 : UInt8), (2 : UInt8), (3 : UInt8), (2 : UInt8), (3 : UInt8), (3 : UInt8), (4 : UInt8), (2 : UInt8), (3 : UInt8), (3 : UInt8), (4 : UInt8), (3 : UInt8), (4 : UInt8), (4 : UInt8), (5 : UInt8), (1 : UInt8), (2 : UInt8), (2 : UInt8), (3 : UInt8), (2 : UInt8), (3 : UInt8), (3 : UInt8), (4 : UInt8), (2 : UInt8), (3 : UInt8), (3 : UInt8), (4 : UInt8), (3 : UInt8), (4 : UInt8), (4 : UInt8), (5 : UInt8), (2 : UInt8), (3 : UInt8), (3 : UInt8), (4 : UInt8), (3 : UInt8), (4 : UInt8), (4 : UInt8), (5 : UInt8), (3 : UInt8), (4 : UInt8), (4 : UInt8), (5 : UInt8), (4 : UInt8), (5 : UInt8), (5 : UInt8), (6 : UInt8), (1 : UInt8), (2 : UInt8), (2 : UInt8), (3 : UInt8), (2 : UInt8), (3 : UInt8), (3 : UInt8), (4 : UInt8), (2 : UInt8), (3 : UInt8), (3 : UInt8), (4 : UInt8), (3 : UInt8), (4 : UInt8), (4 : UInt8), (5 : UInt8), (2 : UInt8), (3 : UInt8), (3 : UInt8), (4 : UInt8), (3 : UInt8), (4 : UInt8), (4 : UInt8), (5 : UInt8), (3 : UInt8), (4 : UInt8), (4 : UInt8), (5 : UInt8), (4 : UInt8), (5 : UInt8), (5 : UInt8), (6 : UInt8), (2 : UInt8), (3 : UInt8), (3 : UInt8), (4 : UInt8), (3 : UInt8), (4 : UInt8), (4 : UInt8), (5 : UInt8), (3 : UInt8), (4 : UInt8), (4 : UInt8), (5 : UInt8), (4 : UInt8), (5 : UInt8), (5 : UInt8), (6 : UInt8), (3 : UInt8), (4 : UInt8), (4 : UInt8), (5 : UInt8), (4 : UInt8), (5 : UInt8), (5 : UInt8), (6 : UInt8), (4 : UInt8), (5 : UInt8), (5 : UInt8), (6 : UInt8), (5 : UInt8), (6 : UInt8), (6 : UInt8), (7 : UInt8), (1 : UInt8), (2 : UInt8), (2 : UInt8), (3 : UInt8), (2 : UInt8), (3 : UInt8), (3 : UInt8), (4 : UInt8), (2 : UInt8), (3 : UInt8), (3 : UInt8), (4 : UInt8), (3 : UInt8), (4 : UInt8), (4 : UInt8), (5 : UInt8), (2 : UInt8), (3 : UInt8), (3 : UInt8), (4 : UInt8), (3 : UInt8), (4 : UInt8), (4 : UInt8), (5 : UInt8), (3 : UInt8), (4 : UInt8), (4 : UInt8), (5 : UInt8), (4 : UInt8), (5 : UInt8), (5 : UInt8), (6 : UInt8), (2 : UInt8), (3 : UInt8), (3 : UInt8), (4 : UInt8), (3 : UInt8), (4 : UInt8), (4 : UInt8), (5 : UInt8), (3 : UInt8), (4 : UInt8), (4 : UInt8), (5 : UInt8), (4 : UInt8), (5 : UInt8), (5 : UInt8), (6 : UInt8), (3 : UInt8), (4 : UInt8), (4 : UInt8), (5 : UInt8), (4 : UInt8), (5 : UInt8), (5 : UInt8), (6 : UInt8), (4 : UInt8), (5 : UInt8), (5 : UInt8), (6 : UInt8), (5 : UInt8), (6 : UInt8), (6 : UInt8), (7 : UInt8), (2 : UInt8), (3 : UInt8), (3 : UInt8), (4 : UInt8), (3 : UInt8), (4 : UInt8), (4 : UInt8), (5 : UInt8), (3 : UInt8), (4 : UInt8), (4 : UInt8), (5 : UInt8), (4 : UInt8), (5 : UInt8), (5 : UInt8), (6 : UInt8), (3 : UInt8), (4 : UInt8), (4 : UInt8), (5 : UInt8), (4 : UInt8), (5 : UInt8), (5 : UInt8), (6 : UInt8), (4 : UInt8), (5 : UInt8), (5 : UInt8), (6 : UInt8), (5 : UInt8), (6 : UInt8), (6 : UInt8), (7 : UInt8), (3 : UInt8), (4 : UInt8), (4 : UInt8), (5 : UInt8), (4 : UInt8), (5 : UInt8), (5 : UInt8), (6 : UInt8), (4 : UInt8), (5 : UInt8), (5 : UInt8), (6 : UInt8), (5 : UInt8), (6 : UInt8), (6 : UInt8), (7 : UInt8), (4 : UInt8), (5 : UInt8), (5 : UInt8), (6 : UInt8), (5 : UInt8), (6 : UInt8), (6 : UInt8), (7 : UInt8), (5 : UInt8), (6 : UInt8), (6 : UInt8), (7 : UInt8), (6 : UInt8), (7 : UInt8), (7 : UInt8), (8 : UInt8)] : List UInt8) a0 with
  | none => none
  | some x1 =>
    some (IntKind.wrap .i64 ((UInt8.toNat x1 : Nat) : Int))

/-- euphroe/bitp.Odd -/
def p25 (c52 : Int → Option Int) (N : Nat) (a0 : Int) : Option Int :=
  match c52 (ishr .u8 a0 (1 : Int)) with
  | none => none
  | some r1 =>
    some (ior .u8 (iandn .u8 a0 (1 : Int)) (IntKind.wrap .u8 (isub .i64 (1 : Int) (iand .i64 r1 (1 : Int)))))

def L24_0 (c25 : Int → Option Int) (N : Nat) (q0_0 : Int → Option ((List Int) × Int)) : Nat → Int → List Int → Int → Int → Option ((List Int) × Int)
  | 0, _, _, _, _ => none
  | n0 + 1, v1, v2, v3, v4 =>
    bif (decide (v4 < v3)) then
      match geti v2 v4 with
      | none => none
      | some x5 =>
        L24_0 c25 N q0_0 n0 (ior .u64 (ishl .u64 v1 (8 : Int)) (IntKind.wrap .u64 x5)) v2 v3 (iadd .i64 v4 (1 : Int))
    else
      q0_0 v1
def L24_1 (c25 : Int → Option Int) (N : Nat) (q1_2 : Nat → Nat → List Int → Option ((List Int) × Int)) : Nat → Int → Nat → Nat → Int → Int → List Int → Option ((List Int) × Int)
  | 0, _, _, _, _, _, _ => none
  | n1 + 1, v7, v8, v9, v10, v11, v12 =>
    bif (decide (v11 < v10)) then
      bif (decide ((imul .i64 (7 : Int) (isub .i64 (7 : Int) v11)) < (0 : Int))) then
        none
      else
        match c25 (IntKind.wrap .u8 (ishl .u64 (ishr .u64 v7 (imul .i64 (7 : Int) (isub .i64 (7 : Int) v11))) (1 : Int))) with
        | none => none
        | some r13 =>
          bif ((decide ((0 : Int) ≤ v11)) && (decide (v11 < ((v8 : Nat) : Int)))) then
            bif (decide ((0 + ((Int.toNat v11) * 1)) < (List.length v12))) then
              L24_1 c25 N q1_2 n1 v7 v8 v9 v10 (iadd .i64 v11 (1 : Int)) (List.set v12 (0 + ((Int.toNat v11) * 1)) r13)
            else none
          else none
    else
      q1_2 v8 v9 v12
/-- euphroe/bitp.Spread -/
def p24 (c25 : Int → Option Int) (N : Nat) (a0 : List Int) : Option ((List Int) × Int) :=
  bif ((((List.length a0) : Nat) : Int) != (7 : Int)) then
    some (([] : List Int), (1 : Int))
  else
    L24_0 c25 N (fun (y6 : Int) =>
        L24_1 c25 N (fun (y14 : Nat) (y15 : Nat) (y16 : List Int) =>
            bif (decide ((0 + (y14 * 1)) ≤ (List.length y16))) then
              some ((List.take y14 (List.drop 0 y16)), (0 : Int))
            else none) N y6 8 8 (8 : Int) (0 : Int) ([(0 : Int), (0 : Int), (0 : Int), (0 : Int), (0 : Int), (0 : Int), (0 : Int), (0 : Int)] : List Int)) N (0 : Int) a0 (((List.length a0) : Nat) : Int) (0 : Int)

/-- euphroe/euphroelaw03.alive -/
def p26 (c27 : Int → Int → List Int → Option (Int × Int)) (c29 : Int → Int → Int → Option (Int × Int)) (c24 : List Int → Option ((List Int) × Int)) (c33 : Int → Int → Int → Option Int) (c25 : Int → Option Int) (N : Nat)  : Option Bool :=
  match c27 (2 : Int) (2 : Int) ([(2 : Int), (1 : Int)] : List Int) with
  | none => none
  | some r1 =>
    match c29 (1 : Int) (4 : Int) (-1 : Int) with
    | none => none
    | some r2 =>
      match c24 ([(0 : Int), (0 : Int), (0 : Int), (0 : Int), (0 : Int), (0 : Int), (0 : Int)] : List Int) with
      | none => none
      | some r3 =>
        bif (r1.1 == (1 : Int)) then
          bif (r1.2 == (0 : Int)) then
            bif (r2.1 == (8 : Int)) then
              bif (r2.2 == (0 : Int)) then
                bif ((((List.length r3.1) : Nat) : Int) == (8 : Int)) then
                  match geti r3.1 (0 : Int) with
                  | none => none
                  | some x4 =>
                    bif (x4 == (1 : Int)) then
                      bif (r3.2 == (0 : Int)) then
                        match c33 (8 : Int) (4 : Int) (1 : Int) with
                        | none => none
                        | some r5 =>
                          bif (r5 == (1 : Int)) then
                            match c25 (3 : Int) with
                            | none => none
                            | some r6 =>
                              some (r6 == (2 : Int))
                          else
                            some false
                      else
                        some false
                    else
                      some false
                else
                  some false
              else
                some false
            else
              some false
          else
            some false
        else
          some false

/-- euphroe/euphroeref03.wide -/
def p55 (N : Nat) (a0 : Int) : Option Bool :=
  bif (decide (a0 ≥ (1 : Int))) then
    some (decide (a0 ≤ (64 : Int)))
  else
    some false

def L56_0 (N : Nat) (q0_0 : Nat → Nat → List Int → Option (List Int)) : Nat → Int → Nat → Nat → Int → List Int → Option (List Int)
  | 0, _, _, _, _, _ => none
  | n0 + 1, v1, v2, v3, v4, v5 =>
    bif (decide (v4 ≥ (0 : Int))) then
      bif ((decide ((0 : Int) ≤ v4)) && (decide (v4 < ((v2 : Nat) : Int)))) then
        bif (decide ((0 + ((Int.toNat v4) * 1)) < (List.length v5))) then
          L56_0 N q0_0 n0 (iquo .u64 v1 (2 : Int)) v2 v3 (isub .i64 v4 (1 : Int)) (List.set v5 (0 + ((Int.toNat v4) * 1)) (IntKind.wrap .u8 (irem v1 (2 : Int))))
        else none
      else none
    else
      q0_0 v2 v3 v5
/-- euphroe/euphroeref03.Row -/
def p56 (N : Nat) (a0 : Int) (a1 : Int) : Option (List Int) :=
  bif ((decide ((0 : Int) ≤ a1)) && ((decide (a1 ≤ a1)) && ((decide ((a1 * ((1 : Nat) : Int)) ≤ (1099511627776 : Int))) && (decide (a1 ≤ (1099511627776 : Int)))))) then
    L56_0 N (fun (y6 : Nat) (y7 : Nat) (y8 : List Int) =>
        bif (decide ((0 + (y6 * 1)) ≤ (List.length y8))) then
          some (List.take y6 (List.drop 0 y8))
        else none) N a0 (Int.toNat a1) (Int.toNat a1) (isub .i64 a1 (1 : Int)) (List.replicate (Int.toNat a1) (0 : Int))
  else none

def L57_0 (N : Nat) (q0_0 : Int → Option Int) : Nat → List Int → Int → Int → Option Int
  | 0, _, _, _ => none
  | n0 + 1, v1, v2, v3 =>
    bif (decide (v3 < (((List.length v1) : Nat) : Int))) then
      match geti v1 v3 with
      | none => none
      | some x4 =>
        L57_0 N q0_0 n0 v1 (iadd .u64 (imul .u64 (2 : Int) v2) (IntKind.wrap .u64 x4)) (iadd .i64 v3 (1 : Int))
    else
      q0_0 v2
/-- euphroe/euphroeref03.Word -/
def p57 (N : Nat) (a0 : List Int) : Option Int :=
  L57_0 N (fun (y5 : Int) =>
      some y5) N a0 (0 : Int) (0 : Int)

def L28_0 (c55 : Int → Option Bool) (c56 : Int → Int → Option (List Int)) (c57 : List Int → Option Int) (N : Nat) (q0_0 : Nat → List Int → Option (Int × Int)) : Nat → Int → List Int → List Int → Nat → Int → List Int → Option (Int × Int)
  | 0, _, _, _, _, _, _ => none
  | n0 + 1, v3, v4, v5, v6, v7, v8 =>
    bif (decide (v7 < (((List.length v4) : Nat) : Int))) then
      match geti v4 v7 with
      | none => none
      | some x9 =>
        bif (decide (x9 < (1 : Int))) then
          some ((0 : Int), (1 : Int))
        else
          match geti v4 v7 with
          | none => none
          | some x10 =>
            bif (decide (x10 > v3)) then
              some ((0 : Int), (1 : Int))
            else
              match geti v4 v7 with
              | none => none
              | some x11 =>
                match geti v5 (isub .i64 x11 (1 : Int)) with
                | none => none
                | some x12 =>
                  bif (((List.length v8) == (v6 * 1)) && ((decide (((v6 + 1) * 1) ≤ 1099511627776)) && (decide ((v6 + 1) ≤ 1099511627776)))) then
                    L28_0 c55 c56 c57 N q0_0 n0 v3 v4 v5 (v6 + 1) (iadd .i64 v7 (1 : Int)) (v8 ++ [x12])
                  else none
    else
      q0_0 v6 v8
/-- euphroe/euphroeref03.Permute -/
def p28 (c55 : Int → Option Bool) (c56 : Int → Int → Option (List Int)) (c57 : List Int → Option Int) (N : Nat) (a0 : Int) (a1 : Int) (a2 : List Int) : Option (Int × Int) :=
  match c55 a1 with
  | none => none
  | some r1 =>
    bif (!r1) then
      some ((0 : Int), (1 : Int))
    else
      bif (decide ((((List.length a2) : Nat) : Int) > (64 : Int))) then
        some ((0 : Int), (1 : Int))
      else
        match c56 a0 a1 with
        | none => none
        | some r2 =>
          L28_0 c55 c56 c57 N (fun (y13 : Nat) (y14 : List Int) =>
              bif (decide ((0 + (y13 * 1)) ≤ (List.length y14))) then
                match c57 (List.take y13 (List.drop 0 y14)) with
                | none => none
                | some r15 =>
                  some (r15, (0 : Int))
              else none) N a1 a2 r2 0 (0 : Int) ([] : List Int)

/-- euphroe/euphroeref03.Turn -/
def p30 (c55 : Int → Option Bool) (c56 : Int → Int → Option (List Int)) (c57 : List Int → Option Int) (N : Nat) (a0 : Int) (a1 : Int) (a2 : Int) : Option (Int × Int) :=
  match c55 a1 with
  | none => none
  | some r1 =>
    bif (!r1) then
      some ((0 : Int), (1 : Int))
    else
      bif (a1 == (0 : Int)) then
        none
      else
        bif (a1 == (0 : Int)) then
          none
        else
          match c56 a0 a1 with
          | none => none
          | some r2 =>
            bif ((decide ((0 : Int) ≤ (irem (iadd .i64 (irem a2 a1) a1) a1))) && (decide ((irem (iadd .i64 (irem a2 a1) a1) a1) ≤ (((List.length r2) : Nat) : Int)))) then
              bif ((decide (((List.length (List.drop (Int.toNat (irem (iadd .i64 (irem a2 a1) a1) a1)) r2)) * 1) ≤ 1099511627776)) && (decide ((List.length (List.drop (Int.toNat (irem (iadd .i64 (irem a2 a1) a1) a1)) r2)) ≤ 1099511627776))) then
                bif ((decide ((0 : Int) ≤ (irem (iadd .i64 (irem a2 a1) a1) a1))) && (decide ((irem (iadd .i64 (irem a2 a1) a1) a1) ≤ (((List.length r2) : Nat) : Int)))) then
                  bif (((List.length (List.drop (Int.toNat (irem (iadd .i64 (irem a2 a1) a1) a1)) r2)) == ((List.length (List.drop (Int.toNat (irem (iadd .i64 (irem a2 a1) a1) a1)) r2)) * 1)) && ((decide ((((List.length (List.drop (Int.toNat (irem (iadd .i64 (irem a2 a1) a1) a1)) r2)) + (List.length (List.take (Int.toNat (irem (iadd .i64 (irem a2 a1) a1) a1)) r2))) * 1) ≤ 1099511627776)) && (decide (((List.length (List.drop (Int.toNat (irem (iadd .i64 (irem a2 a1) a1) a1)) r2)) + (List.length (List.take (Int.toNat (irem (iadd .i64 (irem a2 a1) a1) a1)) r2))) ≤ 1099511627776)))) then
                    bif (decide ((0 + (((List.length (List.drop (Int.toNat (irem (iadd .i64 (irem a2 a1) a1) a1)) r2)) + (List.length (List.take (Int.toNat (irem (iadd .i64 (irem a2 a1) a1) a1)) r2))) * 1)) ≤ (List.length ((List.drop (Int.toNat (irem (iadd .i64 (irem a2 a1) a1) a1)) r2) ++ (List.take (Int.toNat (irem (iadd .i64 (irem a2 a1) a1) a1)) r2))))) then
                      match c57 (List.take ((List.length (List.drop (Int.toNat (irem (iadd .i64 (irem a2 a1) a1) a1)) r2)) + (List.length (List.take (Int.toNat (irem (iadd .i64 (irem a2 a1) a1) a1)) r2))) (List.drop 0 ((List.drop (Int.toNat (irem (iadd .i64 (irem a2 a1) a1) a1)) r2) ++ (List.take (Int.toNat (irem (iadd .i64 (irem a2 a1) a1) a1)) r2)))) with
                      | none => none
                      | some r3 =>
                        some (r3, (0 : Int))
                    else none
                  else none
                else none
              else none
            else none

/-- euphroe/bitp.Split -/
def p31 (c53 : Int → Option Bool) (c58 : Int → Option Int) (N : Nat) (a0 : Int) (a1 : Int) (a2 : Int) : Option (Int × Int × Int) :=
  match c53 a1 with
  | none => none
  | some r1 =>
    bif (!r1) then
      some ((0 : Int), ((0 : Int), (1 : Int)))
    else
      bif (decide (a2 < (0 : Int))) then
        some ((0 : Int), ((0 : Int), (1 : Int)))
      else
        bif (decide (a2 > a1)) then
          some ((0 : Int), ((0 : Int), (1 : Int)))
        else
          match c58 a1 with
          | none => none
          | some r2 =>
            bif (decide ((isub .i64 a1 a2) < (0 : Int))) then
              none
            else
              bif (decide ((isub .i64 a1 a2) < (0 : Int))) then
                none
              else
                bif (decide ((isub .i64 a1 a2) < (0 : Int))) then
                  none
                else
                  some ((ishr .u64 (iand .u64 a0 r2) (isub .i64 a1 a2)), ((iandn .u64 (iand .u64 a0 r2) (ishl .u64 (ishr .u64 (iand .u64 a0 r2) (isub .i64 a1 a2)) (isub .i64 a1 a2))), (0 : Int)))

/-- euphroe/euphroeref03.Split -/
def p32 (c55 : Int → Option Bool) (c56 : Int → Int → Option (List Int)) (c57 : List Int → Option Int) (N : Nat) (a0 : Int) (a1 : Int) (a2 : Int) : Option (Int × Int × Int) :=
  match c55 a1 with
  | none => none
  | some r1 =>
    bif (!r1) then
      some ((0 : Int), ((0 : Int), (1 : Int)))
    else
      bif (decide (a2 < (0 : Int))) then
        some ((0 : Int), ((0 : Int), (1 : Int)))
      else
        bif (decide (a2 > a1)) then
          some ((0 : Int), ((0 : Int), (1 : Int)))
        else
          match c56 a0 a1 with
          | none => none
          | some r2 =>
            bif ((decide ((0 : Int) ≤ a2)) && (decide (a2 ≤ (((List.length r2) : Nat) : Int)))) then
              match c57 (List.take (Int.toNat a2) r2) with
              | none => none
              | some r3 =>
                bif ((decide ((0 : Int) ≤ a2)) && (decide (a2 ≤ (((List.length r2) : Nat) : Int)))) then
                  match c57 (List.drop (Int.toNat a2) r2) with
                  | none => none
                  | some r4 =>
                    some (r3, (r4, (0 : Int)))
                else none
            else none

/-- euphroe/euphroeref03.Bit -/
def p34 (c55 : Int → Option Bool) (c56 : Int → Int → Option (List Int)) (N : Nat) (a0 : Int) (a1 : Int) (a2 : Int) : Option Int :=
  match c55 a1 with
  | none => none
  | some r1 =>
    bif (!r1) then
      some (0 : Int)
    else
      bif (decide (a2 < (1 : Int))) then
        some (0 : Int)
      else
        bif (decide (a2 > a1)) then
          some (0 : Int)
        else
          match c56 a0 a1 with
          | none => none
          | some r2 =>
            match geti r2 (isub .i64 a2 (1 : Int)) with
            | none => none
            | some x3 =>
              some (IntKind.wrap .u64 x3)

/-- euphroe/euphroelaw03.BitpWords -/
def p12 (c26 : Option Bool) (c27 : Int → Int → List Int → Option (Int × Int)) (c28 : Int → Int → List Int → Option (Int × Int)) (c29 : Int → Int → Int → Option (Int × Int)) (c30 : Int → Int → Int → Option (Int × Int)) (c31 : Int → Int → Int → Option (Int × Int × Int)) (c32 : Int → Int → Int → Option (Int × Int × Int)) (c33 : Int → Int → Int → Option Int) (c34 : Int → Int → Int → Option Int) (N : Nat) (a0 : Int) (a1 : List Int) (a2 : List Int) : Option Bool :=
  bif (decide ((((List.length a2) : Nat) : Int) > (200 : Int))) then
    match c26 with
    | none => none
    | some r1 =>
      some r1
  else
    match (a1)[0]? with
    | none => none
    | some x2 =>
      match (a1)[1]? with
      | none => none
      | some x3 =>
        match (a1)[2]? with
        | none => none
        | some x4 =>
          match c27 a0 x2 a2 with
          | none => none
          | some r5 =>
            match c28 a0 x2 a2 with
            | none => none
            | some r6 =>
              match c29 a0 x2 x3 with
              | none => none
              | some r7 =>
                match c30 a0 x2 x3 with
                | none => none
                | some r8 =>
                  match c31 a0 x2 x4 with
                  | none => none
                  | some r9 =>
                    match c32 a0 x2 x4 with
                    | none => none
                    | some r10 =>
                      bif (r5.1 == r6.1) then
                        bif (r5.2 == r6.2) then
                          bif (r7.1 == r8.1) then
                            bif (r7.2 == r8.2) then
                              bif (r9.1 == r10.1) then
                                bif (r9.2.1 == r10.2.1) then
                                  bif (r9.2.2 == r10.2.2) then
                                    match c33 a0 x2 x4 with
                                    | none => none
                                    | some r11 =>
                                      match c34 a0 x2 x4 with
                                      | none => none
                                      | some r12 =>
                                        bif (r11 == r12) then
                                          match c26 with
                                          | none => none
                                          | some r13 =>
                                            some r13
                                        else
                                          some false
                                  else
                                    some false
                                else
                                  some false
                              else
                                some false
                            else
                              some false
                          else
                            some false
                        else
                          some false
                      else
                        some false

/-- euphroe/euphroelaw03.a0 -/
def p35 (N : Nat) (a0 : Int) (a1 : Int) : Option Int :=
  bif (decide (a1 ≥ (64 : Int))) then
    some a0
  else
    bif (decide (a1 < (0 : Int))) then
      none
    else
      bif ((ishl .u64 (1 : Int) a1) == (0 : Int)) then
        none
      else
        some (irem a0 (ishl .u64 (1 : Int) a1))

/-- euphroe/euphroelaw03.BitpTurns -/
def p13 (c29 : Int → Int → Int → Option (Int × Int)) (c26 : Option Bool) (c31 : Int → Int → Int → Option (Int × Int × Int)) (c35 : Int → Int → Option Int) (N : Nat) (a0 : Int) (a1 : Int) (a2 : List Int) : Option Bool :=
  match (a2)[0]? with
  | none => none
  | some x1 =>
    match c29 a0 a1 (IntKind.wrap .i64 x1) with
    | none => none
    | some r2 =>
      match (a2)[1]? with
      | none => none
      | some x3 =>
        match c29 r2.1 a1 (IntKind.wrap .i64 x3) with
        | none => none
        | some r4 =>
          match (a2)[0]? with
          | none => none
          | some x5 =>
            match (a2)[1]? with
            | none => none
            | some x6 =>
              match c29 a0 a1 (iadd .i64 (IntKind.wrap .i64 x5) (IntKind.wrap .i64 x6)) with
              | none => none
              | some r7 =>
                bif (r2.2 != (0 : Int)) then
                  bif (r4.2 != (0 : Int)) then
                    bif (r7.2 != (0 : Int)) then
                      bif ((iadd .u64 (iadd .u64 r2.1 r4.1) r7.1) == (0 : Int)) then
                        match c26 with
                        | none => none
                        | some r8 =>
                          some r8
                      else
                        some false
                    else
                      some false
                  else
                    some false
                else
                  match (a2)[0]? with
                  | none => none
                  | some x9 =>
                    match c31 a0 a1 (iand .i64 (IntKind.wrap .i64 x9) (63 : Int)) with
                    | none => none
                    | some r10 =>
                      bif (r4.1 == r7.1) then
                        bif (r4.2 == (0 : Int)) then
                          bif (r7.2 == (0 : Int)) then
                            bif ((r10.2.2 != (0 : Int)) == (decide ((iand .i64 (IntKind.wrap .i64 x9) (63 : Int)) > a1))) then
                              bif (r10.2.2 != (0 : Int)) then
                                match c26 with
                                | none => none
                                | some r11 =>
                                  some r11
                              else
                                bif ((isub .i64 a1 (iand .i64 (IntKind.wrap .i64 x9) (63 : Int))) == (64 : Int)) then
                                  bif (r10.2.1 == a0) then
                                    match c26 with
                                    | none => none
                                    | some r12 =>
                                      some r12
                                  else
                                    bif (decide ((isub .i64 a1 (iand .i64 (IntKind.wrap .i64 x9) (63 : Int))) < (64 : Int))) then
                                      bif (decide ((isub .i64 a1 (iand .i64 (IntKind.wrap .i64 x9) (63 : Int))) < (0 : Int))) then
                                        none
                                      else
                                        match c35 a0 a1 with
                                        | none => none
                                        | some r13 =>
                                          bif ((ior .u64 (ishl .u64 r10.1 (isub .i64 a1 (iand .i64 (IntKind.wrap .i64 x9) (63 : Int)))) r10.2.1) == r13) then
                                            match c26 with
                                            | none => none
                                            | some r14 =>
                                              some r14
                                          else
                                            some false
                                    else
                                      some false
                                else
                                  bif (decide ((isub .i64 a1 (iand .i64 (IntKind.wrap .i64 x9) (63 : Int))) < (64 : Int))) then
                                    bif (decide ((isub .i64 a1 (iand .i64 (IntKind.wrap .i64 x9) (63 : Int))) < (0 : Int))) then
                                      none
                                    else
                                      match c35 a0 a1 with
                                      | none => none
                                      | some r15 =>
                                        bif ((ior .u64 (ishl .u64 r10.1 (isub .i64 a1 (iand .i64 (IntKind.wrap .i64 x9) (63 : Int)))) r10.2.1) == r15) then
                                          match c26 with
                                          | none => none
                                          | some r16 =>
                                            some r16
                                        else
                                          some false
                                  else
                                    some false
                            else
                              some false
                          else
                            some false
                        else
                          some false
                      else
                        some false

def L39_0 (N : Nat) (q0_0 : Int → Int → Option Int) : Nat → Int → Int → Int → Option Int
  | 0, _, _, _ => none
  | n0 + 1, v1, v2, v3 =>
    bif (decide (v3 < (8 : Int))) then
      bif (decide (v3 < (0 : Int))) then
        none
      else
        L39_0 N q0_0 n0 v1 (iadd .u8 v2 (irem (ishr .u8 v1 v3) (2 : Int))) (iadd .i64 v3 (1 : Int))
    else
      q0_0 v1 v2
/-- euphroe/euphroeref03.Odd -/
def p39 (N : Nat) (a0 : Int) : Option Int :=
  L39_0 N (fun (y4 : Int) (y5 : Int) =>
      some (iadd .u8 (isub .u8 y4 (irem y4 (2 : Int))) (irem (iadd .u8 y5 (1 : Int)) (2 : Int)))) N a0 (0 : Int) (1 : Int)

def L36_0 (c56 : Int → Int → Option (List Int)) (c57 : List Int → Option Int) (c39 : Int → Option Int) (N : Nat) (q0_0 : Nat → List Int → Option ((List Int) × Int)) : Nat → List Int → Nat → Int → List Int → Option ((List Int) × Int)
  | 0, _, _, _, _ => none
  | n0 + 1, v1, v2, v3, v4 =>
    bif (decide (v3 < (7 : Int))) then
      match geti v1 v3 with
      | none => none
      | some x5 =>
        match c56 (IntKind.wrap .u64 x5) (8 : Int) with
        | none => none
        | some r6 =>
          bif (((List.length v4) == (v2 * 1)) && ((decide (((v2 + (List.length r6)) * 1) ≤ 1099511627776)) && (decide ((v2 + (List.length r6)) ≤ 1099511627776)))) then
            L36_0 c56 c57 c39 N q0_0 n0 v1 (v2 + (List.length r6)) (iadd .i64 v3 (1 : Int)) (v4 ++ r6)
          else none
    else
      q0_0 v2 v4
def L36_1 (c56 : Int → Int → Option (List Int)) (c57 : List Int → Option Int) (c39 : Int → Option Int) (N : Nat) (q1_2 : Nat → List Int → Option ((List Int) × Int)) : Nat → Nat → Nat → Int → List Int → List Int → Option ((List Int) × Int)
  | 0, _, _, _, _, _ => none
  | n1 + 1, v9, v10, v11, v12, v13 =>
    bif (decide (v11 < (8 : Int))) then
      bif ((decide ((0 : Int) ≤ (iadd .i64 (imul .i64 (7 : Int) v11) (7 : Int)))) && (decide ((iadd .i64 (imul .i64 (7 : Int) v11) (7 : Int)) ≤ ((v9 : Nat) : Int)))) then
        bif ((decide ((0 : Int) ≤ (imul .i64 (7 : Int) v11))) && (decide ((imul .i64 (7 : Int) v11) ≤ (((Int.toNat (iadd .i64 (imul .i64 (7 : Int) v11) (7 : Int))) : Nat) : Int)))) then
          bif (decide (((0 + ((Int.toNat (imul .i64 (7 : Int) v11)) * 1)) + (((Int.toNat (iadd .i64 (imul .i64 (7 : Int) v11) (7 : Int))) - (Int.toNat (imul .i64 (7 : Int) v11))) * 1)) ≤ (List.length v12))) then
            match c57 (List.take ((Int.toNat (iadd .i64 (imul .i64 (7 : Int) v11) (7 : Int))) - (Int.toNat (imul .i64 (7 : Int) v11))) (List.drop (0 + ((Int.toNat (imul .i64 (7 : Int) v11)) * 1)) v12)) with
            | none => none
            | some r14 =>
              match c39 (IntKind.wrap .u8 (imul .u64 (2 : Int) r14)) with
              | none => none
              | some r15 =>
                bif (((List.length v13) == (v10 * 1)) && ((decide (((v10 + 1) * 1) ≤ 1099511627776)) && (decide ((v10 + 1) ≤ 1099511627776)))) then
                  L36_1 c56 c57 c39 N q1_2 n1 v9 (v10 + 1) (iadd .i64 v11 (1 : Int)) v12 (v13 ++ [r15])
                else none
          else none
        else none
      else none
    else
      q1_2 v10 v13
/-- euphroe/euphroeref03.Spread -/
def p36 (c56 : Int → Int → Option (List Int)) (c57 : List Int → Option Int) (c39 : Int → Option Int) (N : Nat) (a0 : List Int) : Option ((List Int) × Int) :=
  bif ((((List.length a0) : Nat) : Int) != (7 : Int)) then
    some (([] : List Int), (1 : Int))
  else
    L36_0 c56 c57 c39 N (fun (y7 : Nat) (y8 : List Int) =>
        L36_1 c56 c57 c39 N (fun (y16 : Nat) (y17 : List Int) =>
            bif (decide ((0 + (y16 * 1)) ≤ (List.length y17))) then
              some ((List.take y16 (List.drop 0 y17)), (0 : Int))
            else none) N y7 0 (0 : Int) y8 ([] : List Int)) N a0 0 (0 : Int) ([] : List Int)

def L37_0 (N : Nat) (q0_0 : Int → Option ((List Int) × Int)) : Nat → Int → List Int → Int → Int → Option ((List Int) × Int)
  | 0, _, _, _, _ => none
  | n0 + 1, v1, v2, v3, v4 =>
    bif (decide (v4 < v3)) then
      match geti v2 v4 with
      | none => none
      | some x5 =>
        L37_0 N q0_0 n0 (ior .u64 (ishl .u64 v1 (7 : Int)) (IntKind.wrap .u64 (ishr .u8 x5 (1 : Int)))) v2 v3 (iadd .i64 v4 (1 : Int))
    else
      q0_0 v1
def L37_1 (N : Nat) (q1_2 : Nat → Nat → List Int → Option ((List Int) × Int)) : Nat → Int → Nat → Nat → Int → Int → List Int → Option ((List Int) × Int)
  | 0, _, _, _, _, _, _ => none
  | n1 + 1, v7, v8, v9, v10, v11, v12 =>
    bif (decide (v11 < v10)) then
      bif (decide ((imul .i64 (8 : Int) (isub .i64 (6 : Int) v11)) < (0 : Int))) then
        none
      else
        bif ((decide ((0 : Int) ≤ v11)) && (decide (v11 < ((v8 : Nat) : Int)))) then
          bif (decide ((0 + ((Int.toNat v11) * 1)) < (List.length v12))) then
            L37_1 N q1_2 n1 v7 v8 v9 v10 (iadd .i64 v11 (1 : Int)) (List.set v12 (0 + ((Int.toNat v11) * 1)) (IntKind.wrap .u8 (ishr .u64 v7 (imul .i64 (8 : Int) (isub .i64 (6 : Int) v11)))))
          else none
        else none
    else
      q1_2 v8 v9 v12
/-- euphroe/bitp.Gather -/
def p37 (N : Nat) (a0 : List Int) : Option ((List Int) × Int) :=
  bif ((((List.length a0) : Nat) : Int) != (8 : Int)) then
    some (([] : List Int), (1 : Int))
  else
    L37_0 N (fun (y6 : Int) =>
        L37_1 N (fun (y13 : Nat) (y14 : Nat) (y15 : List Int) =>
            bif (decide ((0 + (y13 * 1)) ≤ (List.length y15))) then
              some ((List.take y13 (List.drop 0 y15)), (0 : Int))
            else none) N y6 7 7 (7 : Int) (0 : Int) ([(0 : Int), (0 : Int), (0 : Int), (0 : Int), (0 : Int), (0 : Int), (0 : Int)] : List Int)) N (0 : Int) a0 (((List.length a0) : Nat) : Int) (0 : Int)

def L38_0 (c56 : Int → Int → Option (List Int)) (c57 : List Int → Option Int) (N : Nat) (q0_0 : Nat → List Int → Option ((List Int) × Int)) : Nat → List Int → Nat → Int → List Int → Option ((List Int) × Int)
  | 0, _, _, _, _ => none
  | n0 + 1, v1, v2, v3, v4 =>
    bif (decide (v3 < (8 : Int))) then
      match geti v1 v3 with
      | none => none
      | some x5 =>
        match c56 (IntKind.wrap .u64 x5) (8 : Int) with
        | none => none
        | some r6 =>
          bif (decide ((7 : Int) ≤ (((List.length r6) : Nat) : Int))) then
            bif (((List.length v4) == (v2 * 1)) && ((decide (((v2 + (List.length (List.take 7 r6))) * 1) ≤ 1099511627776)) && (decide ((v2 + (List.length (List.take 7 r6))) ≤ 1099511627776)))) then
              L38_0 c56 c57 N q0_0 n0 v1 (v2 + (List.length (List.take 7 r6))) (iadd .i64 v3 (1 : Int)) (v4 ++ (List.take 7 r6))
            else none
          else none
    else
      q0_0 v2 v4
def L38_1 (c56 : Int → Int → Option (List Int)) (c57 : List Int → Option Int) (N : Nat) (q1_2 : Nat → List Int → Option ((List Int) × Int)) : Nat → Nat → Nat → Int → List Int → List Int → Option ((List Int) × Int)
  | 0, _, _, _, _, _ => none
  | n1 + 1, v9, v10, v11, v12, v13 =>
    bif (decide (v11 < (7 : Int))) then
      bif ((decide ((0 : Int) ≤ (iadd .i64 (imul .i64 (8 : Int) v11) (8 : Int)))) && (decide ((iadd .i64 (imul .i64 (8 : Int) v11) (8 : Int)) ≤ ((v9 : Nat) : Int)))) then
        bif ((decide ((0 : Int) ≤ (imul .i64 (8 : Int) v11))) && (decide ((imul .i64 (8 : Int) v11) ≤ (((Int.toNat (iadd .i64 (imul .i64 (8 : Int) v11) (8 : Int))) : Nat) : Int)))) then
          bif (decide (((0 + ((Int.toNat (imul .i64 (8 : Int) v11)) * 1)) + (((Int.toNat (iadd .i64 (imul .i64 (8 : Int) v11) (8 : Int))) - (Int.toNat (imul .i64 (8 : Int) v11))) * 1)) ≤ (List.length v12))) then
            match c57 (List.take ((Int.toNat (iadd .i64 (imul .i64 (8 : Int) v11) (8 : Int))) - (Int.toNat (imul .i64 (8 : Int) v11))) (List.drop (0 + ((Int.toNat (imul .i64 (8 : Int) v11)) * 1)) v12)) with
            | none => none
            | some r14 =>
              bif (((List.length v13) == (v10 * 1)) && ((decide (((v10 + 1) * 1) ≤ 1099511627776)) && (decide ((v10 + 1) ≤ 1099511627776)))) then
                L38_1 c56 c57 N q1_2 n1 v9 (v10 + 1) (iadd .i64 v11 (1 : Int)) v12 (v13 ++ [(IntKind.wrap .u8 r14)])
              else none
          else none
        else none
      else none
    else
      q1_2 v10 v13
/-- euphroe/euphroeref03.Gather -/
def p38 (c56 : Int → Int → Option (List Int)) (c57 : List Int → Option Int) (N : Nat) (a0 : List Int) : Option ((List Int) × Int) :=
  bif ((((List.length a0) : Nat) : Int) != (8 : Int)) then
    some (([] : List Int), (1 : Int))
  else
    L38_0 c56 c57 N (fun (y7 : Nat) (y8 : List Int) =>
        L38_1 c56 c57 N (fun (y15 : Nat) (y16 : List Int) =>
            bif (decide ((0 + (y15 * 1)) ≤ (List.length y16))) then
              some ((List.take y15 (List.drop 0 y16)), (0 : Int))
            else none) N y7 0 (0 : Int) y8 ([] : List Int)) N a0 0 (0 : Int) ([] : List Int)

/-- euphroe/euphroelaw03.BitpKeys -/
def p14 (c26 : Option Bool) (c24 : List Int → Option ((List Int) × Int)) (c36 : List Int → Option ((List Int) × Int)) (c37 : List Int → Option ((List Int) × Int)) (c38 : List Int → Option ((List Int) × Int)) (c23 : List Int → List Int → Option Bool) (c25 : Int → Option Int) (c39 : Int → Option Int) (N : Nat) (a0 : List Int) (a1 : Int) : Option Bool :=
  bif (decide ((((List.length a0) : Nat) : Int) > (100 : Int))) then
    match c26 with
    | none => none
    | some r1 =>
      some r1
  else
    match c24 a0 with
    | none => none
    | some r2 =>
      match c36 a0 with
      | none => none
      | some r3 =>
        match c37 a0 with
        | none => none
        | some r4 =>
          match c38 a0 with
          | none => none
          | some r5 =>
            match c37 r2.1 with
            | none => none
            | some r6 =>
              match c23 r2.1 r3.1 with
              | none => none
              | some r7 =>
                bif r7 then
                  bif (r2.2 == r3.2) then
                    match c23 r4.1 r5.1 with
                    | none => none
                    | some r8 =>
                      bif r8 then
                        bif (r4.2 == r5.2) then
                          match c25 a1 with
                          | none => none
                          | some r9 =>
                            match c39 a1 with
                            | none => none
                            | some r10 =>
                              bif (r9 == r10) then
                                bif (r2.2 != (0 : Int)) then
                                  match c26 with
                                  | none => none
                                  | some r11 =>
                                    some r11
                                else
                                  bif (r6.2 == (0 : Int)) then
                                    match c23 r6.1 a0 with
                                    | none => none
                                    | some r12 =>
                                      bif r12 then
                                        match c26 with
                                        | none => none
                                        | some r13 =>
                                          some r13
                                      else
                                        some false
                                  else
                                    some false
                              else
                                some false
                        else
                          some false
                      else
                        some false
                  else
                    some false
                else
                  some false

/-- euphroe/euphroeref01.Digit -/
def p60 (N : Nat) (a0 : Int) : Option Int :=
  bif (decide (a0 ≥ (48 : Int))) then
    bif (decide (a0 ≤ (57 : Int))) then
      some (isub .u8 a0 (48 : Int))
    else
      bif (decide (a0 ≥ (97 : Int))) then
        bif (decide (a0 ≤ (102 : Int))) then
          some (iadd .u8 (isub .u8 a0 (97 : Int)) (10 : Int))
        else
          bif (decide (a0 ≥ (65 : Int))) then
            bif (decide (a0 ≤ (70 : Int))) then
              some (iadd .u8 (isub .u8 a0 (65 : Int)) (10 : Int))
            else
              some (16 : Int)
          else
            some (16 : Int)
      else
        bif (decide (a0 ≥ (65 : Int))) then
          bif (decide (a0 ≤ (70 : Int))) then
            some (iadd .u8 (isub .u8 a0 (65 : Int)) (10 : Int))
          else
            some (16 : Int)
        else
          some (16 : Int)
  else
    bif (decide (a0 ≥ (97 : Int))) then
      bif (decide (a0 ≤ (102 : Int))) then
        some (iadd .u8 (isub .u8 a0 (97 : Int)) (10 : Int))
      else
        bif (decide (a0 ≥ (65 : Int))) then
          bif (decide (a0 ≤ (70 : Int))) then
            some (iadd .u8 (isub .u8 a0 (65 : Int)) (10 : Int))
          else
            some (16 : Int)
        else
          some (16 : Int)
    else
      bif (decide (a0 ≥ (65 : Int))) then
        bif (decide (a0 ≤ (70 : Int))) then
          some (iadd .u8 (isub .u8 a0 (65 : Int)) (10 : Int))
        else
          some (16 : Int)
      else
        some (16 : Int)

def L41_0 (c60 : Int → Option Int) (N : Nat) (q0_0 : Nat → List Int → Option ((List Int) × Int)) : Nat → List UInt8 → Nat → Int → List Int → Option ((List Int) × Int)
  | 0, _, _, _, _ => none
  | n0 + 1, v1, v2, v3, v4 =>
    bif (decide (v3 < (((List.length v1) : Nat) : Int))) then
      match geti v1 v3 with
      | none => none
      | some x5 =>
        match c60 ((UInt8.toNat x5 : Nat) : Int) with
        | none => none
        | some r6 =>
          match geti v1 (iadd .i64 v3 (1 : Int)) with
          | none => none
          | some x7 =>
            match c60 ((UInt8.toNat x7 : Nat) : Int) with
            | none => none
            | some r8 =>
              bif (decide (r6 > (15 : Int))) then
                some (([] : List Int), (3 : Int))
              else
                bif (decide (r8 > (15 : Int))) then
                  some (([] : List Int), (3 : Int))
                else
                  bif (((List.length v4) == (v2 * 1)) && ((decide (((v2 + 1) * 1) ≤ 1099511627776)) && (decide ((v2 + 1) ≤ 1099511627776)))) then
                    L41_0 c60 N q0_0 n0 v1 (v2 + 1) (iadd .i64 v3 (2 : Int)) (v4 ++ [(iadd .u8 (imul .u8 (16 : Int) r6) r8)])
                  else none
    else
      q0_0 v2 v4
/-- euphroe/euphroeref01.Unhex -/
def p41 (c60 : Int → Option Int) (N : Nat) (a0 : List UInt8) : Option ((List Int) × Int) :=
  bif ((irem (((List.length a0) : Nat) : Int) (2 : Int)) != (0 : Int)) then
    some (([] : List Int), (3 : Int))
  else
    L41_0 c60 N (fun (y9 : Nat) (y10 : List Int) =>
        bif (decide ((0 + (y9 * 1)) ≤ (List.length y10))) then
          some ((List.take y9 (List.drop 0 y10)), (0 : Int))
        else none) N a0 0 (0 : Int) ([] : List Int)

def L43_0 (N : Nat) (q0_0 : List UInt8 → Option (List UInt8)) : Nat → List Int → List UInt8 → List UInt8 → Int → Option (List UInt8)
  | 0, _, _, _, _ => none
  | n0 + 1, v1, v2, v3, v4 =>
    bif (decide (v4 < (((List.length v1) : Nat) : Int))) then
      match geti v1 v4 with
      | none => none
      | some x5 =>
        match geti v1 v4 with
        | none => none
        | some x6 =>
          bif ((decide ((0 : Int) ≤ (iadd .i64 (IntKind.wrap .i64 (iquo .u8 x5 (16 : Int))) (1 : Int)))) && (decide ((iadd .i64 (IntKind.wrap .i64 (iquo .u8 x5 (16 : Int))) (1 : Int)) ≤ (((List.length v2) : Nat) : Int)))) then
            bif ((decide ((0 : Int) ≤ (IntKind.wrap .i64 (iquo .u8 x5 (16 : Int))))) && (decide ((IntKind.wrap .i64 (iquo .u8 x5 (16 : Int))) ≤ (((Int.toNat (iadd .i64 (IntKind.wrap .i64 (iquo .u8 x5 (16 : Int))) (1 : Int))) : Nat) : Int)))) then
              bif ((decide ((0 : Int) ≤ (iadd .i64 (IntKind.wrap .i64 (irem x6 (16 : Int))) (1 : Int)))) && (decide ((iadd .i64 (IntKind.wrap .i64 (irem x6 (16 : Int))) (1 : Int)) ≤ (((List.length v2) : Nat) : Int)))) then
                bif ((decide ((0 : Int) ≤ (IntKind.wrap .i64 (irem x6 (16 : Int))))) && (decide ((IntKind.wrap .i64 (irem x6 (16 : Int))) ≤ (((Int.toNat (iadd .i64 (IntKind.wrap .i64 (irem x6 (16 : Int))) (1 : Int))) : Nat) : Int)))) then
                  bif (decide (((List.length (List.take ((Int.toNat (iadd .i64 (IntKind.wrap .i64 (iquo .u8 x5 (16 : Int))) (1 : Int))) - (Int.toNat (IntKind.wrap .i64 (iquo .u8 x5 (16 : Int))))) (List.drop (Int.toNat (IntKind.wrap .i64 (iquo .u8 x5 (16 : Int)))) v2))) + (List.length (List.take ((Int.toNat (iadd .i64 (IntKind.wrap .i64 (irem x6 (16 : Int))) (1 : Int))) - (Int.toNat (IntKind.wrap .i64 (irem x6 (16 : Int))))) (List.drop (Int.toNat (IntKind.wrap .i64 (irem x6 (16 : Int)))) v2)))) < 1152921504606846976)) then
                    bif (decide (((List.length v3) + (List.length ((List.take ((Int.toNat (iadd .i64 (IntKind.wrap .i64 (iquo .u8 x5 (16 : Int))) (1 : Int))) - (Int.toNat (IntKind.wrap .i64 (iquo .u8 x5 (16 : Int))))) (List.drop (Int.toNat (IntKind.wrap .i64 (iquo .u8 x5 (16 : Int)))) v2)) ++ (List.take ((Int.toNat (iadd .i64 (IntKind.wrap .i64 (irem x6 (16 : Int))) (1 : Int))) - (Int.toNat (IntKind.wrap .i64 (irem x6 (16 : Int))))) (List.drop (Int.toNat (IntKind.wrap .i64 (irem x6 (16 : Int)))) v2))))) < 1152921504606846976)) then
                      L43_0 N q0_0 n0 v1 v2 (v3 ++ ((List.take ((Int.toNat (iadd .i64 (IntKind.wrap .i64 (iquo .u8 x5 (16 : Int))) (1 : Int))) - (Int.toNat (IntKind.wrap .i64 (iquo .u8 x5 (16 : Int))))) (List.drop (Int.toNat (IntKind.wrap .i64 (iquo .u8 x5 (16 : Int)))) v2)) ++ (List.take ((Int.toNat (iadd .i64 (IntKind.wrap .i64 (irem x6 (16 : Int))) (1 : Int))) - (Int.toNat (IntKind.wrap .i64 (irem x6 (16 : Int))))) (List.drop (Int.toNat (IntKind.wrap .i64 (irem x6 (16 : Int)))) v2)))) (iadd .i64 v4 (1 : Int))
                    else none
                  else none
                else none
              else none
            else none
          else none
    else
      q0_0 v3
/-- euphroe/euphroeref01.Hex -/
def p43 (N : Nat) (a0 : List Int) : Option (List UInt8) :=
  L43_0 N (fun (y7 : List UInt8) =>
      some y7) N a0 ([(48 : UInt8), (49 : UInt8), (50 : UInt8), (51 : UInt8), (52 : UInt8), (53 : UInt8), (54 : UInt8), (55 : UInt8), (56 : UInt8), (57 : UInt8), (65 : UInt8), (66 : UInt8), (67 : UInt8), (68 : UInt8), (69 : UInt8), (70 : UInt8)] : List UInt8) ([] : List UInt8) (0 : Int)

/-- euphroe/euphroelaw01.OctsHex -/
def p15 (c18 : Option Bool) (c40 : List UInt8 → Option ((List Int) × Int)) (c41 : List UInt8 → Option ((List Int) × Int)) (c42 : List Int → Option (List UInt8)) (c43 : List Int → Option (List UInt8)) (c23 : List Int → List Int → Option Bool) (N : Nat) (a0 : List Int) (a1 : List UInt8) : Option Bool :=
  bif (decide ((((List.length a0) : Nat) : Int) > (300 : Int))) then
    match c18 with
    | none => none
    | some r1 =>
      some r1
  else
    bif (decide ((((List.length a1) : Nat) : Int) > (300 : Int))) then
      match c18 with
      | none => none
      | some r2 =>
        some r2
    else
      match c40 a1 with
      | none => none
      | some r3 =>
        match c41 a1 with
        | none => none
        | some r4 =>
          match c42 a0 with
          | none => none
          | some r5 =>
            match c43 a0 with
            | none => none
            | some r6 =>
              bif (r5 == r6) then
                match c23 r3.1 r4.1 with
                | none => none
                | some r7 =>
                  bif r7 then
                    bif (r3.2 == r4.2) then
                      match c18 with
                      | none => none
                      | some r8 =>
                        some r8
                    else
                      some false
                  else
                    some false
              else
                some false

def L44_0 (c61 : List Int → Option (List Int)) (N : Nat) (q0_0 : Nat → List Int → Option ((List Int) × Int)) : Nat → Nat → List Int → Int → Int → List Int → Option ((List Int) × Int)
  | 0, _, _, _, _, _ => none
  | n0 + 1, v2, v3, v4, v5, v6 =>
    bif (decide (v5 < v4)) then
      match geti v3 v5 with
      | none => none
      | some x7 =>
        bif ((decide ((0 : Int) ≤ v5)) && (decide (v5 < ((v2 : Nat) : Int)))) then
          match (v6)[(0 + ((Int.toNat v5) * 1))]? with
          | none => none
          | some x8 =>
            bif ((decide ((0 : Int) ≤ v5)) && (decide (v5 < ((v2 : Nat) : Int)))) then
              bif (decide ((0 + ((Int.toNat v5) * 1)) < (List.length v6))) then
                L44_0 c61 N q0_0 n0 v2 v3 v4 (iadd .i64 v5 (1 : Int)) (List.set v6 (0 + ((Int.toNat v5) * 1)) (ixor .u8 x8 x7))
              else none
            else none
        else none
    else
      q0_0 v2 v6
/-- euphroe/octs.Xor -/
def p44 (c61 : List Int → Option (List Int)) (N : Nat) (a0 : List Int) (a1 : List Int) : Option ((List Int) × Int) :=
  bif ((((List.length a0) : Nat) : Int) != (((List.length a1) : Nat) : Int)) then
    some (([] : List Int), (1 : Int))
  else
    match c61 a0 with
    | none => none
    | some r1 =>
      L44_0 c61 N (fun (y9 : Nat) (y10 : List Int) =>
          bif (decide ((0 + (y9 * 1)) ≤ (List.length y10))) then
            some ((List.take y9 (List.drop 0 y10)), (0 : Int))
          else none) N (List.length r1) a1 (((List.length a1) : Nat) : Int) (0 : Int) r1

def L45_0 (N : Nat) (q0_0 : Nat → Nat → List Int → Option ((List Int) × Int)) : Nat → List Int → List Int → Nat → Nat → Int → List Int → Option ((List Int) × Int)
  | 0, _, _, _, _, _, _ => none
  | n0 + 1, v1, v2, v3, v4, v5, v6 =>
    bif (decide (v5 < (((List.length v1) : Nat) : Int))) then
      match geti v1 v5 with
      | none => none
      | some x7 =>
        match geti v2 v5 with
        | none => none
        | some x8 =>
          bif ((decide ((0 : Int) ≤ v5)) && (decide (v5 < ((v3 : Nat) : Int)))) then
            bif (decide ((0 + ((Int.toNat v5) * 1)) < (List.length v6))) then
              L45_0 N q0_0 n0 v1 v2 v3 v4 (iadd .i64 v5 (1 : Int)) (List.set v6 (0 + ((Int.toNat v5) * 1)) (ixor .u8 x7 x8))
            else none
          else none
    else
      q0_0 v3 v4 v6
/-- euphroe/euphroeref01.Xor -/
def p45 (N : Nat) (a0 : List Int) (a1 : List Int) : Option ((List Int) × Int) :=
  bif ((((List.length a0) : Nat) : Int) != (((List.length a1) : Nat) : Int)) then
    some (([] : List Int), (1 : Int))
  else
    bif ((decide ((0 : Int) ≤ (((List.length a0) : Nat) : Int))) && ((decide ((((List.length a0) : Nat) : Int) ≤ (((List.length a0) : Nat) : Int))) && ((decide (((((List.length a0) : Nat) : Int) * ((1 : Nat) : Int)) ≤ (1099511627776 : Int))) && (decide ((((List.length a0) : Nat) : Int) ≤ (1099511627776 : Int)))))) then
      L45_0 N (fun (y9 : Nat) (y10 : Nat) (y11 : List Int) =>
          bif (decide ((0 + (y9 * 1)) ≤ (List.length y11))) then
            some ((List.take y9 (List.drop 0 y11)), (0 : Int))
          else none) N a0 a1 (Int.toNat (((List.length a0) : Nat) : Int)) (Int.toNat (((List.length a0) : Nat) : Int)) (0 : Int) (List.replicate (Int.toNat (((List.length a0) : Nat) : Int)) (0 : Int))
    else none

/-- euphroe/octs.Join -/
def p46 (c1 : List (List Int) → Option (List Int)) (N : Nat) (a0 : List (List Int)) : Option (List Int) :=
  match c1 a0 with
  | none => none
  | some r1 =>
    bif ((List.length r1) == (List.length r1)) then
      some r1
    else none

/-- euphroe/euphroelaw01.OctsTurns -/
def p16 (c18 : Option Bool) (c44 : List Int → List Int → Option ((List Int) × Int)) (c45 : List Int → List Int → Option ((List Int) × Int)) (c46 : List (List Int) → Option (List Int)) (c23 : List Int → List Int → Option Bool) (c47 : List Int → List Int → Option Bool) (N : Nat) (a0 : List Int) (a1 : List Int) : Option Bool :=
  bif (decide ((((List.length a0) : Nat) : Int) > (300 : Int))) then
    match c18 with
    | none => none
    | some r1 =>
      some r1
  else
    bif (decide ((((List.length a1) : Nat) : Int) > (300 : Int))) then
      match c18 with
      | none => none
      | some r2 =>
        some r2
    else
      match c44 a0 a1 with
      | none => none
      | some r3 =>
        match c45 a0 a1 with
        | none => none
        | some r4 =>
          match c46 ([a0, ([] : List Int), a1] : List (List Int)) with
          | none => none
          | some r5 =>
            match c23 r3.1 r4.1 with
            | none => none
            | some r6 =>
              bif r6 then
                bif (r3.2 == r4.2) then
                  match c47 a0 a1 with
                  | none => none
                  | some r7 =>
                    match c23 a0 a1 with
                    | none => none
                    | some r8 =>
                      bif (r7 == r8) then
                        bif ((((List.length r5) : Nat) : Int) == (iadd .i64 (((List.length a0) : Nat) : Int) (((List.length a1) : Nat) : Int))) then
                          bif ((decide ((0 : Int) ≤ (((List.length a0) : Nat) : Int))) && (decide ((((List.length a0) : Nat) : Int) ≤ (((List.length r5) : Nat) : Int)))) then
                            bif (decide ((0 + ((Int.toNat (((List.length a0) : Nat) : Int)) * 1)) ≤ (List.length r5))) then
                              match c23 (List.take (Int.toNat (((List.length a0) : Nat) : Int)) (List.drop 0 r5)) a0 with
                              | none => none
                              | some r9 =>
                                bif r9 then
                                  bif ((decide ((0 : Int) ≤ (((List.length a0) : Nat) : Int))) && (decide ((((List.length a0) : Nat) : Int) ≤ (((List.length r5) : Nat) : Int)))) then
                                    bif (decide (((0 + ((Int.toNat (((List.length a0) : Nat) : Int)) * 1)) + (((List.length r5) - (Int.toNat (((List.length a0) : Nat) : Int))) * 1)) ≤ (List.length r5))) then
                                      match c23 (List.take ((List.length r5) - (Int.toNat (((List.length a0) : Nat) : Int))) (List.drop (0 + ((Int.toNat (((List.length a0) : Nat) : Int)) * 1)) r5)) a1 with
                                      | none => none
                                      | some r10 =>
                                        bif r10 then
                                          match c18 with
                                          | none => none
                                          | some r11 =>
                                            some r11
                                        else
                                          some false
                                    else none
                                  else none
                                else
                                  some false
                            else none
                          else none
                        else
                          some false
                      else
                        some false
                else
                  some false
              else
                some false

/-- euphroe/euphroelaw01.OctsBack -/
def p17 (c18 : Option Bool) (c19 : Int → Int → Bool → Option ((List Int) × Int)) (c21 : List Int → Bool → Option (Int × Int)) (c44 : List Int → List Int → Option ((List Int) × Int)) (c42 : List Int → Option (List UInt8)) (c40 : List UInt8 → Option ((List Int) × Int)) (c23 : List Int → List Int → Option Bool) (N : Nat) (a0 : Int) (a1 : Int) (a2 : (List Int) × (List Int)) : Option Bool :=
  bif (decide ((((List.length a2.1) : Nat) : Int) > (300 : Int))) then
    match c18 with
    | none => none
    | some r1 =>
      some r1
  else
    bif (decide ((((List.length a2.2) : Nat) : Int) > (300 : Int))) then
      match c18 with
      | none => none
      | some r2 =>
        some r2
    else
      match c19 a0 a1 true with
      | none => none
      | some r3 =>
        match c21 r3.1 true with
        | none => none
        | some r4 =>
          bif (r3.2 == (0 : Int)) then
            bif (r4.2 != (0 : Int)) then
              some false
            else
              bif (a1 == (8 : Int)) then
                bif (r4.1 != a0) then
                  some false
                else
                  bif (decide (a1 < (8 : Int))) then
                    bif (decide ((imul .i64 (8 : Int) a1) < (0 : Int))) then
                      none
                    else
                      bif ((ishl .u64 (1 : Int) (imul .i64 (8 : Int) a1)) == (0 : Int)) then
                        none
                      else
                        bif (r4.1 != (irem a0 (ishl .u64 (1 : Int) (imul .i64 (8 : Int) a1)))) then
                          some false
                        else
                          bif ((((List.length r3.1) : Nat) : Int) != a1) then
                            some false
                          else
                            match c44 a2.1 a2.2 with
                            | none => none
                            | some r5 =>
                              match c44 r5.1 a2.2 with
                              | none => none
                              | some r6 =>
                                match c42 a2.1 with
                                | none => none
                                | some r7 =>
                                  match c40 r7 with
                                  | none => none
                                  | some r8 =>
                                    bif (r5.2 != (0 : Int)) then
                                      match c23 r8.1 a2.1 with
                                      | none => none
                                      | some r9 =>
                                        bif r9 then
                                          bif (r8.2 == (0 : Int)) then
                                            match c18 with
                                            | none => none
                                            | some r10 =>
                                              some r10
                                          else
                                            some false
                                        else
                                          some false
                                    else
                                      bif (r6.2 == (0 : Int)) then
                                        match c23 r6.1 a2.1 with
                                        | none => none
                                        | some r11 =>
                                          bif r11 then
                                            match c23 r8.1 a2.1 with
                                            | none => none
                                            | some r12 =>
                                              bif r12 then
                                                bif (r8.2 == (0 : Int)) then
                                                  match c18 with
                                                  | none => none
                                                  | some r13 =>
                                                    some r13
                                                else
                                                  some false
                                              else
                                                some false
                                          else
                                            some false
                                      else
                                        some false
                  else
                    bif ((((List.length r3.1) : Nat) : Int) != a1) then
                      some false
                    else
                      match c44 a2.1 a2.2 with
                      | none => none
                      | some r14 =>
                        match c44 r14.1 a2.2 with
                        | none => none
                        | some r15 =>
                          match c42 a2.1 with
                          | none => none
                          | some r16 =>
                            match c40 r16 with
                            | none => none
                            | some r17 =>
                              bif (r14.2 != (0 : Int)) then
                                match c23 r17.1 a2.1 with
                                | none => none
                                | some r18 =>
                                  bif r18 then
                                    bif (r17.2 == (0 : Int)) then
                                      match c18 with
                                      | none => none
                                      | some r19 =>
                                        some r19
                                    else
                                      some false
                                  else
                                    some false
                              else
                                bif (r15.2 == (0 : Int)) then
                                  match c23 r15.1 a2.1 with
                                  | none => none
                                  | some r20 =>
                                    bif r20 then
                                      match c23 r17.1 a2.1 with
                                      | none => none
                                      | some r21 =>
                                        bif r21 then
                                          bif (r17.2 == (0 : Int)) then
                                            match c18 with
                                            | none => none
                                            | some r22 =>
                                              some r22
                                          else
                                            some false
                                        else
                                          some false
                                    else
                                      some false
                                else
                                  some false
              else
                bif (decide (a1 < (8 : Int))) then
                  bif (decide ((imul .i64 (8 : Int) a1) < (0 : Int))) then
                    none
                  else
                    bif ((ishl .u64 (1 : Int) (imul .i64 (8 : Int) a1)) == (0 : Int)) then
                      none
                    else
                      bif (r4.1 != (irem a0 (ishl .u64 (1 : Int) (imul .i64 (8 : Int) a1)))) then
                        some false
                      else
                        bif ((((List.length r3.1) : Nat) : Int) != a1) then
                          some false
                        else
                          match c44 a2.1 a2.2 with
                          | none => none
                          | some r23 =>
                            match c44 r23.1 a2.2 with
                            | none => none
                            | some r24 =>
                              match c42 a2.1 with
                              | none => none
                              | some r25 =>
                                match c40 r25 with
                                | none => none
                                | some r26 =>
                                  bif (r23.2 != (0 : Int)) then
                                    match c23 r26.1 a2.1 with
                                    | none => none
                                    | some r27 =>
                                      bif r27 then
                                        bif (r26.2 == (0 : Int)) then
                                          match c18 with
                                          | none => none
                                          | some r28 =>
                                            some r28
                                        else
                                          some false
                                      else
                                        some false
                                  else
                                    bif (r24.2 == (0 : Int)) then
                                      match c23 r24.1 a2.1 with
                                      | none => none
                                      | some r29 =>
                                        bif r29 then
                                          match c23 r26.1 a2.1 with
                                          | none => none
                                          | some r30 =>
                                            bif r30 then
                                              bif (r26.2 == (0 : Int)) then
                                                match c18 with
                                                | none => none
                                                | some r31 =>
                                                  some r31
                                              else
                                                some false
                                            else
                                              some false
                                        else
                                          some false
                                    else
                                      some false
                else
                  bif ((((List.length r3.1) : Nat) : Int) != a1) then
                    some false
                  else
                    match c44 a2.1 a2.2 with
                    | none => none
                    | some r32 =>
                      match c44 r32.1 a2.2 with
                      | none => none
                      | some r33 =>
                        match c42 a2.1 with
                        | none => none
                        | some r34 =>
                          match c40 r34 with
                          | none => none
                          | some r35 =>
                            bif (r32.2 != (0 : Int)) then
                              match c23 r35.1 a2.1 with
                              | none => none
                              | some r36 =>
                                bif r36 then
                                  bif (r35.2 == (0 : Int)) then
                                    match c18 with
                                    | none => none
                                    | some r37 =>
                                      some r37
                                  else
                                    some false
                                else
                                  some false
                            else
                              bif (r33.2 == (0 : Int)) then
                                match c23 r33.1 a2.1 with
                                | none => none
                                | some r38 =>
                                  bif r38 then
                                    match c23 r35.1 a2.1 with
                                    | none => none
                                    | some r39 =>
                                      bif r39 then
                                        bif (r35.2 == (0 : Int)) then
                                          match c18 with
                                          | none => none
                                          | some r40 =>
                                            some r40
                                        else
                                          some false
                                      else
                                        some false
                                  else
                                    some false
                              else
                                some false
          else
            match c44 a2.1 a2.2 with
            | none => none
            | some r41 =>
              match c44 r41.1 a2.2 with
              | none => none
              | some r42 =>
                match c42 a2.1 with
                | none => none
                | some r43 =>
                  match c40 r43 with
                  | none => none
                  | some r44 =>
                    bif (r41.2 != (0 : Int)) then
                      match c23 r44.1 a2.1 with
                      | none => none
                      | some r45 =>
                        bif r45 then
                          bif (r44.2 == (0 : Int)) then
                            match c18 with
                            | none => none
                            | some r46 =>
                              some r46
                          else
                            some false
                        else
                          some false
                    else
                      bif (r42.2 == (0 : Int)) then
                        match c23 r42.1 a2.1 with
                        | none => none
                        | some r47 =>
                          bif r47 then
                            match c23 r44.1 a2.1 with
                            | none => none
                            | some r48 =>
                              bif r48 then
                                bif (r44.2 == (0 : Int)) then
                                  match c18 with
                                  | none => none
                                  | some r49 =>
                                    some r49
                                else
                                  some false
                              else
                                some false
                          else
                            some false
                      else
                        some false

/-- strings.IndexByte -/
def p63 (c65 : List UInt8 → Int → Option Int) (N : Nat) (a0 : List UInt8) (a1 : Int) : Option Int :=
  match c65 a0 a1 with
  | none => none
  | some r1 =>
    some r1

/-- euphroe/octs.digit -/
def p59 (c63 : List UInt8 → Int → Option Int) (N : Nat) (a0 : Int) : Option Int :=
  bif (decide (a0 ≥ (97 : Int))) then
    bif (decide (a0 ≤ (102 : Int))) then
      match c63 ([(48 : UInt8), (49 : UInt8), (50 : UInt8), (51 : UInt8), (52 : UInt8), (53 : UInt8), (54 : UInt8), (55 : UInt8), (56 : UInt8), (57 : UInt8), (65 : UInt8), (66 : UInt8), (67 : UInt8), (68 : UInt8), (69 : UInt8), (70 : UInt8)] : List UInt8) (isub .u8 a0 (32 : Int)) with
      | none => none
      | some r1 =>
        some r1
    else
      match c63 ([(48 : UInt8), (49 : UInt8), (50 : UInt8), (51 : UInt8), (52 : UInt8), (53 : UInt8), (54 : UInt8), (55 : UInt8), (56 : UInt8), (57 : UInt8), (65 : UInt8), (66 : UInt8), (67 : UInt8), (68 : UInt8), (69 : UInt8), (70 : UInt8)] : List UInt8) a0 with
      | none => none
      | some r2 =>
        some r2
  else
    match c63 ([(48 : UInt8), (49 : UInt8), (50 : UInt8), (51 : UInt8), (52 : UInt8), (53 : UInt8), (54 : UInt8), (55 : UInt8), (56 : UInt8), (57 : UInt8), (65 : UInt8), (66 : UInt8), (67 : UInt8), (68 : UInt8), (69 : UInt8), (70 : UInt8)] : List UInt8) a0 with
    | none => none
    | some r3 =>
      some r3
end Go.Proofs.YtgjbkgajkcgdfaaE
