/- The functions as plain ones. -/
import Derived.Test.YtjkdflcccoeggaaEvFJ1
namespace Go.Proofs.YtjkdflcccoeggaaE
open Go
set_option linter.unusedVariables false
set_option linter.unusedSimpArgs false
/-- slices.Concat[[]byte,byte] -/
abbrev en1 (f : List (List Int) → Option (List Int)) : Ent := ⟨[(Sh.sl (Sh.sl (Sh.int .u8)))], List Int, fun v => f v.1, ownOut .u8⟩
/-- euphroe/euphroelaw01.OctsHex -/
abbrev en15 (f : List Int → List UInt8 → Option Bool) : Ent := ⟨[(Sh.sl (Sh.int .u8)), Sh.str], Bool, fun v => f v.1 v.2.1, fun r => ((Sh.bool).enc r, [])⟩
/-- euphroe/euphroelaw01.OctsTurns -/
abbrev en16 (f : List Int → List Int → Option Bool) : Ent := ⟨[(Sh.sl (Sh.int .u8)), (Sh.sl (Sh.int .u8))], Bool, fun v => f v.1 v.2.1, fun r => ((Sh.bool).enc r, [])⟩
/-- euphroe/euphroelaw01.OctsBack -/
abbrev en17 (f : Int → Int → (List Int) × (List Int) → Option Bool) : Ent := ⟨[(Sh.int .u64), (Sh.int .i64), (Sh.st (Sh.pr (Sh.sl (Sh.int .u8)) (Sh.sl (Sh.int .u8))))], Bool, fun v => f v.1 v.2.1 v.2.2.1, fun r => ((Sh.bool).enc r, [])⟩
/-- euphroe/euphroelaw01.alive -/
abbrev en18 (f : Option Bool) : Ent := ⟨[], Bool, fun v => f, fun r => ((Sh.bool).enc r, [])⟩
/-- euphroe/octs.Put -/
abbrev en19 (f : Int → Int → Bool → Option ((List Int) × Int)) : Ent := ⟨[(Sh.int .u64), (Sh.int .i64), Sh.bool], (List Int) × Int, fun v => f v.1 v.2.1 v.2.2.1, fun r => (((Sh.tu (Sh.pr (Sh.sl (Sh.int .u8)) (Sh.int .i64)))).enc r, [])⟩
/-- euphroe/octs.Get -/
abbrev en21 (f : List Int → Bool → Option (Int × Int)) : Ent := ⟨[(Sh.sl (Sh.int .u8)), Sh.bool], Int × Int, fun v => f v.1 v.2.1, fun r => (((Sh.tu (Sh.pr (Sh.int .u64) (Sh.int .i64)))).enc r, [])⟩
/-- euphroe/euphroeref01.Same -/
abbrev en23 (f : List Int → List Int → Option Bool) : Ent := ⟨[(Sh.sl (Sh.int .u8)), (Sh.sl (Sh.int .u8))], Bool, fun v => f v.1 v.2.1, fun r => ((Sh.bool).enc r, [])⟩
/-- euphroe/octs.Unhex -/
abbrev en40 (f : List UInt8 → Option ((List Int) × Int)) : Ent := ⟨[Sh.str], (List Int) × Int, fun v => f v.1, fun r => (((Sh.tu (Sh.pr (Sh.sl (Sh.int .u8)) (Sh.int .i64)))).enc r, [])⟩
/-- euphroe/euphroeref01.Unhex -/
abbrev en41 (f : List UInt8 → Option ((List Int) × Int)) : Ent := ⟨[Sh.str], (List Int) × Int, fun v => f v.1, fun r => (((Sh.tu (Sh.pr (Sh.sl (Sh.int .u8)) (Sh.int .i64)))).enc r, [])⟩
/-- euphroe/octs.Hex -/
abbrev en42 (f : List Int → Option (List UInt8)) : Ent := ⟨[(Sh.sl (Sh.int .u8))], List UInt8, fun v => f v.1, fun r => ((Sh.str).enc r, [])⟩
/-- euphroe/euphroeref01.Hex -/
abbrev en43 (f : List Int → Option (List UInt8)) : Ent := ⟨[(Sh.sl (Sh.int .u8))], List UInt8, fun v => f v.1, fun r => ((Sh.str).enc r, [])⟩
/-- euphroe/octs.Xor -/
abbrev en44 (f : List Int → List Int → Option ((List Int) × Int)) : Ent := ⟨[(Sh.sl (Sh.int .u8)), (Sh.sl (Sh.int .u8))], (List Int) × Int, fun v => f v.1 v.2.1, fun r => (((Sh.tu (Sh.pr (Sh.sl (Sh.int .u8)) (Sh.int .i64)))).enc r, [])⟩
/-- euphroe/euphroeref01.Xor -/
abbrev en45 (f : List Int → List Int → Option ((List Int) × Int)) : Ent := ⟨[(Sh.sl (Sh.int .u8)), (Sh.sl (Sh.int .u8))], (List Int) × Int, fun v => f v.1 v.2.1, fun r => (((Sh.tu (Sh.pr (Sh.sl (Sh.int .u8)) (Sh.int .i64)))).enc r, [])⟩
/-- euphroe/octs.Join -/
abbrev en46 (f : List (List Int) → Option (List Int)) : Ent := ⟨[(Sh.sl (Sh.sl (Sh.int .u8)))], List Int, fun v => f v.1, ownOut .u8⟩
/-- euphroe/octs.Same -/
abbrev en47 (f : List Int → List Int → Option Bool) : Ent := ⟨[(Sh.sl (Sh.int .u8)), (Sh.sl (Sh.int .u8))], Bool, fun v => f v.1 v.2.1, fun r => ((Sh.bool).enc r, [])⟩
/-- euphroe/octs.digit -/
abbrev en59 (f : Int → Option Int) : Ent := ⟨[(Sh.int .u8)], Int, fun v => f v.1, fun r => (((Sh.int .i64)).enc r, [])⟩
/-- euphroe/euphroeref01.Digit -/
abbrev en60 (f : Int → Option Int) : Ent := ⟨[(Sh.int .u8)], Int, fun v => f v.1, fun r => (((Sh.int .u8)).enc r, [])⟩
/-- slices.Clone[[]byte,byte] -/
abbrev en61 (f : List Int → Option (List Int)) : Ent := ⟨[(Sh.sl (Sh.int .u8))], List Int, fun v => f v.1, ownOut .u8⟩
/-- strings.IndexByte -/
abbrev en63 (f : List UInt8 → Int → Option Int) : Ent := ⟨[Sh.str, (Sh.int .u8)], Int, fun v => f v.1 v.2.1, fun r => (((Sh.int .i64)).enc r, [])⟩
/-- internal/stringslite.IndexByte -/
abbrev en65 (f : List UInt8 → Int → Option Int) : Ent := ⟨[Sh.str, (Sh.int .u8)], Int, fun v => f v.1 v.2.1, fun r => (((Sh.int .i64)).enc r, [])⟩
/-- internal/bytealg.IndexByteString -/
abbrev en66 (f : List UInt8 → Int → Option Int) : Ent := ⟨[Sh.str, (Sh.int .u8)], Int, fun v => f v.1 v.2.1, fun r => (((Sh.int .i64)).enc r, [])⟩
def PR64v0 : Pr := ⟨(.cons .nils (.cons (.int .i64) .nil)), []⟩
def QR64v0 : Pr := ⟨(.cons (.sl 0 1) .nil), [(.ints false .u8)]⟩
/-- slices.Grow[[]byte,byte] -/
abbrev rn64v0 (f : Int → Option ((Nat × Unit) × ((List Int) × Unit))) : REnt := ⟨PR64v0, QR64v0, (Nat × Unit) × ((List Int) × Unit), fun v => f v.1.2.1, fun r => r⟩
def PR48v0 : Pr := ⟨(.cons (.slc 0 1) .nil), [(.ints false .u8)]⟩
def QR48v0 : Pr := ⟨(.cons .tup0 .nil), [(.ints false .u8)]⟩
/-- slices.Reverse[[]byte,byte] -/
abbrev rn48v0 (f : Nat → Nat → List Int → Option ((Unit × Unit) × ((List Int) × Unit))) : REnt := ⟨PR48v0, QR48v0, (Unit × Unit) × ((List Int) × Unit), fun v => f v.1.1.1 v.1.1.2 v.2.1, fun r => r⟩

/-- slices.Grow[[]byte,byte] -/
def p64v0 (N : Nat) (a0 : Int) : Option ((Nat × Unit) × ((List Int) × Unit)) :=
  bif (decide (a0 < (0 : Int))) then
    none
  else
    bif (decide ((isub .i64 a0 (0 : Int)) > (0 : Int))) then
      bif ((decide ((0 : Int) ≤ (isub .i64 a0 (0 : Int)))) && ((decide (((isub .i64 a0 (0 : Int)) * ((1 : Nat) : Int)) ≤ (1099511627776 : Int))) && (decide ((isub .i64 a0 (0 : Int)) ≤ (1099511627776 : Int))))) then
        bif (decide ((0 : Int) ≤ (((Int.toNat (isub .i64 a0 (0 : Int))) : Nat) : Int))) then
          some ((0, ()), (([] : List Int), ()))
        else none
      else none
    else
      some ((0, ()), (([] : List Int), ()))

def L1_0 (d64v0 : Int → Option ((Nat × Unit) × ((List Int) × Unit))) (N : Nat) (q0_0 : List (List Int) → Int → Option (List Int)) : Nat → List (List Int) → Int → List (List Int) → Int → Int → Option (List Int)
  | 0, _, _, _, _, _ => none
  | n0 + 1, v1, v2, v3, v4, v5 =>
    bif (decide (v5 < v4)) then
      match geti v3 v5 with
      | none => none
      | some x6 =>
        bif (decide ((iadd .i64 v2 (((List.length x6) : Nat) : Int)) < (0 : Int))) then
          none
        else
          L1_0 d64v0 N q0_0 n0 v1 (iadd .i64 v2 (((List.length x6) : Nat) : Int)) v3 v4 (iadd .i64 v5 (1 : Int))
    else
      q0_0 v1 v2
def L1_1 (d64v0 : Int → Option ((Nat × Unit) × ((List Int) × Unit))) (N : Nat) (q1_2 : Nat → List Int → Option (List Int)) : Nat → Nat → List (List Int) → Int → Int → List Int → Option (List Int)
  | 0, _, _, _, _, _ => none
  | n1 + 1, v10, v11, v12, v13, v14 =>
    bif (decide (v13 < v12)) then
      match geti v11 v13 with
      | none => none
      | some x15 =>
        bif (((List.length v14) == (v10 * 1)) && ((decide (((v10 + (List.length x15)) * 1) ≤ 1099511627776)) && (decide ((v10 + (List.length x15)) ≤ 1099511627776)))) then
          L1_1 d64v0 N q1_2 n1 (v10 + (List.length x15)) v11 v12 (iadd .i64 v13 (1 : Int)) (v14 ++ x15)
        else none
    else
      q1_2 v10 v14
/-- slices.Concat[[]byte,byte] -/
def p1 (d64v0 : Int → Option ((Nat × Unit) × ((List Int) × Unit))) (N : Nat) (a0 : List (List Int)) : Option (List Int) :=
  L1_0 d64v0 N (fun (y7 : List (List Int)) (y8 : Int) =>
      match d64v0 y8 with
      | none => none
      | some r9 =>
        L1_1 d64v0 N (fun (y16 : Nat) (y17 : List Int) =>
            bif (y16 == (List.length y17)) then
              some y17
            else none) N r9.1.1 y7 (((List.length y7) : Nat) : Int) (0 : Int) r9.2.1) N a0 (0 : Int) a0 (((List.length a0) : Nat) : Int) (0 : Int)

def L48v0_0 (N : Nat) (q0_0 : List Int → Option ((Unit × Unit) × ((List Int) × Unit))) : Nat → Nat → Nat → Int → Int → List Int → Option ((Unit × Unit) × ((List Int) × Unit))
  | 0, _, _, _, _, _ => none
  | n0 + 1, v1, v2, v3, v4, v5 =>
    bif (decide (v3 < v4)) then
      bif ((decide ((0 : Int) ≤ v4)) && (decide (v4 < ((v1 : Nat) : Int)))) then
        match (v5)[(0 + ((Int.toNat v4) * 1))]? with
        | none => none
        | some x6 =>
          bif ((decide ((0 : Int) ≤ v3)) && (decide (v3 < ((v1 : Nat) : Int)))) then
            match (v5)[(0 + ((Int.toNat v3) * 1))]? with
            | none => none
            | some x7 =>
              bif ((decide ((0 : Int) ≤ v3)) && (decide (v3 < ((v1 : Nat) : Int)))) then
                bif (decide ((0 + ((Int.toNat v3) * 1)) < (List.length v5))) then
                  bif ((decide ((0 : Int) ≤ v4)) && (decide (v4 < ((v1 : Nat) : Int)))) then
                    bif (decide ((0 + ((Int.toNat v4) * 1)) < (List.length (List.set v5 (0 + ((Int.toNat v3) * 1)) x6)))) then
                      L48v0_0 N q0_0 n0 v1 v2 (iadd .i64 v3 (1 : Int)) (isub .i64 v4 (1 : Int)) (List.set (List.set v5 (0 + ((Int.toNat v3) * 1)) x6) (0 + ((Int.toNat v4) * 1)) x7)
                    else none
                  else none
                else none
              else none
          else none
      else none
    else
      q0_0 v5
/-- slices.Reverse[[]byte,byte] -/
def p48v0 (N : Nat) (a0 : Nat) (a1 : Nat) (a2 : List Int) : Option ((Unit × Unit) × ((List Int) × Unit)) :=
  L48v0_0 N (fun (y8 : List Int) =>
      some (((), ()), (y8, ()))) N a0 a1 (0 : Int) (isub .i64 ((a0 : Nat) : Int) (1 : Int)) a2

def L19_0 (d48v0 : Nat → Nat → List Int → Option ((Unit × Unit) × ((List Int) × Unit))) (N : Nat) (q0_0 : Bool → Nat → Nat → List Int → Option ((List Int) × Int)) : Nat → Int → Bool → Nat → Nat → Int → Int → List Int → Option ((List Int) × Int)
  | 0, _, _, _, _, _, _, _ => none
  | n0 + 1, v1, v2, v3, v4, v5, v6, v7 =>
    bif (decide (v6 < v5)) then
      bif (decide ((imul .i64 (8 : Int) v6) < (0 : Int))) then
        none
      else
        bif ((decide ((0 : Int) ≤ v6)) && (decide (v6 < ((v3 : Nat) : Int)))) then
          bif (decide ((0 + ((Int.toNat v6) * 1)) < (List.length v7))) then
            L19_0 d48v0 N q0_0 n0 v1 v2 v3 v4 v5 (iadd .i64 v6 (1 : Int)) (List.set v7 (0 + ((Int.toNat v6) * 1)) (IntKind.wrap .u8 (ishr .u64 v1 (imul .i64 (8 : Int) v6))))
          else none
        else none
    else
      q0_0 v2 v3 v4 v7
/-- euphroe/octs.Put -/
def p19 (d48v0 : Nat → Nat → List Int → Option ((Unit × Unit) × ((List Int) × Unit))) (N : Nat) (a0 : Int) (a1 : Int) (a2 : Bool) : Option ((List Int) × Int) :=
  bif (decide (a1 < (1 : Int))) then
    some (([] : List Int), (1 : Int))
  else
    bif (decide (a1 > (8 : Int))) then
      some (([] : List Int), (1 : Int))
    else
      bif ((decide ((0 : Int) ≤ a1)) && ((decide (a1 ≤ a1)) && ((decide ((a1 * ((1 : Nat) : Int)) ≤ (1099511627776 : Int))) && (decide (a1 ≤ (1099511627776 : Int)))))) then
        L19_0 d48v0 N (fun (y8 : Bool) (y9 : Nat) (y10 : Nat) (y11 : List Int) =>
            bif (!y8) then
              match d48v0 y9 y10 y11 with
              | none => none
              | some r12 =>
                bif (decide ((0 + (y9 * 1)) ≤ (List.length r12.2.1))) then
                  some ((List.take y9 (List.drop 0 r12.2.1)), (0 : Int))
                else none
            else
              bif (decide ((0 + (y9 * 1)) ≤ (List.length y11))) then
                some ((List.take y9 (List.drop 0 y11)), (0 : Int))
              else none) N a0 a2 (Int.toNat a1) (Int.toNat a1) (((Int.toNat a1) : Nat) : Int) (0 : Int) (List.replicate (Int.toNat a1) (0 : Int))
      else none

def L21_0 (N : Nat) (q0_0 : Int → Option (Int × Int)) : Nat → Bool → Int → List Int → Int → Int → Option (Int × Int)
  | 0, _, _, _, _, _ => none
  | n0 + 1, v1, v2, v3, v4, v5 =>
    bif (decide (v5 < v4)) then
      match geti v3 v5 with
      | none => none
      | some x6 =>
        bif v1 then
          bif (decide ((imul .i64 (8 : Int) v5) < (0 : Int))) then
            none
          else
            L21_0 N q0_0 n0 v1 (ior .u64 v2 (ishl .u64 (IntKind.wrap .u64 x6) (imul .i64 (8 : Int) v5))) v3 v4 (iadd .i64 v5 (1 : Int))
        else
          L21_0 N q0_0 n0 v1 (ior .u64 (ishl .u64 v2 (8 : Int)) (IntKind.wrap .u64 x6)) v3 v4 (iadd .i64 v5 (1 : Int))
    else
      q0_0 v2
/-- euphroe/octs.Get -/
def p21 (N : Nat) (a0 : List Int) (a1 : Bool) : Option (Int × Int) :=
  bif (decide ((((List.length a0) : Nat) : Int) < (1 : Int))) then
    some ((0 : Int), (1 : Int))
  else
    bif (decide ((((List.length a0) : Nat) : Int) > (8 : Int))) then
      some ((0 : Int), (1 : Int))
    else
      L21_0 N (fun (y7 : Int) =>
          some (y7, (0 : Int))) N a1 (0 : Int) a0 (((List.length a0) : Nat) : Int) (0 : Int)

def L42_0 (N : Nat) (q0_0 : Nat → List Int → Option (List UInt8)) : Nat → Nat → List Int → Int → Int → List Int → Option (List UInt8)
  | 0, _, _, _, _, _ => none
  | n0 + 1, v1, v2, v3, v4, v5 =>
    bif (decide (v4 < v3)) then
      match geti v2 v4 with
      | none => none
      | some x6 =>
        match geti ([(48 : UInt8), (49 : UInt8), (50 : UInt8), (51 : UInt8), (52 : UInt8), (53 : UInt8), (54 : UInt8), (55 : UInt8), (56 : UInt8), (57 : UInt8), (65 : UInt8), (66 : UInt8), (67 : UInt8), (68 : UInt8), (69 : UInt8), (70 : UInt8)] : List UInt8) (ishr .u8 x6 (4 : Int)) with
        | none => none
        | some x7 =>
          match geti ([(48 : UInt8), (49 : UInt8), (50 : UInt8), (51 : UInt8), (52 : UInt8), (53 : UInt8), (54 : UInt8), (55 : UInt8), (56 : UInt8), (57 : UInt8), (65 : UInt8), (66 : UInt8), (67 : UInt8), (68 : UInt8), (69 : UInt8), (70 : UInt8)] : List UInt8) (iand .u8 x6 (15 : Int)) with
          | none => none
          | some x8 =>
            bif (((List.length v5) == (v1 * 1)) && ((decide (((v1 + 2) * 1) ≤ 1099511627776)) && (decide ((v1 + 2) ≤ 1099511627776)))) then
              L42_0 N q0_0 n0 (v1 + 2) v2 v3 (iadd .i64 v4 (1 : Int)) (v5 ++ [((UInt8.toNat x7 : Nat) : Int), ((UInt8.toNat x8 : Nat) : Int)])
            else none
    else
      q0_0 v1 v5
/-- euphroe/octs.Hex -/
def p42 (N : Nat) (a0 : List Int) : Option (List UInt8) :=
  bif ((decide ((0 : Int) ≤ (imul .i64 (2 : Int) (((List.length a0) : Nat) : Int)))) && ((decide (((imul .i64 (2 : Int) (((List.length a0) : Nat) : Int)) * ((1 : Nat) : Int)) ≤ (1099511627776 : Int))) && (decide ((imul .i64 (2 : Int) (((List.length a0) : Nat) : Int)) ≤ (1099511627776 : Int))))) then
    L42_0 N (fun (y9 : Nat) (y10 : List Int) =>
        bif (decide ((0 + (y9 * 1)) ≤ (List.length y10))) then
          some (List.map (fun n : Int => UInt8.ofNat n.toNat) (List.take (y9 * 1) (List.drop 0 y10)))
        else none) N 0 a0 (((List.length a0) : Nat) : Int) (0 : Int) (List.take 0 (List.drop 0 (List.replicate (Int.toNat (imul .i64 (2 : Int) (((List.length a0) : Nat) : Int))) (0 : Int))))
  else none

def L47_0 (N : Nat) (q0_0 : Int → Option Bool) : Nat → List Int → Int → List Int → Int → Int → Option Bool
  | 0, _, _, _, _, _ => none
  | n0 + 1, v1, v2, v3, v4, v5 =>
    bif (decide (v5 < v4)) then
      match geti v3 v5 with
      | none => none
      | some x6 =>
        match geti v1 v5 with
        | none => none
        | some x7 =>
          L47_0 N q0_0 n0 v1 (ior .u8 v2 (ixor .u8 x6 x7)) v3 v4 (iadd .i64 v5 (1 : Int))
    else
      q0_0 v2
/-- euphroe/octs.Same -/
def p47 (N : Nat) (a0 : List Int) (a1 : List Int) : Option Bool :=
  bif ((((List.length a0) : Nat) : Int) != (((List.length a1) : Nat) : Int)) then
    some false
  else
    L47_0 N (fun (y8 : Int) =>
        some (y8 == (0 : Int))) N a1 (0 : Int) a0 (((List.length a0) : Nat) : Int) (0 : Int)

/-- euphroe/euphroelaw01.alive -/
def p18 (c19 : Int → Int → Bool → Option ((List Int) × Int)) (c21 : List Int → Bool → Option (Int × Int)) (c42 : List Int → Option (List UInt8)) (c47 : List Int → List Int → Option Bool) (N : Nat)  : Option Bool :=
  match c19 (258 : Int) (2 : Int) false with
  | none => none
  | some r1 =>
    match c19 (258 : Int) (2 : Int) true with
    | none => none
    | some r2 =>
      match c21 r1.1 false with
      | none => none
      | some r3 =>
        bif ((List.map (fun n : Int => UInt8.ofNat n.toNat) r1.1) == ([(1 : UInt8), (2 : UInt8)] : List UInt8)) then
          bif (r1.2 == (0 : Int)) then
            bif ((List.map (fun n : Int => UInt8.ofNat n.toNat) r2.1) == ([(2 : UInt8), (1 : UInt8)] : List UInt8)) then
              bif (r2.2 == (0 : Int)) then
                bif (r3.1 == (258 : Int)) then
                  bif (r3.2 == (0 : Int)) then
                    match c42 ([(171 : Int)] : List Int) with
                    | none => none
                    | some r4 =>
                      bif (r4 == ([(65 : UInt8), (66 : UInt8)] : List UInt8)) then
                        match c47 r1.1 r1.1 with
                        | none => none
                        | some r5 =>
                          some r5
                      else
                        some false
                  else
                    some false
                else
                  some false
              else
                some false
            else
              some false
          else
            some false
        else
          some false

/-- internal/stringslite.IndexByte -/
def p65 (c66 : List UInt8 → Int → Option Int) (N : Nat) (a0 : List UInt8) (a1 : Int) : Option Int :=
  match c66 a0 a1 with
  | none => none
  | some r1 =>
    some r1

/-- strings.IndexByte -/
def p63 (c65 : List UInt8 → Int → Option Int) (N : Nat) (a0 : List UInt8) (a1 : Int) : Option Int :=
  match c65 a0 a1 with
  | none => none
  | some r1 =>
    some r1

/-- euphroe/octs.digit -/
def p59 (c63 : List UInt8 → Int → Option Int) (N : Nat) (a0 : Int) : Option Int :=
  bif (decide (a0 ≥ (97 : Int))) then
    bif (decide (a0 ≤ (102 : Int))) then
      match c63 ([(48 : UInt8), (49 : UInt8), (50 : UInt8), (51 : UInt8), (52 : UInt8), (53 : UInt8), (54 : UInt8), (55 : UInt8), (56 : UInt8), (57 : UInt8), (65 : UInt8), (66 : UInt8), (67 : UInt8), (68 : UInt8), (69 : UInt8), (70 : UInt8)] : List UInt8) (isub .u8 a0 (32 : Int)) with
      | none => none
      | some r1 =>
        some r1
    else
      match c63 ([(48 : UInt8), (49 : UInt8), (50 : UInt8), (51 : UInt8), (52 : UInt8), (53 : UInt8), (54 : UInt8), (55 : UInt8), (56 : UInt8), (57 : UInt8), (65 : UInt8), (66 : UInt8), (67 : UInt8), (68 : UInt8), (69 : UInt8), (70 : UInt8)] : List UInt8) a0 with
      | none => none
      | some r2 =>
        some r2
  else
    match c63 ([(48 : UInt8), (49 : UInt8), (50 : UInt8), (51 : UInt8), (52 : UInt8), (53 : UInt8), (54 : UInt8), (55 : UInt8), (56 : UInt8), (57 : UInt8), (65 : UInt8), (66 : UInt8), (67 : UInt8), (68 : UInt8), (69 : UInt8), (70 : UInt8)] : List UInt8) a0 with
    | none => none
    | some r3 =>
      some r3

def L40_0 (c59 : Int → Option Int) (N : Nat) : Nat → List UInt8 → Nat → List Int → Option ((List Int) × Int)
  | 0, _, _, _ => none
  | n0 + 1, v5, v6, v7 =>
    bif (v5 == ([] : List UInt8)) then
      bif (decide ((0 + (v6 * 1)) ≤ (List.length v7))) then
        some ((List.take v6 (List.drop 0 v7)), (0 : Int))
      else none
    else
      match geti v5 (0 : Int) with
      | none => none
      | some x8 =>
        match c59 ((UInt8.toNat x8 : Nat) : Int) with
        | none => none
        | some r9 =>
          match geti v5 (1 : Int) with
          | none => none
          | some x10 =>
            match c59 ((UInt8.toNat x10 : Nat) : Int) with
            | none => none
            | some r11 =>
              bif (decide ((ior .i64 (ishl .i64 r9 (4 : Int)) r11) < (0 : Int))) then
                some (([] : List Int), (3 : Int))
              else
                bif (((List.length v7) == (v6 * 1)) && ((decide (((v6 + 1) * 1) ≤ 1099511627776)) && (decide ((v6 + 1) ≤ 1099511627776)))) then
                  bif (decide ((2 : Int) ≤ (((List.length v5) : Nat) : Int))) then
                    L40_0 c59 N  n0 (List.take ((List.length v5) - 2) (List.drop 2 v5)) (v6 + 1) (v7 ++ [(IntKind.wrap .u8 (ior .i64 (ishl .i64 r9 (4 : Int)) r11))])
                  else none
                else none
/-- euphroe/octs.Unhex -/
def p40 (c59 : Int → Option Int) (N : Nat) (a0 : List UInt8) : Option ((List Int) × Int) :=
  bif ((irem (((List.length a0) : Nat) : Int) (2 : Int)) != (0 : Int)) then
    some (([] : List Int), (3 : Int))
  else
    bif (a0 == ([] : List UInt8)) then
      some (([] : List Int), (0 : Int))
    else
      match geti a0 (0 : Int) with
      | none => none
      | some x1 =>
        match c59 ((UInt8.toNat x1 : Nat) : Int) with
        | none => none
        | some r2 =>
          match geti a0 (1 : Int) with
          | none => none
          | some x3 =>
            match c59 ((UInt8.toNat x3 : Nat) : Int) with
            | none => none
            | some r4 =>
              bif (decide ((ior .i64 (ishl .i64 r2 (4 : Int)) r4) < (0 : Int))) then
                some (([] : List Int), (3 : Int))
              else
                bif (decide ((2 : Int) ≤ (((List.length a0) : Nat) : Int))) then
                  L40_0 c59 N N (List.take ((List.length a0) - 2) (List.drop 2 a0)) 1 ([(IntKind.wrap .u8 (ior .i64 (ishl .i64 r2 (4 : Int)) r4))] : List Int)
                else none

/-- euphroe/euphroeref01.Digit -/
def p60 (N : Nat) (a0 : Int) : Option Int :=
  bif (decide (a0 ≥ (48 : Int))) then
    bif (decide (a0 ≤ (57 : Int))) then
      some (isub .u8 a0 (48 : Int))
    else
      bif (decide (a0 ≥ (97 : Int))) then
        bif (decide (a0 ≤ (102 : Int))) then
          some (iadd .u8 (isub .u8 a0 (97 : Int)) (10 : Int))
        else
          bif (decide (a0 ≥ (65 : Int))) then
            bif (decide (a0 ≤ (70 : Int))) then
              some (iadd .u8 (isub .u8 a0 (65 : Int)) (10 : Int))
            else
              some (16 : Int)
          else
            some (16 : Int)
      else
        bif (decide (a0 ≥ (65 : Int))) then
          bif (decide (a0 ≤ (70 : Int))) then
            some (iadd .u8 (isub .u8 a0 (65 : Int)) (10 : Int))
          else
            some (16 : Int)
        else
          some (16 : Int)
  else
    bif (decide (a0 ≥ (97 : Int))) then
      bif (decide (a0 ≤ (102 : Int))) then
        some (iadd .u8 (isub .u8 a0 (97 : Int)) (10 : Int))
      else
        bif (decide (a0 ≥ (65 : Int))) then
          bif (decide (a0 ≤ (70 : Int))) then
            some (iadd .u8 (isub .u8 a0 (65 : Int)) (10 : Int))
          else
            some (16 : Int)
        else
          some (16 : Int)
    else
      bif (decide (a0 ≥ (65 : Int))) then
        bif (decide (a0 ≤ (70 : Int))) then
          some (iadd .u8 (isub .u8 a0 (65 : Int)) (10 : Int))
        else
          some (16 : Int)
      else
        some (16 : Int)

def L41_0 (c60 : Int → Option Int) (N : Nat) (q0_0 : Nat → List Int → Option ((List Int) × Int)) : Nat → List UInt8 → Nat → Int → List Int → Option ((List Int) × Int)
  | 0, _, _, _, _ => none
  | n0 + 1, v1, v2, v3, v4 =>
    bif (decide (v3 < (((List.length v1) : Nat) : Int))) then
      match geti v1 v3 with
      | none => none
      | some x5 =>
        match c60 ((UInt8.toNat x5 : Nat) : Int) with
        | none => none
        | some r6 =>
          match geti v1 (iadd .i64 v3 (1 : Int)) with
          | none => none
          | some x7 =>
            match c60 ((UInt8.toNat x7 : Nat) : Int) with
            | none => none
            | some r8 =>
              bif (decide (r6 > (15 : Int))) then
                some (([] : List Int), (3 : Int))
              else
                bif (decide (r8 > (15 : Int))) then
                  some (([] : List Int), (3 : Int))
                else
                  bif (((List.length v4) == (v2 * 1)) && ((decide (((v2 + 1) * 1) ≤ 1099511627776)) && (decide ((v2 + 1) ≤ 1099511627776)))) then
                    L41_0 c60 N q0_0 n0 v1 (v2 + 1) (iadd .i64 v3 (2 : Int)) (v4 ++ [(iadd .u8 (imul .u8 (16 : Int) r6) r8)])
                  else none
    else
      q0_0 v2 v4
/-- euphroe/euphroeref01.Unhex -/
def p41 (c60 : Int → Option Int) (N : Nat) (a0 : List UInt8) : Option ((List Int) × Int) :=
  bif ((irem (((List.length a0) : Nat) : Int) (2 : Int)) != (0 : Int)) then
    some (([] : List Int), (3 : Int))
  else
    L41_0 c60 N (fun (y9 : Nat) (y10 : List Int) =>
        bif (decide ((0 + (y9 * 1)) ≤ (List.length y10))) then
          some ((List.take y9 (List.drop 0 y10)), (0 : Int))
        else none) N a0 0 (0 : Int) ([] : List Int)

def L43_0 (N : Nat) (q0_0 : List UInt8 → Option (List UInt8)) : Nat → List Int → List UInt8 → List UInt8 → Int → Option (List UInt8)
  | 0, _, _, _, _ => none
  | n0 + 1, v1, v2, v3, v4 =>
    bif (decide (v4 < (((List.length v1) : Nat) : Int))) then
      match geti v1 v4 with
      | none => none
      | some x5 =>
        match geti v1 v4 with
        | none => none
        | some x6 =>
          bif ((decide ((0 : Int) ≤ (iadd .i64 (IntKind.wrap .i64 (iquo .u8 x5 (16 : Int))) (1 : Int)))) && (decide ((iadd .i64 (IntKind.wrap .i64 (iquo .u8 x5 (16 : Int))) (1 : Int)) ≤ (((List.length v2) : Nat) : Int)))) then
            bif ((decide ((0 : Int) ≤ (IntKind.wrap .i64 (iquo .u8 x5 (16 : Int))))) && (decide ((IntKind.wrap .i64 (iquo .u8 x5 (16 : Int))) ≤ (((Int.toNat (iadd .i64 (IntKind.wrap .i64 (iquo .u8 x5 (16 : Int))) (1 : Int))) : Nat) : Int)))) then
              bif ((decide ((0 : Int) ≤ (iadd .i64 (IntKind.wrap .i64 (irem x6 (16 : Int))) (1 : Int)))) && (decide ((iadd .i64 (IntKind.wrap .i64 (irem x6 (16 : Int))) (1 : Int)) ≤ (((List.length v2) : Nat) : Int)))) then
                bif ((decide ((0 : Int) ≤ (IntKind.wrap .i64 (irem x6 (16 : Int))))) && (decide ((IntKind.wrap .i64 (irem x6 (16 : Int))) ≤ (((Int.toNat (iadd .i64 (IntKind.wrap .i64 (irem x6 (16 : Int))) (1 : Int))) : Nat) : Int)))) then
                  bif (decide (((List.length (List.take ((Int.toNat (iadd .i64 (IntKind.wrap .i64 (iquo .u8 x5 (16 : Int))) (1 : Int))) - (Int.toNat (IntKind.wrap .i64 (iquo .u8 x5 (16 : Int))))) (List.drop (Int.toNat (IntKind.wrap .i64 (iquo .u8 x5 (16 : Int)))) v2))) + (List.length (List.take ((Int.toNat (iadd .i64 (IntKind.wrap .i64 (irem x6 (16 : Int))) (1 : Int))) - (Int.toNat (IntKind.wrap .i64 (irem x6 (16 : Int))))) (List.drop (Int.toNat (IntKind.wrap .i64 (irem x6 (16 : Int)))) v2)))) < 1152921504606846976)) then
                    bif (decide (((List.length v3) + (List.length ((List.take ((Int.toNat (iadd .i64 (IntKind.wrap .i64 (iquo .u8 x5 (16 : Int))) (1 : Int))) - (Int.toNat (IntKind.wrap .i64 (iquo .u8 x5 (16 : Int))))) (List.drop (Int.toNat (IntKind.wrap .i64 (iquo .u8 x5 (16 : Int)))) v2)) ++ (List.take ((Int.toNat (iadd .i64 (IntKind.wrap .i64 (irem x6 (16 : Int))) (1 : Int))) - (Int.toNat (IntKind.wrap .i64 (irem x6 (16 : Int))))) (List.drop (Int.toNat (IntKind.wrap .i64 (irem x6 (16 : Int)))) v2))))) < 1152921504606846976)) then
                      L43_0 N q0_0 n0 v1 v2 (v3 ++ ((List.take ((Int.toNat (iadd .i64 (IntKind.wrap .i64 (iquo .u8 x5 (16 : Int))) (1 : Int))) - (Int.toNat (IntKind.wrap .i64 (iquo .u8 x5 (16 : Int))))) (List.drop (Int.toNat (IntKind.wrap .i64 (iquo .u8 x5 (16 : Int)))) v2)) ++ (List.take ((Int.toNat (iadd .i64 (IntKind.wrap .i64 (irem x6 (16 : Int))) (1 : Int))) - (Int.toNat (IntKind.wrap .i64 (irem x6 (16 : Int))))) (List.drop (Int.toNat (IntKind.wrap .i64 (irem x6 (16 : Int)))) v2)))) (iadd .i64 v4 (1 : Int))
                    else none
                  else none
                else none
              else none
            else none
          else none
    else
      q0_0 v3
/-- euphroe/euphroeref01.Hex -/
def p43 (N : Nat) (a0 : List Int) : Option (List UInt8) :=
  L43_0 N (fun (y7 : List UInt8) =>
      some y7) N a0 ([(48 : UInt8), (49 : UInt8), (50 : UInt8), (51 : UInt8), (52 : UInt8), (53 : UInt8), (54 : UInt8), (55 : UInt8), (56 : UInt8), (57 : UInt8), (65 : UInt8), (66 : UInt8), (67 : UInt8), (68 : UInt8), (69 : UInt8), (70 : UInt8)] : List UInt8) ([] : List UInt8) (0 : Int)

def L23_0 (N : Nat) (q0_0 : Option Bool) : Nat → List Int → List Int → Int → Option Bool
  | 0, _, _, _ => none
  | n0 + 1, v1, v2, v3 =>
    bif (decide (v3 < (((List.length v1) : Nat) : Int))) then
      match geti v1 v3 with
      | none => none
      | some x4 =>
        match geti v2 v3 with
        | none => none
        | some x5 =>
          bif (x4 != x5) then
            some false
          else
            L23_0 N q0_0 n0 v1 v2 (iadd .i64 v3 (1 : Int))
    else
      q0_0
/-- euphroe/euphroeref01.Same -/
def p23 (N : Nat) (a0 : List Int) (a1 : List Int) : Option Bool :=
  bif ((((List.length a0) : Nat) : Int) != (((List.length a1) : Nat) : Int)) then
    some false
  else
    L23_0 N (
        some true) N a0 a1 (0 : Int)

/-- euphroe/euphroelaw01.OctsHex -/
def p15 (c18 : Option Bool) (c40 : List UInt8 → Option ((List Int) × Int)) (c41 : List UInt8 → Option ((List Int) × Int)) (c42 : List Int → Option (List UInt8)) (c43 : List Int → Option (List UInt8)) (c23 : List Int → List Int → Option Bool) (N : Nat) (a0 : List Int) (a1 : List UInt8) : Option Bool :=
  bif (decide ((((List.length a0) : Nat) : Int) > (300 : Int))) then
    match c18 with
    | none => none
    | some r1 =>
      some r1
  else
    bif (decide ((((List.length a1) : Nat) : Int) > (300 : Int))) then
      match c18 with
      | none => none
      | some r2 =>
        some r2
    else
      match c40 a1 with
      | none => none
      | some r3 =>
        match c41 a1 with
        | none => none
        | some r4 =>
          match c42 a0 with
          | none => none
          | some r5 =>
            match c43 a0 with
            | none => none
            | some r6 =>
              bif (r5 == r6) then
                match c23 r3.1 r4.1 with
                | none => none
                | some r7 =>
                  bif r7 then
                    bif (r3.2 == r4.2) then
                      match c18 with
                      | none => none
                      | some r8 =>
                        some r8
                    else
                      some false
                  else
                    some false
              else
                some false

def L44_0 (c61 : List Int → Option (List Int)) (N : Nat) (q0_0 : Nat → List Int → Option ((List Int) × Int)) : Nat → Nat → List Int → Int → Int → List Int → Option ((List Int) × Int)
  | 0, _, _, _, _, _ => none
  | n0 + 1, v2, v3, v4, v5, v6 =>
    bif (decide (v5 < v4)) then
      match geti v3 v5 with
      | none => none
      | some x7 =>
        bif ((decide ((0 : Int) ≤ v5)) && (decide (v5 < ((v2 : Nat) : Int)))) then
          match (v6)[(0 + ((Int.toNat v5) * 1))]? with
          | none => none
          | some x8 =>
            bif ((decide ((0 : Int) ≤ v5)) && (decide (v5 < ((v2 : Nat) : Int)))) then
              bif (decide ((0 + ((Int.toNat v5) * 1)) < (List.length v6))) then
                L44_0 c61 N q0_0 n0 v2 v3 v4 (iadd .i64 v5 (1 : Int)) (List.set v6 (0 + ((Int.toNat v5) * 1)) (ixor .u8 x8 x7))
              else none
            else none
        else none
    else
      q0_0 v2 v6
/-- euphroe/octs.Xor -/
def p44 (c61 : List Int → Option (List Int)) (N : Nat) (a0 : List Int) (a1 : List Int) : Option ((List Int) × Int) :=
  bif ((((List.length a0) : Nat) : Int) != (((List.length a1) : Nat) : Int)) then
    some (([] : List Int), (1 : Int))
  else
    match c61 a0 with
    | none => none
    | some r1 =>
      L44_0 c61 N (fun (y9 : Nat) (y10 : List Int) =>
          bif (decide ((0 + (y9 * 1)) ≤ (List.length y10))) then
            some ((List.take y9 (List.drop 0 y10)), (0 : Int))
          else none) N (List.length r1) a1 (((List.length a1) : Nat) : Int) (0 : Int) r1

def L45_0 (N : Nat) (q0_0 : Nat → Nat → List Int → Option ((List Int) × Int)) : Nat → List Int → List Int → Nat → Nat → Int → List Int → Option ((List Int) × Int)
  | 0, _, _, _, _, _, _ => none
  | n0 + 1, v1, v2, v3, v4, v5, v6 =>
    bif (decide (v5 < (((List.length v1) : Nat) : Int))) then
      match geti v1 v5 with
      | none => none
      | some x7 =>
        match geti v2 v5 with
        | none => none
        | some x8 =>
          bif ((decide ((0 : Int) ≤ v5)) && (decide (v5 < ((v3 : Nat) : Int)))) then
            bif (decide ((0 + ((Int.toNat v5) * 1)) < (List.length v6))) then
              L45_0 N q0_0 n0 v1 v2 v3 v4 (iadd .i64 v5 (1 : Int)) (List.set v6 (0 + ((Int.toNat v5) * 1)) (ixor .u8 x7 x8))
            else none
          else none
    else
      q0_0 v3 v4 v6
/-- euphroe/euphroeref01.Xor -/
def p45 (N : Nat) (a0 : List Int) (a1 : List Int) : Option ((List Int) × Int) :=
  bif ((((List.length a0) : Nat) : Int) != (((List.length a1) : Nat) : Int)) then
    some (([] : List Int), (1 : Int))
  else
    bif ((decide ((0 : Int) ≤ (((List.length a0) : Nat) : Int))) && ((decide ((((List.length a0) : Nat) : Int) ≤ (((List.length a0) : Nat) : Int))) && ((decide (((((List.length a0) : Nat) : Int) * ((1 : Nat) : Int)) ≤ (1099511627776 : Int))) && (decide ((((List.length a0) : Nat) : Int) ≤ (1099511627776 : Int)))))) then
      L45_0 N (fun (y9 : Nat) (y10 : Nat) (y11 : List Int) =>
          bif (decide ((0 + (y9 * 1)) ≤ (List.length y11))) then
            some ((List.take y9 (List.drop 0 y11)), (0 : Int))
          else none) N a0 a1 (Int.toNat (((List.length a0) : Nat) : Int)) (Int.toNat (((List.length a0) : Nat) : Int)) (0 : Int) (List.replicate (Int.toNat (((List.length a0) : Nat) : Int)) (0 : Int))
    else none

/-- euphroe/octs.Join -/
def p46 (c1 : List (List Int) → Option (List Int)) (N : Nat) (a0 : List (List Int)) : Option (List Int) :=
  match c1 a0 with
  | none => none
  | some r1 =>
    bif ((List.length r1) == (List.length r1)) then
      some r1
    else none

/-- euphroe/euphroelaw01.OctsTurns -/
def p16 (c18 : Option Bool) (c44 : List Int → List Int → Option ((List Int) × Int)) (c45 : List Int → List Int → Option ((List Int) × Int)) (c46 : List (List Int) → Option (List Int)) (c23 : List Int → List Int → Option Bool) (c47 : List Int → List Int → Option Bool) (N : Nat) (a0 : List Int) (a1 : List Int) : Option Bool :=
  bif (decide ((((List.length a0) : Nat) : Int) > (300 : Int))) then
    match c18 with
    | none => none
    | some r1 =>
      some r1
  else
    bif (decide ((((List.length a1) : Nat) : Int) > (300 : Int))) then
      match c18 with
      | none => none
      | some r2 =>
        some r2
    else
      match c44 a0 a1 with
      | none => none
      | some r3 =>
        match c45 a0 a1 with
        | none => none
        | some r4 =>
          match c46 ([a0, ([] : List Int), a1] : List (List Int)) with
          | none => none
          | some r5 =>
            match c23 r3.1 r4.1 with
            | none => none
            | some r6 =>
              bif r6 then
                bif (r3.2 == r4.2) then
                  match c47 a0 a1 with
                  | none => none
                  | some r7 =>
                    match c23 a0 a1 with
                    | none => none
                    | some r8 =>
                      bif (r7 == r8) then
                        bif ((((List.length r5) : Nat) : Int) == (iadd .i64 (((List.length a0) : Nat) : Int) (((List.length a1) : Nat) : Int))) then
                          bif ((decide ((0 : Int) ≤ (((List.length a0) : Nat) : Int))) && (decide ((((List.length a0) : Nat) : Int) ≤ (((List.length r5) : Nat) : Int)))) then
                            bif (decide ((0 + ((Int.toNat (((List.length a0) : Nat) : Int)) * 1)) ≤ (List.length r5))) then
                              match c23 (List.take (Int.toNat (((List.length a0) : Nat) : Int)) (List.drop 0 r5)) a0 with
                              | none => none
                              | some r9 =>
                                bif r9 then
                                  bif ((decide ((0 : Int) ≤ (((List.length a0) : Nat) : Int))) && (decide ((((List.length a0) : Nat) : Int) ≤ (((List.length r5) : Nat) : Int)))) then
                                    bif (decide (((0 + ((Int.toNat (((List.length a0) : Nat) : Int)) * 1)) + (((List.length r5) - (Int.toNat (((List.length a0) : Nat) : Int))) * 1)) ≤ (List.length r5))) then
                                      match c23 (List.take ((List.length r5) - (Int.toNat (((List.length a0) : Nat) : Int))) (List.drop (0 + ((Int.toNat (((List.length a0) : Nat) : Int)) * 1)) r5)) a1 with
                                      | none => none
                                      | some r10 =>
                                        bif r10 then
                                          match c18 with
                                          | none => none
                                          | some r11 =>
                                            some r11
                                        else
                                          some false
                                    else none
                                  else none
                                else
                                  some false
                            else none
                          else none
                        else
                          some false
                      else
                        some false
                else
                  some false
              else
                some false

/-- euphroe/euphroelaw01.OctsBack -/
def p17 (c18 : Option Bool) (c19 : Int → Int → Bool → Option ((List Int) × Int)) (c21 : List Int → Bool → Option (Int × Int)) (c44 : List Int → List Int → Option ((List Int) × Int)) (c42 : List Int → Option (List UInt8)) (c40 : List UInt8 → Option ((List Int) × Int)) (c23 : List Int → List Int → Option Bool) (N : Nat) (a0 : Int) (a1 : Int) (a2 : (List Int) × (List Int)) : Option Bool :=
  bif (decide ((((List.length a2.1) : Nat) : Int) > (300 : Int))) then
    match c18 with
    | none => none
    | some r1 =>
      some r1
  else
    bif (decide ((((List.length a2.2) : Nat) : Int) > (300 : Int))) then
      match c18 with
      | none => none
      | some r2 =>
        some r2
    else
      match c19 a0 a1 true with
      | none => none
      | some r3 =>
        match c21 r3.1 true with
        | none => none
        | some r4 =>
          bif (r3.2 == (0 : Int)) then
            bif (r4.2 != (0 : Int)) then
              some false
            else
              bif (a1 == (8 : Int)) then
                bif (r4.1 != a0) then
                  some false
                else
                  bif (decide (a1 < (8 : Int))) then
                    bif (decide ((imul .i64 (8 : Int) a1) < (0 : Int))) then
                      none
                    else
                      bif ((ishl .u64 (1 : Int) (imul .i64 (8 : Int) a1)) == (0 : Int)) then
                        none
                      else
                        bif (r4.1 != (irem a0 (ishl .u64 (1 : Int) (imul .i64 (8 : Int) a1)))) then
                          some false
                        else
                          bif ((((List.length r3.1) : Nat) : Int) != a1) then
                            some false
                          else
                            match c44 a2.1 a2.2 with
                            | none => none
                            | some r5 =>
                              match c44 r5.1 a2.2 with
                              | none => none
                              | some r6 =>
                                match c42 a2.1 with
                                | none => none
                                | some r7 =>
                                  match c40 r7 with
                                  | none => none
                                  | some r8 =>
                                    bif (r5.2 != (0 : Int)) then
                                      match c23 r8.1 a2.1 with
                                      | none => none
                                      | some r9 =>
                                        bif r9 then
                                          bif (r8.2 == (0 : Int)) then
                                            match c18 with
                                            | none => none
                                            | some r10 =>
                                              some r10
                                          else
                                            some false
                                        else
                                          some false
                                    else
                                      bif (r6.2 == (0 : Int)) then
                                        match c23 r6.1 a2.1 with
                                        | none => none
                                        | some r11 =>
                                          bif r11 then
                                            match c23 r8.1 a2.1 with
                                            | none => none
                                            | some r12 =>
                                              bif r12 then
                                                bif (r8.2 == (0 : Int)) then
                                                  match c18 with
                                                  | none => none
                                                  | some r13 =>
                                                    some r13
                                                else
                                                  some false
                                              else
                                                some false
                                          else
                                            some false
                                      else
                                        some false
                  else
                    bif ((((List.length r3.1) : Nat) : Int) != a1) then
                      some false
                    else
                      match c44 a2.1 a2.2 with
                      | none => none
                      | some r14 =>
                        match c44 r14.1 a2.2 with
                        | none => none
                        | some r15 =>
                          match c42 a2.1 with
                          | none => none
                          | some r16 =>
                            match c40 r16 with
                            | none => none
                            | some r17 =>
                              bif (r14.2 != (0 : Int)) then
                                match c23 r17.1 a2.1 with
                                | none => none
                                | some r18 =>
                                  bif r18 then
                                    bif (r17.2 == (0 : Int)) then
                                      match c18 with
                                      | none => none
                                      | some r19 =>
                                        some r19
                                    else
                                      some false
                                  else
                                    some false
                              else
                                bif (r15.2 == (0 : Int)) then
                                  match c23 r15.1 a2.1 with
                                  | none => none
                                  | some r20 =>
                                    bif r20 then
                                      match c23 r17.1 a2.1 with
                                      | none => none
                                      | some r21 =>
                                        bif r21 then
                                          bif (r17.2 == (0 : Int)) then
                                            match c18 with
                                            | none => none
                                            | some r22 =>
                                              some r22
                                          else
                                            some false
                                        else
                                          some false
                                    else
                                      some false
                                else
                                  some false
              else
                bif (decide (a1 < (8 : Int))) then
                  bif (decide ((imul .i64 (8 : Int) a1) < (0 : Int))) then
                    none
                  else
                    bif ((ishl .u64 (1 : Int) (imul .i64 (8 : Int) a1)) == (0 : Int)) then
                      none
                    else
                      bif (r4.1 != (irem a0 (ishl .u64 (1 : Int) (imul .i64 (8 : Int) a1)))) then
                        some false
                      else
                        bif ((((List.length r3.1) : Nat) : Int) != a1) then
                          some false
                        else
                          match c44 a2.1 a2.2 with
                          | none => none
                          | some r23 =>
                            match c44 r23.1 a2.2 with
                            | none => none
                            | some r24 =>
                              match c42 a2.1 with
                              | none => none
                              | some r25 =>
                                match c40 r25 with
                                | none => none
                                | some r26 =>
                                  bif (r23.2 != (0 : Int)) then
                                    match c23 r26.1 a2.1 with
                                    | none => none
                                    | some r27 =>
                                      bif r27 then
                                        bif (r26.2 == (0 : Int)) then
                                          match c18 with
                                          | none => none
                                          | some r28 =>
                                            some r28
                                        else
                                          some false
                                      else
                                        some false
                                  else
                                    bif (r24.2 == (0 : Int)) then
                                      match c23 r24.1 a2.1 with
                                      | none => none
                                      | some r29 =>
                                        bif r29 then
                                          match c23 r26.1 a2.1 with
                                          | none => none
                                          | some r30 =>
                                            bif r30 then
                                              bif (r26.2 == (0 : Int)) then
                                                match c18 with
                                                | none => none
                                                | some r31 =>
                                                  some r31
                                              else
                                                some false
                                            else
                                              some false
                                        else
                                          some false
                                    else
                                      some false
                else
                  bif ((((List.length r3.1) : Nat) : Int) != a1) then
                    some false
                  else
                    match c44 a2.1 a2.2 with
                    | none => none
                    | some r32 =>
                      match c44 r32.1 a2.2 with
                      | none => none
                      | some r33 =>
                        match c42 a2.1 with
                        | none => none
                        | some r34 =>
                          match c40 r34 with
                          | none => none
                          | some r35 =>
                            bif (r32.2 != (0 : Int)) then
                              match c23 r35.1 a2.1 with
                              | none => none
                              | some r36 =>
                                bif r36 then
                                  bif (r35.2 == (0 : Int)) then
                                    match c18 with
                                    | none => none
                                    | some r37 =>
                                      some r37
                                  else
                                    some false
                                else
                                  some false
                            else
                              bif (r33.2 == (0 : Int)) then
                                match c23 r33.1 a2.1 with
                                | none => none
                                | some r38 =>
                                  bif r38 then
                                    match c23 r35.1 a2.1 with
                                    | none => none
                                    | some r39 =>
                                      bif r39 then
                                        bif (r35.2 == (0 : Int)) then
                                          match c18 with
                                          | none => none
                                          | some r40 =>
                                            some r40
                                        else
                                          some false
                                      else
                                        some false
                                  else
                                    some false
                              else
                                some false
          else
            match c44 a2.1 a2.2 with
            | none => none
            | some r41 =>
              match c44 r41.1 a2.2 with
              | none => none
              | some r42 =>
                match c42 a2.1 with
                | none => none
                | some r43 =>
                  match c40 r43 with
                  | none => none
                  | some r44 =>
                    bif (r41.2 != (0 : Int)) then
                      match c23 r44.1 a2.1 with
                      | none => none
                      | some r45 =>
                        bif r45 then
                          bif (r44.2 == (0 : Int)) then
                            match c18 with
                            | none => none
                            | some r46 =>
                              some r46
                          else
                            some false
                        else
                          some false
                    else
                      bif (r42.2 == (0 : Int)) then
                        match c23 r42.1 a2.1 with
                        | none => none
                        | some r47 =>
                          bif r47 then
                            match c23 r44.1 a2.1 with
                            | none => none
                            | some r48 =>
                              bif r48 then
                                bif (r44.2 == (0 : Int)) then
                                  match c18 with
                                  | none => none
                                  | some r49 =>
                                    some r49
                                else
                                  some false
                              else
                                some false
                          else
                            some false
                      else
                        some false
end Go.Proofs.YtjkdflcccoeggaaE
