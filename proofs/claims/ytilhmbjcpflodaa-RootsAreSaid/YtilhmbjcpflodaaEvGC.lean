/- The functions as plain ones. -/
import Derived.Test.YtilhmbjcpflodaaEvFC
namespace Go.Proofs.YtilhmbjcpflodaaE
open Go
set_option linter.unusedVariables false
set_option linter.unusedSimpArgs false
/-- euphroe/euphroeref01.Same -/
abbrev en23 (f : List Int → List Int → Option Bool) : Ent := ⟨[(Sh.sl (Sh.int .u8)), (Sh.sl (Sh.int .u8))], Bool, fun v => f v.1 v.2.1, fun r => ((Sh.bool).enc r, [])⟩
/-- euphroe/euphroelaw02.RootsAre -/
abbrev en67 (f : Int → Int → Int → Option Bool) : Ent := ⟨[(Sh.int .i64), (Sh.int .i64), (Sh.int .i64)], Bool, fun v => f v.1 v.2.1 v.2.2.1, fun r => ((Sh.bool).enc r, [])⟩
/-- euphroe/euphroelaw02.RootsPrimes -/
abbrev en68 (f : Int → Bool → Option Bool) : Ent := ⟨[(Sh.int .i64), Sh.bool], Bool, fun v => f v.1 v.2.1, fun r => ((Sh.bool).enc r, [])⟩
/-- euphroe/euphroelaw02.RootsRise -/
abbrev en69 (f : Int → Int → Int → Option Bool) : Ent := ⟨[(Sh.int .i64), (Sh.int .i64), (Sh.int .i64)], Bool, fun v => f v.1 v.2.1 v.2.2.1, fun r => ((Sh.bool).enc r, [])⟩
/-- euphroe/euphroelaw02.RootsSieve -/
abbrev en70 (f : Int → Option Bool) : Ent := ⟨[(Sh.int .u8)], Bool, fun v => f v.1, fun r => ((Sh.bool).enc r, [])⟩
/-- euphroe/roots.Root -/
abbrev en75 (f : Int → Int → Int → Option (Int × Int)) : Ent := ⟨[(Sh.int .i64), (Sh.int .i64), (Sh.int .i64)], Int × Int, fun v => f v.1 v.2.1 v.2.2.1, fun r => (((Sh.tu (Sh.pr (Sh.int .u64) (Sh.int .i64)))).enc r, [])⟩
/-- euphroe/euphroeref02.Root -/
abbrev en76 (f : Int → Int → Int → Option (Int × Int)) : Ent := ⟨[(Sh.int .i64), (Sh.int .i64), (Sh.int .i64)], Int × Int, fun v => f v.1 v.2.1 v.2.2.1, fun r => (((Sh.tu (Sh.pr (Sh.int .u64) (Sh.int .i64)))).enc r, [])⟩
/-- euphroe/roots.Is -/
abbrev en77 (f : Int → Int → Int → Int → Option Bool) : Ent := ⟨[(Sh.int .u64), (Sh.int .i64), (Sh.int .i64), (Sh.int .i64)], Bool, fun v => f v.1 v.2.1 v.2.2.1 v.2.2.2.1, fun r => ((Sh.bool).enc r, [])⟩
/-- euphroe/roots.Frac -/
abbrev en78 (f : Int → Int → Option Int) : Ent := ⟨[(Sh.int .i64), (Sh.int .i64)], Int, fun v => f v.1 v.2.1, fun r => (((Sh.int .u32)).enc r, [])⟩
/-- euphroe/euphroeref02.Frac -/
abbrev en79 (f : Int → Int → Option Int) : Ent := ⟨[(Sh.int .i64), (Sh.int .i64)], Int, fun v => f v.1 v.2.1, fun r => (((Sh.int .u32)).enc r, [])⟩
/-- euphroe/euphroelaw02.alive -/
abbrev en80 (f : Option Bool) : Ent := ⟨[], Bool, fun v => f, fun r => ((Sh.bool).enc r, [])⟩
/-- euphroe/roots.Primes -/
abbrev en81 (f : Int → Option (List Int)) : Ent := ⟨[(Sh.int .i64)], List Int, fun v => f v.1, fun r => (((Sh.sl (Sh.int .i64))).enc r, [])⟩
/-- euphroe/euphroeref02.Primes -/
abbrev en82 (f : Int → Option (List Int)) : Ent := ⟨[(Sh.int .i64)], List Int, fun v => f v.1, fun r => (((Sh.sl (Sh.int .i64))).enc r, [])⟩
/-- euphroe/roots.Fracs -/
abbrev en83 (f : Int → Int → Option (List Int)) : Ent := ⟨[(Sh.int .i64), (Sh.int .i64)], List Int, fun v => f v.1 v.2.1, fun r => (((Sh.sl (Sh.int .u32))).enc r, [])⟩
/-- euphroe/roots.may -/
abbrev en100 (f : Int → Int → Int → Option Bool) : Ent := ⟨[(Sh.int .i64), (Sh.int .i64), (Sh.int .i64)], Bool, fun v => f v.1 v.2.1 v.2.2.1, fun r => ((Sh.bool).enc r, [])⟩
/-- euphroe/roots.full -/
abbrev en101 (f : Int → Int → Option Int) : Ent := ⟨[(Sh.int .i64), (Sh.int .i64)], Int, fun v => f v.1 v.2.1, fun r => (((Sh.int .u64)).enc r, [])⟩
/-- euphroe/euphroeref02.may -/
abbrev en102 (f : Int → Int → Int → Option Bool) : Ent := ⟨[(Sh.int .i64), (Sh.int .i64), (Sh.int .i64)], Bool, fun v => f v.1 v.2.1 v.2.2.1, fun r => ((Sh.bool).enc r, [])⟩
/-- euphroe/euphroeref02.most -/
abbrev en103 (f : Int → Int → Option (List Int)) : Ent := ⟨[(Sh.int .u64), (Sh.int .i64)], List Int, fun v => f v.1 v.2.1, fun r => (((Sh.sl (Sh.int .u64))).enc r, [])⟩
/-- euphroe/euphroeref02.above -/
abbrev en104 (f : List Int → List Int → Option Bool) : Ent := ⟨[(Sh.sl (Sh.int .u64)), (Sh.sl (Sh.int .u64))], Bool, fun v => f v.1 v.2.1, fun r => ((Sh.bool).enc r, [])⟩
/-- euphroe/euphroeref02.power -/
abbrev en105 (f : Int → Int → Option (List Int)) : Ent := ⟨[(Sh.int .u64), (Sh.int .i64)], List Int, fun v => f v.1 v.2.1, fun r => (((Sh.sl (Sh.int .u64))).enc r, [])⟩
/-- euphroe/chans.isWay -/
abbrev en111 (f : Int → Option Bool) : Ent := ⟨[(Sh.int .i64)], Bool, fun v => f v.1, fun r => ((Sh.bool).enc r, [])⟩
/-- euphroe/euphroeref38.way -/
abbrev en112 (f : Int → Option Bool) : Ent := ⟨[(Sh.int .i64)], Bool, fun v => f v.1, fun r => ((Sh.bool).enc r, [])⟩
/-- euphroe/roots.fits -/
abbrev en116 (f : Int → Int → Int → Option Bool) : Ent := ⟨[(Sh.int .u64), (Sh.int .u64), (Sh.int .i64)], Bool, fun v => f v.1 v.2.1 v.2.2.1, fun r => ((Sh.bool).enc r, [])⟩
/-- euphroe/euphroeref02.digits -/
abbrev en117 (f : Int → Option (List Int)) : Ent := ⟨[(Sh.int .u64)], List Int, fun v => f v.1, fun r => (((Sh.sl (Sh.int .u64))).enc r, [])⟩
/-- euphroe/euphroeref02.times -/
abbrev en118 (f : List Int → List Int → Option (List Int)) : Ent := ⟨[(Sh.sl (Sh.int .u64)), (Sh.sl (Sh.int .u64))], List Int, fun v => f v.1 v.2.1, fun r => (((Sh.sl (Sh.int .u64))).enc r, [])⟩
/-- euphroe/euphroeref02.at -/
abbrev en119 (f : List Int → Int → Option Int) : Ent := ⟨[(Sh.sl (Sh.int .u64)), (Sh.int .i64)], Int, fun v => f v.1 v.2.1, fun r => (((Sh.int .u64)).enc r, [])⟩
/-- math/bits.Mul64 -/
abbrev en120 (f : Int → Int → Option (Int × Int)) : Ent := ⟨[(Sh.int .u64), (Sh.int .u64)], Int × Int, fun v => f v.1 v.2.1, fun r => (((Sh.tu (Sh.pr (Sh.int .u64) (Sh.int .u64)))).enc r, [])⟩
def PR115v0 : Pr := ⟨(.cons (.int .i64) (.cons (.ptr 0 0) (.cons (.ptr 1 0) .nil))), [(.ints false .i64), (.ints false .i64)]⟩
def QR115v0 : Pr := ⟨(.cons .bool .nil), [(.ints false .i64), (.ints false .i64)]⟩
/-- euphroe/roots.full$1 -/
abbrev rn115v0 (f : Int → List Int → List Int → Option ((Bool × Unit) × ((List Int) × ((List Int) × Unit)))) : REnt := ⟨PR115v0, QR115v0, (Bool × Unit) × ((List Int) × ((List Int) × Unit)), fun v => f v.1.1 v.2.1 v.2.2.1, fun r => r⟩
def PR114v0 : Pr := ⟨(.cons (.int .i64) (.cons (.fn 115 (.cons (.ptr 0 0) (.cons (.ptr 1 0) .nil))) .nil)), [(.ints false .i64), (.ints false .i64)]⟩
def QR114v0 : Pr := ⟨(.cons (.int .i64) .nil), [(.ints false .i64), (.ints false .i64)]⟩
/-- sort.Search -/
abbrev rn114v0 (f : Int → List Int → List Int → Option ((Int × Unit) × ((List Int) × ((List Int) × Unit)))) : REnt := ⟨PR114v0, QR114v0, (Int × Unit) × ((List Int) × ((List Int) × Unit)), fun v => f v.1.1 v.2.1 v.2.2.1, fun r => r⟩

def L23_0 (N : Nat) (q0_0 : Option Bool) : Nat → List Int → List Int → Int → Option Bool
  | 0, _, _, _ => none
  | n0 + 1, v1, v2, v3 =>
    bif (decide (v3 < (((List.length v1) : Nat) : Int))) then
      match geti v1 v3 with
      | none => none
      | some x4 =>
        match geti v2 v3 with
        | none => none
        | some x5 =>
          bif (x4 != x5) then
            some false
          else
            L23_0 N q0_0 n0 v1 v2 (iadd .i64 v3 (1 : Int))
    else
      q0_0
/-- euphroe/euphroeref01.Same -/
def p23 (N : Nat) (a0 : List Int) (a1 : List Int) : Option Bool :=
  bif ((((List.length a0) : Nat) : Int) != (((List.length a1) : Nat) : Int)) then
    some false
  else
    L23_0 N (
        some true) N a0 a1 (0 : Int)

/-- euphroe/roots.may -/
def p100 (N : Nat) (a0 : Int) (a1 : Int) (a2 : Int) : Option Bool :=
  bif (decide (a0 ≥ (0 : Int))) then
    bif (decide (a0 ≤ (1000 : Int))) then
      bif (a1 == (2 : Int)) then
        bif (decide (a2 ≥ (0 : Int))) then
          some (decide (a2 ≤ (32 : Int)))
        else
          some false
      else
        bif (a1 == (3 : Int)) then
          bif (decide (a2 ≥ (0 : Int))) then
            some (decide (a2 ≤ (32 : Int)))
          else
            some false
        else
          some false
    else
      some false
  else
    some false

/-- math/bits.Mul64 -/
def p120 (N : Nat) (a0 : Int) (a1 : Int) : Option (Int × Int) :=
  some ((iadd .u64 (iadd .u64 (imul .u64 (ishr .u64 a0 (32 : Int)) (ishr .u64 a1 (32 : Int))) (ishr .u64 (iadd .u64 (imul .u64 (ishr .u64 a0 (32 : Int)) (iand .u64 a1 (4294967295 : Int))) (ishr .u64 (imul .u64 (iand .u64 a0 (4294967295 : Int)) (iand .u64 a1 (4294967295 : Int))) (32 : Int))) (32 : Int))) (ishr .u64 (iadd .u64 (iand .u64 (iadd .u64 (imul .u64 (ishr .u64 a0 (32 : Int)) (iand .u64 a1 (4294967295 : Int))) (ishr .u64 (imul .u64 (iand .u64 a0 (4294967295 : Int)) (iand .u64 a1 (4294967295 : Int))) (32 : Int))) (4294967295 : Int)) (imul .u64 (iand .u64 a0 (4294967295 : Int)) (ishr .u64 a1 (32 : Int)))) (32 : Int))), (imul .u64 a0 a1))

/-- euphroe/roots.fits -/
def p116 (c120 : Int → Int → Option (Int × Int)) (N : Nat) (a0 : Int) (a1 : Int) (a2 : Int) : Option Bool :=
  match c120 a0 a0 with
  | none => none
  | some r1 =>
    bif (a2 == (2 : Int)) then
      bif (decide (r1.1 < a1)) then
        some true
      else
        bif (r1.1 == a1) then
          some (r1.2 == (0 : Int))
        else
          some false
    else
      match c120 r1.2 a0 with
      | none => none
      | some r2 =>
        bif (decide ((iadd .u64 (imul .u64 r1.1 a0) r2.1) < (ishl .u64 a1 (32 : Int)))) then
          some true
        else
          bif ((iadd .u64 (imul .u64 r1.1 a0) r2.1) == (ishl .u64 a1 (32 : Int))) then
            some (r2.2 == (0 : Int))
          else
            some false

/-- euphroe/roots.full$1 -/
def p115v0 (c116 : Int → Int → Int → Option Bool) (N : Nat) (a0 : Int) (a1 : List Int) (a2 : List Int) : Option ((Bool × Unit) × ((List Int) × ((List Int) × Unit))) :=
  match (a1)[0]? with
  | none => none
  | some x1 =>
    match (a2)[0]? with
    | none => none
    | some x2 =>
      match c116 (iadd .u64 (IntKind.wrap .u64 a0) (1 : Int)) (IntKind.wrap .u64 x1) x2 with
      | none => none
      | some r3 =>
        some (((!r3), ()), (a1, (a2, ())))

def L114v0_0 (d115v0 : Int → List Int → List Int → Option ((Bool × Unit) × ((List Int) × ((List Int) × Unit)))) (N : Nat) (q0_0 : Int → List Int → List Int → Option ((Int × Unit) × ((List Int) × ((List Int) × Unit)))) : Nat → Int → Int → List Int → List Int → Option ((Int × Unit) × ((List Int) × ((List Int) × Unit)))
  | 0, _, _, _, _ => none
  | n0 + 1, v1, v2, v3, v4 =>
    bif (decide (v1 < v2)) then
      match d115v0 (IntKind.wrap .i64 (ishr .u64 (IntKind.wrap .u64 (iadd .i64 v1 v2)) (1 : Int))) v3 v4 with
      | none => none
      | some r5 =>
        bif (!r5.1.1) then
          L114v0_0 d115v0 N q0_0 n0 (iadd .i64 (IntKind.wrap .i64 (ishr .u64 (IntKind.wrap .u64 (iadd .i64 v1 v2)) (1 : Int))) (1 : Int)) v2 r5.2.1 r5.2.2.1
        else
          L114v0_0 d115v0 N q0_0 n0 v1 (IntKind.wrap .i64 (ishr .u64 (IntKind.wrap .u64 (iadd .i64 v1 v2)) (1 : Int))) r5.2.1 r5.2.2.1
    else
      q0_0 v1 v3 v4
/-- sort.Search -/
def p114v0 (d115v0 : Int → List Int → List Int → Option ((Bool × Unit) × ((List Int) × ((List Int) × Unit)))) (N : Nat) (a0 : Int) (a1 : List Int) (a2 : List Int) : Option ((Int × Unit) × ((List Int) × ((List Int) × Unit))) :=
  L114v0_0 d115v0 N (fun (y6 : Int) (y7 : List Int) (y8 : List Int) =>
      some ((y6, ()), (y7, (y8, ())))) N (0 : Int) a0 a1 a2

/-- euphroe/roots.full -/
def p101 (d114v0 : Int → List Int → List Int → Option ((Int × Unit) × ((List Int) × ((List Int) × Unit)))) (N : Nat) (a0 : Int) (a1 : Int) : Option Int :=
  match d114v0 (274877906944 : Int) ([a0] : List Int) ([a1] : List Int) with
  | none => none
  | some r1 =>
    some (IntKind.wrap .u64 r1.1.1)

/-- euphroe/roots.Root -/
def p75 (c100 : Int → Int → Int → Option Bool) (c101 : Int → Int → Option Int) (N : Nat) (a0 : Int) (a1 : Int) (a2 : Int) : Option (Int × Int) :=
  match c100 a0 a1 a2 with
  | none => none
  | some r1 =>
    bif (!r1) then
      some ((0 : Int), (1 : Int))
    else
      match c101 a0 a1 with
      | none => none
      | some r2 =>
        bif (decide ((isub .i64 (32 : Int) a2) < (0 : Int))) then
          none
        else
          some ((ishr .u64 r2 (isub .i64 (32 : Int) a2)), (0 : Int))

/-- euphroe/euphroeref02.may -/
def p102 (N : Nat) (a0 : Int) (a1 : Int) (a2 : Int) : Option Bool :=
  bif (decide (a0 ≥ (0 : Int))) then
    bif (decide (a0 ≤ (1000 : Int))) then
      bif (a1 == (2 : Int)) then
        bif (decide (a2 ≥ (0 : Int))) then
          some (decide (a2 ≤ (32 : Int)))
        else
          some false
      else
        bif (a1 == (3 : Int)) then
          bif (decide (a2 ≥ (0 : Int))) then
            some (decide (a2 ≤ (32 : Int)))
          else
            some false
        else
          some false
    else
      some false
  else
    some false

def L117_0 (N : Nat) (q0_0 : Nat → List Int → Option (List Int)) : Nat → Int → Nat → List Int → Option (List Int)
  | 0, _, _, _ => none
  | n0 + 1, v1, v2, v3 =>
    bif (decide (v1 > (0 : Int))) then
      bif (((List.length v3) == (v2 * 1)) && ((decide (((v2 + 1) * 8) ≤ 1099511627776)) && (decide ((v2 + 1) ≤ 1099511627776)))) then
        L117_0 N q0_0 n0 (iquo .u64 v1 (65536 : Int)) (v2 + 1) (v3 ++ [(irem v1 (65536 : Int))])
      else none
    else
      q0_0 v2 v3
/-- euphroe/euphroeref02.digits -/
def p117 (N : Nat) (a0 : Int) : Option (List Int) :=
  L117_0 N (fun (y4 : Nat) (y5 : List Int) =>
      bif (decide ((0 + (y4 * 1)) ≤ (List.length y5))) then
        some (List.take y4 (List.drop 0 y5))
      else none) N a0 0 ([] : List Int)

def L118_1 (N : Nat) (q1_2 : List Int → List Int → Nat → Nat → Int → Int → List Int → Option (List Int)) : Nat → List Int → List Int → Nat → Nat → Int → Int → Int → List Int → Option (List Int)
  | 0, _, _, _, _, _, _, _, _ => none
  | n1 + 1, v7, v8, v9, v10, v11, v12, v13, v14 =>
    bif (decide (v13 < (((List.length v8) : Nat) : Int))) then
      bif ((decide ((0 : Int) ≤ (iadd .i64 v11 v13))) && (decide ((iadd .i64 v11 v13) < ((v9 : Nat) : Int)))) then
        match (v14)[(0 + ((Int.toNat (iadd .i64 v11 v13)) * 1))]? with
        | none => none
        | some x15 =>
          match geti v7 v11 with
          | none => none
          | some x16 =>
            match geti v8 v13 with
            | none => none
            | some x17 =>
              bif ((decide ((0 : Int) ≤ (iadd .i64 v11 v13))) && (decide ((iadd .i64 v11 v13) < ((v9 : Nat) : Int)))) then
                bif (decide ((0 + ((Int.toNat (iadd .i64 v11 v13)) * 1)) < (List.length v14))) then
                  L118_1 N q1_2 n1 v7 v8 v9 v10 v11 (iquo .u64 (iadd .u64 (iadd .u64 x15 (imul .u64 x16 x17)) v12) (65536 : Int)) (iadd .i64 v13 (1 : Int)) (List.set v14 (0 + ((Int.toNat (iadd .i64 v11 v13)) * 1)) (irem (iadd .u64 (iadd .u64 x15 (imul .u64 x16 x17)) v12) (65536 : Int)))
                else none
              else none
      else none
    else
      q1_2 v7 v8 v9 v10 v11 v12 v14
def L118_0 (N : Nat) (q0_0 : Nat → Nat → List Int → Option (List Int)) : Nat → List Int → List Int → Nat → Nat → Int → List Int → Option (List Int)
  | 0, _, _, _, _, _, _ => none
  | n0 + 1, v1, v2, v3, v4, v5, v6 =>
    bif (decide (v5 < (((List.length v1) : Nat) : Int))) then
      L118_1 N (fun (y18 : List Int) (y19 : List Int) (y20 : Nat) (y21 : Nat) (y22 : Int) (y23 : Int) (y24 : List Int) =>
          bif ((decide ((0 : Int) ≤ (iadd .i64 y22 (((List.length y19) : Nat) : Int)))) && (decide ((iadd .i64 y22 (((List.length y19) : Nat) : Int)) < ((y20 : Nat) : Int)))) then
            match (y24)[(0 + ((Int.toNat (iadd .i64 y22 (((List.length y19) : Nat) : Int))) * 1))]? with
            | none => none
            | some x25 =>
              bif ((decide ((0 : Int) ≤ (iadd .i64 y22 (((List.length y19) : Nat) : Int)))) && (decide ((iadd .i64 y22 (((List.length y19) : Nat) : Int)) < ((y20 : Nat) : Int)))) then
                bif (decide ((0 + ((Int.toNat (iadd .i64 y22 (((List.length y19) : Nat) : Int))) * 1)) < (List.length y24))) then
                  L118_0 N q0_0 n0 y18 y19 y20 y21 (iadd .i64 y22 (1 : Int)) (List.set y24 (0 + ((Int.toNat (iadd .i64 y22 (((List.length y19) : Nat) : Int))) * 1)) (iadd .u64 x25 y23))
                else none
              else none
          else none) N v1 v2 v3 v4 v5 (0 : Int) (0 : Int) v6
    else
      q0_0 v3 v4 v6
/-- euphroe/euphroeref02.times -/
def p118 (N : Nat) (a0 : List Int) (a1 : List Int) : Option (List Int) :=
  bif ((decide ((0 : Int) ≤ (iadd .i64 (iadd .i64 (((List.length a0) : Nat) : Int) (((List.length a1) : Nat) : Int)) (1 : Int)))) && ((decide ((iadd .i64 (iadd .i64 (((List.length a0) : Nat) : Int) (((List.length a1) : Nat) : Int)) (1 : Int)) ≤ (iadd .i64 (iadd .i64 (((List.length a0) : Nat) : Int) (((List.length a1) : Nat) : Int)) (1 : Int)))) && ((decide (((iadd .i64 (iadd .i64 (((List.length a0) : Nat) : Int) (((List.length a1) : Nat) : Int)) (1 : Int)) * ((8 : Nat) : Int)) ≤ (1099511627776 : Int))) && (decide ((iadd .i64 (iadd .i64 (((List.length a0) : Nat) : Int) (((List.length a1) : Nat) : Int)) (1 : Int)) ≤ (1099511627776 : Int)))))) then
    L118_0 N (fun (y26 : Nat) (y27 : Nat) (y28 : List Int) =>
        bif (decide ((0 + (y26 * 1)) ≤ (List.length y28))) then
          some (List.take y26 (List.drop 0 y28))
        else none) N a0 a1 (Int.toNat (iadd .i64 (iadd .i64 (((List.length a0) : Nat) : Int) (((List.length a1) : Nat) : Int)) (1 : Int))) (Int.toNat (iadd .i64 (iadd .i64 (((List.length a0) : Nat) : Int) (((List.length a1) : Nat) : Int)) (1 : Int))) (0 : Int) (List.replicate (Int.toNat (iadd .i64 (iadd .i64 (((List.length a0) : Nat) : Int) (((List.length a1) : Nat) : Int)) (1 : Int))) (0 : Int))
  else none

def L103_0 (c117 : Int → Option (List Int)) (c118 : List Int → List Int → Option (List Int)) (N : Nat) (q0_0 : List Int → Option (List Int)) : Nat → Int → List Int → Int → Option (List Int)
  | 0, _, _, _ => none
  | n0 + 1, v2, v3, v4 =>
    bif (decide (v4 < v2)) then
      match c118 v3 ([(2 : Int)] : List Int) with
      | none => none
      | some r5 =>
        L103_0 c117 c118 N q0_0 n0 v2 r5 (iadd .i64 v4 (1 : Int))
    else
      q0_0 v3
/-- euphroe/euphroeref02.most -/
def p103 (c117 : Int → Option (List Int)) (c118 : List Int → List Int → Option (List Int)) (N : Nat) (a0 : Int) (a1 : Int) : Option (List Int) :=
  match c117 a0 with
  | none => none
  | some r1 =>
    L103_0 c117 c118 N (fun (y6 : List Int) =>
        some y6) N a1 r1 (0 : Int)

def L105_0 (c117 : Int → Option (List Int)) (c118 : List Int → List Int → Option (List Int)) (N : Nat) (q0_0 : List Int → Option (List Int)) : Nat → Int → Int → List Int → Int → Option (List Int)
  | 0, _, _, _, _ => none
  | n0 + 1, v1, v2, v3, v4 =>
    bif (decide (v4 < v2)) then
      match c117 v1 with
      | none => none
      | some r5 =>
        match c118 v3 r5 with
        | none => none
        | some r6 =>
          L105_0 c117 c118 N q0_0 n0 v1 v2 r6 (iadd .i64 v4 (1 : Int))
    else
      q0_0 v3
/-- euphroe/euphroeref02.power -/
def p105 (c117 : Int → Option (List Int)) (c118 : List Int → List Int → Option (List Int)) (N : Nat) (a0 : Int) (a1 : Int) : Option (List Int) :=
  L105_0 c117 c118 N (fun (y7 : List Int) =>
      some y7) N a0 a1 ([(1 : Int)] : List Int) (0 : Int)

/-- euphroe/euphroeref02.at -/
def p119 (N : Nat) (a0 : List Int) (a1 : Int) : Option Int :=
  bif (decide (a1 < (((List.length a0) : Nat) : Int))) then
    match geti a0 a1 with
    | none => none
    | some x1 =>
      some x1
  else
    some (0 : Int)

def L104_0 (c119 : List Int → Int → Option Int) (N : Nat) (q0_0 : Option Bool) : Nat → List Int → List Int → Int → Option Bool
  | 0, _, _, _ => none
  | n0 + 1, v1, v2, v3 =>
    bif (decide (v3 ≥ (0 : Int))) then
      match c119 v1 v3 with
      | none => none
      | some r4 =>
        match c119 v2 v3 with
        | none => none
        | some r5 =>
          bif (r4 != r5) then
            match c119 v1 v3 with
            | none => none
            | some r6 =>
              match c119 v2 v3 with
              | none => none
              | some r7 =>
                some (decide (r6 > r7))
          else
            L104_0 c119 N q0_0 n0 v1 v2 (isub .i64 v3 (1 : Int))
    else
      q0_0
/-- euphroe/euphroeref02.above -/
def p104 (c119 : List Int → Int → Option Int) (N : Nat) (a0 : List Int) (a1 : List Int) : Option Bool :=
  L104_0 c119 N (
      some false) N a0 a1 (isub .i64 (if (((List.length a1) : Nat) : Int) > (((List.length a0) : Nat) : Int) then (((List.length a1) : Nat) : Int) else (((List.length a0) : Nat) : Int)) (1 : Int))

def L76_0 (c102 : Int → Int → Int → Option Bool) (c103 : Int → Int → Option (List Int)) (c105 : Int → Int → Option (List Int)) (c104 : List Int → List Int → Option Bool) (N : Nat) (q0_0 : Int → Option (Int × Int)) : Nat → Int → List Int → Int → Int → Option (Int × Int)
  | 0, _, _, _, _ => none
  | n0 + 1, v3, v4, v5, v6 =>
    bif (decide (v6 > (0 : Int))) then
      match c105 (iadd .u64 v5 v6) v3 with
      | none => none
      | some r7 =>
        match c104 r7 v4 with
        | none => none
        | some r8 =>
          bif (!r8) then
            L76_0 c102 c103 c105 c104 N q0_0 n0 v3 v4 (iadd .u64 v5 v6) (iquo .u64 v6 (2 : Int))
          else
            L76_0 c102 c103 c105 c104 N q0_0 n0 v3 v4 v5 (iquo .u64 v6 (2 : Int))
    else
      q0_0 v5
/-- euphroe/euphroeref02.Root -/
def p76 (c102 : Int → Int → Int → Option Bool) (c103 : Int → Int → Option (List Int)) (c105 : Int → Int → Option (List Int)) (c104 : List Int → List Int → Option Bool) (N : Nat) (a0 : Int) (a1 : Int) (a2 : Int) : Option (Int × Int) :=
  match c102 a0 a1 a2 with
  | none => none
  | some r1 =>
    bif (!r1) then
      some ((0 : Int), (1 : Int))
    else
      match c103 (IntKind.wrap .u64 a0) (imul .i64 a1 a2) with
      | none => none
      | some r2 =>
        L76_0 c102 c103 c105 c104 N (fun (y9 : Int) =>
            some (y9, (0 : Int))) N a1 r2 (0 : Int) (1099511627776 : Int)

/-- euphroe/roots.Is -/
def p77 (c75 : Int → Int → Int → Option (Int × Int)) (N : Nat) (a0 : Int) (a1 : Int) (a2 : Int) (a3 : Int) : Option Bool :=
  match c75 a1 a2 a3 with
  | none => none
  | some r1 =>
    bif (r1.2 == (0 : Int)) then
      some (r1.1 == a0)
    else
      some false

/-- euphroe/roots.Frac -/
def p78 (c75 : Int → Int → Int → Option (Int × Int)) (N : Nat) (a0 : Int) (a1 : Int) : Option Int :=
  match c75 a0 a1 (32 : Int) with
  | none => none
  | some r1 =>
    some (IntKind.wrap .u32 r1.1)

/-- euphroe/euphroeref02.Frac -/
def p79 (c76 : Int → Int → Int → Option (Int × Int)) (N : Nat) (a0 : Int) (a1 : Int) : Option Int :=
  match c76 a0 a1 (32 : Int) with
  | none => none
  | some r1 =>
    some (IntKind.wrap .u32 (irem r1.1 (4294967296 : Int)))

def L81_1 (N : Nat) (q1_1 : Int → Nat → Int → List Int → Option (List Int)) (q1_2 : Int → Nat → Int → List Int → Option (List Int)) : Nat → Int → Nat → Int → Nat → Int → Int → List Int → Option (List Int)
  | 0, _, _, _, _, _, _, _ => none
  | n1 + 1, v5, v6, v7, v8, v9, v10, v11 =>
    bif (decide (v10 < v9)) then
      bif ((decide ((0 : Int) ≤ v10)) && (decide (v10 < ((v8 : Nat) : Int)))) then
        match (v11)[(0 + ((Int.toNat v10) * 1))]? with
        | none => none
        | some x12 =>
          bif (x12 == (0 : Int)) then
            none
          else
            bif ((irem v7 x12) == (0 : Int)) then
              q1_1 v5 v6 v7 v11
            else
              L81_1 N q1_1 q1_2 n1 v5 v6 v7 v8 v9 (iadd .i64 v10 (1 : Int)) v11
      else none
    else
      q1_2 v5 v6 v7 v11
def L81_0 (N : Nat) (q0_0 : Nat → List Int → Option (List Int)) : Nat → Int → Nat → Int → List Int → Option (List Int)
  | 0, _, _, _, _ => none
  | n0 + 1, v1, v2, v3, v4 =>
    bif (decide (v3 < (1000 : Int))) then
      bif (decide (((v2 : Nat) : Int) < v1)) then
        L81_1 N (fun (y13 : Int) (y14 : Nat) (y15 : Int) (y16 : List Int) =>
            L81_0 N q0_0 n0 y13 y14 (iadd .i64 y15 (1 : Int)) y16) (fun (y17 : Int) (y18 : Nat) (y19 : Int) (y20 : List Int) =>
            bif (((List.length y20) == (y18 * 1)) && ((decide (((y18 + 1) * 8) ≤ 1099511627776)) && (decide ((y18 + 1) ≤ 1099511627776)))) then
              L81_0 N q0_0 n0 y17 (y18 + 1) (iadd .i64 y19 (1 : Int)) (y20 ++ [y19])
            else none) N v1 v2 v3 v2 ((v2 : Nat) : Int) (0 : Int) v4
      else
        q0_0 v2 v4
    else
      q0_0 v2 v4
/-- euphroe/roots.Primes -/
def p81 (N : Nat) (a0 : Int) : Option (List Int) :=
  L81_0 N (fun (y21 : Nat) (y22 : List Int) =>
      bif (decide ((0 + (y21 * 1)) ≤ (List.length y22))) then
        some (List.take y21 (List.drop 0 y22))
      else none) N a0 0 (2 : Int) ([] : List Int)

def L83_0 (c81 : Int → Option (List Int)) (c78 : Int → Int → Option Int) (N : Nat) (q0_0 : Nat → List Int → Option (List Int)) : Nat → Int → Nat → List Int → Int → Int → List Int → Option (List Int)
  | 0, _, _, _, _, _, _ => none
  | n0 + 1, v2, v3, v4, v5, v6, v7 =>
    bif (decide (v6 < v5)) then
      match geti v4 v6 with
      | none => none
      | some x8 =>
        match c78 x8 v2 with
        | none => none
        | some r9 =>
          bif (((List.length v7) == (v3 * 1)) && ((decide (((v3 + 1) * 4) ≤ 1099511627776)) && (decide ((v3 + 1) ≤ 1099511627776)))) then
            L83_0 c81 c78 N q0_0 n0 v2 (v3 + 1) v4 v5 (iadd .i64 v6 (1 : Int)) (v7 ++ [r9])
          else none
    else
      q0_0 v3 v7
/-- euphroe/roots.Fracs -/
def p83 (c81 : Int → Option (List Int)) (c78 : Int → Int → Option Int) (N : Nat) (a0 : Int) (a1 : Int) : Option (List Int) :=
  match c81 a0 with
  | none => none
  | some r1 =>
    L83_0 c81 c78 N (fun (y10 : Nat) (y11 : List Int) =>
        bif (decide ((0 + (y10 * 1)) ≤ (List.length y11))) then
          some (List.take y10 (List.drop 0 y11))
        else none) N a1 0 r1 (((List.length r1) : Nat) : Int) (0 : Int) ([] : List Int)

/-- euphroe/euphroelaw02.alive -/
def p80 (c75 : Int → Int → Int → Option (Int × Int)) (c81 : Int → Option (List Int)) (c78 : Int → Int → Option Int) (c77 : Int → Int → Int → Int → Option Bool) (c83 : Int → Int → Option (List Int)) (N : Nat)  : Option Bool :=
  match c75 (2 : Int) (2 : Int) (30 : Int) with
  | none => none
  | some r1 =>
    match c81 (4 : Int) with
    | none => none
    | some r2 =>
      bif (r1.1 == (1518500249 : Int)) then
        bif (r1.2 == (0 : Int)) then
          bif ((((List.length r2) : Nat) : Int) == (4 : Int)) then
            match geti r2 (3 : Int) with
            | none => none
            | some x3 =>
              bif (x3 == (7 : Int)) then
                match c78 (2 : Int) (2 : Int) with
                | none => none
                | some r4 =>
                  bif (r4 == (1779033703 : Int)) then
                    match c77 (2 : Int) (4 : Int) (2 : Int) (0 : Int) with
                    | none => none
                    | some r5 =>
                      bif r5 then
                        match c83 (2 : Int) (3 : Int) with
                        | none => none
                        | some r6 =>
                          some ((((List.length r6) : Nat) : Int) == (2 : Int))
                      else
                        some false
                  else
                    some false
              else
                some false
          else
            some false
        else
          some false
      else
        some false

/-- euphroe/euphroelaw02.RootsAre -/
def p67 (c75 : Int → Int → Int → Option (Int × Int)) (c76 : Int → Int → Int → Option (Int × Int)) (c77 : Int → Int → Int → Int → Option Bool) (c78 : Int → Int → Option Int) (c79 : Int → Int → Option Int) (c80 : Option Bool) (N : Nat) (a0 : Int) (a1 : Int) (a2 : Int) : Option Bool :=
  match c75 a0 a1 a2 with
  | none => none
  | some r1 =>
    match c76 a0 a1 a2 with
    | none => none
    | some r2 =>
      bif (r1.1 == r2.1) then
        bif (r1.2 == r2.2) then
          match c77 r2.1 a0 a1 a2 with
          | none => none
          | some r3 =>
            bif (r3 == (r2.2 == (0 : Int))) then
              match c77 (ixor .u64 r2.1 (1 : Int)) a0 a1 a2 with
              | none => none
              | some r4 =>
                bif (!r4) then
                  match c78 a0 a1 with
                  | none => none
                  | some r5 =>
                    match c79 a0 a1 with
                    | none => none
                    | some r6 =>
                      bif (r5 == r6) then
                        match c80 with
                        | none => none
                        | some r7 =>
                          some r7
                      else
                        some false
                else
                  some false
            else
              some false
        else
          some false
      else
        some false

def L82_1 (N : Nat) (q1_2 : Int → Nat → Int → Int → List Int → Option (List Int)) : Nat → Int → Nat → Int → Int → List Int → Option (List Int)
  | 0, _, _, _, _, _ => none
  | n1 + 1, v5, v6, v7, v8, v9 =>
    bif (decide (v8 < v7)) then
      bif (v8 == (0 : Int)) then
        none
      else
        bif ((irem v7 v8) != (0 : Int)) then
          L82_1 N q1_2 n1 v5 v6 v7 (iadd .i64 v8 (1 : Int)) v9
        else
          q1_2 v5 v6 v7 v8 v9
    else
      q1_2 v5 v6 v7 v8 v9
def L82_0 (N : Nat) (q0_0 : Nat → List Int → Option (List Int)) : Nat → Int → Nat → Int → List Int → Option (List Int)
  | 0, _, _, _, _ => none
  | n0 + 1, v1, v2, v3, v4 =>
    bif (decide (v3 < (1000 : Int))) then
      bif (decide (((v2 : Nat) : Int) < v1)) then
        L82_1 N (fun (y10 : Int) (y11 : Nat) (y12 : Int) (y13 : Int) (y14 : List Int) =>
            bif (y13 == y12) then
              bif (((List.length y14) == (y11 * 1)) && ((decide (((y11 + 1) * 8) ≤ 1099511627776)) && (decide ((y11 + 1) ≤ 1099511627776)))) then
                L82_0 N q0_0 n0 y10 (y11 + 1) (iadd .i64 y12 (1 : Int)) (y14 ++ [y12])
              else none
            else
              L82_0 N q0_0 n0 y10 y11 (iadd .i64 y12 (1 : Int)) y14) N v1 v2 v3 (2 : Int) v4
      else
        q0_0 v2 v4
    else
      q0_0 v2 v4
/-- euphroe/euphroeref02.Primes -/
def p82 (N : Nat) (a0 : Int) : Option (List Int) :=
  L82_0 N (fun (y15 : Nat) (y16 : List Int) =>
      bif (decide ((0 + (y15 * 1)) ≤ (List.length y16))) then
        some (List.take y15 (List.drop 0 y16))
      else none) N a0 0 (2 : Int) ([] : List Int)

def L68_0 (c81 : Int → Option (List Int)) (c82 : Int → Option (List Int)) (c83 : Int → Int → Option (List Int)) (c79 : Int → Int → Option Int) (c80 : Option Bool) (N : Nat) (q0_0 : Int → Int → List Int → Option Bool) : Nat → Int → Int → List Int → List Int → Int → Int → Option Bool
  | 0, _, _, _, _, _, _ => none
  | n0 + 1, v3, v4, v5, v6, v7, v8 =>
    bif (decide (v8 < v7)) then
      match geti v5 v8 with
      | none => none
      | some x9 =>
        match geti v6 v8 with
        | none => none
        | some x10 =>
          bif (x9 != x10) then
            some false
          else
            L68_0 c81 c82 c83 c79 c80 N q0_0 n0 v3 v4 v5 v6 v7 (iadd .i64 v8 (1 : Int))
    else
      q0_0 v3 v4 v6
def L68_1 (c81 : Int → Option (List Int)) (c82 : Int → Option (List Int)) (c83 : Int → Int → Option (List Int)) (c79 : Int → Int → Option Int) (c80 : Option Bool) (N : Nat) (q1_2 : Option Bool) : Nat → Int → List Int → List Int → Int → Int → Option Bool
  | 0, _, _, _, _, _ => none
  | n1 + 1, v15, v16, v17, v18, v19 =>
    bif (decide (v19 < v18)) then
      match geti v17 v19 with
      | none => none
      | some x20 =>
        match geti v16 v19 with
        | none => none
        | some x21 =>
          match c79 x21 v15 with
          | none => none
          | some r22 =>
            bif (x20 != r22) then
              some false
            else
              L68_1 c81 c82 c83 c79 c80 N q1_2 n1 v15 v16 v17 v18 (iadd .i64 v19 (1 : Int))
    else
      q1_2
/-- euphroe/euphroelaw02.RootsPrimes -/
def p68 (c81 : Int → Option (List Int)) (c82 : Int → Option (List Int)) (c83 : Int → Int → Option (List Int)) (c79 : Int → Int → Option Int) (c80 : Option Bool) (N : Nat) (a0 : Int) (a1 : Bool) : Option Bool :=
  bif a1 then
    match c81 a0 with
    | none => none
    | some r1 =>
      match c82 a0 with
      | none => none
      | some r2 =>
        bif ((((List.length r1) : Nat) : Int) != (((List.length r2) : Nat) : Int)) then
          some false
        else
          L68_0 c81 c82 c83 c79 c80 N (fun (y11 : Int) (y12 : Int) (y13 : List Int) =>
              match c83 (if (10 : Int) < y11 then (10 : Int) else y11) y12 with
              | none => none
              | some r14 =>
                bif ((((List.length r14) : Nat) : Int) != (if (10 : Int) < (((List.length y13) : Nat) : Int) then (10 : Int) else (((List.length y13) : Nat) : Int))) then
                  some false
                else
                  L68_1 c81 c82 c83 c79 c80 N (
                      match c80 with
                      | none => none
                      | some r23 =>
                        some r23) N y12 y13 r14 (((List.length r14) : Nat) : Int) (0 : Int)) N a0 (3 : Int) r1 r2 (((List.length r1) : Nat) : Int) (0 : Int)
  else
    match c81 a0 with
    | none => none
    | some r24 =>
      match c82 a0 with
      | none => none
      | some r25 =>
        bif ((((List.length r24) : Nat) : Int) != (((List.length r25) : Nat) : Int)) then
          some false
        else
          L68_0 c81 c82 c83 c79 c80 N (fun (y26 : Int) (y27 : Int) (y28 : List Int) =>
              match c83 (if (10 : Int) < y26 then (10 : Int) else y26) y27 with
              | none => none
              | some r29 =>
                bif ((((List.length r29) : Nat) : Int) != (if (10 : Int) < (((List.length y28) : Nat) : Int) then (10 : Int) else (((List.length y28) : Nat) : Int))) then
                  some false
                else
                  L68_1 c81 c82 c83 c79 c80 N (
                      match c80 with
                      | none => none
                      | some r30 =>
                        some r30) N y27 y28 r29 (((List.length r29) : Nat) : Int) (0 : Int)) N a0 (2 : Int) r24 r25 (((List.length r24) : Nat) : Int) (0 : Int)

/-- euphroe/euphroelaw02.RootsRise -/
def p69 (c75 : Int → Int → Int → Option (Int × Int)) (c77 : Int → Int → Int → Int → Option Bool) (c80 : Option Bool) (N : Nat) (a0 : Int) (a1 : Int) (a2 : Int) : Option Bool :=
  match c75 a0 a1 a2 with
  | none => none
  | some r1 =>
    bif (r1.2 != (0 : Int)) then
      bif (r1.1 == (0 : Int)) then
        match c77 (0 : Int) a0 a1 a2 with
        | none => none
        | some r2 =>
          bif (!r2) then
            match c80 with
            | none => none
            | some r3 =>
              some r3
          else
            some false
      else
        some false
    else
      bif (decide (a0 < (1000 : Int))) then
        match c75 (iadd .i64 a0 (1 : Int)) a1 a2 with
        | none => none
        | some r4 =>
          bif (r4.2 != (0 : Int)) then
            some false
          else
            bif (decide (r4.1 < r1.1)) then
              some false
            else
              bif (decide (a2 < (32 : Int))) then
                match c75 a0 a1 (iadd .i64 a2 (1 : Int)) with
                | none => none
                | some r5 =>
                  bif (r5.2 != (0 : Int)) then
                    some false
                  else
                    bif ((iquo .u64 r5.1 (2 : Int)) != r1.1) then
                      some false
                    else
                      match c80 with
                      | none => none
                      | some r6 =>
                        some r6
              else
                match c80 with
                | none => none
                | some r7 =>
                  some r7
      else
        bif (decide (a2 < (32 : Int))) then
          match c75 a0 a1 (iadd .i64 a2 (1 : Int)) with
          | none => none
          | some r8 =>
            bif (r8.2 != (0 : Int)) then
              some false
            else
              bif ((iquo .u64 r8.1 (2 : Int)) != r1.1) then
                some false
              else
                match c80 with
                | none => none
                | some r9 =>
                  some r9
        else
          match c80 with
          | none => none
          | some r10 =>
            some r10

def L70_1 (c81 : Int → Option (List Int)) (c80 : Option Bool) (N : Nat) (q1_2 : List Int → List Int → Int → Int → Option Bool) : Nat → List Int → Int → List Int → Int → Int → List Int → Int → Int → Option Bool
  | 0, _, _, _, _, _, _, _, _ => none
  | n1 + 1, v7, v8, v9, v10, v11, v12, v13, v14 =>
    bif (decide (v14 < v13)) then
      match geti v12 v14 with
      | none => none
      | some x15 =>
        bif (decide (x15 ≥ v8)) then
          some false
        else
          bif (x15 == (0 : Int)) then
            none
          else
            bif ((irem v8 x15) == (0 : Int)) then
              some false
            else
              L70_1 c81 c80 N q1_2 n1 v7 v8 v9 v10 v11 v12 v13 (iadd .i64 v14 (1 : Int))
    else
      q1_2 v7 v9 v10 v11
def L70_0 (c81 : Int → Option (List Int)) (c80 : Option Bool) (N : Nat) (q0_0 : List Int → Option Bool) : Nat → List Int → List Int → Int → Int → Option Bool
  | 0, _, _, _, _ => none
  | n0 + 1, v2, v3, v4, v5 =>
    bif (decide (v5 < v4)) then
      match geti v3 v5 with
      | none => none
      | some x6 =>
        bif ((decide ((0 : Int) ≤ v5)) && (decide (v5 ≤ (((List.length v2) : Nat) : Int)))) then
          L70_1 c81 c80 N (fun (y16 : List Int) (y17 : List Int) (y18 : Int) (y19 : Int) =>
              L70_0 c81 c80 N q0_0 n0 y16 y17 y18 (iadd .i64 y19 (1 : Int))) N v2 x6 v3 v4 v5 (List.take (Int.toNat v5) v2) (((List.length (List.take (Int.toNat v5) v2)) : Nat) : Int) (0 : Int)
        else none
    else
      q0_0 v2
def L70_3 (c81 : Int → Option (List Int)) (c80 : Option Bool) (N : Nat) (q3_6 : List Int → Int → Bool → Option Bool) : Nat → List Int → Int → Bool → List Int → Int → Int → Option Bool
  | 0, _, _, _, _, _, _ => none
  | n3 + 1, v25, v26, v27, v28, v29, v30 =>
    bif (decide (v30 < v29)) then
      match geti v28 v30 with
      | none => none
      | some x31 =>
        bif v27 then
          L70_3 c81 c80 N q3_6 n3 v25 v26 true v28 v29 (iadd .i64 v30 (1 : Int))
        else
          bif (x31 == (0 : Int)) then
            none
          else
            L70_3 c81 c80 N q3_6 n3 v25 v26 ((irem v26 x31) == (0 : Int)) v28 v29 (iadd .i64 v30 (1 : Int))
    else
      q3_6 v25 v26 v27
def L70_2 (c81 : Int → Option (List Int)) (c80 : Option Bool) (N : Nat) (q2_4 : Option Bool) : Nat → List Int → Int → Option Bool
  | 0, _, _ => none
  | n2 + 1, v22, v23 =>
    match geti v22 (isub .i64 (((List.length v22) : Nat) : Int) (1 : Int)) with
    | none => none
    | some x24 =>
      bif (decide (v23 ≤ x24)) then
        L70_3 c81 c80 N (fun (y32 : List Int) (y33 : Int) (y34 : Bool) =>
            bif (!y34) then
              some false
            else
              L70_2 c81 c80 N q2_4 n2 y32 (iadd .i64 y33 (1 : Int))) N v22 v23 false v22 (((List.length v22) : Nat) : Int) (0 : Int)
      else
        q2_4
/-- euphroe/euphroelaw02.RootsSieve -/
def p70 (c81 : Int → Option (List Int)) (c80 : Option Bool) (N : Nat) (a0 : Int) : Option Bool :=
  match c81 (IntKind.wrap .i64 a0) with
  | none => none
  | some r1 =>
    bif ((((List.length r1) : Nat) : Int) != (if (168 : Int) < (IntKind.wrap .i64 a0) then (168 : Int) else (IntKind.wrap .i64 a0))) then
      some false
    else
      L70_0 c81 c80 N (fun (y20 : List Int) =>
          bif ((((List.length y20) : Nat) : Int) == (0 : Int)) then
            match c80 with
            | none => none
            | some r21 =>
              some r21
          else
            L70_2 c81 c80 N (
                match c80 with
                | none => none
                | some r35 =>
                  some r35) N y20 (2 : Int)) N r1 r1 (((List.length r1) : Nat) : Int) (0 : Int)

/-- euphroe/chans.isWay -/
def p111 (N : Nat) (a0 : Int) : Option Bool :=
  bif (a0 == (0 : Int)) then
    some true
  else
    some (a0 == (1 : Int))

/-- euphroe/euphroeref38.way -/
def p112 (N : Nat) (a0 : Int) : Option Bool :=
  bif (a0 == (0 : Int)) then
    some true
  else
    some (a0 == (1 : Int))
end Go.Proofs.YtilhmbjcpflodaaE
