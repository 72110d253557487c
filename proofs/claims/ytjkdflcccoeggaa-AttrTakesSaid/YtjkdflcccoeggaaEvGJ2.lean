/- The functions as plain ones. -/
import Derived.Test.YtjkdflcccoeggaaEvFJ2
namespace Go.Proofs.YtjkdflcccoeggaaE
open Go
set_option linter.unusedVariables false
set_option linter.unusedSimpArgs false
/-- slices.Concat[[]byte,byte] -/
abbrev en1 (f : List (List Int) → Option (List Int)) : Ent := ⟨[(Sh.sl (Sh.sl (Sh.int .u8)))], List Int, fun v => f v.1, ownOut .u8⟩
/-- euphroe/octs.Put -/
abbrev en19 (f : Int → Int → Bool → Option ((List Int) × Int)) : Ent := ⟨[(Sh.int .u64), (Sh.int .i64), Sh.bool], (List Int) × Int, fun v => f v.1 v.2.1 v.2.2.1, fun r => (((Sh.tu (Sh.pr (Sh.sl (Sh.int .u8)) (Sh.int .i64)))).enc r, [])⟩
/-- euphroe/octs.Get -/
abbrev en21 (f : List Int → Bool → Option (Int × Int)) : Ent := ⟨[(Sh.sl (Sh.int .u8)), Sh.bool], Int × Int, fun v => f v.1 v.2.1, fun r => (((Sh.tu (Sh.pr (Sh.int .u64) (Sh.int .i64)))).enc r, [])⟩
/-- euphroe/euphroeref01.Same -/
abbrev en23 (f : List Int → List Int → Option Bool) : Ent := ⟨[(Sh.sl (Sh.int .u8)), (Sh.sl (Sh.int .u8))], Bool, fun v => f v.1 v.2.1, fun r => ((Sh.bool).enc r, [])⟩
/-- euphroe/octs.Join -/
abbrev en46 (f : List (List Int) → Option (List Int)) : Ent := ⟨[(Sh.sl (Sh.sl (Sh.int .u8)))], List Int, fun v => f v.1, ownOut .u8⟩
/-- euphroe/euphroeref01.Big -/
abbrev en50 (f : Int → Int → Option (List Int)) : Ent := ⟨[(Sh.int .u64), (Sh.int .i64)], List Int, fun v => f v.1 v.2.1, ownOut .u8⟩
/-- euphroe/euphroeref01.Num -/
abbrev en51 (f : List Int → Option Int) : Ent := ⟨[(Sh.sl (Sh.int .u8))], Int, fun v => f v.1, fun r => (((Sh.int .u64)).enc r, [])⟩
/-- bytes.Clone -/
abbrev en108 (f : List Int → Option (List Int)) : Ent := ⟨[(Sh.sl (Sh.int .u8))], List Int, fun v => f v.1, ownOut .u8⟩
/-- euphroe/euphroelaw17.AttrLays -/
abbrev en124 (f : Int × (List Int) → List Int → Option Bool) : Ent := ⟨[(Sh.st (Sh.pr (Sh.int .u8) (Sh.sl (Sh.int .u8)))), (Sh.sl (Sh.int .u8))], Bool, fun v => f v.1 v.2.1, fun r => ((Sh.bool).enc r, [])⟩
/-- euphroe/euphroelaw17.AttrMakes -/
abbrev en125 (f : Int × Int × (List Int) → List Int → List Int → Option Bool) : Ent := ⟨[(Sh.st (Sh.pr (Sh.int .u8) (Sh.pr (Sh.int .u32) (Sh.sl (Sh.int .u8))))), (Sh.ar .u8), (Sh.ar .u8)], Bool, fun v => f v.1 v.2.1 v.2.2.1, fun r => ((Sh.bool).enc r, [])⟩
/-- euphroe/euphroelaw17.AttrTakes -/
abbrev en126 (f : Int × (List Int) → Option Bool) : Ent := ⟨[(Sh.st (Sh.pr (Sh.int .u8) (Sh.sl (Sh.int .u8))))], Bool, fun v => f v.1, fun r => ((Sh.bool).enc r, [])⟩
/-- euphroe/euphroelaw17.alive -/
abbrev en138 (f : Option Bool) : Ent := ⟨[], Bool, fun v => f, fun r => ((Sh.bool).enc r, [])⟩
/-- euphroe/attr.Lay -/
abbrev en139 (f : Int × (List Int) → Option ((List Int) × Int)) : Ent := ⟨[(Sh.st (Sh.pr (Sh.int .u8) (Sh.sl (Sh.int .u8))))], (List Int) × Int, fun v => f v.1, fun r => (((Sh.tu (Sh.pr (Sh.sl (Sh.int .u8)) (Sh.int .i64)))).enc r, [])⟩
/-- euphroe/euphroelaw17.theirs -/
abbrev en140 (f : Int × (List Int) → Option (Int × (List Int))) : Ent := ⟨[(Sh.st (Sh.pr (Sh.int .u8) (Sh.sl (Sh.int .u8))))], Int × (List Int), fun v => f v.1, fun r => (((Sh.st (Sh.pr (Sh.int .u8) (Sh.sl (Sh.int .u8))))).enc r, [])⟩
/-- euphroe/euphroeref17.Lay -/
abbrev en141 (f : Int × (List Int) → Option ((List Int) × Int)) : Ent := ⟨[(Sh.st (Sh.pr (Sh.int .u8) (Sh.sl (Sh.int .u8))))], (List Int) × Int, fun v => f v.1, fun r => (((Sh.tu (Sh.pr (Sh.sl (Sh.int .u8)) (Sh.int .i64)))).enc r, [])⟩
/-- euphroe/attr.Parse -/
abbrev en142 (f : List Int → Option ((Int × (List Int)) × Int × Int)) : Ent := ⟨[(Sh.sl (Sh.int .u8))], (Int × (List Int)) × Int × Int, fun v => f v.1, fun r => (((Sh.tu (Sh.pr (Sh.st (Sh.pr (Sh.int .u8) (Sh.sl (Sh.int .u8)))) (Sh.pr (Sh.int .i64) (Sh.int .i64))))).enc r, [])⟩
/-- euphroe/euphroeref17.Parse -/
abbrev en143 (f : List Int → Option ((Int × (List Int)) × Int × Int)) : Ent := ⟨[(Sh.sl (Sh.int .u8))], (Int × (List Int)) × Int × Int, fun v => f v.1, fun r => (((Sh.tu (Sh.pr (Sh.st (Sh.pr (Sh.int .u8) (Sh.sl (Sh.int .u8)))) (Sh.pr (Sh.int .i64) (Sh.int .i64))))).enc r, [])⟩
/-- euphroe/attr.Same -/
abbrev en144 (f : Int × (List Int) → Int × (List Int) → Option Bool) : Ent := ⟨[(Sh.st (Sh.pr (Sh.int .u8) (Sh.sl (Sh.int .u8)))), (Sh.st (Sh.pr (Sh.int .u8) (Sh.sl (Sh.int .u8))))], Bool, fun v => f v.1 v.2.1, fun r => ((Sh.bool).enc r, [])⟩
/-- euphroe/attr.Check -/
abbrev en145 (f : Int × (List Int) → Option Int) : Ent := ⟨[(Sh.st (Sh.pr (Sh.int .u8) (Sh.sl (Sh.int .u8))))], Int, fun v => f v.1, fun r => (((Sh.int .i64)).enc r, [])⟩
/-- euphroe/euphroeref17.Check -/
abbrev en146 (f : Int × (List Int) → Option Int) : Ent := ⟨[(Sh.st (Sh.pr (Sh.int .u8) (Sh.sl (Sh.int .u8))))], Int, fun v => f v.1, fun r => (((Sh.int .i64)).enc r, [])⟩
/-- euphroe/attr.OfStatus -/
abbrev en147 (f : Int × Int × (List Int) → Option (Int × (List Int))) : Ent := ⟨[(Sh.st (Sh.pr (Sh.int .u8) (Sh.pr (Sh.int .u32) (Sh.sl (Sh.int .u8)))))], Int × (List Int), fun v => f v.1, fun r => (((Sh.st (Sh.pr (Sh.int .u8) (Sh.sl (Sh.int .u8))))).enc r, [])⟩
/-- euphroe/attr.OfBinding -/
abbrev en148 (f : List Int → Option (Int × (List Int))) : Ent := ⟨[(Sh.ar .u8)], Int × (List Int), fun v => f v.1, fun r => (((Sh.st (Sh.pr (Sh.int .u8) (Sh.sl (Sh.int .u8))))).enc r, [])⟩
/-- euphroe/attr.OfAsk -/
abbrev en149 (f : List Int → Option (Int × (List Int))) : Ent := ⟨[(Sh.ar .u8)], Int × (List Int), fun v => f v.1, fun r => (((Sh.st (Sh.pr (Sh.int .u8) (Sh.sl (Sh.int .u8))))).enc r, [])⟩
/-- euphroe/euphroeref17.Status -/
abbrev en150 (f : Int → Int → List Int → Option (Int × (List Int))) : Ent := ⟨[(Sh.int .u8), (Sh.int .u32), (Sh.sl (Sh.int .u8))], Int × (List Int), fun v => f v.1 v.2.1 v.2.2.1, fun r => (((Sh.st (Sh.pr (Sh.int .u8) (Sh.sl (Sh.int .u8))))).enc r, [])⟩
/-- euphroe/euphroeref17.Binding -/
abbrev en151 (f : Int → List Int → List Int → List Int → Option (Int × (List Int))) : Ent := ⟨[(Sh.int .u8), (Sh.ar .u8), (Sh.ar .u8), (Sh.ar .u8)], Int × (List Int), fun v => f v.1 v.2.1 v.2.2.1 v.2.2.2.1, fun r => (((Sh.st (Sh.pr (Sh.int .u8) (Sh.sl (Sh.int .u8))))).enc r, [])⟩
/-- euphroe/euphroeref17.Ask -/
abbrev en152 (f : Int → List Int → Option (Int × (List Int))) : Ent := ⟨[(Sh.int .u8), (Sh.ar .u8)], Int × (List Int), fun v => f v.1 v.2.1, fun r => (((Sh.st (Sh.pr (Sh.int .u8) (Sh.sl (Sh.int .u8))))).enc r, [])⟩
/-- euphroe/attr.ToStatus -/
abbrev en153 (f : Int × (List Int) → Option ((Int × Int × (List Int)) × Int)) : Ent := ⟨[(Sh.st (Sh.pr (Sh.int .u8) (Sh.sl (Sh.int .u8))))], (Int × Int × (List Int)) × Int, fun v => f v.1, fun r => (((Sh.tu (Sh.pr (Sh.st (Sh.pr (Sh.int .u8) (Sh.pr (Sh.int .u32) (Sh.sl (Sh.int .u8))))) (Sh.int .i64)))).enc r, [])⟩
/-- euphroe/attr.ToBinding -/
abbrev en154 (f : Int × (List Int) → Option ((List Int) × Int)) : Ent := ⟨[(Sh.st (Sh.pr (Sh.int .u8) (Sh.sl (Sh.int .u8))))], (List Int) × Int, fun v => f v.1, fun r => (((Sh.tu (Sh.pr (Sh.ar .u8) (Sh.int .i64)))).enc r, [])⟩
/-- euphroe/attr.ToAsk -/
abbrev en155 (f : Int × (List Int) → Option ((List Int) × Int)) : Ent := ⟨[(Sh.st (Sh.pr (Sh.int .u8) (Sh.sl (Sh.int .u8))))], (List Int) × Int, fun v => f v.1, fun r => (((Sh.tu (Sh.pr (Sh.ar .u8) (Sh.int .i64)))).enc r, [])⟩
/-- euphroe/attr.ToProto -/
abbrev en156 (f : Int × (List Int) → Option (Int × Int)) : Ent := ⟨[(Sh.st (Sh.pr (Sh.int .u8) (Sh.sl (Sh.int .u8))))], Int × Int, fun v => f v.1, fun r => (((Sh.tu (Sh.pr (Sh.int .u16) (Sh.int .i64)))).enc r, [])⟩
/-- euphroe/attr.Proto -/
abbrev en157 (f : Int → Option (Int × (List Int))) : Ent := ⟨[(Sh.int .u16)], Int × (List Int), fun v => f v.1, fun r => (((Sh.st (Sh.pr (Sh.int .u8) (Sh.sl (Sh.int .u8))))).enc r, [])⟩
/-- euphroe/euphroeref17.To -/
abbrev en158 (f : Int × (List Int) → Int → Option Int) : Ent := ⟨[(Sh.st (Sh.pr (Sh.int .u8) (Sh.sl (Sh.int .u8)))), (Sh.int .u8)], Int, fun v => f v.1 v.2.1, fun r => (((Sh.int .i64)).enc r, [])⟩
/-- bytes.Equal -/
abbrev en160 (f : List Int → List Int → Option Bool) : Ent := ⟨[(Sh.sl (Sh.int .u8)), (Sh.sl (Sh.int .u8))], Bool, fun v => f v.1 v.2.1, fun r => ((Sh.bool).enc r, [])⟩
/-- euphroe/attr.isKind -/
abbrev en161 (f : Int → Option Bool) : Ent := ⟨[(Sh.int .u8)], Bool, fun v => f v.1, fun r => ((Sh.bool).enc r, [])⟩
/-- euphroe/euphroeref17.kind -/
abbrev en162 (f : Int → Option Bool) : Ent := ⟨[(Sh.int .u8)], Bool, fun v => f v.1, fun r => ((Sh.bool).enc r, [])⟩
/-- euphroe/attr.limits -/
abbrev en163 (f : Int → Option (Int × Int × Int × Int)) : Ent := ⟨[(Sh.int .u8)], Int × Int × Int × Int, fun v => f v.1, fun r => (((Sh.tu (Sh.pr (Sh.int .i64) (Sh.pr (Sh.int .i64) (Sh.pr (Sh.int .u8) (Sh.int .u8)))))).enc r, [])⟩
/-- bytes.HasPrefix -/
abbrev en164 (f : List Int → List Int → Option Bool) : Ent := ⟨[(Sh.sl (Sh.int .u8)), (Sh.sl (Sh.int .u8))], Bool, fun v => f v.1 v.2.1, fun r => ((Sh.bool).enc r, [])⟩
/-- euphroe/euphroeref17.zeros -/
abbrev en165 (f : List Int → Option Bool) : Ent := ⟨[(Sh.sl (Sh.int .u8))], Bool, fun v => f v.1, fun r => ((Sh.bool).enc r, [])⟩
/-- euphroe/attr.ahead -/
abbrev en166 (f : Int → Option (List Int)) : Ent := ⟨[(Sh.int .u8)], List Int, fun v => f v.1, fun r => (((Sh.sl (Sh.int .u8))).enc r, [])⟩
/-- euphroe/attr.is -/
abbrev en167 (f : Int × (List Int) → Int → Option Int) : Ent := ⟨[(Sh.st (Sh.pr (Sh.int .u8) (Sh.sl (Sh.int .u8)))), (Sh.int .u8)], Int, fun v => f v.1 v.2.1, fun r => (((Sh.int .i64)).enc r, [])⟩
def PR64v0 : Pr := ⟨(.cons .nils (.cons (.int .i64) .nil)), []⟩
def QR64v0 : Pr := ⟨(.cons (.sl 0 1) .nil), [(.ints false .u8)]⟩
/-- slices.Grow[[]byte,byte] -/
abbrev rn64v0 (f : Int → Option ((Nat × Unit) × ((List Int) × Unit))) : REnt := ⟨PR64v0, QR64v0, (Nat × Unit) × ((List Int) × Unit), fun v => f v.1.2.1, fun r => r⟩
def PR48v0 : Pr := ⟨(.cons (.slc 0 1) .nil), [(.ints false .u8)]⟩
def QR48v0 : Pr := ⟨(.cons .tup0 .nil), [(.ints false .u8)]⟩
/-- slices.Reverse[[]byte,byte] -/
abbrev rn48v0 (f : Nat → Nat → List Int → Option ((Unit × Unit) × ((List Int) × Unit))) : REnt := ⟨PR48v0, QR48v0, (Unit × Unit) × ((List Int) × Unit), fun v => f v.1.1.1 v.1.1.2 v.2.1, fun r => r⟩

/-- slices.Grow[[]byte,byte] -/
def p64v0 (N : Nat) (a0 : Int) : Option ((Nat × Unit) × ((List Int) × Unit)) :=
  bif (decide (a0 < (0 : Int))) then
    none
  else
    bif (decide ((isub .i64 a0 (0 : Int)) > (0 : Int))) then
      bif ((decide ((0 : Int) ≤ (isub .i64 a0 (0 : Int)))) && ((decide (((isub .i64 a0 (0 : Int)) * ((1 : Nat) : Int)) ≤ (1099511627776 : Int))) && (decide ((isub .i64 a0 (0 : Int)) ≤ (1099511627776 : Int))))) then
        bif (decide ((0 : Int) ≤ (((Int.toNat (isub .i64 a0 (0 : Int))) : Nat) : Int))) then
          some ((0, ()), (([] : List Int), ()))
        else none
      else none
    else
      some ((0, ()), (([] : List Int), ()))

def L1_0 (d64v0 : Int → Option ((Nat × Unit) × ((List Int) × Unit))) (N : Nat) (q0_0 : List (List Int) → Int → Option (List Int)) : Nat → List (List Int) → Int → List (List Int) → Int → Int → Option (List Int)
  | 0, _, _, _, _, _ => none
  | n0 + 1, v1, v2, v3, v4, v5 =>
    bif (decide (v5 < v4)) then
      match geti v3 v5 with
      | none => none
      | some x6 =>
        bif (decide ((iadd .i64 v2 (((List.length x6) : Nat) : Int)) < (0 : Int))) then
          none
        else
          L1_0 d64v0 N q0_0 n0 v1 (iadd .i64 v2 (((List.length x6) : Nat) : Int)) v3 v4 (iadd .i64 v5 (1 : Int))
    else
      q0_0 v1 v2
def L1_1 (d64v0 : Int → Option ((Nat × Unit) × ((List Int) × Unit))) (N : Nat) (q1_2 : Nat → List Int → Option (List Int)) : Nat → Nat → List (List Int) → Int → Int → List Int → Option (List Int)
  | 0, _, _, _, _, _ => none
  | n1 + 1, v10, v11, v12, v13, v14 =>
    bif (decide (v13 < v12)) then
      match geti v11 v13 with
      | none => none
      | some x15 =>
        bif (((List.length v14) == (v10 * 1)) && ((decide (((v10 + (List.length x15)) * 1) ≤ 1099511627776)) && (decide ((v10 + (List.length x15)) ≤ 1099511627776)))) then
          L1_1 d64v0 N q1_2 n1 (v10 + (List.length x15)) v11 v12 (iadd .i64 v13 (1 : Int)) (v14 ++ x15)
        else none
    else
      q1_2 v10 v14
/-- slices.Concat[[]byte,byte] -/
def p1 (d64v0 : Int → Option ((Nat × Unit) × ((List Int) × Unit))) (N : Nat) (a0 : List (List Int)) : Option (List Int) :=
  L1_0 d64v0 N (fun (y7 : List (List Int)) (y8 : Int) =>
      match d64v0 y8 with
      | none => none
      | some r9 =>
        L1_1 d64v0 N (fun (y16 : Nat) (y17 : List Int) =>
            bif (y16 == (List.length y17)) then
              some y17
            else none) N r9.1.1 y7 (((List.length y7) : Nat) : Int) (0 : Int) r9.2.1) N a0 (0 : Int) a0 (((List.length a0) : Nat) : Int) (0 : Int)

def L48v0_0 (N : Nat) (q0_0 : List Int → Option ((Unit × Unit) × ((List Int) × Unit))) : Nat → Nat → Nat → Int → Int → List Int → Option ((Unit × Unit) × ((List Int) × Unit))
  | 0, _, _, _, _, _ => none
  | n0 + 1, v1, v2, v3, v4, v5 =>
    bif (decide (v3 < v4)) then
      bif ((decide ((0 : Int) ≤ v4)) && (decide (v4 < ((v1 : Nat) : Int)))) then
        match (v5)[(0 + ((Int.toNat v4) * 1))]? with
        | none => none
        | some x6 =>
          bif ((decide ((0 : Int) ≤ v3)) && (decide (v3 < ((v1 : Nat) : Int)))) then
            match (v5)[(0 + ((Int.toNat v3) * 1))]? with
            | none => none
            | some x7 =>
              bif ((decide ((0 : Int) ≤ v3)) && (decide (v3 < ((v1 : Nat) : Int)))) then
                bif (decide ((0 + ((Int.toNat v3) * 1)) < (List.length v5))) then
                  bif ((decide ((0 : Int) ≤ v4)) && (decide (v4 < ((v1 : Nat) : Int)))) then
                    bif (decide ((0 + ((Int.toNat v4) * 1)) < (List.length (List.set v5 (0 + ((Int.toNat v3) * 1)) x6)))) then
                      L48v0_0 N q0_0 n0 v1 v2 (iadd .i64 v3 (1 : Int)) (isub .i64 v4 (1 : Int)) (List.set (List.set v5 (0 + ((Int.toNat v3) * 1)) x6) (0 + ((Int.toNat v4) * 1)) x7)
                    else none
                  else none
                else none
              else none
          else none
      else none
    else
      q0_0 v5
/-- slices.Reverse[[]byte,byte] -/
def p48v0 (N : Nat) (a0 : Nat) (a1 : Nat) (a2 : List Int) : Option ((Unit × Unit) × ((List Int) × Unit)) :=
  L48v0_0 N (fun (y8 : List Int) =>
      some (((), ()), (y8, ()))) N a0 a1 (0 : Int) (isub .i64 ((a0 : Nat) : Int) (1 : Int)) a2

def L19_0 (d48v0 : Nat → Nat → List Int → Option ((Unit × Unit) × ((List Int) × Unit))) (N : Nat) (q0_0 : Bool → Nat → Nat → List Int → Option ((List Int) × Int)) : Nat → Int → Bool → Nat → Nat → Int → Int → List Int → Option ((List Int) × Int)
  | 0, _, _, _, _, _, _, _ => none
  | n0 + 1, v1, v2, v3, v4, v5, v6, v7 =>
    bif (decide (v6 < v5)) then
      bif (decide ((imul .i64 (8 : Int) v6) < (0 : Int))) then
        none
      else
        bif ((decide ((0 : Int) ≤ v6)) && (decide (v6 < ((v3 : Nat) : Int)))) then
          bif (decide ((0 + ((Int.toNat v6) * 1)) < (List.length v7))) then
            L19_0 d48v0 N q0_0 n0 v1 v2 v3 v4 v5 (iadd .i64 v6 (1 : Int)) (List.set v7 (0 + ((Int.toNat v6) * 1)) (IntKind.wrap .u8 (ishr .u64 v1 (imul .i64 (8 : Int) v6))))
          else none
        else none
    else
      q0_0 v2 v3 v4 v7
/-- euphroe/octs.Put -/
def p19 (d48v0 : Nat → Nat → List Int → Option ((Unit × Unit) × ((List Int) × Unit))) (N : Nat) (a0 : Int) (a1 : Int) (a2 : Bool) : Option ((List Int) × Int) :=
  bif (decide (a1 < (1 : Int))) then
    some (([] : List Int), (1 : Int))
  else
    bif (decide (a1 > (8 : Int))) then
      some (([] : List Int), (1 : Int))
    else
      bif ((decide ((0 : Int) ≤ a1)) && ((decide (a1 ≤ a1)) && ((decide ((a1 * ((1 : Nat) : Int)) ≤ (1099511627776 : Int))) && (decide (a1 ≤ (1099511627776 : Int)))))) then
        L19_0 d48v0 N (fun (y8 : Bool) (y9 : Nat) (y10 : Nat) (y11 : List Int) =>
            bif (!y8) then
              match d48v0 y9 y10 y11 with
              | none => none
              | some r12 =>
                bif (decide ((0 + (y9 * 1)) ≤ (List.length r12.2.1))) then
                  some ((List.take y9 (List.drop 0 r12.2.1)), (0 : Int))
                else none
            else
              bif (decide ((0 + (y9 * 1)) ≤ (List.length y11))) then
                some ((List.take y9 (List.drop 0 y11)), (0 : Int))
              else none) N a0 a2 (Int.toNat a1) (Int.toNat a1) (((Int.toNat a1) : Nat) : Int) (0 : Int) (List.replicate (Int.toNat a1) (0 : Int))
      else none

def L21_0 (N : Nat) (q0_0 : Int → Option (Int × Int)) : Nat → Bool → Int → List Int → Int → Int → Option (Int × Int)
  | 0, _, _, _, _, _ => none
  | n0 + 1, v1, v2, v3, v4, v5 =>
    bif (decide (v5 < v4)) then
      match geti v3 v5 with
      | none => none
      | some x6 =>
        bif v1 then
          bif (decide ((imul .i64 (8 : Int) v5) < (0 : Int))) then
            none
          else
            L21_0 N q0_0 n0 v1 (ior .u64 v2 (ishl .u64 (IntKind.wrap .u64 x6) (imul .i64 (8 : Int) v5))) v3 v4 (iadd .i64 v5 (1 : Int))
        else
          L21_0 N q0_0 n0 v1 (ior .u64 (ishl .u64 v2 (8 : Int)) (IntKind.wrap .u64 x6)) v3 v4 (iadd .i64 v5 (1 : Int))
    else
      q0_0 v2
/-- euphroe/octs.Get -/
def p21 (N : Nat) (a0 : List Int) (a1 : Bool) : Option (Int × Int) :=
  bif (decide ((((List.length a0) : Nat) : Int) < (1 : Int))) then
    some ((0 : Int), (1 : Int))
  else
    bif (decide ((((List.length a0) : Nat) : Int) > (8 : Int))) then
      some ((0 : Int), (1 : Int))
    else
      L21_0 N (fun (y7 : Int) =>
          some (y7, (0 : Int))) N a1 (0 : Int) a0 (((List.length a0) : Nat) : Int) (0 : Int)

def L23_0 (N : Nat) (q0_0 : Option Bool) : Nat → List Int → List Int → Int → Option Bool
  | 0, _, _, _ => none
  | n0 + 1, v1, v2, v3 =>
    bif (decide (v3 < (((List.length v1) : Nat) : Int))) then
      match geti v1 v3 with
      | none => none
      | some x4 =>
        match geti v2 v3 with
        | none => none
        | some x5 =>
          bif (x4 != x5) then
            some false
          else
            L23_0 N q0_0 n0 v1 v2 (iadd .i64 v3 (1 : Int))
    else
      q0_0
/-- euphroe/euphroeref01.Same -/
def p23 (N : Nat) (a0 : List Int) (a1 : List Int) : Option Bool :=
  bif ((((List.length a0) : Nat) : Int) != (((List.length a1) : Nat) : Int)) then
    some false
  else
    L23_0 N (
        some true) N a0 a1 (0 : Int)

/-- euphroe/octs.Join -/
def p46 (c1 : List (List Int) → Option (List Int)) (N : Nat) (a0 : List (List Int)) : Option (List Int) :=
  match c1 a0 with
  | none => none
  | some r1 =>
    bif ((List.length r1) == (List.length r1)) then
      some r1
    else none

def L50_0 (N : Nat) (q0_0 : Nat → Nat → List Int → Option (List Int)) : Nat → Int → Nat → Nat → Int → List Int → Option (List Int)
  | 0, _, _, _, _, _ => none
  | n0 + 1, v1, v2, v3, v4, v5 =>
    bif (decide (v4 ≥ (0 : Int))) then
      bif ((decide ((0 : Int) ≤ v4)) && (decide (v4 < ((v2 : Nat) : Int)))) then
        bif (decide ((0 + ((Int.toNat v4) * 1)) < (List.length v5))) then
          L50_0 N q0_0 n0 (iquo .u64 v1 (256 : Int)) v2 v3 (isub .i64 v4 (1 : Int)) (List.set v5 (0 + ((Int.toNat v4) * 1)) (IntKind.wrap .u8 (irem v1 (256 : Int))))
        else none
      else none
    else
      q0_0 v2 v3 v5
/-- euphroe/euphroeref01.Big -/
def p50 (N : Nat) (a0 : Int) (a1 : Int) : Option (List Int) :=
  bif ((decide ((0 : Int) ≤ a1)) && ((decide (a1 ≤ a1)) && ((decide ((a1 * ((1 : Nat) : Int)) ≤ (1099511627776 : Int))) && (decide (a1 ≤ (1099511627776 : Int)))))) then
    L50_0 N (fun (y6 : Nat) (y7 : Nat) (y8 : List Int) =>
        bif (decide ((y6 * 1) ≤ (List.length y8))) then
          bif (y6 == (List.length (List.take (y6 * 1) (List.drop 0 y8)))) then
            some (List.take (y6 * 1) (List.drop 0 y8))
          else none
        else none) N a0 (Int.toNat a1) (Int.toNat a1) (isub .i64 a1 (1 : Int)) (List.replicate (Int.toNat a1) (0 : Int))
  else none

def L51_0 (N : Nat) (q0_0 : Int → Option Int) : Nat → List Int → Int → Int → Option Int
  | 0, _, _, _ => none
  | n0 + 1, v1, v2, v3 =>
    bif (decide (v3 < (((List.length v1) : Nat) : Int))) then
      match geti v1 v3 with
      | none => none
      | some x4 =>
        L51_0 N q0_0 n0 v1 (iadd .u64 (imul .u64 v2 (256 : Int)) (IntKind.wrap .u64 x4)) (iadd .i64 v3 (1 : Int))
    else
      q0_0 v2
/-- euphroe/euphroeref01.Num -/
def p51 (N : Nat) (a0 : List Int) : Option Int :=
  L51_0 N (fun (y5 : Int) =>
      some y5) N a0 (0 : Int) (0 : Int)

/-- bytes.Equal -/
def p160 (N : Nat) (a0 : List Int) (a1 : List Int) : Option Bool :=
  some ((List.map (fun n : Int => UInt8.ofNat n.toNat) a0) == (List.map (fun n : Int => UInt8.ofNat n.toNat) a1))

/-- bytes.HasPrefix -/
def p164 (c160 : List Int → List Int → Option Bool) (N : Nat) (a0 : List Int) (a1 : List Int) : Option Bool :=
  bif (decide ((((List.length a0) : Nat) : Int) ≥ (((List.length a1) : Nat) : Int))) then
    bif ((decide ((0 : Int) ≤ (((List.length a1) : Nat) : Int))) && (decide ((((List.length a1) : Nat) : Int) ≤ (((List.length a0) : Nat) : Int)))) then
      match c160 (List.take (Int.toNat (((List.length a1) : Nat) : Int)) a0) a1 with
      | none => none
      | some r1 =>
        some r1
    else none
  else
    some false

/-- euphroe/attr.Proto -/
def p157 (c19 : Int → Int → Bool → Option ((List Int) × Int)) (N : Nat) (a0 : Int) : Option (Int × (List Int)) :=
  match c19 (IntKind.wrap .u64 a0) (2 : Int) false with
  | none => none
  | some r1 =>
    some ((1 : Int), r1.1)

/-- euphroe/attr.isKind -/
def p161 (N : Nat) (a0 : Int) : Option Bool :=
  bif (decide (a0 ≥ (1 : Int))) then
    some (decide (a0 ≤ (4 : Int)))
  else
    some false

/-- euphroe/attr.Lay -/
def p139 (c161 : Int → Option Bool) (c19 : Int → Int → Bool → Option ((List Int) × Int)) (c46 : List (List Int) → Option (List Int)) (N : Nat) (a0 : Int × (List Int)) : Option ((List Int) × Int) :=
  match c161 a0.1 with
  | none => none
  | some r1 =>
    bif (!r1) then
      some (([] : List Int), (9 : Int))
    else
      bif (decide ((iadd .i64 (4 : Int) (((List.length a0.2) : Nat) : Int)) > (4095 : Int))) then
        some (([] : List Int), (8 : Int))
      else
        match c19 (IntKind.wrap .u64 (iadd .i64 (4 : Int) (((List.length a0.2) : Nat) : Int))) (2 : Int) false with
        | none => none
        | some r2 =>
          match c46 ([([(0 : Int), a0.1] : List Int), r2.1, a0.2] : List (List Int)) with
          | none => none
          | some r3 =>
            bif (decide ((0 + ((List.length r3) * 1)) ≤ (List.length r3))) then
              some ((List.take (List.length r3) (List.drop 0 r3)), (0 : Int))
            else none

/-- euphroe/attr.Parse -/
def p142 (c21 : List Int → Bool → Option (Int × Int)) (c161 : Int → Option Bool) (c108 : List Int → Option (List Int)) (N : Nat) (a0 : List Int) : Option ((Int × (List Int)) × Int × Int) :=
  bif (decide ((((List.length a0) : Nat) : Int) < (4 : Int))) then
    some (((0 : Int), ([] : List Int)), ((0 : Int), (4 : Int)))
  else
    bif (decide ((4 : Int) ≤ (((List.length a0) : Nat) : Int))) then
      match c21 (List.take 2 (List.drop 2 a0)) false with
      | none => none
      | some r1 =>
        match geti a0 (0 : Int) with
        | none => none
        | some x2 =>
          bif (x2 != (0 : Int)) then
            some (((0 : Int), ([] : List Int)), ((0 : Int), (3 : Int)))
          else
            bif (decide ((IntKind.wrap .i64 r1.1) < (4 : Int))) then
              some (((0 : Int), ([] : List Int)), ((0 : Int), (3 : Int)))
            else
              bif (decide ((IntKind.wrap .i64 r1.1) > (4095 : Int))) then
                some (((0 : Int), ([] : List Int)), ((0 : Int), (3 : Int)))
              else
                match geti a0 (1 : Int) with
                | none => none
                | some x3 =>
                  match c161 x3 with
                  | none => none
                  | some r4 =>
                    bif (!r4) then
                      some (((0 : Int), ([] : List Int)), ((0 : Int), (9 : Int)))
                    else
                      bif (decide ((((List.length a0) : Nat) : Int) < (IntKind.wrap .i64 r1.1))) then
                        some (((0 : Int), ([] : List Int)), ((0 : Int), (4 : Int)))
                      else
                        match geti a0 (1 : Int) with
                        | none => none
                        | some x5 =>
                          bif ((decide ((0 : Int) ≤ (IntKind.wrap .i64 r1.1))) && (decide ((IntKind.wrap .i64 r1.1) ≤ (((List.length a0) : Nat) : Int)))) then
                            bif (decide ((4 : Int) ≤ (((Int.toNat (IntKind.wrap .i64 r1.1)) : Nat) : Int))) then
                              match c108 (List.take ((Int.toNat (IntKind.wrap .i64 r1.1)) - 4) (List.drop 4 a0)) with
                              | none => none
                              | some r6 =>
                                bif (decide ((0 + ((List.length r6) * 1)) ≤ (List.length r6))) then
                                  some ((x5, (List.take (List.length r6) (List.drop 0 r6))), ((IntKind.wrap .i64 r1.1), (0 : Int)))
                                else none
                            else none
                          else none
    else none

/-- euphroe/attr.limits -/
def p163 (N : Nat) (a0 : Int) : Option (Int × Int × Int × Int) :=
  bif (a0 == (2 : Int)) then
    some ((8 : Int), ((72 : Int), ((0 : Int), (4 : Int))))
  else
    bif (a0 == (3 : Int)) then
      some ((100 : Int), ((100 : Int), ((1 : Int), (2 : Int))))
    else
      bif (a0 == (4 : Int)) then
        some ((36 : Int), ((36 : Int), ((1 : Int), (3 : Int))))
      else
        some ((2 : Int), ((2 : Int), ((0 : Int), (0 : Int))))

/-- euphroe/attr.Check -/
def p145 (c163 : Int → Option (Int × Int × Int × Int)) (c161 : Int → Option Bool) (c164 : List Int → List Int → Option Bool) (N : Nat) (a0 : Int × (List Int)) : Option Int :=
  match c163 a0.1 with
  | none => none
  | some r1 =>
    match c161 a0.1 with
    | none => none
    | some r2 =>
      bif (!r2) then
        some (9 : Int)
      else
        bif (decide ((((List.length a0.2) : Nat) : Int) < r1.1)) then
          some (4 : Int)
        else
          bif (decide ((((List.length a0.2) : Nat) : Int) > r1.2.1)) then
            some (3 : Int)
          else
            bif (a0.1 == (1 : Int)) then
              some (0 : Int)
            else
              match geti a0.2 (3 : Int) with
              | none => none
              | some x3 =>
                match c164 a0.2 ([(0 : Int), (0 : Int), (0 : Int)] : List Int) with
                | none => none
                | some r4 =>
                  bif (!r4) then
                    some (3 : Int)
                  else
                    bif (decide (x3 < r1.2.2.1)) then
                      some (3 : Int)
                    else
                      bif (decide (x3 > r1.2.2.2)) then
                        some (3 : Int)
                      else
                        some (0 : Int)

/-- euphroe/attr.is -/
def p167 (c145 : Int × (List Int) → Option Int) (N : Nat) (a0 : Int × (List Int)) (a1 : Int) : Option Int :=
  bif (a0.1 != a1) then
    some (9 : Int)
  else
    match c145 (a0.1, a0.2) with
    | none => none
    | some r1 =>
      some r1

/-- euphroe/attr.ToProto -/
def p156 (c167 : Int × (List Int) → Int → Option Int) (c21 : List Int → Bool → Option (Int × Int)) (N : Nat) (a0 : Int × (List Int)) : Option (Int × Int) :=
  match c167 (a0.1, a0.2) (1 : Int) with
  | none => none
  | some r1 =>
    bif (r1 != (0 : Int)) then
      some ((0 : Int), r1)
    else
      match c21 a0.2 false with
      | none => none
      | some r2 =>
        some ((IntKind.wrap .u16 r2.1), (0 : Int))

/-- euphroe/attr.ahead -/
def p166 (N : Nat) (a0 : Int) : Option (List Int) :=
  some ([(0 : Int), (0 : Int), (0 : Int), a0] : List Int)

/-- euphroe/attr.OfAsk -/
def p149 (c166 : Int → Option (List Int)) (c46 : List (List Int) → Option (List Int)) (N : Nat) (a0 : List Int) : Option (Int × (List Int)) :=
  match (a0)[0]? with
  | none => none
  | some x1 =>
    match c166 x1 with
    | none => none
    | some r2 =>
      bif (decide (33 ≤ (List.length a0))) then
        bif (decide (33 ≤ (List.length a0))) then
          match c46 ([r2, (List.take 32 (List.drop 1 a0))] : List (List Int)) with
          | none => none
          | some r3 =>
            bif (decide ((0 + ((List.length r3) * 1)) ≤ (List.length r3))) then
              some ((4 : Int), (List.take (List.length r3) (List.drop 0 r3)))
            else none
        else none
      else none

/-- euphroe/attr.ToAsk -/
def p155 (c167 : Int × (List Int) → Int → Option Int) (N : Nat) (a0 : Int × (List Int)) : Option ((List Int) × Int) :=
  match c167 (a0.1, a0.2) (4 : Int) with
  | none => none
  | some r1 =>
    bif (r1 != (0 : Int)) then
      some (([(0 : Int), 0, 0, 0, 0, 0, 0, 0, 0, 0, 0, 0, 0, 0, 0, 0, 0, 0, 0, 0, 0, 0, 0, 0, 0, 0, 0, 0, 0, 0, 0, 0, 0] : List Int), r1)
    else
      match geti a0.2 (3 : Int) with
      | none => none
      | some x2 =>
        bif (decide ((4 : Int) ≤ (((List.length a0.2) : Nat) : Int))) then
          bif (decide (32 ≤ (List.length (List.drop 4 a0.2)))) then
            bif (decide (32 ≤ (List.length (List.drop 4 a0.2)))) then
              bif ((List.length (List.take 32 (List.drop 0 (List.drop 4 a0.2)))) == 32) then
                bif (decide ((1 + (List.length (List.take 32 (List.drop 0 (List.drop 4 a0.2))))) ≤ 33)) then
                  bif ((List.length (([x2] ++ (List.take 32 (List.drop 0 (List.drop 4 a0.2)))) ++ (List.drop (1 + (List.length (List.take 32 (List.drop 0 (List.drop 4 a0.2))))) [x2, 0, 0, 0, 0, 0, 0, 0, 0, 0, 0, 0, 0, 0, 0, 0, 0, 0, 0, 0, 0, 0, 0, 0, 0, 0, 0, 0, 0, 0, 0, 0, 0]))) == 33) then
                    bif (decide ((0 + (List.length (([x2] ++ (List.take 32 (List.drop 0 (List.drop 4 a0.2)))) ++ (List.drop (1 + (List.length (List.take 32 (List.drop 0 (List.drop 4 a0.2))))) [x2, 0, 0, 0, 0, 0, 0, 0, 0, 0, 0, 0, 0, 0, 0, 0, 0, 0, 0, 0, 0, 0, 0, 0, 0, 0, 0, 0, 0, 0, 0, 0, 0])))) ≤ 33)) then
                      bif (decide (33 ≤ (List.length (([] ++ (([x2] ++ (List.take 32 (List.drop 0 (List.drop 4 a0.2)))) ++ (List.drop (1 + (List.length (List.take 32 (List.drop 0 (List.drop 4 a0.2))))) [x2, 0, 0, 0, 0, 0, 0, 0, 0, 0, 0, 0, 0, 0, 0, 0, 0, 0, 0, 0, 0, 0, 0, 0, 0, 0, 0, 0, 0, 0, 0, 0, 0]))) ++ (List.drop (0 + (List.length (([x2] ++ (List.take 32 (List.drop 0 (List.drop 4 a0.2)))) ++ (List.drop (1 + (List.length (List.take 32 (List.drop 0 (List.drop 4 a0.2))))) [x2, 0, 0, 0, 0, 0, 0, 0, 0, 0, 0, 0, 0, 0, 0, 0, 0, 0, 0, 0, 0, 0, 0, 0, 0, 0, 0, 0, 0, 0, 0, 0, 0])))) [(0 : Int), 0, 0, 0, 0, 0, 0, 0, 0, 0, 0, 0, 0, 0, 0, 0, 0, 0, 0, 0, 0, 0, 0, 0, 0, 0, 0, 0, 0, 0, 0, 0, 0]))))) then
                        some ((List.take 33 (List.drop 0 (([] ++ (([x2] ++ (List.take 32 (List.drop 0 (List.drop 4 a0.2)))) ++ (List.drop (1 + (List.length (List.take 32 (List.drop 0 (List.drop 4 a0.2))))) [x2, 0, 0, 0, 0, 0, 0, 0, 0, 0, 0, 0, 0, 0, 0, 0, 0, 0, 0, 0, 0, 0, 0, 0, 0, 0, 0, 0, 0, 0, 0, 0, 0]))) ++ (List.drop (0 + (List.length (([x2] ++ (List.take 32 (List.drop 0 (List.drop 4 a0.2)))) ++ (List.drop (1 + (List.length (List.take 32 (List.drop 0 (List.drop 4 a0.2))))) [x2, 0, 0, 0, 0, 0, 0, 0, 0, 0, 0, 0, 0, 0, 0, 0, 0, 0, 0, 0, 0, 0, 0, 0, 0, 0, 0, 0, 0, 0, 0, 0, 0])))) [(0 : Int), 0, 0, 0, 0, 0, 0, 0, 0, 0, 0, 0, 0, 0, 0, 0, 0, 0, 0, 0, 0, 0, 0, 0, 0, 0, 0, 0, 0, 0, 0, 0, 0])))), (0 : Int))
                      else none
                    else none
                  else none
                else none
              else none
            else none
          else none
        else none

/-- euphroe/attr.Same -/
def p144 (c160 : List Int → List Int → Option Bool) (N : Nat) (a0 : Int × (List Int)) (a1 : Int × (List Int)) : Option Bool :=
  bif (a0.1 == a1.1) then
    match c160 a0.2 a1.2 with
    | none => none
    | some r1 =>
      some r1
  else
    some false

/-- euphroe/euphroelaw17.alive -/
def p138 (c157 : Int → Option (Int × (List Int))) (c139 : Int × (List Int) → Option ((List Int) × Int)) (c142 : List Int → Option ((Int × (List Int)) × Int × Int)) (c156 : Int × (List Int) → Option (Int × Int)) (c149 : List Int → Option (Int × (List Int))) (c155 : Int × (List Int) → Option ((List Int) × Int)) (c144 : Int × (List Int) → Int × (List Int) → Option Bool) (N : Nat)  : Option Bool :=
  match c157 (1 : Int) with
  | none => none
  | some r1 =>
    match c139 (r1.1, r1.2) with
    | none => none
    | some r2 =>
      match c142 r2.1 with
      | none => none
      | some r3 =>
        match c156 (r3.1.1, r3.1.2) with
        | none => none
        | some r4 =>
          match c149 ([(2 : Int), 0, 0, 0, 0, 0, 0, 0, 0, 0, 0, 0, 0, 0, 0, 0, 0, 0, 0, 0, 0, 0, 0, 0, 0, 0, 0, 0, 0, 0, 0, 0, 0] : List Int) with
          | none => none
          | some r5 =>
            match c155 (r5.1, r5.2) with
            | none => none
            | some r6 =>
              bif ((List.length r6.1) == 33) then
                bif (decide ((0 + (List.length r6.1)) ≤ 33)) then
                  bif ((List.map (fun n : Int => UInt8.ofNat n.toNat) r2.1) == ([(0 : UInt8), (1 : UInt8), (0 : UInt8), (6 : UInt8), (0 : UInt8), (1 : UInt8)] : List UInt8)) then
                    bif (r2.2 == (0 : Int)) then
                      bif (r3.2.1 == (6 : Int)) then
                        bif (r3.2.2 == (0 : Int)) then
                          bif (r4.1 == (1 : Int)) then
                            bif (r4.2 == (0 : Int)) then
                              match ((([] ++ r6.1) ++ (List.drop (0 + (List.length r6.1)) [(0 : Int), 0, 0, 0, 0, 0, 0, 0, 0, 0, 0, 0, 0, 0, 0, 0, 0, 0, 0, 0, 0, 0, 0, 0, 0, 0, 0, 0, 0, 0, 0, 0, 0])))[0]? with
                              | none => none
                              | some x7 =>
                                bif (x7 == (2 : Int)) then
                                  bif (r6.2 == (0 : Int)) then
                                    match c157 (1 : Int) with
                                    | none => none
                                    | some r8 =>
                                      match c144 (r3.1.1, r3.1.2) (r8.1, r8.2) with
                                      | none => none
                                      | some r9 =>
                                        some r9
                                  else
                                    some false
                                else
                                  some false
                            else
                              some false
                          else
                            some false
                        else
                          some false
                      else
                        some false
                    else
                      some false
                  else
                    some false
                else none
              else none

/-- euphroe/euphroelaw17.theirs -/
def p140 (N : Nat) (a0 : Int × (List Int)) : Option (Int × (List Int)) :=
  some (a0.1, a0.2)

/-- euphroe/euphroeref17.kind -/
def p162 (N : Nat) (a0 : Int) : Option Bool :=
  bif (decide (a0 ≥ (1 : Int))) then
    some (decide (a0 ≤ (4 : Int)))
  else
    some false

/-- euphroe/euphroeref17.Lay -/
def p141 (c162 : Int → Option Bool) (c50 : Int → Int → Option (List Int)) (N : Nat) (a0 : Int × (List Int)) : Option ((List Int) × Int) :=
  match c162 a0.1 with
  | none => none
  | some r1 =>
    bif (!r1) then
      some (([] : List Int), (9 : Int))
    else
      bif (decide ((((List.length a0.2) : Nat) : Int) > (4091 : Int))) then
        some (([] : List Int), (8 : Int))
      else
        match c50 (IntKind.wrap .u64 (iadd .i64 (4 : Int) (((List.length a0.2) : Nat) : Int))) (2 : Int) with
        | none => none
        | some r2 =>
          bif (decide ((0 + ((List.length r2) * 1)) ≤ (List.length r2))) then
            bif (decide (2 < (2 + (List.length r2)))) then
              bif ((decide (((2 + (List.length r2)) * 1) ≤ 1099511627776)) && (decide ((2 + (List.length r2)) ≤ 1099511627776))) then
                bif (((List.length ([(0 : Int), a0.1] ++ (List.take ((List.length r2) * 1) (List.drop 0 r2)))) == ((2 + (List.length r2)) * 1)) && ((decide ((((2 + (List.length r2)) + (List.length a0.2)) * 1) ≤ 1099511627776)) && (decide (((2 + (List.length r2)) + (List.length a0.2)) ≤ 1099511627776)))) then
                  bif (decide ((0 + (((2 + (List.length r2)) + (List.length a0.2)) * 1)) ≤ (List.length (([(0 : Int), a0.1] ++ (List.take ((List.length r2) * 1) (List.drop 0 r2))) ++ a0.2)))) then
                    some ((List.take ((2 + (List.length r2)) + (List.length a0.2)) (List.drop 0 (([(0 : Int), a0.1] ++ (List.take ((List.length r2) * 1) (List.drop 0 r2))) ++ a0.2))), (0 : Int))
                  else none
                else none
              else none
            else
              bif (decide ((2 + (List.length (List.take ((List.length r2) * 1) (List.drop 0 r2)))) ≤ 2)) then
                bif (decide (2 < ((2 + (List.length r2)) + (List.length a0.2)))) then
                  bif ((decide ((((2 + (List.length r2)) + (List.length a0.2)) * 1) ≤ 1099511627776)) && (decide (((2 + (List.length r2)) + (List.length a0.2)) ≤ 1099511627776))) then
                    bif (decide ((0 + ((2 + (List.length r2)) * 1)) ≤ (List.length (([(0 : Int), a0.1] ++ (List.take ((List.length r2) * 1) (List.drop 0 r2))) ++ (List.drop (2 + (List.length (List.take ((List.length r2) * 1) (List.drop 0 r2)))) [(0 : Int), a0.1]))))) then
                      bif (decide ((0 + (((2 + (List.length r2)) + (List.length a0.2)) * 1)) ≤ (List.length ((List.take ((2 + (List.length r2)) * 1) (List.drop 0 (([(0 : Int), a0.1] ++ (List.take ((List.length r2) * 1) (List.drop 0 r2))) ++ (List.drop (2 + (List.length (List.take ((List.length r2) * 1) (List.drop 0 r2)))) [(0 : Int), a0.1])))) ++ a0.2)))) then
                        some ((List.take ((2 + (List.length r2)) + (List.length a0.2)) (List.drop 0 ((List.take ((2 + (List.length r2)) * 1) (List.drop 0 (([(0 : Int), a0.1] ++ (List.take ((List.length r2) * 1) (List.drop 0 r2))) ++ (List.drop (2 + (List.length (List.take ((List.length r2) * 1) (List.drop 0 r2)))) [(0 : Int), a0.1])))) ++ a0.2))), (0 : Int))
                      else none
                    else none
                  else none
                else
                  bif (decide (((0 + ((2 + (List.length r2)) * 1)) + (List.length a0.2)) ≤ (List.length (([(0 : Int), a0.1] ++ (List.take ((List.length r2) * 1) (List.drop 0 r2))) ++ (List.drop (2 + (List.length (List.take ((List.length r2) * 1) (List.drop 0 r2)))) [(0 : Int), a0.1]))))) then
                    bif (decide ((0 + (((2 + (List.length r2)) + (List.length a0.2)) * 1)) ≤ (List.length (((List.take (0 + ((2 + (List.length r2)) * 1)) (([(0 : Int), a0.1] ++ (List.take ((List.length r2) * 1) (List.drop 0 r2))) ++ (List.drop (2 + (List.length (List.take ((List.length r2) * 1) (List.drop 0 r2)))) [(0 : Int), a0.1]))) ++ a0.2) ++ (List.drop ((0 + ((2 + (List.length r2)) * 1)) + (List.length a0.2)) (([(0 : Int), a0.1] ++ (List.take ((List.length r2) * 1) (List.drop 0 r2))) ++ (List.drop (2 + (List.length (List.take ((List.length r2) * 1) (List.drop 0 r2)))) [(0 : Int), a0.1]))))))) then
                      some ((List.take ((2 + (List.length r2)) + (List.length a0.2)) (List.drop 0 (((List.take (0 + ((2 + (List.length r2)) * 1)) (([(0 : Int), a0.1] ++ (List.take ((List.length r2) * 1) (List.drop 0 r2))) ++ (List.drop (2 + (List.length (List.take ((List.length r2) * 1) (List.drop 0 r2)))) [(0 : Int), a0.1]))) ++ a0.2) ++ (List.drop ((0 + ((2 + (List.length r2)) * 1)) + (List.length a0.2)) (([(0 : Int), a0.1] ++ (List.take ((List.length r2) * 1) (List.drop 0 r2))) ++ (List.drop (2 + (List.length (List.take ((List.length r2) * 1) (List.drop 0 r2)))) [(0 : Int), a0.1])))))), (0 : Int))
                    else none
                  else none
              else none
          else none

/-- euphroe/euphroeref17.Parse -/
def p143 (c51 : List Int → Option Int) (c162 : Int → Option Bool) (N : Nat) (a0 : List Int) : Option ((Int × (List Int)) × Int × Int) :=
  bif (decide ((((List.length a0) : Nat) : Int) < (4 : Int))) then
    some (((0 : Int), ([] : List Int)), ((0 : Int), (4 : Int)))
  else
    bif (decide ((4 : Int) ≤ (((List.length a0) : Nat) : Int))) then
      match c51 (List.take 2 (List.drop 2 a0)) with
      | none => none
      | some r1 =>
        match geti a0 (0 : Int) with
        | none => none
        | some x2 =>
          bif (x2 != (0 : Int)) then
            some (((0 : Int), ([] : List Int)), ((0 : Int), (3 : Int)))
          else
            bif (decide ((IntKind.wrap .i64 r1) < (4 : Int))) then
              some (((0 : Int), ([] : List Int)), ((0 : Int), (3 : Int)))
            else
              bif (decide ((IntKind.wrap .i64 r1) > (4095 : Int))) then
                some (((0 : Int), ([] : List Int)), ((0 : Int), (3 : Int)))
              else
                match geti a0 (1 : Int) with
                | none => none
                | some x3 =>
                  match c162 x3 with
                  | none => none
                  | some r4 =>
                    bif (!r4) then
                      some (((0 : Int), ([] : List Int)), ((0 : Int), (9 : Int)))
                    else
                      bif (decide ((((List.length a0) : Nat) : Int) < (IntKind.wrap .i64 r1))) then
                        some (((0 : Int), ([] : List Int)), ((0 : Int), (4 : Int)))
                      else
                        match geti a0 (1 : Int) with
                        | none => none
                        | some x5 =>
                          bif ((decide ((0 : Int) ≤ (IntKind.wrap .i64 r1))) && (decide ((IntKind.wrap .i64 r1) ≤ (((List.length a0) : Nat) : Int)))) then
                            bif (decide ((4 : Int) ≤ (((Int.toNat (IntKind.wrap .i64 r1)) : Nat) : Int))) then
                              some ((x5, (List.take ((Int.toNat (IntKind.wrap .i64 r1)) - 4) (List.drop 4 a0))), ((IntKind.wrap .i64 r1), (0 : Int)))
                            else none
                          else none
    else none

def L165_0 (N : Nat) (q0_0 : Option Bool) : Nat → List Int → Int → Option Bool
  | 0, _, _ => none
  | n0 + 1, v1, v2 =>
    bif (decide (v2 < (((List.length v1) : Nat) : Int))) then
      match geti v1 v2 with
      | none => none
      | some x3 =>
        bif (x3 != (0 : Int)) then
          some false
        else
          L165_0 N q0_0 n0 v1 (iadd .i64 v2 (1 : Int))
    else
      q0_0
/-- euphroe/euphroeref17.zeros -/
def p165 (N : Nat) (a0 : List Int) : Option Bool :=
  L165_0 N (
      some true) N a0 (0 : Int)

/-- euphroe/euphroeref17.Check -/
def p146 (c162 : Int → Option Bool) (c165 : List Int → Option Bool) (N : Nat) (a0 : Int × (List Int)) : Option Int :=
  match c162 a0.1 with
  | none => none
  | some r1 =>
    bif (!r1) then
      some (9 : Int)
    else
      bif ((decide ((0 : Int) ≤ (isub .u8 a0.1 (1 : Int)))) && (decide ((isub .u8 a0.1 (1 : Int)) < (4 : Int)))) then
        match (([(2 : Int), 8, 100, 36] : List Int))[(0 + ((Int.toNat (isub .u8 a0.1 (1 : Int))) * 1))]? with
        | none => none
        | some x2 =>
          bif ((decide ((0 : Int) ≤ (isub .u8 a0.1 (1 : Int)))) && (decide ((isub .u8 a0.1 (1 : Int)) < (4 : Int)))) then
            match (([(2 : Int), 72, 100, 36] : List Int))[(0 + ((Int.toNat (isub .u8 a0.1 (1 : Int))) * 1))]? with
            | none => none
            | some x3 =>
              bif (decide ((((List.length a0.2) : Nat) : Int) < x2)) then
                some (4 : Int)
              else
                bif (decide ((((List.length a0.2) : Nat) : Int) > x3)) then
                  some (3 : Int)
                else
                  bif (a0.1 == (1 : Int)) then
                    some (0 : Int)
                  else
                    match geti a0.2 (3 : Int) with
                    | none => none
                    | some x4 =>
                      bif (decide ((3 : Int) ≤ (((List.length a0.2) : Nat) : Int))) then
                        match c165 (List.take 3 a0.2) with
                        | none => none
                        | some r5 =>
                          bif (!r5) then
                            some (3 : Int)
                          else
                            bif (a0.1 == (2 : Int)) then
                              bif (decide (x4 > (4 : Int))) then
                                some (3 : Int)
                              else
                                bif (a0.1 == (3 : Int)) then
                                  bif (x4 != (1 : Int)) then
                                    bif (x4 != (2 : Int)) then
                                      some (3 : Int)
                                    else
                                      bif (a0.1 == (4 : Int)) then
                                        bif (decide (x4 < (1 : Int))) then
                                          some (3 : Int)
                                        else
                                          bif (decide (x4 > (3 : Int))) then
                                            some (3 : Int)
                                          else
                                            some (0 : Int)
                                      else
                                        some (0 : Int)
                                  else
                                    bif (a0.1 == (4 : Int)) then
                                      bif (decide (x4 < (1 : Int))) then
                                        some (3 : Int)
                                      else
                                        bif (decide (x4 > (3 : Int))) then
                                          some (3 : Int)
                                        else
                                          some (0 : Int)
                                    else
                                      some (0 : Int)
                                else
                                  bif (a0.1 == (4 : Int)) then
                                    bif (decide (x4 < (1 : Int))) then
                                      some (3 : Int)
                                    else
                                      bif (decide (x4 > (3 : Int))) then
                                        some (3 : Int)
                                      else
                                        some (0 : Int)
                                  else
                                    some (0 : Int)
                            else
                              bif (a0.1 == (3 : Int)) then
                                bif (x4 != (1 : Int)) then
                                  bif (x4 != (2 : Int)) then
                                    some (3 : Int)
                                  else
                                    bif (a0.1 == (4 : Int)) then
                                      bif (decide (x4 < (1 : Int))) then
                                        some (3 : Int)
                                      else
                                        bif (decide (x4 > (3 : Int))) then
                                          some (3 : Int)
                                        else
                                          some (0 : Int)
                                    else
                                      some (0 : Int)
                                else
                                  bif (a0.1 == (4 : Int)) then
                                    bif (decide (x4 < (1 : Int))) then
                                      some (3 : Int)
                                    else
                                      bif (decide (x4 > (3 : Int))) then
                                        some (3 : Int)
                                      else
                                        some (0 : Int)
                                  else
                                    some (0 : Int)
                              else
                                bif (a0.1 == (4 : Int)) then
                                  bif (decide (x4 < (1 : Int))) then
                                    some (3 : Int)
                                  else
                                    bif (decide (x4 > (3 : Int))) then
                                      some (3 : Int)
                                    else
                                      some (0 : Int)
                                else
                                  some (0 : Int)
                      else none
          else none
      else none

/-- euphroe/euphroelaw17.AttrLays -/
def p124 (c138 : Option Bool) (c140 : Int × (List Int) → Option (Int × (List Int))) (c139 : Int × (List Int) → Option ((List Int) × Int)) (c141 : Int × (List Int) → Option ((List Int) × Int)) (c142 : List Int → Option ((Int × (List Int)) × Int × Int)) (c143 : List Int → Option ((Int × (List Int)) × Int × Int)) (c23 : List Int → List Int → Option Bool) (c144 : Int × (List Int) → Int × (List Int) → Option Bool) (c145 : Int × (List Int) → Option Int) (c146 : Int × (List Int) → Option Int) (N : Nat) (a0 : Int × (List Int)) (a1 : List Int) : Option Bool :=
  bif (decide ((((List.length a0.2) : Nat) : Int) > (5000 : Int))) then
    match c138 with
    | none => none
    | some r1 =>
      some r1
  else
    bif (decide ((((List.length a1) : Nat) : Int) > (5000 : Int))) then
      match c138 with
      | none => none
      | some r2 =>
        some r2
    else
      match c140 (a0.1, a0.2) with
      | none => none
      | some r3 =>
        match c139 (r3.1, r3.2) with
        | none => none
        | some r4 =>
          match c141 (a0.1, a0.2) with
          | none => none
          | some r5 =>
            match c142 a1 with
            | none => none
            | some r6 =>
              match c143 a1 with
              | none => none
              | some r7 =>
                bif ((decide (((List.length r4.1) * 1) ≤ 1099511627776)) && (decide ((List.length r4.1) ≤ 1099511627776))) then
                  bif (((List.length r4.1) == ((List.length r4.1) * 1)) && ((decide ((((List.length r4.1) + (List.length a1)) * 1) ≤ 1099511627776)) && (decide (((List.length r4.1) + (List.length a1)) ≤ 1099511627776)))) then
                    bif (decide ((0 + (((List.length r4.1) + (List.length a1)) * 1)) ≤ (List.length (r4.1 ++ a1)))) then
                      match c142 (List.take ((List.length r4.1) + (List.length a1)) (List.drop 0 (r4.1 ++ a1))) with
                      | none => none
                      | some r8 =>
                        match c23 r4.1 r5.1 with
                        | none => none
                        | some r9 =>
                          bif r9 then
                            bif (r4.2 == r5.2) then
                              match c140 (r7.1.1, r7.1.2) with
                              | none => none
                              | some r10 =>
                                match c144 (r6.1.1, r6.1.2) (r10.1, r10.2) with
                                | none => none
                                | some r11 =>
                                  bif r11 then
                                    bif (r6.2.1 == r7.2.1) then
                                      bif (r6.2.2 == r7.2.2) then
                                        match c140 (a0.1, a0.2) with
                                        | none => none
                                        | some r12 =>
                                          match c145 (r12.1, r12.2) with
                                          | none => none
                                          | some r13 =>
                                            match c146 (a0.1, a0.2) with
                                            | none => none
                                            | some r14 =>
                                              bif (r13 == r14) then
                                                bif (r4.2 != (0 : Int)) then
                                                  match c138 with
                                                  | none => none
                                                  | some r15 =>
                                                    some r15
                                                else
                                                  match c140 (a0.1, a0.2) with
                                                  | none => none
                                                  | some r16 =>
                                                    match c144 (r8.1.1, r8.1.2) (r16.1, r16.2) with
                                                    | none => none
                                                    | some r17 =>
                                                      bif r17 then
                                                        bif (r8.2.1 == (((List.length r4.1) : Nat) : Int)) then
                                                          bif (r8.2.2 == (0 : Int)) then
                                                            match c138 with
                                                            | none => none
                                                            | some r18 =>
                                                              some r18
                                                          else
                                                            some false
                                                        else
                                                          some false
                                                      else
                                                        some false
                                              else
                                                some false
                                      else
                                        some false
                                    else
                                      some false
                                  else
                                    some false
                            else
                              some false
                          else
                            some false
                    else none
                  else none
                else none

/-- euphroe/attr.OfStatus -/
def p147 (c19 : Int → Int → Bool → Option ((List Int) × Int)) (c166 : Int → Option (List Int)) (c46 : List (List Int) → Option (List Int)) (N : Nat) (a0 : Int × Int × (List Int)) : Option (Int × (List Int)) :=
  match c19 (IntKind.wrap .u64 a0.2.1) (4 : Int) false with
  | none => none
  | some r1 =>
    match c166 a0.1 with
    | none => none
    | some r2 =>
      bif ((decide ((0 : Int) ≤ (if (64 : Int) < (((List.length a0.2.2) : Nat) : Int) then (64 : Int) else (((List.length a0.2.2) : Nat) : Int)))) && (decide ((if (64 : Int) < (((List.length a0.2.2) : Nat) : Int) then (64 : Int) else (((List.length a0.2.2) : Nat) : Int)) ≤ (((List.length a0.2.2) : Nat) : Int)))) then
        match c46 ([r2, r1.1, (List.take (Int.toNat (if (64 : Int) < (((List.length a0.2.2) : Nat) : Int) then (64 : Int) else (((List.length a0.2.2) : Nat) : Int))) a0.2.2)] : List (List Int)) with
        | none => none
        | some r3 =>
          bif (decide ((0 + ((List.length r3) * 1)) ≤ (List.length r3))) then
            some ((2 : Int), (List.take (List.length r3) (List.drop 0 r3)))
          else none
      else none

/-- euphroe/attr.OfBinding -/
def p148 (c166 : Int → Option (List Int)) (c46 : List (List Int) → Option (List Int)) (N : Nat) (a0 : List Int) : Option (Int × (List Int)) :=
  match (a0)[0]? with
  | none => none
  | some x1 =>
    match c166 x1 with
    | none => none
    | some r2 =>
      bif (decide (33 ≤ (List.length a0))) then
        bif (decide (65 ≤ (List.length a0))) then
          bif (decide (97 ≤ (List.length a0))) then
            bif (decide (33 ≤ (List.length a0))) then
              bif (decide (65 ≤ (List.length a0))) then
                bif (decide (97 ≤ (List.length a0))) then
                  match c46 ([r2, (List.take 32 (List.drop 1 a0)), (List.take 32 (List.drop 33 a0)), (List.take 32 (List.drop 65 a0))] : List (List Int)) with
                  | none => none
                  | some r3 =>
                    bif (decide ((0 + ((List.length r3) * 1)) ≤ (List.length r3))) then
                      some ((3 : Int), (List.take (List.length r3) (List.drop 0 r3)))
                    else none
                else none
              else none
            else none
          else none
        else none
      else none

/-- euphroe/euphroeref17.Status -/
def p150 (c50 : Int → Int → Option (List Int)) (N : Nat) (a0 : Int) (a1 : Int) (a2 : List Int) : Option (Int × (List Int)) :=
  match c50 (IntKind.wrap .u64 a1) (4 : Int) with
  | none => none
  | some r1 =>
    bif (decide ((0 + ((List.length r1) * 1)) ≤ (List.length r1))) then
      bif (decide (4 < (4 + (List.length r1)))) then
        bif ((decide (((4 + (List.length r1)) * 1) ≤ 1099511627776)) && (decide ((4 + (List.length r1)) ≤ 1099511627776))) then
          bif ((decide ((0 : Int) ≤ (if (64 : Int) < (((List.length a2) : Nat) : Int) then (64 : Int) else (((List.length a2) : Nat) : Int)))) && (decide ((if (64 : Int) < (((List.length a2) : Nat) : Int) then (64 : Int) else (((List.length a2) : Nat) : Int)) ≤ (((List.length a2) : Nat) : Int)))) then
            bif (((List.length ([(0 : Int), 0, 0, a0] ++ (List.take ((List.length r1) * 1) (List.drop 0 r1)))) == ((4 + (List.length r1)) * 1)) && ((decide ((((4 + (List.length r1)) + (List.length (List.take (Int.toNat (if (64 : Int) < (((List.length a2) : Nat) : Int) then (64 : Int) else (((List.length a2) : Nat) : Int))) a2))) * 1) ≤ 1099511627776)) && (decide (((4 + (List.length r1)) + (List.length (List.take (Int.toNat (if (64 : Int) < (((List.length a2) : Nat) : Int) then (64 : Int) else (((List.length a2) : Nat) : Int))) a2))) ≤ 1099511627776)))) then
              bif (decide ((0 + (((4 + (List.length r1)) + (List.length (List.take (Int.toNat (if (64 : Int) < (((List.length a2) : Nat) : Int) then (64 : Int) else (((List.length a2) : Nat) : Int))) a2))) * 1)) ≤ (List.length (([(0 : Int), 0, 0, a0] ++ (List.take ((List.length r1) * 1) (List.drop 0 r1))) ++ (List.take (Int.toNat (if (64 : Int) < (((List.length a2) : Nat) : Int) then (64 : Int) else (((List.length a2) : Nat) : Int))) a2))))) then
                some ((2 : Int), (List.take ((4 + (List.length r1)) + (List.length (List.take (Int.toNat (if (64 : Int) < (((List.length a2) : Nat) : Int) then (64 : Int) else (((List.length a2) : Nat) : Int))) a2))) (List.drop 0 (([(0 : Int), 0, 0, a0] ++ (List.take ((List.length r1) * 1) (List.drop 0 r1))) ++ (List.take (Int.toNat (if (64 : Int) < (((List.length a2) : Nat) : Int) then (64 : Int) else (((List.length a2) : Nat) : Int))) a2)))))
              else none
            else none
          else none
        else none
      else
        bif (decide ((4 + (List.length (List.take ((List.length r1) * 1) (List.drop 0 r1)))) ≤ 4)) then
          bif ((decide ((0 : Int) ≤ (if (64 : Int) < (((List.length a2) : Nat) : Int) then (64 : Int) else (((List.length a2) : Nat) : Int)))) && (decide ((if (64 : Int) < (((List.length a2) : Nat) : Int) then (64 : Int) else (((List.length a2) : Nat) : Int)) ≤ (((List.length a2) : Nat) : Int)))) then
            bif (decide (4 < ((4 + (List.length r1)) + (List.length (List.take (Int.toNat (if (64 : Int) < (((List.length a2) : Nat) : Int) then (64 : Int) else (((List.length a2) : Nat) : Int))) a2))))) then
              bif ((decide ((((4 + (List.length r1)) + (List.length (List.take (Int.toNat (if (64 : Int) < (((List.length a2) : Nat) : Int) then (64 : Int) else (((List.length a2) : Nat) : Int))) a2))) * 1) ≤ 1099511627776)) && (decide (((4 + (List.length r1)) + (List.length (List.take (Int.toNat (if (64 : Int) < (((List.length a2) : Nat) : Int) then (64 : Int) else (((List.length a2) : Nat) : Int))) a2))) ≤ 1099511627776))) then
                bif (decide ((0 + ((4 + (List.length r1)) * 1)) ≤ (List.length (([(0 : Int), 0, 0, a0] ++ (List.take ((List.length r1) * 1) (List.drop 0 r1))) ++ (List.drop (4 + (List.length (List.take ((List.length r1) * 1) (List.drop 0 r1)))) [(0 : Int), 0, 0, a0]))))) then
                  bif (decide ((0 + (((4 + (List.length r1)) + (List.length (List.take (Int.toNat (if (64 : Int) < (((List.length a2) : Nat) : Int) then (64 : Int) else (((List.length a2) : Nat) : Int))) a2))) * 1)) ≤ (List.length ((List.take ((4 + (List.length r1)) * 1) (List.drop 0 (([(0 : Int), 0, 0, a0] ++ (List.take ((List.length r1) * 1) (List.drop 0 r1))) ++ (List.drop (4 + (List.length (List.take ((List.length r1) * 1) (List.drop 0 r1)))) [(0 : Int), 0, 0, a0])))) ++ (List.take (Int.toNat (if (64 : Int) < (((List.length a2) : Nat) : Int) then (64 : Int) else (((List.length a2) : Nat) : Int))) a2))))) then
                    some ((2 : Int), (List.take ((4 + (List.length r1)) + (List.length (List.take (Int.toNat (if (64 : Int) < (((List.length a2) : Nat) : Int) then (64 : Int) else (((List.length a2) : Nat) : Int))) a2))) (List.drop 0 ((List.take ((4 + (List.length r1)) * 1) (List.drop 0 (([(0 : Int), 0, 0, a0] ++ (List.take ((List.length r1) * 1) (List.drop 0 r1))) ++ (List.drop (4 + (List.length (List.take ((List.length r1) * 1) (List.drop 0 r1)))) [(0 : Int), 0, 0, a0])))) ++ (List.take (Int.toNat (if (64 : Int) < (((List.length a2) : Nat) : Int) then (64 : Int) else (((List.length a2) : Nat) : Int))) a2)))))
                  else none
                else none
              else none
            else
              bif (decide (((0 + ((4 + (List.length r1)) * 1)) + (List.length (List.take (Int.toNat (if (64 : Int) < (((List.length a2) : Nat) : Int) then (64 : Int) else (((List.length a2) : Nat) : Int))) a2))) ≤ (List.length (([(0 : Int), 0, 0, a0] ++ (List.take ((List.length r1) * 1) (List.drop 0 r1))) ++ (List.drop (4 + (List.length (List.take ((List.length r1) * 1) (List.drop 0 r1)))) [(0 : Int), 0, 0, a0]))))) then
                bif (decide ((0 + (((4 + (List.length r1)) + (List.length (List.take (Int.toNat (if (64 : Int) < (((List.length a2) : Nat) : Int) then (64 : Int) else (((List.length a2) : Nat) : Int))) a2))) * 1)) ≤ (List.length (((List.take (0 + ((4 + (List.length r1)) * 1)) (([(0 : Int), 0, 0, a0] ++ (List.take ((List.length r1) * 1) (List.drop 0 r1))) ++ (List.drop (4 + (List.length (List.take ((List.length r1) * 1) (List.drop 0 r1)))) [(0 : Int), 0, 0, a0]))) ++ (List.take (Int.toNat (if (64 : Int) < (((List.length a2) : Nat) : Int) then (64 : Int) else (((List.length a2) : Nat) : Int))) a2)) ++ (List.drop ((0 + ((4 + (List.length r1)) * 1)) + (List.length (List.take (Int.toNat (if (64 : Int) < (((List.length a2) : Nat) : Int) then (64 : Int) else (((List.length a2) : Nat) : Int))) a2))) (([(0 : Int), 0, 0, a0] ++ (List.take ((List.length r1) * 1) (List.drop 0 r1))) ++ (List.drop (4 + (List.length (List.take ((List.length r1) * 1) (List.drop 0 r1)))) [(0 : Int), 0, 0, a0]))))))) then
                  some ((2 : Int), (List.take ((4 + (List.length r1)) + (List.length (List.take (Int.toNat (if (64 : Int) < (((List.length a2) : Nat) : Int) then (64 : Int) else (((List.length a2) : Nat) : Int))) a2))) (List.drop 0 (((List.take (0 + ((4 + (List.length r1)) * 1)) (([(0 : Int), 0, 0, a0] ++ (List.take ((List.length r1) * 1) (List.drop 0 r1))) ++ (List.drop (4 + (List.length (List.take ((List.length r1) * 1) (List.drop 0 r1)))) [(0 : Int), 0, 0, a0]))) ++ (List.take (Int.toNat (if (64 : Int) < (((List.length a2) : Nat) : Int) then (64 : Int) else (((List.length a2) : Nat) : Int))) a2)) ++ (List.drop ((0 + ((4 + (List.length r1)) * 1)) + (List.length (List.take (Int.toNat (if (64 : Int) < (((List.length a2) : Nat) : Int) then (64 : Int) else (((List.length a2) : Nat) : Int))) a2))) (([(0 : Int), 0, 0, a0] ++ (List.take ((List.length r1) * 1) (List.drop 0 r1))) ++ (List.drop (4 + (List.length (List.take ((List.length r1) * 1) (List.drop 0 r1)))) [(0 : Int), 0, 0, a0])))))))
                else none
              else none
          else none
        else none
    else none

/-- euphroe/euphroeref17.Binding -/
def p151 (N : Nat) (a0 : Int) (a1 : List Int) (a2 : List Int) (a3 : List Int) : Option (Int × (List Int)) :=
  bif (decide (32 ≤ (List.length a1))) then
    bif (decide (32 ≤ (List.length a1))) then
      bif (decide (32 ≤ (List.length a2))) then
        bif (decide (32 ≤ (List.length a2))) then
          bif (((List.length ([(0 : Int), 0, 0, a0] ++ (List.take 32 (List.drop 0 a1)))) == 36) && true) then
            bif (decide (32 ≤ (List.length a3))) then
              bif ((List.length (List.take 32 (List.drop 0 a3))) == 32) then
                bif (((List.length (([(0 : Int), 0, 0, a0] ++ (List.take 32 (List.drop 0 a1))) ++ (List.take 32 (List.drop 0 a2)))) == 68) && true) then
                  bif (decide (100 ≤ (List.length ((([(0 : Int), 0, 0, a0] ++ (List.take 32 (List.drop 0 a1))) ++ (List.take 32 (List.drop 0 a2))) ++ (List.take 32 (List.drop 0 a3)))))) then
                    some ((3 : Int), (List.take 100 (List.drop 0 ((([(0 : Int), 0, 0, a0] ++ (List.take 32 (List.drop 0 a1))) ++ (List.take 32 (List.drop 0 a2))) ++ (List.take 32 (List.drop 0 a3))))))
                  else none
                else none
              else none
            else none
          else none
        else none
      else none
    else none
  else none

/-- euphroe/euphroeref17.Ask -/
def p152 (N : Nat) (a0 : Int) (a1 : List Int) : Option (Int × (List Int)) :=
  bif (decide (32 ≤ (List.length a1))) then
    bif (decide (32 ≤ (List.length a1))) then
      bif (decide (36 ≤ (List.length ([(0 : Int), 0, 0, a0] ++ (List.take 32 (List.drop 0 a1)))))) then
        some ((4 : Int), (List.take 36 (List.drop 0 ([(0 : Int), 0, 0, a0] ++ (List.take 32 (List.drop 0 a1))))))
      else none
    else none
  else none

/-- euphroe/attr.ToStatus -/
def p153 (c167 : Int × (List Int) → Int → Option Int) (c21 : List Int → Bool → Option (Int × Int)) (c108 : List Int → Option (List Int)) (N : Nat) (a0 : Int × (List Int)) : Option ((Int × Int × (List Int)) × Int) :=
  match c167 (a0.1, a0.2) (2 : Int) with
  | none => none
  | some r1 =>
    bif (r1 != (0 : Int)) then
      some (((0 : Int), ((0 : Int), ([] : List Int))), r1)
    else
      bif (decide ((8 : Int) ≤ (((List.length a0.2) : Nat) : Int))) then
        match c21 (List.take 4 (List.drop 4 a0.2)) false with
        | none => none
        | some r2 =>
          match geti a0.2 (3 : Int) with
          | none => none
          | some x3 =>
            bif (decide ((8 : Int) ≤ (((List.length a0.2) : Nat) : Int))) then
              match c108 (List.drop 8 a0.2) with
              | none => none
              | some r4 =>
                bif (decide ((0 + ((List.length r4) * 1)) ≤ (List.length r4))) then
                  some ((x3, ((IntKind.wrap .u32 r2.1), (List.take (List.length r4) (List.drop 0 r4)))), (0 : Int))
                else none
            else none
      else none

/-- euphroe/attr.ToBinding -/
def p154 (c167 : Int × (List Int) → Int → Option Int) (N : Nat) (a0 : Int × (List Int)) : Option ((List Int) × Int) :=
  match c167 (a0.1, a0.2) (3 : Int) with
  | none => none
  | some r1 =>
    bif (r1 != (0 : Int)) then
      some (([(0 : Int), 0, 0, 0, 0, 0, 0, 0, 0, 0, 0, 0, 0, 0, 0, 0, 0, 0, 0, 0, 0, 0, 0, 0, 0, 0, 0, 0, 0, 0, 0, 0, 0, 0, 0, 0, 0, 0, 0, 0, 0, 0, 0, 0, 0, 0, 0, 0, 0, 0, 0, 0, 0, 0, 0, 0, 0, 0, 0, 0, 0, 0, 0, 0, 0, 0, 0, 0, 0, 0, 0, 0, 0, 0, 0, 0, 0, 0, 0, 0, 0, 0, 0, 0, 0, 0, 0, 0, 0, 0, 0, 0, 0, 0, 0, 0, 0] : List Int), r1)
    else
      bif (decide ((4 : Int) ≤ (((List.length a0.2) : Nat) : Int))) then
        match geti a0.2 (3 : Int) with
        | none => none
        | some x2 =>
          bif (decide (32 ≤ (List.length (List.drop 4 a0.2)))) then
            bif (decide (32 ≤ (List.length (List.drop 4 a0.2)))) then
              bif (decide ((32 : Int) ≤ (((List.length (List.drop 4 a0.2)) : Nat) : Int))) then
                bif (decide (32 ≤ (List.length (List.drop 32 (List.drop 4 a0.2))))) then
                  bif (decide (32 ≤ (List.length (List.drop 32 (List.drop 4 a0.2))))) then
                    bif (decide ((64 : Int) ≤ (((List.length (List.drop 4 a0.2)) : Nat) : Int))) then
                      bif (decide (32 ≤ (List.length (List.drop 64 (List.drop 4 a0.2))))) then
                        bif (decide (32 ≤ (List.length (List.drop 64 (List.drop 4 a0.2))))) then
                          bif ((List.length (List.take 32 (List.drop 0 (List.drop 4 a0.2)))) == 32) then
                            bif (decide ((1 + (List.length (List.take 32 (List.drop 0 (List.drop 4 a0.2))))) ≤ 97)) then
                              bif ((List.length (List.take 32 (List.drop 0 (List.drop 32 (List.drop 4 a0.2))))) == 32) then
                                bif (decide ((33 + (List.length (List.take 32 (List.drop 0 (List.drop 32 (List.drop 4 a0.2)))))) ≤ (List.length (([x2] ++ (List.take 32 (List.drop 0 (List.drop 4 a0.2)))) ++ (List.drop (1 + (List.length (List.take 32 (List.drop 0 (List.drop 4 a0.2))))) [x2, 0, 0, 0, 0, 0, 0, 0, 0, 0, 0, 0, 0, 0, 0, 0, 0, 0, 0, 0, 0, 0, 0, 0, 0, 0, 0, 0, 0, 0, 0, 0, 0, 0, 0, 0, 0, 0, 0, 0, 0, 0, 0, 0, 0, 0, 0, 0, 0, 0, 0, 0, 0, 0, 0, 0, 0, 0, 0, 0, 0, 0, 0, 0, 0, 0, 0, 0, 0, 0, 0, 0, 0, 0, 0, 0, 0, 0, 0, 0, 0, 0, 0, 0, 0, 0, 0, 0, 0, 0, 0, 0, 0, 0, 0, 0, 0]))))) then
                                  bif ((List.length (List.take 32 (List.drop 0 (List.drop 64 (List.drop 4 a0.2))))) == 32) then
                                    bif (decide ((65 + (List.length (List.take 32 (List.drop 0 (List.drop 64 (List.drop 4 a0.2)))))) ≤ (List.length (((List.take 33 (([x2] ++ (List.take 32 (List.drop 0 (List.drop 4 a0.2)))) ++ (List.drop (1 + (List.length (List.take 32 (List.drop 0 (List.drop 4 a0.2))))) [x2, 0, 0, 0, 0, 0, 0, 0, 0, 0, 0, 0, 0, 0, 0, 0, 0, 0, 0, 0, 0, 0, 0, 0, 0, 0, 0, 0, 0, 0, 0, 0, 0, 0, 0, 0, 0, 0, 0, 0, 0, 0, 0, 0, 0, 0, 0, 0, 0, 0, 0, 0, 0, 0, 0, 0, 0, 0, 0, 0, 0, 0, 0, 0, 0, 0, 0, 0, 0, 0, 0, 0, 0, 0, 0, 0, 0, 0, 0, 0, 0, 0, 0, 0, 0, 0, 0, 0, 0, 0, 0, 0, 0, 0, 0, 0, 0]))) ++ (List.take 32 (List.drop 0 (List.drop 32 (List.drop 4 a0.2))))) ++ (List.drop (33 + (List.length (List.take 32 (List.drop 0 (List.drop 32 (List.drop 4 a0.2)))))) (([x2] ++ (List.take 32 (List.drop 0 (List.drop 4 a0.2)))) ++ (List.drop (1 + (List.length (List.take 32 (List.drop 0 (List.drop 4 a0.2))))) [x2, 0, 0, 0, 0, 0, 0, 0, 0, 0, 0, 0, 0, 0, 0, 0, 0, 0, 0, 0, 0, 0, 0, 0, 0, 0, 0, 0, 0, 0, 0, 0, 0, 0, 0, 0, 0, 0, 0, 0, 0, 0, 0, 0, 0, 0, 0, 0, 0, 0, 0, 0, 0, 0, 0, 0, 0, 0, 0, 0, 0, 0, 0, 0, 0, 0, 0, 0, 0, 0, 0, 0, 0, 0, 0, 0, 0, 0, 0, 0, 0, 0, 0, 0, 0, 0, 0, 0, 0, 0, 0, 0, 0, 0, 0, 0, 0]))))))) then
                                      bif ((List.length (((List.take 65 (((List.take 33 (([x2] ++ (List.take 32 (List.drop 0 (List.drop 4 a0.2)))) ++ (List.drop (1 + (List.length (List.take 32 (List.drop 0 (List.drop 4 a0.2))))) [x2, 0, 0, 0, 0, 0, 0, 0, 0, 0, 0, 0, 0, 0, 0, 0, 0, 0, 0, 0, 0, 0, 0, 0, 0, 0, 0, 0, 0, 0, 0, 0, 0, 0, 0, 0, 0, 0, 0, 0, 0, 0, 0, 0, 0, 0, 0, 0, 0, 0, 0, 0, 0, 0, 0, 0, 0, 0, 0, 0, 0, 0, 0, 0, 0, 0, 0, 0, 0, 0, 0, 0, 0, 0, 0, 0, 0, 0, 0, 0, 0, 0, 0, 0, 0, 0, 0, 0, 0, 0, 0, 0, 0, 0, 0, 0, 0]))) ++ (List.take 32 (List.drop 0 (List.drop 32 (List.drop 4 a0.2))))) ++ (List.drop (33 + (List.length (List.take 32 (List.drop 0 (List.drop 32 (List.drop 4 a0.2)))))) (([x2] ++ (List.take 32 (List.drop 0 (List.drop 4 a0.2)))) ++ (List.drop (1 + (List.length (List.take 32 (List.drop 0 (List.drop 4 a0.2))))) [x2, 0, 0, 0, 0, 0, 0, 0, 0, 0, 0, 0, 0, 0, 0, 0, 0, 0, 0, 0, 0, 0, 0, 0, 0, 0, 0, 0, 0, 0, 0, 0, 0, 0, 0, 0, 0, 0, 0, 0, 0, 0, 0, 0, 0, 0, 0, 0, 0, 0, 0, 0, 0, 0, 0, 0, 0, 0, 0, 0, 0, 0, 0, 0, 0, 0, 0, 0, 0, 0, 0, 0, 0, 0, 0, 0, 0, 0, 0, 0, 0, 0, 0, 0, 0, 0, 0, 0, 0, 0, 0, 0, 0, 0, 0, 0, 0]))))) ++ (List.take 32 (List.drop 0 (List.drop 64 (List.drop 4 a0.2))))) ++ (List.drop (65 + (List.length (List.take 32 (List.drop 0 (List.drop 64 (List.drop 4 a0.2)))))) (((List.take 33 (([x2] ++ (List.take 32 (List.drop 0 (List.drop 4 a0.2)))) ++ (List.drop (1 + (List.length (List.take 32 (List.drop 0 (List.drop 4 a0.2))))) [x2, 0, 0, 0, 0, 0, 0, 0, 0, 0, 0, 0, 0, 0, 0, 0, 0, 0, 0, 0, 0, 0, 0, 0, 0, 0, 0, 0, 0, 0, 0, 0, 0, 0, 0, 0, 0, 0, 0, 0, 0, 0, 0, 0, 0, 0, 0, 0, 0, 0, 0, 0, 0, 0, 0, 0, 0, 0, 0, 0, 0, 0, 0, 0, 0, 0, 0, 0, 0, 0, 0, 0, 0, 0, 0, 0, 0, 0, 0, 0, 0, 0, 0, 0, 0, 0, 0, 0, 0, 0, 0, 0, 0, 0, 0, 0, 0]))) ++ (List.take 32 (List.drop 0 (List.drop 32 (List.drop 4 a0.2))))) ++ (List.drop (33 + (List.length (List.take 32 (List.drop 0 (List.drop 32 (List.drop 4 a0.2)))))) (([x2] ++ (List.take 32 (List.drop 0 (List.drop 4 a0.2)))) ++ (List.drop (1 + (List.length (List.take 32 (List.drop 0 (List.drop 4 a0.2))))) [x2, 0, 0, 0, 0, 0, 0, 0, 0, 0, 0, 0, 0, 0, 0, 0, 0, 0, 0, 0, 0, 0, 0, 0, 0, 0, 0, 0, 0, 0, 0, 0, 0, 0, 0, 0, 0, 0, 0, 0, 0, 0, 0, 0, 0, 0, 0, 0, 0, 0, 0, 0, 0, 0, 0, 0, 0, 0, 0, 0, 0, 0, 0, 0, 0, 0, 0, 0, 0, 0, 0, 0, 0, 0, 0, 0, 0, 0, 0, 0, 0, 0, 0, 0, 0, 0, 0, 0, 0, 0, 0, 0, 0, 0, 0, 0, 0]))))))) == 97) then
                                        bif (decide ((0 + (List.length (((List.take 65 (((List.take 33 (([x2] ++ (List.take 32 (List.drop 0 (List.drop 4 a0.2)))) ++ (List.drop (1 + (List.length (List.take 32 (List.drop 0 (List.drop 4 a0.2))))) [x2, 0, 0, 0, 0, 0, 0, 0, 0, 0, 0, 0, 0, 0, 0, 0, 0, 0, 0, 0, 0, 0, 0, 0, 0, 0, 0, 0, 0, 0, 0, 0, 0, 0, 0, 0, 0, 0, 0, 0, 0, 0, 0, 0, 0, 0, 0, 0, 0, 0, 0, 0, 0, 0, 0, 0, 0, 0, 0, 0, 0, 0, 0, 0, 0, 0, 0, 0, 0, 0, 0, 0, 0, 0, 0, 0, 0, 0, 0, 0, 0, 0, 0, 0, 0, 0, 0, 0, 0, 0, 0, 0, 0, 0, 0, 0, 0]))) ++ (List.take 32 (List.drop 0 (List.drop 32 (List.drop 4 a0.2))))) ++ (List.drop (33 + (List.length (List.take 32 (List.drop 0 (List.drop 32 (List.drop 4 a0.2)))))) (([x2] ++ (List.take 32 (List.drop 0 (List.drop 4 a0.2)))) ++ (List.drop (1 + (List.length (List.take 32 (List.drop 0 (List.drop 4 a0.2))))) [x2, 0, 0, 0, 0, 0, 0, 0, 0, 0, 0, 0, 0, 0, 0, 0, 0, 0, 0, 0, 0, 0, 0, 0, 0, 0, 0, 0, 0, 0, 0, 0, 0, 0, 0, 0, 0, 0, 0, 0, 0, 0, 0, 0, 0, 0, 0, 0, 0, 0, 0, 0, 0, 0, 0, 0, 0, 0, 0, 0, 0, 0, 0, 0, 0, 0, 0, 0, 0, 0, 0, 0, 0, 0, 0, 0, 0, 0, 0, 0, 0, 0, 0, 0, 0, 0, 0, 0, 0, 0, 0, 0, 0, 0, 0, 0, 0]))))) ++ (List.take 32 (List.drop 0 (List.drop 64 (List.drop 4 a0.2))))) ++ (List.drop (65 + (List.length (List.take 32 (List.drop 0 (List.drop 64 (List.drop 4 a0.2)))))) (((List.take 33 (([x2] ++ (List.take 32 (List.drop 0 (List.drop 4 a0.2)))) ++ (List.drop (1 + (List.length (List.take 32 (List.drop 0 (List.drop 4 a0.2))))) [x2, 0, 0, 0, 0, 0, 0, 0, 0, 0, 0, 0, 0, 0, 0, 0, 0, 0, 0, 0, 0, 0, 0, 0, 0, 0, 0, 0, 0, 0, 0, 0, 0, 0, 0, 0, 0, 0, 0, 0, 0, 0, 0, 0, 0, 0, 0, 0, 0, 0, 0, 0, 0, 0, 0, 0, 0, 0, 0, 0, 0, 0, 0, 0, 0, 0, 0, 0, 0, 0, 0, 0, 0, 0, 0, 0, 0, 0, 0, 0, 0, 0, 0, 0, 0, 0, 0, 0, 0, 0, 0, 0, 0, 0, 0, 0, 0]))) ++ (List.take 32 (List.drop 0 (List.drop 32 (List.drop 4 a0.2))))) ++ (List.drop (33 + (List.length (List.take 32 (List.drop 0 (List.drop 32 (List.drop 4 a0.2)))))) (([x2] ++ (List.take 32 (List.drop 0 (List.drop 4 a0.2)))) ++ (List.drop (1 + (List.length (List.take 32 (List.drop 0 (List.drop 4 a0.2))))) [x2, 0, 0, 0, 0, 0, 0, 0, 0, 0, 0, 0, 0, 0, 0, 0, 0, 0, 0, 0, 0, 0, 0, 0, 0, 0, 0, 0, 0, 0, 0, 0, 0, 0, 0, 0, 0, 0, 0, 0, 0, 0, 0, 0, 0, 0, 0, 0, 0, 0, 0, 0, 0, 0, 0, 0, 0, 0, 0, 0, 0, 0, 0, 0, 0, 0, 0, 0, 0, 0, 0, 0, 0, 0, 0, 0, 0, 0, 0, 0, 0, 0, 0, 0, 0, 0, 0, 0, 0, 0, 0, 0, 0, 0, 0, 0, 0])))))))) ≤ 97)) then
                                          bif (decide (97 ≤ (List.length (([] ++ (((List.take 65 (((List.take 33 (([x2] ++ (List.take 32 (List.drop 0 (List.drop 4 a0.2)))) ++ (List.drop (1 + (List.length (List.take 32 (List.drop 0 (List.drop 4 a0.2))))) [x2, 0, 0, 0, 0, 0, 0, 0, 0, 0, 0, 0, 0, 0, 0, 0, 0, 0, 0, 0, 0, 0, 0, 0, 0, 0, 0, 0, 0, 0, 0, 0, 0, 0, 0, 0, 0, 0, 0, 0, 0, 0, 0, 0, 0, 0, 0, 0, 0, 0, 0, 0, 0, 0, 0, 0, 0, 0, 0, 0, 0, 0, 0, 0, 0, 0, 0, 0, 0, 0, 0, 0, 0, 0, 0, 0, 0, 0, 0, 0, 0, 0, 0, 0, 0, 0, 0, 0, 0, 0, 0, 0, 0, 0, 0, 0, 0]))) ++ (List.take 32 (List.drop 0 (List.drop 32 (List.drop 4 a0.2))))) ++ (List.drop (33 + (List.length (List.take 32 (List.drop 0 (List.drop 32 (List.drop 4 a0.2)))))) (([x2] ++ (List.take 32 (List.drop 0 (List.drop 4 a0.2)))) ++ (List.drop (1 + (List.length (List.take 32 (List.drop 0 (List.drop 4 a0.2))))) [x2, 0, 0, 0, 0, 0, 0, 0, 0, 0, 0, 0, 0, 0, 0, 0, 0, 0, 0, 0, 0, 0, 0, 0, 0, 0, 0, 0, 0, 0, 0, 0, 0, 0, 0, 0, 0, 0, 0, 0, 0, 0, 0, 0, 0, 0, 0, 0, 0, 0, 0, 0, 0, 0, 0, 0, 0, 0, 0, 0, 0, 0, 0, 0, 0, 0, 0, 0, 0, 0, 0, 0, 0, 0, 0, 0, 0, 0, 0, 0, 0, 0, 0, 0, 0, 0, 0, 0, 0, 0, 0, 0, 0, 0, 0, 0, 0]))))) ++ (List.take 32 (List.drop 0 (List.drop 64 (List.drop 4 a0.2))))) ++ (List.drop (65 + (List.length (List.take 32 (List.drop 0 (List.drop 64 (List.drop 4 a0.2)))))) (((List.take 33 (([x2] ++ (List.take 32 (List.drop 0 (List.drop 4 a0.2)))) ++ (List.drop (1 + (List.length (List.take 32 (List.drop 0 (List.drop 4 a0.2))))) [x2, 0, 0, 0, 0, 0, 0, 0, 0, 0, 0, 0, 0, 0, 0, 0, 0, 0, 0, 0, 0, 0, 0, 0, 0, 0, 0, 0, 0, 0, 0, 0, 0, 0, 0, 0, 0, 0, 0, 0, 0, 0, 0, 0, 0, 0, 0, 0, 0, 0, 0, 0, 0, 0, 0, 0, 0, 0, 0, 0, 0, 0, 0, 0, 0, 0, 0, 0, 0, 0, 0, 0, 0, 0, 0, 0, 0, 0, 0, 0, 0, 0, 0, 0, 0, 0, 0, 0, 0, 0, 0, 0, 0, 0, 0, 0, 0]))) ++ (List.take 32 (List.drop 0 (List.drop 32 (List.drop 4 a0.2))))) ++ (List.drop (33 + (List.length (List.take 32 (List.drop 0 (List.drop 32 (List.drop 4 a0.2)))))) (([x2] ++ (List.take 32 (List.drop 0 (List.drop 4 a0.2)))) ++ (List.drop (1 + (List.length (List.take 32 (List.drop 0 (List.drop 4 a0.2))))) [x2, 0, 0, 0, 0, 0, 0, 0, 0, 0, 0, 0, 0, 0, 0, 0, 0, 0, 0, 0, 0, 0, 0, 0, 0, 0, 0, 0, 0, 0, 0, 0, 0, 0, 0, 0, 0, 0, 0, 0, 0, 0, 0, 0, 0, 0, 0, 0, 0, 0, 0, 0, 0, 0, 0, 0, 0, 0, 0, 0, 0, 0, 0, 0, 0, 0, 0, 0, 0, 0, 0, 0, 0, 0, 0, 0, 0, 0, 0, 0, 0, 0, 0, 0, 0, 0, 0, 0, 0, 0, 0, 0, 0, 0, 0, 0, 0]))))))) ++ (List.drop (0 + (List.length (((List.take 65 (((List.take 33 (([x2] ++ (List.take 32 (List.drop 0 (List.drop 4 a0.2)))) ++ (List.drop (1 + (List.length (List.take 32 (List.drop 0 (List.drop 4 a0.2))))) [x2, 0, 0, 0, 0, 0, 0, 0, 0, 0, 0, 0, 0, 0, 0, 0, 0, 0, 0, 0, 0, 0, 0, 0, 0, 0, 0, 0, 0, 0, 0, 0, 0, 0, 0, 0, 0, 0, 0, 0, 0, 0, 0, 0, 0, 0, 0, 0, 0, 0, 0, 0, 0, 0, 0, 0, 0, 0, 0, 0, 0, 0, 0, 0, 0, 0, 0, 0, 0, 0, 0, 0, 0, 0, 0, 0, 0, 0, 0, 0, 0, 0, 0, 0, 0, 0, 0, 0, 0, 0, 0, 0, 0, 0, 0, 0, 0]))) ++ (List.take 32 (List.drop 0 (List.drop 32 (List.drop 4 a0.2))))) ++ (List.drop (33 + (List.length (List.take 32 (List.drop 0 (List.drop 32 (List.drop 4 a0.2)))))) (([x2] ++ (List.take 32 (List.drop 0 (List.drop 4 a0.2)))) ++ (List.drop (1 + (List.length (List.take 32 (List.drop 0 (List.drop 4 a0.2))))) [x2, 0, 0, 0, 0, 0, 0, 0, 0, 0, 0, 0, 0, 0, 0, 0, 0, 0, 0, 0, 0, 0, 0, 0, 0, 0, 0, 0, 0, 0, 0, 0, 0, 0, 0, 0, 0, 0, 0, 0, 0, 0, 0, 0, 0, 0, 0, 0, 0, 0, 0, 0, 0, 0, 0, 0, 0, 0, 0, 0, 0, 0, 0, 0, 0, 0, 0, 0, 0, 0, 0, 0, 0, 0, 0, 0, 0, 0, 0, 0, 0, 0, 0, 0, 0, 0, 0, 0, 0, 0, 0, 0, 0, 0, 0, 0, 0]))))) ++ (List.take 32 (List.drop 0 (List.drop 64 (List.drop 4 a0.2))))) ++ (List.drop (65 + (List.length (List.take 32 (List.drop 0 (List.drop 64 (List.drop 4 a0.2)))))) (((List.take 33 (([x2] ++ (List.take 32 (List.drop 0 (List.drop 4 a0.2)))) ++ (List.drop (1 + (List.length (List.take 32 (List.drop 0 (List.drop 4 a0.2))))) [x2, 0, 0, 0, 0, 0, 0, 0, 0, 0, 0, 0, 0, 0, 0, 0, 0, 0, 0, 0, 0, 0, 0, 0, 0, 0, 0, 0, 0, 0, 0, 0, 0, 0, 0, 0, 0, 0, 0, 0, 0, 0, 0, 0, 0, 0, 0, 0, 0, 0, 0, 0, 0, 0, 0, 0, 0, 0, 0, 0, 0, 0, 0, 0, 0, 0, 0, 0, 0, 0, 0, 0, 0, 0, 0, 0, 0, 0, 0, 0, 0, 0, 0, 0, 0, 0, 0, 0, 0, 0, 0, 0, 0, 0, 0, 0, 0]))) ++ (List.take 32 (List.drop 0 (List.drop 32 (List.drop 4 a0.2))))) ++ (List.drop (33 + (List.length (List.take 32 (List.drop 0 (List.drop 32 (List.drop 4 a0.2)))))) (([x2] ++ (List.take 32 (List.drop 0 (List.drop 4 a0.2)))) ++ (List.drop (1 + (List.length (List.take 32 (List.drop 0 (List.drop 4 a0.2))))) [x2, 0, 0, 0, 0, 0, 0, 0, 0, 0, 0, 0, 0, 0, 0, 0, 0, 0, 0, 0, 0, 0, 0, 0, 0, 0, 0, 0, 0, 0, 0, 0, 0, 0, 0, 0, 0, 0, 0, 0, 0, 0, 0, 0, 0, 0, 0, 0, 0, 0, 0, 0, 0, 0, 0, 0, 0, 0, 0, 0, 0, 0, 0, 0, 0, 0, 0, 0, 0, 0, 0, 0, 0, 0, 0, 0, 0, 0, 0, 0, 0, 0, 0, 0, 0, 0, 0, 0, 0, 0, 0, 0, 0, 0, 0, 0, 0])))))))) [(0 : Int), 0, 0, 0, 0, 0, 0, 0, 0, 0, 0, 0, 0, 0, 0, 0, 0, 0, 0, 0, 0, 0, 0, 0, 0, 0, 0, 0, 0, 0, 0, 0, 0, 0, 0, 0, 0, 0, 0, 0, 0, 0, 0, 0, 0, 0, 0, 0, 0, 0, 0, 0, 0, 0, 0, 0, 0, 0, 0, 0, 0, 0, 0, 0, 0, 0, 0, 0, 0, 0, 0, 0, 0, 0, 0, 0, 0, 0, 0, 0, 0, 0, 0, 0, 0, 0, 0, 0, 0, 0, 0, 0, 0, 0, 0, 0, 0]))))) then
                                            some ((List.take 97 (List.drop 0 (([] ++ (((List.take 65 (((List.take 33 (([x2] ++ (List.take 32 (List.drop 0 (List.drop 4 a0.2)))) ++ (List.drop (1 + (List.length (List.take 32 (List.drop 0 (List.drop 4 a0.2))))) [x2, 0, 0, 0, 0, 0, 0, 0, 0, 0, 0, 0, 0, 0, 0, 0, 0, 0, 0, 0, 0, 0, 0, 0, 0, 0, 0, 0, 0, 0, 0, 0, 0, 0, 0, 0, 0, 0, 0, 0, 0, 0, 0, 0, 0, 0, 0, 0, 0, 0, 0, 0, 0, 0, 0, 0, 0, 0, 0, 0, 0, 0, 0, 0, 0, 0, 0, 0, 0, 0, 0, 0, 0, 0, 0, 0, 0, 0, 0, 0, 0, 0, 0, 0, 0, 0, 0, 0, 0, 0, 0, 0, 0, 0, 0, 0, 0]))) ++ (List.take 32 (List.drop 0 (List.drop 32 (List.drop 4 a0.2))))) ++ (List.drop (33 + (List.length (List.take 32 (List.drop 0 (List.drop 32 (List.drop 4 a0.2)))))) (([x2] ++ (List.take 32 (List.drop 0 (List.drop 4 a0.2)))) ++ (List.drop (1 + (List.length (List.take 32 (List.drop 0 (List.drop 4 a0.2))))) [x2, 0, 0, 0, 0, 0, 0, 0, 0, 0, 0, 0, 0, 0, 0, 0, 0, 0, 0, 0, 0, 0, 0, 0, 0, 0, 0, 0, 0, 0, 0, 0, 0, 0, 0, 0, 0, 0, 0, 0, 0, 0, 0, 0, 0, 0, 0, 0, 0, 0, 0, 0, 0, 0, 0, 0, 0, 0, 0, 0, 0, 0, 0, 0, 0, 0, 0, 0, 0, 0, 0, 0, 0, 0, 0, 0, 0, 0, 0, 0, 0, 0, 0, 0, 0, 0, 0, 0, 0, 0, 0, 0, 0, 0, 0, 0, 0]))))) ++ (List.take 32 (List.drop 0 (List.drop 64 (List.drop 4 a0.2))))) ++ (List.drop (65 + (List.length (List.take 32 (List.drop 0 (List.drop 64 (List.drop 4 a0.2)))))) (((List.take 33 (([x2] ++ (List.take 32 (List.drop 0 (List.drop 4 a0.2)))) ++ (List.drop (1 + (List.length (List.take 32 (List.drop 0 (List.drop 4 a0.2))))) [x2, 0, 0, 0, 0, 0, 0, 0, 0, 0, 0, 0, 0, 0, 0, 0, 0, 0, 0, 0, 0, 0, 0, 0, 0, 0, 0, 0, 0, 0, 0, 0, 0, 0, 0, 0, 0, 0, 0, 0, 0, 0, 0, 0, 0, 0, 0, 0, 0, 0, 0, 0, 0, 0, 0, 0, 0, 0, 0, 0, 0, 0, 0, 0, 0, 0, 0, 0, 0, 0, 0, 0, 0, 0, 0, 0, 0, 0, 0, 0, 0, 0, 0, 0, 0, 0, 0, 0, 0, 0, 0, 0, 0, 0, 0, 0, 0]))) ++ (List.take 32 (List.drop 0 (List.drop 32 (List.drop 4 a0.2))))) ++ (List.drop (33 + (List.length (List.take 32 (List.drop 0 (List.drop 32 (List.drop 4 a0.2)))))) (([x2] ++ (List.take 32 (List.drop 0 (List.drop 4 a0.2)))) ++ (List.drop (1 + (List.length (List.take 32 (List.drop 0 (List.drop 4 a0.2))))) [x2, 0, 0, 0, 0, 0, 0, 0, 0, 0, 0, 0, 0, 0, 0, 0, 0, 0, 0, 0, 0, 0, 0, 0, 0, 0, 0, 0, 0, 0, 0, 0, 0, 0, 0, 0, 0, 0, 0, 0, 0, 0, 0, 0, 0, 0, 0, 0, 0, 0, 0, 0, 0, 0, 0, 0, 0, 0, 0, 0, 0, 0, 0, 0, 0, 0, 0, 0, 0, 0, 0, 0, 0, 0, 0, 0, 0, 0, 0, 0, 0, 0, 0, 0, 0, 0, 0, 0, 0, 0, 0, 0, 0, 0, 0, 0, 0]))))))) ++ (List.drop (0 + (List.length (((List.take 65 (((List.take 33 (([x2] ++ (List.take 32 (List.drop 0 (List.drop 4 a0.2)))) ++ (List.drop (1 + (List.length (List.take 32 (List.drop 0 (List.drop 4 a0.2))))) [x2, 0, 0, 0, 0, 0, 0, 0, 0, 0, 0, 0, 0, 0, 0, 0, 0, 0, 0, 0, 0, 0, 0, 0, 0, 0, 0, 0, 0, 0, 0, 0, 0, 0, 0, 0, 0, 0, 0, 0, 0, 0, 0, 0, 0, 0, 0, 0, 0, 0, 0, 0, 0, 0, 0, 0, 0, 0, 0, 0, 0, 0, 0, 0, 0, 0, 0, 0, 0, 0, 0, 0, 0, 0, 0, 0, 0, 0, 0, 0, 0, 0, 0, 0, 0, 0, 0, 0, 0, 0, 0, 0, 0, 0, 0, 0, 0]))) ++ (List.take 32 (List.drop 0 (List.drop 32 (List.drop 4 a0.2))))) ++ (List.drop (33 + (List.length (List.take 32 (List.drop 0 (List.drop 32 (List.drop 4 a0.2)))))) (([x2] ++ (List.take 32 (List.drop 0 (List.drop 4 a0.2)))) ++ (List.drop (1 + (List.length (List.take 32 (List.drop 0 (List.drop 4 a0.2))))) [x2, 0, 0, 0, 0, 0, 0, 0, 0, 0, 0, 0, 0, 0, 0, 0, 0, 0, 0, 0, 0, 0, 0, 0, 0, 0, 0, 0, 0, 0, 0, 0, 0, 0, 0, 0, 0, 0, 0, 0, 0, 0, 0, 0, 0, 0, 0, 0, 0, 0, 0, 0, 0, 0, 0, 0, 0, 0, 0, 0, 0, 0, 0, 0, 0, 0, 0, 0, 0, 0, 0, 0, 0, 0, 0, 0, 0, 0, 0, 0, 0, 0, 0, 0, 0, 0, 0, 0, 0, 0, 0, 0, 0, 0, 0, 0, 0]))))) ++ (List.take 32 (List.drop 0 (List.drop 64 (List.drop 4 a0.2))))) ++ (List.drop (65 + (List.length (List.take 32 (List.drop 0 (List.drop 64 (List.drop 4 a0.2)))))) (((List.take 33 (([x2] ++ (List.take 32 (List.drop 0 (List.drop 4 a0.2)))) ++ (List.drop (1 + (List.length (List.take 32 (List.drop 0 (List.drop 4 a0.2))))) [x2, 0, 0, 0, 0, 0, 0, 0, 0, 0, 0, 0, 0, 0, 0, 0, 0, 0, 0, 0, 0, 0, 0, 0, 0, 0, 0, 0, 0, 0, 0, 0, 0, 0, 0, 0, 0, 0, 0, 0, 0, 0, 0, 0, 0, 0, 0, 0, 0, 0, 0, 0, 0, 0, 0, 0, 0, 0, 0, 0, 0, 0, 0, 0, 0, 0, 0, 0, 0, 0, 0, 0, 0, 0, 0, 0, 0, 0, 0, 0, 0, 0, 0, 0, 0, 0, 0, 0, 0, 0, 0, 0, 0, 0, 0, 0, 0]))) ++ (List.take 32 (List.drop 0 (List.drop 32 (List.drop 4 a0.2))))) ++ (List.drop (33 + (List.length (List.take 32 (List.drop 0 (List.drop 32 (List.drop 4 a0.2)))))) (([x2] ++ (List.take 32 (List.drop 0 (List.drop 4 a0.2)))) ++ (List.drop (1 + (List.length (List.take 32 (List.drop 0 (List.drop 4 a0.2))))) [x2, 0, 0, 0, 0, 0, 0, 0, 0, 0, 0, 0, 0, 0, 0, 0, 0, 0, 0, 0, 0, 0, 0, 0, 0, 0, 0, 0, 0, 0, 0, 0, 0, 0, 0, 0, 0, 0, 0, 0, 0, 0, 0, 0, 0, 0, 0, 0, 0, 0, 0, 0, 0, 0, 0, 0, 0, 0, 0, 0, 0, 0, 0, 0, 0, 0, 0, 0, 0, 0, 0, 0, 0, 0, 0, 0, 0, 0, 0, 0, 0, 0, 0, 0, 0, 0, 0, 0, 0, 0, 0, 0, 0, 0, 0, 0, 0])))))))) [(0 : Int), 0, 0, 0, 0, 0, 0, 0, 0, 0, 0, 0, 0, 0, 0, 0, 0, 0, 0, 0, 0, 0, 0, 0, 0, 0, 0, 0, 0, 0, 0, 0, 0, 0, 0, 0, 0, 0, 0, 0, 0, 0, 0, 0, 0, 0, 0, 0, 0, 0, 0, 0, 0, 0, 0, 0, 0, 0, 0, 0, 0, 0, 0, 0, 0, 0, 0, 0, 0, 0, 0, 0, 0, 0, 0, 0, 0, 0, 0, 0, 0, 0, 0, 0, 0, 0, 0, 0, 0, 0, 0, 0, 0, 0, 0, 0, 0])))), (0 : Int))
                                          else none
                                        else none
                                      else none
                                    else none
                                  else none
                                else none
                              else none
                            else none
                          else none
                        else none
                      else none
                    else none
                  else none
                else none
              else none
            else none
          else none
      else none

/-- euphroe/euphroelaw17.AttrMakes -/
def p125 (c138 : Option Bool) (c147 : Int × Int × (List Int) → Option (Int × (List Int))) (c148 : List Int → Option (Int × (List Int))) (c149 : List Int → Option (Int × (List Int))) (c150 : Int → Int → List Int → Option (Int × (List Int))) (c140 : Int × (List Int) → Option (Int × (List Int))) (c144 : Int × (List Int) → Int × (List Int) → Option Bool) (c151 : Int → List Int → List Int → List Int → Option (Int × (List Int))) (c152 : Int → List Int → Option (Int × (List Int))) (c153 : Int × (List Int) → Option ((Int × Int × (List Int)) × Int)) (c154 : Int × (List Int) → Option ((List Int) × Int)) (c155 : Int × (List Int) → Option ((List Int) × Int)) (c157 : Int → Option (Int × (List Int))) (c156 : Int × (List Int) → Option (Int × Int)) (c23 : List Int → List Int → Option Bool) (N : Nat) (a0 : Int × Int × (List Int)) (a1 : List Int) (a2 : List Int) : Option Bool :=
  bif (decide ((((List.length a0.2.2) : Nat) : Int) > (300 : Int))) then
    match c138 with
    | none => none
    | some r1 =>
      some r1
  else
    match c147 (a0.1, (a0.2.1, a0.2.2)) with
    | none => none
    | some r2 =>
      bif (decide (97 ≤ (List.length a1))) then
        match c148 (List.take 97 (List.drop 0 a1)) with
        | none => none
        | some r3 =>
          bif (decide (33 ≤ (List.length a2))) then
            match c149 (List.take 33 (List.drop 0 a2)) with
            | none => none
            | some r4 =>
              match c150 a0.1 a0.2.1 a0.2.2 with
              | none => none
              | some r5 =>
                match c140 (r5.1, r5.2) with
                | none => none
                | some r6 =>
                  match c144 (r2.1, r2.2) (r6.1, r6.2) with
                  | none => none
                  | some r7 =>
                    bif (!r7) then
                      some false
                    else
                      match (a1)[0]? with
                      | none => none
                      | some x8 =>
                        bif (decide (33 ≤ (List.length a1))) then
                          bif (decide (65 ≤ (List.length a1))) then
                            bif (decide (97 ≤ (List.length a1))) then
                              match c151 x8 (List.take 32 (List.drop 1 a1)) (List.take 32 (List.drop 33 a1)) (List.take 32 (List.drop 65 a1)) with
                              | none => none
                              | some r9 =>
                                match c140 (r9.1, r9.2) with
                                | none => none
                                | some r10 =>
                                  match c144 (r3.1, r3.2) (r10.1, r10.2) with
                                  | none => none
                                  | some r11 =>
                                    bif (!r11) then
                                      some false
                                    else
                                      match (a2)[0]? with
                                      | none => none
                                      | some x12 =>
                                        bif (decide (33 ≤ (List.length a2))) then
                                          match c152 x12 (List.take 32 (List.drop 1 a2)) with
                                          | none => none
                                          | some r13 =>
                                            match c140 (r13.1, r13.2) with
                                            | none => none
                                            | some r14 =>
                                              match c144 (r4.1, r4.2) (r14.1, r14.2) with
                                              | none => none
                                              | some r15 =>
                                                bif (!r15) then
                                                  some false
                                                else
                                                  match c153 (r2.1, r2.2) with
                                                  | none => none
                                                  | some r16 =>
                                                    match c154 (r3.1, r3.2) with
                                                    | none => none
                                                    | some r17 =>
                                                      bif ((List.length r17.1) == 97) then
                                                        bif (decide ((0 + (List.length r17.1)) ≤ 97)) then
                                                          match c155 (r4.1, r4.2) with
                                                          | none => none
                                                          | some r18 =>
                                                            bif ((List.length r18.1) == 33) then
                                                              bif (decide ((0 + (List.length r18.1)) ≤ 33)) then
                                                                bif (!((r16.2 == (0 : Int)) == (decide (a0.1 ≤ (4 : Int))))) then
                                                                  some false
                                                                else
                                                                  match (a1)[0]? with
                                                                  | none => none
                                                                  | some x19 =>
                                                                    bif (x19 == (1 : Int)) then
                                                                      bif (!((r17.2 == (0 : Int)) == true)) then
                                                                        some false
                                                                      else
                                                                        match (a2)[0]? with
                                                                        | none => none
                                                                        | some x20 =>
                                                                          bif (decide (x20 ≥ (1 : Int))) then
                                                                            match (a2)[0]? with
                                                                            | none => none
                                                                            | some x21 =>
                                                                              bif (!((r18.2 == (0 : Int)) == (decide (x21 ≤ (3 : Int))))) then
                                                                                some false
                                                                              else
                                                                                match c157 (IntKind.wrap .u16 a0.2.1) with
                                                                                | none => none
                                                                                | some r22 =>
                                                                                  match c156 (r22.1, r22.2) with
                                                                                  | none => none
                                                                                  | some r23 =>
                                                                                    bif (r16.2 != (0 : Int)) then
                                                                                      bif (r17.2 != (0 : Int)) then
                                                                                        bif (r18.2 != (0 : Int)) then
                                                                                          bif (r23.1 == (IntKind.wrap .u16 a0.2.1)) then
                                                                                            bif (r23.2 == (0 : Int)) then
                                                                                              match c138 with
                                                                                              | none => none
                                                                                              | some r24 =>
                                                                                                some r24
                                                                                            else
                                                                                              some false
                                                                                          else
                                                                                            some false
                                                                                        else
                                                                                          bif (decide (33 ≤ (List.length (([] ++ r18.1) ++ (List.drop (0 + (List.length r18.1)) [(0 : Int), 0, 0, 0, 0, 0, 0, 0, 0, 0, 0, 0, 0, 0, 0, 0, 0, 0, 0, 0, 0, 0, 0, 0, 0, 0, 0, 0, 0, 0, 0, 0, 0]))))) then
                                                                                            bif (decide (33 ≤ (List.length a2))) then
                                                                                              bif (((List.length (List.take 33 (List.drop 0 (([] ++ r18.1) ++ (List.drop (0 + (List.length r18.1)) [(0 : Int), 0, 0, 0, 0, 0, 0, 0, 0, 0, 0, 0, 0, 0, 0, 0, 0, 0, 0, 0, 0, 0, 0, 0, 0, 0, 0, 0, 0, 0, 0, 0, 0]))))) == 33) && ((List.length (List.take 33 (List.drop 0 a2))) == 33)) then
                                                                                                bif ((List.take 33 (List.drop 0 (([] ++ r18.1) ++ (List.drop (0 + (List.length r18.1)) [(0 : Int), 0, 0, 0, 0, 0, 0, 0, 0, 0, 0, 0, 0, 0, 0, 0, 0, 0, 0, 0, 0, 0, 0, 0, 0, 0, 0, 0, 0, 0, 0, 0, 0])))) == (List.take 33 (List.drop 0 a2))) then
                                                                                                  bif (r23.1 == (IntKind.wrap .u16 a0.2.1)) then
                                                                                                    bif (r23.2 == (0 : Int)) then
                                                                                                      match c138 with
                                                                                                      | none => none
                                                                                                      | some r25 =>
                                                                                                        some r25
                                                                                                    else
                                                                                                      some false
                                                                                                  else
                                                                                                    some false
                                                                                                else
                                                                                                  some false
                                                                                              else none
                                                                                            else none
                                                                                          else none
                                                                                      else
                                                                                        bif (decide (97 ≤ (List.length (([] ++ r17.1) ++ (List.drop (0 + (List.length r17.1)) [(0 : Int), 0, 0, 0, 0, 0, 0, 0, 0, 0, 0, 0, 0, 0, 0, 0, 0, 0, 0, 0, 0, 0, 0, 0, 0, 0, 0, 0, 0, 0, 0, 0, 0, 0, 0, 0, 0, 0, 0, 0, 0, 0, 0, 0, 0, 0, 0, 0, 0, 0, 0, 0, 0, 0, 0, 0, 0, 0, 0, 0, 0, 0, 0, 0, 0, 0, 0, 0, 0, 0, 0, 0, 0, 0, 0, 0, 0, 0, 0, 0, 0, 0, 0, 0, 0, 0, 0, 0, 0, 0, 0, 0, 0, 0, 0, 0, 0]))))) then
                                                                                          bif (decide (97 ≤ (List.length a1))) then
                                                                                            bif (((List.length (List.take 97 (List.drop 0 (([] ++ r17.1) ++ (List.drop (0 + (List.length r17.1)) [(0 : Int), 0, 0, 0, 0, 0, 0, 0, 0, 0, 0, 0, 0, 0, 0, 0, 0, 0, 0, 0, 0, 0, 0, 0, 0, 0, 0, 0, 0, 0, 0, 0, 0, 0, 0, 0, 0, 0, 0, 0, 0, 0, 0, 0, 0, 0, 0, 0, 0, 0, 0, 0, 0, 0, 0, 0, 0, 0, 0, 0, 0, 0, 0, 0, 0, 0, 0, 0, 0, 0, 0, 0, 0, 0, 0, 0, 0, 0, 0, 0, 0, 0, 0, 0, 0, 0, 0, 0, 0, 0, 0, 0, 0, 0, 0, 0, 0]))))) == 97) && ((List.length (List.take 97 (List.drop 0 a1))) == 97)) then
                                                                                              bif ((List.take 97 (List.drop 0 (([] ++ r17.1) ++ (List.drop (0 + (List.length r17.1)) [(0 : Int), 0, 0, 0, 0, 0, 0, 0, 0, 0, 0, 0, 0, 0, 0, 0, 0, 0, 0, 0, 0, 0, 0, 0, 0, 0, 0, 0, 0, 0, 0, 0, 0, 0, 0, 0, 0, 0, 0, 0, 0, 0, 0, 0, 0, 0, 0, 0, 0, 0, 0, 0, 0, 0, 0, 0, 0, 0, 0, 0, 0, 0, 0, 0, 0, 0, 0, 0, 0, 0, 0, 0, 0, 0, 0, 0, 0, 0, 0, 0, 0, 0, 0, 0, 0, 0, 0, 0, 0, 0, 0, 0, 0, 0, 0, 0, 0])))) == (List.take 97 (List.drop 0 a1))) then
                                                                                                bif (r18.2 != (0 : Int)) then
                                                                                                  bif (r23.1 == (IntKind.wrap .u16 a0.2.1)) then
                                                                                                    bif (r23.2 == (0 : Int)) then
                                                                                                      match c138 with
                                                                                                      | none => none
                                                                                                      | some r26 =>
                                                                                                        some r26
                                                                                                    else
                                                                                                      some false
                                                                                                  else
                                                                                                    some false
                                                                                                else
                                                                                                  bif (decide (33 ≤ (List.length (([] ++ r18.1) ++ (List.drop (0 + (List.length r18.1)) [(0 : Int), 0, 0, 0, 0, 0, 0, 0, 0, 0, 0, 0, 0, 0, 0, 0, 0, 0, 0, 0, 0, 0, 0, 0, 0, 0, 0, 0, 0, 0, 0, 0, 0]))))) then
                                                                                                    bif (decide (33 ≤ (List.length a2))) then
                                                                                                      bif (((List.length (List.take 33 (List.drop 0 (([] ++ r18.1) ++ (List.drop (0 + (List.length r18.1)) [(0 : Int), 0, 0, 0, 0, 0, 0, 0, 0, 0, 0, 0, 0, 0, 0, 0, 0, 0, 0, 0, 0, 0, 0, 0, 0, 0, 0, 0, 0, 0, 0, 0, 0]))))) == 33) && ((List.length (List.take 33 (List.drop 0 a2))) == 33)) then
                                                                                                        bif ((List.take 33 (List.drop 0 (([] ++ r18.1) ++ (List.drop (0 + (List.length r18.1)) [(0 : Int), 0, 0, 0, 0, 0, 0, 0, 0, 0, 0, 0, 0, 0, 0, 0, 0, 0, 0, 0, 0, 0, 0, 0, 0, 0, 0, 0, 0, 0, 0, 0, 0])))) == (List.take 33 (List.drop 0 a2))) then
                                                                                                          bif (r23.1 == (IntKind.wrap .u16 a0.2.1)) then
                                                                                                            bif (r23.2 == (0 : Int)) then
                                                                                                              match c138 with
                                                                                                              | none => none
                                                                                                              | some r27 =>
                                                                                                                some r27
                                                                                                            else
                                                                                                              some false
                                                                                                          else
                                                                                                            some false
                                                                                                        else
                                                                                                          some false
                                                                                                      else none
                                                                                                    else none
                                                                                                  else none
                                                                                              else
                                                                                                some false
                                                                                            else none
                                                                                          else none
                                                                                        else none
                                                                                    else
                                                                                      bif (r16.1.1 == a0.1) then
                                                                                        bif (r16.1.2.1 == a0.2.1) then
                                                                                          bif ((decide ((0 : Int) ≤ (if (64 : Int) < (((List.length a0.2.2) : Nat) : Int) then (64 : Int) else (((List.length a0.2.2) : Nat) : Int)))) && (decide ((if (64 : Int) < (((List.length a0.2.2) : Nat) : Int) then (64 : Int) else (((List.length a0.2.2) : Nat) : Int)) ≤ (((List.length a0.2.2) : Nat) : Int)))) then
                                                                                            match c23 r16.1.2.2 (List.take (Int.toNat (if (64 : Int) < (((List.length a0.2.2) : Nat) : Int) then (64 : Int) else (((List.length a0.2.2) : Nat) : Int))) a0.2.2) with
                                                                                            | none => none
                                                                                            | some r28 =>
                                                                                              bif r28 then
                                                                                                bif (r17.2 != (0 : Int)) then
                                                                                                  bif (r18.2 != (0 : Int)) then
                                                                                                    bif (r23.1 == (IntKind.wrap .u16 a0.2.1)) then
                                                                                                      bif (r23.2 == (0 : Int)) then
                                                                                                        match c138 with
                                                                                                        | none => none
                                                                                                        | some r29 =>
                                                                                                          some r29
                                                                                                      else
                                                                                                        some false
                                                                                                    else
                                                                                                      some false
                                                                                                  else
                                                                                                    bif (decide (33 ≤ (List.length (([] ++ r18.1) ++ (List.drop (0 + (List.length r18.1)) [(0 : Int), 0, 0, 0, 0, 0, 0, 0, 0, 0, 0, 0, 0, 0, 0, 0, 0, 0, 0, 0, 0, 0, 0, 0, 0, 0, 0, 0, 0, 0, 0, 0, 0]))))) then
                                                                                                      bif (decide (33 ≤ (List.length a2))) then
                                                                                                        bif (((List.length (List.take 33 (List.drop 0 (([] ++ r18.1) ++ (List.drop (0 + (List.length r18.1)) [(0 : Int), 0, 0, 0, 0, 0, 0, 0, 0, 0, 0, 0, 0, 0, 0, 0, 0, 0, 0, 0, 0, 0, 0, 0, 0, 0, 0, 0, 0, 0, 0, 0, 0]))))) == 33) && ((List.length (List.take 33 (List.drop 0 a2))) == 33)) then
                                                                                                          bif ((List.take 33 (List.drop 0 (([] ++ r18.1) ++ (List.drop (0 + (List.length r18.1)) [(0 : Int), 0, 0, 0, 0, 0, 0, 0, 0, 0, 0, 0, 0, 0, 0, 0, 0, 0, 0, 0, 0, 0, 0, 0, 0, 0, 0, 0, 0, 0, 0, 0, 0])))) == (List.take 33 (List.drop 0 a2))) then
                                                                                                            bif (r23.1 == (IntKind.wrap .u16 a0.2.1)) then
                                                                                                              bif (r23.2 == (0 : Int)) then
                                                                                                                match c138 with
                                                                                                                | none => none
                                                                                                                | some r30 =>
                                                                                                                  some r30
                                                                                                              else
                                                                                                                some false
                                                                                                            else
                                                                                                              some false
                                                                                                          else
                                                                                                            some false
                                                                                                        else none
                                                                                                      else none
                                                                                                    else none
                                                                                                else
                                                                                                  bif (decide (97 ≤ (List.length (([] ++ r17.1) ++ (List.drop (0 + (List.length r17.1)) [(0 : Int), 0, 0, 0, 0, 0, 0, 0, 0, 0, 0, 0, 0, 0, 0, 0, 0, 0, 0, 0, 0, 0, 0, 0, 0, 0, 0, 0, 0, 0, 0, 0, 0, 0, 0, 0, 0, 0, 0, 0, 0, 0, 0, 0, 0, 0, 0, 0, 0, 0, 0, 0, 0, 0, 0, 0, 0, 0, 0, 0, 0, 0, 0, 0, 0, 0, 0, 0, 0, 0, 0, 0, 0, 0, 0, 0, 0, 0, 0, 0, 0, 0, 0, 0, 0, 0, 0, 0, 0, 0, 0, 0, 0, 0, 0, 0, 0]))))) then
                                                                                                    bif (decide (97 ≤ (List.length a1))) then
                                                                                                      bif (((List.length (List.take 97 (List.drop 0 (([] ++ r17.1) ++ (List.drop (0 + (List.length r17.1)) [(0 : Int), 0, 0, 0, 0, 0, 0, 0, 0, 0, 0, 0, 0, 0, 0, 0, 0, 0, 0, 0, 0, 0, 0, 0, 0, 0, 0, 0, 0, 0, 0, 0, 0, 0, 0, 0, 0, 0, 0, 0, 0, 0, 0, 0, 0, 0, 0, 0, 0, 0, 0, 0, 0, 0, 0, 0, 0, 0, 0, 0, 0, 0, 0, 0, 0, 0, 0, 0, 0, 0, 0, 0, 0, 0, 0, 0, 0, 0, 0, 0, 0, 0, 0, 0, 0, 0, 0, 0, 0, 0, 0, 0, 0, 0, 0, 0, 0]))))) == 97) && ((List.length (List.take 97 (List.drop 0 a1))) == 97)) then
                                                                                                        bif ((List.take 97 (List.drop 0 (([] ++ r17.1) ++ (List.drop (0 + (List.length r17.1)) [(0 : Int), 0, 0, 0, 0, 0, 0, 0, 0, 0, 0, 0, 0, 0, 0, 0, 0, 0, 0, 0, 0, 0, 0, 0, 0, 0, 0, 0, 0, 0, 0, 0, 0, 0, 0, 0, 0, 0, 0, 0, 0, 0, 0, 0, 0, 0, 0, 0, 0, 0, 0, 0, 0, 0, 0, 0, 0, 0, 0, 0, 0, 0, 0, 0, 0, 0, 0, 0, 0, 0, 0, 0, 0, 0, 0, 0, 0, 0, 0, 0, 0, 0, 0, 0, 0, 0, 0, 0, 0, 0, 0, 0, 0, 0, 0, 0, 0])))) == (List.take 97 (List.drop 0 a1))) then
                                                                                                          bif (r18.2 != (0 : Int)) then
                                                                                                            bif (r23.1 == (IntKind.wrap .u16 a0.2.1)) then
                                                                                                              bif (r23.2 == (0 : Int)) then
                                                                                                                match c138 with
                                                                                                                | none => none
                                                                                                                | some r31 =>
                                                                                                                  some r31
                                                                                                              else
                                                                                                                some false
                                                                                                            else
                                                                                                              some false
                                                                                                          else
                                                                                                            bif (decide (33 ≤ (List.length (([] ++ r18.1) ++ (List.drop (0 + (List.length r18.1)) [(0 : Int), 0, 0, 0, 0, 0, 0, 0, 0, 0, 0, 0, 0, 0, 0, 0, 0, 0, 0, 0, 0, 0, 0, 0, 0, 0, 0, 0, 0, 0, 0, 0, 0]))))) then
                                                                                                              bif (decide (33 ≤ (List.length a2))) then
                                                                                                                bif (((List.length (List.take 33 (List.drop 0 (([] ++ r18.1) ++ (List.drop (0 + (List.length r18.1)) [(0 : Int), 0, 0, 0, 0, 0, 0, 0, 0, 0, 0, 0, 0, 0, 0, 0, 0, 0, 0, 0, 0, 0, 0, 0, 0, 0, 0, 0, 0, 0, 0, 0, 0]))))) == 33) && ((List.length (List.take 33 (List.drop 0 a2))) == 33)) then
                                                                                                                  bif ((List.take 33 (List.drop 0 (([] ++ r18.1) ++ (List.drop (0 + (List.length r18.1)) [(0 : Int), 0, 0, 0, 0, 0, 0, 0, 0, 0, 0, 0, 0, 0, 0, 0, 0, 0, 0, 0, 0, 0, 0, 0, 0, 0, 0, 0, 0, 0, 0, 0, 0])))) == (List.take 33 (List.drop 0 a2))) then
                                                                                                                    bif (r23.1 == (IntKind.wrap .u16 a0.2.1)) then
                                                                                                                      bif (r23.2 == (0 : Int)) then
                                                                                                                        match c138 with
                                                                                                                        | none => none
                                                                                                                        | some r32 =>
                                                                                                                          some r32
                                                                                                                      else
                                                                                                                        some false
                                                                                                                    else
                                                                                                                      some false
                                                                                                                  else
                                                                                                                    some false
                                                                                                                else none
                                                                                                              else none
                                                                                                            else none
                                                                                                        else
                                                                                                          some false
                                                                                                      else none
                                                                                                    else none
                                                                                                  else none
                                                                                              else
                                                                                                some false
                                                                                          else none
                                                                                        else
                                                                                          some false
                                                                                      else
                                                                                        some false
                                                                          else
                                                                            bif (!((r18.2 == (0 : Int)) == false)) then
                                                                              some false
                                                                            else
                                                                              match c157 (IntKind.wrap .u16 a0.2.1) with
                                                                              | none => none
                                                                              | some r33 =>
                                                                                match c156 (r33.1, r33.2) with
                                                                                | none => none
                                                                                | some r34 =>
                                                                                  bif (r16.2 != (0 : Int)) then
                                                                                    bif (r17.2 != (0 : Int)) then
                                                                                      bif (r18.2 != (0 : Int)) then
                                                                                        bif (r34.1 == (IntKind.wrap .u16 a0.2.1)) then
                                                                                          bif (r34.2 == (0 : Int)) then
                                                                                            match c138 with
                                                                                            | none => none
                                                                                            | some r35 =>
                                                                                              some r35
                                                                                          else
                                                                                            some false
                                                                                        else
                                                                                          some false
                                                                                      else
                                                                                        bif (decide (33 ≤ (List.length (([] ++ r18.1) ++ (List.drop (0 + (List.length r18.1)) [(0 : Int), 0, 0, 0, 0, 0, 0, 0, 0, 0, 0, 0, 0, 0, 0, 0, 0, 0, 0, 0, 0, 0, 0, 0, 0, 0, 0, 0, 0, 0, 0, 0, 0]))))) then
                                                                                          bif (decide (33 ≤ (List.length a2))) then
                                                                                            bif (((List.length (List.take 33 (List.drop 0 (([] ++ r18.1) ++ (List.drop (0 + (List.length r18.1)) [(0 : Int), 0, 0, 0, 0, 0, 0, 0, 0, 0, 0, 0, 0, 0, 0, 0, 0, 0, 0, 0, 0, 0, 0, 0, 0, 0, 0, 0, 0, 0, 0, 0, 0]))))) == 33) && ((List.length (List.take 33 (List.drop 0 a2))) == 33)) then
                                                                                              bif ((List.take 33 (List.drop 0 (([] ++ r18.1) ++ (List.drop (0 + (List.length r18.1)) [(0 : Int), 0, 0, 0, 0, 0, 0, 0, 0, 0, 0, 0, 0, 0, 0, 0, 0, 0, 0, 0, 0, 0, 0, 0, 0, 0, 0, 0, 0, 0, 0, 0, 0])))) == (List.take 33 (List.drop 0 a2))) then
                                                                                                bif (r34.1 == (IntKind.wrap .u16 a0.2.1)) then
                                                                                                  bif (r34.2 == (0 : Int)) then
                                                                                                    match c138 with
                                                                                                    | none => none
                                                                                                    | some r36 =>
                                                                                                      some r36
                                                                                                  else
                                                                                                    some false
                                                                                                else
                                                                                                  some false
                                                                                              else
                                                                                                some false
                                                                                            else none
                                                                                          else none
                                                                                        else none
                                                                                    else
                                                                                      bif (decide (97 ≤ (List.length (([] ++ r17.1) ++ (List.drop (0 + (List.length r17.1)) [(0 : Int), 0, 0, 0, 0, 0, 0, 0, 0, 0, 0, 0, 0, 0, 0, 0, 0, 0, 0, 0, 0, 0, 0, 0, 0, 0, 0, 0, 0, 0, 0, 0, 0, 0, 0, 0, 0, 0, 0, 0, 0, 0, 0, 0, 0, 0, 0, 0, 0, 0, 0, 0, 0, 0, 0, 0, 0, 0, 0, 0, 0, 0, 0, 0, 0, 0, 0, 0, 0, 0, 0, 0, 0, 0, 0, 0, 0, 0, 0, 0, 0, 0, 0, 0, 0, 0, 0, 0, 0, 0, 0, 0, 0, 0, 0, 0, 0]))))) then
                                                                                        bif (decide (97 ≤ (List.length a1))) then
                                                                                          bif (((List.length (List.take 97 (List.drop 0 (([] ++ r17.1) ++ (List.drop (0 + (List.length r17.1)) [(0 : Int), 0, 0, 0, 0, 0, 0, 0, 0, 0, 0, 0, 0, 0, 0, 0, 0, 0, 0, 0, 0, 0, 0, 0, 0, 0, 0, 0, 0, 0, 0, 0, 0, 0, 0, 0, 0, 0, 0, 0, 0, 0, 0, 0, 0, 0, 0, 0, 0, 0, 0, 0, 0, 0, 0, 0, 0, 0, 0, 0, 0, 0, 0, 0, 0, 0, 0, 0, 0, 0, 0, 0, 0, 0, 0, 0, 0, 0, 0, 0, 0, 0, 0, 0, 0, 0, 0, 0, 0, 0, 0, 0, 0, 0, 0, 0, 0]))))) == 97) && ((List.length (List.take 97 (List.drop 0 a1))) == 97)) then
                                                                                            bif ((List.take 97 (List.drop 0 (([] ++ r17.1) ++ (List.drop (0 + (List.length r17.1)) [(0 : Int), 0, 0, 0, 0, 0, 0, 0, 0, 0, 0, 0, 0, 0, 0, 0, 0, 0, 0, 0, 0, 0, 0, 0, 0, 0, 0, 0, 0, 0, 0, 0, 0, 0, 0, 0, 0, 0, 0, 0, 0, 0, 0, 0, 0, 0, 0, 0, 0, 0, 0, 0, 0, 0, 0, 0, 0, 0, 0, 0, 0, 0, 0, 0, 0, 0, 0, 0, 0, 0, 0, 0, 0, 0, 0, 0, 0, 0, 0, 0, 0, 0, 0, 0, 0, 0, 0, 0, 0, 0, 0, 0, 0, 0, 0, 0, 0])))) == (List.take 97 (List.drop 0 a1))) then
                                                                                              bif (r18.2 != (0 : Int)) then
                                                                                                bif (r34.1 == (IntKind.wrap .u16 a0.2.1)) then
                                                                                                  bif (r34.2 == (0 : Int)) then
                                                                                                    match c138 with
                                                                                                    | none => none
                                                                                                    | some r37 =>
                                                                                                      some r37
                                                                                                  else
                                                                                                    some false
                                                                                                else
                                                                                                  some false
                                                                                              else
                                                                                                bif (decide (33 ≤ (List.length (([] ++ r18.1) ++ (List.drop (0 + (List.length r18.1)) [(0 : Int), 0, 0, 0, 0, 0, 0, 0, 0, 0, 0, 0, 0, 0, 0, 0, 0, 0, 0, 0, 0, 0, 0, 0, 0, 0, 0, 0, 0, 0, 0, 0, 0]))))) then
                                                                                                  bif (decide (33 ≤ (List.length a2))) then
                                                                                                    bif (((List.length (List.take 33 (List.drop 0 (([] ++ r18.1) ++ (List.drop (0 + (List.length r18.1)) [(0 : Int), 0, 0, 0, 0, 0, 0, 0, 0, 0, 0, 0, 0, 0, 0, 0, 0, 0, 0, 0, 0, 0, 0, 0, 0, 0, 0, 0, 0, 0, 0, 0, 0]))))) == 33) && ((List.length (List.take 33 (List.drop 0 a2))) == 33)) then
                                                                                                      bif ((List.take 33 (List.drop 0 (([] ++ r18.1) ++ (List.drop (0 + (List.length r18.1)) [(0 : Int), 0, 0, 0, 0, 0, 0, 0, 0, 0, 0, 0, 0, 0, 0, 0, 0, 0, 0, 0, 0, 0, 0, 0, 0, 0, 0, 0, 0, 0, 0, 0, 0])))) == (List.take 33 (List.drop 0 a2))) then
                                                                                                        bif (r34.1 == (IntKind.wrap .u16 a0.2.1)) then
                                                                                                          bif (r34.2 == (0 : Int)) then
                                                                                                            match c138 with
                                                                                                            | none => none
                                                                                                            | some r38 =>
                                                                                                              some r38
                                                                                                          else
                                                                                                            some false
                                                                                                        else
                                                                                                          some false
                                                                                                      else
                                                                                                        some false
                                                                                                    else none
                                                                                                  else none
                                                                                                else none
                                                                                            else
                                                                                              some false
                                                                                          else none
                                                                                        else none
                                                                                      else none
                                                                                  else
                                                                                    bif (r16.1.1 == a0.1) then
                                                                                      bif (r16.1.2.1 == a0.2.1) then
                                                                                        bif ((decide ((0 : Int) ≤ (if (64 : Int) < (((List.length a0.2.2) : Nat) : Int) then (64 : Int) else (((List.length a0.2.2) : Nat) : Int)))) && (decide ((if (64 : Int) < (((List.length a0.2.2) : Nat) : Int) then (64 : Int) else (((List.length a0.2.2) : Nat) : Int)) ≤ (((List.length a0.2.2) : Nat) : Int)))) then
                                                                                          match c23 r16.1.2.2 (List.take (Int.toNat (if (64 : Int) < (((List.length a0.2.2) : Nat) : Int) then (64 : Int) else (((List.length a0.2.2) : Nat) : Int))) a0.2.2) with
                                                                                          | none => none
                                                                                          | some r39 =>
                                                                                            bif r39 then
                                                                                              bif (r17.2 != (0 : Int)) then
                                                                                                bif (r18.2 != (0 : Int)) then
                                                                                                  bif (r34.1 == (IntKind.wrap .u16 a0.2.1)) then
                                                                                                    bif (r34.2 == (0 : Int)) then
                                                                                                      match c138 with
                                                                                                      | none => none
                                                                                                      | some r40 =>
                                                                                                        some r40
                                                                                                    else
                                                                                                      some false
                                                                                                  else
                                                                                                    some false
                                                                                                else
                                                                                                  bif (decide (33 ≤ (List.length (([] ++ r18.1) ++ (List.drop (0 + (List.length r18.1)) [(0 : Int), 0, 0, 0, 0, 0, 0, 0, 0, 0, 0, 0, 0, 0, 0, 0, 0, 0, 0, 0, 0, 0, 0, 0, 0, 0, 0, 0, 0, 0, 0, 0, 0]))))) then
                                                                                                    bif (decide (33 ≤ (List.length a2))) then
                                                                                                      bif (((List.length (List.take 33 (List.drop 0 (([] ++ r18.1) ++ (List.drop (0 + (List.length r18.1)) [(0 : Int), 0, 0, 0, 0, 0, 0, 0, 0, 0, 0, 0, 0, 0, 0, 0, 0, 0, 0, 0, 0, 0, 0, 0, 0, 0, 0, 0, 0, 0, 0, 0, 0]))))) == 33) && ((List.length (List.take 33 (List.drop 0 a2))) == 33)) then
                                                                                                        bif ((List.take 33 (List.drop 0 (([] ++ r18.1) ++ (List.drop (0 + (List.length r18.1)) [(0 : Int), 0, 0, 0, 0, 0, 0, 0, 0, 0, 0, 0, 0, 0, 0, 0, 0, 0, 0, 0, 0, 0, 0, 0, 0, 0, 0, 0, 0, 0, 0, 0, 0])))) == (List.take 33 (List.drop 0 a2))) then
                                                                                                          bif (r34.1 == (IntKind.wrap .u16 a0.2.1)) then
                                                                                                            bif (r34.2 == (0 : Int)) then
                                                                                                              match c138 with
                                                                                                              | none => none
                                                                                                              | some r41 =>
                                                                                                                some r41
                                                                                                            else
                                                                                                              some false
                                                                                                          else
                                                                                                            some false
                                                                                                        else
                                                                                                          some false
                                                                                                      else none
                                                                                                    else none
                                                                                                  else none
                                                                                              else
                                                                                                bif (decide (97 ≤ (List.length (([] ++ r17.1) ++ (List.drop (0 + (List.length r17.1)) [(0 : Int), 0, 0, 0, 0, 0, 0, 0, 0, 0, 0, 0, 0, 0, 0, 0, 0, 0, 0, 0, 0, 0, 0, 0, 0, 0, 0, 0, 0, 0, 0, 0, 0, 0, 0, 0, 0, 0, 0, 0, 0, 0, 0, 0, 0, 0, 0, 0, 0, 0, 0, 0, 0, 0, 0, 0, 0, 0, 0, 0, 0, 0, 0, 0, 0, 0, 0, 0, 0, 0, 0, 0, 0, 0, 0, 0, 0, 0, 0, 0, 0, 0, 0, 0, 0, 0, 0, 0, 0, 0, 0, 0, 0, 0, 0, 0, 0]))))) then
                                                                                                  bif (decide (97 ≤ (List.length a1))) then
                                                                                                    bif (((List.length (List.take 97 (List.drop 0 (([] ++ r17.1) ++ (List.drop (0 + (List.length r17.1)) [(0 : Int), 0, 0, 0, 0, 0, 0, 0, 0, 0, 0, 0, 0, 0, 0, 0, 0, 0, 0, 0, 0, 0, 0, 0, 0, 0, 0, 0, 0, 0, 0, 0, 0, 0, 0, 0, 0, 0, 0, 0, 0, 0, 0, 0, 0, 0, 0, 0, 0, 0, 0, 0, 0, 0, 0, 0, 0, 0, 0, 0, 0, 0, 0, 0, 0, 0, 0, 0, 0, 0, 0, 0, 0, 0, 0, 0, 0, 0, 0, 0, 0, 0, 0, 0, 0, 0, 0, 0, 0, 0, 0, 0, 0, 0, 0, 0, 0]))))) == 97) && ((List.length (List.take 97 (List.drop 0 a1))) == 97)) then
                                                                                                      bif ((List.take 97 (List.drop 0 (([] ++ r17.1) ++ (List.drop (0 + (List.length r17.1)) [(0 : Int), 0, 0, 0, 0, 0, 0, 0, 0, 0, 0, 0, 0, 0, 0, 0, 0, 0, 0, 0, 0, 0, 0, 0, 0, 0, 0, 0, 0, 0, 0, 0, 0, 0, 0, 0, 0, 0, 0, 0, 0, 0, 0, 0, 0, 0, 0, 0, 0, 0, 0, 0, 0, 0, 0, 0, 0, 0, 0, 0, 0, 0, 0, 0, 0, 0, 0, 0, 0, 0, 0, 0, 0, 0, 0, 0, 0, 0, 0, 0, 0, 0, 0, 0, 0, 0, 0, 0, 0, 0, 0, 0, 0, 0, 0, 0, 0])))) == (List.take 97 (List.drop 0 a1))) then
                                                                                                        bif (r18.2 != (0 : Int)) then
                                                                                                          bif (r34.1 == (IntKind.wrap .u16 a0.2.1)) then
                                                                                                            bif (r34.2 == (0 : Int)) then
                                                                                                              match c138 with
                                                                                                              | none => none
                                                                                                              | some r42 =>
                                                                                                                some r42
                                                                                                            else
                                                                                                              some false
                                                                                                          else
                                                                                                            some false
                                                                                                        else
                                                                                                          bif (decide (33 ≤ (List.length (([] ++ r18.1) ++ (List.drop (0 + (List.length r18.1)) [(0 : Int), 0, 0, 0, 0, 0, 0, 0, 0, 0, 0, 0, 0, 0, 0, 0, 0, 0, 0, 0, 0, 0, 0, 0, 0, 0, 0, 0, 0, 0, 0, 0, 0]))))) then
                                                                                                            bif (decide (33 ≤ (List.length a2))) then
                                                                                                              bif (((List.length (List.take 33 (List.drop 0 (([] ++ r18.1) ++ (List.drop (0 + (List.length r18.1)) [(0 : Int), 0, 0, 0, 0, 0, 0, 0, 0, 0, 0, 0, 0, 0, 0, 0, 0, 0, 0, 0, 0, 0, 0, 0, 0, 0, 0, 0, 0, 0, 0, 0, 0]))))) == 33) && ((List.length (List.take 33 (List.drop 0 a2))) == 33)) then
                                                                                                                bif ((List.take 33 (List.drop 0 (([] ++ r18.1) ++ (List.drop (0 + (List.length r18.1)) [(0 : Int), 0, 0, 0, 0, 0, 0, 0, 0, 0, 0, 0, 0, 0, 0, 0, 0, 0, 0, 0, 0, 0, 0, 0, 0, 0, 0, 0, 0, 0, 0, 0, 0])))) == (List.take 33 (List.drop 0 a2))) then
                                                                                                                  bif (r34.1 == (IntKind.wrap .u16 a0.2.1)) then
                                                                                                                    bif (r34.2 == (0 : Int)) then
                                                                                                                      match c138 with
                                                                                                                      | none => none
                                                                                                                      | some r43 =>
                                                                                                                        some r43
                                                                                                                    else
                                                                                                                      some false
                                                                                                                  else
                                                                                                                    some false
                                                                                                                else
                                                                                                                  some false
                                                                                                              else none
                                                                                                            else none
                                                                                                          else none
                                                                                                      else
                                                                                                        some false
                                                                                                    else none
                                                                                                  else none
                                                                                                else none
                                                                                            else
                                                                                              some false
                                                                                        else none
                                                                                      else
                                                                                        some false
                                                                                    else
                                                                                      some false
                                                                    else
                                                                      match (a1)[0]? with
                                                                      | none => none
                                                                      | some x44 =>
                                                                        bif (!((r17.2 == (0 : Int)) == (x44 == (2 : Int)))) then
                                                                          some false
                                                                        else
                                                                          match (a2)[0]? with
                                                                          | none => none
                                                                          | some x45 =>
                                                                            bif (decide (x45 ≥ (1 : Int))) then
                                                                              match (a2)[0]? with
                                                                              | none => none
                                                                              | some x46 =>
                                                                                bif (!((r18.2 == (0 : Int)) == (decide (x46 ≤ (3 : Int))))) then
                                                                                  some false
                                                                                else
                                                                                  match c157 (IntKind.wrap .u16 a0.2.1) with
                                                                                  | none => none
                                                                                  | some r47 =>
                                                                                    match c156 (r47.1, r47.2) with
                                                                                    | none => none
                                                                                    | some r48 =>
                                                                                      bif (r16.2 != (0 : Int)) then
                                                                                        bif (r17.2 != (0 : Int)) then
                                                                                          bif (r18.2 != (0 : Int)) then
                                                                                            bif (r48.1 == (IntKind.wrap .u16 a0.2.1)) then
                                                                                              bif (r48.2 == (0 : Int)) then
                                                                                                match c138 with
                                                                                                | none => none
                                                                                                | some r49 =>
                                                                                                  some r49
                                                                                              else
                                                                                                some false
                                                                                            else
                                                                                              some false
                                                                                          else
                                                                                            bif (decide (33 ≤ (List.length (([] ++ r18.1) ++ (List.drop (0 + (List.length r18.1)) [(0 : Int), 0, 0, 0, 0, 0, 0, 0, 0, 0, 0, 0, 0, 0, 0, 0, 0, 0, 0, 0, 0, 0, 0, 0, 0, 0, 0, 0, 0, 0, 0, 0, 0]))))) then
                                                                                              bif (decide (33 ≤ (List.length a2))) then
                                                                                                bif (((List.length (List.take 33 (List.drop 0 (([] ++ r18.1) ++ (List.drop (0 + (List.length r18.1)) [(0 : Int), 0, 0, 0, 0, 0, 0, 0, 0, 0, 0, 0, 0, 0, 0, 0, 0, 0, 0, 0, 0, 0, 0, 0, 0, 0, 0, 0, 0, 0, 0, 0, 0]))))) == 33) && ((List.length (List.take 33 (List.drop 0 a2))) == 33)) then
                                                                                                  bif ((List.take 33 (List.drop 0 (([] ++ r18.1) ++ (List.drop (0 + (List.length r18.1)) [(0 : Int), 0, 0, 0, 0, 0, 0, 0, 0, 0, 0, 0, 0, 0, 0, 0, 0, 0, 0, 0, 0, 0, 0, 0, 0, 0, 0, 0, 0, 0, 0, 0, 0])))) == (List.take 33 (List.drop 0 a2))) then
                                                                                                    bif (r48.1 == (IntKind.wrap .u16 a0.2.1)) then
                                                                                                      bif (r48.2 == (0 : Int)) then
                                                                                                        match c138 with
                                                                                                        | none => none
                                                                                                        | some r50 =>
                                                                                                          some r50
                                                                                                      else
                                                                                                        some false
                                                                                                    else
                                                                                                      some false
                                                                                                  else
                                                                                                    some false
                                                                                                else none
                                                                                              else none
                                                                                            else none
                                                                                        else
                                                                                          bif (decide (97 ≤ (List.length (([] ++ r17.1) ++ (List.drop (0 + (List.length r17.1)) [(0 : Int), 0, 0, 0, 0, 0, 0, 0, 0, 0, 0, 0, 0, 0, 0, 0, 0, 0, 0, 0, 0, 0, 0, 0, 0, 0, 0, 0, 0, 0, 0, 0, 0, 0, 0, 0, 0, 0, 0, 0, 0, 0, 0, 0, 0, 0, 0, 0, 0, 0, 0, 0, 0, 0, 0, 0, 0, 0, 0, 0, 0, 0, 0, 0, 0, 0, 0, 0, 0, 0, 0, 0, 0, 0, 0, 0, 0, 0, 0, 0, 0, 0, 0, 0, 0, 0, 0, 0, 0, 0, 0, 0, 0, 0, 0, 0, 0]))))) then
                                                                                            bif (decide (97 ≤ (List.length a1))) then
                                                                                              bif (((List.length (List.take 97 (List.drop 0 (([] ++ r17.1) ++ (List.drop (0 + (List.length r17.1)) [(0 : Int), 0, 0, 0, 0, 0, 0, 0, 0, 0, 0, 0, 0, 0, 0, 0, 0, 0, 0, 0, 0, 0, 0, 0, 0, 0, 0, 0, 0, 0, 0, 0, 0, 0, 0, 0, 0, 0, 0, 0, 0, 0, 0, 0, 0, 0, 0, 0, 0, 0, 0, 0, 0, 0, 0, 0, 0, 0, 0, 0, 0, 0, 0, 0, 0, 0, 0, 0, 0, 0, 0, 0, 0, 0, 0, 0, 0, 0, 0, 0, 0, 0, 0, 0, 0, 0, 0, 0, 0, 0, 0, 0, 0, 0, 0, 0, 0]))))) == 97) && ((List.length (List.take 97 (List.drop 0 a1))) == 97)) then
                                                                                                bif ((List.take 97 (List.drop 0 (([] ++ r17.1) ++ (List.drop (0 + (List.length r17.1)) [(0 : Int), 0, 0, 0, 0, 0, 0, 0, 0, 0, 0, 0, 0, 0, 0, 0, 0, 0, 0, 0, 0, 0, 0, 0, 0, 0, 0, 0, 0, 0, 0, 0, 0, 0, 0, 0, 0, 0, 0, 0, 0, 0, 0, 0, 0, 0, 0, 0, 0, 0, 0, 0, 0, 0, 0, 0, 0, 0, 0, 0, 0, 0, 0, 0, 0, 0, 0, 0, 0, 0, 0, 0, 0, 0, 0, 0, 0, 0, 0, 0, 0, 0, 0, 0, 0, 0, 0, 0, 0, 0, 0, 0, 0, 0, 0, 0, 0])))) == (List.take 97 (List.drop 0 a1))) then
                                                                                                  bif (r18.2 != (0 : Int)) then
                                                                                                    bif (r48.1 == (IntKind.wrap .u16 a0.2.1)) then
                                                                                                      bif (r48.2 == (0 : Int)) then
                                                                                                        match c138 with
                                                                                                        | none => none
                                                                                                        | some r51 =>
                                                                                                          some r51
                                                                                                      else
                                                                                                        some false
                                                                                                    else
                                                                                                      some false
                                                                                                  else
                                                                                                    bif (decide (33 ≤ (List.length (([] ++ r18.1) ++ (List.drop (0 + (List.length r18.1)) [(0 : Int), 0, 0, 0, 0, 0, 0, 0, 0, 0, 0, 0, 0, 0, 0, 0, 0, 0, 0, 0, 0, 0, 0, 0, 0, 0, 0, 0, 0, 0, 0, 0, 0]))))) then
                                                                                                      bif (decide (33 ≤ (List.length a2))) then
                                                                                                        bif (((List.length (List.take 33 (List.drop 0 (([] ++ r18.1) ++ (List.drop (0 + (List.length r18.1)) [(0 : Int), 0, 0, 0, 0, 0, 0, 0, 0, 0, 0, 0, 0, 0, 0, 0, 0, 0, 0, 0, 0, 0, 0, 0, 0, 0, 0, 0, 0, 0, 0, 0, 0]))))) == 33) && ((List.length (List.take 33 (List.drop 0 a2))) == 33)) then
                                                                                                          bif ((List.take 33 (List.drop 0 (([] ++ r18.1) ++ (List.drop (0 + (List.length r18.1)) [(0 : Int), 0, 0, 0, 0, 0, 0, 0, 0, 0, 0, 0, 0, 0, 0, 0, 0, 0, 0, 0, 0, 0, 0, 0, 0, 0, 0, 0, 0, 0, 0, 0, 0])))) == (List.take 33 (List.drop 0 a2))) then
                                                                                                            bif (r48.1 == (IntKind.wrap .u16 a0.2.1)) then
                                                                                                              bif (r48.2 == (0 : Int)) then
                                                                                                                match c138 with
                                                                                                                | none => none
                                                                                                                | some r52 =>
                                                                                                                  some r52
                                                                                                              else
                                                                                                                some false
                                                                                                            else
                                                                                                              some false
                                                                                                          else
                                                                                                            some false
                                                                                                        else none
                                                                                                      else none
                                                                                                    else none
                                                                                                else
                                                                                                  some false
                                                                                              else none
                                                                                            else none
                                                                                          else none
                                                                                      else
                                                                                        bif (r16.1.1 == a0.1) then
                                                                                          bif (r16.1.2.1 == a0.2.1) then
                                                                                            bif ((decide ((0 : Int) ≤ (if (64 : Int) < (((List.length a0.2.2) : Nat) : Int) then (64 : Int) else (((List.length a0.2.2) : Nat) : Int)))) && (decide ((if (64 : Int) < (((List.length a0.2.2) : Nat) : Int) then (64 : Int) else (((List.length a0.2.2) : Nat) : Int)) ≤ (((List.length a0.2.2) : Nat) : Int)))) then
                                                                                              match c23 r16.1.2.2 (List.take (Int.toNat (if (64 : Int) < (((List.length a0.2.2) : Nat) : Int) then (64 : Int) else (((List.length a0.2.2) : Nat) : Int))) a0.2.2) with
                                                                                              | none => none
                                                                                              | some r53 =>
                                                                                                bif r53 then
                                                                                                  bif (r17.2 != (0 : Int)) then
                                                                                                    bif (r18.2 != (0 : Int)) then
                                                                                                      bif (r48.1 == (IntKind.wrap .u16 a0.2.1)) then
                                                                                                        bif (r48.2 == (0 : Int)) then
                                                                                                          match c138 with
                                                                                                          | none => none
                                                                                                          | some r54 =>
                                                                                                            some r54
                                                                                                        else
                                                                                                          some false
                                                                                                      else
                                                                                                        some false
                                                                                                    else
                                                                                                      bif (decide (33 ≤ (List.length (([] ++ r18.1) ++ (List.drop (0 + (List.length r18.1)) [(0 : Int), 0, 0, 0, 0, 0, 0, 0, 0, 0, 0, 0, 0, 0, 0, 0, 0, 0, 0, 0, 0, 0, 0, 0, 0, 0, 0, 0, 0, 0, 0, 0, 0]))))) then
                                                                                                        bif (decide (33 ≤ (List.length a2))) then
                                                                                                          bif (((List.length (List.take 33 (List.drop 0 (([] ++ r18.1) ++ (List.drop (0 + (List.length r18.1)) [(0 : Int), 0, 0, 0, 0, 0, 0, 0, 0, 0, 0, 0, 0, 0, 0, 0, 0, 0, 0, 0, 0, 0, 0, 0, 0, 0, 0, 0, 0, 0, 0, 0, 0]))))) == 33) && ((List.length (List.take 33 (List.drop 0 a2))) == 33)) then
                                                                                                            bif ((List.take 33 (List.drop 0 (([] ++ r18.1) ++ (List.drop (0 + (List.length r18.1)) [(0 : Int), 0, 0, 0, 0, 0, 0, 0, 0, 0, 0, 0, 0, 0, 0, 0, 0, 0, 0, 0, 0, 0, 0, 0, 0, 0, 0, 0, 0, 0, 0, 0, 0])))) == (List.take 33 (List.drop 0 a2))) then
                                                                                                              bif (r48.1 == (IntKind.wrap .u16 a0.2.1)) then
                                                                                                                bif (r48.2 == (0 : Int)) then
                                                                                                                  match c138 with
                                                                                                                  | none => none
                                                                                                                  | some r55 =>
                                                                                                                    some r55
                                                                                                                else
                                                                                                                  some false
                                                                                                              else
                                                                                                                some false
                                                                                                            else
                                                                                                              some false
                                                                                                          else none
                                                                                                        else none
                                                                                                      else none
                                                                                                  else
                                                                                                    bif (decide (97 ≤ (List.length (([] ++ r17.1) ++ (List.drop (0 + (List.length r17.1)) [(0 : Int), 0, 0, 0, 0, 0, 0, 0, 0, 0, 0, 0, 0, 0, 0, 0, 0, 0, 0, 0, 0, 0, 0, 0, 0, 0, 0, 0, 0, 0, 0, 0, 0, 0, 0, 0, 0, 0, 0, 0, 0, 0, 0, 0, 0, 0, 0, 0, 0, 0, 0, 0, 0, 0, 0, 0, 0, 0, 0, 0, 0, 0, 0, 0, 0, 0, 0, 0, 0, 0, 0, 0, 0, 0, 0, 0, 0, 0, 0, 0, 0, 0, 0, 0, 0, 0, 0, 0, 0, 0, 0, 0, 0, 0, 0, 0, 0]))))) then
                                                                                                      bif (decide (97 ≤ (List.length a1))) then
                                                                                                        bif (((List.length (List.take 97 (List.drop 0 (([] ++ r17.1) ++ (List.drop (0 + (List.length r17.1)) [(0 : Int), 0, 0, 0, 0, 0, 0, 0, 0, 0, 0, 0, 0, 0, 0, 0, 0, 0, 0, 0, 0, 0, 0, 0, 0, 0, 0, 0, 0, 0, 0, 0, 0, 0, 0, 0, 0, 0, 0, 0, 0, 0, 0, 0, 0, 0, 0, 0, 0, 0, 0, 0, 0, 0, 0, 0, 0, 0, 0, 0, 0, 0, 0, 0, 0, 0, 0, 0, 0, 0, 0, 0, 0, 0, 0, 0, 0, 0, 0, 0, 0, 0, 0, 0, 0, 0, 0, 0, 0, 0, 0, 0, 0, 0, 0, 0, 0]))))) == 97) && ((List.length (List.take 97 (List.drop 0 a1))) == 97)) then
                                                                                                          bif ((List.take 97 (List.drop 0 (([] ++ r17.1) ++ (List.drop (0 + (List.length r17.1)) [(0 : Int), 0, 0, 0, 0, 0, 0, 0, 0, 0, 0, 0, 0, 0, 0, 0, 0, 0, 0, 0, 0, 0, 0, 0, 0, 0, 0, 0, 0, 0, 0, 0, 0, 0, 0, 0, 0, 0, 0, 0, 0, 0, 0, 0, 0, 0, 0, 0, 0, 0, 0, 0, 0, 0, 0, 0, 0, 0, 0, 0, 0, 0, 0, 0, 0, 0, 0, 0, 0, 0, 0, 0, 0, 0, 0, 0, 0, 0, 0, 0, 0, 0, 0, 0, 0, 0, 0, 0, 0, 0, 0, 0, 0, 0, 0, 0, 0])))) == (List.take 97 (List.drop 0 a1))) then
                                                                                                            bif (r18.2 != (0 : Int)) then
                                                                                                              bif (r48.1 == (IntKind.wrap .u16 a0.2.1)) then
                                                                                                                bif (r48.2 == (0 : Int)) then
                                                                                                                  match c138 with
                                                                                                                  | none => none
                                                                                                                  | some r56 =>
                                                                                                                    some r56
                                                                                                                else
                                                                                                                  some false
                                                                                                              else
                                                                                                                some false
                                                                                                            else
                                                                                                              bif (decide (33 ≤ (List.length (([] ++ r18.1) ++ (List.drop (0 + (List.length r18.1)) [(0 : Int), 0, 0, 0, 0, 0, 0, 0, 0, 0, 0, 0, 0, 0, 0, 0, 0, 0, 0, 0, 0, 0, 0, 0, 0, 0, 0, 0, 0, 0, 0, 0, 0]))))) then
                                                                                                                bif (decide (33 ≤ (List.length a2))) then
                                                                                                                  bif (((List.length (List.take 33 (List.drop 0 (([] ++ r18.1) ++ (List.drop (0 + (List.length r18.1)) [(0 : Int), 0, 0, 0, 0, 0, 0, 0, 0, 0, 0, 0, 0, 0, 0, 0, 0, 0, 0, 0, 0, 0, 0, 0, 0, 0, 0, 0, 0, 0, 0, 0, 0]))))) == 33) && ((List.length (List.take 33 (List.drop 0 a2))) == 33)) then
                                                                                                                    bif ((List.take 33 (List.drop 0 (([] ++ r18.1) ++ (List.drop (0 + (List.length r18.1)) [(0 : Int), 0, 0, 0, 0, 0, 0, 0, 0, 0, 0, 0, 0, 0, 0, 0, 0, 0, 0, 0, 0, 0, 0, 0, 0, 0, 0, 0, 0, 0, 0, 0, 0])))) == (List.take 33 (List.drop 0 a2))) then
                                                                                                                      bif (r48.1 == (IntKind.wrap .u16 a0.2.1)) then
                                                                                                                        bif (r48.2 == (0 : Int)) then
                                                                                                                          match c138 with
                                                                                                                          | none => none
                                                                                                                          | some r57 =>
                                                                                                                            some r57
                                                                                                                        else
                                                                                                                          some false
                                                                                                                      else
                                                                                                                        some false
                                                                                                                    else
                                                                                                                      some false
                                                                                                                  else none
                                                                                                                else none
                                                                                                              else none
                                                                                                          else
                                                                                                            some false
                                                                                                        else none
                                                                                                      else none
                                                                                                    else none
                                                                                                else
                                                                                                  some false
                                                                                            else none
                                                                                          else
                                                                                            some false
                                                                                        else
                                                                                          some false
                                                                            else
                                                                              bif (!((r18.2 == (0 : Int)) == false)) then
                                                                                some false
                                                                              else
                                                                                match c157 (IntKind.wrap .u16 a0.2.1) with
                                                                                | none => none
                                                                                | some r58 =>
                                                                                  match c156 (r58.1, r58.2) with
                                                                                  | none => none
                                                                                  | some r59 =>
                                                                                    bif (r16.2 != (0 : Int)) then
                                                                                      bif (r17.2 != (0 : Int)) then
                                                                                        bif (r18.2 != (0 : Int)) then
                                                                                          bif (r59.1 == (IntKind.wrap .u16 a0.2.1)) then
                                                                                            bif (r59.2 == (0 : Int)) then
                                                                                              match c138 with
                                                                                              | none => none
                                                                                              | some r60 =>
                                                                                                some r60
                                                                                            else
                                                                                              some false
                                                                                          else
                                                                                            some false
                                                                                        else
                                                                                          bif (decide (33 ≤ (List.length (([] ++ r18.1) ++ (List.drop (0 + (List.length r18.1)) [(0 : Int), 0, 0, 0, 0, 0, 0, 0, 0, 0, 0, 0, 0, 0, 0, 0, 0, 0, 0, 0, 0, 0, 0, 0, 0, 0, 0, 0, 0, 0, 0, 0, 0]))))) then
                                                                                            bif (decide (33 ≤ (List.length a2))) then
                                                                                              bif (((List.length (List.take 33 (List.drop 0 (([] ++ r18.1) ++ (List.drop (0 + (List.length r18.1)) [(0 : Int), 0, 0, 0, 0, 0, 0, 0, 0, 0, 0, 0, 0, 0, 0, 0, 0, 0, 0, 0, 0, 0, 0, 0, 0, 0, 0, 0, 0, 0, 0, 0, 0]))))) == 33) && ((List.length (List.take 33 (List.drop 0 a2))) == 33)) then
                                                                                                bif ((List.take 33 (List.drop 0 (([] ++ r18.1) ++ (List.drop (0 + (List.length r18.1)) [(0 : Int), 0, 0, 0, 0, 0, 0, 0, 0, 0, 0, 0, 0, 0, 0, 0, 0, 0, 0, 0, 0, 0, 0, 0, 0, 0, 0, 0, 0, 0, 0, 0, 0])))) == (List.take 33 (List.drop 0 a2))) then
                                                                                                  bif (r59.1 == (IntKind.wrap .u16 a0.2.1)) then
                                                                                                    bif (r59.2 == (0 : Int)) then
                                                                                                      match c138 with
                                                                                                      | none => none
                                                                                                      | some r61 =>
                                                                                                        some r61
                                                                                                    else
                                                                                                      some false
                                                                                                  else
                                                                                                    some false
                                                                                                else
                                                                                                  some false
                                                                                              else none
                                                                                            else none
                                                                                          else none
                                                                                      else
                                                                                        bif (decide (97 ≤ (List.length (([] ++ r17.1) ++ (List.drop (0 + (List.length r17.1)) [(0 : Int), 0, 0, 0, 0, 0, 0, 0, 0, 0, 0, 0, 0, 0, 0, 0, 0, 0, 0, 0, 0, 0, 0, 0, 0, 0, 0, 0, 0, 0, 0, 0, 0, 0, 0, 0, 0, 0, 0, 0, 0, 0, 0, 0, 0, 0, 0, 0, 0, 0, 0, 0, 0, 0, 0, 0, 0, 0, 0, 0, 0, 0, 0, 0, 0, 0, 0, 0, 0, 0, 0, 0, 0, 0, 0, 0, 0, 0, 0, 0, 0, 0, 0, 0, 0, 0, 0, 0, 0, 0, 0, 0, 0, 0, 0, 0, 0]))))) then
                                                                                          bif (decide (97 ≤ (List.length a1))) then
                                                                                            bif (((List.length (List.take 97 (List.drop 0 (([] ++ r17.1) ++ (List.drop (0 + (List.length r17.1)) [(0 : Int), 0, 0, 0, 0, 0, 0, 0, 0, 0, 0, 0, 0, 0, 0, 0, 0, 0, 0, 0, 0, 0, 0, 0, 0, 0, 0, 0, 0, 0, 0, 0, 0, 0, 0, 0, 0, 0, 0, 0, 0, 0, 0, 0, 0, 0, 0, 0, 0, 0, 0, 0, 0, 0, 0, 0, 0, 0, 0, 0, 0, 0, 0, 0, 0, 0, 0, 0, 0, 0, 0, 0, 0, 0, 0, 0, 0, 0, 0, 0, 0, 0, 0, 0, 0, 0, 0, 0, 0, 0, 0, 0, 0, 0, 0, 0, 0]))))) == 97) && ((List.length (List.take 97 (List.drop 0 a1))) == 97)) then
                                                                                              bif ((List.take 97 (List.drop 0 (([] ++ r17.1) ++ (List.drop (0 + (List.length r17.1)) [(0 : Int), 0, 0, 0, 0, 0, 0, 0, 0, 0, 0, 0, 0, 0, 0, 0, 0, 0, 0, 0, 0, 0, 0, 0, 0, 0, 0, 0, 0, 0, 0, 0, 0, 0, 0, 0, 0, 0, 0, 0, 0, 0, 0, 0, 0, 0, 0, 0, 0, 0, 0, 0, 0, 0, 0, 0, 0, 0, 0, 0, 0, 0, 0, 0, 0, 0, 0, 0, 0, 0, 0, 0, 0, 0, 0, 0, 0, 0, 0, 0, 0, 0, 0, 0, 0, 0, 0, 0, 0, 0, 0, 0, 0, 0, 0, 0, 0])))) == (List.take 97 (List.drop 0 a1))) then
                                                                                                bif (r18.2 != (0 : Int)) then
                                                                                                  bif (r59.1 == (IntKind.wrap .u16 a0.2.1)) then
                                                                                                    bif (r59.2 == (0 : Int)) then
                                                                                                      match c138 with
                                                                                                      | none => none
                                                                                                      | some r62 =>
                                                                                                        some r62
                                                                                                    else
                                                                                                      some false
                                                                                                  else
                                                                                                    some false
                                                                                                else
                                                                                                  bif (decide (33 ≤ (List.length (([] ++ r18.1) ++ (List.drop (0 + (List.length r18.1)) [(0 : Int), 0, 0, 0, 0, 0, 0, 0, 0, 0, 0, 0, 0, 0, 0, 0, 0, 0, 0, 0, 0, 0, 0, 0, 0, 0, 0, 0, 0, 0, 0, 0, 0]))))) then
                                                                                                    bif (decide (33 ≤ (List.length a2))) then
                                                                                                      bif (((List.length (List.take 33 (List.drop 0 (([] ++ r18.1) ++ (List.drop (0 + (List.length r18.1)) [(0 : Int), 0, 0, 0, 0, 0, 0, 0, 0, 0, 0, 0, 0, 0, 0, 0, 0, 0, 0, 0, 0, 0, 0, 0, 0, 0, 0, 0, 0, 0, 0, 0, 0]))))) == 33) && ((List.length (List.take 33 (List.drop 0 a2))) == 33)) then
                                                                                                        bif ((List.take 33 (List.drop 0 (([] ++ r18.1) ++ (List.drop (0 + (List.length r18.1)) [(0 : Int), 0, 0, 0, 0, 0, 0, 0, 0, 0, 0, 0, 0, 0, 0, 0, 0, 0, 0, 0, 0, 0, 0, 0, 0, 0, 0, 0, 0, 0, 0, 0, 0])))) == (List.take 33 (List.drop 0 a2))) then
                                                                                                          bif (r59.1 == (IntKind.wrap .u16 a0.2.1)) then
                                                                                                            bif (r59.2 == (0 : Int)) then
                                                                                                              match c138 with
                                                                                                              | none => none
                                                                                                              | some r63 =>
                                                                                                                some r63
                                                                                                            else
                                                                                                              some false
                                                                                                          else
                                                                                                            some false
                                                                                                        else
                                                                                                          some false
                                                                                                      else none
                                                                                                    else none
                                                                                                  else none
                                                                                              else
                                                                                                some false
                                                                                            else none
                                                                                          else none
                                                                                        else none
                                                                                    else
                                                                                      bif (r16.1.1 == a0.1) then
                                                                                        bif (r16.1.2.1 == a0.2.1) then
                                                                                          bif ((decide ((0 : Int) ≤ (if (64 : Int) < (((List.length a0.2.2) : Nat) : Int) then (64 : Int) else (((List.length a0.2.2) : Nat) : Int)))) && (decide ((if (64 : Int) < (((List.length a0.2.2) : Nat) : Int) then (64 : Int) else (((List.length a0.2.2) : Nat) : Int)) ≤ (((List.length a0.2.2) : Nat) : Int)))) then
                                                                                            match c23 r16.1.2.2 (List.take (Int.toNat (if (64 : Int) < (((List.length a0.2.2) : Nat) : Int) then (64 : Int) else (((List.length a0.2.2) : Nat) : Int))) a0.2.2) with
                                                                                            | none => none
                                                                                            | some r64 =>
                                                                                              bif r64 then
                                                                                                bif (r17.2 != (0 : Int)) then
                                                                                                  bif (r18.2 != (0 : Int)) then
                                                                                                    bif (r59.1 == (IntKind.wrap .u16 a0.2.1)) then
                                                                                                      bif (r59.2 == (0 : Int)) then
                                                                                                        match c138 with
                                                                                                        | none => none
                                                                                                        | some r65 =>
                                                                                                          some r65
                                                                                                      else
                                                                                                        some false
                                                                                                    else
                                                                                                      some false
                                                                                                  else
                                                                                                    bif (decide (33 ≤ (List.length (([] ++ r18.1) ++ (List.drop (0 + (List.length r18.1)) [(0 : Int), 0, 0, 0, 0, 0, 0, 0, 0, 0, 0, 0, 0, 0, 0, 0, 0, 0, 0, 0, 0, 0, 0, 0, 0, 0, 0, 0, 0, 0, 0, 0, 0]))))) then
                                                                                                      bif (decide (33 ≤ (List.length a2))) then
                                                                                                        bif (((List.length (List.take 33 (List.drop 0 (([] ++ r18.1) ++ (List.drop (0 + (List.length r18.1)) [(0 : Int), 0, 0, 0, 0, 0, 0, 0, 0, 0, 0, 0, 0, 0, 0, 0, 0, 0, 0, 0, 0, 0, 0, 0, 0, 0, 0, 0, 0, 0, 0, 0, 0]))))) == 33) && ((List.length (List.take 33 (List.drop 0 a2))) == 33)) then
                                                                                                          bif ((List.take 33 (List.drop 0 (([] ++ r18.1) ++ (List.drop (0 + (List.length r18.1)) [(0 : Int), 0, 0, 0, 0, 0, 0, 0, 0, 0, 0, 0, 0, 0, 0, 0, 0, 0, 0, 0, 0, 0, 0, 0, 0, 0, 0, 0, 0, 0, 0, 0, 0])))) == (List.take 33 (List.drop 0 a2))) then
                                                                                                            bif (r59.1 == (IntKind.wrap .u16 a0.2.1)) then
                                                                                                              bif (r59.2 == (0 : Int)) then
                                                                                                                match c138 with
                                                                                                                | none => none
                                                                                                                | some r66 =>
                                                                                                                  some r66
                                                                                                              else
                                                                                                                some false
                                                                                                            else
                                                                                                              some false
                                                                                                          else
                                                                                                            some false
                                                                                                        else none
                                                                                                      else none
                                                                                                    else none
                                                                                                else
                                                                                                  bif (decide (97 ≤ (List.length (([] ++ r17.1) ++ (List.drop (0 + (List.length r17.1)) [(0 : Int), 0, 0, 0, 0, 0, 0, 0, 0, 0, 0, 0, 0, 0, 0, 0, 0, 0, 0, 0, 0, 0, 0, 0, 0, 0, 0, 0, 0, 0, 0, 0, 0, 0, 0, 0, 0, 0, 0, 0, 0, 0, 0, 0, 0, 0, 0, 0, 0, 0, 0, 0, 0, 0, 0, 0, 0, 0, 0, 0, 0, 0, 0, 0, 0, 0, 0, 0, 0, 0, 0, 0, 0, 0, 0, 0, 0, 0, 0, 0, 0, 0, 0, 0, 0, 0, 0, 0, 0, 0, 0, 0, 0, 0, 0, 0, 0]))))) then
                                                                                                    bif (decide (97 ≤ (List.length a1))) then
                                                                                                      bif (((List.length (List.take 97 (List.drop 0 (([] ++ r17.1) ++ (List.drop (0 + (List.length r17.1)) [(0 : Int), 0, 0, 0, 0, 0, 0, 0, 0, 0, 0, 0, 0, 0, 0, 0, 0, 0, 0, 0, 0, 0, 0, 0, 0, 0, 0, 0, 0, 0, 0, 0, 0, 0, 0, 0, 0, 0, 0, 0, 0, 0, 0, 0, 0, 0, 0, 0, 0, 0, 0, 0, 0, 0, 0, 0, 0, 0, 0, 0, 0, 0, 0, 0, 0, 0, 0, 0, 0, 0, 0, 0, 0, 0, 0, 0, 0, 0, 0, 0, 0, 0, 0, 0, 0, 0, 0, 0, 0, 0, 0, 0, 0, 0, 0, 0, 0]))))) == 97) && ((List.length (List.take 97 (List.drop 0 a1))) == 97)) then
                                                                                                        bif ((List.take 97 (List.drop 0 (([] ++ r17.1) ++ (List.drop (0 + (List.length r17.1)) [(0 : Int), 0, 0, 0, 0, 0, 0, 0, 0, 0, 0, 0, 0, 0, 0, 0, 0, 0, 0, 0, 0, 0, 0, 0, 0, 0, 0, 0, 0, 0, 0, 0, 0, 0, 0, 0, 0, 0, 0, 0, 0, 0, 0, 0, 0, 0, 0, 0, 0, 0, 0, 0, 0, 0, 0, 0, 0, 0, 0, 0, 0, 0, 0, 0, 0, 0, 0, 0, 0, 0, 0, 0, 0, 0, 0, 0, 0, 0, 0, 0, 0, 0, 0, 0, 0, 0, 0, 0, 0, 0, 0, 0, 0, 0, 0, 0, 0])))) == (List.take 97 (List.drop 0 a1))) then
                                                                                                          bif (r18.2 != (0 : Int)) then
                                                                                                            bif (r59.1 == (IntKind.wrap .u16 a0.2.1)) then
                                                                                                              bif (r59.2 == (0 : Int)) then
                                                                                                                match c138 with
                                                                                                                | none => none
                                                                                                                | some r67 =>
                                                                                                                  some r67
                                                                                                              else
                                                                                                                some false
                                                                                                            else
                                                                                                              some false
                                                                                                          else
                                                                                                            bif (decide (33 ≤ (List.length (([] ++ r18.1) ++ (List.drop (0 + (List.length r18.1)) [(0 : Int), 0, 0, 0, 0, 0, 0, 0, 0, 0, 0, 0, 0, 0, 0, 0, 0, 0, 0, 0, 0, 0, 0, 0, 0, 0, 0, 0, 0, 0, 0, 0, 0]))))) then
                                                                                                              bif (decide (33 ≤ (List.length a2))) then
                                                                                                                bif (((List.length (List.take 33 (List.drop 0 (([] ++ r18.1) ++ (List.drop (0 + (List.length r18.1)) [(0 : Int), 0, 0, 0, 0, 0, 0, 0, 0, 0, 0, 0, 0, 0, 0, 0, 0, 0, 0, 0, 0, 0, 0, 0, 0, 0, 0, 0, 0, 0, 0, 0, 0]))))) == 33) && ((List.length (List.take 33 (List.drop 0 a2))) == 33)) then
                                                                                                                  bif ((List.take 33 (List.drop 0 (([] ++ r18.1) ++ (List.drop (0 + (List.length r18.1)) [(0 : Int), 0, 0, 0, 0, 0, 0, 0, 0, 0, 0, 0, 0, 0, 0, 0, 0, 0, 0, 0, 0, 0, 0, 0, 0, 0, 0, 0, 0, 0, 0, 0, 0])))) == (List.take 33 (List.drop 0 a2))) then
                                                                                                                    bif (r59.1 == (IntKind.wrap .u16 a0.2.1)) then
                                                                                                                      bif (r59.2 == (0 : Int)) then
                                                                                                                        match c138 with
                                                                                                                        | none => none
                                                                                                                        | some r68 =>
                                                                                                                          some r68
                                                                                                                      else
                                                                                                                        some false
                                                                                                                    else
                                                                                                                      some false
                                                                                                                  else
                                                                                                                    some false
                                                                                                                else none
                                                                                                              else none
                                                                                                            else none
                                                                                                        else
                                                                                                          some false
                                                                                                      else none
                                                                                                    else none
                                                                                                  else none
                                                                                              else
                                                                                                some false
                                                                                          else none
                                                                                        else
                                                                                          some false
                                                                                      else
                                                                                        some false
                                                              else none
                                                            else none
                                                        else none
                                                      else none
                                        else none
                            else none
                          else none
                        else none
          else none
      else none

/-- euphroe/euphroeref17.To -/
def p158 (c146 : Int × (List Int) → Option Int) (N : Nat) (a0 : Int × (List Int)) (a1 : Int) : Option Int :=
  bif (a0.1 != a1) then
    some (9 : Int)
  else
    match c146 (a0.1, a0.2) with
    | none => none
    | some r1 =>
      some r1

/-- euphroe/euphroelaw17.AttrTakes -/
def p126 (c138 : Option Bool) (c140 : Int × (List Int) → Option (Int × (List Int))) (c156 : Int × (List Int) → Option (Int × Int)) (c153 : Int × (List Int) → Option ((Int × Int × (List Int)) × Int)) (c154 : Int × (List Int) → Option ((List Int) × Int)) (c155 : Int × (List Int) → Option ((List Int) × Int)) (c158 : Int × (List Int) → Int → Option Int) (c149 : List Int → Option (Int × (List Int))) (c144 : Int × (List Int) → Int × (List Int) → Option Bool) (c148 : List Int → Option (Int × (List Int))) (c147 : Int × Int × (List Int) → Option (Int × (List Int))) (c157 : Int → Option (Int × (List Int))) (N : Nat) (a0 : Int × (List Int)) : Option Bool :=
  bif (decide ((((List.length a0.2) : Nat) : Int) > (5000 : Int))) then
    match c138 with
    | none => none
    | some r1 =>
      some r1
  else
    match c140 (a0.1, a0.2) with
    | none => none
    | some r2 =>
      match c156 (r2.1, r2.2) with
      | none => none
      | some r3 =>
        match c140 (a0.1, a0.2) with
        | none => none
        | some r4 =>
          match c153 (r4.1, r4.2) with
          | none => none
          | some r5 =>
            match c140 (a0.1, a0.2) with
            | none => none
            | some r6 =>
              match c154 (r6.1, r6.2) with
              | none => none
              | some r7 =>
                bif ((List.length r7.1) == 97) then
                  bif (decide ((0 + (List.length r7.1)) ≤ 97)) then
                    match c140 (a0.1, a0.2) with
                    | none => none
                    | some r8 =>
                      match c155 (r8.1, r8.2) with
                      | none => none
                      | some r9 =>
                        bif ((List.length r9.1) == 33) then
                          bif (decide ((0 + (List.length r9.1)) ≤ 33)) then
                            match c158 (a0.1, a0.2) (1 : Int) with
                            | none => none
                            | some r10 =>
                              bif (r3.2 != r10) then
                                some false
                              else
                                match c158 (a0.1, a0.2) (2 : Int) with
                                | none => none
                                | some r11 =>
                                  bif (r5.2 != r11) then
                                    some false
                                  else
                                    match c158 (a0.1, a0.2) (3 : Int) with
                                    | none => none
                                    | some r12 =>
                                      bif (r7.2 != r12) then
                                        some false
                                      else
                                        match c158 (a0.1, a0.2) (4 : Int) with
                                        | none => none
                                        | some r13 =>
                                          bif (r9.2 != r13) then
                                            some false
                                          else
                                            bif (r3.2 != (0 : Int)) then
                                              bif (r5.2 != (0 : Int)) then
                                                bif (r7.2 != (0 : Int)) then
                                                  bif (r9.2 != (0 : Int)) then
                                                    match c138 with
                                                    | none => none
                                                    | some r14 =>
                                                      some r14
                                                  else
                                                    bif (decide (33 ≤ (List.length (([] ++ r9.1) ++ (List.drop (0 + (List.length r9.1)) [(0 : Int), 0, 0, 0, 0, 0, 0, 0, 0, 0, 0, 0, 0, 0, 0, 0, 0, 0, 0, 0, 0, 0, 0, 0, 0, 0, 0, 0, 0, 0, 0, 0, 0]))))) then
                                                      match c149 (List.take 33 (List.drop 0 (([] ++ r9.1) ++ (List.drop (0 + (List.length r9.1)) [(0 : Int), 0, 0, 0, 0, 0, 0, 0, 0, 0, 0, 0, 0, 0, 0, 0, 0, 0, 0, 0, 0, 0, 0, 0, 0, 0, 0, 0, 0, 0, 0, 0, 0])))) with
                                                      | none => none
                                                      | some r15 =>
                                                        match c140 (a0.1, a0.2) with
                                                        | none => none
                                                        | some r16 =>
                                                          match c144 (r15.1, r15.2) (r16.1, r16.2) with
                                                          | none => none
                                                          | some r17 =>
                                                            bif r17 then
                                                              match c138 with
                                                              | none => none
                                                              | some r18 =>
                                                                some r18
                                                            else
                                                              some false
                                                    else none
                                                else
                                                  bif (decide (97 ≤ (List.length (([] ++ r7.1) ++ (List.drop (0 + (List.length r7.1)) [(0 : Int), 0, 0, 0, 0, 0, 0, 0, 0, 0, 0, 0, 0, 0, 0, 0, 0, 0, 0, 0, 0, 0, 0, 0, 0, 0, 0, 0, 0, 0, 0, 0, 0, 0, 0, 0, 0, 0, 0, 0, 0, 0, 0, 0, 0, 0, 0, 0, 0, 0, 0, 0, 0, 0, 0, 0, 0, 0, 0, 0, 0, 0, 0, 0, 0, 0, 0, 0, 0, 0, 0, 0, 0, 0, 0, 0, 0, 0, 0, 0, 0, 0, 0, 0, 0, 0, 0, 0, 0, 0, 0, 0, 0, 0, 0, 0, 0]))))) then
                                                    match c148 (List.take 97 (List.drop 0 (([] ++ r7.1) ++ (List.drop (0 + (List.length r7.1)) [(0 : Int), 0, 0, 0, 0, 0, 0, 0, 0, 0, 0, 0, 0, 0, 0, 0, 0, 0, 0, 0, 0, 0, 0, 0, 0, 0, 0, 0, 0, 0, 0, 0, 0, 0, 0, 0, 0, 0, 0, 0, 0, 0, 0, 0, 0, 0, 0, 0, 0, 0, 0, 0, 0, 0, 0, 0, 0, 0, 0, 0, 0, 0, 0, 0, 0, 0, 0, 0, 0, 0, 0, 0, 0, 0, 0, 0, 0, 0, 0, 0, 0, 0, 0, 0, 0, 0, 0, 0, 0, 0, 0, 0, 0, 0, 0, 0, 0])))) with
                                                    | none => none
                                                    | some r19 =>
                                                      match c140 (a0.1, a0.2) with
                                                      | none => none
                                                      | some r20 =>
                                                        match c144 (r19.1, r19.2) (r20.1, r20.2) with
                                                        | none => none
                                                        | some r21 =>
                                                          bif r21 then
                                                            bif (r9.2 != (0 : Int)) then
                                                              match c138 with
                                                              | none => none
                                                              | some r22 =>
                                                                some r22
                                                            else
                                                              bif (decide (33 ≤ (List.length (([] ++ r9.1) ++ (List.drop (0 + (List.length r9.1)) [(0 : Int), 0, 0, 0, 0, 0, 0, 0, 0, 0, 0, 0, 0, 0, 0, 0, 0, 0, 0, 0, 0, 0, 0, 0, 0, 0, 0, 0, 0, 0, 0, 0, 0]))))) then
                                                                match c149 (List.take 33 (List.drop 0 (([] ++ r9.1) ++ (List.drop (0 + (List.length r9.1)) [(0 : Int), 0, 0, 0, 0, 0, 0, 0, 0, 0, 0, 0, 0, 0, 0, 0, 0, 0, 0, 0, 0, 0, 0, 0, 0, 0, 0, 0, 0, 0, 0, 0, 0])))) with
                                                                | none => none
                                                                | some r23 =>
                                                                  match c140 (a0.1, a0.2) with
                                                                  | none => none
                                                                  | some r24 =>
                                                                    match c144 (r23.1, r23.2) (r24.1, r24.2) with
                                                                    | none => none
                                                                    | some r25 =>
                                                                      bif r25 then
                                                                        match c138 with
                                                                        | none => none
                                                                        | some r26 =>
                                                                          some r26
                                                                      else
                                                                        some false
                                                              else none
                                                          else
                                                            some false
                                                  else none
                                              else
                                                match c147 (r5.1.1, (r5.1.2.1, r5.1.2.2)) with
                                                | none => none
                                                | some r27 =>
                                                  match c140 (a0.1, a0.2) with
                                                  | none => none
                                                  | some r28 =>
                                                    match c144 (r27.1, r27.2) (r28.1, r28.2) with
                                                    | none => none
                                                    | some r29 =>
                                                      bif r29 then
                                                        bif (r7.2 != (0 : Int)) then
                                                          bif (r9.2 != (0 : Int)) then
                                                            match c138 with
                                                            | none => none
                                                            | some r30 =>
                                                              some r30
                                                          else
                                                            bif (decide (33 ≤ (List.length (([] ++ r9.1) ++ (List.drop (0 + (List.length r9.1)) [(0 : Int), 0, 0, 0, 0, 0, 0, 0, 0, 0, 0, 0, 0, 0, 0, 0, 0, 0, 0, 0, 0, 0, 0, 0, 0, 0, 0, 0, 0, 0, 0, 0, 0]))))) then
                                                              match c149 (List.take 33 (List.drop 0 (([] ++ r9.1) ++ (List.drop (0 + (List.length r9.1)) [(0 : Int), 0, 0, 0, 0, 0, 0, 0, 0, 0, 0, 0, 0, 0, 0, 0, 0, 0, 0, 0, 0, 0, 0, 0, 0, 0, 0, 0, 0, 0, 0, 0, 0])))) with
                                                              | none => none
                                                              | some r31 =>
                                                                match c140 (a0.1, a0.2) with
                                                                | none => none
                                                                | some r32 =>
                                                                  match c144 (r31.1, r31.2) (r32.1, r32.2) with
                                                                  | none => none
                                                                  | some r33 =>
                                                                    bif r33 then
                                                                      match c138 with
                                                                      | none => none
                                                                      | some r34 =>
                                                                        some r34
                                                                    else
                                                                      some false
                                                            else none
                                                        else
                                                          bif (decide (97 ≤ (List.length (([] ++ r7.1) ++ (List.drop (0 + (List.length r7.1)) [(0 : Int), 0, 0, 0, 0, 0, 0, 0, 0, 0, 0, 0, 0, 0, 0, 0, 0, 0, 0, 0, 0, 0, 0, 0, 0, 0, 0, 0, 0, 0, 0, 0, 0, 0, 0, 0, 0, 0, 0, 0, 0, 0, 0, 0, 0, 0, 0, 0, 0, 0, 0, 0, 0, 0, 0, 0, 0, 0, 0, 0, 0, 0, 0, 0, 0, 0, 0, 0, 0, 0, 0, 0, 0, 0, 0, 0, 0, 0, 0, 0, 0, 0, 0, 0, 0, 0, 0, 0, 0, 0, 0, 0, 0, 0, 0, 0, 0]))))) then
                                                            match c148 (List.take 97 (List.drop 0 (([] ++ r7.1) ++ (List.drop (0 + (List.length r7.1)) [(0 : Int), 0, 0, 0, 0, 0, 0, 0, 0, 0, 0, 0, 0, 0, 0, 0, 0, 0, 0, 0, 0, 0, 0, 0, 0, 0, 0, 0, 0, 0, 0, 0, 0, 0, 0, 0, 0, 0, 0, 0, 0, 0, 0, 0, 0, 0, 0, 0, 0, 0, 0, 0, 0, 0, 0, 0, 0, 0, 0, 0, 0, 0, 0, 0, 0, 0, 0, 0, 0, 0, 0, 0, 0, 0, 0, 0, 0, 0, 0, 0, 0, 0, 0, 0, 0, 0, 0, 0, 0, 0, 0, 0, 0, 0, 0, 0, 0])))) with
                                                            | none => none
                                                            | some r35 =>
                                                              match c140 (a0.1, a0.2) with
                                                              | none => none
                                                              | some r36 =>
                                                                match c144 (r35.1, r35.2) (r36.1, r36.2) with
                                                                | none => none
                                                                | some r37 =>
                                                                  bif r37 then
                                                                    bif (r9.2 != (0 : Int)) then
                                                                      match c138 with
                                                                      | none => none
                                                                      | some r38 =>
                                                                        some r38
                                                                    else
                                                                      bif (decide (33 ≤ (List.length (([] ++ r9.1) ++ (List.drop (0 + (List.length r9.1)) [(0 : Int), 0, 0, 0, 0, 0, 0, 0, 0, 0, 0, 0, 0, 0, 0, 0, 0, 0, 0, 0, 0, 0, 0, 0, 0, 0, 0, 0, 0, 0, 0, 0, 0]))))) then
                                                                        match c149 (List.take 33 (List.drop 0 (([] ++ r9.1) ++ (List.drop (0 + (List.length r9.1)) [(0 : Int), 0, 0, 0, 0, 0, 0, 0, 0, 0, 0, 0, 0, 0, 0, 0, 0, 0, 0, 0, 0, 0, 0, 0, 0, 0, 0, 0, 0, 0, 0, 0, 0])))) with
                                                                        | none => none
                                                                        | some r39 =>
                                                                          match c140 (a0.1, a0.2) with
                                                                          | none => none
                                                                          | some r40 =>
                                                                            match c144 (r39.1, r39.2) (r40.1, r40.2) with
                                                                            | none => none
                                                                            | some r41 =>
                                                                              bif r41 then
                                                                                match c138 with
                                                                                | none => none
                                                                                | some r42 =>
                                                                                  some r42
                                                                              else
                                                                                some false
                                                                      else none
                                                                  else
                                                                    some false
                                                          else none
                                                      else
                                                        some false
                                            else
                                              match c157 r3.1 with
                                              | none => none
                                              | some r43 =>
                                                match c140 (a0.1, a0.2) with
                                                | none => none
                                                | some r44 =>
                                                  match c144 (r43.1, r43.2) (r44.1, r44.2) with
                                                  | none => none
                                                  | some r45 =>
                                                    bif r45 then
                                                      bif (r5.2 != (0 : Int)) then
                                                        bif (r7.2 != (0 : Int)) then
                                                          bif (r9.2 != (0 : Int)) then
                                                            match c138 with
                                                            | none => none
                                                            | some r46 =>
                                                              some r46
                                                          else
                                                            bif (decide (33 ≤ (List.length (([] ++ r9.1) ++ (List.drop (0 + (List.length r9.1)) [(0 : Int), 0, 0, 0, 0, 0, 0, 0, 0, 0, 0, 0, 0, 0, 0, 0, 0, 0, 0, 0, 0, 0, 0, 0, 0, 0, 0, 0, 0, 0, 0, 0, 0]))))) then
                                                              match c149 (List.take 33 (List.drop 0 (([] ++ r9.1) ++ (List.drop (0 + (List.length r9.1)) [(0 : Int), 0, 0, 0, 0, 0, 0, 0, 0, 0, 0, 0, 0, 0, 0, 0, 0, 0, 0, 0, 0, 0, 0, 0, 0, 0, 0, 0, 0, 0, 0, 0, 0])))) with
                                                              | none => none
                                                              | some r47 =>
                                                                match c140 (a0.1, a0.2) with
                                                                | none => none
                                                                | some r48 =>
                                                                  match c144 (r47.1, r47.2) (r48.1, r48.2) with
                                                                  | none => none
                                                                  | some r49 =>
                                                                    bif r49 then
                                                                      match c138 with
                                                                      | none => none
                                                                      | some r50 =>
                                                                        some r50
                                                                    else
                                                                      some false
                                                            else none
                                                        else
                                                          bif (decide (97 ≤ (List.length (([] ++ r7.1) ++ (List.drop (0 + (List.length r7.1)) [(0 : Int), 0, 0, 0, 0, 0, 0, 0, 0, 0, 0, 0, 0, 0, 0, 0, 0, 0, 0, 0, 0, 0, 0, 0, 0, 0, 0, 0, 0, 0, 0, 0, 0, 0, 0, 0, 0, 0, 0, 0, 0, 0, 0, 0, 0, 0, 0, 0, 0, 0, 0, 0, 0, 0, 0, 0, 0, 0, 0, 0, 0, 0, 0, 0, 0, 0, 0, 0, 0, 0, 0, 0, 0, 0, 0, 0, 0, 0, 0, 0, 0, 0, 0, 0, 0, 0, 0, 0, 0, 0, 0, 0, 0, 0, 0, 0, 0]))))) then
                                                            match c148 (List.take 97 (List.drop 0 (([] ++ r7.1) ++ (List.drop (0 + (List.length r7.1)) [(0 : Int), 0, 0, 0, 0, 0, 0, 0, 0, 0, 0, 0, 0, 0, 0, 0, 0, 0, 0, 0, 0, 0, 0, 0, 0, 0, 0, 0, 0, 0, 0, 0, 0, 0, 0, 0, 0, 0, 0, 0, 0, 0, 0, 0, 0, 0, 0, 0, 0, 0, 0, 0, 0, 0, 0, 0, 0, 0, 0, 0, 0, 0, 0, 0, 0, 0, 0, 0, 0, 0, 0, 0, 0, 0, 0, 0, 0, 0, 0, 0, 0, 0, 0, 0, 0, 0, 0, 0, 0, 0, 0, 0, 0, 0, 0, 0, 0])))) with
                                                            | none => none
                                                            | some r51 =>
                                                              match c140 (a0.1, a0.2) with
                                                              | none => none
                                                              | some r52 =>
                                                                match c144 (r51.1, r51.2) (r52.1, r52.2) with
                                                                | none => none
                                                                | some r53 =>
                                                                  bif r53 then
                                                                    bif (r9.2 != (0 : Int)) then
                                                                      match c138 with
                                                                      | none => none
                                                                      | some r54 =>
                                                                        some r54
                                                                    else
                                                                      bif (decide (33 ≤ (List.length (([] ++ r9.1) ++ (List.drop (0 + (List.length r9.1)) [(0 : Int), 0, 0, 0, 0, 0, 0, 0, 0, 0, 0, 0, 0, 0, 0, 0, 0, 0, 0, 0, 0, 0, 0, 0, 0, 0, 0, 0, 0, 0, 0, 0, 0]))))) then
                                                                        match c149 (List.take 33 (List.drop 0 (([] ++ r9.1) ++ (List.drop (0 + (List.length r9.1)) [(0 : Int), 0, 0, 0, 0, 0, 0, 0, 0, 0, 0, 0, 0, 0, 0, 0, 0, 0, 0, 0, 0, 0, 0, 0, 0, 0, 0, 0, 0, 0, 0, 0, 0])))) with
                                                                        | none => none
                                                                        | some r55 =>
                                                                          match c140 (a0.1, a0.2) with
                                                                          | none => none
                                                                          | some r56 =>
                                                                            match c144 (r55.1, r55.2) (r56.1, r56.2) with
                                                                            | none => none
                                                                            | some r57 =>
                                                                              bif r57 then
                                                                                match c138 with
                                                                                | none => none
                                                                                | some r58 =>
                                                                                  some r58
                                                                              else
                                                                                some false
                                                                      else none
                                                                  else
                                                                    some false
                                                          else none
                                                      else
                                                        match c147 (r5.1.1, (r5.1.2.1, r5.1.2.2)) with
                                                        | none => none
                                                        | some r59 =>
                                                          match c140 (a0.1, a0.2) with
                                                          | none => none
                                                          | some r60 =>
                                                            match c144 (r59.1, r59.2) (r60.1, r60.2) with
                                                            | none => none
                                                            | some r61 =>
                                                              bif r61 then
                                                                bif (r7.2 != (0 : Int)) then
                                                                  bif (r9.2 != (0 : Int)) then
                                                                    match c138 with
                                                                    | none => none
                                                                    | some r62 =>
                                                                      some r62
                                                                  else
                                                                    bif (decide (33 ≤ (List.length (([] ++ r9.1) ++ (List.drop (0 + (List.length r9.1)) [(0 : Int), 0, 0, 0, 0, 0, 0, 0, 0, 0, 0, 0, 0, 0, 0, 0, 0, 0, 0, 0, 0, 0, 0, 0, 0, 0, 0, 0, 0, 0, 0, 0, 0]))))) then
                                                                      match c149 (List.take 33 (List.drop 0 (([] ++ r9.1) ++ (List.drop (0 + (List.length r9.1)) [(0 : Int), 0, 0, 0, 0, 0, 0, 0, 0, 0, 0, 0, 0, 0, 0, 0, 0, 0, 0, 0, 0, 0, 0, 0, 0, 0, 0, 0, 0, 0, 0, 0, 0])))) with
                                                                      | none => none
                                                                      | some r63 =>
                                                                        match c140 (a0.1, a0.2) with
                                                                        | none => none
                                                                        | some r64 =>
                                                                          match c144 (r63.1, r63.2) (r64.1, r64.2) with
                                                                          | none => none
                                                                          | some r65 =>
                                                                            bif r65 then
                                                                              match c138 with
                                                                              | none => none
                                                                              | some r66 =>
                                                                                some r66
                                                                            else
                                                                              some false
                                                                    else none
                                                                else
                                                                  bif (decide (97 ≤ (List.length (([] ++ r7.1) ++ (List.drop (0 + (List.length r7.1)) [(0 : Int), 0, 0, 0, 0, 0, 0, 0, 0, 0, 0, 0, 0, 0, 0, 0, 0, 0, 0, 0, 0, 0, 0, 0, 0, 0, 0, 0, 0, 0, 0, 0, 0, 0, 0, 0, 0, 0, 0, 0, 0, 0, 0, 0, 0, 0, 0, 0, 0, 0, 0, 0, 0, 0, 0, 0, 0, 0, 0, 0, 0, 0, 0, 0, 0, 0, 0, 0, 0, 0, 0, 0, 0, 0, 0, 0, 0, 0, 0, 0, 0, 0, 0, 0, 0, 0, 0, 0, 0, 0, 0, 0, 0, 0, 0, 0, 0]))))) then
                                                                    match c148 (List.take 97 (List.drop 0 (([] ++ r7.1) ++ (List.drop (0 + (List.length r7.1)) [(0 : Int), 0, 0, 0, 0, 0, 0, 0, 0, 0, 0, 0, 0, 0, 0, 0, 0, 0, 0, 0, 0, 0, 0, 0, 0, 0, 0, 0, 0, 0, 0, 0, 0, 0, 0, 0, 0, 0, 0, 0, 0, 0, 0, 0, 0, 0, 0, 0, 0, 0, 0, 0, 0, 0, 0, 0, 0, 0, 0, 0, 0, 0, 0, 0, 0, 0, 0, 0, 0, 0, 0, 0, 0, 0, 0, 0, 0, 0, 0, 0, 0, 0, 0, 0, 0, 0, 0, 0, 0, 0, 0, 0, 0, 0, 0, 0, 0])))) with
                                                                    | none => none
                                                                    | some r67 =>
                                                                      match c140 (a0.1, a0.2) with
                                                                      | none => none
                                                                      | some r68 =>
                                                                        match c144 (r67.1, r67.2) (r68.1, r68.2) with
                                                                        | none => none
                                                                        | some r69 =>
                                                                          bif r69 then
                                                                            bif (r9.2 != (0 : Int)) then
                                                                              match c138 with
                                                                              | none => none
                                                                              | some r70 =>
                                                                                some r70
                                                                            else
                                                                              bif (decide (33 ≤ (List.length (([] ++ r9.1) ++ (List.drop (0 + (List.length r9.1)) [(0 : Int), 0, 0, 0, 0, 0, 0, 0, 0, 0, 0, 0, 0, 0, 0, 0, 0, 0, 0, 0, 0, 0, 0, 0, 0, 0, 0, 0, 0, 0, 0, 0, 0]))))) then
                                                                                match c149 (List.take 33 (List.drop 0 (([] ++ r9.1) ++ (List.drop (0 + (List.length r9.1)) [(0 : Int), 0, 0, 0, 0, 0, 0, 0, 0, 0, 0, 0, 0, 0, 0, 0, 0, 0, 0, 0, 0, 0, 0, 0, 0, 0, 0, 0, 0, 0, 0, 0, 0])))) with
                                                                                | none => none
                                                                                | some r71 =>
                                                                                  match c140 (a0.1, a0.2) with
                                                                                  | none => none
                                                                                  | some r72 =>
                                                                                    match c144 (r71.1, r71.2) (r72.1, r72.2) with
                                                                                    | none => none
                                                                                    | some r73 =>
                                                                                      bif r73 then
                                                                                        match c138 with
                                                                                        | none => none
                                                                                        | some r74 =>
                                                                                          some r74
                                                                                      else
                                                                                        some false
                                                                              else none
                                                                          else
                                                                            some false
                                                                  else none
                                                              else
                                                                some false
                                                    else
                                                      some false
                          else none
                        else none
                  else none
                else none
end Go.Proofs.YtjkdflcccoeggaaE
