/- The functions as plain ones. -/
import Derived.Test.YtjgaemdfaknemaaEvFB
namespace Go.Proofs.YtjgaemdfaknemaaE
open Go
set_option linter.unusedVariables false
set_option linter.unusedSimpArgs false
/-- slices.Concat[[]byte,byte] -/
abbrev en1 (f : List (List Int) → Option (List Int)) : Ent := ⟨[(Sh.sl (Sh.sl (Sh.int .u8)))], List Int, fun v => f v.1, ownOut .u8⟩
/-- euphroe/octs.Put -/
abbrev en19 (f : Int → Int → Bool → Option ((List Int) × Int)) : Ent := ⟨[(Sh.int .u64), (Sh.int .i64), Sh.bool], (List Int) × Int, fun v => f v.1 v.2.1 v.2.2.1, fun r => (((Sh.tu (Sh.pr (Sh.sl (Sh.int .u8)) (Sh.int .i64)))).enc r, [])⟩
/-- euphroe/octs.Get -/
abbrev en21 (f : List Int → Bool → Option (Int × Int)) : Ent := ⟨[(Sh.sl (Sh.int .u8)), Sh.bool], Int × Int, fun v => f v.1 v.2.1, fun r => (((Sh.tu (Sh.pr (Sh.int .u64) (Sh.int .i64)))).enc r, [])⟩
/-- euphroe/euphroeref01.Same -/
abbrev en23 (f : List Int → List Int → Option Bool) : Ent := ⟨[(Sh.sl (Sh.int .u8)), (Sh.sl (Sh.int .u8))], Bool, fun v => f v.1 v.2.1, fun r => ((Sh.bool).enc r, [])⟩
/-- euphroe/octs.Join -/
abbrev en46 (f : List (List Int) → Option (List Int)) : Ent := ⟨[(Sh.sl (Sh.sl (Sh.int .u8)))], List Int, fun v => f v.1, ownOut .u8⟩
/-- euphroe/roots.Root -/
abbrev en75 (f : Int → Int → Int → Option (Int × Int)) : Ent := ⟨[(Sh.int .i64), (Sh.int .i64), (Sh.int .i64)], Int × Int, fun v => f v.1 v.2.1 v.2.2.1, fun r => (((Sh.tu (Sh.pr (Sh.int .u64) (Sh.int .i64)))).enc r, [])⟩
/-- euphroe/roots.may -/
abbrev en100 (f : Int → Int → Int → Option Bool) : Ent := ⟨[(Sh.int .i64), (Sh.int .i64), (Sh.int .i64)], Bool, fun v => f v.1 v.2.1 v.2.2.1, fun r => ((Sh.bool).enc r, [])⟩
/-- euphroe/roots.full -/
abbrev en101 (f : Int → Int → Option Int) : Ent := ⟨[(Sh.int .i64), (Sh.int .i64)], Int, fun v => f v.1 v.2.1, fun r => (((Sh.int .u64)).enc r, [])⟩
/-- euphroe/roots.fits -/
abbrev en116 (f : Int → Int → Int → Option Bool) : Ent := ⟨[(Sh.int .u64), (Sh.int .u64), (Sh.int .i64)], Bool, fun v => f v.1 v.2.1 v.2.2.1, fun r => ((Sh.bool).enc r, [])⟩
/-- math/bits.Mul64 -/
abbrev en120 (f : Int → Int → Option (Int × Int)) : Ent := ⟨[(Sh.int .u64), (Sh.int .u64)], Int × Int, fun v => f v.1 v.2.1, fun r => (((Sh.tu (Sh.pr (Sh.int .u64) (Sh.int .u64)))).enc r, [])⟩
/-- euphroe/euphroelaw04.Md4Blocks -/
abbrev en168 (f : List Int → List Int → Int → Option Bool) : Ent := ⟨[(Sh.ar .u32), (Sh.ar .u8), (Sh.int .u64)], Bool, fun v => f v.1 v.2.1 v.2.2.1, fun r => ((Sh.bool).enc r, [])⟩
/-- euphroe/euphroelaw04.Md4Is -/
abbrev en169 (f : List Int → Option Bool) : Ent := ⟨[(Sh.sl (Sh.int .u8))], Bool, fun v => f v.1, fun r => ((Sh.bool).enc r, [])⟩
/-- euphroe/euphroelaw04.Md4Parts -/
abbrev en170 (f : List (List Int) → Option Bool) : Ent := ⟨[(Sh.sl (Sh.sl (Sh.int .u8)))], Bool, fun v => f v.1, fun r => ((Sh.bool).enc r, [])⟩
/-- euphroe/euphroelaw05.Sha1Blocks -/
abbrev en171 (f : List Int → List Int → Int → Option Bool) : Ent := ⟨[(Sh.ar .u32), (Sh.ar .u8), (Sh.int .u64)], Bool, fun v => f v.1 v.2.1 v.2.2.1, fun r => ((Sh.bool).enc r, [])⟩
/-- euphroe/euphroelaw05.Sha1Is -/
abbrev en172 (f : List Int → Option Bool) : Ent := ⟨[(Sh.sl (Sh.int .u8))], Bool, fun v => f v.1, fun r => ((Sh.bool).enc r, [])⟩
/-- euphroe/euphroelaw05.Sha1Parts -/
abbrev en173 (f : List (List Int) → Option Bool) : Ent := ⟨[(Sh.sl (Sh.sl (Sh.int .u8)))], Bool, fun v => f v.1, fun r => ((Sh.bool).enc r, [])⟩
/-- euphroe/md4.Block -/
abbrev en174 (f : List Int → List Int → Option (List Int)) : Ent := ⟨[(Sh.ar .u32), (Sh.ar .u8)], List Int, fun v => f v.1 v.2.1, fun r => (((Sh.ar .u32)).enc r, [])⟩
/-- euphroe/euphroeref04.Block -/
abbrev en175 (f : List Int → List Int → Option (List Int)) : Ent := ⟨[(Sh.ar .u32), (Sh.ar .u8)], List Int, fun v => f v.1 v.2.1, fun r => (((Sh.ar .u32)).enc r, [])⟩
/-- euphroe/md4.Tail -/
abbrev en176 (f : Int → Option (List Int)) : Ent := ⟨[(Sh.int .u64)], List Int, fun v => f v.1, fun r => (((Sh.sl (Sh.int .u8))).enc r, [])⟩
/-- euphroe/euphroeref04.Tail -/
abbrev en177 (f : Int → Option (List Int)) : Ent := ⟨[(Sh.int .u64)], List Int, fun v => f v.1, fun r => (((Sh.sl (Sh.int .u8))).enc r, [])⟩
/-- euphroe/md4.First -/
abbrev en178 (f : Option (List Int)) : Ent := ⟨[], List Int, fun v => f, fun r => (((Sh.ar .u32)).enc r, [])⟩
/-- euphroe/euphroeref04.First -/
abbrev en179 (f : Option (List Int)) : Ent := ⟨[], List Int, fun v => f, fun r => (((Sh.ar .u32)).enc r, [])⟩
/-- euphroe/euphroelaw04.alive -/
abbrev en180 (f : Option Bool) : Ent := ⟨[], Bool, fun v => f, fun r => ((Sh.bool).enc r, [])⟩
/-- euphroe/md4.Of -/
abbrev en181 (f : List (List Int) → Option (List Int)) : Ent := ⟨[(Sh.sl (Sh.sl (Sh.int .u8)))], List Int, fun v => f v.1, fun r => (((Sh.ar .u8)).enc r, [])⟩
/-- euphroe/euphroeref04.Of -/
abbrev en182 (f : List Int → Option (List Int)) : Ent := ⟨[(Sh.sl (Sh.int .u8))], List Int, fun v => f v.1, fun r => (((Sh.ar .u8)).enc r, [])⟩
/-- euphroe/sha1.Block -/
abbrev en183 (f : List Int → List Int → Option (List Int)) : Ent := ⟨[(Sh.ar .u32), (Sh.ar .u8)], List Int, fun v => f v.1 v.2.1, fun r => (((Sh.ar .u32)).enc r, [])⟩
/-- euphroe/euphroeref05.Block -/
abbrev en184 (f : List Int → List Int → Option (List Int)) : Ent := ⟨[(Sh.ar .u32), (Sh.ar .u8)], List Int, fun v => f v.1 v.2.1, fun r => (((Sh.ar .u32)).enc r, [])⟩
/-- euphroe/sha1.Tail -/
abbrev en185 (f : Int → Option (List Int)) : Ent := ⟨[(Sh.int .u64)], List Int, fun v => f v.1, fun r => (((Sh.sl (Sh.int .u8))).enc r, [])⟩
/-- euphroe/euphroeref05.Tail -/
abbrev en186 (f : Int → Option (List Int)) : Ent := ⟨[(Sh.int .u64)], List Int, fun v => f v.1, fun r => (((Sh.sl (Sh.int .u8))).enc r, [])⟩
/-- euphroe/sha1.First -/
abbrev en187 (f : Option (List Int)) : Ent := ⟨[], List Int, fun v => f, fun r => (((Sh.ar .u32)).enc r, [])⟩
/-- euphroe/euphroeref05.First -/
abbrev en188 (f : Option (List Int)) : Ent := ⟨[], List Int, fun v => f, fun r => (((Sh.ar .u32)).enc r, [])⟩
/-- euphroe/euphroelaw05.alive -/
abbrev en189 (f : Option Bool) : Ent := ⟨[], Bool, fun v => f, fun r => ((Sh.bool).enc r, [])⟩
/-- euphroe/sha1.Of -/
abbrev en190 (f : List (List Int) → Option (List Int)) : Ent := ⟨[(Sh.sl (Sh.sl (Sh.int .u8)))], List Int, fun v => f v.1, fun r => (((Sh.ar .u8)).enc r, [])⟩
/-- euphroe/euphroeref05.Of -/
abbrev en191 (f : List Int → Option (List Int)) : Ent := ⟨[(Sh.sl (Sh.int .u8))], List Int, fun v => f v.1, fun r => (((Sh.ar .u8)).enc r, [])⟩
/-- euphroe/md4.words -/
abbrev en192 (f : List Int → Option (List Int)) : Ent := ⟨[(Sh.ar .u8)], List Int, fun v => f v.1, fun r => (((Sh.ar .u32)).enc r, [])⟩
/-- euphroe/md4.mix -/
abbrev en194 (f : Int → Int → Int → Int → Option Int) : Ent := ⟨[(Sh.int .i64), (Sh.int .u32), (Sh.int .u32), (Sh.int .u32)], Int, fun v => f v.1 v.2.1 v.2.2.1 v.2.2.2.1, fun r => (((Sh.int .u32)).enc r, [])⟩
/-- math/bits.RotateLeft32 -/
abbrev en195 (f : Int → Int → Option Int) : Ent := ⟨[(Sh.int .u32), (Sh.int .i64)], Int, fun v => f v.1 v.2.1, fun r => (((Sh.int .u32)).enc r, [])⟩
/-- euphroe/euphroeref04.place -/
abbrev en196 (f : Int → Option Int) : Ent := ⟨[(Sh.int .i64)], Int, fun v => f v.1, fun r => (((Sh.int .i64)).enc r, [])⟩
/-- euphroe/euphroeref04.turn -/
abbrev en197 (f : Int → Int → Option Int) : Ent := ⟨[(Sh.int .u32), (Sh.int .i64)], Int, fun v => f v.1 v.2.1, fun r => (((Sh.int .u32)).enc r, [])⟩
/-- euphroe/euphroeref04.step -/
abbrev en198 (f : Int → Int → Int → Int → Option Int) : Ent := ⟨[(Sh.int .i64), (Sh.int .u32), (Sh.int .u32), (Sh.int .u32)], Int, fun v => f v.1 v.2.1 v.2.2.1 v.2.2.2.1, fun r => (((Sh.int .u32)).enc r, [])⟩
/-- euphroe/sha1.spread -/
abbrev en199 (f : List Int → Option (List Int)) : Ent := ⟨[(Sh.ar .u8)], List Int, fun v => f v.1, fun r => (((Sh.ar .u32)).enc r, [])⟩
/-- euphroe/sha1.constants -/
abbrev en200 (f : Option (List Int)) : Ent := ⟨[], List Int, fun v => f, fun r => (((Sh.ar .u32)).enc r, [])⟩
/-- euphroe/sha1.choose -/
abbrev en201 (f : Int → Int → Int → Int → Option Int) : Ent := ⟨[(Sh.int .i64), (Sh.int .u32), (Sh.int .u32), (Sh.int .u32)], Int, fun v => f v.1 v.2.1 v.2.2.1 v.2.2.2.1, fun r => (((Sh.int .u32)).enc r, [])⟩
/-- euphroe/euphroeref05.turn -/
abbrev en202 (f : Int → Int → Option Int) : Ent := ⟨[(Sh.int .u32), (Sh.int .i64)], Int, fun v => f v.1 v.2.1, fun r => (((Sh.int .u32)).enc r, [])⟩
/-- euphroe/euphroeref05.mix -/
abbrev en203 (f : Int → Int → Int → Int → Option Int) : Ent := ⟨[(Sh.int .i64), (Sh.int .u32), (Sh.int .u32), (Sh.int .u32)], Int, fun v => f v.1 v.2.1 v.2.2.1 v.2.2.2.1, fun r => (((Sh.int .u32)).enc r, [])⟩
/-- euphroe/euphroeref04.two -/
abbrev en204 (f : Int → Int → Int → Option Int) : Ent := ⟨[(Sh.int .u32), (Sh.int .u32), (Sh.int .u32)], Int, fun v => f v.1 v.2.1 v.2.2.1, fun r => (((Sh.int .u32)).enc r, [])⟩
def PR64v0 : Pr := ⟨(.cons .nils (.cons (.int .i64) .nil)), []⟩
def QR64v0 : Pr := ⟨(.cons (.sl 0 1) .nil), [(.ints false .u8)]⟩
/-- slices.Grow[[]byte,byte] -/
abbrev rn64v0 (f : Int → Option ((Nat × Unit) × ((List Int) × Unit))) : REnt := ⟨PR64v0, QR64v0, (Nat × Unit) × ((List Int) × Unit), fun v => f v.1.2.1, fun r => r⟩
def PR48v0 : Pr := ⟨(.cons (.slc 0 1) .nil), [(.ints false .u8)]⟩
def QR48v0 : Pr := ⟨(.cons .tup0 .nil), [(.ints false .u8)]⟩
/-- slices.Reverse[[]byte,byte] -/
abbrev rn48v0 (f : Nat → Nat → List Int → Option ((Unit × Unit) × ((List Int) × Unit))) : REnt := ⟨PR48v0, QR48v0, (Unit × Unit) × ((List Int) × Unit), fun v => f v.1.1.1 v.1.1.2 v.2.1, fun r => r⟩
def PR115v0 : Pr := ⟨(.cons (.int .i64) (.cons (.ptr 0 0) (.cons (.ptr 1 0) .nil))), [(.ints false .i64), (.ints false .i64)]⟩
def QR115v0 : Pr := ⟨(.cons .bool .nil), [(.ints false .i64), (.ints false .i64)]⟩
/-- euphroe/roots.full$1 -/
abbrev rn115v0 (f : Int → List Int → List Int → Option ((Bool × Unit) × ((List Int) × ((List Int) × Unit)))) : REnt := ⟨PR115v0, QR115v0, (Bool × Unit) × ((List Int) × ((List Int) × Unit)), fun v => f v.1.1 v.2.1 v.2.2.1, fun r => r⟩
def PR114v0 : Pr := ⟨(.cons (.int .i64) (.cons (.fn 115 (.cons (.ptr 0 0) (.cons (.ptr 1 0) .nil))) .nil)), [(.ints false .i64), (.ints false .i64)]⟩
def QR114v0 : Pr := ⟨(.cons (.int .i64) .nil), [(.ints false .i64), (.ints false .i64)]⟩
/-- sort.Search -/
abbrev rn114v0 (f : Int → List Int → List Int → Option ((Int × Unit) × ((List Int) × ((List Int) × Unit)))) : REnt := ⟨PR114v0, QR114v0, (Int × Unit) × ((List Int) × ((List Int) × Unit)), fun v => f v.1.1 v.2.1 v.2.2.1, fun r => r⟩
def PR193v0 : Pr := ⟨.nil, []⟩
def QR193v0 : Pr := ⟨(.cons (.vs (.cons (.int .u32) (.cons (.int .i64) (.cons (.int .i64) (.cons (.int .i64) (.cons (.int .i64) (.cons (.int .i64) (.cons (.int .i64) (.cons (.int .i64) (.cons (.int .i64) (.cons (.int .i64) (.cons (.int .i64) (.cons (.int .i64) (.cons (.int .i64) (.cons (.int .i64) (.cons (.int .i64) (.cons (.int .i64) (.cons (.int .i64) (.cons (.int .i64) (.cons (.int .i64) (.cons (.int .i64) (.cons (.int .i64) (.cons (.int .u32) (.cons (.int .i64) (.cons (.int .i64) (.cons (.int .i64) (.cons (.int .i64) (.cons (.int .i64) (.cons (.int .i64) (.cons (.int .i64) (.cons (.int .i64) (.cons (.int .i64) (.cons (.int .i64) (.cons (.int .i64) (.cons (.int .i64) (.cons (.int .i64) (.cons (.int .i64) (.cons (.int .i64) (.cons (.int .i64) (.cons (.int .i64) (.cons (.int .i64) (.cons (.int .i64) (.cons (.int .i64) (.cons (.int .u32) (.cons (.int .i64) (.cons (.int .i64) (.cons (.int .i64) (.cons (.int .i64) (.cons (.int .i64) (.cons (.int .i64) (.cons (.int .i64) (.cons (.int .i64) (.cons (.int .i64) (.cons (.int .i64) (.cons (.int .i64) (.cons (.int .i64) (.cons (.int .i64) (.cons (.int .i64) (.cons (.int .i64) (.cons (.int .i64) (.cons (.int .i64) (.cons (.int .i64) (.cons (.int .i64) (.cons (.int .i64) .nil)))))))))))))))))))))))))))))))))))))))))))))))))))))))))))))))) .nil), []⟩
/-- euphroe/md4.plans -/
abbrev rn193v0 (f : Option (((Int × (Int × (Int × (Int × (Int × (Int × (Int × (Int × (Int × (Int × (Int × (Int × (Int × (Int × (Int × (Int × (Int × (Int × (Int × (Int × (Int × (Int × (Int × (Int × (Int × (Int × (Int × (Int × (Int × (Int × (Int × (Int × (Int × (Int × (Int × (Int × (Int × (Int × (Int × (Int × (Int × (Int × (Int × (Int × (Int × (Int × (Int × (Int × (Int × (Int × (Int × (Int × (Int × (Int × (Int × (Int × (Int × (Int × (Int × (Int × (Int × (Int × (Int × Unit))))))))))))))))))))))))))))))))))))))))))))))))))))))))))))))) × Unit) × Unit)) : REnt := ⟨PR193v0, QR193v0, ((Int × (Int × (Int × (Int × (Int × (Int × (Int × (Int × (Int × (Int × (Int × (Int × (Int × (Int × (Int × (Int × (Int × (Int × (Int × (Int × (Int × (Int × (Int × (Int × (Int × (Int × (Int × (Int × (Int × (Int × (Int × (Int × (Int × (Int × (Int × (Int × (Int × (Int × (Int × (Int × (Int × (Int × (Int × (Int × (Int × (Int × (Int × (Int × (Int × (Int × (Int × (Int × (Int × (Int × (Int × (Int × (Int × (Int × (Int × (Int × (Int × (Int × (Int × Unit))))))))))))))))))))))))))))))))))))))))))))))))))))))))))))))) × Unit) × Unit, fun v => f , fun r => r⟩

/-- slices.Grow[[]byte,byte] -/
def p64v0 (N : Nat) (a0 : Int) : Option ((Nat × Unit) × ((List Int) × Unit)) :=
  bif (decide (a0 < (0 : Int))) then
    none
  else
    bif (decide ((isub .i64 a0 (0 : Int)) > (0 : Int))) then
      bif ((decide ((0 : Int) ≤ (isub .i64 a0 (0 : Int)))) && ((decide (((isub .i64 a0 (0 : Int)) * ((1 : Nat) : Int)) ≤ (1099511627776 : Int))) && (decide ((isub .i64 a0 (0 : Int)) ≤ (1099511627776 : Int))))) then
        bif (decide ((0 : Int) ≤ (((Int.toNat (isub .i64 a0 (0 : Int))) : Nat) : Int))) then
          some ((0, ()), (([] : List Int), ()))
        else none
      else none
    else
      some ((0, ()), (([] : List Int), ()))

def L1_0 (d64v0 : Int → Option ((Nat × Unit) × ((List Int) × Unit))) (N : Nat) (q0_0 : List (List Int) → Int → Option (List Int)) : Nat → List (List Int) → Int → List (List Int) → Int → Int → Option (List Int)
  | 0, _, _, _, _, _ => none
  | n0 + 1, v1, v2, v3, v4, v5 =>
    bif (decide (v5 < v4)) then
      match geti v3 v5 with
      | none => none
      | some x6 =>
        bif (decide ((iadd .i64 v2 (((List.length x6) : Nat) : Int)) < (0 : Int))) then
          none
        else
          L1_0 d64v0 N q0_0 n0 v1 (iadd .i64 v2 (((List.length x6) : Nat) : Int)) v3 v4 (iadd .i64 v5 (1 : Int))
    else
      q0_0 v1 v2
def L1_1 (d64v0 : Int → Option ((Nat × Unit) × ((List Int) × Unit))) (N : Nat) (q1_2 : Nat → List Int → Option (List Int)) : Nat → Nat → List (List Int) → Int → Int → List Int → Option (List Int)
  | 0, _, _, _, _, _ => none
  | n1 + 1, v10, v11, v12, v13, v14 =>
    bif (decide (v13 < v12)) then
      match geti v11 v13 with
      | none => none
      | some x15 =>
        bif (((List.length v14) == (v10 * 1)) && ((decide (((v10 + (List.length x15)) * 1) ≤ 1099511627776)) && (decide ((v10 + (List.length x15)) ≤ 1099511627776)))) then
          L1_1 d64v0 N q1_2 n1 (v10 + (List.length x15)) v11 v12 (iadd .i64 v13 (1 : Int)) (v14 ++ x15)
        else none
    else
      q1_2 v10 v14
/-- slices.Concat[[]byte,byte] -/
def p1 (d64v0 : Int → Option ((Nat × Unit) × ((List Int) × Unit))) (N : Nat) (a0 : List (List Int)) : Option (List Int) :=
  L1_0 d64v0 N (fun (y7 : List (List Int)) (y8 : Int) =>
      match d64v0 y8 with
      | none => none
      | some r9 =>
        L1_1 d64v0 N (fun (y16 : Nat) (y17 : List Int) =>
            bif (y16 == (List.length y17)) then
              some y17
            else none) N r9.1.1 y7 (((List.length y7) : Nat) : Int) (0 : Int) r9.2.1) N a0 (0 : Int) a0 (((List.length a0) : Nat) : Int) (0 : Int)

def L48v0_0 (N : Nat) (q0_0 : List Int → Option ((Unit × Unit) × ((List Int) × Unit))) : Nat → Nat → Nat → Int → Int → List Int → Option ((Unit × Unit) × ((List Int) × Unit))
  | 0, _, _, _, _, _ => none
  | n0 + 1, v1, v2, v3, v4, v5 =>
    bif (decide (v3 < v4)) then
      bif ((decide ((0 : Int) ≤ v4)) && (decide (v4 < ((v1 : Nat) : Int)))) then
        match (v5)[(0 + ((Int.toNat v4) * 1))]? with
        | none => none
        | some x6 =>
          bif ((decide ((0 : Int) ≤ v3)) && (decide (v3 < ((v1 : Nat) : Int)))) then
            match (v5)[(0 + ((Int.toNat v3) * 1))]? with
            | none => none
            | some x7 =>
              bif ((decide ((0 : Int) ≤ v3)) && (decide (v3 < ((v1 : Nat) : Int)))) then
                bif (decide ((0 + ((Int.toNat v3) * 1)) < (List.length v5))) then
                  bif ((decide ((0 : Int) ≤ v4)) && (decide (v4 < ((v1 : Nat) : Int)))) then
                    bif (decide ((0 + ((Int.toNat v4) * 1)) < (List.length (List.set v5 (0 + ((Int.toNat v3) * 1)) x6)))) then
                      L48v0_0 N q0_0 n0 v1 v2 (iadd .i64 v3 (1 : Int)) (isub .i64 v4 (1 : Int)) (List.set (List.set v5 (0 + ((Int.toNat v3) * 1)) x6) (0 + ((Int.toNat v4) * 1)) x7)
                    else none
                  else none
                else none
              else none
          else none
      else none
    else
      q0_0 v5
/-- slices.Reverse[[]byte,byte] -/
def p48v0 (N : Nat) (a0 : Nat) (a1 : Nat) (a2 : List Int) : Option ((Unit × Unit) × ((List Int) × Unit)) :=
  L48v0_0 N (fun (y8 : List Int) =>
      some (((), ()), (y8, ()))) N a0 a1 (0 : Int) (isub .i64 ((a0 : Nat) : Int) (1 : Int)) a2

def L19_0 (d48v0 : Nat → Nat → List Int → Option ((Unit × Unit) × ((List Int) × Unit))) (N : Nat) (q0_0 : Bool → Nat → Nat → List Int → Option ((List Int) × Int)) : Nat → Int → Bool → Nat → Nat → Int → Int → List Int → Option ((List Int) × Int)
  | 0, _, _, _, _, _, _, _ => none
  | n0 + 1, v1, v2, v3, v4, v5, v6, v7 =>
    bif (decide (v6 < v5)) then
      bif (decide ((imul .i64 (8 : Int) v6) < (0 : Int))) then
        none
      else
        bif ((decide ((0 : Int) ≤ v6)) && (decide (v6 < ((v3 : Nat) : Int)))) then
          bif (decide ((0 + ((Int.toNat v6) * 1)) < (List.length v7))) then
            L19_0 d48v0 N q0_0 n0 v1 v2 v3 v4 v5 (iadd .i64 v6 (1 : Int)) (List.set v7 (0 + ((Int.toNat v6) * 1)) (IntKind.wrap .u8 (ishr .u64 v1 (imul .i64 (8 : Int) v6))))
          else none
        else none
    else
      q0_0 v2 v3 v4 v7
/-- euphroe/octs.Put -/
def p19 (d48v0 : Nat → Nat → List Int → Option ((Unit × Unit) × ((List Int) × Unit))) (N : Nat) (a0 : Int) (a1 : Int) (a2 : Bool) : Option ((List Int) × Int) :=
  bif (decide (a1 < (1 : Int))) then
    some (([] : List Int), (1 : Int))
  else
    bif (decide (a1 > (8 : Int))) then
      some (([] : List Int), (1 : Int))
    else
      bif ((decide ((0 : Int) ≤ a1)) && ((decide (a1 ≤ a1)) && ((decide ((a1 * ((1 : Nat) : Int)) ≤ (1099511627776 : Int))) && (decide (a1 ≤ (1099511627776 : Int)))))) then
        L19_0 d48v0 N (fun (y8 : Bool) (y9 : Nat) (y10 : Nat) (y11 : List Int) =>
            bif (!y8) then
              match d48v0 y9 y10 y11 with
              | none => none
              | some r12 =>
                bif (decide ((0 + (y9 * 1)) ≤ (List.length r12.2.1))) then
                  some ((List.take y9 (List.drop 0 r12.2.1)), (0 : Int))
                else none
            else
              bif (decide ((0 + (y9 * 1)) ≤ (List.length y11))) then
                some ((List.take y9 (List.drop 0 y11)), (0 : Int))
              else none) N a0 a2 (Int.toNat a1) (Int.toNat a1) (((Int.toNat a1) : Nat) : Int) (0 : Int) (List.replicate (Int.toNat a1) (0 : Int))
      else none

def L21_0 (N : Nat) (q0_0 : Int → Option (Int × Int)) : Nat → Bool → Int → List Int → Int → Int → Option (Int × Int)
  | 0, _, _, _, _, _ => none
  | n0 + 1, v1, v2, v3, v4, v5 =>
    bif (decide (v5 < v4)) then
      match geti v3 v5 with
      | none => none
      | some x6 =>
        bif v1 then
          bif (decide ((imul .i64 (8 : Int) v5) < (0 : Int))) then
            none
          else
            L21_0 N q0_0 n0 v1 (ior .u64 v2 (ishl .u64 (IntKind.wrap .u64 x6) (imul .i64 (8 : Int) v5))) v3 v4 (iadd .i64 v5 (1 : Int))
        else
          L21_0 N q0_0 n0 v1 (ior .u64 (ishl .u64 v2 (8 : Int)) (IntKind.wrap .u64 x6)) v3 v4 (iadd .i64 v5 (1 : Int))
    else
      q0_0 v2
/-- euphroe/octs.Get -/
def p21 (N : Nat) (a0 : List Int) (a1 : Bool) : Option (Int × Int) :=
  bif (decide ((((List.length a0) : Nat) : Int) < (1 : Int))) then
    some ((0 : Int), (1 : Int))
  else
    bif (decide ((((List.length a0) : Nat) : Int) > (8 : Int))) then
      some ((0 : Int), (1 : Int))
    else
      L21_0 N (fun (y7 : Int) =>
          some (y7, (0 : Int))) N a1 (0 : Int) a0 (((List.length a0) : Nat) : Int) (0 : Int)

def L23_0 (N : Nat) (q0_0 : Option Bool) : Nat → List Int → List Int → Int → Option Bool
  | 0, _, _, _ => none
  | n0 + 1, v1, v2, v3 =>
    bif (decide (v3 < (((List.length v1) : Nat) : Int))) then
      match geti v1 v3 with
      | none => none
      | some x4 =>
        match geti v2 v3 with
        | none => none
        | some x5 =>
          bif (x4 != x5) then
            some false
          else
            L23_0 N q0_0 n0 v1 v2 (iadd .i64 v3 (1 : Int))
    else
      q0_0
/-- euphroe/euphroeref01.Same -/
def p23 (N : Nat) (a0 : List Int) (a1 : List Int) : Option Bool :=
  bif ((((List.length a0) : Nat) : Int) != (((List.length a1) : Nat) : Int)) then
    some false
  else
    L23_0 N (
        some true) N a0 a1 (0 : Int)

/-- euphroe/octs.Join -/
def p46 (c1 : List (List Int) → Option (List Int)) (N : Nat) (a0 : List (List Int)) : Option (List Int) :=
  match c1 a0 with
  | none => none
  | some r1 =>
    bif ((List.length r1) == (List.length r1)) then
      some r1
    else none

/-- euphroe/roots.may -/
def p100 (N : Nat) (a0 : Int) (a1 : Int) (a2 : Int) : Option Bool :=
  bif (decide (a0 ≥ (0 : Int))) then
    bif (decide (a0 ≤ (1000 : Int))) then
      bif (a1 == (2 : Int)) then
        bif (decide (a2 ≥ (0 : Int))) then
          some (decide (a2 ≤ (32 : Int)))
        else
          some false
      else
        bif (a1 == (3 : Int)) then
          bif (decide (a2 ≥ (0 : Int))) then
            some (decide (a2 ≤ (32 : Int)))
          else
            some false
        else
          some false
    else
      some false
  else
    some false

/-- math/bits.Mul64 -/
def p120 (N : Nat) (a0 : Int) (a1 : Int) : Option (Int × Int) :=
  some ((iadd .u64 (iadd .u64 (imul .u64 (ishr .u64 a0 (32 : Int)) (ishr .u64 a1 (32 : Int))) (ishr .u64 (iadd .u64 (imul .u64 (ishr .u64 a0 (32 : Int)) (iand .u64 a1 (4294967295 : Int))) (ishr .u64 (imul .u64 (iand .u64 a0 (4294967295 : Int)) (iand .u64 a1 (4294967295 : Int))) (32 : Int))) (32 : Int))) (ishr .u64 (iadd .u64 (iand .u64 (iadd .u64 (imul .u64 (ishr .u64 a0 (32 : Int)) (iand .u64 a1 (4294967295 : Int))) (ishr .u64 (imul .u64 (iand .u64 a0 (4294967295 : Int)) (iand .u64 a1 (4294967295 : Int))) (32 : Int))) (4294967295 : Int)) (imul .u64 (iand .u64 a0 (4294967295 : Int)) (ishr .u64 a1 (32 : Int)))) (32 : Int))), (imul .u64 a0 a1))

/-- euphroe/roots.fits -/
def p116 (c120 : Int → Int → Option (Int × Int)) (N : Nat) (a0 : Int) (a1 : Int) (a2 : Int) : Option Bool :=
  match c120 a0 a0 with
  | none => none
  | some r1 =>
    bif (a2 == (2 : Int)) then
      bif (decide (r1.1 < a1)) then
        some true
      else
        bif (r1.1 == a1) then
          some (r1.2 == (0 : Int))
        else
          some false
    else
      match c120 r1.2 a0 with
      | none => none
      | some r2 =>
        bif (decide ((iadd .u64 (imul .u64 r1.1 a0) r2.1) < (ishl .u64 a1 (32 : Int)))) then
          some true
        else
          bif ((iadd .u64 (imul .u64 r1.1 a0) r2.1) == (ishl .u64 a1 (32 : Int))) then
            some (r2.2 == (0 : Int))
          else
            some false

/-- euphroe/roots.full$1 -/
def p115v0 (c116 : Int → Int → Int → Option Bool) (N : Nat) (a0 : Int) (a1 : List Int) (a2 : List Int) : Option ((Bool × Unit) × ((List Int) × ((List Int) × Unit))) :=
  match (a1)[0]? with
  | none => none
  | some x1 =>
    match (a2)[0]? with
    | none => none
    | some x2 =>
      match c116 (iadd .u64 (IntKind.wrap .u64 a0) (1 : Int)) (IntKind.wrap .u64 x1) x2 with
      | none => none
      | some r3 =>
        some (((!r3), ()), (a1, (a2, ())))

def L114v0_0 (d115v0 : Int → List Int → List Int → Option ((Bool × Unit) × ((List Int) × ((List Int) × Unit)))) (N : Nat) (q0_0 : Int → List Int → List Int → Option ((Int × Unit) × ((List Int) × ((List Int) × Unit)))) : Nat → Int → Int → List Int → List Int → Option ((Int × Unit) × ((List Int) × ((List Int) × Unit)))
  | 0, _, _, _, _ => none
  | n0 + 1, v1, v2, v3, v4 =>
    bif (decide (v1 < v2)) then
      match d115v0 (IntKind.wrap .i64 (ishr .u64 (IntKind.wrap .u64 (iadd .i64 v1 v2)) (1 : Int))) v3 v4 with
      | none => none
      | some r5 =>
        bif (!r5.1.1) then
          L114v0_0 d115v0 N q0_0 n0 (iadd .i64 (IntKind.wrap .i64 (ishr .u64 (IntKind.wrap .u64 (iadd .i64 v1 v2)) (1 : Int))) (1 : Int)) v2 r5.2.1 r5.2.2.1
        else
          L114v0_0 d115v0 N q0_0 n0 v1 (IntKind.wrap .i64 (ishr .u64 (IntKind.wrap .u64 (iadd .i64 v1 v2)) (1 : Int))) r5.2.1 r5.2.2.1
    else
      q0_0 v1 v3 v4
/-- sort.Search -/
def p114v0 (d115v0 : Int → List Int → List Int → Option ((Bool × Unit) × ((List Int) × ((List Int) × Unit)))) (N : Nat) (a0 : Int) (a1 : List Int) (a2 : List Int) : Option ((Int × Unit) × ((List Int) × ((List Int) × Unit))) :=
  L114v0_0 d115v0 N (fun (y6 : Int) (y7 : List Int) (y8 : List Int) =>
      some ((y6, ()), (y7, (y8, ())))) N (0 : Int) a0 a1 a2

/-- euphroe/roots.full -/
def p101 (d114v0 : Int → List Int → List Int → Option ((Int × Unit) × ((List Int) × ((List Int) × Unit)))) (N : Nat) (a0 : Int) (a1 : Int) : Option Int :=
  match d114v0 (274877906944 : Int) ([a0] : List Int) ([a1] : List Int) with
  | none => none
  | some r1 =>
    some (IntKind.wrap .u64 r1.1.1)

/-- euphroe/roots.Root -/
def p75 (c100 : Int → Int → Int → Option Bool) (c101 : Int → Int → Option Int) (N : Nat) (a0 : Int) (a1 : Int) (a2 : Int) : Option (Int × Int) :=
  match c100 a0 a1 a2 with
  | none => none
  | some r1 =>
    bif (!r1) then
      some ((0 : Int), (1 : Int))
    else
      match c101 a0 a1 with
      | none => none
      | some r2 =>
        bif (decide ((isub .i64 (32 : Int) a2) < (0 : Int))) then
          none
        else
          some ((ishr .u64 r2 (isub .i64 (32 : Int) a2)), (0 : Int))

def L192_0 (c21 : List Int → Bool → Option (Int × Int)) (N : Nat) (q0_0 : List Int → List Int → Option (List Int)) : Nat → Int → List Int → List Int → List Int → Option (List Int)
  | 0, _, _, _, _ => none
  | n0 + 1, v1, v2, v3, v4 =>
    bif (decide (v1 < (16 : Int))) then
      bif (decide (64 ≤ (List.length v2))) then
        bif ((decide ((0 : Int) ≤ (iadd .i64 (imul .i64 (4 : Int) v1) (4 : Int)))) && (decide ((iadd .i64 (imul .i64 (4 : Int) v1) (4 : Int)) ≤ (64 : Int)))) then
          bif ((decide ((0 : Int) ≤ (imul .i64 (4 : Int) v1))) && (decide ((imul .i64 (4 : Int) v1) ≤ (((Int.toNat (iadd .i64 (imul .i64 (4 : Int) v1) (4 : Int))) : Nat) : Int)))) then
            bif (decide (((0 + ((Int.toNat (imul .i64 (4 : Int) v1)) * 1)) + (((Int.toNat (iadd .i64 (imul .i64 (4 : Int) v1) (4 : Int))) - (Int.toNat (imul .i64 (4 : Int) v1))) * 1)) ≤ (List.length v2))) then
              match c21 (List.take ((Int.toNat (iadd .i64 (imul .i64 (4 : Int) v1) (4 : Int))) - (Int.toNat (imul .i64 (4 : Int) v1))) (List.drop (0 + ((Int.toNat (imul .i64 (4 : Int) v1)) * 1)) v2)) true with
              | none => none
              | some r5 =>
                bif ((decide ((0 : Int) ≤ v1)) && (decide (v1 < (16 : Int)))) then
                  bif (decide ((0 + ((Int.toNat v1) * 1)) < (List.length v4))) then
                    L192_0 c21 N q0_0 n0 (iadd .i64 v1 (1 : Int)) v2 v3 (List.set v4 (0 + ((Int.toNat v1) * 1)) (IntKind.wrap .u32 r5.1))
                  else none
                else none
            else none
          else none
        else none
      else none
    else
      q0_0 v3 v4
/-- euphroe/md4.words -/
def p192 (c21 : List Int → Bool → Option (Int × Int)) (N : Nat) (a0 : List Int) : Option (List Int) :=
  L192_0 c21 N (fun (y6 : List Int) (y7 : List Int) =>
      bif (decide (16 ≤ (List.length y7))) then
        bif ((List.length (List.take 16 (List.drop 0 y7))) == 16) then
          bif (decide ((0 + (List.length (List.take 16 (List.drop 0 y7)))) ≤ (List.length y6))) then
            bif (decide (16 ≤ (List.length (((List.take 0 y6) ++ (List.take 16 (List.drop 0 y7))) ++ (List.drop (0 + (List.length (List.take 16 (List.drop 0 y7)))) y6))))) then
              some (List.take 16 (List.drop 0 (((List.take 0 y6) ++ (List.take 16 (List.drop 0 y7))) ++ (List.drop (0 + (List.length (List.take 16 (List.drop 0 y7)))) y6))))
            else none
          else none
        else none
      else none) N (0 : Int) a0 ([(0 : Int), (0 : Int), (0 : Int), (0 : Int), (0 : Int), (0 : Int), (0 : Int), (0 : Int), (0 : Int), (0 : Int), (0 : Int), (0 : Int), (0 : Int), (0 : Int), (0 : Int), (0 : Int)] : List Int) ([(0 : Int), (0 : Int), (0 : Int), (0 : Int), (0 : Int), (0 : Int), (0 : Int), (0 : Int), (0 : Int), (0 : Int), (0 : Int), (0 : Int), (0 : Int), (0 : Int), (0 : Int), (0 : Int)] : List Int)

/-- euphroe/md4.plans -/
def p193v0 (c75 : Int → Int → Int → Option (Int × Int)) (N : Nat)  : Option (((Int × (Int × (Int × (Int × (Int × (Int × (Int × (Int × (Int × (Int × (Int × (Int × (Int × (Int × (Int × (Int × (Int × (Int × (Int × (Int × (Int × (Int × (Int × (Int × (Int × (Int × (Int × (Int × (Int × (Int × (Int × (Int × (Int × (Int × (Int × (Int × (Int × (Int × (Int × (Int × (Int × (Int × (Int × (Int × (Int × (Int × (Int × (Int × (Int × (Int × (Int × (Int × (Int × (Int × (Int × (Int × (Int × (Int × (Int × (Int × (Int × (Int × (Int × Unit))))))))))))))))))))))))))))))))))))))))))))))))))))))))))))))) × Unit) × Unit) :=
  match c75 (2 : Int) (2 : Int) (30 : Int) with
  | none => none
  | some r1 =>
    match c75 (3 : Int) (2 : Int) (30 : Int) with
    | none => none
    | some r2 =>
      some ((((0 : Int), ((3 : Int), ((7 : Int), ((11 : Int), ((19 : Int), ((0 : Int), ((1 : Int), ((2 : Int), ((3 : Int), ((4 : Int), ((5 : Int), ((6 : Int), ((7 : Int), ((8 : Int), ((9 : Int), ((10 : Int), ((11 : Int), ((12 : Int), ((13 : Int), ((14 : Int), ((15 : Int), ((IntKind.wrap .u32 r1.1), ((3 : Int), ((5 : Int), ((9 : Int), ((13 : Int), ((0 : Int), ((4 : Int), ((8 : Int), ((12 : Int), ((1 : Int), ((5 : Int), ((9 : Int), ((13 : Int), ((2 : Int), ((6 : Int), ((10 : Int), ((14 : Int), ((3 : Int), ((7 : Int), ((11 : Int), ((15 : Int), ((IntKind.wrap .u32 r2.1), ((3 : Int), ((9 : Int), ((11 : Int), ((15 : Int), ((0 : Int), ((8 : Int), ((4 : Int), ((12 : Int), ((2 : Int), ((10 : Int), ((6 : Int), ((14 : Int), ((1 : Int), ((9 : Int), ((5 : Int), ((13 : Int), ((3 : Int), ((11 : Int), ((7 : Int), ((15 : Int), ()))))))))))))))))))))))))))))))))))))))))))))))))))))))))))))))), ()), ())

/-- euphroe/md4.mix -/
def p194 (N : Nat) (a0 : Int) (a1 : Int) (a2 : Int) (a3 : Int) : Option Int :=
  bif (a0 == (0 : Int)) then
    some (ixor .u32 a3 (iand .u32 a1 (ixor .u32 a2 a3)))
  else
    bif (a0 == (1 : Int)) then
      some (ior .u32 (iand .u32 a1 a2) (iand .u32 a3 (ior .u32 a1 a2)))
    else
      some (ixor .u32 (ixor .u32 a1 a2) a3)

/-- math/bits.RotateLeft32 -/
def p195 (N : Nat) (a0 : Int) (a1 : Int) : Option Int :=
  bif (decide ((iand .u64 (IntKind.wrap .u64 a1) (31 : Int)) < (0 : Int))) then
    none
  else
    bif (decide ((isub .u64 (32 : Int) (iand .u64 (IntKind.wrap .u64 a1) (31 : Int))) < (0 : Int))) then
      none
    else
      some (ior .u32 (ishl .u32 a0 (iand .u64 (IntKind.wrap .u64 a1) (31 : Int))) (ishr .u32 a0 (isub .u64 (32 : Int) (iand .u64 (IntKind.wrap .u64 a1) (31 : Int)))))

def L174_1 (c192 : List Int → Option (List Int)) (d193v0 : Option (((Int × (Int × (Int × (Int × (Int × (Int × (Int × (Int × (Int × (Int × (Int × (Int × (Int × (Int × (Int × (Int × (Int × (Int × (Int × (Int × (Int × (Int × (Int × (Int × (Int × (Int × (Int × (Int × (Int × (Int × (Int × (Int × (Int × (Int × (Int × (Int × (Int × (Int × (Int × (Int × (Int × (Int × (Int × (Int × (Int × (Int × (Int × (Int × (Int × (Int × (Int × (Int × (Int × (Int × (Int × (Int × (Int × (Int × (Int × (Int × (Int × (Int × (Int × Unit))))))))))))))))))))))))))))))))))))))))))))))))))))))))))))))) × Unit) × Unit)) (c194 : Int → Int → Int → Int → Option Int) (c195 : Int → Int → Option Int) (N : Nat) (q1_2 : Int → Int → Int → Int → Int → Int → Int → Int → Int → Int → Int → Int → Int → Int → Int → Int → Int → Int → Int → Int → Int → Int → Int → Int → Int → Int → Int → Int → Int → Int → Int → Int → Int → Int → Int → Int → Int → Int → Int → Int → Int → Int → Int → Int → Int → Int → Int → Int → Int → Int → Int → Int → Int → Int → Int → Int → Int → Int → Int → Int → Int → Int → Int → Int → List Int → List Int → List Int → List Int → Option (List Int)) : Nat → Int → Int → Int → Int → Int → Int → Int → Int → Int → Int → Int → Int → Int → Int → Int → Int → Int → Int → Int → Int → Int → Int → Int → Int → Int → Int → Int → Int → Int → Int → Int → Int → Int → Int → Int → Int → Int → Int → Int → Int → Int → Int → Int → Int → Int → Int → Int → Int → Int → Int → Int → Int → Int → Int → Int → Int → Int → Int → Int → Int → Int → Int → Int → Int → Int → List Int → Int → List Int → List Int → List Int → List Int → Int → Int → Int → Int → Int → Int → Int → Int → Int → Int → Int → Int → Int → Int → Int → Int → Int → Int → Int → Int → Int → Option (List Int)
  | 0, _, _, _, _, _, _, _, _, _, _, _, _, _, _, _, _, _, _, _, _, _, _, _, _, _, _, _, _, _, _, _, _, _, _, _, _, _, _, _, _, _, _, _, _, _, _, _, _, _, _, _, _, _, _, _, _, _, _, _, _, _, _, _, _, _, _, _, _, _, _, _, _, _, _, _, _, _, _, _, _, _, _, _, _, _, _, _, _, _, _, _, _ => none
  | n1 + 1, v71, v72, v73, v74, v75, v76, v77, v78, v79, v80, v81, v82, v83, v84, v85, v86, v87, v88, v89, v90, v91, v92, v93, v94, v95, v96, v97, v98, v99, v100, v101, v102, v103, v104, v105, v106, v107, v108, v109, v110, v111, v112, v113, v114, v115, v116, v117, v118, v119, v120, v121, v122, v123, v124, v125, v126, v127, v128, v129, v130, v131, v132, v133, v134, v135, v136, v137, v138, v139, v140, v141, v142, v143, v144, v145, v146, v147, v148, v149, v150, v151, v152, v153, v154, v155, v156, v157, v158, v159, v160, v161, v162 =>
    bif (decide (v137 < (16 : Int))) then
      bif ((decide ((0 : Int) ≤ v137)) && (decide (v137 < (16 : Int)))) then
        match (v136)[((Int.toNat v137) * 1)]? with
        | none => none
        | some x163 =>
          match (v141)[0]? with
          | none => none
          | some x164 =>
            match (v141)[1]? with
            | none => none
            | some x165 =>
              match (v141)[2]? with
              | none => none
              | some x166 =>
                match (v141)[3]? with
                | none => none
                | some x167 =>
                  match c194 v71 x165 x166 x167 with
                  | none => none
                  | some r168 =>
                    bif ((decide ((0 : Int) ≤ x163)) && (decide (x163 < (16 : Int)))) then
                      match (v140)[(0 + ((Int.toNat x163) * 1))]? with
                      | none => none
                      | some x169 =>
                        match (v141)[3]? with
                        | none => none
                        | some x170 =>
                          bif ((decide ((0 : Int) ≤ (irem v137 (4 : Int)))) && (decide ((irem v137 (4 : Int)) < (4 : Int)))) then
                            bif (Nat.beq (1 + ((Int.toNat (irem v137 (4 : Int))) * 1)) 0) then
                              none
                            else
                              bif (Nat.beq (1 + ((Int.toNat (irem v137 (4 : Int))) * 1)) 1) then
                                match c195 (iadd .u32 (iadd .u32 (iadd .u32 x164 r168) x169) v142) v143 with
                                | none => none
                                | some r171 =>
                                  match (v141)[1]? with
                                  | none => none
                                  | some x172 =>
                                    match (v141)[2]? with
                                    | none => none
                                    | some x173 =>
                                      bif (decide (4 ≤ (List.length v141))) then
                                        L174_1 c192 d193v0 c194 c195 N q1_2 n1 v71 v72 v73 v74 v75 v76 v77 v78 v79 v80 v81 v82 v83 v84 v85 v86 v87 v88 v89 v90 v91 v92 v93 v94 v95 v96 v97 v98 v99 v100 v101 v102 v103 v104 v105 v106 v107 v108 v109 v110 v111 v112 v113 v114 v115 v116 v117 v118 v119 v120 v121 v122 v123 v124 v125 v126 v127 v128 v129 v130 v131 v132 v133 v134 v135 v136 (iadd .i64 v137 (1 : Int)) v138 v139 v140 (((List.take 0 v141) ++ [x170, r171, x172, x173]) ++ (List.drop 4 v141)) v142 v143 v144 v145 v146 v147 v148 v149 v150 v151 v152 v153 v154 v155 v156 v157 v158 v159 v160 v161 v162
                                      else none
                              else
                                bif (Nat.beq (1 + ((Int.toNat (irem v137 (4 : Int))) * 1)) 2) then
                                  match c195 (iadd .u32 (iadd .u32 (iadd .u32 x164 r168) x169) v142) v144 with
                                  | none => none
                                  | some r174 =>
                                    match (v141)[1]? with
                                    | none => none
                                    | some x175 =>
                                      match (v141)[2]? with
                                      | none => none
                                      | some x176 =>
                                        bif (decide (4 ≤ (List.length v141))) then
                                          L174_1 c192 d193v0 c194 c195 N q1_2 n1 v71 v72 v73 v74 v75 v76 v77 v78 v79 v80 v81 v82 v83 v84 v85 v86 v87 v88 v89 v90 v91 v92 v93 v94 v95 v96 v97 v98 v99 v100 v101 v102 v103 v104 v105 v106 v107 v108 v109 v110 v111 v112 v113 v114 v115 v116 v117 v118 v119 v120 v121 v122 v123 v124 v125 v126 v127 v128 v129 v130 v131 v132 v133 v134 v135 v136 (iadd .i64 v137 (1 : Int)) v138 v139 v140 (((List.take 0 v141) ++ [x170, r174, x175, x176]) ++ (List.drop 4 v141)) v142 v143 v144 v145 v146 v147 v148 v149 v150 v151 v152 v153 v154 v155 v156 v157 v158 v159 v160 v161 v162
                                        else none
                                else
                                  bif (Nat.beq (1 + ((Int.toNat (irem v137 (4 : Int))) * 1)) 3) then
                                    match c195 (iadd .u32 (iadd .u32 (iadd .u32 x164 r168) x169) v142) v145 with
                                    | none => none
                                    | some r177 =>
                                      match (v141)[1]? with
                                      | none => none
                                      | some x178 =>
                                        match (v141)[2]? with
                                        | none => none
                                        | some x179 =>
                                          bif (decide (4 ≤ (List.length v141))) then
                                            L174_1 c192 d193v0 c194 c195 N q1_2 n1 v71 v72 v73 v74 v75 v76 v77 v78 v79 v80 v81 v82 v83 v84 v85 v86 v87 v88 v89 v90 v91 v92 v93 v94 v95 v96 v97 v98 v99 v100 v101 v102 v103 v104 v105 v106 v107 v108 v109 v110 v111 v112 v113 v114 v115 v116 v117 v118 v119 v120 v121 v122 v123 v124 v125 v126 v127 v128 v129 v130 v131 v132 v133 v134 v135 v136 (iadd .i64 v137 (1 : Int)) v138 v139 v140 (((List.take 0 v141) ++ [x170, r177, x178, x179]) ++ (List.drop 4 v141)) v142 v143 v144 v145 v146 v147 v148 v149 v150 v151 v152 v153 v154 v155 v156 v157 v158 v159 v160 v161 v162
                                          else none
                                  else
                                    bif (Nat.beq (1 + ((Int.toNat (irem v137 (4 : Int))) * 1)) 4) then
                                      match c195 (iadd .u32 (iadd .u32 (iadd .u32 x164 r168) x169) v142) v146 with
                                      | none => none
                                      | some r180 =>
                                        match (v141)[1]? with
                                        | none => none
                                        | some x181 =>
                                          match (v141)[2]? with
                                          | none => none
                                          | some x182 =>
                                            bif (decide (4 ≤ (List.length v141))) then
                                              L174_1 c192 d193v0 c194 c195 N q1_2 n1 v71 v72 v73 v74 v75 v76 v77 v78 v79 v80 v81 v82 v83 v84 v85 v86 v87 v88 v89 v90 v91 v92 v93 v94 v95 v96 v97 v98 v99 v100 v101 v102 v103 v104 v105 v106 v107 v108 v109 v110 v111 v112 v113 v114 v115 v116 v117 v118 v119 v120 v121 v122 v123 v124 v125 v126 v127 v128 v129 v130 v131 v132 v133 v134 v135 v136 (iadd .i64 v137 (1 : Int)) v138 v139 v140 (((List.take 0 v141) ++ [x170, r180, x181, x182]) ++ (List.drop 4 v141)) v142 v143 v144 v145 v146 v147 v148 v149 v150 v151 v152 v153 v154 v155 v156 v157 v158 v159 v160 v161 v162
                                            else none
                                    else
                                      bif (Nat.beq (1 + ((Int.toNat (irem v137 (4 : Int))) * 1)) 5) then
                                        match c195 (iadd .u32 (iadd .u32 (iadd .u32 x164 r168) x169) v142) v147 with
                                        | none => none
                                        | some r183 =>
                                          match (v141)[1]? with
                                          | none => none
                                          | some x184 =>
                                            match (v141)[2]? with
                                            | none => none
                                            | some x185 =>
                                              bif (decide (4 ≤ (List.length v141))) then
                                                L174_1 c192 d193v0 c194 c195 N q1_2 n1 v71 v72 v73 v74 v75 v76 v77 v78 v79 v80 v81 v82 v83 v84 v85 v86 v87 v88 v89 v90 v91 v92 v93 v94 v95 v96 v97 v98 v99 v100 v101 v102 v103 v104 v105 v106 v107 v108 v109 v110 v111 v112 v113 v114 v115 v116 v117 v118 v119 v120 v121 v122 v123 v124 v125 v126 v127 v128 v129 v130 v131 v132 v133 v134 v135 v136 (iadd .i64 v137 (1 : Int)) v138 v139 v140 (((List.take 0 v141) ++ [x170, r183, x184, x185]) ++ (List.drop 4 v141)) v142 v143 v144 v145 v146 v147 v148 v149 v150 v151 v152 v153 v154 v155 v156 v157 v158 v159 v160 v161 v162
                                              else none
                                      else
                                        bif (Nat.beq (1 + ((Int.toNat (irem v137 (4 : Int))) * 1)) 6) then
                                          match c195 (iadd .u32 (iadd .u32 (iadd .u32 x164 r168) x169) v142) v148 with
                                          | none => none
                                          | some r186 =>
                                            match (v141)[1]? with
                                            | none => none
                                            | some x187 =>
                                              match (v141)[2]? with
                                              | none => none
                                              | some x188 =>
                                                bif (decide (4 ≤ (List.length v141))) then
                                                  L174_1 c192 d193v0 c194 c195 N q1_2 n1 v71 v72 v73 v74 v75 v76 v77 v78 v79 v80 v81 v82 v83 v84 v85 v86 v87 v88 v89 v90 v91 v92 v93 v94 v95 v96 v97 v98 v99 v100 v101 v102 v103 v104 v105 v106 v107 v108 v109 v110 v111 v112 v113 v114 v115 v116 v117 v118 v119 v120 v121 v122 v123 v124 v125 v126 v127 v128 v129 v130 v131 v132 v133 v134 v135 v136 (iadd .i64 v137 (1 : Int)) v138 v139 v140 (((List.take 0 v141) ++ [x170, r186, x187, x188]) ++ (List.drop 4 v141)) v142 v143 v144 v145 v146 v147 v148 v149 v150 v151 v152 v153 v154 v155 v156 v157 v158 v159 v160 v161 v162
                                                else none
                                        else
                                          bif (Nat.beq (1 + ((Int.toNat (irem v137 (4 : Int))) * 1)) 7) then
                                            match c195 (iadd .u32 (iadd .u32 (iadd .u32 x164 r168) x169) v142) v149 with
                                            | none => none
                                            | some r189 =>
                                              match (v141)[1]? with
                                              | none => none
                                              | some x190 =>
                                                match (v141)[2]? with
                                                | none => none
                                                | some x191 =>
                                                  bif (decide (4 ≤ (List.length v141))) then
                                                    L174_1 c192 d193v0 c194 c195 N q1_2 n1 v71 v72 v73 v74 v75 v76 v77 v78 v79 v80 v81 v82 v83 v84 v85 v86 v87 v88 v89 v90 v91 v92 v93 v94 v95 v96 v97 v98 v99 v100 v101 v102 v103 v104 v105 v106 v107 v108 v109 v110 v111 v112 v113 v114 v115 v116 v117 v118 v119 v120 v121 v122 v123 v124 v125 v126 v127 v128 v129 v130 v131 v132 v133 v134 v135 v136 (iadd .i64 v137 (1 : Int)) v138 v139 v140 (((List.take 0 v141) ++ [x170, r189, x190, x191]) ++ (List.drop 4 v141)) v142 v143 v144 v145 v146 v147 v148 v149 v150 v151 v152 v153 v154 v155 v156 v157 v158 v159 v160 v161 v162
                                                  else none
                                          else
                                            bif (Nat.beq (1 + ((Int.toNat (irem v137 (4 : Int))) * 1)) 8) then
                                              match c195 (iadd .u32 (iadd .u32 (iadd .u32 x164 r168) x169) v142) v150 with
                                              | none => none
                                              | some r192 =>
                                                match (v141)[1]? with
                                                | none => none
                                                | some x193 =>
                                                  match (v141)[2]? with
                                                  | none => none
                                                  | some x194 =>
                                                    bif (decide (4 ≤ (List.length v141))) then
                                                      L174_1 c192 d193v0 c194 c195 N q1_2 n1 v71 v72 v73 v74 v75 v76 v77 v78 v79 v80 v81 v82 v83 v84 v85 v86 v87 v88 v89 v90 v91 v92 v93 v94 v95 v96 v97 v98 v99 v100 v101 v102 v103 v104 v105 v106 v107 v108 v109 v110 v111 v112 v113 v114 v115 v116 v117 v118 v119 v120 v121 v122 v123 v124 v125 v126 v127 v128 v129 v130 v131 v132 v133 v134 v135 v136 (iadd .i64 v137 (1 : Int)) v138 v139 v140 (((List.take 0 v141) ++ [x170, r192, x193, x194]) ++ (List.drop 4 v141)) v142 v143 v144 v145 v146 v147 v148 v149 v150 v151 v152 v153 v154 v155 v156 v157 v158 v159 v160 v161 v162
                                                    else none
                                            else
                                              bif (Nat.beq (1 + ((Int.toNat (irem v137 (4 : Int))) * 1)) 9) then
                                                match c195 (iadd .u32 (iadd .u32 (iadd .u32 x164 r168) x169) v142) v151 with
                                                | none => none
                                                | some r195 =>
                                                  match (v141)[1]? with
                                                  | none => none
                                                  | some x196 =>
                                                    match (v141)[2]? with
                                                    | none => none
                                                    | some x197 =>
                                                      bif (decide (4 ≤ (List.length v141))) then
                                                        L174_1 c192 d193v0 c194 c195 N q1_2 n1 v71 v72 v73 v74 v75 v76 v77 v78 v79 v80 v81 v82 v83 v84 v85 v86 v87 v88 v89 v90 v91 v92 v93 v94 v95 v96 v97 v98 v99 v100 v101 v102 v103 v104 v105 v106 v107 v108 v109 v110 v111 v112 v113 v114 v115 v116 v117 v118 v119 v120 v121 v122 v123 v124 v125 v126 v127 v128 v129 v130 v131 v132 v133 v134 v135 v136 (iadd .i64 v137 (1 : Int)) v138 v139 v140 (((List.take 0 v141) ++ [x170, r195, x196, x197]) ++ (List.drop 4 v141)) v142 v143 v144 v145 v146 v147 v148 v149 v150 v151 v152 v153 v154 v155 v156 v157 v158 v159 v160 v161 v162
                                                      else none
                                              else
                                                bif (Nat.beq (1 + ((Int.toNat (irem v137 (4 : Int))) * 1)) 10) then
                                                  match c195 (iadd .u32 (iadd .u32 (iadd .u32 x164 r168) x169) v142) v152 with
                                                  | none => none
                                                  | some r198 =>
                                                    match (v141)[1]? with
                                                    | none => none
                                                    | some x199 =>
                                                      match (v141)[2]? with
                                                      | none => none
                                                      | some x200 =>
                                                        bif (decide (4 ≤ (List.length v141))) then
                                                          L174_1 c192 d193v0 c194 c195 N q1_2 n1 v71 v72 v73 v74 v75 v76 v77 v78 v79 v80 v81 v82 v83 v84 v85 v86 v87 v88 v89 v90 v91 v92 v93 v94 v95 v96 v97 v98 v99 v100 v101 v102 v103 v104 v105 v106 v107 v108 v109 v110 v111 v112 v113 v114 v115 v116 v117 v118 v119 v120 v121 v122 v123 v124 v125 v126 v127 v128 v129 v130 v131 v132 v133 v134 v135 v136 (iadd .i64 v137 (1 : Int)) v138 v139 v140 (((List.take 0 v141) ++ [x170, r198, x199, x200]) ++ (List.drop 4 v141)) v142 v143 v144 v145 v146 v147 v148 v149 v150 v151 v152 v153 v154 v155 v156 v157 v158 v159 v160 v161 v162
                                                        else none
                                                else
                                                  bif (Nat.beq (1 + ((Int.toNat (irem v137 (4 : Int))) * 1)) 11) then
                                                    match c195 (iadd .u32 (iadd .u32 (iadd .u32 x164 r168) x169) v142) v153 with
                                                    | none => none
                                                    | some r201 =>
                                                      match (v141)[1]? with
                                                      | none => none
                                                      | some x202 =>
                                                        match (v141)[2]? with
                                                        | none => none
                                                        | some x203 =>
                                                          bif (decide (4 ≤ (List.length v141))) then
                                                            L174_1 c192 d193v0 c194 c195 N q1_2 n1 v71 v72 v73 v74 v75 v76 v77 v78 v79 v80 v81 v82 v83 v84 v85 v86 v87 v88 v89 v90 v91 v92 v93 v94 v95 v96 v97 v98 v99 v100 v101 v102 v103 v104 v105 v106 v107 v108 v109 v110 v111 v112 v113 v114 v115 v116 v117 v118 v119 v120 v121 v122 v123 v124 v125 v126 v127 v128 v129 v130 v131 v132 v133 v134 v135 v136 (iadd .i64 v137 (1 : Int)) v138 v139 v140 (((List.take 0 v141) ++ [x170, r201, x202, x203]) ++ (List.drop 4 v141)) v142 v143 v144 v145 v146 v147 v148 v149 v150 v151 v152 v153 v154 v155 v156 v157 v158 v159 v160 v161 v162
                                                          else none
                                                  else
                                                    bif (Nat.beq (1 + ((Int.toNat (irem v137 (4 : Int))) * 1)) 12) then
                                                      match c195 (iadd .u32 (iadd .u32 (iadd .u32 x164 r168) x169) v142) v154 with
                                                      | none => none
                                                      | some r204 =>
                                                        match (v141)[1]? with
                                                        | none => none
                                                        | some x205 =>
                                                          match (v141)[2]? with
                                                          | none => none
                                                          | some x206 =>
                                                            bif (decide (4 ≤ (List.length v141))) then
                                                              L174_1 c192 d193v0 c194 c195 N q1_2 n1 v71 v72 v73 v74 v75 v76 v77 v78 v79 v80 v81 v82 v83 v84 v85 v86 v87 v88 v89 v90 v91 v92 v93 v94 v95 v96 v97 v98 v99 v100 v101 v102 v103 v104 v105 v106 v107 v108 v109 v110 v111 v112 v113 v114 v115 v116 v117 v118 v119 v120 v121 v122 v123 v124 v125 v126 v127 v128 v129 v130 v131 v132 v133 v134 v135 v136 (iadd .i64 v137 (1 : Int)) v138 v139 v140 (((List.take 0 v141) ++ [x170, r204, x205, x206]) ++ (List.drop 4 v141)) v142 v143 v144 v145 v146 v147 v148 v149 v150 v151 v152 v153 v154 v155 v156 v157 v158 v159 v160 v161 v162
                                                            else none
                                                    else
                                                      bif (Nat.beq (1 + ((Int.toNat (irem v137 (4 : Int))) * 1)) 13) then
                                                        match c195 (iadd .u32 (iadd .u32 (iadd .u32 x164 r168) x169) v142) v155 with
                                                        | none => none
                                                        | some r207 =>
                                                          match (v141)[1]? with
                                                          | none => none
                                                          | some x208 =>
                                                            match (v141)[2]? with
                                                            | none => none
                                                            | some x209 =>
                                                              bif (decide (4 ≤ (List.length v141))) then
                                                                L174_1 c192 d193v0 c194 c195 N q1_2 n1 v71 v72 v73 v74 v75 v76 v77 v78 v79 v80 v81 v82 v83 v84 v85 v86 v87 v88 v89 v90 v91 v92 v93 v94 v95 v96 v97 v98 v99 v100 v101 v102 v103 v104 v105 v106 v107 v108 v109 v110 v111 v112 v113 v114 v115 v116 v117 v118 v119 v120 v121 v122 v123 v124 v125 v126 v127 v128 v129 v130 v131 v132 v133 v134 v135 v136 (iadd .i64 v137 (1 : Int)) v138 v139 v140 (((List.take 0 v141) ++ [x170, r207, x208, x209]) ++ (List.drop 4 v141)) v142 v143 v144 v145 v146 v147 v148 v149 v150 v151 v152 v153 v154 v155 v156 v157 v158 v159 v160 v161 v162
                                                              else none
                                                      else
                                                        bif (Nat.beq (1 + ((Int.toNat (irem v137 (4 : Int))) * 1)) 14) then
                                                          match c195 (iadd .u32 (iadd .u32 (iadd .u32 x164 r168) x169) v142) v156 with
                                                          | none => none
                                                          | some r210 =>
                                                            match (v141)[1]? with
                                                            | none => none
                                                            | some x211 =>
                                                              match (v141)[2]? with
                                                              | none => none
                                                              | some x212 =>
                                                                bif (decide (4 ≤ (List.length v141))) then
                                                                  L174_1 c192 d193v0 c194 c195 N q1_2 n1 v71 v72 v73 v74 v75 v76 v77 v78 v79 v80 v81 v82 v83 v84 v85 v86 v87 v88 v89 v90 v91 v92 v93 v94 v95 v96 v97 v98 v99 v100 v101 v102 v103 v104 v105 v106 v107 v108 v109 v110 v111 v112 v113 v114 v115 v116 v117 v118 v119 v120 v121 v122 v123 v124 v125 v126 v127 v128 v129 v130 v131 v132 v133 v134 v135 v136 (iadd .i64 v137 (1 : Int)) v138 v139 v140 (((List.take 0 v141) ++ [x170, r210, x211, x212]) ++ (List.drop 4 v141)) v142 v143 v144 v145 v146 v147 v148 v149 v150 v151 v152 v153 v154 v155 v156 v157 v158 v159 v160 v161 v162
                                                                else none
                                                        else
                                                          bif (Nat.beq (1 + ((Int.toNat (irem v137 (4 : Int))) * 1)) 15) then
                                                            match c195 (iadd .u32 (iadd .u32 (iadd .u32 x164 r168) x169) v142) v157 with
                                                            | none => none
                                                            | some r213 =>
                                                              match (v141)[1]? with
                                                              | none => none
                                                              | some x214 =>
                                                                match (v141)[2]? with
                                                                | none => none
                                                                | some x215 =>
                                                                  bif (decide (4 ≤ (List.length v141))) then
                                                                    L174_1 c192 d193v0 c194 c195 N q1_2 n1 v71 v72 v73 v74 v75 v76 v77 v78 v79 v80 v81 v82 v83 v84 v85 v86 v87 v88 v89 v90 v91 v92 v93 v94 v95 v96 v97 v98 v99 v100 v101 v102 v103 v104 v105 v106 v107 v108 v109 v110 v111 v112 v113 v114 v115 v116 v117 v118 v119 v120 v121 v122 v123 v124 v125 v126 v127 v128 v129 v130 v131 v132 v133 v134 v135 v136 (iadd .i64 v137 (1 : Int)) v138 v139 v140 (((List.take 0 v141) ++ [x170, r213, x214, x215]) ++ (List.drop 4 v141)) v142 v143 v144 v145 v146 v147 v148 v149 v150 v151 v152 v153 v154 v155 v156 v157 v158 v159 v160 v161 v162
                                                                  else none
                                                          else
                                                            bif (Nat.beq (1 + ((Int.toNat (irem v137 (4 : Int))) * 1)) 16) then
                                                              match c195 (iadd .u32 (iadd .u32 (iadd .u32 x164 r168) x169) v142) v158 with
                                                              | none => none
                                                              | some r216 =>
                                                                match (v141)[1]? with
                                                                | none => none
                                                                | some x217 =>
                                                                  match (v141)[2]? with
                                                                  | none => none
                                                                  | some x218 =>
                                                                    bif (decide (4 ≤ (List.length v141))) then
                                                                      L174_1 c192 d193v0 c194 c195 N q1_2 n1 v71 v72 v73 v74 v75 v76 v77 v78 v79 v80 v81 v82 v83 v84 v85 v86 v87 v88 v89 v90 v91 v92 v93 v94 v95 v96 v97 v98 v99 v100 v101 v102 v103 v104 v105 v106 v107 v108 v109 v110 v111 v112 v113 v114 v115 v116 v117 v118 v119 v120 v121 v122 v123 v124 v125 v126 v127 v128 v129 v130 v131 v132 v133 v134 v135 v136 (iadd .i64 v137 (1 : Int)) v138 v139 v140 (((List.take 0 v141) ++ [x170, r216, x217, x218]) ++ (List.drop 4 v141)) v142 v143 v144 v145 v146 v147 v148 v149 v150 v151 v152 v153 v154 v155 v156 v157 v158 v159 v160 v161 v162
                                                                    else none
                                                            else
                                                              bif (Nat.beq (1 + ((Int.toNat (irem v137 (4 : Int))) * 1)) 17) then
                                                                match c195 (iadd .u32 (iadd .u32 (iadd .u32 x164 r168) x169) v142) v159 with
                                                                | none => none
                                                                | some r219 =>
                                                                  match (v141)[1]? with
                                                                  | none => none
                                                                  | some x220 =>
                                                                    match (v141)[2]? with
                                                                    | none => none
                                                                    | some x221 =>
                                                                      bif (decide (4 ≤ (List.length v141))) then
                                                                        L174_1 c192 d193v0 c194 c195 N q1_2 n1 v71 v72 v73 v74 v75 v76 v77 v78 v79 v80 v81 v82 v83 v84 v85 v86 v87 v88 v89 v90 v91 v92 v93 v94 v95 v96 v97 v98 v99 v100 v101 v102 v103 v104 v105 v106 v107 v108 v109 v110 v111 v112 v113 v114 v115 v116 v117 v118 v119 v120 v121 v122 v123 v124 v125 v126 v127 v128 v129 v130 v131 v132 v133 v134 v135 v136 (iadd .i64 v137 (1 : Int)) v138 v139 v140 (((List.take 0 v141) ++ [x170, r219, x220, x221]) ++ (List.drop 4 v141)) v142 v143 v144 v145 v146 v147 v148 v149 v150 v151 v152 v153 v154 v155 v156 v157 v158 v159 v160 v161 v162
                                                                      else none
                                                              else
                                                                bif (Nat.beq (1 + ((Int.toNat (irem v137 (4 : Int))) * 1)) 18) then
                                                                  match c195 (iadd .u32 (iadd .u32 (iadd .u32 x164 r168) x169) v142) v160 with
                                                                  | none => none
                                                                  | some r222 =>
                                                                    match (v141)[1]? with
                                                                    | none => none
                                                                    | some x223 =>
                                                                      match (v141)[2]? with
                                                                      | none => none
                                                                      | some x224 =>
                                                                        bif (decide (4 ≤ (List.length v141))) then
                                                                          L174_1 c192 d193v0 c194 c195 N q1_2 n1 v71 v72 v73 v74 v75 v76 v77 v78 v79 v80 v81 v82 v83 v84 v85 v86 v87 v88 v89 v90 v91 v92 v93 v94 v95 v96 v97 v98 v99 v100 v101 v102 v103 v104 v105 v106 v107 v108 v109 v110 v111 v112 v113 v114 v115 v116 v117 v118 v119 v120 v121 v122 v123 v124 v125 v126 v127 v128 v129 v130 v131 v132 v133 v134 v135 v136 (iadd .i64 v137 (1 : Int)) v138 v139 v140 (((List.take 0 v141) ++ [x170, r222, x223, x224]) ++ (List.drop 4 v141)) v142 v143 v144 v145 v146 v147 v148 v149 v150 v151 v152 v153 v154 v155 v156 v157 v158 v159 v160 v161 v162
                                                                        else none
                                                                else
                                                                  bif (Nat.beq (1 + ((Int.toNat (irem v137 (4 : Int))) * 1)) 19) then
                                                                    match c195 (iadd .u32 (iadd .u32 (iadd .u32 x164 r168) x169) v142) v161 with
                                                                    | none => none
                                                                    | some r225 =>
                                                                      match (v141)[1]? with
                                                                      | none => none
                                                                      | some x226 =>
                                                                        match (v141)[2]? with
                                                                        | none => none
                                                                        | some x227 =>
                                                                          bif (decide (4 ≤ (List.length v141))) then
                                                                            L174_1 c192 d193v0 c194 c195 N q1_2 n1 v71 v72 v73 v74 v75 v76 v77 v78 v79 v80 v81 v82 v83 v84 v85 v86 v87 v88 v89 v90 v91 v92 v93 v94 v95 v96 v97 v98 v99 v100 v101 v102 v103 v104 v105 v106 v107 v108 v109 v110 v111 v112 v113 v114 v115 v116 v117 v118 v119 v120 v121 v122 v123 v124 v125 v126 v127 v128 v129 v130 v131 v132 v133 v134 v135 v136 (iadd .i64 v137 (1 : Int)) v138 v139 v140 (((List.take 0 v141) ++ [x170, r225, x226, x227]) ++ (List.drop 4 v141)) v142 v143 v144 v145 v146 v147 v148 v149 v150 v151 v152 v153 v154 v155 v156 v157 v158 v159 v160 v161 v162
                                                                          else none
                                                                  else
                                                                    bif (Nat.beq (1 + ((Int.toNat (irem v137 (4 : Int))) * 1)) 20) then
                                                                      match c195 (iadd .u32 (iadd .u32 (iadd .u32 x164 r168) x169) v142) v162 with
                                                                      | none => none
                                                                      | some r228 =>
                                                                        match (v141)[1]? with
                                                                        | none => none
                                                                        | some x229 =>
                                                                          match (v141)[2]? with
                                                                          | none => none
                                                                          | some x230 =>
                                                                            bif (decide (4 ≤ (List.length v141))) then
                                                                              L174_1 c192 d193v0 c194 c195 N q1_2 n1 v71 v72 v73 v74 v75 v76 v77 v78 v79 v80 v81 v82 v83 v84 v85 v86 v87 v88 v89 v90 v91 v92 v93 v94 v95 v96 v97 v98 v99 v100 v101 v102 v103 v104 v105 v106 v107 v108 v109 v110 v111 v112 v113 v114 v115 v116 v117 v118 v119 v120 v121 v122 v123 v124 v125 v126 v127 v128 v129 v130 v131 v132 v133 v134 v135 v136 (iadd .i64 v137 (1 : Int)) v138 v139 v140 (((List.take 0 v141) ++ [x170, r228, x229, x230]) ++ (List.drop 4 v141)) v142 v143 v144 v145 v146 v147 v148 v149 v150 v151 v152 v153 v154 v155 v156 v157 v158 v159 v160 v161 v162
                                                                            else none
                                                                    else none
                          else none
                    else none
      else none
    else
      q1_2 v72 v73 v74 v75 v76 v77 v78 v79 v80 v81 v82 v83 v84 v85 v86 v87 v88 v89 v90 v91 v92 v93 v94 v95 v96 v97 v98 v99 v100 v101 v102 v103 v104 v105 v106 v107 v108 v109 v110 v111 v112 v113 v114 v115 v116 v117 v118 v119 v120 v121 v122 v123 v124 v125 v126 v127 v128 v129 v130 v131 v132 v133 v134 v135 v138 v139 v140 v141
def L174_0 (c192 : List Int → Option (List Int)) (d193v0 : Option (((Int × (Int × (Int × (Int × (Int × (Int × (Int × (Int × (Int × (Int × (Int × (Int × (Int × (Int × (Int × (Int × (Int × (Int × (Int × (Int × (Int × (Int × (Int × (Int × (Int × (Int × (Int × (Int × (Int × (Int × (Int × (Int × (Int × (Int × (Int × (Int × (Int × (Int × (Int × (Int × (Int × (Int × (Int × (Int × (Int × (Int × (Int × (Int × (Int × (Int × (Int × (Int × (Int × (Int × (Int × (Int × (Int × (Int × (Int × (Int × (Int × (Int × (Int × Unit))))))))))))))))))))))))))))))))))))))))))))))))))))))))))))))) × Unit) × Unit)) (c194 : Int → Int → Int → Int → Option Int) (c195 : Int → Int → Option Int) (N : Nat) (q0_0 : List Int → List Int → List Int → Option (List Int)) : Nat → Int → Int → Int → Int → Int → Int → Int → Int → Int → Int → Int → Int → Int → Int → Int → Int → Int → Int → Int → Int → Int → Int → Int → Int → Int → Int → Int → Int → Int → Int → Int → Int → Int → Int → Int → Int → Int → Int → Int → Int → Int → Int → Int → Int → Int → Int → Int → Int → Int → Int → Int → Int → Int → Int → Int → Int → Int → Int → Int → Int → Int → Int → Int → Int → List Int → List Int → List Int → List Int → Option (List Int)
  | 0, _, _, _, _, _, _, _, _, _, _, _, _, _, _, _, _, _, _, _, _, _, _, _, _, _, _, _, _, _, _, _, _, _, _, _, _, _, _, _, _, _, _, _, _, _, _, _, _, _, _, _, _, _, _, _, _, _, _, _, _, _, _, _, _, _, _, _, _ => none
  | n0 + 1, v3, v4, v5, v6, v7, v8, v9, v10, v11, v12, v13, v14, v15, v16, v17, v18, v19, v20, v21, v22, v23, v24, v25, v26, v27, v28, v29, v30, v31, v32, v33, v34, v35, v36, v37, v38, v39, v40, v41, v42, v43, v44, v45, v46, v47, v48, v49, v50, v51, v52, v53, v54, v55, v56, v57, v58, v59, v60, v61, v62, v63, v64, v65, v66, v67, v68, v69, v70 =>
    bif (decide (v66 < (3 : Int))) then
      bif ((decide ((0 : Int) ≤ v66)) && (decide (v66 < (3 : Int)))) then
        bif (Nat.beq (Int.toNat v66) 0) then
          L174_1 c192 d193v0 c194 c195 N (fun (y231 : Int) (y232 : Int) (y233 : Int) (y234 : Int) (y235 : Int) (y236 : Int) (y237 : Int) (y238 : Int) (y239 : Int) (y240 : Int) (y241 : Int) (y242 : Int) (y243 : Int) (y244 : Int) (y245 : Int) (y246 : Int) (y247 : Int) (y248 : Int) (y249 : Int) (y250 : Int) (y251 : Int) (y252 : Int) (y253 : Int) (y254 : Int) (y255 : Int) (y256 : Int) (y257 : Int) (y258 : Int) (y259 : Int) (y260 : Int) (y261 : Int) (y262 : Int) (y263 : Int) (y264 : Int) (y265 : Int) (y266 : Int) (y267 : Int) (y268 : Int) (y269 : Int) (y270 : Int) (y271 : Int) (y272 : Int) (y273 : Int) (y274 : Int) (y275 : Int) (y276 : Int) (y277 : Int) (y278 : Int) (y279 : Int) (y280 : Int) (y281 : Int) (y282 : Int) (y283 : Int) (y284 : Int) (y285 : Int) (y286 : Int) (y287 : Int) (y288 : Int) (y289 : Int) (y290 : Int) (y291 : Int) (y292 : Int) (y293 : Int) (y294 : Int) (y295 : List Int) (y296 : List Int) (y297 : List Int) (y298 : List Int) =>
              L174_0 c192 d193v0 c194 c195 N q0_0 n0 y231 y232 y233 y234 y235 y236 y237 y238 y239 y240 y241 y242 y243 y244 y245 y246 y247 y248 y249 y250 y251 y252 y253 y254 y255 y256 y257 y258 y259 y260 y261 y262 y263 y264 y265 y266 y267 y268 y269 y270 y271 y272 y273 y274 y275 y276 y277 y278 y279 y280 y281 y282 y283 y284 y285 y286 y287 y288 y289 y290 y291 y292 y293 (iadd .i64 y294 (1 : Int)) y295 y296 y297 y298) N v66 v3 v4 v5 v6 v7 v8 v9 v10 v11 v12 v13 v14 v15 v16 v17 v18 v19 v20 v21 v22 v23 v24 v25 v26 v27 v28 v29 v30 v31 v32 v33 v34 v35 v36 v37 v38 v39 v40 v41 v42 v43 v44 v45 v46 v47 v48 v49 v50 v51 v52 v53 v54 v55 v56 v57 v58 v59 v60 v61 v62 v63 v64 v65 v66 ([v8, v9, v10, v11, v12, v13, v14, v15, v16, v17, v18, v19, v20, v21, v22, v23] : List Int) (0 : Int) v67 v68 v69 v70 v3 v4 v5 v6 v7 v8 v9 v10 v11 v12 v13 v14 v15 v16 v17 v18 v19 v20 v21 v22 v23
        else
          bif (Nat.beq (Int.toNat v66) 1) then
            L174_1 c192 d193v0 c194 c195 N (fun (y299 : Int) (y300 : Int) (y301 : Int) (y302 : Int) (y303 : Int) (y304 : Int) (y305 : Int) (y306 : Int) (y307 : Int) (y308 : Int) (y309 : Int) (y310 : Int) (y311 : Int) (y312 : Int) (y313 : Int) (y314 : Int) (y315 : Int) (y316 : Int) (y317 : Int) (y318 : Int) (y319 : Int) (y320 : Int) (y321 : Int) (y322 : Int) (y323 : Int) (y324 : Int) (y325 : Int) (y326 : Int) (y327 : Int) (y328 : Int) (y329 : Int) (y330 : Int) (y331 : Int) (y332 : Int) (y333 : Int) (y334 : Int) (y335 : Int) (y336 : Int) (y337 : Int) (y338 : Int) (y339 : Int) (y340 : Int) (y341 : Int) (y342 : Int) (y343 : Int) (y344 : Int) (y345 : Int) (y346 : Int) (y347 : Int) (y348 : Int) (y349 : Int) (y350 : Int) (y351 : Int) (y352 : Int) (y353 : Int) (y354 : Int) (y355 : Int) (y356 : Int) (y357 : Int) (y358 : Int) (y359 : Int) (y360 : Int) (y361 : Int) (y362 : Int) (y363 : List Int) (y364 : List Int) (y365 : List Int) (y366 : List Int) =>
                L174_0 c192 d193v0 c194 c195 N q0_0 n0 y299 y300 y301 y302 y303 y304 y305 y306 y307 y308 y309 y310 y311 y312 y313 y314 y315 y316 y317 y318 y319 y320 y321 y322 y323 y324 y325 y326 y327 y328 y329 y330 y331 y332 y333 y334 y335 y336 y337 y338 y339 y340 y341 y342 y343 y344 y345 y346 y347 y348 y349 y350 y351 y352 y353 y354 y355 y356 y357 y358 y359 y360 y361 (iadd .i64 y362 (1 : Int)) y363 y364 y365 y366) N v66 v3 v4 v5 v6 v7 v8 v9 v10 v11 v12 v13 v14 v15 v16 v17 v18 v19 v20 v21 v22 v23 v24 v25 v26 v27 v28 v29 v30 v31 v32 v33 v34 v35 v36 v37 v38 v39 v40 v41 v42 v43 v44 v45 v46 v47 v48 v49 v50 v51 v52 v53 v54 v55 v56 v57 v58 v59 v60 v61 v62 v63 v64 v65 v66 ([v29, v30, v31, v32, v33, v34, v35, v36, v37, v38, v39, v40, v41, v42, v43, v44] : List Int) (0 : Int) v67 v68 v69 v70 v24 v25 v26 v27 v28 v29 v30 v31 v32 v33 v34 v35 v36 v37 v38 v39 v40 v41 v42 v43 v44
          else
            bif (Nat.beq (Int.toNat v66) 2) then
              L174_1 c192 d193v0 c194 c195 N (fun (y367 : Int) (y368 : Int) (y369 : Int) (y370 : Int) (y371 : Int) (y372 : Int) (y373 : Int) (y374 : Int) (y375 : Int) (y376 : Int) (y377 : Int) (y378 : Int) (y379 : Int) (y380 : Int) (y381 : Int) (y382 : Int) (y383 : Int) (y384 : Int) (y385 : Int) (y386 : Int) (y387 : Int) (y388 : Int) (y389 : Int) (y390 : Int) (y391 : Int) (y392 : Int) (y393 : Int) (y394 : Int) (y395 : Int) (y396 : Int) (y397 : Int) (y398 : Int) (y399 : Int) (y400 : Int) (y401 : Int) (y402 : Int) (y403 : Int) (y404 : Int) (y405 : Int) (y406 : Int) (y407 : Int) (y408 : Int) (y409 : Int) (y410 : Int) (y411 : Int) (y412 : Int) (y413 : Int) (y414 : Int) (y415 : Int) (y416 : Int) (y417 : Int) (y418 : Int) (y419 : Int) (y420 : Int) (y421 : Int) (y422 : Int) (y423 : Int) (y424 : Int) (y425 : Int) (y426 : Int) (y427 : Int) (y428 : Int) (y429 : Int) (y430 : Int) (y431 : List Int) (y432 : List Int) (y433 : List Int) (y434 : List Int) =>
                  L174_0 c192 d193v0 c194 c195 N q0_0 n0 y367 y368 y369 y370 y371 y372 y373 y374 y375 y376 y377 y378 y379 y380 y381 y382 y383 y384 y385 y386 y387 y388 y389 y390 y391 y392 y393 y394 y395 y396 y397 y398 y399 y400 y401 y402 y403 y404 y405 y406 y407 y408 y409 y410 y411 y412 y413 y414 y415 y416 y417 y418 y419 y420 y421 y422 y423 y424 y425 y426 y427 y428 y429 (iadd .i64 y430 (1 : Int)) y431 y432 y433 y434) N v66 v3 v4 v5 v6 v7 v8 v9 v10 v11 v12 v13 v14 v15 v16 v17 v18 v19 v20 v21 v22 v23 v24 v25 v26 v27 v28 v29 v30 v31 v32 v33 v34 v35 v36 v37 v38 v39 v40 v41 v42 v43 v44 v45 v46 v47 v48 v49 v50 v51 v52 v53 v54 v55 v56 v57 v58 v59 v60 v61 v62 v63 v64 v65 v66 ([v50, v51, v52, v53, v54, v55, v56, v57, v58, v59, v60, v61, v62, v63, v64, v65] : List Int) (0 : Int) v67 v68 v69 v70 v45 v46 v47 v48 v49 v50 v51 v52 v53 v54 v55 v56 v57 v58 v59 v60 v61 v62 v63 v64 v65
            else none
      else none
    else
      q0_0 v67 v68 v70
def L174_2 (c192 : List Int → Option (List Int)) (d193v0 : Option (((Int × (Int × (Int × (Int × (Int × (Int × (Int × (Int × (Int × (Int × (Int × (Int × (Int × (Int × (Int × (Int × (Int × (Int × (Int × (Int × (Int × (Int × (Int × (Int × (Int × (Int × (Int × (Int × (Int × (Int × (Int × (Int × (Int × (Int × (Int × (Int × (Int × (Int × (Int × (Int × (Int × (Int × (Int × (Int × (Int × (Int × (Int × (Int × (Int × (Int × (Int × (Int × (Int × (Int × (Int × (Int × (Int × (Int × (Int × (Int × (Int × (Int × (Int × Unit))))))))))))))))))))))))))))))))))))))))))))))))))))))))))))))) × Unit) × Unit)) (c194 : Int → Int → Int → Int → Option Int) (c195 : Int → Int → Option Int) (N : Nat) (q2_4 : List Int → List Int → Option (List Int)) : Nat → Int → List Int → List Int → List Int → Option (List Int)
  | 0, _, _, _, _ => none
  | n2 + 1, v438, v439, v440, v441 =>
    bif (decide (v438 < (4 : Int))) then
      bif ((decide ((0 : Int) ≤ v438)) && (decide (v438 < (4 : Int)))) then
        match (v441)[(0 + ((Int.toNat v438) * 1))]? with
        | none => none
        | some x442 =>
          bif ((decide ((0 : Int) ≤ v438)) && (decide (v438 < (4 : Int)))) then
            match (v439)[(0 + ((Int.toNat v438) * 1))]? with
            | none => none
            | some x443 =>
              bif ((decide ((0 : Int) ≤ v438)) && (decide (v438 < (4 : Int)))) then
                bif (decide ((0 + ((Int.toNat v438) * 1)) < (List.length v441))) then
                  L174_2 c192 d193v0 c194 c195 N q2_4 n2 (iadd .i64 v438 (1 : Int)) v439 v440 (List.set v441 (0 + ((Int.toNat v438) * 1)) (iadd .u32 x442 x443))
                else none
              else none
          else none
      else none
    else
      q2_4 v440 v441
/-- euphroe/md4.Block -/
def p174 (c192 : List Int → Option (List Int)) (d193v0 : Option (((Int × (Int × (Int × (Int × (Int × (Int × (Int × (Int × (Int × (Int × (Int × (Int × (Int × (Int × (Int × (Int × (Int × (Int × (Int × (Int × (Int × (Int × (Int × (Int × (Int × (Int × (Int × (Int × (Int × (Int × (Int × (Int × (Int × (Int × (Int × (Int × (Int × (Int × (Int × (Int × (Int × (Int × (Int × (Int × (Int × (Int × (Int × (Int × (Int × (Int × (Int × (Int × (Int × (Int × (Int × (Int × (Int × (Int × (Int × (Int × (Int × (Int × (Int × Unit))))))))))))))))))))))))))))))))))))))))))))))))))))))))))))))) × Unit) × Unit)) (c194 : Int → Int → Int → Int → Option Int) (c195 : Int → Int → Option Int) (N : Nat) (a0 : List Int) (a1 : List Int) : Option (List Int) :=
  bif (decide (64 ≤ (List.length a1))) then
    match c192 (List.take 64 (List.drop 0 a1)) with
    | none => none
    | some r1 =>
      bif ((List.length r1) == 16) then
        bif (decide ((0 + (List.length r1)) ≤ 16)) then
          bif (decide (4 ≤ (List.length a0))) then
            bif ((List.length (List.take 4 (List.drop 0 a0))) == 4) then
              bif (decide ((0 + (List.length (List.take 4 (List.drop 0 a0)))) ≤ 4)) then
                match d193v0 with
                | none => none
                | some r2 =>
                  L174_0 c192 d193v0 c194 c195 N (fun (y435 : List Int) (y436 : List Int) (y437 : List Int) =>
                      L174_2 c192 d193v0 c194 c195 N (fun (y444 : List Int) (y445 : List Int) =>
                          bif (decide (4 ≤ (List.length y445))) then
                            bif ((List.length (List.take 4 (List.drop 0 y445))) == 4) then
                              bif (decide ((0 + (List.length (List.take 4 (List.drop 0 y445)))) ≤ (List.length y444))) then
                                bif (decide (4 ≤ (List.length (((List.take 0 y444) ++ (List.take 4 (List.drop 0 y445))) ++ (List.drop (0 + (List.length (List.take 4 (List.drop 0 y445)))) y444))))) then
                                  some (List.take 4 (List.drop 0 (((List.take 0 y444) ++ (List.take 4 (List.drop 0 y445))) ++ (List.drop (0 + (List.length (List.take 4 (List.drop 0 y445)))) y444))))
                                else none
                              else none
                            else none
                          else none) N (0 : Int) y435 y436 y437) N r2.1.1.1 r2.1.1.2.1 r2.1.1.2.2.1 r2.1.1.2.2.2.1 r2.1.1.2.2.2.2.1 r2.1.1.2.2.2.2.2.1 r2.1.1.2.2.2.2.2.2.1 r2.1.1.2.2.2.2.2.2.2.1 r2.1.1.2.2.2.2.2.2.2.2.1 r2.1.1.2.2.2.2.2.2.2.2.2.1 r2.1.1.2.2.2.2.2.2.2.2.2.2.1 r2.1.1.2.2.2.2.2.2.2.2.2.2.2.1 r2.1.1.2.2.2.2.2.2.2.2.2.2.2.2.1 r2.1.1.2.2.2.2.2.2.2.2.2.2.2.2.2.1 r2.1.1.2.2.2.2.2.2.2.2.2.2.2.2.2.2.1 r2.1.1.2.2.2.2.2.2.2.2.2.2.2.2.2.2.2.1 r2.1.1.2.2.2.2.2.2.2.2.2.2.2.2.2.2.2.2.1 r2.1.1.2.2.2.2.2.2.2.2.2.2.2.2.2.2.2.2.2.1 r2.1.1.2.2.2.2.2.2.2.2.2.2.2.2.2.2.2.2.2.2.1 r2.1.1.2.2.2.2.2.2.2.2.2.2.2.2.2.2.2.2.2.2.2.1 r2.1.1.2.2.2.2.2.2.2.2.2.2.2.2.2.2.2.2.2.2.2.2.1 r2.1.1.2.2.2.2.2.2.2.2.2.2.2.2.2.2.2.2.2.2.2.2.2.1 r2.1.1.2.2.2.2.2.2.2.2.2.2.2.2.2.2.2.2.2.2.2.2.2.2.1 r2.1.1.2.2.2.2.2.2.2.2.2.2.2.2.2.2.2.2.2.2.2.2.2.2.2.1 r2.1.1.2.2.2.2.2.2.2.2.2.2.2.2.2.2.2.2.2.2.2.2.2.2.2.2.1 r2.1.1.2.2.2.2.2.2.2.2.2.2.2.2.2.2.2.2.2.2.2.2.2.2.2.2.2.1 r2.1.1.2.2.2.2.2.2.2.2.2.2.2.2.2.2.2.2.2.2.2.2.2.2.2.2.2.2.1 r2.1.1.2.2.2.2.2.2.2.2.2.2.2.2.2.2.2.2.2.2.2.2.2.2.2.2.2.2.2.1 r2.1.1.2.2.2.2.2.2.2.2.2.2.2.2.2.2.2.2.2.2.2.2.2.2.2.2.2.2.2.2.1 r2.1.1.2.2.2.2.2.2.2.2.2.2.2.2.2.2.2.2.2.2.2.2.2.2.2.2.2.2.2.2.2.1 r2.1.1.2.2.2.2.2.2.2.2.2.2.2.2.2.2.2.2.2.2.2.2.2.2.2.2.2.2.2.2.2.2.1 r2.1.1.2.2.2.2.2.2.2.2.2.2.2.2.2.2.2.2.2.2.2.2.2.2.2.2.2.2.2.2.2.2.2.1 r2.1.1.2.2.2.2.2.2.2.2.2.2.2.2.2.2.2.2.2.2.2.2.2.2.2.2.2.2.2.2.2.2.2.2.1 r2.1.1.2.2.2.2.2.2.2.2.2.2.2.2.2.2.2.2.2.2.2.2.2.2.2.2.2.2.2.2.2.2.2.2.2.1 r2.1.1.2.2.2.2.2.2.2.2.2.2.2.2.2.2.2.2.2.2.2.2.2.2.2.2.2.2.2.2.2.2.2.2.2.2.1 r2.1.1.2.2.2.2.2.2.2.2.2.2.2.2.2.2.2.2.2.2.2.2.2.2.2.2.2.2.2.2.2.2.2.2.2.2.2.1 r2.1.1.2.2.2.2.2.2.2.2.2.2.2.2.2.2.2.2.2.2.2.2.2.2.2.2.2.2.2.2.2.2.2.2.2.2.2.2.1 r2.1.1.2.2.2.2.2.2.2.2.2.2.2.2.2.2.2.2.2.2.2.2.2.2.2.2.2.2.2.2.2.2.2.2.2.2.2.2.2.1 r2.1.1.2.2.2.2.2.2.2.2.2.2.2.2.2.2.2.2.2.2.2.2.2.2.2.2.2.2.2.2.2.2.2.2.2.2.2.2.2.2.1 r2.1.1.2.2.2.2.2.2.2.2.2.2.2.2.2.2.2.2.2.2.2.2.2.2.2.2.2.2.2.2.2.2.2.2.2.2.2.2.2.2.2.1 r2.1.1.2.2.2.2.2.2.2.2.2.2.2.2.2.2.2.2.2.2.2.2.2.2.2.2.2.2.2.2.2.2.2.2.2.2.2.2.2.2.2.2.1 r2.1.1.2.2.2.2.2.2.2.2.2.2.2.2.2.2.2.2.2.2.2.2.2.2.2.2.2.2.2.2.2.2.2.2.2.2.2.2.2.2.2.2.2.1 r2.1.1.2.2.2.2.2.2.2.2.2.2.2.2.2.2.2.2.2.2.2.2.2.2.2.2.2.2.2.2.2.2.2.2.2.2.2.2.2.2.2.2.2.2.1 r2.1.1.2.2.2.2.2.2.2.2.2.2.2.2.2.2.2.2.2.2.2.2.2.2.2.2.2.2.2.2.2.2.2.2.2.2.2.2.2.2.2.2.2.2.2.1 r2.1.1.2.2.2.2.2.2.2.2.2.2.2.2.2.2.2.2.2.2.2.2.2.2.2.2.2.2.2.2.2.2.2.2.2.2.2.2.2.2.2.2.2.2.2.2.1 r2.1.1.2.2.2.2.2.2.2.2.2.2.2.2.2.2.2.2.2.2.2.2.2.2.2.2.2.2.2.2.2.2.2.2.2.2.2.2.2.2.2.2.2.2.2.2.2.1 r2.1.1.2.2.2.2.2.2.2.2.2.2.2.2.2.2.2.2.2.2.2.2.2.2.2.2.2.2.2.2.2.2.2.2.2.2.2.2.2.2.2.2.2.2.2.2.2.2.1 r2.1.1.2.2.2.2.2.2.2.2.2.2.2.2.2.2.2.2.2.2.2.2.2.2.2.2.2.2.2.2.2.2.2.2.2.2.2.2.2.2.2.2.2.2.2.2.2.2.2.1 r2.1.1.2.2.2.2.2.2.2.2.2.2.2.2.2.2.2.2.2.2.2.2.2.2.2.2.2.2.2.2.2.2.2.2.2.2.2.2.2.2.2.2.2.2.2.2.2.2.2.2.1 r2.1.1.2.2.2.2.2.2.2.2.2.2.2.2.2.2.2.2.2.2.2.2.2.2.2.2.2.2.2.2.2.2.2.2.2.2.2.2.2.2.2.2.2.2.2.2.2.2.2.2.2.1 r2.1.1.2.2.2.2.2.2.2.2.2.2.2.2.2.2.2.2.2.2.2.2.2.2.2.2.2.2.2.2.2.2.2.2.2.2.2.2.2.2.2.2.2.2.2.2.2.2.2.2.2.2.1 r2.1.1.2.2.2.2.2.2.2.2.2.2.2.2.2.2.2.2.2.2.2.2.2.2.2.2.2.2.2.2.2.2.2.2.2.2.2.2.2.2.2.2.2.2.2.2.2.2.2.2.2.2.2.1 r2.1.1.2.2.2.2.2.2.2.2.2.2.2.2.2.2.2.2.2.2.2.2.2.2.2.2.2.2.2.2.2.2.2.2.2.2.2.2.2.2.2.2.2.2.2.2.2.2.2.2.2.2.2.2.1 r2.1.1.2.2.2.2.2.2.2.2.2.2.2.2.2.2.2.2.2.2.2.2.2.2.2.2.2.2.2.2.2.2.2.2.2.2.2.2.2.2.2.2.2.2.2.2.2.2.2.2.2.2.2.2.2.1 r2.1.1.2.2.2.2.2.2.2.2.2.2.2.2.2.2.2.2.2.2.2.2.2.2.2.2.2.2.2.2.2.2.2.2.2.2.2.2.2.2.2.2.2.2.2.2.2.2.2.2.2.2.2.2.2.2.1 r2.1.1.2.2.2.2.2.2.2.2.2.2.2.2.2.2.2.2.2.2.2.2.2.2.2.2.2.2.2.2.2.2.2.2.2.2.2.2.2.2.2.2.2.2.2.2.2.2.2.2.2.2.2.2.2.2.2.1 r2.1.1.2.2.2.2.2.2.2.2.2.2.2.2.2.2.2.2.2.2.2.2.2.2.2.2.2.2.2.2.2.2.2.2.2.2.2.2.2.2.2.2.2.2.2.2.2.2.2.2.2.2.2.2.2.2.2.2.1 r2.1.1.2.2.2.2.2.2.2.2.2.2.2.2.2.2.2.2.2.2.2.2.2.2.2.2.2.2.2.2.2.2.2.2.2.2.2.2.2.2.2.2.2.2.2.2.2.2.2.2.2.2.2.2.2.2.2.2.2.1 r2.1.1.2.2.2.2.2.2.2.2.2.2.2.2.2.2.2.2.2.2.2.2.2.2.2.2.2.2.2.2.2.2.2.2.2.2.2.2.2.2.2.2.2.2.2.2.2.2.2.2.2.2.2.2.2.2.2.2.2.2.1 r2.1.1.2.2.2.2.2.2.2.2.2.2.2.2.2.2.2.2.2.2.2.2.2.2.2.2.2.2.2.2.2.2.2.2.2.2.2.2.2.2.2.2.2.2.2.2.2.2.2.2.2.2.2.2.2.2.2.2.2.2.2.1 r2.1.1.2.2.2.2.2.2.2.2.2.2.2.2.2.2.2.2.2.2.2.2.2.2.2.2.2.2.2.2.2.2.2.2.2.2.2.2.2.2.2.2.2.2.2.2.2.2.2.2.2.2.2.2.2.2.2.2.2.2.2.2.1 r2.1.1.2.2.2.2.2.2.2.2.2.2.2.2.2.2.2.2.2.2.2.2.2.2.2.2.2.2.2.2.2.2.2.2.2.2.2.2.2.2.2.2.2.2.2.2.2.2.2.2.2.2.2.2.2.2.2.2.2.2.2.2.2.1 r2.1.1.2.2.2.2.2.2.2.2.2.2.2.2.2.2.2.2.2.2.2.2.2.2.2.2.2.2.2.2.2.2.2.2.2.2.2.2.2.2.2.2.2.2.2.2.2.2.2.2.2.2.2.2.2.2.2.2.2.2.2.2.2.2.1 (0 : Int) a0 ([(0 : Int), (0 : Int), (0 : Int), (0 : Int)] : List Int) (([] ++ r1) ++ (List.drop (0 + (List.length r1)) [(0 : Int), (0 : Int), (0 : Int), (0 : Int), (0 : Int), (0 : Int), (0 : Int), (0 : Int), (0 : Int), (0 : Int), (0 : Int), (0 : Int), (0 : Int), (0 : Int), (0 : Int), (0 : Int)])) (([] ++ (List.take 4 (List.drop 0 a0))) ++ (List.drop (0 + (List.length (List.take 4 (List.drop 0 a0)))) [(0 : Int), (0 : Int), (0 : Int), (0 : Int)]))
              else none
            else none
          else none
        else none
      else none
  else none

/-- euphroe/euphroeref04.place -/
def p196 (N : Nat) (a0 : Int) : Option Int :=
  bif ((iquo .i64 a0 (16 : Int)) == (0 : Int)) then
    some a0
  else
    bif ((iquo .i64 a0 (16 : Int)) == (1 : Int)) then
      some (iadd .i64 (imul .i64 (irem a0 (4 : Int)) (4 : Int)) (irem (iquo .i64 a0 (4 : Int)) (4 : Int)))
    else
      bif ((decide ((0 : Int) ≤ (isub .i64 a0 (32 : Int)))) && (decide ((isub .i64 a0 (32 : Int)) < (16 : Int)))) then
        match (([(0 : Int), (8 : Int), (4 : Int), (12 : Int), (2 : Int), (10 : Int), (6 : Int), (14 : Int), (1 : Int), (9 : Int), (5 : Int), (13 : Int), (3 : Int), (11 : Int), (7 : Int), (15 : Int)] : List Int))[(0 + ((Int.toNat (isub .i64 a0 (32 : Int))) * 1))]? with
        | none => none
        | some x1 =>
          some x1
      else none

/-- euphroe/euphroeref04.two -/
def p204 (N : Nat) (a0 : Int) (a1 : Int) (a2 : Int) : Option Int :=
  some (ior .u32 (ior .u32 (iand .u32 a0 a1) (iand .u32 a0 a2)) (iand .u32 a1 a2))

/-- euphroe/euphroeref04.step -/
def p198 (c204 : Int → Int → Int → Option Int) (N : Nat) (a0 : Int) (a1 : Int) (a2 : Int) (a3 : Int) : Option Int :=
  bif (a0 == (0 : Int)) then
    some (ior .u32 (iand .u32 a1 a2) (iand .u32 (isub .u32 (4294967295 : Int) a1) a3))
  else
    bif (a0 == (1 : Int)) then
      match c204 a1 a2 a3 with
      | none => none
      | some r1 =>
        some (iadd .u32 r1 (1518500249 : Int))
    else
      some (iadd .u32 (ixor .u32 (ixor .u32 a1 a2) a3) (1859775393 : Int))

/-- euphroe/euphroeref04.turn -/
def p197 (N : Nat) (a0 : Int) (a1 : Int) : Option Int :=
  bif (decide (a1 < (0 : Int))) then
    none
  else
    bif (decide ((isub .i64 (32 : Int) a1) < (0 : Int))) then
      none
    else
      some (ior .u32 (ishl .u32 a0 a1) (ishr .u32 a0 (isub .i64 (32 : Int) a1)))

def L175_0 (c196 : Int → Option Int) (c198 : Int → Int → Int → Int → Option Int) (c197 : Int → Int → Option Int) (N : Nat) (q0_0 : List Int → List Int → List Int → Option (List Int)) : Nat → List (List Int) → Int → List Int → List Int → List Int → List Int → Option (List Int)
  | 0, _, _, _, _, _, _ => none
  | n0 + 1, v1, v2, v3, v4, v5, v6 =>
    bif (decide (v2 < (48 : Int))) then
      match c196 v2 with
      | none => none
      | some r7 =>
        bif ((decide ((0 : Int) ≤ (imul .i64 (4 : Int) r7))) && (decide ((imul .i64 (4 : Int) r7) < (64 : Int)))) then
          match (v4)[(0 + ((Int.toNat (imul .i64 (4 : Int) r7)) * 1))]? with
          | none => none
          | some x8 =>
            bif ((decide ((0 : Int) ≤ (iadd .i64 (imul .i64 (4 : Int) r7) (1 : Int)))) && (decide ((iadd .i64 (imul .i64 (4 : Int) r7) (1 : Int)) < (64 : Int)))) then
              match (v4)[(0 + ((Int.toNat (iadd .i64 (imul .i64 (4 : Int) r7) (1 : Int))) * 1))]? with
              | none => none
              | some x9 =>
                bif ((decide ((0 : Int) ≤ (iadd .i64 (imul .i64 (4 : Int) r7) (2 : Int)))) && (decide ((iadd .i64 (imul .i64 (4 : Int) r7) (2 : Int)) < (64 : Int)))) then
                  match (v4)[(0 + ((Int.toNat (iadd .i64 (imul .i64 (4 : Int) r7) (2 : Int))) * 1))]? with
                  | none => none
                  | some x10 =>
                    bif ((decide ((0 : Int) ≤ (iadd .i64 (imul .i64 (4 : Int) r7) (3 : Int)))) && (decide ((iadd .i64 (imul .i64 (4 : Int) r7) (3 : Int)) < (64 : Int)))) then
                      match (v4)[(0 + ((Int.toNat (iadd .i64 (imul .i64 (4 : Int) r7) (3 : Int))) * 1))]? with
                      | none => none
                      | some x11 =>
                        match (v6)[0]? with
                        | none => none
                        | some x12 =>
                          match (v6)[1]? with
                          | none => none
                          | some x13 =>
                            match (v6)[2]? with
                            | none => none
                            | some x14 =>
                              match (v6)[3]? with
                              | none => none
                              | some x15 =>
                                match c198 (iquo .i64 v2 (16 : Int)) x13 x14 x15 with
                                | none => none
                                | some r16 =>
                                  match geti v1 (iquo .i64 v2 (16 : Int)) with
                                  | none => none
                                  | some x17 =>
                                    match geti x17 (irem v2 (4 : Int)) with
                                    | none => none
                                    | some x18 =>
                                      match c197 (iadd .u32 (iadd .u32 x12 r16) (iadd .u32 (iadd .u32 (iadd .u32 (IntKind.wrap .u32 x8) (imul .u32 (IntKind.wrap .u32 x9) (256 : Int))) (imul .u32 (IntKind.wrap .u32 x10) (65536 : Int))) (imul .u32 (IntKind.wrap .u32 x11) (16777216 : Int)))) x18 with
                                      | none => none
                                      | some r19 =>
                                        match (v6)[3]? with
                                        | none => none
                                        | some x20 =>
                                          match (v6)[1]? with
                                          | none => none
                                          | some x21 =>
                                            match (v6)[2]? with
                                            | none => none
                                            | some x22 =>
                                              bif (decide (4 ≤ (List.length v6))) then
                                                L175_0 c196 c198 c197 N q0_0 n0 v1 (iadd .i64 v2 (1 : Int)) v3 v4 v5 (((List.take 0 v6) ++ [x20, r19, x21, x22]) ++ (List.drop 4 v6))
                                              else none
                    else none
                else none
            else none
        else none
    else
      q0_0 v3 v5 v6
def L175_1 (c196 : Int → Option Int) (c198 : Int → Int → Int → Int → Option Int) (c197 : Int → Int → Option Int) (N : Nat) (q1_2 : List Int → List Int → Option (List Int)) : Nat → Int → List Int → List Int → List Int → Option (List Int)
  | 0, _, _, _, _ => none
  | n1 + 1, v26, v27, v28, v29 =>
    bif (decide (v26 < (4 : Int))) then
      bif ((decide ((0 : Int) ≤ v26)) && (decide (v26 < (4 : Int)))) then
        match (v29)[(0 + ((Int.toNat v26) * 1))]? with
        | none => none
        | some x30 =>
          bif ((decide ((0 : Int) ≤ v26)) && (decide (v26 < (4 : Int)))) then
            match (v27)[(0 + ((Int.toNat v26) * 1))]? with
            | none => none
            | some x31 =>
              bif ((decide ((0 : Int) ≤ v26)) && (decide (v26 < (4 : Int)))) then
                bif (decide ((0 + ((Int.toNat v26) * 1)) < (List.length v29))) then
                  L175_1 c196 c198 c197 N q1_2 n1 (iadd .i64 v26 (1 : Int)) v27 v28 (List.set v29 (0 + ((Int.toNat v26) * 1)) (iadd .u32 x30 x31))
                else none
              else none
          else none
      else none
    else
      q1_2 v28 v29
/-- euphroe/euphroeref04.Block -/
def p175 (c196 : Int → Option Int) (c198 : Int → Int → Int → Int → Option Int) (c197 : Int → Int → Option Int) (N : Nat) (a0 : List Int) (a1 : List Int) : Option (List Int) :=
  bif (decide (4 ≤ (List.length a0))) then
    bif ((List.length (List.take 4 (List.drop 0 a0))) == 4) then
      bif (decide ((0 + (List.length (List.take 4 (List.drop 0 a0)))) ≤ 4)) then
        L175_0 c196 c198 c197 N (fun (y23 : List Int) (y24 : List Int) (y25 : List Int) =>
            L175_1 c196 c198 c197 N (fun (y32 : List Int) (y33 : List Int) =>
                bif (decide (4 ≤ (List.length y33))) then
                  bif ((List.length (List.take 4 (List.drop 0 y33))) == 4) then
                    bif (decide ((0 + (List.length (List.take 4 (List.drop 0 y33)))) ≤ (List.length y32))) then
                      bif (decide (4 ≤ (List.length (((List.take 0 y32) ++ (List.take 4 (List.drop 0 y33))) ++ (List.drop (0 + (List.length (List.take 4 (List.drop 0 y33)))) y32))))) then
                        some (List.take 4 (List.drop 0 (((List.take 0 y32) ++ (List.take 4 (List.drop 0 y33))) ++ (List.drop (0 + (List.length (List.take 4 (List.drop 0 y33)))) y32))))
                      else none
                    else none
                  else none
                else none) N (0 : Int) y23 y24 y25) N ([([(3 : Int), (7 : Int), (11 : Int), (19 : Int)] : List Int), ([(3 : Int), (5 : Int), (9 : Int), (13 : Int)] : List Int), ([(3 : Int), (9 : Int), (11 : Int), (15 : Int)] : List Int)] : List (List Int)) (0 : Int) a0 a1 ([(0 : Int), (0 : Int), (0 : Int), (0 : Int)] : List Int) (([] ++ (List.take 4 (List.drop 0 a0))) ++ (List.drop (0 + (List.length (List.take 4 (List.drop 0 a0)))) [(0 : Int), (0 : Int), (0 : Int), (0 : Int)]))
      else none
    else none
  else none

/-- euphroe/md4.Tail -/
def p176 (c19 : Int → Int → Bool → Option ((List Int) × Int)) (N : Nat) (a0 : Int) : Option (List Int) :=
  bif ((decide ((0 : Int) ≤ (irem (isub .u64 (64 : Int) (irem (iadd .u64 (iadd .u64 a0 (1 : Int)) (8 : Int)) (64 : Int))) (64 : Int)))) && ((decide (((irem (isub .u64 (64 : Int) (irem (iadd .u64 (iadd .u64 a0 (1 : Int)) (8 : Int)) (64 : Int))) (64 : Int)) * ((1 : Nat) : Int)) ≤ (1099511627776 : Int))) && (decide ((irem (isub .u64 (64 : Int) (irem (iadd .u64 (iadd .u64 a0 (1 : Int)) (8 : Int)) (64 : Int))) (64 : Int)) ≤ (1099511627776 : Int))))) then
    bif ((List.length (List.replicate (Int.toNat (irem (isub .u64 (64 : Int) (irem (iadd .u64 (iadd .u64 a0 (1 : Int)) (8 : Int)) (64 : Int))) (64 : Int))) (0 : Int))) == ((Int.toNat (irem (isub .u64 (64 : Int) (irem (iadd .u64 (iadd .u64 a0 (1 : Int)) (8 : Int)) (64 : Int))) (64 : Int))) * 1)) then
      bif (decide (1 < (1 + (Int.toNat (irem (isub .u64 (64 : Int) (irem (iadd .u64 (iadd .u64 a0 (1 : Int)) (8 : Int)) (64 : Int))) (64 : Int)))))) then
        bif ((decide (((1 + (Int.toNat (irem (isub .u64 (64 : Int) (irem (iadd .u64 (iadd .u64 a0 (1 : Int)) (8 : Int)) (64 : Int))) (64 : Int)))) * 1) ≤ 1099511627776)) && (decide ((1 + (Int.toNat (irem (isub .u64 (64 : Int) (irem (iadd .u64 (iadd .u64 a0 (1 : Int)) (8 : Int)) (64 : Int))) (64 : Int)))) ≤ 1099511627776))) then
          match c19 (imul .u64 a0 (8 : Int)) (8 : Int) true with
          | none => none
          | some r1 =>
            bif (((List.length ([(128 : Int)] ++ (List.replicate (Int.toNat (irem (isub .u64 (64 : Int) (irem (iadd .u64 (iadd .u64 a0 (1 : Int)) (8 : Int)) (64 : Int))) (64 : Int))) (0 : Int)))) == ((1 + (Int.toNat (irem (isub .u64 (64 : Int) (irem (iadd .u64 (iadd .u64 a0 (1 : Int)) (8 : Int)) (64 : Int))) (64 : Int)))) * 1)) && ((decide ((((1 + (Int.toNat (irem (isub .u64 (64 : Int) (irem (iadd .u64 (iadd .u64 a0 (1 : Int)) (8 : Int)) (64 : Int))) (64 : Int)))) + (List.length r1.1)) * 1) ≤ 1099511627776)) && (decide (((1 + (Int.toNat (irem (isub .u64 (64 : Int) (irem (iadd .u64 (iadd .u64 a0 (1 : Int)) (8 : Int)) (64 : Int))) (64 : Int)))) + (List.length r1.1)) ≤ 1099511627776)))) then
              bif (decide ((0 + (((1 + (Int.toNat (irem (isub .u64 (64 : Int) (irem (iadd .u64 (iadd .u64 a0 (1 : Int)) (8 : Int)) (64 : Int))) (64 : Int)))) + (List.length r1.1)) * 1)) ≤ (List.length (([(128 : Int)] ++ (List.replicate (Int.toNat (irem (isub .u64 (64 : Int) (irem (iadd .u64 (iadd .u64 a0 (1 : Int)) (8 : Int)) (64 : Int))) (64 : Int))) (0 : Int))) ++ r1.1)))) then
                some (List.take ((1 + (Int.toNat (irem (isub .u64 (64 : Int) (irem (iadd .u64 (iadd .u64 a0 (1 : Int)) (8 : Int)) (64 : Int))) (64 : Int)))) + (List.length r1.1)) (List.drop 0 (([(128 : Int)] ++ (List.replicate (Int.toNat (irem (isub .u64 (64 : Int) (irem (iadd .u64 (iadd .u64 a0 (1 : Int)) (8 : Int)) (64 : Int))) (64 : Int))) (0 : Int))) ++ r1.1)))
              else none
            else none
        else none
      else
        bif (decide ((1 + (List.length (List.replicate (Int.toNat (irem (isub .u64 (64 : Int) (irem (iadd .u64 (iadd .u64 a0 (1 : Int)) (8 : Int)) (64 : Int))) (64 : Int))) (0 : Int)))) ≤ 1)) then
          match c19 (imul .u64 a0 (8 : Int)) (8 : Int) true with
          | none => none
          | some r2 =>
            bif (decide (1 < ((1 + (Int.toNat (irem (isub .u64 (64 : Int) (irem (iadd .u64 (iadd .u64 a0 (1 : Int)) (8 : Int)) (64 : Int))) (64 : Int)))) + (List.length r2.1)))) then
              bif ((decide ((((1 + (Int.toNat (irem (isub .u64 (64 : Int) (irem (iadd .u64 (iadd .u64 a0 (1 : Int)) (8 : Int)) (64 : Int))) (64 : Int)))) + (List.length r2.1)) * 1) ≤ 1099511627776)) && (decide (((1 + (Int.toNat (irem (isub .u64 (64 : Int) (irem (iadd .u64 (iadd .u64 a0 (1 : Int)) (8 : Int)) (64 : Int))) (64 : Int)))) + (List.length r2.1)) ≤ 1099511627776))) then
                bif (decide ((0 + ((1 + (Int.toNat (irem (isub .u64 (64 : Int) (irem (iadd .u64 (iadd .u64 a0 (1 : Int)) (8 : Int)) (64 : Int))) (64 : Int)))) * 1)) ≤ (List.length (([(128 : Int)] ++ (List.replicate (Int.toNat (irem (isub .u64 (64 : Int) (irem (iadd .u64 (iadd .u64 a0 (1 : Int)) (8 : Int)) (64 : Int))) (64 : Int))) (0 : Int))) ++ (List.drop (1 + (List.length (List.replicate (Int.toNat (irem (isub .u64 (64 : Int) (irem (iadd .u64 (iadd .u64 a0 (1 : Int)) (8 : Int)) (64 : Int))) (64 : Int))) (0 : Int)))) [(128 : Int)]))))) then
                  bif (decide ((0 + (((1 + (Int.toNat (irem (isub .u64 (64 : Int) (irem (iadd .u64 (iadd .u64 a0 (1 : Int)) (8 : Int)) (64 : Int))) (64 : Int)))) + (List.length r2.1)) * 1)) ≤ (List.length ((List.take ((1 + (Int.toNat (irem (isub .u64 (64 : Int) (irem (iadd .u64 (iadd .u64 a0 (1 : Int)) (8 : Int)) (64 : Int))) (64 : Int)))) * 1) (List.drop 0 (([(128 : Int)] ++ (List.replicate (Int.toNat (irem (isub .u64 (64 : Int) (irem (iadd .u64 (iadd .u64 a0 (1 : Int)) (8 : Int)) (64 : Int))) (64 : Int))) (0 : Int))) ++ (List.drop (1 + (List.length (List.replicate (Int.toNat (irem (isub .u64 (64 : Int) (irem (iadd .u64 (iadd .u64 a0 (1 : Int)) (8 : Int)) (64 : Int))) (64 : Int))) (0 : Int)))) [(128 : Int)])))) ++ r2.1)))) then
                    some (List.take ((1 + (Int.toNat (irem (isub .u64 (64 : Int) (irem (iadd .u64 (iadd .u64 a0 (1 : Int)) (8 : Int)) (64 : Int))) (64 : Int)))) + (List.length r2.1)) (List.drop 0 ((List.take ((1 + (Int.toNat (irem (isub .u64 (64 : Int) (irem (iadd .u64 (iadd .u64 a0 (1 : Int)) (8 : Int)) (64 : Int))) (64 : Int)))) * 1) (List.drop 0 (([(128 : Int)] ++ (List.replicate (Int.toNat (irem (isub .u64 (64 : Int) (irem (iadd .u64 (iadd .u64 a0 (1 : Int)) (8 : Int)) (64 : Int))) (64 : Int))) (0 : Int))) ++ (List.drop (1 + (List.length (List.replicate (Int.toNat (irem (isub .u64 (64 : Int) (irem (iadd .u64 (iadd .u64 a0 (1 : Int)) (8 : Int)) (64 : Int))) (64 : Int))) (0 : Int)))) [(128 : Int)])))) ++ r2.1)))
                  else none
                else none
              else none
            else
              bif (decide (((0 + ((1 + (Int.toNat (irem (isub .u64 (64 : Int) (irem (iadd .u64 (iadd .u64 a0 (1 : Int)) (8 : Int)) (64 : Int))) (64 : Int)))) * 1)) + (List.length r2.1)) ≤ (List.length (([(128 : Int)] ++ (List.replicate (Int.toNat (irem (isub .u64 (64 : Int) (irem (iadd .u64 (iadd .u64 a0 (1 : Int)) (8 : Int)) (64 : Int))) (64 : Int))) (0 : Int))) ++ (List.drop (1 + (List.length (List.replicate (Int.toNat (irem (isub .u64 (64 : Int) (irem (iadd .u64 (iadd .u64 a0 (1 : Int)) (8 : Int)) (64 : Int))) (64 : Int))) (0 : Int)))) [(128 : Int)]))))) then
                bif (decide ((0 + (((1 + (Int.toNat (irem (isub .u64 (64 : Int) (irem (iadd .u64 (iadd .u64 a0 (1 : Int)) (8 : Int)) (64 : Int))) (64 : Int)))) + (List.length r2.1)) * 1)) ≤ (List.length (((List.take (0 + ((1 + (Int.toNat (irem (isub .u64 (64 : Int) (irem (iadd .u64 (iadd .u64 a0 (1 : Int)) (8 : Int)) (64 : Int))) (64 : Int)))) * 1)) (([(128 : Int)] ++ (List.replicate (Int.toNat (irem (isub .u64 (64 : Int) (irem (iadd .u64 (iadd .u64 a0 (1 : Int)) (8 : Int)) (64 : Int))) (64 : Int))) (0 : Int))) ++ (List.drop (1 + (List.length (List.replicate (Int.toNat (irem (isub .u64 (64 : Int) (irem (iadd .u64 (iadd .u64 a0 (1 : Int)) (8 : Int)) (64 : Int))) (64 : Int))) (0 : Int)))) [(128 : Int)]))) ++ r2.1) ++ (List.drop ((0 + ((1 + (Int.toNat (irem (isub .u64 (64 : Int) (irem (iadd .u64 (iadd .u64 a0 (1 : Int)) (8 : Int)) (64 : Int))) (64 : Int)))) * 1)) + (List.length r2.1)) (([(128 : Int)] ++ (List.replicate (Int.toNat (irem (isub .u64 (64 : Int) (irem (iadd .u64 (iadd .u64 a0 (1 : Int)) (8 : Int)) (64 : Int))) (64 : Int))) (0 : Int))) ++ (List.drop (1 + (List.length (List.replicate (Int.toNat (irem (isub .u64 (64 : Int) (irem (iadd .u64 (iadd .u64 a0 (1 : Int)) (8 : Int)) (64 : Int))) (64 : Int))) (0 : Int)))) [(128 : Int)]))))))) then
                  some (List.take ((1 + (Int.toNat (irem (isub .u64 (64 : Int) (irem (iadd .u64 (iadd .u64 a0 (1 : Int)) (8 : Int)) (64 : Int))) (64 : Int)))) + (List.length r2.1)) (List.drop 0 (((List.take (0 + ((1 + (Int.toNat (irem (isub .u64 (64 : Int) (irem (iadd .u64 (iadd .u64 a0 (1 : Int)) (8 : Int)) (64 : Int))) (64 : Int)))) * 1)) (([(128 : Int)] ++ (List.replicate (Int.toNat (irem (isub .u64 (64 : Int) (irem (iadd .u64 (iadd .u64 a0 (1 : Int)) (8 : Int)) (64 : Int))) (64 : Int))) (0 : Int))) ++ (List.drop (1 + (List.length (List.replicate (Int.toNat (irem (isub .u64 (64 : Int) (irem (iadd .u64 (iadd .u64 a0 (1 : Int)) (8 : Int)) (64 : Int))) (64 : Int))) (0 : Int)))) [(128 : Int)]))) ++ r2.1) ++ (List.drop ((0 + ((1 + (Int.toNat (irem (isub .u64 (64 : Int) (irem (iadd .u64 (iadd .u64 a0 (1 : Int)) (8 : Int)) (64 : Int))) (64 : Int)))) * 1)) + (List.length r2.1)) (([(128 : Int)] ++ (List.replicate (Int.toNat (irem (isub .u64 (64 : Int) (irem (iadd .u64 (iadd .u64 a0 (1 : Int)) (8 : Int)) (64 : Int))) (64 : Int))) (0 : Int))) ++ (List.drop (1 + (List.length (List.replicate (Int.toNat (irem (isub .u64 (64 : Int) (irem (iadd .u64 (iadd .u64 a0 (1 : Int)) (8 : Int)) (64 : Int))) (64 : Int))) (0 : Int)))) [(128 : Int)]))))))
                else none
              else none
        else none
    else none
  else none

def L177_0 (N : Nat) (q0_0 : Int → Nat → List Int → Option (List Int)) : Nat → Int → Nat → List Int → Option (List Int)
  | 0, _, _, _ => none
  | n0 + 1, v1, v2, v3 =>
    bif ((irem (iadd .u64 v1 (IntKind.wrap .u64 ((v2 : Nat) : Int))) (64 : Int)) != (56 : Int)) then
      bif (((List.length v3) == (v2 * 1)) && ((decide (((v2 + 1) * 1) ≤ 1099511627776)) && (decide ((v2 + 1) ≤ 1099511627776)))) then
        L177_0 N q0_0 n0 v1 (v2 + 1) (v3 ++ [(0 : Int)])
      else none
    else
      q0_0 v1 v2 v3
def L177_1 (N : Nat) (q1_2 : Nat → List Int → Option (List Int)) : Nat → Nat → Int → Int → List Int → Option (List Int)
  | 0, _, _, _, _ => none
  | n1 + 1, v7, v8, v9, v10 =>
    bif (decide (v9 < (8 : Int))) then
      bif (((List.length v10) == (v7 * 1)) && ((decide (((v7 + 1) * 1) ≤ 1099511627776)) && (decide ((v7 + 1) ≤ 1099511627776)))) then
        L177_1 N q1_2 n1 (v7 + 1) (iquo .u64 v8 (256 : Int)) (iadd .i64 v9 (1 : Int)) (v10 ++ [(IntKind.wrap .u8 (irem v8 (256 : Int)))])
      else none
    else
      q1_2 v7 v10
/-- euphroe/euphroeref04.Tail -/
def p177 (N : Nat) (a0 : Int) : Option (List Int) :=
  L177_0 N (fun (y4 : Int) (y5 : Nat) (y6 : List Int) =>
      L177_1 N (fun (y11 : Nat) (y12 : List Int) =>
          bif (decide ((0 + (y11 * 1)) ≤ (List.length y12))) then
            some (List.take y11 (List.drop 0 y12))
          else none) N y5 (imul .u64 (8 : Int) y4) (0 : Int) y6) N a0 1 ([(128 : Int)] : List Int)

/-- euphroe/md4.First -/
def p178 (N : Nat)  : Option (List Int) :=
  some ([(1732584193 : Int), (4023233417 : Int), (2562383102 : Int), (271733878 : Int)] : List Int)

/-- euphroe/euphroeref04.First -/
def p179 (N : Nat)  : Option (List Int) :=
  some ([(1732584193 : Int), (4023233417 : Int), (2562383102 : Int), (271733878 : Int)] : List Int)

def L181_0 (c46 : List (List Int) → Option (List Int)) (c176 : Int → Option (List Int)) (c178 : Option (List Int)) (c174 : List Int → List Int → Option (List Int)) (N : Nat) (q0_0 : List Int → List Int → Option (List Int)) : Nat → List Int → List Int → List Int → Option (List Int)
  | 0, _, _, _ => none
  | n0 + 1, v4, v5, v6 =>
    bif (decide ((((List.length v4) : Nat) : Int) > (0 : Int))) then
      bif (decide (4 ≤ (List.length v6))) then
        bif (decide ((64 : Int) ≤ (((List.length v4) : Nat) : Int))) then
          bif (decide (64 ≤ (List.length (List.take 64 v4)))) then
            bif (decide (64 ≤ (List.length (List.take 64 v4)))) then
              match c174 (List.take 4 (List.drop 0 v6)) (List.take 64 (List.drop 0 (List.take 64 v4))) with
              | none => none
              | some r7 =>
                bif ((List.length r7) == 4) then
                  bif (decide ((0 + (List.length r7)) ≤ (List.length v6))) then
                    bif (decide ((64 : Int) ≤ (((List.length v4) : Nat) : Int))) then
                      L181_0 c46 c176 c178 c174 N q0_0 n0 (List.drop 64 v4) v5 (((List.take 0 v6) ++ r7) ++ (List.drop (0 + (List.length r7)) v6))
                    else none
                  else none
                else none
            else none
          else none
        else none
      else none
    else
      q0_0 v5 v6
def L181_1 (c46 : List (List Int) → Option (List Int)) (c176 : Int → Option (List Int)) (c178 : Option (List Int)) (c174 : List Int → List Int → Option (List Int)) (N : Nat) (q1_2 : List Int → List Int → Option (List Int)) : Nat → Int → List Int → List Int → List Int → Option (List Int)
  | 0, _, _, _, _ => none
  | n1 + 1, v10, v11, v12, v13 =>
    bif (decide (v10 < (16 : Int))) then
      bif ((decide ((0 : Int) ≤ (iquo .i64 v10 (4 : Int)))) && (decide ((iquo .i64 v10 (4 : Int)) < (4 : Int)))) then
        match (v12)[(0 + ((Int.toNat (iquo .i64 v10 (4 : Int))) * 1))]? with
        | none => none
        | some x14 =>
          bif (decide ((imul .i64 (8 : Int) (irem v10 (4 : Int))) < (0 : Int))) then
            none
          else
            bif ((decide ((0 : Int) ≤ v10)) && (decide (v10 < (16 : Int)))) then
              bif (decide ((0 + ((Int.toNat v10) * 1)) < (List.length v13))) then
                L181_1 c46 c176 c178 c174 N q1_2 n1 (iadd .i64 v10 (1 : Int)) v11 v12 (List.set v13 (0 + ((Int.toNat v10) * 1)) (IntKind.wrap .u8 (ishr .u32 x14 (imul .i64 (8 : Int) (irem v10 (4 : Int))))))
              else none
            else none
      else none
    else
      q1_2 v11 v13
/-- euphroe/md4.Of -/
def p181 (c46 : List (List Int) → Option (List Int)) (c176 : Int → Option (List Int)) (c178 : Option (List Int)) (c174 : List Int → List Int → Option (List Int)) (N : Nat) (a0 : List (List Int)) : Option (List Int) :=
  match c46 a0 with
  | none => none
  | some r1 =>
    match c176 (IntKind.wrap .u64 (((List.length r1) : Nat) : Int)) with
    | none => none
    | some r2 =>
      bif (((List.length r1) == ((List.length r1) * 1)) && ((decide ((((List.length r1) + (List.length r2)) * 1) ≤ 1099511627776)) && (decide (((List.length r1) + (List.length r2)) ≤ 1099511627776)))) then
        match c178 with
        | none => none
        | some r3 =>
          bif ((List.length r3) == 4) then
            bif (decide ((0 + (List.length r3)) ≤ 4)) then
              bif (decide ((0 + (((List.length r1) + (List.length r2)) * 1)) ≤ (List.length (r1 ++ r2)))) then
                L181_0 c46 c176 c178 c174 N (fun (y8 : List Int) (y9 : List Int) =>
                    L181_1 c46 c176 c178 c174 N (fun (y15 : List Int) (y16 : List Int) =>
                        bif (decide (16 ≤ (List.length y16))) then
                          bif ((List.length (List.take 16 (List.drop 0 y16))) == 16) then
                            bif (decide ((0 + (List.length (List.take 16 (List.drop 0 y16)))) ≤ (List.length y15))) then
                              bif (decide (16 ≤ (List.length (((List.take 0 y15) ++ (List.take 16 (List.drop 0 y16))) ++ (List.drop (0 + (List.length (List.take 16 (List.drop 0 y16)))) y15))))) then
                                some (List.take 16 (List.drop 0 (((List.take 0 y15) ++ (List.take 16 (List.drop 0 y16))) ++ (List.drop (0 + (List.length (List.take 16 (List.drop 0 y16)))) y15))))
                              else none
                            else none
                          else none
                        else none) N (0 : Int) y8 y9 ([(0 : Int), (0 : Int), (0 : Int), (0 : Int), (0 : Int), (0 : Int), (0 : Int), (0 : Int), (0 : Int), (0 : Int), (0 : Int), (0 : Int), (0 : Int), (0 : Int), (0 : Int), (0 : Int)] : List Int)) N (List.take ((List.length r1) + (List.length r2)) (List.drop 0 (r1 ++ r2))) ([(0 : Int), (0 : Int), (0 : Int), (0 : Int), (0 : Int), (0 : Int), (0 : Int), (0 : Int), (0 : Int), (0 : Int), (0 : Int), (0 : Int), (0 : Int), (0 : Int), (0 : Int), (0 : Int)] : List Int) (([] ++ r3) ++ (List.drop (0 + (List.length r3)) [(0 : Int), (0 : Int), (0 : Int), (0 : Int)]))
              else none
            else none
          else none
      else none

/-- euphroe/euphroelaw04.alive -/
def p180 (c181 : List (List Int) → Option (List Int)) (c176 : Int → Option (List Int)) (c178 : Option (List Int)) (N : Nat)  : Option Bool :=
  match c181 ([] : List (List Int)) with
  | none => none
  | some r1 =>
    bif ((List.length r1) == 16) then
      bif (decide ((0 + (List.length r1)) ≤ 16)) then
        match ((([] ++ r1) ++ (List.drop (0 + (List.length r1)) [(0 : Int), (0 : Int), (0 : Int), (0 : Int), (0 : Int), (0 : Int), (0 : Int), (0 : Int), (0 : Int), (0 : Int), (0 : Int), (0 : Int), (0 : Int), (0 : Int), (0 : Int), (0 : Int)])))[0]? with
        | none => none
        | some x2 =>
          bif (x2 == (49 : Int)) then
            match ((([] ++ r1) ++ (List.drop (0 + (List.length r1)) [(0 : Int), (0 : Int), (0 : Int), (0 : Int), (0 : Int), (0 : Int), (0 : Int), (0 : Int), (0 : Int), (0 : Int), (0 : Int), (0 : Int), (0 : Int), (0 : Int), (0 : Int), (0 : Int)])))[1]? with
            | none => none
            | some x3 =>
              bif (x3 == (214 : Int)) then
                match ((([] ++ r1) ++ (List.drop (0 + (List.length r1)) [(0 : Int), (0 : Int), (0 : Int), (0 : Int), (0 : Int), (0 : Int), (0 : Int), (0 : Int), (0 : Int), (0 : Int), (0 : Int), (0 : Int), (0 : Int), (0 : Int), (0 : Int), (0 : Int)])))[2]? with
                | none => none
                | some x4 =>
                  bif (x4 == (207 : Int)) then
                    match ((([] ++ r1) ++ (List.drop (0 + (List.length r1)) [(0 : Int), (0 : Int), (0 : Int), (0 : Int), (0 : Int), (0 : Int), (0 : Int), (0 : Int), (0 : Int), (0 : Int), (0 : Int), (0 : Int), (0 : Int), (0 : Int), (0 : Int), (0 : Int)])))[3]? with
                    | none => none
                    | some x5 =>
                      bif (x5 == (224 : Int)) then
                        match c176 (0 : Int) with
                        | none => none
                        | some r6 =>
                          bif ((((List.length r6) : Nat) : Int) == (64 : Int)) then
                            match c178 with
                            | none => none
                            | some r7 =>
                              bif (((List.length r7) == 4) && true) then
                                some (!(r7 == ([(0 : Int), (0 : Int), (0 : Int), (0 : Int)] : List Int)))
                              else none
                          else
                            some false
                      else
                        some false
                  else
                    some false
              else
                some false
          else
            some false
      else none
    else none

/-- euphroe/euphroelaw04.Md4Blocks -/
def p168 (c174 : List Int → List Int → Option (List Int)) (c175 : List Int → List Int → Option (List Int)) (c176 : Int → Option (List Int)) (c177 : Int → Option (List Int)) (c23 : List Int → List Int → Option Bool) (c178 : Option (List Int)) (c179 : Option (List Int)) (c180 : Option Bool) (N : Nat) (a0 : List Int) (a1 : List Int) (a2 : Int) : Option Bool :=
  bif (decide (4 ≤ (List.length a0))) then
    bif (decide (64 ≤ (List.length a1))) then
      match c174 (List.take 4 (List.drop 0 a0)) (List.take 64 (List.drop 0 a1)) with
      | none => none
      | some r1 =>
        bif (decide (4 ≤ (List.length a0))) then
          bif (decide (64 ≤ (List.length a1))) then
            match c175 (List.take 4 (List.drop 0 a0)) (List.take 64 (List.drop 0 a1)) with
            | none => none
            | some r2 =>
              bif (((List.length r1) == 4) && ((List.length r2) == 4)) then
                bif (r1 == r2) then
                  match c176 a2 with
                  | none => none
                  | some r3 =>
                    match c177 a2 with
                    | none => none
                    | some r4 =>
                      match c23 r3 r4 with
                      | none => none
                      | some r5 =>
                        bif r5 then
                          match c178 with
                          | none => none
                          | some r6 =>
                            match c179 with
                            | none => none
                            | some r7 =>
                              bif (((List.length r6) == 4) && ((List.length r7) == 4)) then
                                bif (r6 == r7) then
                                  match c180 with
                                  | none => none
                                  | some r8 =>
                                    some r8
                                else
                                  some false
                              else none
                        else
                          some false
                else
                  some false
              else none
          else none
        else none
    else none
  else none

def L182_1 (c177 : Int → Option (List Int)) (c179 : Option (List Int)) (c175 : List Int → List Int → Option (List Int)) (N : Nat) (q1_2 : Nat → Int → List Int → List Int → List Int → List Int → Option (List Int)) : Nat → Nat → Int → Int → List Int → List Int → List Int → List Int → Option (List Int)
  | 0, _, _, _, _, _, _, _ => none
  | n1 + 1, v8, v9, v10, v11, v12, v13, v14 =>
    bif (decide (v10 < (64 : Int))) then
      bif ((decide ((0 : Int) ≤ (iadd .i64 v9 v10))) && (decide ((iadd .i64 v9 v10) < ((v8 : Nat) : Int)))) then
        match (v12)[(0 + ((Int.toNat (iadd .i64 v9 v10)) * 1))]? with
        | none => none
        | some x15 =>
          bif ((decide ((0 : Int) ≤ v10)) && (decide (v10 < (64 : Int)))) then
            bif (decide ((0 + ((Int.toNat v10) * 1)) < (List.length v14))) then
              L182_1 c177 c179 c175 N q1_2 n1 v8 v9 (iadd .i64 v10 (1 : Int)) v11 v12 v13 (List.set v14 (0 + ((Int.toNat v10) * 1)) x15)
            else none
          else none
      else none
    else
      q1_2 v8 v9 v11 v12 v13 v14
def L182_0 (c177 : Int → Option (List Int)) (c179 : Option (List Int)) (c175 : List Int → List Int → Option (List Int)) (N : Nat) (q0_0 : List Int → List Int → Option (List Int)) : Nat → Nat → Int → List Int → List Int → List Int → Option (List Int)
  | 0, _, _, _, _, _ => none
  | n0 + 1, v3, v4, v5, v6, v7 =>
    bif (decide (v4 < ((v3 : Nat) : Int))) then
      L182_1 c177 c179 c175 N (fun (y16 : Nat) (y17 : Int) (y18 : List Int) (y19 : List Int) (y20 : List Int) (y21 : List Int) =>
          bif (decide (4 ≤ (List.length y20))) then
            bif (decide (64 ≤ (List.length y21))) then
              match c175 (List.take 4 (List.drop 0 y20)) (List.take 64 (List.drop 0 y21)) with
              | none => none
              | some r22 =>
                bif ((List.length r22) == 4) then
                  bif (decide ((0 + (List.length r22)) ≤ (List.length y20))) then
                    L182_0 c177 c179 c175 N q0_0 n0 y16 (iadd .i64 y17 (64 : Int)) y18 y19 (((List.take 0 y20) ++ r22) ++ (List.drop (0 + (List.length r22)) y20))
                  else none
                else none
            else none
          else none) N v3 v4 (0 : Int) v5 v6 v7 ([(0 : Int), (0 : Int), (0 : Int), (0 : Int), (0 : Int), (0 : Int), (0 : Int), (0 : Int), (0 : Int), (0 : Int), (0 : Int), (0 : Int), (0 : Int), (0 : Int), (0 : Int), (0 : Int), (0 : Int), (0 : Int), (0 : Int), (0 : Int), (0 : Int), (0 : Int), (0 : Int), (0 : Int), (0 : Int), (0 : Int), (0 : Int), (0 : Int), (0 : Int), (0 : Int), (0 : Int), (0 : Int), (0 : Int), (0 : Int), (0 : Int), (0 : Int), (0 : Int), (0 : Int), (0 : Int), (0 : Int), (0 : Int), (0 : Int), (0 : Int), (0 : Int), (0 : Int), (0 : Int), (0 : Int), (0 : Int), (0 : Int), (0 : Int), (0 : Int), (0 : Int), (0 : Int), (0 : Int), (0 : Int), (0 : Int), (0 : Int), (0 : Int), (0 : Int), (0 : Int), (0 : Int), (0 : Int), (0 : Int), (0 : Int)] : List Int)
    else
      q0_0 v5 v7
def L182_2 (c177 : Int → Option (List Int)) (c179 : Option (List Int)) (c175 : List Int → List Int → Option (List Int)) (N : Nat) (q2_4 : List Int → List Int → Option (List Int)) : Nat → Int → List Int → List Int → List Int → Option (List Int)
  | 0, _, _, _, _ => none
  | n2 + 1, v25, v26, v27, v28 =>
    bif (decide (v25 < (16 : Int))) then
      bif ((decide ((0 : Int) ≤ (iquo .i64 v25 (4 : Int)))) && (decide ((iquo .i64 v25 (4 : Int)) < (4 : Int)))) then
        match (v27)[(0 + ((Int.toNat (iquo .i64 v25 (4 : Int))) * 1))]? with
        | none => none
        | some x29 =>
          bif (decide ((imul .i64 (8 : Int) (irem v25 (4 : Int))) < (0 : Int))) then
            none
          else
            bif ((decide ((0 : Int) ≤ v25)) && (decide (v25 < (16 : Int)))) then
              bif (decide ((0 + ((Int.toNat v25) * 1)) < (List.length v28))) then
                L182_2 c177 c179 c175 N q2_4 n2 (iadd .i64 v25 (1 : Int)) v26 v27 (List.set v28 (0 + ((Int.toNat v25) * 1)) (IntKind.wrap .u8 (ishr .u32 x29 (imul .i64 (8 : Int) (irem v25 (4 : Int))))))
              else none
            else none
      else none
    else
      q2_4 v26 v28
/-- euphroe/euphroeref04.Of -/
def p182 (c177 : Int → Option (List Int)) (c179 : Option (List Int)) (c175 : List Int → List Int → Option (List Int)) (N : Nat) (a0 : List Int) : Option (List Int) :=
  bif ((decide (((List.length a0) * 1) ≤ 1099511627776)) && (decide ((List.length a0) ≤ 1099511627776))) then
    match c177 (IntKind.wrap .u64 (((List.length a0) : Nat) : Int)) with
    | none => none
    | some r1 =>
      bif (((List.length a0) == ((List.length a0) * 1)) && ((decide ((((List.length a0) + (List.length r1)) * 1) ≤ 1099511627776)) && (decide (((List.length a0) + (List.length r1)) ≤ 1099511627776)))) then
        match c179 with
        | none => none
        | some r2 =>
          bif ((List.length r2) == 4) then
            bif (decide ((0 + (List.length r2)) ≤ 4)) then
              L182_0 c177 c179 c175 N (fun (y23 : List Int) (y24 : List Int) =>
                  L182_2 c177 c179 c175 N (fun (y30 : List Int) (y31 : List Int) =>
                      bif (decide (16 ≤ (List.length y31))) then
                        bif ((List.length (List.take 16 (List.drop 0 y31))) == 16) then
                          bif (decide ((0 + (List.length (List.take 16 (List.drop 0 y31)))) ≤ (List.length y30))) then
                            bif (decide (16 ≤ (List.length (((List.take 0 y30) ++ (List.take 16 (List.drop 0 y31))) ++ (List.drop (0 + (List.length (List.take 16 (List.drop 0 y31)))) y30))))) then
                              some (List.take 16 (List.drop 0 (((List.take 0 y30) ++ (List.take 16 (List.drop 0 y31))) ++ (List.drop (0 + (List.length (List.take 16 (List.drop 0 y31)))) y30))))
                            else none
                          else none
                        else none
                      else none) N (0 : Int) y23 y24 ([(0 : Int), (0 : Int), (0 : Int), (0 : Int), (0 : Int), (0 : Int), (0 : Int), (0 : Int), (0 : Int), (0 : Int), (0 : Int), (0 : Int), (0 : Int), (0 : Int), (0 : Int), (0 : Int)] : List Int)) N ((List.length a0) + (List.length r1)) (0 : Int) ([(0 : Int), (0 : Int), (0 : Int), (0 : Int), (0 : Int), (0 : Int), (0 : Int), (0 : Int), (0 : Int), (0 : Int), (0 : Int), (0 : Int), (0 : Int), (0 : Int), (0 : Int), (0 : Int)] : List Int) (a0 ++ r1) (([] ++ r2) ++ (List.drop (0 + (List.length r2)) [(0 : Int), (0 : Int), (0 : Int), (0 : Int)]))
            else none
          else none
      else none
  else none

/-- euphroe/euphroelaw04.Md4Is -/
def p169 (c180 : Option Bool) (c181 : List (List Int) → Option (List Int)) (c182 : List Int → Option (List Int)) (N : Nat) (a0 : List Int) : Option Bool :=
  bif (decide ((((List.length a0) : Nat) : Int) > (400 : Int))) then
    match c180 with
    | none => none
    | some r1 =>
      some r1
  else
    match c181 ([a0] : List (List Int)) with
    | none => none
    | some r2 =>
      match c182 a0 with
      | none => none
      | some r3 =>
        bif (((List.length r2) == 16) && ((List.length r3) == 16)) then
          bif (r2 == r3) then
            match c180 with
            | none => none
            | some r4 =>
              some r4
          else
            some false
        else none

def L170_0 (c180 : Option Bool) (c176 : Int → Option (List Int)) (c178 : Option (List Int)) (c174 : List Int → List Int → Option (List Int)) (c181 : List (List Int) → Option (List Int)) (N : Nat) (q0_0 : List (List Int) → Nat → List Int → Option Bool) : Nat → List (List Int) → Nat → List (List Int) → Int → Int → List Int → Option Bool
  | 0, _, _, _, _, _, _ => none
  | n0 + 1, v2, v3, v4, v5, v6, v7 =>
    bif (decide (v6 < v5)) then
      match geti v4 v6 with
      | none => none
      | some x8 =>
        bif (decide ((((List.length x8) : Nat) : Int) > (100 : Int))) then
          match c180 with
          | none => none
          | some r9 =>
            some r9
        else
          bif (((List.length v7) == (v3 * 1)) && ((decide (((v3 + (List.length x8)) * 1) ≤ 1099511627776)) && (decide ((v3 + (List.length x8)) ≤ 1099511627776)))) then
            L170_0 c180 c176 c178 c174 c181 N q0_0 n0 v2 (v3 + (List.length x8)) v4 v5 (iadd .i64 v6 (1 : Int)) (v7 ++ x8)
          else none
    else
      q0_0 v2 v3 v7
def L170_1 (c180 : Option Bool) (c176 : Int → Option (List Int)) (c178 : Option (List Int)) (c174 : List Int → List Int → Option (List Int)) (c181 : List (List Int) → Option (List Int)) (N : Nat) (q1_2 : List (List Int) → Nat → List Int → List Int → Option Bool) : Nat → List (List Int) → Nat → List Int → List Int → List Int → Option Bool
  | 0, _, _, _, _, _ => none
  | n1 + 1, v16, v17, v18, v19, v20 =>
    bif (decide ((((List.length v18) : Nat) : Int) > (0 : Int))) then
      bif (decide (4 ≤ (List.length v20))) then
        bif (decide ((64 : Int) ≤ (((List.length v18) : Nat) : Int))) then
          bif (decide (64 ≤ (List.length (List.take 64 v18)))) then
            bif (decide (64 ≤ (List.length (List.take 64 v18)))) then
              match c174 (List.take 4 (List.drop 0 v20)) (List.take 64 (List.drop 0 (List.take 64 v18))) with
              | none => none
              | some r21 =>
                bif ((List.length r21) == 4) then
                  bif (decide ((0 + (List.length r21)) ≤ (List.length v20))) then
                    bif (decide ((64 : Int) ≤ (((List.length v18) : Nat) : Int))) then
                      L170_1 c180 c176 c178 c174 c181 N q1_2 n1 v16 v17 (List.drop 64 v18) v19 (((List.take 0 v20) ++ r21) ++ (List.drop (0 + (List.length r21)) v20))
                    else none
                  else none
                else none
            else none
          else none
        else none
      else none
    else
      q1_2 v16 v17 v19 v20
/-- euphroe/euphroelaw04.Md4Parts -/
def p170 (c180 : Option Bool) (c176 : Int → Option (List Int)) (c178 : Option (List Int)) (c174 : List Int → List Int → Option (List Int)) (c181 : List (List Int) → Option (List Int)) (N : Nat) (a0 : List (List Int)) : Option Bool :=
  bif (decide ((((List.length a0) : Nat) : Int) > (20 : Int))) then
    match c180 with
    | none => none
    | some r1 =>
      some r1
  else
    L170_0 c180 c176 c178 c174 c181 N (fun (y10 : List (List Int)) (y11 : Nat) (y12 : List Int) =>
        match c176 (IntKind.wrap .u64 ((y11 : Nat) : Int)) with
        | none => none
        | some r13 =>
          bif ((irem (iadd .i64 ((y11 : Nat) : Int) (((List.length r13) : Nat) : Int)) (64 : Int)) != (0 : Int)) then
            some false
          else
            bif (decide ((((List.length r13) : Nat) : Int) < (9 : Int))) then
              some false
            else
              bif (decide ((((List.length r13) : Nat) : Int) > (72 : Int))) then
                some false
              else
                match geti r13 (0 : Int) with
                | none => none
                | some x14 =>
                  bif (x14 != (128 : Int)) then
                    some false
                  else
                    match c178 with
                    | none => none
                    | some r15 =>
                      bif ((List.length r15) == 4) then
                        bif (decide ((0 + (List.length r15)) ≤ 4)) then
                          bif (decide ((0 + (y11 * 1)) ≤ (List.length y12))) then
                            bif ((decide ((y11 * 1) ≤ 1099511627776)) && (decide (y11 ≤ 1099511627776))) then
                              bif (((List.length (List.take (y11 * 1) (List.drop 0 y12))) == (y11 * 1)) && ((decide (((y11 + (List.length r13)) * 1) ≤ 1099511627776)) && (decide ((y11 + (List.length r13)) ≤ 1099511627776)))) then
                                bif (decide ((0 + ((y11 + (List.length r13)) * 1)) ≤ (List.length ((List.take (y11 * 1) (List.drop 0 y12)) ++ r13)))) then
                                  L170_1 c180 c176 c178 c174 c181 N (fun (y22 : List (List Int)) (y23 : Nat) (y24 : List Int) (y25 : List Int) =>
                                      bif (decide ((0 + (y23 * 1)) ≤ (List.length y24))) then
                                        match c181 ([(List.take y23 (List.drop 0 y24))] : List (List Int)) with
                                        | none => none
                                        | some r26 =>
                                          bif ((List.length r26) == 16) then
                                            bif (decide ((0 + (List.length r26)) ≤ 16)) then
                                              match c181 y22 with
                                              | none => none
                                              | some r27 =>
                                                bif (decide (16 ≤ (List.length (([] ++ r26) ++ (List.drop (0 + (List.length r26)) [(0 : Int), (0 : Int), (0 : Int), (0 : Int), (0 : Int), (0 : Int), (0 : Int), (0 : Int), (0 : Int), (0 : Int), (0 : Int), (0 : Int), (0 : Int), (0 : Int), (0 : Int), (0 : Int)]))))) then
                                                  bif (((List.length r27) == 16) && ((List.length (List.take 16 (List.drop 0 (([] ++ r26) ++ (List.drop (0 + (List.length r26)) [(0 : Int), (0 : Int), (0 : Int), (0 : Int), (0 : Int), (0 : Int), (0 : Int), (0 : Int), (0 : Int), (0 : Int), (0 : Int), (0 : Int), (0 : Int), (0 : Int), (0 : Int), (0 : Int)]))))) == 16)) then
                                                    bif (r27 == (List.take 16 (List.drop 0 (([] ++ r26) ++ (List.drop (0 + (List.length r26)) [(0 : Int), (0 : Int), (0 : Int), (0 : Int), (0 : Int), (0 : Int), (0 : Int), (0 : Int), (0 : Int), (0 : Int), (0 : Int), (0 : Int), (0 : Int), (0 : Int), (0 : Int), (0 : Int)]))))) then
                                                      match ((([] ++ r26) ++ (List.drop (0 + (List.length r26)) [(0 : Int), (0 : Int), (0 : Int), (0 : Int), (0 : Int), (0 : Int), (0 : Int), (0 : Int), (0 : Int), (0 : Int), (0 : Int), (0 : Int), (0 : Int), (0 : Int), (0 : Int), (0 : Int)])))[0]? with
                                                      | none => none
                                                      | some x28 =>
                                                        match (y25)[0]? with
                                                        | none => none
                                                        | some x29 =>
                                                          bif (x28 == (IntKind.wrap .u8 x29)) then
                                                            match ((([] ++ r26) ++ (List.drop (0 + (List.length r26)) [(0 : Int), (0 : Int), (0 : Int), (0 : Int), (0 : Int), (0 : Int), (0 : Int), (0 : Int), (0 : Int), (0 : Int), (0 : Int), (0 : Int), (0 : Int), (0 : Int), (0 : Int), (0 : Int)])))[15]? with
                                                            | none => none
                                                            | some x30 =>
                                                              match (y25)[3]? with
                                                              | none => none
                                                              | some x31 =>
                                                                bif (x30 == (IntKind.wrap .u8 (ishr .u32 x31 (24 : Int)))) then
                                                                  match c180 with
                                                                  | none => none
                                                                  | some r32 =>
                                                                    some r32
                                                                else
                                                                  some false
                                                          else
                                                            some false
                                                    else
                                                      some false
                                                  else none
                                                else none
                                            else none
                                          else none
                                      else none) N y10 y11 (List.take (y11 + (List.length r13)) (List.drop 0 ((List.take (y11 * 1) (List.drop 0 y12)) ++ r13))) y12 (([] ++ r15) ++ (List.drop (0 + (List.length r15)) [(0 : Int), (0 : Int), (0 : Int), (0 : Int)]))
                                else none
                              else none
                            else none
                          else none
                        else none
                      else none) N a0 0 a0 (((List.length a0) : Nat) : Int) (0 : Int) ([] : List Int)

def L199_0 (c21 : List Int → Bool → Option (Int × Int)) (c195 : Int → Int → Option Int) (N : Nat) (q0_0 : List Int → List Int → Option (List Int)) : Nat → Int → List Int → List Int → List Int → Option (List Int)
  | 0, _, _, _, _ => none
  | n0 + 1, v1, v2, v3, v4 =>
    bif (decide (v1 < (80 : Int))) then
      bif (decide (v1 < (16 : Int))) then
        bif (decide (64 ≤ (List.length v2))) then
          bif ((decide ((0 : Int) ≤ (iadd .i64 (imul .i64 (4 : Int) v1) (4 : Int)))) && (decide ((iadd .i64 (imul .i64 (4 : Int) v1) (4 : Int)) ≤ (64 : Int)))) then
            bif ((decide ((0 : Int) ≤ (imul .i64 (4 : Int) v1))) && (decide ((imul .i64 (4 : Int) v1) ≤ (((Int.toNat (iadd .i64 (imul .i64 (4 : Int) v1) (4 : Int))) : Nat) : Int)))) then
              bif (decide (((0 + ((Int.toNat (imul .i64 (4 : Int) v1)) * 1)) + (((Int.toNat (iadd .i64 (imul .i64 (4 : Int) v1) (4 : Int))) - (Int.toNat (imul .i64 (4 : Int) v1))) * 1)) ≤ (List.length v2))) then
                match c21 (List.take ((Int.toNat (iadd .i64 (imul .i64 (4 : Int) v1) (4 : Int))) - (Int.toNat (imul .i64 (4 : Int) v1))) (List.drop (0 + ((Int.toNat (imul .i64 (4 : Int) v1)) * 1)) v2)) false with
                | none => none
                | some r5 =>
                  bif ((decide ((0 : Int) ≤ v1)) && (decide (v1 < (80 : Int)))) then
                    bif (decide ((0 + ((Int.toNat v1) * 1)) < (List.length v4))) then
                      L199_0 c21 c195 N q0_0 n0 (iadd .i64 v1 (1 : Int)) v2 v3 (List.set v4 (0 + ((Int.toNat v1) * 1)) (IntKind.wrap .u32 r5.1))
                    else none
                  else none
              else none
            else none
          else none
        else none
      else
        bif ((decide ((0 : Int) ≤ (isub .i64 v1 (3 : Int)))) && (decide ((isub .i64 v1 (3 : Int)) < (80 : Int)))) then
          match (v4)[(0 + ((Int.toNat (isub .i64 v1 (3 : Int))) * 1))]? with
          | none => none
          | some x6 =>
            bif ((decide ((0 : Int) ≤ (isub .i64 v1 (8 : Int)))) && (decide ((isub .i64 v1 (8 : Int)) < (80 : Int)))) then
              match (v4)[(0 + ((Int.toNat (isub .i64 v1 (8 : Int))) * 1))]? with
              | none => none
              | some x7 =>
                bif ((decide ((0 : Int) ≤ (isub .i64 v1 (14 : Int)))) && (decide ((isub .i64 v1 (14 : Int)) < (80 : Int)))) then
                  match (v4)[(0 + ((Int.toNat (isub .i64 v1 (14 : Int))) * 1))]? with
                  | none => none
                  | some x8 =>
                    bif ((decide ((0 : Int) ≤ (isub .i64 v1 (16 : Int)))) && (decide ((isub .i64 v1 (16 : Int)) < (80 : Int)))) then
                      match (v4)[(0 + ((Int.toNat (isub .i64 v1 (16 : Int))) * 1))]? with
                      | none => none
                      | some x9 =>
                        match c195 (ixor .u32 (ixor .u32 (ixor .u32 x6 x7) x8) x9) (1 : Int) with
                        | none => none
                        | some r10 =>
                          bif ((decide ((0 : Int) ≤ v1)) && (decide (v1 < (80 : Int)))) then
                            bif (decide ((0 + ((Int.toNat v1) * 1)) < (List.length v4))) then
                              L199_0 c21 c195 N q0_0 n0 (iadd .i64 v1 (1 : Int)) v2 v3 (List.set v4 (0 + ((Int.toNat v1) * 1)) r10)
                            else none
                          else none
                    else none
                else none
            else none
        else none
    else
      q0_0 v3 v4
/-- euphroe/sha1.spread -/
def p199 (c21 : List Int → Bool → Option (Int × Int)) (c195 : Int → Int → Option Int) (N : Nat) (a0 : List Int) : Option (List Int) :=
  L199_0 c21 c195 N (fun (y11 : List Int) (y12 : List Int) =>
      bif (decide (80 ≤ (List.length y12))) then
        bif ((List.length (List.take 80 (List.drop 0 y12))) == 80) then
          bif (decide ((0 + (List.length (List.take 80 (List.drop 0 y12)))) ≤ (List.length y11))) then
            bif (decide (80 ≤ (List.length (((List.take 0 y11) ++ (List.take 80 (List.drop 0 y12))) ++ (List.drop (0 + (List.length (List.take 80 (List.drop 0 y12)))) y11))))) then
              some (List.take 80 (List.drop 0 (((List.take 0 y11) ++ (List.take 80 (List.drop 0 y12))) ++ (List.drop (0 + (List.length (List.take 80 (List.drop 0 y12)))) y11))))
            else none
          else none
        else none
      else none) N (0 : Int) a0 ([(0 : Int), (0 : Int), (0 : Int), (0 : Int), (0 : Int), (0 : Int), (0 : Int), (0 : Int), (0 : Int), (0 : Int), (0 : Int), (0 : Int), (0 : Int), (0 : Int), (0 : Int), (0 : Int), (0 : Int), (0 : Int), (0 : Int), (0 : Int), (0 : Int), (0 : Int), (0 : Int), (0 : Int), (0 : Int), (0 : Int), (0 : Int), (0 : Int), (0 : Int), (0 : Int), (0 : Int), (0 : Int), (0 : Int), (0 : Int), (0 : Int), (0 : Int), (0 : Int), (0 : Int), (0 : Int), (0 : Int), (0 : Int), (0 : Int), (0 : Int), (0 : Int), (0 : Int), (0 : Int), (0 : Int), (0 : Int), (0 : Int), (0 : Int), (0 : Int), (0 : Int), (0 : Int), (0 : Int), (0 : Int), (0 : Int), (0 : Int), (0 : Int), (0 : Int), (0 : Int), (0 : Int), (0 : Int), (0 : Int), (0 : Int), (0 : Int), (0 : Int), (0 : Int), (0 : Int), (0 : Int), (0 : Int), (0 : Int), (0 : Int), (0 : Int), (0 : Int), (0 : Int), (0 : Int), (0 : Int), (0 : Int), (0 : Int), (0 : Int)] : List Int) ([(0 : Int), (0 : Int), (0 : Int), (0 : Int), (0 : Int), (0 : Int), (0 : Int), (0 : Int), (0 : Int), (0 : Int), (0 : Int), (0 : Int), (0 : Int), (0 : Int), (0 : Int), (0 : Int), (0 : Int), (0 : Int), (0 : Int), (0 : Int), (0 : Int), (0 : Int), (0 : Int), (0 : Int), (0 : Int), (0 : Int), (0 : Int), (0 : Int), (0 : Int), (0 : Int), (0 : Int), (0 : Int), (0 : Int), (0 : Int), (0 : Int), (0 : Int), (0 : Int), (0 : Int), (0 : Int), (0 : Int), (0 : Int), (0 : Int), (0 : Int), (0 : Int), (0 : Int), (0 : Int), (0 : Int), (0 : Int), (0 : Int), (0 : Int), (0 : Int), (0 : Int), (0 : Int), (0 : Int), (0 : Int), (0 : Int), (0 : Int), (0 : Int), (0 : Int), (0 : Int), (0 : Int), (0 : Int), (0 : Int), (0 : Int), (0 : Int), (0 : Int), (0 : Int), (0 : Int), (0 : Int), (0 : Int), (0 : Int), (0 : Int), (0 : Int), (0 : Int), (0 : Int), (0 : Int), (0 : Int), (0 : Int), (0 : Int), (0 : Int)] : List Int)

def L200_0 (c75 : Int → Int → Int → Option (Int × Int)) (N : Nat) (q0_0 : List Int → List Int → Option (List Int)) : Nat → List Int → Int → List Int → List Int → Option (List Int)
  | 0, _, _, _, _ => none
  | n0 + 1, v1, v2, v3, v4 =>
    bif (decide (v2 < (4 : Int))) then
      bif ((decide ((0 : Int) ≤ v2)) && (decide (v2 < (4 : Int)))) then
        match (v1)[((Int.toNat v2) * 1)]? with
        | none => none
        | some x5 =>
          match c75 x5 (2 : Int) (30 : Int) with
          | none => none
          | some r6 =>
            bif ((decide ((0 : Int) ≤ v2)) && (decide (v2 < (4 : Int)))) then
              bif (decide ((0 + ((Int.toNat v2) * 1)) < (List.length v4))) then
                L200_0 c75 N q0_0 n0 v1 (iadd .i64 v2 (1 : Int)) v3 (List.set v4 (0 + ((Int.toNat v2) * 1)) (IntKind.wrap .u32 r6.1))
              else none
            else none
      else none
    else
      q0_0 v3 v4
/-- euphroe/sha1.constants -/
def p200 (c75 : Int → Int → Int → Option (Int × Int)) (N : Nat)  : Option (List Int) :=
  L200_0 c75 N (fun (y7 : List Int) (y8 : List Int) =>
      bif (decide (4 ≤ (List.length y8))) then
        bif ((List.length (List.take 4 (List.drop 0 y8))) == 4) then
          bif (decide ((0 + (List.length (List.take 4 (List.drop 0 y8)))) ≤ (List.length y7))) then
            bif (decide (4 ≤ (List.length (((List.take 0 y7) ++ (List.take 4 (List.drop 0 y8))) ++ (List.drop (0 + (List.length (List.take 4 (List.drop 0 y8)))) y7))))) then
              some (List.take 4 (List.drop 0 (((List.take 0 y7) ++ (List.take 4 (List.drop 0 y8))) ++ (List.drop (0 + (List.length (List.take 4 (List.drop 0 y8)))) y7))))
            else none
          else none
        else none
      else none) N ([(2 : Int), (3 : Int), (5 : Int), (10 : Int)] : List Int) (0 : Int) ([(0 : Int), (0 : Int), (0 : Int), (0 : Int)] : List Int) ([(0 : Int), (0 : Int), (0 : Int), (0 : Int)] : List Int)

/-- euphroe/sha1.choose -/
def p201 (N : Nat) (a0 : Int) (a1 : Int) (a2 : Int) (a3 : Int) : Option Int :=
  bif (a0 == (0 : Int)) then
    some (ixor .u32 a3 (iand .u32 a1 (ixor .u32 a2 a3)))
  else
    bif (a0 == (2 : Int)) then
      some (ior .u32 (iand .u32 a1 a2) (iand .u32 a3 (ior .u32 a1 a2)))
    else
      some (ixor .u32 (ixor .u32 a1 a2) a3)

def L183_0 (c199 : List Int → Option (List Int)) (c200 : Option (List Int)) (c195 : Int → Int → Option Int) (c201 : Int → Int → Int → Int → Option Int) (N : Nat) (q0_0 : List Int → List Int → List Int → Option (List Int)) : Nat → Int → List Int → List Int → List Int → List Int → List Int → Option (List Int)
  | 0, _, _, _, _, _, _ => none
  | n0 + 1, v3, v4, v5, v6, v7, v8 =>
    bif (decide (v3 < (80 : Int))) then
      match (v8)[0]? with
      | none => none
      | some x9 =>
        match c195 x9 (5 : Int) with
        | none => none
        | some r10 =>
          match (v8)[1]? with
          | none => none
          | some x11 =>
            match (v8)[2]? with
            | none => none
            | some x12 =>
              match (v8)[3]? with
              | none => none
              | some x13 =>
                match c201 (iquo .i64 v3 (20 : Int)) x11 x12 x13 with
                | none => none
                | some r14 =>
                  match (v8)[4]? with
                  | none => none
                  | some x15 =>
                    bif ((decide ((0 : Int) ≤ (iquo .i64 v3 (20 : Int)))) && (decide ((iquo .i64 v3 (20 : Int)) < (4 : Int)))) then
                      match (v7)[(0 + ((Int.toNat (iquo .i64 v3 (20 : Int))) * 1))]? with
                      | none => none
                      | some x16 =>
                        bif ((decide ((0 : Int) ≤ v3)) && (decide (v3 < (80 : Int)))) then
                          match (v6)[(0 + ((Int.toNat v3) * 1))]? with
                          | none => none
                          | some x17 =>
                            match (v8)[0]? with
                            | none => none
                            | some x18 =>
                              match (v8)[1]? with
                              | none => none
                              | some x19 =>
                                match c195 x19 (30 : Int) with
                                | none => none
                                | some r20 =>
                                  match (v8)[2]? with
                                  | none => none
                                  | some x21 =>
                                    match (v8)[3]? with
                                    | none => none
                                    | some x22 =>
                                      bif (decide (5 ≤ (List.length v8))) then
                                        L183_0 c199 c200 c195 c201 N q0_0 n0 (iadd .i64 v3 (1 : Int)) v4 v5 v6 v7 (((List.take 0 v8) ++ [(iadd .u32 (iadd .u32 (iadd .u32 (iadd .u32 r10 r14) x15) x16) x17), x18, r20, x21, x22]) ++ (List.drop 5 v8))
                                      else none
                        else none
                    else none
    else
      q0_0 v4 v5 v8
def L183_1 (c199 : List Int → Option (List Int)) (c200 : Option (List Int)) (c195 : Int → Int → Option Int) (c201 : Int → Int → Int → Int → Option Int) (N : Nat) (q1_2 : List Int → List Int → Option (List Int)) : Nat → Int → List Int → List Int → List Int → Option (List Int)
  | 0, _, _, _, _ => none
  | n1 + 1, v26, v27, v28, v29 =>
    bif (decide (v26 < (5 : Int))) then
      bif ((decide ((0 : Int) ≤ v26)) && (decide (v26 < (5 : Int)))) then
        match (v29)[(0 + ((Int.toNat v26) * 1))]? with
        | none => none
        | some x30 =>
          bif ((decide ((0 : Int) ≤ v26)) && (decide (v26 < (5 : Int)))) then
            match (v27)[(0 + ((Int.toNat v26) * 1))]? with
            | none => none
            | some x31 =>
              bif ((decide ((0 : Int) ≤ v26)) && (decide (v26 < (5 : Int)))) then
                bif (decide ((0 + ((Int.toNat v26) * 1)) < (List.length v29))) then
                  L183_1 c199 c200 c195 c201 N q1_2 n1 (iadd .i64 v26 (1 : Int)) v27 v28 (List.set v29 (0 + ((Int.toNat v26) * 1)) (iadd .u32 x30 x31))
                else none
              else none
          else none
      else none
    else
      q1_2 v28 v29
/-- euphroe/sha1.Block -/
def p183 (c199 : List Int → Option (List Int)) (c200 : Option (List Int)) (c195 : Int → Int → Option Int) (c201 : Int → Int → Int → Int → Option Int) (N : Nat) (a0 : List Int) (a1 : List Int) : Option (List Int) :=
  bif (decide (64 ≤ (List.length a1))) then
    match c199 (List.take 64 (List.drop 0 a1)) with
    | none => none
    | some r1 =>
      match c200 with
      | none => none
      | some r2 =>
        bif ((List.length r1) == 80) then
          bif (decide ((0 + (List.length r1)) ≤ 80)) then
            bif ((List.length r2) == 4) then
              bif (decide ((0 + (List.length r2)) ≤ 4)) then
                bif (decide (5 ≤ (List.length a0))) then
                  bif ((List.length (List.take 5 (List.drop 0 a0))) == 5) then
                    bif (decide ((0 + (List.length (List.take 5 (List.drop 0 a0)))) ≤ 5)) then
                      L183_0 c199 c200 c195 c201 N (fun (y23 : List Int) (y24 : List Int) (y25 : List Int) =>
                          L183_1 c199 c200 c195 c201 N (fun (y32 : List Int) (y33 : List Int) =>
                              bif (decide (5 ≤ (List.length y33))) then
                                bif ((List.length (List.take 5 (List.drop 0 y33))) == 5) then
                                  bif (decide ((0 + (List.length (List.take 5 (List.drop 0 y33)))) ≤ (List.length y32))) then
                                    bif (decide (5 ≤ (List.length (((List.take 0 y32) ++ (List.take 5 (List.drop 0 y33))) ++ (List.drop (0 + (List.length (List.take 5 (List.drop 0 y33)))) y32))))) then
                                      some (List.take 5 (List.drop 0 (((List.take 0 y32) ++ (List.take 5 (List.drop 0 y33))) ++ (List.drop (0 + (List.length (List.take 5 (List.drop 0 y33)))) y32))))
                                    else none
                                  else none
                                else none
                              else none) N (0 : Int) y23 y24 y25) N (0 : Int) a0 ([(0 : Int), (0 : Int), (0 : Int), (0 : Int), (0 : Int)] : List Int) (([] ++ r1) ++ (List.drop (0 + (List.length r1)) [(0 : Int), (0 : Int), (0 : Int), (0 : Int), (0 : Int), (0 : Int), (0 : Int), (0 : Int), (0 : Int), (0 : Int), (0 : Int), (0 : Int), (0 : Int), (0 : Int), (0 : Int), (0 : Int), (0 : Int), (0 : Int), (0 : Int), (0 : Int), (0 : Int), (0 : Int), (0 : Int), (0 : Int), (0 : Int), (0 : Int), (0 : Int), (0 : Int), (0 : Int), (0 : Int), (0 : Int), (0 : Int), (0 : Int), (0 : Int), (0 : Int), (0 : Int), (0 : Int), (0 : Int), (0 : Int), (0 : Int), (0 : Int), (0 : Int), (0 : Int), (0 : Int), (0 : Int), (0 : Int), (0 : Int), (0 : Int), (0 : Int), (0 : Int), (0 : Int), (0 : Int), (0 : Int), (0 : Int), (0 : Int), (0 : Int), (0 : Int), (0 : Int), (0 : Int), (0 : Int), (0 : Int), (0 : Int), (0 : Int), (0 : Int), (0 : Int), (0 : Int), (0 : Int), (0 : Int), (0 : Int), (0 : Int), (0 : Int), (0 : Int), (0 : Int), (0 : Int), (0 : Int), (0 : Int), (0 : Int), (0 : Int), (0 : Int), (0 : Int)])) (([] ++ r2) ++ (List.drop (0 + (List.length r2)) [(0 : Int), (0 : Int), (0 : Int), (0 : Int)])) (([] ++ (List.take 5 (List.drop 0 a0))) ++ (List.drop (0 + (List.length (List.take 5 (List.drop 0 a0)))) [(0 : Int), (0 : Int), (0 : Int), (0 : Int), (0 : Int)]))
                    else none
                  else none
                else none
              else none
            else none
          else none
        else none
  else none

/-- euphroe/euphroeref05.turn -/
def p202 (N : Nat) (a0 : Int) (a1 : Int) : Option Int :=
  bif (decide (a1 < (0 : Int))) then
    none
  else
    bif (decide ((isub .i64 (32 : Int) a1) < (0 : Int))) then
      none
    else
      some (ior .u32 (ishl .u32 a0 a1) (ishr .u32 a0 (isub .i64 (32 : Int) a1)))

/-- euphroe/euphroeref05.mix -/
def p203 (N : Nat) (a0 : Int) (a1 : Int) (a2 : Int) (a3 : Int) : Option Int :=
  bif ((iquo .i64 a0 (20 : Int)) == (0 : Int)) then
    some (iadd .u32 (ior .u32 (iand .u32 a1 a2) (iand .u32 (isub .u32 (4294967295 : Int) a1) a3)) (1518500249 : Int))
  else
    bif ((iquo .i64 a0 (20 : Int)) == (1 : Int)) then
      some (iadd .u32 (ixor .u32 (ixor .u32 a1 a2) a3) (1859775393 : Int))
    else
      bif ((iquo .i64 a0 (20 : Int)) == (2 : Int)) then
        some (iadd .u32 (ior .u32 (ior .u32 (iand .u32 a1 a2) (iand .u32 a1 a3)) (iand .u32 a2 a3)) (2400959708 : Int))
      else
        some (iadd .u32 (ixor .u32 (ixor .u32 a1 a2) a3) (3395469782 : Int))

def L184_0 (c202 : Int → Int → Option Int) (c203 : Int → Int → Int → Int → Option Int) (N : Nat) (q0_0 : List Int → List Int → List Int → Option (List Int)) : Nat → Int → List Int → List Int → List Int → List Int → Option (List Int)
  | 0, _, _, _, _, _ => none
  | n0 + 1, v1, v2, v3, v4, v5 =>
    bif (decide (v1 < (80 : Int))) then
      bif (decide (v1 < (16 : Int))) then
        bif ((decide ((0 : Int) ≤ (imul .i64 (4 : Int) v1))) && (decide ((imul .i64 (4 : Int) v1) < (64 : Int)))) then
          match (v3)[(0 + ((Int.toNat (imul .i64 (4 : Int) v1)) * 1))]? with
          | none => none
          | some x6 =>
            bif ((decide ((0 : Int) ≤ (iadd .i64 (imul .i64 (4 : Int) v1) (1 : Int)))) && (decide ((iadd .i64 (imul .i64 (4 : Int) v1) (1 : Int)) < (64 : Int)))) then
              match (v3)[(0 + ((Int.toNat (iadd .i64 (imul .i64 (4 : Int) v1) (1 : Int))) * 1))]? with
              | none => none
              | some x7 =>
                bif ((decide ((0 : Int) ≤ (iadd .i64 (imul .i64 (4 : Int) v1) (2 : Int)))) && (decide ((iadd .i64 (imul .i64 (4 : Int) v1) (2 : Int)) < (64 : Int)))) then
                  match (v3)[(0 + ((Int.toNat (iadd .i64 (imul .i64 (4 : Int) v1) (2 : Int))) * 1))]? with
                  | none => none
                  | some x8 =>
                    bif ((decide ((0 : Int) ≤ (iadd .i64 (imul .i64 (4 : Int) v1) (3 : Int)))) && (decide ((iadd .i64 (imul .i64 (4 : Int) v1) (3 : Int)) < (64 : Int)))) then
                      match (v3)[(0 + ((Int.toNat (iadd .i64 (imul .i64 (4 : Int) v1) (3 : Int))) * 1))]? with
                      | none => none
                      | some x9 =>
                        bif ((decide ((0 : Int) ≤ v1)) && (decide (v1 < (80 : Int)))) then
                          bif (decide ((0 + ((Int.toNat v1) * 1)) < (List.length v5))) then
                            L184_0 c202 c203 N q0_0 n0 (iadd .i64 v1 (1 : Int)) v2 v3 v4 (List.set v5 (0 + ((Int.toNat v1) * 1)) (iadd .u32 (iadd .u32 (iadd .u32 (imul .u32 (IntKind.wrap .u32 x6) (16777216 : Int)) (imul .u32 (IntKind.wrap .u32 x7) (65536 : Int))) (imul .u32 (IntKind.wrap .u32 x8) (256 : Int))) (IntKind.wrap .u32 x9)))
                          else none
                        else none
                    else none
                else none
            else none
        else none
      else
        bif ((decide ((0 : Int) ≤ (isub .i64 v1 (3 : Int)))) && (decide ((isub .i64 v1 (3 : Int)) < (80 : Int)))) then
          match (v5)[(0 + ((Int.toNat (isub .i64 v1 (3 : Int))) * 1))]? with
          | none => none
          | some x10 =>
            bif ((decide ((0 : Int) ≤ (isub .i64 v1 (8 : Int)))) && (decide ((isub .i64 v1 (8 : Int)) < (80 : Int)))) then
              match (v5)[(0 + ((Int.toNat (isub .i64 v1 (8 : Int))) * 1))]? with
              | none => none
              | some x11 =>
                bif ((decide ((0 : Int) ≤ (isub .i64 v1 (14 : Int)))) && (decide ((isub .i64 v1 (14 : Int)) < (80 : Int)))) then
                  match (v5)[(0 + ((Int.toNat (isub .i64 v1 (14 : Int))) * 1))]? with
                  | none => none
                  | some x12 =>
                    bif ((decide ((0 : Int) ≤ (isub .i64 v1 (16 : Int)))) && (decide ((isub .i64 v1 (16 : Int)) < (80 : Int)))) then
                      match (v5)[(0 + ((Int.toNat (isub .i64 v1 (16 : Int))) * 1))]? with
                      | none => none
                      | some x13 =>
                        match c202 (ixor .u32 (ixor .u32 (ixor .u32 x10 x11) x12) x13) (1 : Int) with
                        | none => none
                        | some r14 =>
                          bif ((decide ((0 : Int) ≤ v1)) && (decide (v1 < (80 : Int)))) then
                            bif (decide ((0 + ((Int.toNat v1) * 1)) < (List.length v5))) then
                              L184_0 c202 c203 N q0_0 n0 (iadd .i64 v1 (1 : Int)) v2 v3 v4 (List.set v5 (0 + ((Int.toNat v1) * 1)) r14)
                            else none
                          else none
                    else none
                else none
            else none
        else none
    else
      q0_0 v2 v4 v5
def L184_1 (c202 : Int → Int → Option Int) (c203 : Int → Int → Int → Int → Option Int) (N : Nat) (q1_2 : List Int → List Int → List Int → Option (List Int)) : Nat → Int → List Int → List Int → List Int → List Int → Option (List Int)
  | 0, _, _, _, _, _ => none
  | n1 + 1, v18, v19, v20, v21, v22 =>
    bif (decide (v18 < (80 : Int))) then
      match (v22)[0]? with
      | none => none
      | some x23 =>
        match c202 x23 (5 : Int) with
        | none => none
        | some r24 =>
          match (v22)[1]? with
          | none => none
          | some x25 =>
            match (v22)[2]? with
            | none => none
            | some x26 =>
              match (v22)[3]? with
              | none => none
              | some x27 =>
                match c203 v18 x25 x26 x27 with
                | none => none
                | some r28 =>
                  match (v22)[4]? with
                  | none => none
                  | some x29 =>
                    bif ((decide ((0 : Int) ≤ v18)) && (decide (v18 < (80 : Int)))) then
                      match (v21)[(0 + ((Int.toNat v18) * 1))]? with
                      | none => none
                      | some x30 =>
                        match (v22)[0]? with
                        | none => none
                        | some x31 =>
                          match (v22)[1]? with
                          | none => none
                          | some x32 =>
                            match c202 x32 (30 : Int) with
                            | none => none
                            | some r33 =>
                              match (v22)[2]? with
                              | none => none
                              | some x34 =>
                                match (v22)[3]? with
                                | none => none
                                | some x35 =>
                                  bif (decide (5 ≤ (List.length v22))) then
                                    L184_1 c202 c203 N q1_2 n1 (iadd .i64 v18 (1 : Int)) v19 v20 v21 (((List.take 0 v22) ++ [(iadd .u32 (iadd .u32 (iadd .u32 r24 r28) x29) x30), x31, r33, x34, x35]) ++ (List.drop 5 v22))
                                  else none
                    else none
    else
      q1_2 v19 v20 v22
def L184_2 (c202 : Int → Int → Option Int) (c203 : Int → Int → Int → Int → Option Int) (N : Nat) (q2_4 : List Int → List Int → Option (List Int)) : Nat → Int → List Int → List Int → List Int → Option (List Int)
  | 0, _, _, _, _ => none
  | n2 + 1, v39, v40, v41, v42 =>
    bif (decide (v39 < (5 : Int))) then
      bif ((decide ((0 : Int) ≤ v39)) && (decide (v39 < (5 : Int)))) then
        match (v42)[(0 + ((Int.toNat v39) * 1))]? with
        | none => none
        | some x43 =>
          bif ((decide ((0 : Int) ≤ v39)) && (decide (v39 < (5 : Int)))) then
            match (v40)[(0 + ((Int.toNat v39) * 1))]? with
            | none => none
            | some x44 =>
              bif ((decide ((0 : Int) ≤ v39)) && (decide (v39 < (5 : Int)))) then
                bif (decide ((0 + ((Int.toNat v39) * 1)) < (List.length v42))) then
                  L184_2 c202 c203 N q2_4 n2 (iadd .i64 v39 (1 : Int)) v40 v41 (List.set v42 (0 + ((Int.toNat v39) * 1)) (iadd .u32 x43 x44))
                else none
              else none
          else none
      else none
    else
      q2_4 v41 v42
/-- euphroe/euphroeref05.Block -/
def p184 (c202 : Int → Int → Option Int) (c203 : Int → Int → Int → Int → Option Int) (N : Nat) (a0 : List Int) (a1 : List Int) : Option (List Int) :=
  L184_0 c202 c203 N (fun (y15 : List Int) (y16 : List Int) (y17 : List Int) =>
      bif (decide (5 ≤ (List.length y15))) then
        bif ((List.length (List.take 5 (List.drop 0 y15))) == 5) then
          bif (decide ((0 + (List.length (List.take 5 (List.drop 0 y15)))) ≤ 5)) then
            L184_1 c202 c203 N (fun (y36 : List Int) (y37 : List Int) (y38 : List Int) =>
                L184_2 c202 c203 N (fun (y45 : List Int) (y46 : List Int) =>
                    bif (decide (5 ≤ (List.length y46))) then
                      bif ((List.length (List.take 5 (List.drop 0 y46))) == 5) then
                        bif (decide ((0 + (List.length (List.take 5 (List.drop 0 y46)))) ≤ (List.length y45))) then
                          bif (decide (5 ≤ (List.length (((List.take 0 y45) ++ (List.take 5 (List.drop 0 y46))) ++ (List.drop (0 + (List.length (List.take 5 (List.drop 0 y46)))) y45))))) then
                            some (List.take 5 (List.drop 0 (((List.take 0 y45) ++ (List.take 5 (List.drop 0 y46))) ++ (List.drop (0 + (List.length (List.take 5 (List.drop 0 y46)))) y45))))
                          else none
                        else none
                      else none
                    else none) N (0 : Int) y36 y37 y38) N (0 : Int) y15 y16 y17 (([] ++ (List.take 5 (List.drop 0 y15))) ++ (List.drop (0 + (List.length (List.take 5 (List.drop 0 y15)))) [(0 : Int), (0 : Int), (0 : Int), (0 : Int), (0 : Int)]))
          else none
        else none
      else none) N (0 : Int) a0 a1 ([(0 : Int), (0 : Int), (0 : Int), (0 : Int), (0 : Int)] : List Int) ([(0 : Int), (0 : Int), (0 : Int), (0 : Int), (0 : Int), (0 : Int), (0 : Int), (0 : Int), (0 : Int), (0 : Int), (0 : Int), (0 : Int), (0 : Int), (0 : Int), (0 : Int), (0 : Int), (0 : Int), (0 : Int), (0 : Int), (0 : Int), (0 : Int), (0 : Int), (0 : Int), (0 : Int), (0 : Int), (0 : Int), (0 : Int), (0 : Int), (0 : Int), (0 : Int), (0 : Int), (0 : Int), (0 : Int), (0 : Int), (0 : Int), (0 : Int), (0 : Int), (0 : Int), (0 : Int), (0 : Int), (0 : Int), (0 : Int), (0 : Int), (0 : Int), (0 : Int), (0 : Int), (0 : Int), (0 : Int), (0 : Int), (0 : Int), (0 : Int), (0 : Int), (0 : Int), (0 : Int), (0 : Int), (0 : Int), (0 : Int), (0 : Int), (0 : Int), (0 : Int), (0 : Int), (0 : Int), (0 : Int), (0 : Int), (0 : Int), (0 : Int), (0 : Int), (0 : Int), (0 : Int), (0 : Int), (0 : Int), (0 : Int), (0 : Int), (0 : Int), (0 : Int), (0 : Int), (0 : Int), (0 : Int), (0 : Int), (0 : Int)] : List Int)

/-- euphroe/sha1.Tail -/
def p185 (c19 : Int → Int → Bool → Option ((List Int) × Int)) (N : Nat) (a0 : Int) : Option (List Int) :=
  bif ((decide ((0 : Int) ≤ (irem (isub .u64 (64 : Int) (irem (iadd .u64 (iadd .u64 a0 (1 : Int)) (8 : Int)) (64 : Int))) (64 : Int)))) && ((decide (((irem (isub .u64 (64 : Int) (irem (iadd .u64 (iadd .u64 a0 (1 : Int)) (8 : Int)) (64 : Int))) (64 : Int)) * ((1 : Nat) : Int)) ≤ (1099511627776 : Int))) && (decide ((irem (isub .u64 (64 : Int) (irem (iadd .u64 (iadd .u64 a0 (1 : Int)) (8 : Int)) (64 : Int))) (64 : Int)) ≤ (1099511627776 : Int))))) then
    bif ((List.length (List.replicate (Int.toNat (irem (isub .u64 (64 : Int) (irem (iadd .u64 (iadd .u64 a0 (1 : Int)) (8 : Int)) (64 : Int))) (64 : Int))) (0 : Int))) == ((Int.toNat (irem (isub .u64 (64 : Int) (irem (iadd .u64 (iadd .u64 a0 (1 : Int)) (8 : Int)) (64 : Int))) (64 : Int))) * 1)) then
      bif (decide (1 < (1 + (Int.toNat (irem (isub .u64 (64 : Int) (irem (iadd .u64 (iadd .u64 a0 (1 : Int)) (8 : Int)) (64 : Int))) (64 : Int)))))) then
        bif ((decide (((1 + (Int.toNat (irem (isub .u64 (64 : Int) (irem (iadd .u64 (iadd .u64 a0 (1 : Int)) (8 : Int)) (64 : Int))) (64 : Int)))) * 1) ≤ 1099511627776)) && (decide ((1 + (Int.toNat (irem (isub .u64 (64 : Int) (irem (iadd .u64 (iadd .u64 a0 (1 : Int)) (8 : Int)) (64 : Int))) (64 : Int)))) ≤ 1099511627776))) then
          match c19 (imul .u64 a0 (8 : Int)) (8 : Int) false with
          | none => none
          | some r1 =>
            bif (((List.length ([(128 : Int)] ++ (List.replicate (Int.toNat (irem (isub .u64 (64 : Int) (irem (iadd .u64 (iadd .u64 a0 (1 : Int)) (8 : Int)) (64 : Int))) (64 : Int))) (0 : Int)))) == ((1 + (Int.toNat (irem (isub .u64 (64 : Int) (irem (iadd .u64 (iadd .u64 a0 (1 : Int)) (8 : Int)) (64 : Int))) (64 : Int)))) * 1)) && ((decide ((((1 + (Int.toNat (irem (isub .u64 (64 : Int) (irem (iadd .u64 (iadd .u64 a0 (1 : Int)) (8 : Int)) (64 : Int))) (64 : Int)))) + (List.length r1.1)) * 1) ≤ 1099511627776)) && (decide (((1 + (Int.toNat (irem (isub .u64 (64 : Int) (irem (iadd .u64 (iadd .u64 a0 (1 : Int)) (8 : Int)) (64 : Int))) (64 : Int)))) + (List.length r1.1)) ≤ 1099511627776)))) then
              bif (decide ((0 + (((1 + (Int.toNat (irem (isub .u64 (64 : Int) (irem (iadd .u64 (iadd .u64 a0 (1 : Int)) (8 : Int)) (64 : Int))) (64 : Int)))) + (List.length r1.1)) * 1)) ≤ (List.length (([(128 : Int)] ++ (List.replicate (Int.toNat (irem (isub .u64 (64 : Int) (irem (iadd .u64 (iadd .u64 a0 (1 : Int)) (8 : Int)) (64 : Int))) (64 : Int))) (0 : Int))) ++ r1.1)))) then
                some (List.take ((1 + (Int.toNat (irem (isub .u64 (64 : Int) (irem (iadd .u64 (iadd .u64 a0 (1 : Int)) (8 : Int)) (64 : Int))) (64 : Int)))) + (List.length r1.1)) (List.drop 0 (([(128 : Int)] ++ (List.replicate (Int.toNat (irem (isub .u64 (64 : Int) (irem (iadd .u64 (iadd .u64 a0 (1 : Int)) (8 : Int)) (64 : Int))) (64 : Int))) (0 : Int))) ++ r1.1)))
              else none
            else none
        else none
      else
        bif (decide ((1 + (List.length (List.replicate (Int.toNat (irem (isub .u64 (64 : Int) (irem (iadd .u64 (iadd .u64 a0 (1 : Int)) (8 : Int)) (64 : Int))) (64 : Int))) (0 : Int)))) ≤ 1)) then
          match c19 (imul .u64 a0 (8 : Int)) (8 : Int) false with
          | none => none
          | some r2 =>
            bif (decide (1 < ((1 + (Int.toNat (irem (isub .u64 (64 : Int) (irem (iadd .u64 (iadd .u64 a0 (1 : Int)) (8 : Int)) (64 : Int))) (64 : Int)))) + (List.length r2.1)))) then
              bif ((decide ((((1 + (Int.toNat (irem (isub .u64 (64 : Int) (irem (iadd .u64 (iadd .u64 a0 (1 : Int)) (8 : Int)) (64 : Int))) (64 : Int)))) + (List.length r2.1)) * 1) ≤ 1099511627776)) && (decide (((1 + (Int.toNat (irem (isub .u64 (64 : Int) (irem (iadd .u64 (iadd .u64 a0 (1 : Int)) (8 : Int)) (64 : Int))) (64 : Int)))) + (List.length r2.1)) ≤ 1099511627776))) then
                bif (decide ((0 + ((1 + (Int.toNat (irem (isub .u64 (64 : Int) (irem (iadd .u64 (iadd .u64 a0 (1 : Int)) (8 : Int)) (64 : Int))) (64 : Int)))) * 1)) ≤ (List.length (([(128 : Int)] ++ (List.replicate (Int.toNat (irem (isub .u64 (64 : Int) (irem (iadd .u64 (iadd .u64 a0 (1 : Int)) (8 : Int)) (64 : Int))) (64 : Int))) (0 : Int))) ++ (List.drop (1 + (List.length (List.replicate (Int.toNat (irem (isub .u64 (64 : Int) (irem (iadd .u64 (iadd .u64 a0 (1 : Int)) (8 : Int)) (64 : Int))) (64 : Int))) (0 : Int)))) [(128 : Int)]))))) then
                  bif (decide ((0 + (((1 + (Int.toNat (irem (isub .u64 (64 : Int) (irem (iadd .u64 (iadd .u64 a0 (1 : Int)) (8 : Int)) (64 : Int))) (64 : Int)))) + (List.length r2.1)) * 1)) ≤ (List.length ((List.take ((1 + (Int.toNat (irem (isub .u64 (64 : Int) (irem (iadd .u64 (iadd .u64 a0 (1 : Int)) (8 : Int)) (64 : Int))) (64 : Int)))) * 1) (List.drop 0 (([(128 : Int)] ++ (List.replicate (Int.toNat (irem (isub .u64 (64 : Int) (irem (iadd .u64 (iadd .u64 a0 (1 : Int)) (8 : Int)) (64 : Int))) (64 : Int))) (0 : Int))) ++ (List.drop (1 + (List.length (List.replicate (Int.toNat (irem (isub .u64 (64 : Int) (irem (iadd .u64 (iadd .u64 a0 (1 : Int)) (8 : Int)) (64 : Int))) (64 : Int))) (0 : Int)))) [(128 : Int)])))) ++ r2.1)))) then
                    some (List.take ((1 + (Int.toNat (irem (isub .u64 (64 : Int) (irem (iadd .u64 (iadd .u64 a0 (1 : Int)) (8 : Int)) (64 : Int))) (64 : Int)))) + (List.length r2.1)) (List.drop 0 ((List.take ((1 + (Int.toNat (irem (isub .u64 (64 : Int) (irem (iadd .u64 (iadd .u64 a0 (1 : Int)) (8 : Int)) (64 : Int))) (64 : Int)))) * 1) (List.drop 0 (([(128 : Int)] ++ (List.replicate (Int.toNat (irem (isub .u64 (64 : Int) (irem (iadd .u64 (iadd .u64 a0 (1 : Int)) (8 : Int)) (64 : Int))) (64 : Int))) (0 : Int))) ++ (List.drop (1 + (List.length (List.replicate (Int.toNat (irem (isub .u64 (64 : Int) (irem (iadd .u64 (iadd .u64 a0 (1 : Int)) (8 : Int)) (64 : Int))) (64 : Int))) (0 : Int)))) [(128 : Int)])))) ++ r2.1)))
                  else none
                else none
              else none
            else
              bif (decide (((0 + ((1 + (Int.toNat (irem (isub .u64 (64 : Int) (irem (iadd .u64 (iadd .u64 a0 (1 : Int)) (8 : Int)) (64 : Int))) (64 : Int)))) * 1)) + (List.length r2.1)) ≤ (List.length (([(128 : Int)] ++ (List.replicate (Int.toNat (irem (isub .u64 (64 : Int) (irem (iadd .u64 (iadd .u64 a0 (1 : Int)) (8 : Int)) (64 : Int))) (64 : Int))) (0 : Int))) ++ (List.drop (1 + (List.length (List.replicate (Int.toNat (irem (isub .u64 (64 : Int) (irem (iadd .u64 (iadd .u64 a0 (1 : Int)) (8 : Int)) (64 : Int))) (64 : Int))) (0 : Int)))) [(128 : Int)]))))) then
                bif (decide ((0 + (((1 + (Int.toNat (irem (isub .u64 (64 : Int) (irem (iadd .u64 (iadd .u64 a0 (1 : Int)) (8 : Int)) (64 : Int))) (64 : Int)))) + (List.length r2.1)) * 1)) ≤ (List.length (((List.take (0 + ((1 + (Int.toNat (irem (isub .u64 (64 : Int) (irem (iadd .u64 (iadd .u64 a0 (1 : Int)) (8 : Int)) (64 : Int))) (64 : Int)))) * 1)) (([(128 : Int)] ++ (List.replicate (Int.toNat (irem (isub .u64 (64 : Int) (irem (iadd .u64 (iadd .u64 a0 (1 : Int)) (8 : Int)) (64 : Int))) (64 : Int))) (0 : Int))) ++ (List.drop (1 + (List.length (List.replicate (Int.toNat (irem (isub .u64 (64 : Int) (irem (iadd .u64 (iadd .u64 a0 (1 : Int)) (8 : Int)) (64 : Int))) (64 : Int))) (0 : Int)))) [(128 : Int)]))) ++ r2.1) ++ (List.drop ((0 + ((1 + (Int.toNat (irem (isub .u64 (64 : Int) (irem (iadd .u64 (iadd .u64 a0 (1 : Int)) (8 : Int)) (64 : Int))) (64 : Int)))) * 1)) + (List.length r2.1)) (([(128 : Int)] ++ (List.replicate (Int.toNat (irem (isub .u64 (64 : Int) (irem (iadd .u64 (iadd .u64 a0 (1 : Int)) (8 : Int)) (64 : Int))) (64 : Int))) (0 : Int))) ++ (List.drop (1 + (List.length (List.replicate (Int.toNat (irem (isub .u64 (64 : Int) (irem (iadd .u64 (iadd .u64 a0 (1 : Int)) (8 : Int)) (64 : Int))) (64 : Int))) (0 : Int)))) [(128 : Int)]))))))) then
                  some (List.take ((1 + (Int.toNat (irem (isub .u64 (64 : Int) (irem (iadd .u64 (iadd .u64 a0 (1 : Int)) (8 : Int)) (64 : Int))) (64 : Int)))) + (List.length r2.1)) (List.drop 0 (((List.take (0 + ((1 + (Int.toNat (irem (isub .u64 (64 : Int) (irem (iadd .u64 (iadd .u64 a0 (1 : Int)) (8 : Int)) (64 : Int))) (64 : Int)))) * 1)) (([(128 : Int)] ++ (List.replicate (Int.toNat (irem (isub .u64 (64 : Int) (irem (iadd .u64 (iadd .u64 a0 (1 : Int)) (8 : Int)) (64 : Int))) (64 : Int))) (0 : Int))) ++ (List.drop (1 + (List.length (List.replicate (Int.toNat (irem (isub .u64 (64 : Int) (irem (iadd .u64 (iadd .u64 a0 (1 : Int)) (8 : Int)) (64 : Int))) (64 : Int))) (0 : Int)))) [(128 : Int)]))) ++ r2.1) ++ (List.drop ((0 + ((1 + (Int.toNat (irem (isub .u64 (64 : Int) (irem (iadd .u64 (iadd .u64 a0 (1 : Int)) (8 : Int)) (64 : Int))) (64 : Int)))) * 1)) + (List.length r2.1)) (([(128 : Int)] ++ (List.replicate (Int.toNat (irem (isub .u64 (64 : Int) (irem (iadd .u64 (iadd .u64 a0 (1 : Int)) (8 : Int)) (64 : Int))) (64 : Int))) (0 : Int))) ++ (List.drop (1 + (List.length (List.replicate (Int.toNat (irem (isub .u64 (64 : Int) (irem (iadd .u64 (iadd .u64 a0 (1 : Int)) (8 : Int)) (64 : Int))) (64 : Int))) (0 : Int)))) [(128 : Int)]))))))
                else none
              else none
        else none
    else none
  else none

def L186_0 (c177 : Int → Option (List Int)) (N : Nat) (q0_0 : Nat → List Int → Option (List Int)) : Nat → List Int → Int → Nat → Int → List Int → Option (List Int)
  | 0, _, _, _, _, _ => none
  | n0 + 1, v2, v3, v4, v5, v6 =>
    bif (decide (v5 ≥ (0 : Int))) then
      match geti v2 (iadd .i64 v3 v5) with
      | none => none
      | some x7 =>
        bif (((List.length v6) == (v4 * 1)) && ((decide (((v4 + 1) * 1) ≤ 1099511627776)) && (decide ((v4 + 1) ≤ 1099511627776)))) then
          L186_0 c177 N q0_0 n0 v2 v3 (v4 + 1) (isub .i64 v5 (1 : Int)) (v6 ++ [x7])
        else none
    else
      q0_0 v4 v6
/-- euphroe/euphroeref05.Tail -/
def p186 (c177 : Int → Option (List Int)) (N : Nat) (a0 : Int) : Option (List Int) :=
  match c177 a0 with
  | none => none
  | some r1 =>
    bif ((decide ((0 : Int) ≤ (isub .i64 (((List.length r1) : Nat) : Int) (8 : Int)))) && (decide ((isub .i64 (((List.length r1) : Nat) : Int) (8 : Int)) ≤ (((List.length r1) : Nat) : Int)))) then
      bif ((decide (((List.length (List.take (Int.toNat (isub .i64 (((List.length r1) : Nat) : Int) (8 : Int))) r1)) * 1) ≤ 1099511627776)) && (decide ((List.length (List.take (Int.toNat (isub .i64 (((List.length r1) : Nat) : Int) (8 : Int))) r1)) ≤ 1099511627776))) then
        L186_0 c177 N (fun (y8 : Nat) (y9 : List Int) =>
            bif (decide ((0 + (y8 * 1)) ≤ (List.length y9))) then
              some (List.take y8 (List.drop 0 y9))
            else none) N r1 (isub .i64 (((List.length r1) : Nat) : Int) (8 : Int)) (List.length (List.take (Int.toNat (isub .i64 (((List.length r1) : Nat) : Int) (8 : Int))) r1)) (7 : Int) (List.take (Int.toNat (isub .i64 (((List.length r1) : Nat) : Int) (8 : Int))) r1)
      else none
    else none

/-- euphroe/sha1.First -/
def p187 (N : Nat)  : Option (List Int) :=
  some ([(1732584193 : Int), (4023233417 : Int), (2562383102 : Int), (271733878 : Int), (3285377520 : Int)] : List Int)

/-- euphroe/euphroeref05.First -/
def p188 (c179 : Option (List Int)) (N : Nat)  : Option (List Int) :=
  match c179 with
  | none => none
  | some r1 =>
    bif ((List.length r1) == 4) then
      bif (decide ((0 + (List.length r1)) ≤ 4)) then
        match ((([] ++ r1) ++ (List.drop (0 + (List.length r1)) [(0 : Int), (0 : Int), (0 : Int), (0 : Int)])))[0]? with
        | none => none
        | some x2 =>
          match ((([] ++ r1) ++ (List.drop (0 + (List.length r1)) [(0 : Int), (0 : Int), (0 : Int), (0 : Int)])))[1]? with
          | none => none
          | some x3 =>
            match ((([] ++ r1) ++ (List.drop (0 + (List.length r1)) [(0 : Int), (0 : Int), (0 : Int), (0 : Int)])))[2]? with
            | none => none
            | some x4 =>
              match ((([] ++ r1) ++ (List.drop (0 + (List.length r1)) [(0 : Int), (0 : Int), (0 : Int), (0 : Int)])))[3]? with
              | none => none
              | some x5 =>
                some ([x2, x3, x4, x5, (3285377520 : Int)] : List Int)
      else none
    else none

def L190_0 (c46 : List (List Int) → Option (List Int)) (c185 : Int → Option (List Int)) (c187 : Option (List Int)) (c183 : List Int → List Int → Option (List Int)) (c19 : Int → Int → Bool → Option ((List Int) × Int)) (N : Nat) (q0_0 : List Int → List Int → Option (List Int)) : Nat → List Int → List Int → List Int → Option (List Int)
  | 0, _, _, _ => none
  | n0 + 1, v4, v5, v6 =>
    bif (decide ((((List.length v4) : Nat) : Int) > (0 : Int))) then
      bif (decide (5 ≤ (List.length v6))) then
        bif (decide ((64 : Int) ≤ (((List.length v4) : Nat) : Int))) then
          bif (decide (64 ≤ (List.length (List.take 64 v4)))) then
            bif (decide (64 ≤ (List.length (List.take 64 v4)))) then
              match c183 (List.take 5 (List.drop 0 v6)) (List.take 64 (List.drop 0 (List.take 64 v4))) with
              | none => none
              | some r7 =>
                bif ((List.length r7) == 5) then
                  bif (decide ((0 + (List.length r7)) ≤ (List.length v6))) then
                    bif (decide ((64 : Int) ≤ (((List.length v4) : Nat) : Int))) then
                      L190_0 c46 c185 c187 c183 c19 N q0_0 n0 (List.drop 64 v4) v5 (((List.take 0 v6) ++ r7) ++ (List.drop (0 + (List.length r7)) v6))
                    else none
                  else none
                else none
            else none
          else none
        else none
      else none
    else
      q0_0 v5 v6
def L190_1 (c46 : List (List Int) → Option (List Int)) (c185 : Int → Option (List Int)) (c187 : Option (List Int)) (c183 : List Int → List Int → Option (List Int)) (c19 : Int → Int → Bool → Option ((List Int) × Int)) (N : Nat) (q1_2 : Nat → List Int → List Int → Option (List Int)) : Nat → Nat → List Int → Int → List Int → List Int → Option (List Int)
  | 0, _, _, _, _, _ => none
  | n1 + 1, v10, v11, v12, v13, v14 =>
    bif (decide (v12 < (5 : Int))) then
      bif ((decide ((0 : Int) ≤ v12)) && (decide (v12 < (5 : Int)))) then
        match (v11)[((Int.toNat v12) * 1)]? with
        | none => none
        | some x15 =>
          match c19 (IntKind.wrap .u64 x15) (4 : Int) false with
          | none => none
          | some r16 =>
            bif (((List.length v14) == (v10 * 1)) && ((decide (((v10 + (List.length r16.1)) * 1) ≤ 1099511627776)) && (decide ((v10 + (List.length r16.1)) ≤ 1099511627776)))) then
              L190_1 c46 c185 c187 c183 c19 N q1_2 n1 (v10 + (List.length r16.1)) v11 (iadd .i64 v12 (1 : Int)) v13 (v14 ++ r16.1)
            else none
      else none
    else
      q1_2 v10 v13 v14
/-- euphroe/sha1.Of -/
def p190 (c46 : List (List Int) → Option (List Int)) (c185 : Int → Option (List Int)) (c187 : Option (List Int)) (c183 : List Int → List Int → Option (List Int)) (c19 : Int → Int → Bool → Option ((List Int) × Int)) (N : Nat) (a0 : List (List Int)) : Option (List Int) :=
  match c46 a0 with
  | none => none
  | some r1 =>
    match c185 (IntKind.wrap .u64 (((List.length r1) : Nat) : Int)) with
    | none => none
    | some r2 =>
      bif (((List.length r1) == ((List.length r1) * 1)) && ((decide ((((List.length r1) + (List.length r2)) * 1) ≤ 1099511627776)) && (decide (((List.length r1) + (List.length r2)) ≤ 1099511627776)))) then
        match c187 with
        | none => none
        | some r3 =>
          bif ((List.length r3) == 5) then
            bif (decide ((0 + (List.length r3)) ≤ 5)) then
              bif (decide ((0 + (((List.length r1) + (List.length r2)) * 1)) ≤ (List.length (r1 ++ r2)))) then
                L190_0 c46 c185 c187 c183 c19 N (fun (y8 : List Int) (y9 : List Int) =>
                    bif (decide (5 ≤ (List.length y9))) then
                      L190_1 c46 c185 c187 c183 c19 N (fun (y17 : Nat) (y18 : List Int) (y19 : List Int) =>
                          bif (decide (20 ≤ y17)) then
                            bif (decide (20 ≤ (List.length y19))) then
                              bif ((List.length (List.take 20 (List.drop 0 y19))) == 20) then
                                bif (decide ((0 + (List.length (List.take 20 (List.drop 0 y19)))) ≤ (List.length y18))) then
                                  bif (decide (20 ≤ (List.length (((List.take 0 y18) ++ (List.take 20 (List.drop 0 y19))) ++ (List.drop (0 + (List.length (List.take 20 (List.drop 0 y19)))) y18))))) then
                                    some (List.take 20 (List.drop 0 (((List.take 0 y18) ++ (List.take 20 (List.drop 0 y19))) ++ (List.drop (0 + (List.length (List.take 20 (List.drop 0 y19)))) y18))))
                                  else none
                                else none
                              else none
                            else none
                          else none) N 0 (List.take 5 (List.drop 0 y9)) (0 : Int) y8 ([] : List Int)
                    else none) N (List.take ((List.length r1) + (List.length r2)) (List.drop 0 (r1 ++ r2))) ([(0 : Int), (0 : Int), (0 : Int), (0 : Int), (0 : Int), (0 : Int), (0 : Int), (0 : Int), (0 : Int), (0 : Int), (0 : Int), (0 : Int), (0 : Int), (0 : Int), (0 : Int), (0 : Int), (0 : Int), (0 : Int), (0 : Int), (0 : Int)] : List Int) (([] ++ r3) ++ (List.drop (0 + (List.length r3)) [(0 : Int), (0 : Int), (0 : Int), (0 : Int), (0 : Int)]))
              else none
            else none
          else none
      else none

/-- euphroe/euphroelaw05.alive -/
def p189 (c190 : List (List Int) → Option (List Int)) (c185 : Int → Option (List Int)) (c187 : Option (List Int)) (N : Nat)  : Option Bool :=
  match c190 ([] : List (List Int)) with
  | none => none
  | some r1 =>
    bif ((List.length r1) == 20) then
      bif (decide ((0 + (List.length r1)) ≤ 20)) then
        match ((([] ++ r1) ++ (List.drop (0 + (List.length r1)) [(0 : Int), (0 : Int), (0 : Int), (0 : Int), (0 : Int), (0 : Int), (0 : Int), (0 : Int), (0 : Int), (0 : Int), (0 : Int), (0 : Int), (0 : Int), (0 : Int), (0 : Int), (0 : Int), (0 : Int), (0 : Int), (0 : Int), (0 : Int)])))[0]? with
        | none => none
        | some x2 =>
          bif (x2 == (218 : Int)) then
            match ((([] ++ r1) ++ (List.drop (0 + (List.length r1)) [(0 : Int), (0 : Int), (0 : Int), (0 : Int), (0 : Int), (0 : Int), (0 : Int), (0 : Int), (0 : Int), (0 : Int), (0 : Int), (0 : Int), (0 : Int), (0 : Int), (0 : Int), (0 : Int), (0 : Int), (0 : Int), (0 : Int), (0 : Int)])))[1]? with
            | none => none
            | some x3 =>
              bif (x3 == (57 : Int)) then
                match ((([] ++ r1) ++ (List.drop (0 + (List.length r1)) [(0 : Int), (0 : Int), (0 : Int), (0 : Int), (0 : Int), (0 : Int), (0 : Int), (0 : Int), (0 : Int), (0 : Int), (0 : Int), (0 : Int), (0 : Int), (0 : Int), (0 : Int), (0 : Int), (0 : Int), (0 : Int), (0 : Int), (0 : Int)])))[2]? with
                | none => none
                | some x4 =>
                  bif (x4 == (163 : Int)) then
                    match ((([] ++ r1) ++ (List.drop (0 + (List.length r1)) [(0 : Int), (0 : Int), (0 : Int), (0 : Int), (0 : Int), (0 : Int), (0 : Int), (0 : Int), (0 : Int), (0 : Int), (0 : Int), (0 : Int), (0 : Int), (0 : Int), (0 : Int), (0 : Int), (0 : Int), (0 : Int), (0 : Int), (0 : Int)])))[3]? with
                    | none => none
                    | some x5 =>
                      bif (x5 == (238 : Int)) then
                        match c185 (0 : Int) with
                        | none => none
                        | some r6 =>
                          bif ((((List.length r6) : Nat) : Int) == (64 : Int)) then
                            match c187 with
                            | none => none
                            | some r7 =>
                              bif (((List.length r7) == 5) && true) then
                                some (!(r7 == ([(0 : Int), (0 : Int), (0 : Int), (0 : Int), (0 : Int)] : List Int)))
                              else none
                          else
                            some false
                      else
                        some false
                  else
                    some false
              else
                some false
          else
            some false
      else none
    else none

/-- euphroe/euphroelaw05.Sha1Blocks -/
def p171 (c183 : List Int → List Int → Option (List Int)) (c184 : List Int → List Int → Option (List Int)) (c185 : Int → Option (List Int)) (c186 : Int → Option (List Int)) (c23 : List Int → List Int → Option Bool) (c187 : Option (List Int)) (c188 : Option (List Int)) (c189 : Option Bool) (N : Nat) (a0 : List Int) (a1 : List Int) (a2 : Int) : Option Bool :=
  bif (decide (5 ≤ (List.length a0))) then
    bif (decide (64 ≤ (List.length a1))) then
      match c183 (List.take 5 (List.drop 0 a0)) (List.take 64 (List.drop 0 a1)) with
      | none => none
      | some r1 =>
        bif (decide (5 ≤ (List.length a0))) then
          bif (decide (64 ≤ (List.length a1))) then
            match c184 (List.take 5 (List.drop 0 a0)) (List.take 64 (List.drop 0 a1)) with
            | none => none
            | some r2 =>
              bif (((List.length r1) == 5) && ((List.length r2) == 5)) then
                bif (r1 == r2) then
                  match c185 a2 with
                  | none => none
                  | some r3 =>
                    match c186 a2 with
                    | none => none
                    | some r4 =>
                      match c23 r3 r4 with
                      | none => none
                      | some r5 =>
                        bif r5 then
                          match c187 with
                          | none => none
                          | some r6 =>
                            match c188 with
                            | none => none
                            | some r7 =>
                              bif (((List.length r6) == 5) && ((List.length r7) == 5)) then
                                bif (r6 == r7) then
                                  match c189 with
                                  | none => none
                                  | some r8 =>
                                    some r8
                                else
                                  some false
                              else none
                        else
                          some false
                else
                  some false
              else none
          else none
        else none
    else none
  else none

def L191_1 (c186 : Int → Option (List Int)) (c188 : Option (List Int)) (c184 : List Int → List Int → Option (List Int)) (N : Nat) (q1_2 : Nat → Int → List Int → List Int → List Int → List Int → Option (List Int)) : Nat → Nat → Int → Int → List Int → List Int → List Int → List Int → Option (List Int)
  | 0, _, _, _, _, _, _, _ => none
  | n1 + 1, v8, v9, v10, v11, v12, v13, v14 =>
    bif (decide (v10 < (64 : Int))) then
      bif ((decide ((0 : Int) ≤ (iadd .i64 v9 v10))) && (decide ((iadd .i64 v9 v10) < ((v8 : Nat) : Int)))) then
        match (v12)[(0 + ((Int.toNat (iadd .i64 v9 v10)) * 1))]? with
        | none => none
        | some x15 =>
          bif ((decide ((0 : Int) ≤ v10)) && (decide (v10 < (64 : Int)))) then
            bif (decide ((0 + ((Int.toNat v10) * 1)) < (List.length v14))) then
              L191_1 c186 c188 c184 N q1_2 n1 v8 v9 (iadd .i64 v10 (1 : Int)) v11 v12 v13 (List.set v14 (0 + ((Int.toNat v10) * 1)) x15)
            else none
          else none
      else none
    else
      q1_2 v8 v9 v11 v12 v13 v14
def L191_0 (c186 : Int → Option (List Int)) (c188 : Option (List Int)) (c184 : List Int → List Int → Option (List Int)) (N : Nat) (q0_0 : List Int → List Int → Option (List Int)) : Nat → Nat → Int → List Int → List Int → List Int → Option (List Int)
  | 0, _, _, _, _, _ => none
  | n0 + 1, v3, v4, v5, v6, v7 =>
    bif (decide (v4 < ((v3 : Nat) : Int))) then
      L191_1 c186 c188 c184 N (fun (y16 : Nat) (y17 : Int) (y18 : List Int) (y19 : List Int) (y20 : List Int) (y21 : List Int) =>
          bif (decide (5 ≤ (List.length y20))) then
            bif (decide (64 ≤ (List.length y21))) then
              match c184 (List.take 5 (List.drop 0 y20)) (List.take 64 (List.drop 0 y21)) with
              | none => none
              | some r22 =>
                bif ((List.length r22) == 5) then
                  bif (decide ((0 + (List.length r22)) ≤ (List.length y20))) then
                    L191_0 c186 c188 c184 N q0_0 n0 y16 (iadd .i64 y17 (64 : Int)) y18 y19 (((List.take 0 y20) ++ r22) ++ (List.drop (0 + (List.length r22)) y20))
                  else none
                else none
            else none
          else none) N v3 v4 (0 : Int) v5 v6 v7 ([(0 : Int), (0 : Int), (0 : Int), (0 : Int), (0 : Int), (0 : Int), (0 : Int), (0 : Int), (0 : Int), (0 : Int), (0 : Int), (0 : Int), (0 : Int), (0 : Int), (0 : Int), (0 : Int), (0 : Int), (0 : Int), (0 : Int), (0 : Int), (0 : Int), (0 : Int), (0 : Int), (0 : Int), (0 : Int), (0 : Int), (0 : Int), (0 : Int), (0 : Int), (0 : Int), (0 : Int), (0 : Int), (0 : Int), (0 : Int), (0 : Int), (0 : Int), (0 : Int), (0 : Int), (0 : Int), (0 : Int), (0 : Int), (0 : Int), (0 : Int), (0 : Int), (0 : Int), (0 : Int), (0 : Int), (0 : Int), (0 : Int), (0 : Int), (0 : Int), (0 : Int), (0 : Int), (0 : Int), (0 : Int), (0 : Int), (0 : Int), (0 : Int), (0 : Int), (0 : Int), (0 : Int), (0 : Int), (0 : Int), (0 : Int)] : List Int)
    else
      q0_0 v5 v7
def L191_2 (c186 : Int → Option (List Int)) (c188 : Option (List Int)) (c184 : List Int → List Int → Option (List Int)) (N : Nat) (q2_4 : List Int → List Int → Option (List Int)) : Nat → Int → List Int → List Int → List Int → Option (List Int)
  | 0, _, _, _, _ => none
  | n2 + 1, v25, v26, v27, v28 =>
    bif (decide (v25 < (20 : Int))) then
      bif ((decide ((0 : Int) ≤ (iquo .i64 v25 (4 : Int)))) && (decide ((iquo .i64 v25 (4 : Int)) < (5 : Int)))) then
        match (v27)[(0 + ((Int.toNat (iquo .i64 v25 (4 : Int))) * 1))]? with
        | none => none
        | some x29 =>
          bif (decide ((isub .i64 (24 : Int) (imul .i64 (8 : Int) (irem v25 (4 : Int)))) < (0 : Int))) then
            none
          else
            bif ((decide ((0 : Int) ≤ v25)) && (decide (v25 < (20 : Int)))) then
              bif (decide ((0 + ((Int.toNat v25) * 1)) < (List.length v28))) then
                L191_2 c186 c188 c184 N q2_4 n2 (iadd .i64 v25 (1 : Int)) v26 v27 (List.set v28 (0 + ((Int.toNat v25) * 1)) (IntKind.wrap .u8 (ishr .u32 x29 (isub .i64 (24 : Int) (imul .i64 (8 : Int) (irem v25 (4 : Int)))))))
              else none
            else none
      else none
    else
      q2_4 v26 v28
/-- euphroe/euphroeref05.Of -/
def p191 (c186 : Int → Option (List Int)) (c188 : Option (List Int)) (c184 : List Int → List Int → Option (List Int)) (N : Nat) (a0 : List Int) : Option (List Int) :=
  bif ((decide (((List.length a0) * 1) ≤ 1099511627776)) && (decide ((List.length a0) ≤ 1099511627776))) then
    match c186 (IntKind.wrap .u64 (((List.length a0) : Nat) : Int)) with
    | none => none
    | some r1 =>
      bif (((List.length a0) == ((List.length a0) * 1)) && ((decide ((((List.length a0) + (List.length r1)) * 1) ≤ 1099511627776)) && (decide (((List.length a0) + (List.length r1)) ≤ 1099511627776)))) then
        match c188 with
        | none => none
        | some r2 =>
          bif ((List.length r2) == 5) then
            bif (decide ((0 + (List.length r2)) ≤ 5)) then
              L191_0 c186 c188 c184 N (fun (y23 : List Int) (y24 : List Int) =>
                  L191_2 c186 c188 c184 N (fun (y30 : List Int) (y31 : List Int) =>
                      bif (decide (20 ≤ (List.length y31))) then
                        bif ((List.length (List.take 20 (List.drop 0 y31))) == 20) then
                          bif (decide ((0 + (List.length (List.take 20 (List.drop 0 y31)))) ≤ (List.length y30))) then
                            bif (decide (20 ≤ (List.length (((List.take 0 y30) ++ (List.take 20 (List.drop 0 y31))) ++ (List.drop (0 + (List.length (List.take 20 (List.drop 0 y31)))) y30))))) then
                              some (List.take 20 (List.drop 0 (((List.take 0 y30) ++ (List.take 20 (List.drop 0 y31))) ++ (List.drop (0 + (List.length (List.take 20 (List.drop 0 y31)))) y30))))
                            else none
                          else none
                        else none
                      else none) N (0 : Int) y23 y24 ([(0 : Int), (0 : Int), (0 : Int), (0 : Int), (0 : Int), (0 : Int), (0 : Int), (0 : Int), (0 : Int), (0 : Int), (0 : Int), (0 : Int), (0 : Int), (0 : Int), (0 : Int), (0 : Int), (0 : Int), (0 : Int), (0 : Int), (0 : Int)] : List Int)) N ((List.length a0) + (List.length r1)) (0 : Int) ([(0 : Int), (0 : Int), (0 : Int), (0 : Int), (0 : Int), (0 : Int), (0 : Int), (0 : Int), (0 : Int), (0 : Int), (0 : Int), (0 : Int), (0 : Int), (0 : Int), (0 : Int), (0 : Int), (0 : Int), (0 : Int), (0 : Int), (0 : Int)] : List Int) (a0 ++ r1) (([] ++ r2) ++ (List.drop (0 + (List.length r2)) [(0 : Int), (0 : Int), (0 : Int), (0 : Int), (0 : Int)]))
            else none
          else none
      else none
  else none

/-- euphroe/euphroelaw05.Sha1Is -/
def p172 (c189 : Option Bool) (c190 : List (List Int) → Option (List Int)) (c191 : List Int → Option (List Int)) (N : Nat) (a0 : List Int) : Option Bool :=
  bif (decide ((((List.length a0) : Nat) : Int) > (400 : Int))) then
    match c189 with
    | none => none
    | some r1 =>
      some r1
  else
    match c190 ([a0] : List (List Int)) with
    | none => none
    | some r2 =>
      match c191 a0 with
      | none => none
      | some r3 =>
        bif (((List.length r2) == 20) && ((List.length r3) == 20)) then
          bif (r2 == r3) then
            match c189 with
            | none => none
            | some r4 =>
              some r4
          else
            some false
        else none

def L173_0 (c189 : Option Bool) (c185 : Int → Option (List Int)) (c187 : Option (List Int)) (c183 : List Int → List Int → Option (List Int)) (c190 : List (List Int) → Option (List Int)) (N : Nat) (q0_0 : List (List Int) → Nat → List Int → Option Bool) : Nat → List (List Int) → Nat → List (List Int) → Int → Int → List Int → Option Bool
  | 0, _, _, _, _, _, _ => none
  | n0 + 1, v2, v3, v4, v5, v6, v7 =>
    bif (decide (v6 < v5)) then
      match geti v4 v6 with
      | none => none
      | some x8 =>
        bif (decide ((((List.length x8) : Nat) : Int) > (100 : Int))) then
          match c189 with
          | none => none
          | some r9 =>
            some r9
        else
          bif (((List.length v7) == (v3 * 1)) && ((decide (((v3 + (List.length x8)) * 1) ≤ 1099511627776)) && (decide ((v3 + (List.length x8)) ≤ 1099511627776)))) then
            L173_0 c189 c185 c187 c183 c190 N q0_0 n0 v2 (v3 + (List.length x8)) v4 v5 (iadd .i64 v6 (1 : Int)) (v7 ++ x8)
          else none
    else
      q0_0 v2 v3 v7
def L173_1 (c189 : Option Bool) (c185 : Int → Option (List Int)) (c187 : Option (List Int)) (c183 : List Int → List Int → Option (List Int)) (c190 : List (List Int) → Option (List Int)) (N : Nat) (q1_2 : List (List Int) → Nat → List Int → List Int → Option Bool) : Nat → List (List Int) → Nat → List Int → List Int → List Int → Option Bool
  | 0, _, _, _, _, _ => none
  | n1 + 1, v16, v17, v18, v19, v20 =>
    bif (decide ((((List.length v18) : Nat) : Int) > (0 : Int))) then
      bif (decide (5 ≤ (List.length v20))) then
        bif (decide ((64 : Int) ≤ (((List.length v18) : Nat) : Int))) then
          bif (decide (64 ≤ (List.length (List.take 64 v18)))) then
            bif (decide (64 ≤ (List.length (List.take 64 v18)))) then
              match c183 (List.take 5 (List.drop 0 v20)) (List.take 64 (List.drop 0 (List.take 64 v18))) with
              | none => none
              | some r21 =>
                bif ((List.length r21) == 5) then
                  bif (decide ((0 + (List.length r21)) ≤ (List.length v20))) then
                    bif (decide ((64 : Int) ≤ (((List.length v18) : Nat) : Int))) then
                      L173_1 c189 c185 c187 c183 c190 N q1_2 n1 v16 v17 (List.drop 64 v18) v19 (((List.take 0 v20) ++ r21) ++ (List.drop (0 + (List.length r21)) v20))
                    else none
                  else none
                else none
            else none
          else none
        else none
      else none
    else
      q1_2 v16 v17 v19 v20
/-- euphroe/euphroelaw05.Sha1Parts -/
def p173 (c189 : Option Bool) (c185 : Int → Option (List Int)) (c187 : Option (List Int)) (c183 : List Int → List Int → Option (List Int)) (c190 : List (List Int) → Option (List Int)) (N : Nat) (a0 : List (List Int)) : Option Bool :=
  bif (decide ((((List.length a0) : Nat) : Int) > (20 : Int))) then
    match c189 with
    | none => none
    | some r1 =>
      some r1
  else
    L173_0 c189 c185 c187 c183 c190 N (fun (y10 : List (List Int)) (y11 : Nat) (y12 : List Int) =>
        match c185 (IntKind.wrap .u64 ((y11 : Nat) : Int)) with
        | none => none
        | some r13 =>
          bif ((irem (iadd .i64 ((y11 : Nat) : Int) (((List.length r13) : Nat) : Int)) (64 : Int)) != (0 : Int)) then
            some false
          else
            bif (decide ((((List.length r13) : Nat) : Int) < (9 : Int))) then
              some false
            else
              bif (decide ((((List.length r13) : Nat) : Int) > (72 : Int))) then
                some false
              else
                match geti r13 (0 : Int) with
                | none => none
                | some x14 =>
                  bif (x14 != (128 : Int)) then
                    some false
                  else
                    match c187 with
                    | none => none
                    | some r15 =>
                      bif ((List.length r15) == 5) then
                        bif (decide ((0 + (List.length r15)) ≤ 5)) then
                          bif (decide ((0 + (y11 * 1)) ≤ (List.length y12))) then
                            bif ((decide ((y11 * 1) ≤ 1099511627776)) && (decide (y11 ≤ 1099511627776))) then
                              bif (((List.length (List.take (y11 * 1) (List.drop 0 y12))) == (y11 * 1)) && ((decide (((y11 + (List.length r13)) * 1) ≤ 1099511627776)) && (decide ((y11 + (List.length r13)) ≤ 1099511627776)))) then
                                bif (decide ((0 + ((y11 + (List.length r13)) * 1)) ≤ (List.length ((List.take (y11 * 1) (List.drop 0 y12)) ++ r13)))) then
                                  L173_1 c189 c185 c187 c183 c190 N (fun (y22 : List (List Int)) (y23 : Nat) (y24 : List Int) (y25 : List Int) =>
                                      bif (decide ((0 + (y23 * 1)) ≤ (List.length y24))) then
                                        match c190 ([(List.take y23 (List.drop 0 y24))] : List (List Int)) with
                                        | none => none
                                        | some r26 =>
                                          bif ((List.length r26) == 20) then
                                            bif (decide ((0 + (List.length r26)) ≤ 20)) then
                                              match c190 y22 with
                                              | none => none
                                              | some r27 =>
                                                bif (decide (20 ≤ (List.length (([] ++ r26) ++ (List.drop (0 + (List.length r26)) [(0 : Int), (0 : Int), (0 : Int), (0 : Int), (0 : Int), (0 : Int), (0 : Int), (0 : Int), (0 : Int), (0 : Int), (0 : Int), (0 : Int), (0 : Int), (0 : Int), (0 : Int), (0 : Int), (0 : Int), (0 : Int), (0 : Int), (0 : Int)]))))) then
                                                  bif (((List.length r27) == 20) && ((List.length (List.take 20 (List.drop 0 (([] ++ r26) ++ (List.drop (0 + (List.length r26)) [(0 : Int), (0 : Int), (0 : Int), (0 : Int), (0 : Int), (0 : Int), (0 : Int), (0 : Int), (0 : Int), (0 : Int), (0 : Int), (0 : Int), (0 : Int), (0 : Int), (0 : Int), (0 : Int), (0 : Int), (0 : Int), (0 : Int), (0 : Int)]))))) == 20)) then
                                                    bif (r27 == (List.take 20 (List.drop 0 (([] ++ r26) ++ (List.drop (0 + (List.length r26)) [(0 : Int), (0 : Int), (0 : Int), (0 : Int), (0 : Int), (0 : Int), (0 : Int), (0 : Int), (0 : Int), (0 : Int), (0 : Int), (0 : Int), (0 : Int), (0 : Int), (0 : Int), (0 : Int), (0 : Int), (0 : Int), (0 : Int), (0 : Int)]))))) then
                                                      match ((([] ++ r26) ++ (List.drop (0 + (List.length r26)) [(0 : Int), (0 : Int), (0 : Int), (0 : Int), (0 : Int), (0 : Int), (0 : Int), (0 : Int), (0 : Int), (0 : Int), (0 : Int), (0 : Int), (0 : Int), (0 : Int), (0 : Int), (0 : Int), (0 : Int), (0 : Int), (0 : Int), (0 : Int)])))[0]? with
                                                      | none => none
                                                      | some x28 =>
                                                        match (y25)[0]? with
                                                        | none => none
                                                        | some x29 =>
                                                          bif (x28 == (IntKind.wrap .u8 (ishr .u32 x29 (24 : Int)))) then
                                                            match ((([] ++ r26) ++ (List.drop (0 + (List.length r26)) [(0 : Int), (0 : Int), (0 : Int), (0 : Int), (0 : Int), (0 : Int), (0 : Int), (0 : Int), (0 : Int), (0 : Int), (0 : Int), (0 : Int), (0 : Int), (0 : Int), (0 : Int), (0 : Int), (0 : Int), (0 : Int), (0 : Int), (0 : Int)])))[19]? with
                                                            | none => none
                                                            | some x30 =>
                                                              match (y25)[4]? with
                                                              | none => none
                                                              | some x31 =>
                                                                bif (x30 == (IntKind.wrap .u8 x31)) then
                                                                  match c189 with
                                                                  | none => none
                                                                  | some r32 =>
                                                                    some r32
                                                                else
                                                                  some false
                                                          else
                                                            some false
                                                    else
                                                      some false
                                                  else none
                                                else none
                                            else none
                                          else none
                                      else none) N y10 y11 (List.take (y11 + (List.length r13)) (List.drop 0 ((List.take (y11 * 1) (List.drop 0 y12)) ++ r13))) y12 (([] ++ r15) ++ (List.drop (0 + (List.length r15)) [(0 : Int), (0 : Int), (0 : Int), (0 : Int), (0 : Int)]))
                                else none
                              else none
                            else none
                          else none
                        else none
                      else none) N a0 0 a0 (((List.length a0) : Nat) : Int) (0 : Int) ([] : List Int)
end Go.Proofs.YtjgaemdfaknemaaE
