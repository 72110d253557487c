/- The functions as plain ones. -/
import Derived.Test.YtciafmcbccgggaaEvFG1
namespace Go.Proofs.YtciafmcbccgggaaE
open Go
set_option linter.unusedVariables false
set_option linter.unusedSimpArgs false
/-- slices.Concat[[]byte,byte] -/
abbrev en1 (f : List (List Int) → Option (List Int)) : Ent := ⟨[(Sh.sl (Sh.sl (Sh.int .u8)))], List Int, fun v => f v.1, ownOut .u8⟩
/-- euphroe/octs.Put -/
abbrev en19 (f : Int → Int → Bool → Option ((List Int) × Int)) : Ent := ⟨[(Sh.int .u64), (Sh.int .i64), Sh.bool], (List Int) × Int, fun v => f v.1 v.2.1 v.2.2.1, fun r => (((Sh.tu (Sh.pr (Sh.sl (Sh.int .u8)) (Sh.int .i64)))).enc r, [])⟩
/-- euphroe/octs.Get -/
abbrev en21 (f : List Int → Bool → Option (Int × Int)) : Ent := ⟨[(Sh.sl (Sh.int .u8)), Sh.bool], Int × Int, fun v => f v.1 v.2.1, fun r => (((Sh.tu (Sh.pr (Sh.int .u64) (Sh.int .i64)))).enc r, [])⟩
/-- euphroe/euphroeref01.Same -/
abbrev en23 (f : List Int → List Int → Option Bool) : Ent := ⟨[(Sh.sl (Sh.int .u8)), (Sh.sl (Sh.int .u8))], Bool, fun v => f v.1 v.2.1, fun r => ((Sh.bool).enc r, [])⟩
/-- euphroe/octs.Join -/
abbrev en46 (f : List (List Int) → Option (List Int)) : Ent := ⟨[(Sh.sl (Sh.sl (Sh.int .u8)))], List Int, fun v => f v.1, ownOut .u8⟩
/-- euphroe/octs.Same -/
abbrev en47 (f : List Int → List Int → Option Bool) : Ent := ⟨[(Sh.sl (Sh.int .u8)), (Sh.sl (Sh.int .u8))], Bool, fun v => f v.1 v.2.1, fun r => ((Sh.bool).enc r, [])⟩
/-- euphroe/roots.Root -/
abbrev en75 (f : Int → Int → Int → Option (Int × Int)) : Ent := ⟨[(Sh.int .i64), (Sh.int .i64), (Sh.int .i64)], Int × Int, fun v => f v.1 v.2.1 v.2.2.1, fun r => (((Sh.tu (Sh.pr (Sh.int .u64) (Sh.int .i64)))).enc r, [])⟩
/-- euphroe/roots.Frac -/
abbrev en78 (f : Int → Int → Option Int) : Ent := ⟨[(Sh.int .i64), (Sh.int .i64)], Int, fun v => f v.1 v.2.1, fun r => (((Sh.int .u32)).enc r, [])⟩
/-- euphroe/roots.Primes -/
abbrev en81 (f : Int → Option (List Int)) : Ent := ⟨[(Sh.int .i64)], List Int, fun v => f v.1, fun r => (((Sh.sl (Sh.int .i64))).enc r, [])⟩
/-- euphroe/roots.Fracs -/
abbrev en83 (f : Int → Int → Option (List Int)) : Ent := ⟨[(Sh.int .i64), (Sh.int .i64)], List Int, fun v => f v.1 v.2.1, fun r => (((Sh.sl (Sh.int .u32))).enc r, [])⟩
/-- euphroe/roots.may -/
abbrev en100 (f : Int → Int → Int → Option Bool) : Ent := ⟨[(Sh.int .i64), (Sh.int .i64), (Sh.int .i64)], Bool, fun v => f v.1 v.2.1 v.2.2.1, fun r => ((Sh.bool).enc r, [])⟩
/-- euphroe/roots.full -/
abbrev en101 (f : Int → Int → Option Int) : Ent := ⟨[(Sh.int .i64), (Sh.int .i64)], Int, fun v => f v.1 v.2.1, fun r => (((Sh.int .u64)).enc r, [])⟩
/-- euphroe/roots.fits -/
abbrev en116 (f : Int → Int → Int → Option Bool) : Ent := ⟨[(Sh.int .u64), (Sh.int .u64), (Sh.int .i64)], Bool, fun v => f v.1 v.2.1 v.2.2.1, fun r => ((Sh.bool).enc r, [])⟩
/-- math/bits.Mul64 -/
abbrev en120 (f : Int → Int → Option (Int × Int)) : Ent := ⟨[(Sh.int .u64), (Sh.int .u64)], Int × Int, fun v => f v.1 v.2.1, fun r => (((Sh.tu (Sh.pr (Sh.int .u64) (Sh.int .u64)))).enc r, [])⟩
/-- euphroe/euphroeref04.Tail -/
abbrev en177 (f : Int → Option (List Int)) : Ent := ⟨[(Sh.int .u64)], List Int, fun v => f v.1, fun r => (((Sh.sl (Sh.int .u8))).enc r, [])⟩
/-- euphroe/euphroeref05.Tail -/
abbrev en186 (f : Int → Option (List Int)) : Ent := ⟨[(Sh.int .u64)], List Int, fun v => f v.1, fun r => (((Sh.sl (Sh.int .u8))).enc r, [])⟩
/-- math/bits.RotateLeft32 -/
abbrev en195 (f : Int → Int → Option Int) : Ent := ⟨[(Sh.int .u32), (Sh.int .i64)], Int, fun v => f v.1 v.2.1, fun r => (((Sh.int .u32)).enc r, [])⟩
/-- euphroe/sha256.Of -/
abbrev en213 (f : List (List Int) → Option (List Int)) : Ent := ⟨[(Sh.sl (Sh.sl (Sh.int .u8)))], List Int, fun v => f v.1, fun r => (((Sh.ar .u8)).enc r, [])⟩
/-- euphroe/euphroeref06.Of -/
abbrev en214 (f : List Int → Option (List Int)) : Ent := ⟨[(Sh.sl (Sh.int .u8))], List Int, fun v => f v.1, fun r => (((Sh.ar .u8)).enc r, [])⟩
/-- euphroe/euphroeref06.Block -/
abbrev en216 (f : List Int → List Int → Option (List Int)) : Ent := ⟨[(Sh.ar .u32), (Sh.ar .u8)], List Int, fun v => f v.1 v.2.1, fun r => (((Sh.ar .u32)).enc r, [])⟩
/-- euphroe/sha256.Tail -/
abbrev en217 (f : Int → Option (List Int)) : Ent := ⟨[(Sh.int .u64)], List Int, fun v => f v.1, fun r => (((Sh.sl (Sh.int .u8))).enc r, [])⟩
/-- euphroe/euphroeref06.Tail -/
abbrev en218 (f : Int → Option (List Int)) : Ent := ⟨[(Sh.int .u64)], List Int, fun v => f v.1, fun r => (((Sh.sl (Sh.int .u8))).enc r, [])⟩
/-- euphroe/sha256.First -/
abbrev en219 (f : Option (List Int)) : Ent := ⟨[], List Int, fun v => f, fun r => (((Sh.ar .u32)).enc r, [])⟩
/-- euphroe/euphroeref06.First -/
abbrev en220 (f : Option (List Int)) : Ent := ⟨[], List Int, fun v => f, fun r => (((Sh.ar .u32)).enc r, [])⟩
/-- euphroe/euphroeref07.Of -/
abbrev en222 (f : List Int → List Int → Option (List Int)) : Ent := ⟨[(Sh.sl (Sh.int .u8)), (Sh.sl (Sh.int .u8))], List Int, fun v => f v.1 v.2.1, fun r => (((Sh.ar .u8)).enc r, [])⟩
/-- euphroe/hmac.Of -/
abbrev en223 (f : List Int → List (List Int) → Option (List Int)) : Ent := ⟨[(Sh.sl (Sh.int .u8)), (Sh.sl (Sh.sl (Sh.int .u8)))], List Int, fun v => f v.1 v.2.1, fun r => (((Sh.ar .u8)).enc r, [])⟩
/-- euphroe/hmac.Key -/
abbrev en224 (f : List Int → Option (List Int)) : Ent := ⟨[(Sh.sl (Sh.int .u8))], List Int, fun v => f v.1, fun r => (((Sh.ar .u8)).enc r, [])⟩
/-- euphroe/euphroeref07.Key -/
abbrev en225 (f : List Int → Option (List Int)) : Ent := ⟨[(Sh.sl (Sh.int .u8))], List Int, fun v => f v.1, fun r => (((Sh.ar .u8)).enc r, [])⟩
/-- euphroe/hmac.Check -/
abbrev en226 (f : List Int → List Int → List (List Int) → Option Bool) : Ent := ⟨[(Sh.sl (Sh.int .u8)), (Sh.sl (Sh.int .u8)), (Sh.sl (Sh.sl (Sh.int .u8)))], Bool, fun v => f v.1 v.2.1 v.2.2.1, fun r => ((Sh.bool).enc r, [])⟩
/-- (euphroe/sha256.State).block -/
abbrev en229 (f : List Int → List Int → List Int → Option (List Int)) : Ent := ⟨[(Sh.ar .u32), (Sh.ar .u8), (Sh.sl (Sh.int .u32))], List Int, fun v => f v.1 v.2.1 v.2.2.1, fun r => (((Sh.ar .u32)).enc r, [])⟩
/-- euphroe/euphroeref06.small -/
abbrev en230 (f : Int → Int → Int → Int → Option Int) : Ent := ⟨[(Sh.int .u32), (Sh.int .i64), (Sh.int .i64), (Sh.int .i64)], Int, fun v => f v.1 v.2.1 v.2.2.1 v.2.2.2.1, fun r => (((Sh.int .u32)).enc r, [])⟩
/-- euphroe/euphroeref06.constants -/
abbrev en231 (f : Option (List Int)) : Ent := ⟨[], List Int, fun v => f, fun r => (((Sh.sl (Sh.int .u32))).enc r, [])⟩
/-- euphroe/euphroeref06.great -/
abbrev en232 (f : Int → Int → Int → Int → Option Int) : Ent := ⟨[(Sh.int .u32), (Sh.int .i64), (Sh.int .i64), (Sh.int .i64)], Int, fun v => f v.1 v.2.1 v.2.2.1 v.2.2.2.1, fun r => (((Sh.int .u32)).enc r, [])⟩
/-- euphroe/euphroeref07.turned -/
abbrev en233 (f : List Int → Int → Option (List Int)) : Ent := ⟨[(Sh.ar .u8), (Sh.int .u8)], List Int, fun v => f v.1 v.2.1, ownOut .u8⟩
/-- euphroe/hmac.pad -/
abbrev en234 (f : List Int → Int → Option (List Int)) : Ent := ⟨[(Sh.sl (Sh.int .u8)), (Sh.int .u8)], List Int, fun v => f v.1 v.2.1, fun r => (((Sh.sl (Sh.int .u8))).enc r, [])⟩
/-- euphroe/sha256.spread -/
abbrev en235 (f : List Int → Option (List Int)) : Ent := ⟨[(Sh.ar .u8)], List Int, fun v => f v.1, fun r => (((Sh.ar .u32)).enc r, [])⟩
/-- (euphroe/sha256.State).step -/
abbrev en236 (f : List Int → Int → Option (List Int)) : Ent := ⟨[(Sh.ar .u32), (Sh.int .u32)], List Int, fun v => f v.1 v.2.1, fun r => (((Sh.ar .u32)).enc r, [])⟩
/-- euphroe/euphroeref06.turn -/
abbrev en237 (f : Int → Int → Option Int) : Ent := ⟨[(Sh.int .u32), (Sh.int .i64)], Int, fun v => f v.1 v.2.1, fun r => (((Sh.int .u32)).enc r, [])⟩
/-- (euphroe/sha256.turns).small -/
abbrev en238 (f : List Int → Int → Option Int) : Ent := ⟨[(Sh.ar .i64), (Sh.int .u32)], Int, fun v => f v.1 v.2.1, fun r => (((Sh.int .u32)).enc r, [])⟩
/-- (euphroe/sha256.turns).great -/
abbrev en239 (f : List Int → Int → Option Int) : Ent := ⟨[(Sh.ar .i64), (Sh.int .u32)], Int, fun v => f v.1 v.2.1, fun r => (((Sh.int .u32)).enc r, [])⟩
/-- euphroe/euphroelaw13.PrfDerives -/
abbrev en284 (f : List Int → List Int → Int → Option Bool) : Ent := ⟨[(Sh.sl (Sh.int .u8)), (Sh.sl (Sh.int .u8)), (Sh.int .i64)], Bool, fun v => f v.1 v.2.1 v.2.2.1, fun r => ((Sh.bool).enc r, [])⟩
/-- euphroe/euphroelaw13.PrfBinds -/
abbrev en285 (f : List Int → List Int → List Int → Option Bool) : Ent := ⟨[(Sh.ar .u8), (Sh.sl (Sh.int .u8)), (Sh.sl (Sh.int .u8))], Bool, fun v => f v.1 v.2.1 v.2.2.1, fun r => ((Sh.bool).enc r, [])⟩
/-- euphroe/euphroelaw13.PrfLong -/
abbrev en286 (f : List Int → List Int → List Int → Option Bool) : Ent := ⟨[(Sh.sl (Sh.int .u8)), (Sh.sl (Sh.int .u8)), (Sh.ar .u16)], Bool, fun v => f v.1 v.2.1 v.2.2.1, fun r => ((Sh.bool).enc r, [])⟩
/-- euphroe/euphroelaw13.alive -/
abbrev en289 (f : Option Bool) : Ent := ⟨[], Bool, fun v => f, fun r => ((Sh.bool).enc r, [])⟩
/-- euphroe/prf.Derive -/
abbrev en290 (f : List Int → List Int → Int → Option ((List Int) × Int)) : Ent := ⟨[(Sh.sl (Sh.int .u8)), (Sh.sl (Sh.int .u8)), (Sh.int .i64)], (List Int) × Int, fun v => f v.1 v.2.1 v.2.2.1, fun r => (((Sh.tu (Sh.pr (Sh.sl (Sh.int .u8)) (Sh.int .i64)))).enc r, [])⟩
/-- euphroe/euphroeref13.Derive -/
abbrev en291 (f : List Int → List Int → Int → Option ((List Int) × Int × Int)) : Ent := ⟨[(Sh.sl (Sh.int .u8)), (Sh.sl (Sh.int .u8)), (Sh.int .i64)], (List Int) × Int × Int, fun v => f v.1 v.2.1 v.2.2.1, fun r => (((Sh.tu (Sh.pr (Sh.sl (Sh.int .u8)) (Sh.pr (Sh.int .i64) (Sh.int .i64))))).enc r, [])⟩
/-- euphroe/prf.Pieces -/
abbrev en292 (f : List Int → List Int → Int → Option Int) : Ent := ⟨[(Sh.sl (Sh.int .u8)), (Sh.sl (Sh.int .u8)), (Sh.int .i64)], Int, fun v => f v.1 v.2.1 v.2.2.1, fun r => (((Sh.int .i64)).enc r, [])⟩
/-- euphroe/prf.Bind -/
abbrev en293 (f : List Int → Option (List Int)) : Ent := ⟨[(Sh.ar .u8)], List Int, fun v => f v.1, fun r => (((Sh.ar .u8)).enc r, [])⟩
/-- euphroe/euphroeref13.Bind -/
abbrev en294 (f : List Int → Option (List Int)) : Ent := ⟨[(Sh.ar .u8)], List Int, fun v => f v.1, fun r => (((Sh.ar .u8)).enc r, [])⟩
/-- euphroe/prf.Seal -/
abbrev en295 (f : List Int → List Int → Option (List Int)) : Ent := ⟨[(Sh.ar .u8), (Sh.sl (Sh.int .u8))], List Int, fun v => f v.1 v.2.1, fun r => (((Sh.ar .u8)).enc r, [])⟩
/-- euphroe/prf.Check -/
abbrev en296 (f : List Int → List Int → List Int → Option Bool) : Ent := ⟨[(Sh.ar .u8), (Sh.sl (Sh.int .u8)), (Sh.sl (Sh.int .u8))], Bool, fun v => f v.1 v.2.1 v.2.2.1, fun r => ((Sh.bool).enc r, [])⟩
/-- euphroe/prf.may -/
abbrev en307 (f : Int → Option Int) : Ent := ⟨[(Sh.int .i64)], Int, fun v => f v.1, fun r => (((Sh.int .i64)).enc r, [])⟩
def PR64v0 : Pr := ⟨(.cons .nils (.cons (.int .i64) .nil)), []⟩
def QR64v0 : Pr := ⟨(.cons (.sl 0 1) .nil), [(.ints false .u8)]⟩
/-- slices.Grow[[]byte,byte] -/
abbrev rn64v0 (f : Int → Option ((Nat × Unit) × ((List Int) × Unit))) : REnt := ⟨PR64v0, QR64v0, (Nat × Unit) × ((List Int) × Unit), fun v => f v.1.2.1, fun r => r⟩
def PR48v0 : Pr := ⟨(.cons (.slc 0 1) .nil), [(.ints false .u8)]⟩
def QR48v0 : Pr := ⟨(.cons .tup0 .nil), [(.ints false .u8)]⟩
/-- slices.Reverse[[]byte,byte] -/
abbrev rn48v0 (f : Nat → Nat → List Int → Option ((Unit × Unit) × ((List Int) × Unit))) : REnt := ⟨PR48v0, QR48v0, (Unit × Unit) × ((List Int) × Unit), fun v => f v.1.1.1 v.1.1.2 v.2.1, fun r => r⟩
def PR115v0 : Pr := ⟨(.cons (.int .i64) (.cons (.ptr 0 0) (.cons (.ptr 1 0) .nil))), [(.ints false .i64), (.ints false .i64)]⟩
def QR115v0 : Pr := ⟨(.cons .bool .nil), [(.ints false .i64), (.ints false .i64)]⟩
/-- euphroe/roots.full$1 -/
abbrev rn115v0 (f : Int → List Int → List Int → Option ((Bool × Unit) × ((List Int) × ((List Int) × Unit)))) : REnt := ⟨PR115v0, QR115v0, (Bool × Unit) × ((List Int) × ((List Int) × Unit)), fun v => f v.1.1 v.2.1 v.2.2.1, fun r => r⟩
def PR114v0 : Pr := ⟨(.cons (.int .i64) (.cons (.fn 115 (.cons (.ptr 0 0) (.cons (.ptr 1 0) .nil))) .nil)), [(.ints false .i64), (.ints false .i64)]⟩
def QR114v0 : Pr := ⟨(.cons (.int .i64) .nil), [(.ints false .i64), (.ints false .i64)]⟩
/-- sort.Search -/
abbrev rn114v0 (f : Int → List Int → List Int → Option ((Int × Unit) × ((List Int) × ((List Int) × Unit)))) : REnt := ⟨PR114v0, QR114v0, (Int × Unit) × ((List Int) × ((List Int) × Unit)), fun v => f v.1.1 v.2.1 v.2.2.1, fun r => r⟩
def PR308v2 : Pr := ⟨(.cons (.int .i64) (.cons (.ptr 0 0) (.cons (.ptr 1 0) (.cons (.ptr 2 0) (.cons (.ptr 3 0) (.cons (.ptr 4 0) .nil)))))), [(.vals false (.cons (.tb (Sh.int .u8)) .nil)), (.vals false (.cons (.tb (Sh.int .u8)) .nil)), (.vals false (.cons (.tb (Sh.int .u8)) .nil)), (.vals false (.cons (.tb (Sh.int .u8)) .nil)), (.vals false (.cons (.sl 5 1) .nil)), (.ints false .u8)]⟩
def QR308v2 : Pr := ⟨(.cons .tup0 .nil), [(.vals false (.cons (.tb (Sh.int .u8)) .nil)), (.vals false (.cons (.slc 6 1) .nil)), (.vals false (.cons (.tb (Sh.int .u8)) .nil)), (.vals false (.cons (.tb (Sh.int .u8)) .nil)), (.vals false (.cons (.sl 7 1) .nil)), .dead, (.ints false .u8), (.ints false .u8)]⟩
/-- euphroe/prf.Derive$1 -/
abbrev rn308v2 (f : Int → List Int → List Int → List Int → List Int → Nat → List Int → Option ((Unit × Unit) × (((List Int) × Unit) × (((Nat × Nat) × Unit) × (((List Int) × Unit) × (((List Int) × Unit) × ((Nat × Unit) × (Unit × ((List Int) × ((List Int) × Unit)))))))))) : REnt := ⟨PR308v2, QR308v2, (Unit × Unit) × (((List Int) × Unit) × (((Nat × Nat) × Unit) × (((List Int) × Unit) × (((List Int) × Unit) × ((Nat × Unit) × (Unit × ((List Int) × ((List Int) × Unit)))))))), fun v => f v.1.1 v.2.1.1 v.2.2.1.1 v.2.2.2.1.1 v.2.2.2.2.1.1 v.2.2.2.2.2.1.1 v.2.2.2.2.2.2.1, fun r => r⟩

/-- slices.Grow[[]byte,byte] -/
def p64v0 (N : Nat) (a0 : Int) : Option ((Nat × Unit) × ((List Int) × Unit)) :=
  bif (decide (a0 < (0 : Int))) then
    none
  else
    bif (decide ((isub .i64 a0 (0 : Int)) > (0 : Int))) then
      bif ((decide ((0 : Int) ≤ (isub .i64 a0 (0 : Int)))) && ((decide (((isub .i64 a0 (0 : Int)) * ((1 : Nat) : Int)) ≤ (1099511627776 : Int))) && (decide ((isub .i64 a0 (0 : Int)) ≤ (1099511627776 : Int))))) then
        bif (decide ((0 : Int) ≤ (((Int.toNat (isub .i64 a0 (0 : Int))) : Nat) : Int))) then
          some ((0, ()), (([] : List Int), ()))
        else none
      else none
    else
      some ((0, ()), (([] : List Int), ()))

def L1_0 (d64v0 : Int → Option ((Nat × Unit) × ((List Int) × Unit))) (N : Nat) (q0_0 : List (List Int) → Int → Option (List Int)) : Nat → List (List Int) → Int → List (List Int) → Int → Int → Option (List Int)
  | 0, _, _, _, _, _ => none
  | n0 + 1, v1, v2, v3, v4, v5 =>
    bif (decide (v5 < v4)) then
      match geti v3 v5 with
      | none => none
      | some x6 =>
        bif (decide ((iadd .i64 v2 (((List.length x6) : Nat) : Int)) < (0 : Int))) then
          none
        else
          L1_0 d64v0 N q0_0 n0 v1 (iadd .i64 v2 (((List.length x6) : Nat) : Int)) v3 v4 (iadd .i64 v5 (1 : Int))
    else
      q0_0 v1 v2
def L1_1 (d64v0 : Int → Option ((Nat × Unit) × ((List Int) × Unit))) (N : Nat) (q1_2 : Nat → List Int → Option (List Int)) : Nat → Nat → List (List Int) → Int → Int → List Int → Option (List Int)
  | 0, _, _, _, _, _ => none
  | n1 + 1, v10, v11, v12, v13, v14 =>
    bif (decide (v13 < v12)) then
      match geti v11 v13 with
      | none => none
      | some x15 =>
        bif (((List.length v14) == (v10 * 1)) && ((decide (((v10 + (List.length x15)) * 1) ≤ 1099511627776)) && (decide ((v10 + (List.length x15)) ≤ 1099511627776)))) then
          L1_1 d64v0 N q1_2 n1 (v10 + (List.length x15)) v11 v12 (iadd .i64 v13 (1 : Int)) (v14 ++ x15)
        else none
    else
      q1_2 v10 v14
/-- slices.Concat[[]byte,byte] -/
def p1 (d64v0 : Int → Option ((Nat × Unit) × ((List Int) × Unit))) (N : Nat) (a0 : List (List Int)) : Option (List Int) :=
  L1_0 d64v0 N (fun (y7 : List (List Int)) (y8 : Int) =>
      match d64v0 y8 with
      | none => none
      | some r9 =>
        L1_1 d64v0 N (fun (y16 : Nat) (y17 : List Int) =>
            bif (y16 == (List.length y17)) then
              some y17
            else none) N r9.1.1 y7 (((List.length y7) : Nat) : Int) (0 : Int) r9.2.1) N a0 (0 : Int) a0 (((List.length a0) : Nat) : Int) (0 : Int)

def L48v0_0 (N : Nat) (q0_0 : List Int → Option ((Unit × Unit) × ((List Int) × Unit))) : Nat → Nat → Nat → Int → Int → List Int → Option ((Unit × Unit) × ((List Int) × Unit))
  | 0, _, _, _, _, _ => none
  | n0 + 1, v1, v2, v3, v4, v5 =>
    bif (decide (v3 < v4)) then
      bif ((decide ((0 : Int) ≤ v4)) && (decide (v4 < ((v1 : Nat) : Int)))) then
        match (v5)[(0 + ((Int.toNat v4) * 1))]? with
        | none => none
        | some x6 =>
          bif ((decide ((0 : Int) ≤ v3)) && (decide (v3 < ((v1 : Nat) : Int)))) then
            match (v5)[(0 + ((Int.toNat v3) * 1))]? with
            | none => none
            | some x7 =>
              bif ((decide ((0 : Int) ≤ v3)) && (decide (v3 < ((v1 : Nat) : Int)))) then
                bif (decide ((0 + ((Int.toNat v3) * 1)) < (List.length v5))) then
                  bif ((decide ((0 : Int) ≤ v4)) && (decide (v4 < ((v1 : Nat) : Int)))) then
                    bif (decide ((0 + ((Int.toNat v4) * 1)) < (List.length (List.set v5 (0 + ((Int.toNat v3) * 1)) x6)))) then
                      L48v0_0 N q0_0 n0 v1 v2 (iadd .i64 v3 (1 : Int)) (isub .i64 v4 (1 : Int)) (List.set (List.set v5 (0 + ((Int.toNat v3) * 1)) x6) (0 + ((Int.toNat v4) * 1)) x7)
                    else none
                  else none
                else none
              else none
          else none
      else none
    else
      q0_0 v5
/-- slices.Reverse[[]byte,byte] -/
def p48v0 (N : Nat) (a0 : Nat) (a1 : Nat) (a2 : List Int) : Option ((Unit × Unit) × ((List Int) × Unit)) :=
  L48v0_0 N (fun (y8 : List Int) =>
      some (((), ()), (y8, ()))) N a0 a1 (0 : Int) (isub .i64 ((a0 : Nat) : Int) (1 : Int)) a2

def L19_0 (d48v0 : Nat → Nat → List Int → Option ((Unit × Unit) × ((List Int) × Unit))) (N : Nat) (q0_0 : Bool → Nat → Nat → List Int → Option ((List Int) × Int)) : Nat → Int → Bool → Nat → Nat → Int → Int → List Int → Option ((List Int) × Int)
  | 0, _, _, _, _, _, _, _ => none
  | n0 + 1, v1, v2, v3, v4, v5, v6, v7 =>
    bif (decide (v6 < v5)) then
      bif (decide ((imul .i64 (8 : Int) v6) < (0 : Int))) then
        none
      else
        bif ((decide ((0 : Int) ≤ v6)) && (decide (v6 < ((v3 : Nat) : Int)))) then
          bif (decide ((0 + ((Int.toNat v6) * 1)) < (List.length v7))) then
            L19_0 d48v0 N q0_0 n0 v1 v2 v3 v4 v5 (iadd .i64 v6 (1 : Int)) (List.set v7 (0 + ((Int.toNat v6) * 1)) (IntKind.wrap .u8 (ishr .u64 v1 (imul .i64 (8 : Int) v6))))
          else none
        else none
    else
      q0_0 v2 v3 v4 v7
/-- euphroe/octs.Put -/
def p19 (d48v0 : Nat → Nat → List Int → Option ((Unit × Unit) × ((List Int) × Unit))) (N : Nat) (a0 : Int) (a1 : Int) (a2 : Bool) : Option ((List Int) × Int) :=
  bif (decide (a1 < (1 : Int))) then
    some (([] : List Int), (1 : Int))
  else
    bif (decide (a1 > (8 : Int))) then
      some (([] : List Int), (1 : Int))
    else
      bif ((decide ((0 : Int) ≤ a1)) && ((decide (a1 ≤ a1)) && ((decide ((a1 * ((1 : Nat) : Int)) ≤ (1099511627776 : Int))) && (decide (a1 ≤ (1099511627776 : Int)))))) then
        L19_0 d48v0 N (fun (y8 : Bool) (y9 : Nat) (y10 : Nat) (y11 : List Int) =>
            bif (!y8) then
              match d48v0 y9 y10 y11 with
              | none => none
              | some r12 =>
                bif (decide ((0 + (y9 * 1)) ≤ (List.length r12.2.1))) then
                  some ((List.take y9 (List.drop 0 r12.2.1)), (0 : Int))
                else none
            else
              bif (decide ((0 + (y9 * 1)) ≤ (List.length y11))) then
                some ((List.take y9 (List.drop 0 y11)), (0 : Int))
              else none) N a0 a2 (Int.toNat a1) (Int.toNat a1) (((Int.toNat a1) : Nat) : Int) (0 : Int) (List.replicate (Int.toNat a1) (0 : Int))
      else none

def L21_0 (N : Nat) (q0_0 : Int → Option (Int × Int)) : Nat → Bool → Int → List Int → Int → Int → Option (Int × Int)
  | 0, _, _, _, _, _ => none
  | n0 + 1, v1, v2, v3, v4, v5 =>
    bif (decide (v5 < v4)) then
      match geti v3 v5 with
      | none => none
      | some x6 =>
        bif v1 then
          bif (decide ((imul .i64 (8 : Int) v5) < (0 : Int))) then
            none
          else
            L21_0 N q0_0 n0 v1 (ior .u64 v2 (ishl .u64 (IntKind.wrap .u64 x6) (imul .i64 (8 : Int) v5))) v3 v4 (iadd .i64 v5 (1 : Int))
        else
          L21_0 N q0_0 n0 v1 (ior .u64 (ishl .u64 v2 (8 : Int)) (IntKind.wrap .u64 x6)) v3 v4 (iadd .i64 v5 (1 : Int))
    else
      q0_0 v2
/-- euphroe/octs.Get -/
def p21 (N : Nat) (a0 : List Int) (a1 : Bool) : Option (Int × Int) :=
  bif (decide ((((List.length a0) : Nat) : Int) < (1 : Int))) then
    some ((0 : Int), (1 : Int))
  else
    bif (decide ((((List.length a0) : Nat) : Int) > (8 : Int))) then
      some ((0 : Int), (1 : Int))
    else
      L21_0 N (fun (y7 : Int) =>
          some (y7, (0 : Int))) N a1 (0 : Int) a0 (((List.length a0) : Nat) : Int) (0 : Int)

def L23_0 (N : Nat) (q0_0 : Option Bool) : Nat → List Int → List Int → Int → Option Bool
  | 0, _, _, _ => none
  | n0 + 1, v1, v2, v3 =>
    bif (decide (v3 < (((List.length v1) : Nat) : Int))) then
      match geti v1 v3 with
      | none => none
      | some x4 =>
        match geti v2 v3 with
        | none => none
        | some x5 =>
          bif (x4 != x5) then
            some false
          else
            L23_0 N q0_0 n0 v1 v2 (iadd .i64 v3 (1 : Int))
    else
      q0_0
/-- euphroe/euphroeref01.Same -/
def p23 (N : Nat) (a0 : List Int) (a1 : List Int) : Option Bool :=
  bif ((((List.length a0) : Nat) : Int) != (((List.length a1) : Nat) : Int)) then
    some false
  else
    L23_0 N (
        some true) N a0 a1 (0 : Int)

/-- euphroe/octs.Join -/
def p46 (c1 : List (List Int) → Option (List Int)) (N : Nat) (a0 : List (List Int)) : Option (List Int) :=
  match c1 a0 with
  | none => none
  | some r1 =>
    bif ((List.length r1) == (List.length r1)) then
      some r1
    else none

def L47_0 (N : Nat) (q0_0 : Int → Option Bool) : Nat → List Int → Int → List Int → Int → Int → Option Bool
  | 0, _, _, _, _, _ => none
  | n0 + 1, v1, v2, v3, v4, v5 =>
    bif (decide (v5 < v4)) then
      match geti v3 v5 with
      | none => none
      | some x6 =>
        match geti v1 v5 with
        | none => none
        | some x7 =>
          L47_0 N q0_0 n0 v1 (ior .u8 v2 (ixor .u8 x6 x7)) v3 v4 (iadd .i64 v5 (1 : Int))
    else
      q0_0 v2
/-- euphroe/octs.Same -/
def p47 (N : Nat) (a0 : List Int) (a1 : List Int) : Option Bool :=
  bif ((((List.length a0) : Nat) : Int) != (((List.length a1) : Nat) : Int)) then
    some false
  else
    L47_0 N (fun (y8 : Int) =>
        some (y8 == (0 : Int))) N a1 (0 : Int) a0 (((List.length a0) : Nat) : Int) (0 : Int)

/-- euphroe/roots.may -/
def p100 (N : Nat) (a0 : Int) (a1 : Int) (a2 : Int) : Option Bool :=
  bif (decide (a0 ≥ (0 : Int))) then
    bif (decide (a0 ≤ (1000 : Int))) then
      bif (a1 == (2 : Int)) then
        bif (decide (a2 ≥ (0 : Int))) then
          some (decide (a2 ≤ (32 : Int)))
        else
          some false
      else
        bif (a1 == (3 : Int)) then
          bif (decide (a2 ≥ (0 : Int))) then
            some (decide (a2 ≤ (32 : Int)))
          else
            some false
        else
          some false
    else
      some false
  else
    some false

/-- math/bits.Mul64 -/
def p120 (N : Nat) (a0 : Int) (a1 : Int) : Option (Int × Int) :=
  some ((iadd .u64 (iadd .u64 (imul .u64 (ishr .u64 a0 (32 : Int)) (ishr .u64 a1 (32 : Int))) (ishr .u64 (iadd .u64 (imul .u64 (ishr .u64 a0 (32 : Int)) (iand .u64 a1 (4294967295 : Int))) (ishr .u64 (imul .u64 (iand .u64 a0 (4294967295 : Int)) (iand .u64 a1 (4294967295 : Int))) (32 : Int))) (32 : Int))) (ishr .u64 (iadd .u64 (iand .u64 (iadd .u64 (imul .u64 (ishr .u64 a0 (32 : Int)) (iand .u64 a1 (4294967295 : Int))) (ishr .u64 (imul .u64 (iand .u64 a0 (4294967295 : Int)) (iand .u64 a1 (4294967295 : Int))) (32 : Int))) (4294967295 : Int)) (imul .u64 (iand .u64 a0 (4294967295 : Int)) (ishr .u64 a1 (32 : Int)))) (32 : Int))), (imul .u64 a0 a1))

/-- euphroe/roots.fits -/
def p116 (c120 : Int → Int → Option (Int × Int)) (N : Nat) (a0 : Int) (a1 : Int) (a2 : Int) : Option Bool :=
  match c120 a0 a0 with
  | none => none
  | some r1 =>
    bif (a2 == (2 : Int)) then
      bif (decide (r1.1 < a1)) then
        some true
      else
        bif (r1.1 == a1) then
          some (r1.2 == (0 : Int))
        else
          some false
    else
      match c120 r1.2 a0 with
      | none => none
      | some r2 =>
        bif (decide ((iadd .u64 (imul .u64 r1.1 a0) r2.1) < (ishl .u64 a1 (32 : Int)))) then
          some true
        else
          bif ((iadd .u64 (imul .u64 r1.1 a0) r2.1) == (ishl .u64 a1 (32 : Int))) then
            some (r2.2 == (0 : Int))
          else
            some false

/-- euphroe/roots.full$1 -/
def p115v0 (c116 : Int → Int → Int → Option Bool) (N : Nat) (a0 : Int) (a1 : List Int) (a2 : List Int) : Option ((Bool × Unit) × ((List Int) × ((List Int) × Unit))) :=
  match (a1)[0]? with
  | none => none
  | some x1 =>
    match (a2)[0]? with
    | none => none
    | some x2 =>
      match c116 (iadd .u64 (IntKind.wrap .u64 a0) (1 : Int)) (IntKind.wrap .u64 x1) x2 with
      | none => none
      | some r3 =>
        some (((!r3), ()), (a1, (a2, ())))

def L114v0_0 (d115v0 : Int → List Int → List Int → Option ((Bool × Unit) × ((List Int) × ((List Int) × Unit)))) (N : Nat) (q0_0 : Int → List Int → List Int → Option ((Int × Unit) × ((List Int) × ((List Int) × Unit)))) : Nat → Int → Int → List Int → List Int → Option ((Int × Unit) × ((List Int) × ((List Int) × Unit)))
  | 0, _, _, _, _ => none
  | n0 + 1, v1, v2, v3, v4 =>
    bif (decide (v1 < v2)) then
      match d115v0 (IntKind.wrap .i64 (ishr .u64 (IntKind.wrap .u64 (iadd .i64 v1 v2)) (1 : Int))) v3 v4 with
      | none => none
      | some r5 =>
        bif (!r5.1.1) then
          L114v0_0 d115v0 N q0_0 n0 (iadd .i64 (IntKind.wrap .i64 (ishr .u64 (IntKind.wrap .u64 (iadd .i64 v1 v2)) (1 : Int))) (1 : Int)) v2 r5.2.1 r5.2.2.1
        else
          L114v0_0 d115v0 N q0_0 n0 v1 (IntKind.wrap .i64 (ishr .u64 (IntKind.wrap .u64 (iadd .i64 v1 v2)) (1 : Int))) r5.2.1 r5.2.2.1
    else
      q0_0 v1 v3 v4
/-- sort.Search -/
def p114v0 (d115v0 : Int → List Int → List Int → Option ((Bool × Unit) × ((List Int) × ((List Int) × Unit)))) (N : Nat) (a0 : Int) (a1 : List Int) (a2 : List Int) : Option ((Int × Unit) × ((List Int) × ((List Int) × Unit))) :=
  L114v0_0 d115v0 N (fun (y6 : Int) (y7 : List Int) (y8 : List Int) =>
      some ((y6, ()), (y7, (y8, ())))) N (0 : Int) a0 a1 a2

/-- euphroe/roots.full -/
def p101 (d114v0 : Int → List Int → List Int → Option ((Int × Unit) × ((List Int) × ((List Int) × Unit)))) (N : Nat) (a0 : Int) (a1 : Int) : Option Int :=
  match d114v0 (274877906944 : Int) ([a0] : List Int) ([a1] : List Int) with
  | none => none
  | some r1 =>
    some (IntKind.wrap .u64 r1.1.1)

/-- euphroe/roots.Root -/
def p75 (c100 : Int → Int → Int → Option Bool) (c101 : Int → Int → Option Int) (N : Nat) (a0 : Int) (a1 : Int) (a2 : Int) : Option (Int × Int) :=
  match c100 a0 a1 a2 with
  | none => none
  | some r1 =>
    bif (!r1) then
      some ((0 : Int), (1 : Int))
    else
      match c101 a0 a1 with
      | none => none
      | some r2 =>
        bif (decide ((isub .i64 (32 : Int) a2) < (0 : Int))) then
          none
        else
          some ((ishr .u64 r2 (isub .i64 (32 : Int) a2)), (0 : Int))

/-- euphroe/roots.Frac -/
def p78 (c75 : Int → Int → Int → Option (Int × Int)) (N : Nat) (a0 : Int) (a1 : Int) : Option Int :=
  match c75 a0 a1 (32 : Int) with
  | none => none
  | some r1 =>
    some (IntKind.wrap .u32 r1.1)

def L81_1 (N : Nat) (q1_1 : Int → Nat → Int → List Int → Option (List Int)) (q1_2 : Int → Nat → Int → List Int → Option (List Int)) : Nat → Int → Nat → Int → Nat → Int → Int → List Int → Option (List Int)
  | 0, _, _, _, _, _, _, _ => none
  | n1 + 1, v5, v6, v7, v8, v9, v10, v11 =>
    bif (decide (v10 < v9)) then
      bif ((decide ((0 : Int) ≤ v10)) && (decide (v10 < ((v8 : Nat) : Int)))) then
        match (v11)[(0 + ((Int.toNat v10) * 1))]? with
        | none => none
        | some x12 =>
          bif (x12 == (0 : Int)) then
            none
          else
            bif ((irem v7 x12) == (0 : Int)) then
              q1_1 v5 v6 v7 v11
            else
              L81_1 N q1_1 q1_2 n1 v5 v6 v7 v8 v9 (iadd .i64 v10 (1 : Int)) v11
      else none
    else
      q1_2 v5 v6 v7 v11
def L81_0 (N : Nat) (q0_0 : Nat → List Int → Option (List Int)) : Nat → Int → Nat → Int → List Int → Option (List Int)
  | 0, _, _, _, _ => none
  | n0 + 1, v1, v2, v3, v4 =>
    bif (decide (v3 < (1000 : Int))) then
      bif (decide (((v2 : Nat) : Int) < v1)) then
        L81_1 N (fun (y13 : Int) (y14 : Nat) (y15 : Int) (y16 : List Int) =>
            L81_0 N q0_0 n0 y13 y14 (iadd .i64 y15 (1 : Int)) y16) (fun (y17 : Int) (y18 : Nat) (y19 : Int) (y20 : List Int) =>
            bif (((List.length y20) == (y18 * 1)) && ((decide (((y18 + 1) * 8) ≤ 1099511627776)) && (decide ((y18 + 1) ≤ 1099511627776)))) then
              L81_0 N q0_0 n0 y17 (y18 + 1) (iadd .i64 y19 (1 : Int)) (y20 ++ [y19])
            else none) N v1 v2 v3 v2 ((v2 : Nat) : Int) (0 : Int) v4
      else
        q0_0 v2 v4
    else
      q0_0 v2 v4
/-- euphroe/roots.Primes -/
def p81 (N : Nat) (a0 : Int) : Option (List Int) :=
  L81_0 N (fun (y21 : Nat) (y22 : List Int) =>
      bif (decide ((0 + (y21 * 1)) ≤ (List.length y22))) then
        some (List.take y21 (List.drop 0 y22))
      else none) N a0 0 (2 : Int) ([] : List Int)

def L83_0 (c81 : Int → Option (List Int)) (c78 : Int → Int → Option Int) (N : Nat) (q0_0 : Nat → List Int → Option (List Int)) : Nat → Int → Nat → List Int → Int → Int → List Int → Option (List Int)
  | 0, _, _, _, _, _, _ => none
  | n0 + 1, v2, v3, v4, v5, v6, v7 =>
    bif (decide (v6 < v5)) then
      match geti v4 v6 with
      | none => none
      | some x8 =>
        match c78 x8 v2 with
        | none => none
        | some r9 =>
          bif (((List.length v7) == (v3 * 1)) && ((decide (((v3 + 1) * 4) ≤ 1099511627776)) && (decide ((v3 + 1) ≤ 1099511627776)))) then
            L83_0 c81 c78 N q0_0 n0 v2 (v3 + 1) v4 v5 (iadd .i64 v6 (1 : Int)) (v7 ++ [r9])
          else none
    else
      q0_0 v3 v7
/-- euphroe/roots.Fracs -/
def p83 (c81 : Int → Option (List Int)) (c78 : Int → Int → Option Int) (N : Nat) (a0 : Int) (a1 : Int) : Option (List Int) :=
  match c81 a0 with
  | none => none
  | some r1 =>
    L83_0 c81 c78 N (fun (y10 : Nat) (y11 : List Int) =>
        bif (decide ((0 + (y10 * 1)) ≤ (List.length y11))) then
          some (List.take y10 (List.drop 0 y11))
        else none) N a1 0 r1 (((List.length r1) : Nat) : Int) (0 : Int) ([] : List Int)

def L177_0 (N : Nat) (q0_0 : Int → Nat → List Int → Option (List Int)) : Nat → Int → Nat → List Int → Option (List Int)
  | 0, _, _, _ => none
  | n0 + 1, v1, v2, v3 =>
    bif ((irem (iadd .u64 v1 (IntKind.wrap .u64 ((v2 : Nat) : Int))) (64 : Int)) != (56 : Int)) then
      bif (((List.length v3) == (v2 * 1)) && ((decide (((v2 + 1) * 1) ≤ 1099511627776)) && (decide ((v2 + 1) ≤ 1099511627776)))) then
        L177_0 N q0_0 n0 v1 (v2 + 1) (v3 ++ [(0 : Int)])
      else none
    else
      q0_0 v1 v2 v3
def L177_1 (N : Nat) (q1_2 : Nat → List Int → Option (List Int)) : Nat → Nat → Int → Int → List Int → Option (List Int)
  | 0, _, _, _, _ => none
  | n1 + 1, v7, v8, v9, v10 =>
    bif (decide (v9 < (8 : Int))) then
      bif (((List.length v10) == (v7 * 1)) && ((decide (((v7 + 1) * 1) ≤ 1099511627776)) && (decide ((v7 + 1) ≤ 1099511627776)))) then
        L177_1 N q1_2 n1 (v7 + 1) (iquo .u64 v8 (256 : Int)) (iadd .i64 v9 (1 : Int)) (v10 ++ [(IntKind.wrap .u8 (irem v8 (256 : Int)))])
      else none
    else
      q1_2 v7 v10
/-- euphroe/euphroeref04.Tail -/
def p177 (N : Nat) (a0 : Int) : Option (List Int) :=
  L177_0 N (fun (y4 : Int) (y5 : Nat) (y6 : List Int) =>
      L177_1 N (fun (y11 : Nat) (y12 : List Int) =>
          bif (decide ((0 + (y11 * 1)) ≤ (List.length y12))) then
            some (List.take y11 (List.drop 0 y12))
          else none) N y5 (imul .u64 (8 : Int) y4) (0 : Int) y6) N a0 1 ([(128 : Int)] : List Int)

def L186_0 (c177 : Int → Option (List Int)) (N : Nat) (q0_0 : Nat → List Int → Option (List Int)) : Nat → List Int → Int → Nat → Int → List Int → Option (List Int)
  | 0, _, _, _, _, _ => none
  | n0 + 1, v2, v3, v4, v5, v6 =>
    bif (decide (v5 ≥ (0 : Int))) then
      match geti v2 (iadd .i64 v3 v5) with
      | none => none
      | some x7 =>
        bif (((List.length v6) == (v4 * 1)) && ((decide (((v4 + 1) * 1) ≤ 1099511627776)) && (decide ((v4 + 1) ≤ 1099511627776)))) then
          L186_0 c177 N q0_0 n0 v2 v3 (v4 + 1) (isub .i64 v5 (1 : Int)) (v6 ++ [x7])
        else none
    else
      q0_0 v4 v6
/-- euphroe/euphroeref05.Tail -/
def p186 (c177 : Int → Option (List Int)) (N : Nat) (a0 : Int) : Option (List Int) :=
  match c177 a0 with
  | none => none
  | some r1 =>
    bif ((decide ((0 : Int) ≤ (isub .i64 (((List.length r1) : Nat) : Int) (8 : Int)))) && (decide ((isub .i64 (((List.length r1) : Nat) : Int) (8 : Int)) ≤ (((List.length r1) : Nat) : Int)))) then
      bif ((decide (((List.length (List.take (Int.toNat (isub .i64 (((List.length r1) : Nat) : Int) (8 : Int))) r1)) * 1) ≤ 1099511627776)) && (decide ((List.length (List.take (Int.toNat (isub .i64 (((List.length r1) : Nat) : Int) (8 : Int))) r1)) ≤ 1099511627776))) then
        L186_0 c177 N (fun (y8 : Nat) (y9 : List Int) =>
            bif (decide ((0 + (y8 * 1)) ≤ (List.length y9))) then
              some (List.take y8 (List.drop 0 y9))
            else none) N r1 (isub .i64 (((List.length r1) : Nat) : Int) (8 : Int)) (List.length (List.take (Int.toNat (isub .i64 (((List.length r1) : Nat) : Int) (8 : Int))) r1)) (7 : Int) (List.take (Int.toNat (isub .i64 (((List.length r1) : Nat) : Int) (8 : Int))) r1)
      else none
    else none

/-- math/bits.RotateLeft32 -/
def p195 (N : Nat) (a0 : Int) (a1 : Int) : Option Int :=
  bif (decide ((iand .u64 (IntKind.wrap .u64 a1) (31 : Int)) < (0 : Int))) then
    none
  else
    bif (decide ((isub .u64 (32 : Int) (iand .u64 (IntKind.wrap .u64 a1) (31 : Int))) < (0 : Int))) then
      none
    else
      some (ior .u32 (ishl .u32 a0 (iand .u64 (IntKind.wrap .u64 a1) (31 : Int))) (ishr .u32 a0 (isub .u64 (32 : Int) (iand .u64 (IntKind.wrap .u64 a1) (31 : Int)))))

/-- euphroe/sha256.Tail -/
def p217 (c19 : Int → Int → Bool → Option ((List Int) × Int)) (N : Nat) (a0 : Int) : Option (List Int) :=
  bif ((decide ((0 : Int) ≤ (irem (isub .u64 (64 : Int) (irem (iadd .u64 (iadd .u64 a0 (1 : Int)) (8 : Int)) (64 : Int))) (64 : Int)))) && ((decide (((irem (isub .u64 (64 : Int) (irem (iadd .u64 (iadd .u64 a0 (1 : Int)) (8 : Int)) (64 : Int))) (64 : Int)) * ((1 : Nat) : Int)) ≤ (1099511627776 : Int))) && (decide ((irem (isub .u64 (64 : Int) (irem (iadd .u64 (iadd .u64 a0 (1 : Int)) (8 : Int)) (64 : Int))) (64 : Int)) ≤ (1099511627776 : Int))))) then
    bif ((List.length (List.replicate (Int.toNat (irem (isub .u64 (64 : Int) (irem (iadd .u64 (iadd .u64 a0 (1 : Int)) (8 : Int)) (64 : Int))) (64 : Int))) (0 : Int))) == ((Int.toNat (irem (isub .u64 (64 : Int) (irem (iadd .u64 (iadd .u64 a0 (1 : Int)) (8 : Int)) (64 : Int))) (64 : Int))) * 1)) then
      bif (decide (1 < (1 + (Int.toNat (irem (isub .u64 (64 : Int) (irem (iadd .u64 (iadd .u64 a0 (1 : Int)) (8 : Int)) (64 : Int))) (64 : Int)))))) then
        bif ((decide (((1 + (Int.toNat (irem (isub .u64 (64 : Int) (irem (iadd .u64 (iadd .u64 a0 (1 : Int)) (8 : Int)) (64 : Int))) (64 : Int)))) * 1) ≤ 1099511627776)) && (decide ((1 + (Int.toNat (irem (isub .u64 (64 : Int) (irem (iadd .u64 (iadd .u64 a0 (1 : Int)) (8 : Int)) (64 : Int))) (64 : Int)))) ≤ 1099511627776))) then
          match c19 (imul .u64 a0 (8 : Int)) (8 : Int) false with
          | none => none
          | some r1 =>
            bif (((List.length ([(128 : Int)] ++ (List.replicate (Int.toNat (irem (isub .u64 (64 : Int) (irem (iadd .u64 (iadd .u64 a0 (1 : Int)) (8 : Int)) (64 : Int))) (64 : Int))) (0 : Int)))) == ((1 + (Int.toNat (irem (isub .u64 (64 : Int) (irem (iadd .u64 (iadd .u64 a0 (1 : Int)) (8 : Int)) (64 : Int))) (64 : Int)))) * 1)) && ((decide ((((1 + (Int.toNat (irem (isub .u64 (64 : Int) (irem (iadd .u64 (iadd .u64 a0 (1 : Int)) (8 : Int)) (64 : Int))) (64 : Int)))) + (List.length r1.1)) * 1) ≤ 1099511627776)) && (decide (((1 + (Int.toNat (irem (isub .u64 (64 : Int) (irem (iadd .u64 (iadd .u64 a0 (1 : Int)) (8 : Int)) (64 : Int))) (64 : Int)))) + (List.length r1.1)) ≤ 1099511627776)))) then
              bif (decide ((0 + (((1 + (Int.toNat (irem (isub .u64 (64 : Int) (irem (iadd .u64 (iadd .u64 a0 (1 : Int)) (8 : Int)) (64 : Int))) (64 : Int)))) + (List.length r1.1)) * 1)) ≤ (List.length (([(128 : Int)] ++ (List.replicate (Int.toNat (irem (isub .u64 (64 : Int) (irem (iadd .u64 (iadd .u64 a0 (1 : Int)) (8 : Int)) (64 : Int))) (64 : Int))) (0 : Int))) ++ r1.1)))) then
                some (List.take ((1 + (Int.toNat (irem (isub .u64 (64 : Int) (irem (iadd .u64 (iadd .u64 a0 (1 : Int)) (8 : Int)) (64 : Int))) (64 : Int)))) + (List.length r1.1)) (List.drop 0 (([(128 : Int)] ++ (List.replicate (Int.toNat (irem (isub .u64 (64 : Int) (irem (iadd .u64 (iadd .u64 a0 (1 : Int)) (8 : Int)) (64 : Int))) (64 : Int))) (0 : Int))) ++ r1.1)))
              else none
            else none
        else none
      else
        bif (decide ((1 + (List.length (List.replicate (Int.toNat (irem (isub .u64 (64 : Int) (irem (iadd .u64 (iadd .u64 a0 (1 : Int)) (8 : Int)) (64 : Int))) (64 : Int))) (0 : Int)))) ≤ 1)) then
          match c19 (imul .u64 a0 (8 : Int)) (8 : Int) false with
          | none => none
          | some r2 =>
            bif (decide (1 < ((1 + (Int.toNat (irem (isub .u64 (64 : Int) (irem (iadd .u64 (iadd .u64 a0 (1 : Int)) (8 : Int)) (64 : Int))) (64 : Int)))) + (List.length r2.1)))) then
              bif ((decide ((((1 + (Int.toNat (irem (isub .u64 (64 : Int) (irem (iadd .u64 (iadd .u64 a0 (1 : Int)) (8 : Int)) (64 : Int))) (64 : Int)))) + (List.length r2.1)) * 1) ≤ 1099511627776)) && (decide (((1 + (Int.toNat (irem (isub .u64 (64 : Int) (irem (iadd .u64 (iadd .u64 a0 (1 : Int)) (8 : Int)) (64 : Int))) (64 : Int)))) + (List.length r2.1)) ≤ 1099511627776))) then
                bif (decide ((0 + ((1 + (Int.toNat (irem (isub .u64 (64 : Int) (irem (iadd .u64 (iadd .u64 a0 (1 : Int)) (8 : Int)) (64 : Int))) (64 : Int)))) * 1)) ≤ (List.length (([(128 : Int)] ++ (List.replicate (Int.toNat (irem (isub .u64 (64 : Int) (irem (iadd .u64 (iadd .u64 a0 (1 : Int)) (8 : Int)) (64 : Int))) (64 : Int))) (0 : Int))) ++ (List.drop (1 + (List.length (List.replicate (Int.toNat (irem (isub .u64 (64 : Int) (irem (iadd .u64 (iadd .u64 a0 (1 : Int)) (8 : Int)) (64 : Int))) (64 : Int))) (0 : Int)))) [(128 : Int)]))))) then
                  bif (decide ((0 + (((1 + (Int.toNat (irem (isub .u64 (64 : Int) (irem (iadd .u64 (iadd .u64 a0 (1 : Int)) (8 : Int)) (64 : Int))) (64 : Int)))) + (List.length r2.1)) * 1)) ≤ (List.length ((List.take ((1 + (Int.toNat (irem (isub .u64 (64 : Int) (irem (iadd .u64 (iadd .u64 a0 (1 : Int)) (8 : Int)) (64 : Int))) (64 : Int)))) * 1) (List.drop 0 (([(128 : Int)] ++ (List.replicate (Int.toNat (irem (isub .u64 (64 : Int) (irem (iadd .u64 (iadd .u64 a0 (1 : Int)) (8 : Int)) (64 : Int))) (64 : Int))) (0 : Int))) ++ (List.drop (1 + (List.length (List.replicate (Int.toNat (irem (isub .u64 (64 : Int) (irem (iadd .u64 (iadd .u64 a0 (1 : Int)) (8 : Int)) (64 : Int))) (64 : Int))) (0 : Int)))) [(128 : Int)])))) ++ r2.1)))) then
                    some (List.take ((1 + (Int.toNat (irem (isub .u64 (64 : Int) (irem (iadd .u64 (iadd .u64 a0 (1 : Int)) (8 : Int)) (64 : Int))) (64 : Int)))) + (List.length r2.1)) (List.drop 0 ((List.take ((1 + (Int.toNat (irem (isub .u64 (64 : Int) (irem (iadd .u64 (iadd .u64 a0 (1 : Int)) (8 : Int)) (64 : Int))) (64 : Int)))) * 1) (List.drop 0 (([(128 : Int)] ++ (List.replicate (Int.toNat (irem (isub .u64 (64 : Int) (irem (iadd .u64 (iadd .u64 a0 (1 : Int)) (8 : Int)) (64 : Int))) (64 : Int))) (0 : Int))) ++ (List.drop (1 + (List.length (List.replicate (Int.toNat (irem (isub .u64 (64 : Int) (irem (iadd .u64 (iadd .u64 a0 (1 : Int)) (8 : Int)) (64 : Int))) (64 : Int))) (0 : Int)))) [(128 : Int)])))) ++ r2.1)))
                  else none
                else none
              else none
            else
              bif (decide (((0 + ((1 + (Int.toNat (irem (isub .u64 (64 : Int) (irem (iadd .u64 (iadd .u64 a0 (1 : Int)) (8 : Int)) (64 : Int))) (64 : Int)))) * 1)) + (List.length r2.1)) ≤ (List.length (([(128 : Int)] ++ (List.replicate (Int.toNat (irem (isub .u64 (64 : Int) (irem (iadd .u64 (iadd .u64 a0 (1 : Int)) (8 : Int)) (64 : Int))) (64 : Int))) (0 : Int))) ++ (List.drop (1 + (List.length (List.replicate (Int.toNat (irem (isub .u64 (64 : Int) (irem (iadd .u64 (iadd .u64 a0 (1 : Int)) (8 : Int)) (64 : Int))) (64 : Int))) (0 : Int)))) [(128 : Int)]))))) then
                bif (decide ((0 + (((1 + (Int.toNat (irem (isub .u64 (64 : Int) (irem (iadd .u64 (iadd .u64 a0 (1 : Int)) (8 : Int)) (64 : Int))) (64 : Int)))) + (List.length r2.1)) * 1)) ≤ (List.length (((List.take (0 + ((1 + (Int.toNat (irem (isub .u64 (64 : Int) (irem (iadd .u64 (iadd .u64 a0 (1 : Int)) (8 : Int)) (64 : Int))) (64 : Int)))) * 1)) (([(128 : Int)] ++ (List.replicate (Int.toNat (irem (isub .u64 (64 : Int) (irem (iadd .u64 (iadd .u64 a0 (1 : Int)) (8 : Int)) (64 : Int))) (64 : Int))) (0 : Int))) ++ (List.drop (1 + (List.length (List.replicate (Int.toNat (irem (isub .u64 (64 : Int) (irem (iadd .u64 (iadd .u64 a0 (1 : Int)) (8 : Int)) (64 : Int))) (64 : Int))) (0 : Int)))) [(128 : Int)]))) ++ r2.1) ++ (List.drop ((0 + ((1 + (Int.toNat (irem (isub .u64 (64 : Int) (irem (iadd .u64 (iadd .u64 a0 (1 : Int)) (8 : Int)) (64 : Int))) (64 : Int)))) * 1)) + (List.length r2.1)) (([(128 : Int)] ++ (List.replicate (Int.toNat (irem (isub .u64 (64 : Int) (irem (iadd .u64 (iadd .u64 a0 (1 : Int)) (8 : Int)) (64 : Int))) (64 : Int))) (0 : Int))) ++ (List.drop (1 + (List.length (List.replicate (Int.toNat (irem (isub .u64 (64 : Int) (irem (iadd .u64 (iadd .u64 a0 (1 : Int)) (8 : Int)) (64 : Int))) (64 : Int))) (0 : Int)))) [(128 : Int)]))))))) then
                  some (List.take ((1 + (Int.toNat (irem (isub .u64 (64 : Int) (irem (iadd .u64 (iadd .u64 a0 (1 : Int)) (8 : Int)) (64 : Int))) (64 : Int)))) + (List.length r2.1)) (List.drop 0 (((List.take (0 + ((1 + (Int.toNat (irem (isub .u64 (64 : Int) (irem (iadd .u64 (iadd .u64 a0 (1 : Int)) (8 : Int)) (64 : Int))) (64 : Int)))) * 1)) (([(128 : Int)] ++ (List.replicate (Int.toNat (irem (isub .u64 (64 : Int) (irem (iadd .u64 (iadd .u64 a0 (1 : Int)) (8 : Int)) (64 : Int))) (64 : Int))) (0 : Int))) ++ (List.drop (1 + (List.length (List.replicate (Int.toNat (irem (isub .u64 (64 : Int) (irem (iadd .u64 (iadd .u64 a0 (1 : Int)) (8 : Int)) (64 : Int))) (64 : Int))) (0 : Int)))) [(128 : Int)]))) ++ r2.1) ++ (List.drop ((0 + ((1 + (Int.toNat (irem (isub .u64 (64 : Int) (irem (iadd .u64 (iadd .u64 a0 (1 : Int)) (8 : Int)) (64 : Int))) (64 : Int)))) * 1)) + (List.length r2.1)) (([(128 : Int)] ++ (List.replicate (Int.toNat (irem (isub .u64 (64 : Int) (irem (iadd .u64 (iadd .u64 a0 (1 : Int)) (8 : Int)) (64 : Int))) (64 : Int))) (0 : Int))) ++ (List.drop (1 + (List.length (List.replicate (Int.toNat (irem (isub .u64 (64 : Int) (irem (iadd .u64 (iadd .u64 a0 (1 : Int)) (8 : Int)) (64 : Int))) (64 : Int))) (0 : Int)))) [(128 : Int)]))))))
                else none
              else none
        else none
    else none
  else none

/-- euphroe/sha256.First -/
def p219 (c83 : Int → Int → Option (List Int)) (N : Nat)  : Option (List Int) :=
  match c83 (8 : Int) (2 : Int) with
  | none => none
  | some r1 =>
    bif (decide (8 ≤ (List.length r1))) then
      bif (decide (8 ≤ (List.length r1))) then
        bif ((List.length (List.take 8 (List.drop 0 r1))) == 8) then
          bif (decide ((0 + (List.length (List.take 8 (List.drop 0 r1)))) ≤ 8)) then
            bif (decide (8 ≤ (List.length (([] ++ (List.take 8 (List.drop 0 r1))) ++ (List.drop (0 + (List.length (List.take 8 (List.drop 0 r1)))) [(0 : Int), 0, 0, 0, 0, 0, 0, 0]))))) then
              some (List.take 8 (List.drop 0 (([] ++ (List.take 8 (List.drop 0 r1))) ++ (List.drop (0 + (List.length (List.take 8 (List.drop 0 r1)))) [(0 : Int), 0, 0, 0, 0, 0, 0, 0]))))
            else none
          else none
        else none
      else none
    else none

/-- (euphroe/sha256.turns).small -/
def p238 (c195 : Int → Int → Option Int) (N : Nat) (a0 : List Int) (a1 : Int) : Option Int :=
  match (a0)[0]? with
  | none => none
  | some x1 =>
    match c195 a1 (isub .i64 (0 : Int) x1) with
    | none => none
    | some r2 =>
      match (a0)[1]? with
      | none => none
      | some x3 =>
        match c195 a1 (isub .i64 (0 : Int) x3) with
        | none => none
        | some r4 =>
          match (a0)[2]? with
          | none => none
          | some x5 =>
            bif (decide (x5 < (0 : Int))) then
              none
            else
              some (ixor .u32 (ixor .u32 r2 r4) (ishr .u32 a1 x5))

def L235_0 (c21 : List Int → Bool → Option (Int × Int)) (c238 : List Int → Int → Option Int) (N : Nat) (q0_0 : List Int → List Int → Option (List Int)) : Nat → Int → List Int → List Int → List Int → Option (List Int)
  | 0, _, _, _, _ => none
  | n0 + 1, v1, v2, v3, v4 =>
    bif (decide (v1 < (64 : Int))) then
      bif (decide (v1 < (16 : Int))) then
        bif (decide (64 ≤ (List.length v2))) then
          bif ((decide ((0 : Int) ≤ (iadd .i64 (imul .i64 (4 : Int) v1) (4 : Int)))) && (decide ((iadd .i64 (imul .i64 (4 : Int) v1) (4 : Int)) ≤ (64 : Int)))) then
            bif ((decide ((0 : Int) ≤ (imul .i64 (4 : Int) v1))) && (decide ((imul .i64 (4 : Int) v1) ≤ (((Int.toNat (iadd .i64 (imul .i64 (4 : Int) v1) (4 : Int))) : Nat) : Int)))) then
              bif (decide (((0 + ((Int.toNat (imul .i64 (4 : Int) v1)) * 1)) + (((Int.toNat (iadd .i64 (imul .i64 (4 : Int) v1) (4 : Int))) - (Int.toNat (imul .i64 (4 : Int) v1))) * 1)) ≤ (List.length v2))) then
                match c21 (List.take ((Int.toNat (iadd .i64 (imul .i64 (4 : Int) v1) (4 : Int))) - (Int.toNat (imul .i64 (4 : Int) v1))) (List.drop (0 + ((Int.toNat (imul .i64 (4 : Int) v1)) * 1)) v2)) false with
                | none => none
                | some r5 =>
                  bif ((decide ((0 : Int) ≤ v1)) && (decide (v1 < (64 : Int)))) then
                    bif (decide ((0 + ((Int.toNat v1) * 1)) < (List.length v4))) then
                      L235_0 c21 c238 N q0_0 n0 (iadd .i64 v1 (1 : Int)) v2 v3 (List.set v4 (0 + ((Int.toNat v1) * 1)) (IntKind.wrap .u32 r5.1))
                    else none
                  else none
              else none
            else none
          else none
        else none
      else
        bif ((decide ((0 : Int) ≤ (isub .i64 v1 (16 : Int)))) && (decide ((isub .i64 v1 (16 : Int)) < (64 : Int)))) then
          match (v4)[(0 + ((Int.toNat (isub .i64 v1 (16 : Int))) * 1))]? with
          | none => none
          | some x6 =>
            bif ((decide ((0 : Int) ≤ (isub .i64 v1 (7 : Int)))) && (decide ((isub .i64 v1 (7 : Int)) < (64 : Int)))) then
              match (v4)[(0 + ((Int.toNat (isub .i64 v1 (7 : Int))) * 1))]? with
              | none => none
              | some x7 =>
                bif ((decide ((0 : Int) ≤ (isub .i64 v1 (15 : Int)))) && (decide ((isub .i64 v1 (15 : Int)) < (64 : Int)))) then
                  match (v4)[(0 + ((Int.toNat (isub .i64 v1 (15 : Int))) * 1))]? with
                  | none => none
                  | some x8 =>
                    match c238 ([(7 : Int), 18, 3] : List Int) x8 with
                    | none => none
                    | some r9 =>
                      bif ((decide ((0 : Int) ≤ (isub .i64 v1 (2 : Int)))) && (decide ((isub .i64 v1 (2 : Int)) < (64 : Int)))) then
                        match (v4)[(0 + ((Int.toNat (isub .i64 v1 (2 : Int))) * 1))]? with
                        | none => none
                        | some x10 =>
                          match c238 ([(17 : Int), 19, 10] : List Int) x10 with
                          | none => none
                          | some r11 =>
                            bif ((decide ((0 : Int) ≤ v1)) && (decide (v1 < (64 : Int)))) then
                              bif (decide ((0 + ((Int.toNat v1) * 1)) < (List.length v4))) then
                                L235_0 c21 c238 N q0_0 n0 (iadd .i64 v1 (1 : Int)) v2 v3 (List.set v4 (0 + ((Int.toNat v1) * 1)) (iadd .u32 (iadd .u32 (iadd .u32 x6 x7) r9) r11))
                              else none
                            else none
                      else none
                else none
            else none
        else none
    else
      q0_0 v3 v4
/-- euphroe/sha256.spread -/
def p235 (c21 : List Int → Bool → Option (Int × Int)) (c238 : List Int → Int → Option Int) (N : Nat) (a0 : List Int) : Option (List Int) :=
  L235_0 c21 c238 N (fun (y12 : List Int) (y13 : List Int) =>
      bif (decide (64 ≤ (List.length y13))) then
        bif ((List.length (List.take 64 (List.drop 0 y13))) == 64) then
          bif (decide ((0 + (List.length (List.take 64 (List.drop 0 y13)))) ≤ (List.length y12))) then
            bif (decide (64 ≤ (List.length (((List.take 0 y12) ++ (List.take 64 (List.drop 0 y13))) ++ (List.drop (0 + (List.length (List.take 64 (List.drop 0 y13)))) y12))))) then
              some (List.take 64 (List.drop 0 (((List.take 0 y12) ++ (List.take 64 (List.drop 0 y13))) ++ (List.drop (0 + (List.length (List.take 64 (List.drop 0 y13)))) y12))))
            else none
          else none
        else none
      else none) N (0 : Int) a0 ([(0 : Int), 0, 0, 0, 0, 0, 0, 0, 0, 0, 0, 0, 0, 0, 0, 0, 0, 0, 0, 0, 0, 0, 0, 0, 0, 0, 0, 0, 0, 0, 0, 0, 0, 0, 0, 0, 0, 0, 0, 0, 0, 0, 0, 0, 0, 0, 0, 0, 0, 0, 0, 0, 0, 0, 0, 0, 0, 0, 0, 0, 0, 0, 0, 0] : List Int) ([(0 : Int), 0, 0, 0, 0, 0, 0, 0, 0, 0, 0, 0, 0, 0, 0, 0, 0, 0, 0, 0, 0, 0, 0, 0, 0, 0, 0, 0, 0, 0, 0, 0, 0, 0, 0, 0, 0, 0, 0, 0, 0, 0, 0, 0, 0, 0, 0, 0, 0, 0, 0, 0, 0, 0, 0, 0, 0, 0, 0, 0, 0, 0, 0, 0] : List Int)

/-- (euphroe/sha256.turns).great -/
def p239 (c195 : Int → Int → Option Int) (N : Nat) (a0 : List Int) (a1 : Int) : Option Int :=
  match (a0)[0]? with
  | none => none
  | some x1 =>
    match c195 a1 (isub .i64 (0 : Int) x1) with
    | none => none
    | some r2 =>
      match (a0)[1]? with
      | none => none
      | some x3 =>
        match c195 a1 (isub .i64 (0 : Int) x3) with
        | none => none
        | some r4 =>
          match (a0)[2]? with
          | none => none
          | some x5 =>
            match c195 a1 (isub .i64 (0 : Int) x5) with
            | none => none
            | some r6 =>
              some (ixor .u32 (ixor .u32 r2 r4) r6)

/-- (euphroe/sha256.State).step -/
def p236 (c239 : List Int → Int → Option Int) (N : Nat) (a0 : List Int) (a1 : Int) : Option (List Int) :=
  match (a0)[0]? with
  | none => none
  | some x1 =>
    match (a0)[1]? with
    | none => none
    | some x2 =>
      match (a0)[2]? with
      | none => none
      | some x3 =>
        match (a0)[4]? with
        | none => none
        | some x4 =>
          match (a0)[5]? with
          | none => none
          | some x5 =>
            match (a0)[6]? with
            | none => none
            | some x6 =>
              match (a0)[7]? with
              | none => none
              | some x7 =>
                match c239 ([(6 : Int), 11, 25] : List Int) x4 with
                | none => none
                | some r8 =>
                  match c239 ([(2 : Int), 13, 22] : List Int) x1 with
                  | none => none
                  | some r9 =>
                    match (a0)[3]? with
                    | none => none
                    | some x10 =>
                      some ([(iadd .u32 (iadd .u32 (iadd .u32 (iadd .u32 x7 r8) (ixor .u32 x6 (iand .u32 x4 (ixor .u32 x5 x6)))) a1) (iadd .u32 r9 (ior .u32 (iand .u32 x1 x2) (iand .u32 x3 (ior .u32 x1 x2))))), x1, x2, x3, (iadd .u32 x10 (iadd .u32 (iadd .u32 (iadd .u32 x7 r8) (ixor .u32 x6 (iand .u32 x4 (ixor .u32 x5 x6)))) a1)), x4, x5, x6] : List Int)

def L229_0 (c235 : List Int → Option (List Int)) (c236 : List Int → Int → Option (List Int)) (N : Nat) (q0_0 : List Int → List Int → List Int → Option (List Int)) : Nat → List Int → List Int → Int → List Int → List Int → List Int → Option (List Int)
  | 0, _, _, _, _, _, _ => none
  | n0 + 1, v2, v3, v4, v5, v6, v7 =>
    bif (decide (v4 < (64 : Int))) then
      bif ((decide ((0 : Int) ≤ v4)) && (decide (v4 < (64 : Int)))) then
        match (v3)[((Int.toNat v4) * 1)]? with
        | none => none
        | some x8 =>
          bif (decide (8 ≤ (List.length v7))) then
            match geti v2 v4 with
            | none => none
            | some x9 =>
              match c236 (List.take 8 (List.drop 0 v7)) (iadd .u32 x8 x9) with
              | none => none
              | some r10 =>
                bif ((List.length r10) == 8) then
                  bif (decide ((0 + (List.length r10)) ≤ (List.length v7))) then
                    L229_0 c235 c236 N q0_0 n0 v2 v3 (iadd .i64 v4 (1 : Int)) v5 v6 (((List.take 0 v7) ++ r10) ++ (List.drop (0 + (List.length r10)) v7))
                  else none
                else none
          else none
      else none
    else
      q0_0 v5 v6 v7
def L229_1 (c235 : List Int → Option (List Int)) (c236 : List Int → Int → Option (List Int)) (N : Nat) (q1_2 : List Int → List Int → Option (List Int)) : Nat → Int → List Int → List Int → List Int → Option (List Int)
  | 0, _, _, _, _ => none
  | n1 + 1, v14, v15, v16, v17 =>
    bif (decide (v14 < (8 : Int))) then
      bif ((decide ((0 : Int) ≤ v14)) && (decide (v14 < (8 : Int)))) then
        match (v17)[(0 + ((Int.toNat v14) * 1))]? with
        | none => none
        | some x18 =>
          bif ((decide ((0 : Int) ≤ v14)) && (decide (v14 < (8 : Int)))) then
            match (v15)[(0 + ((Int.toNat v14) * 1))]? with
            | none => none
            | some x19 =>
              bif ((decide ((0 : Int) ≤ v14)) && (decide (v14 < (8 : Int)))) then
                bif (decide ((0 + ((Int.toNat v14) * 1)) < (List.length v17))) then
                  L229_1 c235 c236 N q1_2 n1 (iadd .i64 v14 (1 : Int)) v15 v16 (List.set v17 (0 + ((Int.toNat v14) * 1)) (iadd .u32 x18 x19))
                else none
              else none
          else none
      else none
    else
      q1_2 v16 v17
/-- (euphroe/sha256.State).block -/
def p229 (c235 : List Int → Option (List Int)) (c236 : List Int → Int → Option (List Int)) (N : Nat) (a0 : List Int) (a1 : List Int) (a2 : List Int) : Option (List Int) :=
  bif (decide (8 ≤ (List.length a0))) then
    bif ((List.length (List.take 8 (List.drop 0 a0))) == 8) then
      bif (decide ((0 + (List.length (List.take 8 (List.drop 0 a0)))) ≤ 8)) then
        bif (decide (64 ≤ (List.length a1))) then
          match c235 (List.take 64 (List.drop 0 a1)) with
          | none => none
          | some r1 =>
            L229_0 c235 c236 N (fun (y11 : List Int) (y12 : List Int) (y13 : List Int) =>
                L229_1 c235 c236 N (fun (y20 : List Int) (y21 : List Int) =>
                    bif (decide (8 ≤ (List.length y21))) then
                      bif ((List.length (List.take 8 (List.drop 0 y21))) == 8) then
                        bif (decide ((0 + (List.length (List.take 8 (List.drop 0 y21)))) ≤ (List.length y20))) then
                          bif (decide (8 ≤ (List.length (((List.take 0 y20) ++ (List.take 8 (List.drop 0 y21))) ++ (List.drop (0 + (List.length (List.take 8 (List.drop 0 y21)))) y20))))) then
                            some (List.take 8 (List.drop 0 (((List.take 0 y20) ++ (List.take 8 (List.drop 0 y21))) ++ (List.drop (0 + (List.length (List.take 8 (List.drop 0 y21)))) y20))))
                          else none
                        else none
                      else none
                    else none) N (0 : Int) y11 y12 y13) N a2 r1 (0 : Int) a0 ([(0 : Int), 0, 0, 0, 0, 0, 0, 0] : List Int) (([] ++ (List.take 8 (List.drop 0 a0))) ++ (List.drop (0 + (List.length (List.take 8 (List.drop 0 a0)))) [(0 : Int), 0, 0, 0, 0, 0, 0, 0]))
        else none
      else none
    else none
  else none

def L213_0 (c46 : List (List Int) → Option (List Int)) (c217 : Int → Option (List Int)) (c219 : Option (List Int)) (c83 : Int → Int → Option (List Int)) (c229 : List Int → List Int → List Int → Option (List Int)) (N : Nat) (q0_0 : List Int → List Int → Option (List Int)) : Nat → List Int → List Int → List Int → List Int → Option (List Int)
  | 0, _, _, _, _ => none
  | n0 + 1, v5, v6, v7, v8 =>
    bif (decide ((((List.length v5) : Nat) : Int) > (0 : Int))) then
      bif (decide (8 ≤ (List.length v8))) then
        bif (decide ((64 : Int) ≤ (((List.length v5) : Nat) : Int))) then
          bif (decide (64 ≤ (List.length (List.take 64 v5)))) then
            bif (decide (64 ≤ (List.length (List.take 64 v5)))) then
              match c229 (List.take 8 (List.drop 0 v8)) (List.take 64 (List.drop 0 (List.take 64 v5))) v6 with
              | none => none
              | some r9 =>
                bif ((List.length r9) == 8) then
                  bif (decide ((0 + (List.length r9)) ≤ (List.length v8))) then
                    bif (decide ((64 : Int) ≤ (((List.length v5) : Nat) : Int))) then
                      L213_0 c46 c217 c219 c83 c229 N q0_0 n0 (List.drop 64 v5) v6 v7 (((List.take 0 v8) ++ r9) ++ (List.drop (0 + (List.length r9)) v8))
                    else none
                  else none
                else none
            else none
          else none
        else none
      else none
    else
      q0_0 v7 v8
def L213_1 (c46 : List (List Int) → Option (List Int)) (c217 : Int → Option (List Int)) (c219 : Option (List Int)) (c83 : Int → Int → Option (List Int)) (c229 : List Int → List Int → List Int → Option (List Int)) (N : Nat) (q1_2 : List Int → List Int → Option (List Int)) : Nat → Int → List Int → List Int → List Int → Option (List Int)
  | 0, _, _, _, _ => none
  | n1 + 1, v12, v13, v14, v15 =>
    bif (decide (v12 < (32 : Int))) then
      bif ((decide ((0 : Int) ≤ (iquo .i64 v12 (4 : Int)))) && (decide ((iquo .i64 v12 (4 : Int)) < (8 : Int)))) then
        match (v14)[(0 + ((Int.toNat (iquo .i64 v12 (4 : Int))) * 1))]? with
        | none => none
        | some x16 =>
          bif (decide ((imul .i64 (8 : Int) (isub .i64 (3 : Int) (irem v12 (4 : Int)))) < (0 : Int))) then
            none
          else
            bif ((decide ((0 : Int) ≤ v12)) && (decide (v12 < (32 : Int)))) then
              bif (decide ((0 + ((Int.toNat v12) * 1)) < (List.length v15))) then
                L213_1 c46 c217 c219 c83 c229 N q1_2 n1 (iadd .i64 v12 (1 : Int)) v13 v14 (List.set v15 (0 + ((Int.toNat v12) * 1)) (IntKind.wrap .u8 (ishr .u32 x16 (imul .i64 (8 : Int) (isub .i64 (3 : Int) (irem v12 (4 : Int)))))))
              else none
            else none
      else none
    else
      q1_2 v13 v15
/-- euphroe/sha256.Of -/
def p213 (c46 : List (List Int) → Option (List Int)) (c217 : Int → Option (List Int)) (c219 : Option (List Int)) (c83 : Int → Int → Option (List Int)) (c229 : List Int → List Int → List Int → Option (List Int)) (N : Nat) (a0 : List (List Int)) : Option (List Int) :=
  match c46 a0 with
  | none => none
  | some r1 =>
    match c217 (IntKind.wrap .u64 (((List.length r1) : Nat) : Int)) with
    | none => none
    | some r2 =>
      bif (((List.length r1) == ((List.length r1) * 1)) && ((decide ((((List.length r1) + (List.length r2)) * 1) ≤ 1099511627776)) && (decide (((List.length r1) + (List.length r2)) ≤ 1099511627776)))) then
        match c219 with
        | none => none
        | some r3 =>
          match c83 (64 : Int) (3 : Int) with
          | none => none
          | some r4 =>
            bif ((List.length r3) == 8) then
              bif (decide ((0 + (List.length r3)) ≤ 8)) then
                bif (decide ((0 + (((List.length r1) + (List.length r2)) * 1)) ≤ (List.length (r1 ++ r2)))) then
                  L213_0 c46 c217 c219 c83 c229 N (fun (y10 : List Int) (y11 : List Int) =>
                      L213_1 c46 c217 c219 c83 c229 N (fun (y17 : List Int) (y18 : List Int) =>
                          bif (decide (32 ≤ (List.length y18))) then
                            bif ((List.length (List.take 32 (List.drop 0 y18))) == 32) then
                              bif (decide ((0 + (List.length (List.take 32 (List.drop 0 y18)))) ≤ (List.length y17))) then
                                bif (decide (32 ≤ (List.length (((List.take 0 y17) ++ (List.take 32 (List.drop 0 y18))) ++ (List.drop (0 + (List.length (List.take 32 (List.drop 0 y18)))) y17))))) then
                                  some (List.take 32 (List.drop 0 (((List.take 0 y17) ++ (List.take 32 (List.drop 0 y18))) ++ (List.drop (0 + (List.length (List.take 32 (List.drop 0 y18)))) y17))))
                                else none
                              else none
                            else none
                          else none) N (0 : Int) y10 y11 ([(0 : Int), 0, 0, 0, 0, 0, 0, 0, 0, 0, 0, 0, 0, 0, 0, 0, 0, 0, 0, 0, 0, 0, 0, 0, 0, 0, 0, 0, 0, 0, 0, 0] : List Int)) N (List.take ((List.length r1) + (List.length r2)) (List.drop 0 (r1 ++ r2))) r4 ([(0 : Int), 0, 0, 0, 0, 0, 0, 0, 0, 0, 0, 0, 0, 0, 0, 0, 0, 0, 0, 0, 0, 0, 0, 0, 0, 0, 0, 0, 0, 0, 0, 0] : List Int) (([] ++ r3) ++ (List.drop (0 + (List.length r3)) [(0 : Int), 0, 0, 0, 0, 0, 0, 0]))
                else none
              else none
            else none
      else none

/-- euphroe/euphroeref06.Tail -/
def p218 (c186 : Int → Option (List Int)) (N : Nat) (a0 : Int) : Option (List Int) :=
  match c186 a0 with
  | none => none
  | some r1 =>
    some r1

/-- euphroe/euphroeref06.First -/
def p220 (N : Nat)  : Option (List Int) :=
  some ([(1779033703 : Int), 3144134277, 1013904242, 2773480762, 1359893119, 2600822924, 528734635, 1541459225] : List Int)

/-- euphroe/euphroeref06.turn -/
def p237 (N : Nat) (a0 : Int) (a1 : Int) : Option Int :=
  bif (decide (a1 < (0 : Int))) then
    none
  else
    bif (decide ((isub .i64 (32 : Int) a1) < (0 : Int))) then
      none
    else
      some (ior .u32 (ishr .u32 a0 a1) (ishl .u32 a0 (isub .i64 (32 : Int) a1)))

/-- euphroe/euphroeref06.small -/
def p230 (c237 : Int → Int → Option Int) (N : Nat) (a0 : Int) (a1 : Int) (a2 : Int) (a3 : Int) : Option Int :=
  match c237 a0 a1 with
  | none => none
  | some r1 =>
    match c237 a0 a2 with
    | none => none
    | some r2 =>
      bif (decide (a3 < (0 : Int))) then
        none
      else
        some (ixor .u32 (ixor .u32 r1 r2) (ishr .u32 a0 a3))

/-- euphroe/euphroeref06.constants -/
def p231 (N : Nat)  : Option (List Int) :=
  some ([(1116352408 : Int), (1899447441 : Int), (3049323471 : Int), (3921009573 : Int), (961987163 : Int), (1508970993 : Int), (2453635748 : Int), (2870763221 : Int), (3624381080 : Int), (310598401 : Int), (607225278 : Int), (1426881987 : Int), (1925078388 : Int), (2162078206 : Int), (2614888103 : Int), (3248222580 : Int), (3835390401 : Int), (4022224774 : Int), (264347078 : Int), (604807628 : Int), (770255983 : Int), (1249150122 : Int), (1555081692 : Int), (1996064986 : Int), (2554220882 : Int), (2821834349 : Int), (2952996808 : Int), (3210313671 : Int), (3336571891 : Int), (3584528711 : Int), (113926993 : Int), (338241895 : Int), (666307205 : Int), (773529912 : Int), (1294757372 : Int), (1396182291 : Int), (1695183700 : Int), (1986661051 : Int), (2177026350 : Int), (2456956037 : Int), (2730485921 : Int), (2820302411 : Int), (3259730800 : Int), (3345764771 : Int), (3516065817 : Int), (3600352804 : Int), (4094571909 : Int), (275423344 : Int), (430227734 : Int), (506948616 : Int), (659060556 : Int), (883997877 : Int), (958139571 : Int), (1322822218 : Int), (1537002063 : Int), (1747873779 : Int), (1955562222 : Int), (2024104815 : Int), (2227730452 : Int), (2361852424 : Int), (2428436474 : Int), (2756734187 : Int), (3204031479 : Int), (3329325298 : Int)] : List Int)

/-- euphroe/euphroeref06.great -/
def p232 (c237 : Int → Int → Option Int) (N : Nat) (a0 : Int) (a1 : Int) (a2 : Int) (a3 : Int) : Option Int :=
  match c237 a0 a1 with
  | none => none
  | some r1 =>
    match c237 a0 a2 with
    | none => none
    | some r2 =>
      match c237 a0 a3 with
      | none => none
      | some r3 =>
        some (ixor .u32 (ixor .u32 r1 r2) r3)

def L216_0 (c230 : Int → Int → Int → Int → Option Int) (c231 : Option (List Int)) (c232 : Int → Int → Int → Int → Option Int) (N : Nat) (q0_0 : List Int → List Int → List Int → Option (List Int)) : Nat → Int → List Int → List Int → List Int → List Int → Option (List Int)
  | 0, _, _, _, _, _ => none
  | n0 + 1, v1, v2, v3, v4, v5 =>
    bif (decide (v1 < (64 : Int))) then
      bif (decide (v1 < (16 : Int))) then
        bif ((decide ((0 : Int) ≤ (imul .i64 (4 : Int) v1))) && (decide ((imul .i64 (4 : Int) v1) < (64 : Int)))) then
          match (v3)[(0 + ((Int.toNat (imul .i64 (4 : Int) v1)) * 1))]? with
          | none => none
          | some x6 =>
            bif ((decide ((0 : Int) ≤ (iadd .i64 (imul .i64 (4 : Int) v1) (1 : Int)))) && (decide ((iadd .i64 (imul .i64 (4 : Int) v1) (1 : Int)) < (64 : Int)))) then
              match (v3)[(0 + ((Int.toNat (iadd .i64 (imul .i64 (4 : Int) v1) (1 : Int))) * 1))]? with
              | none => none
              | some x7 =>
                bif ((decide ((0 : Int) ≤ (iadd .i64 (imul .i64 (4 : Int) v1) (2 : Int)))) && (decide ((iadd .i64 (imul .i64 (4 : Int) v1) (2 : Int)) < (64 : Int)))) then
                  match (v3)[(0 + ((Int.toNat (iadd .i64 (imul .i64 (4 : Int) v1) (2 : Int))) * 1))]? with
                  | none => none
                  | some x8 =>
                    bif ((decide ((0 : Int) ≤ (iadd .i64 (imul .i64 (4 : Int) v1) (3 : Int)))) && (decide ((iadd .i64 (imul .i64 (4 : Int) v1) (3 : Int)) < (64 : Int)))) then
                      match (v3)[(0 + ((Int.toNat (iadd .i64 (imul .i64 (4 : Int) v1) (3 : Int))) * 1))]? with
                      | none => none
                      | some x9 =>
                        bif ((decide ((0 : Int) ≤ v1)) && (decide (v1 < (64 : Int)))) then
                          bif (decide ((0 + ((Int.toNat v1) * 1)) < (List.length v5))) then
                            L216_0 c230 c231 c232 N q0_0 n0 (iadd .i64 v1 (1 : Int)) v2 v3 v4 (List.set v5 (0 + ((Int.toNat v1) * 1)) (iadd .u32 (iadd .u32 (iadd .u32 (imul .u32 (IntKind.wrap .u32 x6) (16777216 : Int)) (imul .u32 (IntKind.wrap .u32 x7) (65536 : Int))) (imul .u32 (IntKind.wrap .u32 x8) (256 : Int))) (IntKind.wrap .u32 x9)))
                          else none
                        else none
                    else none
                else none
            else none
        else none
      else
        bif ((decide ((0 : Int) ≤ (isub .i64 v1 (16 : Int)))) && (decide ((isub .i64 v1 (16 : Int)) < (64 : Int)))) then
          match (v5)[(0 + ((Int.toNat (isub .i64 v1 (16 : Int))) * 1))]? with
          | none => none
          | some x10 =>
            bif ((decide ((0 : Int) ≤ (isub .i64 v1 (7 : Int)))) && (decide ((isub .i64 v1 (7 : Int)) < (64 : Int)))) then
              match (v5)[(0 + ((Int.toNat (isub .i64 v1 (7 : Int))) * 1))]? with
              | none => none
              | some x11 =>
                bif ((decide ((0 : Int) ≤ (isub .i64 v1 (15 : Int)))) && (decide ((isub .i64 v1 (15 : Int)) < (64 : Int)))) then
                  match (v5)[(0 + ((Int.toNat (isub .i64 v1 (15 : Int))) * 1))]? with
                  | none => none
                  | some x12 =>
                    match c230 x12 (7 : Int) (18 : Int) (3 : Int) with
                    | none => none
                    | some r13 =>
                      bif ((decide ((0 : Int) ≤ (isub .i64 v1 (2 : Int)))) && (decide ((isub .i64 v1 (2 : Int)) < (64 : Int)))) then
                        match (v5)[(0 + ((Int.toNat (isub .i64 v1 (2 : Int))) * 1))]? with
                        | none => none
                        | some x14 =>
                          match c230 x14 (17 : Int) (19 : Int) (10 : Int) with
                          | none => none
                          | some r15 =>
                            bif ((decide ((0 : Int) ≤ v1)) && (decide (v1 < (64 : Int)))) then
                              bif (decide ((0 + ((Int.toNat v1) * 1)) < (List.length v5))) then
                                L216_0 c230 c231 c232 N q0_0 n0 (iadd .i64 v1 (1 : Int)) v2 v3 v4 (List.set v5 (0 + ((Int.toNat v1) * 1)) (iadd .u32 (iadd .u32 (iadd .u32 x10 x11) r13) r15))
                              else none
                            else none
                      else none
                else none
            else none
        else none
    else
      q0_0 v2 v4 v5
def L216_1 (c230 : Int → Int → Int → Int → Option Int) (c231 : Option (List Int)) (c232 : Int → Int → Int → Int → Option Int) (N : Nat) (q1_2 : List Int → List Int → List Int → Option (List Int)) : Nat → List Int → Int → List Int → List Int → List Int → List Int → Option (List Int)
  | 0, _, _, _, _, _, _ => none
  | n1 + 1, v20, v21, v22, v23, v24, v25 =>
    bif (decide (v21 < (64 : Int))) then
      match (v25)[7]? with
      | none => none
      | some x26 =>
        match (v25)[4]? with
        | none => none
        | some x27 =>
          match c232 x27 (6 : Int) (11 : Int) (25 : Int) with
          | none => none
          | some r28 =>
            match (v25)[4]? with
            | none => none
            | some x29 =>
              match (v25)[5]? with
              | none => none
              | some x30 =>
                match (v25)[4]? with
                | none => none
                | some x31 =>
                  match (v25)[6]? with
                  | none => none
                  | some x32 =>
                    match geti v20 v21 with
                    | none => none
                    | some x33 =>
                      bif ((decide ((0 : Int) ≤ v21)) && (decide (v21 < (64 : Int)))) then
                        match (v24)[(0 + ((Int.toNat v21) * 1))]? with
                        | none => none
                        | some x34 =>
                          match (v25)[0]? with
                          | none => none
                          | some x35 =>
                            match c232 x35 (2 : Int) (13 : Int) (22 : Int) with
                            | none => none
                            | some r36 =>
                              match (v25)[0]? with
                              | none => none
                              | some x37 =>
                                match (v25)[1]? with
                                | none => none
                                | some x38 =>
                                  match (v25)[0]? with
                                  | none => none
                                  | some x39 =>
                                    match (v25)[2]? with
                                    | none => none
                                    | some x40 =>
                                      match (v25)[1]? with
                                      | none => none
                                      | some x41 =>
                                        match (v25)[2]? with
                                        | none => none
                                        | some x42 =>
                                          match (v25)[0]? with
                                          | none => none
                                          | some x43 =>
                                            match (v25)[1]? with
                                            | none => none
                                            | some x44 =>
                                              match (v25)[2]? with
                                              | none => none
                                              | some x45 =>
                                                match (v25)[3]? with
                                                | none => none
                                                | some x46 =>
                                                  match (v25)[4]? with
                                                  | none => none
                                                  | some x47 =>
                                                    match (v25)[5]? with
                                                    | none => none
                                                    | some x48 =>
                                                      match (v25)[6]? with
                                                      | none => none
                                                      | some x49 =>
                                                        bif (decide (8 ≤ (List.length v25))) then
                                                          L216_1 c230 c231 c232 N q1_2 n1 v20 (iadd .i64 v21 (1 : Int)) v22 v23 v24 (((List.take 0 v25) ++ [(iadd .u32 (iadd .u32 (iadd .u32 (iadd .u32 (iadd .u32 x26 r28) (ior .u32 (iand .u32 x29 x30) (iand .u32 (isub .u32 (4294967295 : Int) x31) x32))) x33) x34) (iadd .u32 r36 (ior .u32 (ior .u32 (iand .u32 x37 x38) (iand .u32 x39 x40)) (iand .u32 x41 x42)))), x43, x44, x45, (iadd .u32 x46 (iadd .u32 (iadd .u32 (iadd .u32 (iadd .u32 x26 r28) (ior .u32 (iand .u32 x29 x30) (iand .u32 (isub .u32 (4294967295 : Int) x31) x32))) x33) x34)), x47, x48, x49]) ++ (List.drop 8 v25))
                                                        else none
                      else none
    else
      q1_2 v22 v23 v25
def L216_2 (c230 : Int → Int → Int → Int → Option Int) (c231 : Option (List Int)) (c232 : Int → Int → Int → Int → Option Int) (N : Nat) (q2_4 : List Int → List Int → Option (List Int)) : Nat → Int → List Int → List Int → List Int → Option (List Int)
  | 0, _, _, _, _ => none
  | n2 + 1, v53, v54, v55, v56 =>
    bif (decide (v53 < (8 : Int))) then
      bif ((decide ((0 : Int) ≤ v53)) && (decide (v53 < (8 : Int)))) then
        match (v56)[(0 + ((Int.toNat v53) * 1))]? with
        | none => none
        | some x57 =>
          bif ((decide ((0 : Int) ≤ v53)) && (decide (v53 < (8 : Int)))) then
            match (v54)[(0 + ((Int.toNat v53) * 1))]? with
            | none => none
            | some x58 =>
              bif ((decide ((0 : Int) ≤ v53)) && (decide (v53 < (8 : Int)))) then
                bif (decide ((0 + ((Int.toNat v53) * 1)) < (List.length v56))) then
                  L216_2 c230 c231 c232 N q2_4 n2 (iadd .i64 v53 (1 : Int)) v54 v55 (List.set v56 (0 + ((Int.toNat v53) * 1)) (iadd .u32 x57 x58))
                else none
              else none
          else none
      else none
    else
      q2_4 v55 v56
/-- euphroe/euphroeref06.Block -/
def p216 (c230 : Int → Int → Int → Int → Option Int) (c231 : Option (List Int)) (c232 : Int → Int → Int → Int → Option Int) (N : Nat) (a0 : List Int) (a1 : List Int) : Option (List Int) :=
  L216_0 c230 c231 c232 N (fun (y16 : List Int) (y17 : List Int) (y18 : List Int) =>
      match c231 with
      | none => none
      | some r19 =>
        bif (decide (8 ≤ (List.length y16))) then
          bif ((List.length (List.take 8 (List.drop 0 y16))) == 8) then
            bif (decide ((0 + (List.length (List.take 8 (List.drop 0 y16)))) ≤ 8)) then
              L216_1 c230 c231 c232 N (fun (y50 : List Int) (y51 : List Int) (y52 : List Int) =>
                  L216_2 c230 c231 c232 N (fun (y59 : List Int) (y60 : List Int) =>
                      bif (decide (8 ≤ (List.length y60))) then
                        bif ((List.length (List.take 8 (List.drop 0 y60))) == 8) then
                          bif (decide ((0 + (List.length (List.take 8 (List.drop 0 y60)))) ≤ (List.length y59))) then
                            bif (decide (8 ≤ (List.length (((List.take 0 y59) ++ (List.take 8 (List.drop 0 y60))) ++ (List.drop (0 + (List.length (List.take 8 (List.drop 0 y60)))) y59))))) then
                              some (List.take 8 (List.drop 0 (((List.take 0 y59) ++ (List.take 8 (List.drop 0 y60))) ++ (List.drop (0 + (List.length (List.take 8 (List.drop 0 y60)))) y59))))
                            else none
                          else none
                        else none
                      else none) N (0 : Int) y50 y51 y52) N r19 (0 : Int) y16 y17 y18 (([] ++ (List.take 8 (List.drop 0 y16))) ++ (List.drop (0 + (List.length (List.take 8 (List.drop 0 y16)))) [(0 : Int), 0, 0, 0, 0, 0, 0, 0]))
            else none
          else none
        else none) N (0 : Int) a0 a1 ([(0 : Int), 0, 0, 0, 0, 0, 0, 0] : List Int) ([(0 : Int), 0, 0, 0, 0, 0, 0, 0, 0, 0, 0, 0, 0, 0, 0, 0, 0, 0, 0, 0, 0, 0, 0, 0, 0, 0, 0, 0, 0, 0, 0, 0, 0, 0, 0, 0, 0, 0, 0, 0, 0, 0, 0, 0, 0, 0, 0, 0, 0, 0, 0, 0, 0, 0, 0, 0, 0, 0, 0, 0, 0, 0, 0, 0] : List Int)

def L214_1 (c218 : Int → Option (List Int)) (c220 : Option (List Int)) (c216 : List Int → List Int → Option (List Int)) (N : Nat) (q1_2 : Nat → Int → List Int → List Int → List Int → List Int → Option (List Int)) : Nat → Nat → Int → Int → List Int → List Int → List Int → List Int → Option (List Int)
  | 0, _, _, _, _, _, _, _ => none
  | n1 + 1, v8, v9, v10, v11, v12, v13, v14 =>
    bif (decide (v10 < (64 : Int))) then
      bif ((decide ((0 : Int) ≤ (iadd .i64 v9 v10))) && (decide ((iadd .i64 v9 v10) < ((v8 : Nat) : Int)))) then
        match (v12)[(0 + ((Int.toNat (iadd .i64 v9 v10)) * 1))]? with
        | none => none
        | some x15 =>
          bif ((decide ((0 : Int) ≤ v10)) && (decide (v10 < (64 : Int)))) then
            bif (decide ((0 + ((Int.toNat v10) * 1)) < (List.length v14))) then
              L214_1 c218 c220 c216 N q1_2 n1 v8 v9 (iadd .i64 v10 (1 : Int)) v11 v12 v13 (List.set v14 (0 + ((Int.toNat v10) * 1)) x15)
            else none
          else none
      else none
    else
      q1_2 v8 v9 v11 v12 v13 v14
def L214_0 (c218 : Int → Option (List Int)) (c220 : Option (List Int)) (c216 : List Int → List Int → Option (List Int)) (N : Nat) (q0_0 : List Int → List Int → Option (List Int)) : Nat → Nat → Int → List Int → List Int → List Int → Option (List Int)
  | 0, _, _, _, _, _ => none
  | n0 + 1, v3, v4, v5, v6, v7 =>
    bif (decide (v4 < ((v3 : Nat) : Int))) then
      L214_1 c218 c220 c216 N (fun (y16 : Nat) (y17 : Int) (y18 : List Int) (y19 : List Int) (y20 : List Int) (y21 : List Int) =>
          bif (decide (8 ≤ (List.length y20))) then
            bif (decide (64 ≤ (List.length y21))) then
              match c216 (List.take 8 (List.drop 0 y20)) (List.take 64 (List.drop 0 y21)) with
              | none => none
              | some r22 =>
                bif ((List.length r22) == 8) then
                  bif (decide ((0 + (List.length r22)) ≤ (List.length y20))) then
                    L214_0 c218 c220 c216 N q0_0 n0 y16 (iadd .i64 y17 (64 : Int)) y18 y19 (((List.take 0 y20) ++ r22) ++ (List.drop (0 + (List.length r22)) y20))
                  else none
                else none
            else none
          else none) N v3 v4 (0 : Int) v5 v6 v7 ([(0 : Int), 0, 0, 0, 0, 0, 0, 0, 0, 0, 0, 0, 0, 0, 0, 0, 0, 0, 0, 0, 0, 0, 0, 0, 0, 0, 0, 0, 0, 0, 0, 0, 0, 0, 0, 0, 0, 0, 0, 0, 0, 0, 0, 0, 0, 0, 0, 0, 0, 0, 0, 0, 0, 0, 0, 0, 0, 0, 0, 0, 0, 0, 0, 0] : List Int)
    else
      q0_0 v5 v7
def L214_2 (c218 : Int → Option (List Int)) (c220 : Option (List Int)) (c216 : List Int → List Int → Option (List Int)) (N : Nat) (q2_4 : List Int → List Int → Option (List Int)) : Nat → Int → List Int → List Int → List Int → Option (List Int)
  | 0, _, _, _, _ => none
  | n2 + 1, v25, v26, v27, v28 =>
    bif (decide (v25 < (32 : Int))) then
      bif ((decide ((0 : Int) ≤ (iquo .i64 v25 (4 : Int)))) && (decide ((iquo .i64 v25 (4 : Int)) < (8 : Int)))) then
        match (v27)[(0 + ((Int.toNat (iquo .i64 v25 (4 : Int))) * 1))]? with
        | none => none
        | some x29 =>
          bif (decide ((isub .i64 (24 : Int) (imul .i64 (8 : Int) (irem v25 (4 : Int)))) < (0 : Int))) then
            none
          else
            bif ((decide ((0 : Int) ≤ v25)) && (decide (v25 < (32 : Int)))) then
              bif (decide ((0 + ((Int.toNat v25) * 1)) < (List.length v28))) then
                L214_2 c218 c220 c216 N q2_4 n2 (iadd .i64 v25 (1 : Int)) v26 v27 (List.set v28 (0 + ((Int.toNat v25) * 1)) (IntKind.wrap .u8 (ishr .u32 x29 (isub .i64 (24 : Int) (imul .i64 (8 : Int) (irem v25 (4 : Int)))))))
              else none
            else none
      else none
    else
      q2_4 v26 v28
/-- euphroe/euphroeref06.Of -/
def p214 (c218 : Int → Option (List Int)) (c220 : Option (List Int)) (c216 : List Int → List Int → Option (List Int)) (N : Nat) (a0 : List Int) : Option (List Int) :=
  bif ((decide (((List.length a0) * 1) ≤ 1099511627776)) && (decide ((List.length a0) ≤ 1099511627776))) then
    match c218 (IntKind.wrap .u64 (((List.length a0) : Nat) : Int)) with
    | none => none
    | some r1 =>
      bif (((List.length a0) == ((List.length a0) * 1)) && ((decide ((((List.length a0) + (List.length r1)) * 1) ≤ 1099511627776)) && (decide (((List.length a0) + (List.length r1)) ≤ 1099511627776)))) then
        match c220 with
        | none => none
        | some r2 =>
          bif ((List.length r2) == 8) then
            bif (decide ((0 + (List.length r2)) ≤ 8)) then
              L214_0 c218 c220 c216 N (fun (y23 : List Int) (y24 : List Int) =>
                  L214_2 c218 c220 c216 N (fun (y30 : List Int) (y31 : List Int) =>
                      bif (decide (32 ≤ (List.length y31))) then
                        bif ((List.length (List.take 32 (List.drop 0 y31))) == 32) then
                          bif (decide ((0 + (List.length (List.take 32 (List.drop 0 y31)))) ≤ (List.length y30))) then
                            bif (decide (32 ≤ (List.length (((List.take 0 y30) ++ (List.take 32 (List.drop 0 y31))) ++ (List.drop (0 + (List.length (List.take 32 (List.drop 0 y31)))) y30))))) then
                              some (List.take 32 (List.drop 0 (((List.take 0 y30) ++ (List.take 32 (List.drop 0 y31))) ++ (List.drop (0 + (List.length (List.take 32 (List.drop 0 y31)))) y30))))
                            else none
                          else none
                        else none
                      else none) N (0 : Int) y23 y24 ([(0 : Int), 0, 0, 0, 0, 0, 0, 0, 0, 0, 0, 0, 0, 0, 0, 0, 0, 0, 0, 0, 0, 0, 0, 0, 0, 0, 0, 0, 0, 0, 0, 0] : List Int)) N ((List.length a0) + (List.length r1)) (0 : Int) ([(0 : Int), 0, 0, 0, 0, 0, 0, 0, 0, 0, 0, 0, 0, 0, 0, 0, 0, 0, 0, 0, 0, 0, 0, 0, 0, 0, 0, 0, 0, 0, 0, 0] : List Int) (a0 ++ r1) (([] ++ r2) ++ (List.drop (0 + (List.length r2)) [(0 : Int), 0, 0, 0, 0, 0, 0, 0]))
            else none
          else none
      else none
  else none

def L225_0 (c214 : List Int → Option (List Int)) (N : Nat) (q0_0 : List Int → List Int → Option (List Int)) : Nat → List Int → Int → List Int → List Int → Option (List Int)
  | 0, _, _, _, _ => none
  | n0 + 1, v2, v3, v4, v5 =>
    bif (decide (v3 < (((List.length v2) : Nat) : Int))) then
      match geti v2 v3 with
      | none => none
      | some x6 =>
        bif ((decide ((0 : Int) ≤ v3)) && (decide (v3 < (64 : Int)))) then
          bif (decide ((0 + ((Int.toNat v3) * 1)) < (List.length v5))) then
            L225_0 c214 N q0_0 n0 v2 (iadd .i64 v3 (1 : Int)) v4 (List.set v5 (0 + ((Int.toNat v3) * 1)) x6)
          else none
        else none
    else
      q0_0 v4 v5
/-- euphroe/euphroeref07.Key -/
def p225 (c214 : List Int → Option (List Int)) (N : Nat) (a0 : List Int) : Option (List Int) :=
  bif (decide ((((List.length a0) : Nat) : Int) > (64 : Int))) then
    match c214 a0 with
    | none => none
    | some r1 =>
      bif ((List.length r1) == 32) then
        bif (decide ((0 + (List.length r1)) ≤ 32)) then
          bif (decide (32 ≤ (List.length (([] ++ r1) ++ (List.drop (0 + (List.length r1)) [(0 : Int), 0, 0, 0, 0, 0, 0, 0, 0, 0, 0, 0, 0, 0, 0, 0, 0, 0, 0, 0, 0, 0, 0, 0, 0, 0, 0, 0, 0, 0, 0, 0]))))) then
            bif (decide (32 ≤ (List.length (([] ++ r1) ++ (List.drop (0 + (List.length r1)) [(0 : Int), 0, 0, 0, 0, 0, 0, 0, 0, 0, 0, 0, 0, 0, 0, 0, 0, 0, 0, 0, 0, 0, 0, 0, 0, 0, 0, 0, 0, 0, 0, 0]))))) then
              L225_0 c214 N (fun (y7 : List Int) (y8 : List Int) =>
                  bif (decide (64 ≤ (List.length y8))) then
                    bif ((List.length (List.take 64 (List.drop 0 y8))) == 64) then
                      bif (decide ((0 + (List.length (List.take 64 (List.drop 0 y8)))) ≤ (List.length y7))) then
                        bif (decide (64 ≤ (List.length (((List.take 0 y7) ++ (List.take 64 (List.drop 0 y8))) ++ (List.drop (0 + (List.length (List.take 64 (List.drop 0 y8)))) y7))))) then
                          some (List.take 64 (List.drop 0 (((List.take 0 y7) ++ (List.take 64 (List.drop 0 y8))) ++ (List.drop (0 + (List.length (List.take 64 (List.drop 0 y8)))) y7))))
                        else none
                      else none
                    else none
                  else none) N (List.take 32 (List.drop 0 (([] ++ r1) ++ (List.drop (0 + (List.length r1)) [(0 : Int), 0, 0, 0, 0, 0, 0, 0, 0, 0, 0, 0, 0, 0, 0, 0, 0, 0, 0, 0, 0, 0, 0, 0, 0, 0, 0, 0, 0, 0, 0, 0])))) (0 : Int) ([(0 : Int), 0, 0, 0, 0, 0, 0, 0, 0, 0, 0, 0, 0, 0, 0, 0, 0, 0, 0, 0, 0, 0, 0, 0, 0, 0, 0, 0, 0, 0, 0, 0, 0, 0, 0, 0, 0, 0, 0, 0, 0, 0, 0, 0, 0, 0, 0, 0, 0, 0, 0, 0, 0, 0, 0, 0, 0, 0, 0, 0, 0, 0, 0, 0] : List Int) ([(0 : Int), 0, 0, 0, 0, 0, 0, 0, 0, 0, 0, 0, 0, 0, 0, 0, 0, 0, 0, 0, 0, 0, 0, 0, 0, 0, 0, 0, 0, 0, 0, 0, 0, 0, 0, 0, 0, 0, 0, 0, 0, 0, 0, 0, 0, 0, 0, 0, 0, 0, 0, 0, 0, 0, 0, 0, 0, 0, 0, 0, 0, 0, 0, 0] : List Int)
            else none
          else none
        else none
      else none
  else
    L225_0 c214 N (fun (y9 : List Int) (y10 : List Int) =>
        bif (decide (64 ≤ (List.length y10))) then
          bif ((List.length (List.take 64 (List.drop 0 y10))) == 64) then
            bif (decide ((0 + (List.length (List.take 64 (List.drop 0 y10)))) ≤ (List.length y9))) then
              bif (decide (64 ≤ (List.length (((List.take 0 y9) ++ (List.take 64 (List.drop 0 y10))) ++ (List.drop (0 + (List.length (List.take 64 (List.drop 0 y10)))) y9))))) then
                some (List.take 64 (List.drop 0 (((List.take 0 y9) ++ (List.take 64 (List.drop 0 y10))) ++ (List.drop (0 + (List.length (List.take 64 (List.drop 0 y10)))) y9))))
              else none
            else none
          else none
        else none) N a0 (0 : Int) ([(0 : Int), 0, 0, 0, 0, 0, 0, 0, 0, 0, 0, 0, 0, 0, 0, 0, 0, 0, 0, 0, 0, 0, 0, 0, 0, 0, 0, 0, 0, 0, 0, 0, 0, 0, 0, 0, 0, 0, 0, 0, 0, 0, 0, 0, 0, 0, 0, 0, 0, 0, 0, 0, 0, 0, 0, 0, 0, 0, 0, 0, 0, 0, 0, 0] : List Int) ([(0 : Int), 0, 0, 0, 0, 0, 0, 0, 0, 0, 0, 0, 0, 0, 0, 0, 0, 0, 0, 0, 0, 0, 0, 0, 0, 0, 0, 0, 0, 0, 0, 0, 0, 0, 0, 0, 0, 0, 0, 0, 0, 0, 0, 0, 0, 0, 0, 0, 0, 0, 0, 0, 0, 0, 0, 0, 0, 0, 0, 0, 0, 0, 0, 0] : List Int)

def L233_0 (N : Nat) (q0_0 : Nat → List Int → Option (List Int)) : Nat → Int → Nat → Int → List Int → List Int → Option (List Int)
  | 0, _, _, _, _, _ => none
  | n0 + 1, v1, v2, v3, v4, v5 =>
    bif (decide (v3 < (64 : Int))) then
      bif ((decide ((0 : Int) ≤ v3)) && (decide (v3 < (64 : Int)))) then
        match (v4)[(0 + ((Int.toNat v3) * 1))]? with
        | none => none
        | some x6 =>
          bif (((List.length v5) == (v2 * 1)) && ((decide (((v2 + 1) * 1) ≤ 1099511627776)) && (decide ((v2 + 1) ≤ 1099511627776)))) then
            L233_0 N q0_0 n0 v1 (v2 + 1) (iadd .i64 v3 (1 : Int)) v4 (v5 ++ [(ixor .u8 x6 v1)])
          else none
      else none
    else
      q0_0 v2 v5
/-- euphroe/euphroeref07.turned -/
def p233 (N : Nat) (a0 : List Int) (a1 : Int) : Option (List Int) :=
  L233_0 N (fun (y7 : Nat) (y8 : List Int) =>
      bif (y7 == (List.length y8)) then
        some y8
      else none) N a1 0 (0 : Int) a0 ([] : List Int)

/-- euphroe/euphroeref07.Of -/
def p222 (c225 : List Int → Option (List Int)) (c233 : List Int → Int → Option (List Int)) (c214 : List Int → Option (List Int)) (N : Nat) (a0 : List Int) (a1 : List Int) : Option (List Int) :=
  match c225 a0 with
  | none => none
  | some r1 =>
    bif ((List.length r1) == 64) then
      bif (decide ((0 + (List.length r1)) ≤ 64)) then
        bif (decide (64 ≤ (List.length (([] ++ r1) ++ (List.drop (0 + (List.length r1)) [(0 : Int), 0, 0, 0, 0, 0, 0, 0, 0, 0, 0, 0, 0, 0, 0, 0, 0, 0, 0, 0, 0, 0, 0, 0, 0, 0, 0, 0, 0, 0, 0, 0, 0, 0, 0, 0, 0, 0, 0, 0, 0, 0, 0, 0, 0, 0, 0, 0, 0, 0, 0, 0, 0, 0, 0, 0, 0, 0, 0, 0, 0, 0, 0, 0]))))) then
          match c233 (List.take 64 (List.drop 0 (([] ++ r1) ++ (List.drop (0 + (List.length r1)) [(0 : Int), 0, 0, 0, 0, 0, 0, 0, 0, 0, 0, 0, 0, 0, 0, 0, 0, 0, 0, 0, 0, 0, 0, 0, 0, 0, 0, 0, 0, 0, 0, 0, 0, 0, 0, 0, 0, 0, 0, 0, 0, 0, 0, 0, 0, 0, 0, 0, 0, 0, 0, 0, 0, 0, 0, 0, 0, 0, 0, 0, 0, 0, 0, 0])))) (54 : Int) with
          | none => none
          | some r2 =>
            bif (((List.length r2) == ((List.length r2) * 1)) && ((decide ((((List.length r2) + (List.length a1)) * 1) ≤ 1099511627776)) && (decide (((List.length r2) + (List.length a1)) ≤ 1099511627776)))) then
              bif (decide ((0 + (((List.length r2) + (List.length a1)) * 1)) ≤ (List.length (r2 ++ a1)))) then
                match c214 (List.take ((List.length r2) + (List.length a1)) (List.drop 0 (r2 ++ a1))) with
                | none => none
                | some r3 =>
                  bif ((List.length r3) == 32) then
                    bif (decide ((0 + (List.length r3)) ≤ 32)) then
                      bif (decide (64 ≤ (List.length (([] ++ r1) ++ (List.drop (0 + (List.length r1)) [(0 : Int), 0, 0, 0, 0, 0, 0, 0, 0, 0, 0, 0, 0, 0, 0, 0, 0, 0, 0, 0, 0, 0, 0, 0, 0, 0, 0, 0, 0, 0, 0, 0, 0, 0, 0, 0, 0, 0, 0, 0, 0, 0, 0, 0, 0, 0, 0, 0, 0, 0, 0, 0, 0, 0, 0, 0, 0, 0, 0, 0, 0, 0, 0, 0]))))) then
                        match c233 (List.take 64 (List.drop 0 (([] ++ r1) ++ (List.drop (0 + (List.length r1)) [(0 : Int), 0, 0, 0, 0, 0, 0, 0, 0, 0, 0, 0, 0, 0, 0, 0, 0, 0, 0, 0, 0, 0, 0, 0, 0, 0, 0, 0, 0, 0, 0, 0, 0, 0, 0, 0, 0, 0, 0, 0, 0, 0, 0, 0, 0, 0, 0, 0, 0, 0, 0, 0, 0, 0, 0, 0, 0, 0, 0, 0, 0, 0, 0, 0])))) (92 : Int) with
                        | none => none
                        | some r4 =>
                          bif (decide (32 ≤ (List.length (([] ++ r3) ++ (List.drop (0 + (List.length r3)) [(0 : Int), 0, 0, 0, 0, 0, 0, 0, 0, 0, 0, 0, 0, 0, 0, 0, 0, 0, 0, 0, 0, 0, 0, 0, 0, 0, 0, 0, 0, 0, 0, 0]))))) then
                            bif (decide (32 ≤ (List.length (([] ++ r3) ++ (List.drop (0 + (List.length r3)) [(0 : Int), 0, 0, 0, 0, 0, 0, 0, 0, 0, 0, 0, 0, 0, 0, 0, 0, 0, 0, 0, 0, 0, 0, 0, 0, 0, 0, 0, 0, 0, 0, 0]))))) then
                              bif (((List.length r4) == ((List.length r4) * 1)) && ((decide ((((List.length r4) + 32) * 1) ≤ 1099511627776)) && (decide (((List.length r4) + 32) ≤ 1099511627776)))) then
                                bif (decide ((0 + (((List.length r4) + 32) * 1)) ≤ (List.length (r4 ++ (List.take 32 (List.drop 0 (([] ++ r3) ++ (List.drop (0 + (List.length r3)) [(0 : Int), 0, 0, 0, 0, 0, 0, 0, 0, 0, 0, 0, 0, 0, 0, 0, 0, 0, 0, 0, 0, 0, 0, 0, 0, 0, 0, 0, 0, 0, 0, 0])))))))) then
                                  match c214 (List.take ((List.length r4) + 32) (List.drop 0 (r4 ++ (List.take 32 (List.drop 0 (([] ++ r3) ++ (List.drop (0 + (List.length r3)) [(0 : Int), 0, 0, 0, 0, 0, 0, 0, 0, 0, 0, 0, 0, 0, 0, 0, 0, 0, 0, 0, 0, 0, 0, 0, 0, 0, 0, 0, 0, 0, 0, 0]))))))) with
                                  | none => none
                                  | some r5 =>
                                    bif ((List.length r5) == 32) then
                                      bif (decide ((0 + (List.length r5)) ≤ 32)) then
                                        bif (decide (32 ≤ (List.length (([] ++ r5) ++ (List.drop (0 + (List.length r5)) [(0 : Int), 0, 0, 0, 0, 0, 0, 0, 0, 0, 0, 0, 0, 0, 0, 0, 0, 0, 0, 0, 0, 0, 0, 0, 0, 0, 0, 0, 0, 0, 0, 0]))))) then
                                          some (List.take 32 (List.drop 0 (([] ++ r5) ++ (List.drop (0 + (List.length r5)) [(0 : Int), 0, 0, 0, 0, 0, 0, 0, 0, 0, 0, 0, 0, 0, 0, 0, 0, 0, 0, 0, 0, 0, 0, 0, 0, 0, 0, 0, 0, 0, 0, 0]))))
                                        else none
                                      else none
                                    else none
                                else none
                              else none
                            else none
                          else none
                      else none
                    else none
                  else none
              else none
            else none
        else none
      else none
    else none

/-- euphroe/hmac.Key -/
def p224 (c213 : List (List Int) → Option (List Int)) (N : Nat) (a0 : List Int) : Option (List Int) :=
  bif (decide ((((List.length a0) : Nat) : Int) > (64 : Int))) then
    match c213 ([a0] : List (List Int)) with
    | none => none
    | some r1 =>
      bif ((List.length r1) == 32) then
        bif (decide ((0 + (List.length r1)) ≤ 32)) then
          bif (decide (32 ≤ (List.length (([] ++ r1) ++ (List.drop (0 + (List.length r1)) [(0 : Int), 0, 0, 0, 0, 0, 0, 0, 0, 0, 0, 0, 0, 0, 0, 0, 0, 0, 0, 0, 0, 0, 0, 0, 0, 0, 0, 0, 0, 0, 0, 0]))))) then
            bif (decide (32 ≤ (List.length (([] ++ r1) ++ (List.drop (0 + (List.length r1)) [(0 : Int), 0, 0, 0, 0, 0, 0, 0, 0, 0, 0, 0, 0, 0, 0, 0, 0, 0, 0, 0, 0, 0, 0, 0, 0, 0, 0, 0, 0, 0, 0, 0]))))) then
              bif (decide ((0 + (List.length (List.take 32 (List.drop 0 (List.take 32 (List.drop 0 (([] ++ r1) ++ (List.drop (0 + (List.length r1)) [(0 : Int), 0, 0, 0, 0, 0, 0, 0, 0, 0, 0, 0, 0, 0, 0, 0, 0, 0, 0, 0, 0, 0, 0, 0, 0, 0, 0, 0, 0, 0, 0, 0])))))))) ≤ 64)) then
                bif (decide (64 ≤ (List.length (([] ++ (List.take 32 (List.drop 0 (List.take 32 (List.drop 0 (([] ++ r1) ++ (List.drop (0 + (List.length r1)) [(0 : Int), 0, 0, 0, 0, 0, 0, 0, 0, 0, 0, 0, 0, 0, 0, 0, 0, 0, 0, 0, 0, 0, 0, 0, 0, 0, 0, 0, 0, 0, 0, 0]))))))) ++ (List.drop (0 + (List.length (List.take 32 (List.drop 0 (List.take 32 (List.drop 0 (([] ++ r1) ++ (List.drop (0 + (List.length r1)) [(0 : Int), 0, 0, 0, 0, 0, 0, 0, 0, 0, 0, 0, 0, 0, 0, 0, 0, 0, 0, 0, 0, 0, 0, 0, 0, 0, 0, 0, 0, 0, 0, 0])))))))) [(0 : Int), 0, 0, 0, 0, 0, 0, 0, 0, 0, 0, 0, 0, 0, 0, 0, 0, 0, 0, 0, 0, 0, 0, 0, 0, 0, 0, 0, 0, 0, 0, 0, 0, 0, 0, 0, 0, 0, 0, 0, 0, 0, 0, 0, 0, 0, 0, 0, 0, 0, 0, 0, 0, 0, 0, 0, 0, 0, 0, 0, 0, 0, 0, 0]))))) then
                  bif ((List.length (List.take 64 (List.drop 0 (([] ++ (List.take 32 (List.drop 0 (List.take 32 (List.drop 0 (([] ++ r1) ++ (List.drop (0 + (List.length r1)) [(0 : Int), 0, 0, 0, 0, 0, 0, 0, 0, 0, 0, 0, 0, 0, 0, 0, 0, 0, 0, 0, 0, 0, 0, 0, 0, 0, 0, 0, 0, 0, 0, 0]))))))) ++ (List.drop (0 + (List.length (List.take 32 (List.drop 0 (List.take 32 (List.drop 0 (([] ++ r1) ++ (List.drop (0 + (List.length r1)) [(0 : Int), 0, 0, 0, 0, 0, 0, 0, 0, 0, 0, 0, 0, 0, 0, 0, 0, 0, 0, 0, 0, 0, 0, 0, 0, 0, 0, 0, 0, 0, 0, 0])))))))) [(0 : Int), 0, 0, 0, 0, 0, 0, 0, 0, 0, 0, 0, 0, 0, 0, 0, 0, 0, 0, 0, 0, 0, 0, 0, 0, 0, 0, 0, 0, 0, 0, 0, 0, 0, 0, 0, 0, 0, 0, 0, 0, 0, 0, 0, 0, 0, 0, 0, 0, 0, 0, 0, 0, 0, 0, 0, 0, 0, 0, 0, 0, 0, 0, 0]))))) == 64) then
                    bif (decide ((0 + (List.length (List.take 64 (List.drop 0 (([] ++ (List.take 32 (List.drop 0 (List.take 32 (List.drop 0 (([] ++ r1) ++ (List.drop (0 + (List.length r1)) [(0 : Int), 0, 0, 0, 0, 0, 0, 0, 0, 0, 0, 0, 0, 0, 0, 0, 0, 0, 0, 0, 0, 0, 0, 0, 0, 0, 0, 0, 0, 0, 0, 0]))))))) ++ (List.drop (0 + (List.length (List.take 32 (List.drop 0 (List.take 32 (List.drop 0 (([] ++ r1) ++ (List.drop (0 + (List.length r1)) [(0 : Int), 0, 0, 0, 0, 0, 0, 0, 0, 0, 0, 0, 0, 0, 0, 0, 0, 0, 0, 0, 0, 0, 0, 0, 0, 0, 0, 0, 0, 0, 0, 0])))))))) [(0 : Int), 0, 0, 0, 0, 0, 0, 0, 0, 0, 0, 0, 0, 0, 0, 0, 0, 0, 0, 0, 0, 0, 0, 0, 0, 0, 0, 0, 0, 0, 0, 0, 0, 0, 0, 0, 0, 0, 0, 0, 0, 0, 0, 0, 0, 0, 0, 0, 0, 0, 0, 0, 0, 0, 0, 0, 0, 0, 0, 0, 0, 0, 0, 0])))))) ≤ 64)) then
                      bif (decide (64 ≤ (List.length (([] ++ (List.take 64 (List.drop 0 (([] ++ (List.take 32 (List.drop 0 (List.take 32 (List.drop 0 (([] ++ r1) ++ (List.drop (0 + (List.length r1)) [(0 : Int), 0, 0, 0, 0, 0, 0, 0, 0, 0, 0, 0, 0, 0, 0, 0, 0, 0, 0, 0, 0, 0, 0, 0, 0, 0, 0, 0, 0, 0, 0, 0]))))))) ++ (List.drop (0 + (List.length (List.take 32 (List.drop 0 (List.take 32 (List.drop 0 (([] ++ r1) ++ (List.drop (0 + (List.length r1)) [(0 : Int), 0, 0, 0, 0, 0, 0, 0, 0, 0, 0, 0, 0, 0, 0, 0, 0, 0, 0, 0, 0, 0, 0, 0, 0, 0, 0, 0, 0, 0, 0, 0])))))))) [(0 : Int), 0, 0, 0, 0, 0, 0, 0, 0, 0, 0, 0, 0, 0, 0, 0, 0, 0, 0, 0, 0, 0, 0, 0, 0, 0, 0, 0, 0, 0, 0, 0, 0, 0, 0, 0, 0, 0, 0, 0, 0, 0, 0, 0, 0, 0, 0, 0, 0, 0, 0, 0, 0, 0, 0, 0, 0, 0, 0, 0, 0, 0, 0, 0]))))) ++ (List.drop (0 + (List.length (List.take 64 (List.drop 0 (([] ++ (List.take 32 (List.drop 0 (List.take 32 (List.drop 0 (([] ++ r1) ++ (List.drop (0 + (List.length r1)) [(0 : Int), 0, 0, 0, 0, 0, 0, 0, 0, 0, 0, 0, 0, 0, 0, 0, 0, 0, 0, 0, 0, 0, 0, 0, 0, 0, 0, 0, 0, 0, 0, 0]))))))) ++ (List.drop (0 + (List.length (List.take 32 (List.drop 0 (List.take 32 (List.drop 0 (([] ++ r1) ++ (List.drop (0 + (List.length r1)) [(0 : Int), 0, 0, 0, 0, 0, 0, 0, 0, 0, 0, 0, 0, 0, 0, 0, 0, 0, 0, 0, 0, 0, 0, 0, 0, 0, 0, 0, 0, 0, 0, 0])))))))) [(0 : Int), 0, 0, 0, 0, 0, 0, 0, 0, 0, 0, 0, 0, 0, 0, 0, 0, 0, 0, 0, 0, 0, 0, 0, 0, 0, 0, 0, 0, 0, 0, 0, 0, 0, 0, 0, 0, 0, 0, 0, 0, 0, 0, 0, 0, 0, 0, 0, 0, 0, 0, 0, 0, 0, 0, 0, 0, 0, 0, 0, 0, 0, 0, 0])))))) [(0 : Int), 0, 0, 0, 0, 0, 0, 0, 0, 0, 0, 0, 0, 0, 0, 0, 0, 0, 0, 0, 0, 0, 0, 0, 0, 0, 0, 0, 0, 0, 0, 0, 0, 0, 0, 0, 0, 0, 0, 0, 0, 0, 0, 0, 0, 0, 0, 0, 0, 0, 0, 0, 0, 0, 0, 0, 0, 0, 0, 0, 0, 0, 0, 0]))))) then
                        some (List.take 64 (List.drop 0 (([] ++ (List.take 64 (List.drop 0 (([] ++ (List.take 32 (List.drop 0 (List.take 32 (List.drop 0 (([] ++ r1) ++ (List.drop (0 + (List.length r1)) [(0 : Int), 0, 0, 0, 0, 0, 0, 0, 0, 0, 0, 0, 0, 0, 0, 0, 0, 0, 0, 0, 0, 0, 0, 0, 0, 0, 0, 0, 0, 0, 0, 0]))))))) ++ (List.drop (0 + (List.length (List.take 32 (List.drop 0 (List.take 32 (List.drop 0 (([] ++ r1) ++ (List.drop (0 + (List.length r1)) [(0 : Int), 0, 0, 0, 0, 0, 0, 0, 0, 0, 0, 0, 0, 0, 0, 0, 0, 0, 0, 0, 0, 0, 0, 0, 0, 0, 0, 0, 0, 0, 0, 0])))))))) [(0 : Int), 0, 0, 0, 0, 0, 0, 0, 0, 0, 0, 0, 0, 0, 0, 0, 0, 0, 0, 0, 0, 0, 0, 0, 0, 0, 0, 0, 0, 0, 0, 0, 0, 0, 0, 0, 0, 0, 0, 0, 0, 0, 0, 0, 0, 0, 0, 0, 0, 0, 0, 0, 0, 0, 0, 0, 0, 0, 0, 0, 0, 0, 0, 0]))))) ++ (List.drop (0 + (List.length (List.take 64 (List.drop 0 (([] ++ (List.take 32 (List.drop 0 (List.take 32 (List.drop 0 (([] ++ r1) ++ (List.drop (0 + (List.length r1)) [(0 : Int), 0, 0, 0, 0, 0, 0, 0, 0, 0, 0, 0, 0, 0, 0, 0, 0, 0, 0, 0, 0, 0, 0, 0, 0, 0, 0, 0, 0, 0, 0, 0]))))))) ++ (List.drop (0 + (List.length (List.take 32 (List.drop 0 (List.take 32 (List.drop 0 (([] ++ r1) ++ (List.drop (0 + (List.length r1)) [(0 : Int), 0, 0, 0, 0, 0, 0, 0, 0, 0, 0, 0, 0, 0, 0, 0, 0, 0, 0, 0, 0, 0, 0, 0, 0, 0, 0, 0, 0, 0, 0, 0])))))))) [(0 : Int), 0, 0, 0, 0, 0, 0, 0, 0, 0, 0, 0, 0, 0, 0, 0, 0, 0, 0, 0, 0, 0, 0, 0, 0, 0, 0, 0, 0, 0, 0, 0, 0, 0, 0, 0, 0, 0, 0, 0, 0, 0, 0, 0, 0, 0, 0, 0, 0, 0, 0, 0, 0, 0, 0, 0, 0, 0, 0, 0, 0, 0, 0, 0])))))) [(0 : Int), 0, 0, 0, 0, 0, 0, 0, 0, 0, 0, 0, 0, 0, 0, 0, 0, 0, 0, 0, 0, 0, 0, 0, 0, 0, 0, 0, 0, 0, 0, 0, 0, 0, 0, 0, 0, 0, 0, 0, 0, 0, 0, 0, 0, 0, 0, 0, 0, 0, 0, 0, 0, 0, 0, 0, 0, 0, 0, 0, 0, 0, 0, 0]))))
                      else none
                    else none
                  else none
                else none
              else none
            else none
          else none
        else none
      else none
  else
    bif (decide ((List.length a0) ≤ 64)) then
      bif (decide ((0 + (List.length (List.take ((List.length a0) * 1) (List.drop 0 a0)))) ≤ 64)) then
        bif (decide (64 ≤ (List.length (([] ++ (List.take ((List.length a0) * 1) (List.drop 0 a0))) ++ (List.drop (0 + (List.length (List.take ((List.length a0) * 1) (List.drop 0 a0)))) [(0 : Int), 0, 0, 0, 0, 0, 0, 0, 0, 0, 0, 0, 0, 0, 0, 0, 0, 0, 0, 0, 0, 0, 0, 0, 0, 0, 0, 0, 0, 0, 0, 0, 0, 0, 0, 0, 0, 0, 0, 0, 0, 0, 0, 0, 0, 0, 0, 0, 0, 0, 0, 0, 0, 0, 0, 0, 0, 0, 0, 0, 0, 0, 0, 0]))))) then
          bif ((List.length (List.take 64 (List.drop 0 (([] ++ (List.take ((List.length a0) * 1) (List.drop 0 a0))) ++ (List.drop (0 + (List.length (List.take ((List.length a0) * 1) (List.drop 0 a0)))) [(0 : Int), 0, 0, 0, 0, 0, 0, 0, 0, 0, 0, 0, 0, 0, 0, 0, 0, 0, 0, 0, 0, 0, 0, 0, 0, 0, 0, 0, 0, 0, 0, 0, 0, 0, 0, 0, 0, 0, 0, 0, 0, 0, 0, 0, 0, 0, 0, 0, 0, 0, 0, 0, 0, 0, 0, 0, 0, 0, 0, 0, 0, 0, 0, 0]))))) == 64) then
            bif (decide ((0 + (List.length (List.take 64 (List.drop 0 (([] ++ (List.take ((List.length a0) * 1) (List.drop 0 a0))) ++ (List.drop (0 + (List.length (List.take ((List.length a0) * 1) (List.drop 0 a0)))) [(0 : Int), 0, 0, 0, 0, 0, 0, 0, 0, 0, 0, 0, 0, 0, 0, 0, 0, 0, 0, 0, 0, 0, 0, 0, 0, 0, 0, 0, 0, 0, 0, 0, 0, 0, 0, 0, 0, 0, 0, 0, 0, 0, 0, 0, 0, 0, 0, 0, 0, 0, 0, 0, 0, 0, 0, 0, 0, 0, 0, 0, 0, 0, 0, 0])))))) ≤ 64)) then
              bif (decide (64 ≤ (List.length (([] ++ (List.take 64 (List.drop 0 (([] ++ (List.take ((List.length a0) * 1) (List.drop 0 a0))) ++ (List.drop (0 + (List.length (List.take ((List.length a0) * 1) (List.drop 0 a0)))) [(0 : Int), 0, 0, 0, 0, 0, 0, 0, 0, 0, 0, 0, 0, 0, 0, 0, 0, 0, 0, 0, 0, 0, 0, 0, 0, 0, 0, 0, 0, 0, 0, 0, 0, 0, 0, 0, 0, 0, 0, 0, 0, 0, 0, 0, 0, 0, 0, 0, 0, 0, 0, 0, 0, 0, 0, 0, 0, 0, 0, 0, 0, 0, 0, 0]))))) ++ (List.drop (0 + (List.length (List.take 64 (List.drop 0 (([] ++ (List.take ((List.length a0) * 1) (List.drop 0 a0))) ++ (List.drop (0 + (List.length (List.take ((List.length a0) * 1) (List.drop 0 a0)))) [(0 : Int), 0, 0, 0, 0, 0, 0, 0, 0, 0, 0, 0, 0, 0, 0, 0, 0, 0, 0, 0, 0, 0, 0, 0, 0, 0, 0, 0, 0, 0, 0, 0, 0, 0, 0, 0, 0, 0, 0, 0, 0, 0, 0, 0, 0, 0, 0, 0, 0, 0, 0, 0, 0, 0, 0, 0, 0, 0, 0, 0, 0, 0, 0, 0])))))) [(0 : Int), 0, 0, 0, 0, 0, 0, 0, 0, 0, 0, 0, 0, 0, 0, 0, 0, 0, 0, 0, 0, 0, 0, 0, 0, 0, 0, 0, 0, 0, 0, 0, 0, 0, 0, 0, 0, 0, 0, 0, 0, 0, 0, 0, 0, 0, 0, 0, 0, 0, 0, 0, 0, 0, 0, 0, 0, 0, 0, 0, 0, 0, 0, 0]))))) then
                some (List.take 64 (List.drop 0 (([] ++ (List.take 64 (List.drop 0 (([] ++ (List.take ((List.length a0) * 1) (List.drop 0 a0))) ++ (List.drop (0 + (List.length (List.take ((List.length a0) * 1) (List.drop 0 a0)))) [(0 : Int), 0, 0, 0, 0, 0, 0, 0, 0, 0, 0, 0, 0, 0, 0, 0, 0, 0, 0, 0, 0, 0, 0, 0, 0, 0, 0, 0, 0, 0, 0, 0, 0, 0, 0, 0, 0, 0, 0, 0, 0, 0, 0, 0, 0, 0, 0, 0, 0, 0, 0, 0, 0, 0, 0, 0, 0, 0, 0, 0, 0, 0, 0, 0]))))) ++ (List.drop (0 + (List.length (List.take 64 (List.drop 0 (([] ++ (List.take ((List.length a0) * 1) (List.drop 0 a0))) ++ (List.drop (0 + (List.length (List.take ((List.length a0) * 1) (List.drop 0 a0)))) [(0 : Int), 0, 0, 0, 0, 0, 0, 0, 0, 0, 0, 0, 0, 0, 0, 0, 0, 0, 0, 0, 0, 0, 0, 0, 0, 0, 0, 0, 0, 0, 0, 0, 0, 0, 0, 0, 0, 0, 0, 0, 0, 0, 0, 0, 0, 0, 0, 0, 0, 0, 0, 0, 0, 0, 0, 0, 0, 0, 0, 0, 0, 0, 0, 0])))))) [(0 : Int), 0, 0, 0, 0, 0, 0, 0, 0, 0, 0, 0, 0, 0, 0, 0, 0, 0, 0, 0, 0, 0, 0, 0, 0, 0, 0, 0, 0, 0, 0, 0, 0, 0, 0, 0, 0, 0, 0, 0, 0, 0, 0, 0, 0, 0, 0, 0, 0, 0, 0, 0, 0, 0, 0, 0, 0, 0, 0, 0, 0, 0, 0, 0]))))
              else none
            else none
          else none
        else none
      else none
    else
      bif (decide ((0 + (List.length (List.take 64 (List.drop 0 a0)))) ≤ 64)) then
        bif (decide (64 ≤ (List.length (([] ++ (List.take 64 (List.drop 0 a0))) ++ (List.drop (0 + (List.length (List.take 64 (List.drop 0 a0)))) [(0 : Int), 0, 0, 0, 0, 0, 0, 0, 0, 0, 0, 0, 0, 0, 0, 0, 0, 0, 0, 0, 0, 0, 0, 0, 0, 0, 0, 0, 0, 0, 0, 0, 0, 0, 0, 0, 0, 0, 0, 0, 0, 0, 0, 0, 0, 0, 0, 0, 0, 0, 0, 0, 0, 0, 0, 0, 0, 0, 0, 0, 0, 0, 0, 0]))))) then
          bif ((List.length (List.take 64 (List.drop 0 (([] ++ (List.take 64 (List.drop 0 a0))) ++ (List.drop (0 + (List.length (List.take 64 (List.drop 0 a0)))) [(0 : Int), 0, 0, 0, 0, 0, 0, 0, 0, 0, 0, 0, 0, 0, 0, 0, 0, 0, 0, 0, 0, 0, 0, 0, 0, 0, 0, 0, 0, 0, 0, 0, 0, 0, 0, 0, 0, 0, 0, 0, 0, 0, 0, 0, 0, 0, 0, 0, 0, 0, 0, 0, 0, 0, 0, 0, 0, 0, 0, 0, 0, 0, 0, 0]))))) == 64) then
            bif (decide ((0 + (List.length (List.take 64 (List.drop 0 (([] ++ (List.take 64 (List.drop 0 a0))) ++ (List.drop (0 + (List.length (List.take 64 (List.drop 0 a0)))) [(0 : Int), 0, 0, 0, 0, 0, 0, 0, 0, 0, 0, 0, 0, 0, 0, 0, 0, 0, 0, 0, 0, 0, 0, 0, 0, 0, 0, 0, 0, 0, 0, 0, 0, 0, 0, 0, 0, 0, 0, 0, 0, 0, 0, 0, 0, 0, 0, 0, 0, 0, 0, 0, 0, 0, 0, 0, 0, 0, 0, 0, 0, 0, 0, 0])))))) ≤ 64)) then
              bif (decide (64 ≤ (List.length (([] ++ (List.take 64 (List.drop 0 (([] ++ (List.take 64 (List.drop 0 a0))) ++ (List.drop (0 + (List.length (List.take 64 (List.drop 0 a0)))) [(0 : Int), 0, 0, 0, 0, 0, 0, 0, 0, 0, 0, 0, 0, 0, 0, 0, 0, 0, 0, 0, 0, 0, 0, 0, 0, 0, 0, 0, 0, 0, 0, 0, 0, 0, 0, 0, 0, 0, 0, 0, 0, 0, 0, 0, 0, 0, 0, 0, 0, 0, 0, 0, 0, 0, 0, 0, 0, 0, 0, 0, 0, 0, 0, 0]))))) ++ (List.drop (0 + (List.length (List.take 64 (List.drop 0 (([] ++ (List.take 64 (List.drop 0 a0))) ++ (List.drop (0 + (List.length (List.take 64 (List.drop 0 a0)))) [(0 : Int), 0, 0, 0, 0, 0, 0, 0, 0, 0, 0, 0, 0, 0, 0, 0, 0, 0, 0, 0, 0, 0, 0, 0, 0, 0, 0, 0, 0, 0, 0, 0, 0, 0, 0, 0, 0, 0, 0, 0, 0, 0, 0, 0, 0, 0, 0, 0, 0, 0, 0, 0, 0, 0, 0, 0, 0, 0, 0, 0, 0, 0, 0, 0])))))) [(0 : Int), 0, 0, 0, 0, 0, 0, 0, 0, 0, 0, 0, 0, 0, 0, 0, 0, 0, 0, 0, 0, 0, 0, 0, 0, 0, 0, 0, 0, 0, 0, 0, 0, 0, 0, 0, 0, 0, 0, 0, 0, 0, 0, 0, 0, 0, 0, 0, 0, 0, 0, 0, 0, 0, 0, 0, 0, 0, 0, 0, 0, 0, 0, 0]))))) then
                some (List.take 64 (List.drop 0 (([] ++ (List.take 64 (List.drop 0 (([] ++ (List.take 64 (List.drop 0 a0))) ++ (List.drop (0 + (List.length (List.take 64 (List.drop 0 a0)))) [(0 : Int), 0, 0, 0, 0, 0, 0, 0, 0, 0, 0, 0, 0, 0, 0, 0, 0, 0, 0, 0, 0, 0, 0, 0, 0, 0, 0, 0, 0, 0, 0, 0, 0, 0, 0, 0, 0, 0, 0, 0, 0, 0, 0, 0, 0, 0, 0, 0, 0, 0, 0, 0, 0, 0, 0, 0, 0, 0, 0, 0, 0, 0, 0, 0]))))) ++ (List.drop (0 + (List.length (List.take 64 (List.drop 0 (([] ++ (List.take 64 (List.drop 0 a0))) ++ (List.drop (0 + (List.length (List.take 64 (List.drop 0 a0)))) [(0 : Int), 0, 0, 0, 0, 0, 0, 0, 0, 0, 0, 0, 0, 0, 0, 0, 0, 0, 0, 0, 0, 0, 0, 0, 0, 0, 0, 0, 0, 0, 0, 0, 0, 0, 0, 0, 0, 0, 0, 0, 0, 0, 0, 0, 0, 0, 0, 0, 0, 0, 0, 0, 0, 0, 0, 0, 0, 0, 0, 0, 0, 0, 0, 0])))))) [(0 : Int), 0, 0, 0, 0, 0, 0, 0, 0, 0, 0, 0, 0, 0, 0, 0, 0, 0, 0, 0, 0, 0, 0, 0, 0, 0, 0, 0, 0, 0, 0, 0, 0, 0, 0, 0, 0, 0, 0, 0, 0, 0, 0, 0, 0, 0, 0, 0, 0, 0, 0, 0, 0, 0, 0, 0, 0, 0, 0, 0, 0, 0, 0, 0]))))
              else none
            else none
          else none
        else none
      else none

def L234_0 (c224 : List Int → Option (List Int)) (N : Nat) (q0_0 : List Int → Option (List Int)) : Nat → Int → Int → List Int → Option (List Int)
  | 0, _, _, _ => none
  | n0 + 1, v2, v3, v4 =>
    bif (decide (v3 < (64 : Int))) then
      bif ((decide ((0 : Int) ≤ v3)) && (decide (v3 < (64 : Int)))) then
        match (v4)[(0 + ((Int.toNat v3) * 1))]? with
        | none => none
        | some x5 =>
          bif ((decide ((0 : Int) ≤ v3)) && (decide (v3 < (64 : Int)))) then
            bif (decide ((0 + ((Int.toNat v3) * 1)) < (List.length v4))) then
              L234_0 c224 N q0_0 n0 v2 (iadd .i64 v3 (1 : Int)) (List.set v4 (0 + ((Int.toNat v3) * 1)) (ixor .u8 x5 v2))
            else none
          else none
      else none
    else
      q0_0 v4
/-- euphroe/hmac.pad -/
def p234 (c224 : List Int → Option (List Int)) (N : Nat) (a0 : List Int) (a1 : Int) : Option (List Int) :=
  match c224 a0 with
  | none => none
  | some r1 =>
    bif ((List.length r1) == 64) then
      bif (decide ((0 + (List.length r1)) ≤ 64)) then
        L234_0 c224 N (fun (y6 : List Int) =>
            bif (decide (64 ≤ (List.length y6))) then
              bif (decide (64 ≤ (List.length y6))) then
                some (List.take 64 (List.drop 0 y6))
              else none
            else none) N a1 (0 : Int) (([] ++ r1) ++ (List.drop (0 + (List.length r1)) [(0 : Int), 0, 0, 0, 0, 0, 0, 0, 0, 0, 0, 0, 0, 0, 0, 0, 0, 0, 0, 0, 0, 0, 0, 0, 0, 0, 0, 0, 0, 0, 0, 0, 0, 0, 0, 0, 0, 0, 0, 0, 0, 0, 0, 0, 0, 0, 0, 0, 0, 0, 0, 0, 0, 0, 0, 0, 0, 0, 0, 0, 0, 0, 0, 0]))
      else none
    else none

/-- euphroe/hmac.Of -/
def p223 (c234 : List Int → Int → Option (List Int)) (c46 : List (List Int) → Option (List Int)) (c213 : List (List Int) → Option (List Int)) (N : Nat) (a0 : List Int) (a1 : List (List Int)) : Option (List Int) :=
  match c234 a0 (54 : Int) with
  | none => none
  | some r1 =>
    match c46 a1 with
    | none => none
    | some r2 =>
      bif (decide ((0 + ((List.length r2) * 1)) ≤ (List.length r2))) then
        match c213 ([r1, (List.take (List.length r2) (List.drop 0 r2))] : List (List Int)) with
        | none => none
        | some r3 =>
          bif ((List.length r3) == 32) then
            bif (decide ((0 + (List.length r3)) ≤ 32)) then
              match c234 a0 (92 : Int) with
              | none => none
              | some r4 =>
                bif (decide (32 ≤ (List.length (([] ++ r3) ++ (List.drop (0 + (List.length r3)) [(0 : Int), 0, 0, 0, 0, 0, 0, 0, 0, 0, 0, 0, 0, 0, 0, 0, 0, 0, 0, 0, 0, 0, 0, 0, 0, 0, 0, 0, 0, 0, 0, 0]))))) then
                  bif (decide (32 ≤ (List.length (([] ++ r3) ++ (List.drop (0 + (List.length r3)) [(0 : Int), 0, 0, 0, 0, 0, 0, 0, 0, 0, 0, 0, 0, 0, 0, 0, 0, 0, 0, 0, 0, 0, 0, 0, 0, 0, 0, 0, 0, 0, 0, 0]))))) then
                    match c213 ([r4, (List.take 32 (List.drop 0 (([] ++ r3) ++ (List.drop (0 + (List.length r3)) [(0 : Int), 0, 0, 0, 0, 0, 0, 0, 0, 0, 0, 0, 0, 0, 0, 0, 0, 0, 0, 0, 0, 0, 0, 0, 0, 0, 0, 0, 0, 0, 0, 0]))))] : List (List Int)) with
                    | none => none
                    | some r5 =>
                      bif ((List.length r5) == 32) then
                        bif (decide ((0 + (List.length r5)) ≤ 32)) then
                          bif (decide (32 ≤ (List.length (([] ++ r5) ++ (List.drop (0 + (List.length r5)) [(0 : Int), 0, 0, 0, 0, 0, 0, 0, 0, 0, 0, 0, 0, 0, 0, 0, 0, 0, 0, 0, 0, 0, 0, 0, 0, 0, 0, 0, 0, 0, 0, 0]))))) then
                            some (List.take 32 (List.drop 0 (([] ++ r5) ++ (List.drop (0 + (List.length r5)) [(0 : Int), 0, 0, 0, 0, 0, 0, 0, 0, 0, 0, 0, 0, 0, 0, 0, 0, 0, 0, 0, 0, 0, 0, 0, 0, 0, 0, 0, 0, 0, 0, 0]))))
                          else none
                        else none
                      else none
                  else none
                else none
            else none
          else none
      else none

/-- euphroe/hmac.Check -/
def p226 (c223 : List Int → List (List Int) → Option (List Int)) (c47 : List Int → List Int → Option Bool) (N : Nat) (a0 : List Int) (a1 : List Int) (a2 : List (List Int)) : Option Bool :=
  match c223 a0 a2 with
  | none => none
  | some r1 =>
    bif ((List.length r1) == 32) then
      bif (decide ((0 + (List.length r1)) ≤ 32)) then
        bif (decide (32 ≤ (List.length (([] ++ r1) ++ (List.drop (0 + (List.length r1)) [(0 : Int), 0, 0, 0, 0, 0, 0, 0, 0, 0, 0, 0, 0, 0, 0, 0, 0, 0, 0, 0, 0, 0, 0, 0, 0, 0, 0, 0, 0, 0, 0, 0]))))) then
          bif (decide (32 ≤ (List.length (([] ++ r1) ++ (List.drop (0 + (List.length r1)) [(0 : Int), 0, 0, 0, 0, 0, 0, 0, 0, 0, 0, 0, 0, 0, 0, 0, 0, 0, 0, 0, 0, 0, 0, 0, 0, 0, 0, 0, 0, 0, 0, 0]))))) then
            match c47 (List.take 32 (List.drop 0 (([] ++ r1) ++ (List.drop (0 + (List.length r1)) [(0 : Int), 0, 0, 0, 0, 0, 0, 0, 0, 0, 0, 0, 0, 0, 0, 0, 0, 0, 0, 0, 0, 0, 0, 0, 0, 0, 0, 0, 0, 0, 0, 0])))) a1 with
            | none => none
            | some r2 =>
              some r2
          else none
        else none
      else none
    else none

/-- euphroe/prf.may -/
def p307 (N : Nat) (a0 : Int) : Option Int :=
  bif (decide (a0 < (1 : Int))) then
    some (1 : Int)
  else
    bif (decide (a0 > (8160 : Int))) then
      some (8 : Int)
    else
      some (0 : Int)

/-- euphroe/prf.Pieces -/
def p292 (c307 : Int → Option Int) (N : Nat) (a0 : List Int) (a1 : List Int) (a2 : Int) : Option Int :=
  match c307 a2 with
  | none => none
  | some r1 =>
    bif (r1 != (0 : Int)) then
      some (0 : Int)
    else
      some (iquo .i64 (isub .i64 (iadd .i64 a2 (32 : Int)) (1 : Int)) (32 : Int))

/-- euphroe/prf.Derive$1 -/
def p308v2 (c223 : List Int → List (List Int) → Option (List Int)) (N : Nat) (a0 : Int) (a1 : List Int) (a2 : List Int) (a3 : List Int) (a4 : List Int) (a5 : Nat) (a6 : List Int) : Option ((Unit × Unit) × (((List Int) × Unit) × (((Nat × Nat) × Unit) × (((List Int) × Unit) × (((List Int) × Unit) × ((Nat × Unit) × (Unit × ((List Int) × ((List Int) × Unit))))))))) :=
  match c223 a1 ([a2, a3, a4, ([(IntKind.wrap .u8 a0)] : List Int)] : List (List Int)) with
  | none => none
  | some r1 =>
    bif ((List.length r1) == 32) then
      bif (decide ((0 + (List.length r1)) ≤ 32)) then
        bif (decide (32 ≤ (List.length (([] ++ r1) ++ (List.drop (0 + (List.length r1)) [(0 : Int), 0, 0, 0, 0, 0, 0, 0, 0, 0, 0, 0, 0, 0, 0, 0, 0, 0, 0, 0, 0, 0, 0, 0, 0, 0, 0, 0, 0, 0, 0, 0]))))) then
          bif (decide (32 ≤ (List.length (([] ++ r1) ++ (List.drop (0 + (List.length r1)) [(0 : Int), 0, 0, 0, 0, 0, 0, 0, 0, 0, 0, 0, 0, 0, 0, 0, 0, 0, 0, 0, 0, 0, 0, 0, 0, 0, 0, 0, 0, 0, 0, 0]))))) then
            bif (((List.length a6) == (a5 * 1)) && ((decide (((a5 + 32) * 1) ≤ 1099511627776)) && (decide ((a5 + 32) ≤ 1099511627776)))) then
              some (((), ()), ((a1, ()), (((32, 32), ()), ((a3, ()), ((a4, ()), (((a5 + 32), ()), ((), ((([] ++ r1) ++ (List.drop (0 + (List.length r1)) [(0 : Int), 0, 0, 0, 0, 0, 0, 0, 0, 0, 0, 0, 0, 0, 0, 0, 0, 0, 0, 0, 0, 0, 0, 0, 0, 0, 0, 0, 0, 0, 0, 0])), ((a6 ++ (List.take 32 (List.drop 0 (([] ++ r1) ++ (List.drop (0 + (List.length r1)) [(0 : Int), 0, 0, 0, 0, 0, 0, 0, 0, 0, 0, 0, 0, 0, 0, 0, 0, 0, 0, 0, 0, 0, 0, 0, 0, 0, 0, 0, 0, 0, 0, 0]))))), ())))))))))
            else none
          else none
        else none
      else none
    else none

def L290_0 (c307 : Int → Option Int) (c19 : Int → Int → Bool → Option ((List Int) × Int)) (c292 : List Int → List Int → Int → Option Int) (d308v2 : Int → List Int → List Int → List Int → List Int → Nat → List Int → Option ((Unit × Unit) × (((List Int) × Unit) × (((Nat × Nat) × Unit) × (((List Int) × Unit) × (((List Int) × Unit) × ((Nat × Unit) × (Unit × ((List Int) × ((List Int) × Unit)))))))))) (N : Nat) (q0_0 : Int → List Int → Nat → List Int → Option ((List Int) × Int)) : Nat → Int → Int → Int → List Int → Nat → List Int → List Int → List Int → List Int → Option ((List Int) × Int)
  | 0, _, _, _, _, _, _, _, _, _ => none
  | n0 + 1, v4, v5, v6, v7, v8, v9, v10, v11, v12 =>
    bif (decide (v6 < v5)) then
      match d308v2 (iadd .i64 v6 (1 : Int)) v10 v7 v11 v12 v8 v9 with
      | none => none
      | some r13 =>
        bif (decide ((0 + (r13.2.2.1.1.1 * 1)) ≤ (List.length r13.2.2.2.2.2.2.2.1))) then
          L290_0 c307 c19 c292 d308v2 N q0_0 n0 v4 v5 (iadd .i64 v6 (1 : Int)) (List.take r13.2.2.1.1.1 (List.drop 0 r13.2.2.2.2.2.2.2.1)) r13.2.2.2.2.2.1.1 r13.2.2.2.2.2.2.2.2.1 r13.2.1.1 r13.2.2.2.1.1 r13.2.2.2.2.1.1
        else none
    else
      q0_0 v4 v7 v8 v9
/-- euphroe/prf.Derive -/
def p290 (c307 : Int → Option Int) (c19 : Int → Int → Bool → Option ((List Int) × Int)) (c292 : List Int → List Int → Int → Option Int) (d308v2 : Int → List Int → List Int → List Int → List Int → Nat → List Int → Option ((Unit × Unit) × (((List Int) × Unit) × (((Nat × Nat) × Unit) × (((List Int) × Unit) × (((List Int) × Unit) × ((Nat × Unit) × (Unit × ((List Int) × ((List Int) × Unit)))))))))) (N : Nat) (a0 : List Int) (a1 : List Int) (a2 : Int) : Option ((List Int) × Int) :=
  match c307 a2 with
  | none => none
  | some r1 =>
    bif (r1 != (0 : Int)) then
      some (([] : List Int), r1)
    else
      match c19 (IntKind.wrap .u64 a2) (2 : Int) true with
      | none => none
      | some r2 =>
        match c292 a0 a1 a2 with
        | none => none
        | some r3 =>
          L290_0 c307 c19 c292 d308v2 N (fun (y14 : Int) (y15 : List Int) (y16 : Nat) (y17 : List Int) =>
              bif ((decide ((0 : Int) ≤ y14)) && (decide (y14 ≤ ((y16 : Nat) : Int)))) then
                bif (decide ((0 + ((Int.toNat y14) * 1)) ≤ (List.length y17))) then
                  some ((List.take (Int.toNat y14) (List.drop 0 y17)), (0 : Int))
                else none
              else none) N a2 r3 (0 : Int) ([] : List Int) 0 ([] : List Int) a0 a1 r2.1

/-- euphroe/prf.Bind -/
def p293 (c290 : List Int → List Int → Int → Option ((List Int) × Int)) (N : Nat) (a0 : List Int) : Option (List Int) :=
  bif (decide (32 ≤ (List.length a0))) then
    bif (decide (32 ≤ (List.length a0))) then
      match c290 (List.take 32 (List.drop 0 a0)) ([(83 : Int), (83 : Int), (84 : Int), (80 : Int), (32 : Int), (105 : Int), (110 : Int), (110 : Int), (101 : Int), (114 : Int), (32 : Int), (109 : Int), (101 : Int), (116 : Int), (104 : Int), (111 : Int), (100 : Int), (32 : Int), (100 : Int), (101 : Int), (114 : Int), (105 : Int), (118 : Int), (101 : Int), (100 : Int), (32 : Int), (67 : Int), (77 : Int), (75 : Int)] : List Int) (32 : Int) with
      | none => none
      | some r1 =>
        bif (decide (32 ≤ (List.length r1.1))) then
          bif (decide (32 ≤ (List.length r1.1))) then
            bif ((List.length (List.take 32 (List.drop 0 r1.1))) == 32) then
              bif (decide ((0 + (List.length (List.take 32 (List.drop 0 r1.1)))) ≤ 32)) then
                bif (decide (32 ≤ (List.length (([] ++ (List.take 32 (List.drop 0 r1.1))) ++ (List.drop (0 + (List.length (List.take 32 (List.drop 0 r1.1)))) [(0 : Int), 0, 0, 0, 0, 0, 0, 0, 0, 0, 0, 0, 0, 0, 0, 0, 0, 0, 0, 0, 0, 0, 0, 0, 0, 0, 0, 0, 0, 0, 0, 0]))))) then
                  some (List.take 32 (List.drop 0 (([] ++ (List.take 32 (List.drop 0 r1.1))) ++ (List.drop (0 + (List.length (List.take 32 (List.drop 0 r1.1)))) [(0 : Int), 0, 0, 0, 0, 0, 0, 0, 0, 0, 0, 0, 0, 0, 0, 0, 0, 0, 0, 0, 0, 0, 0, 0, 0, 0, 0, 0, 0, 0, 0, 0]))))
                else none
              else none
            else none
          else none
        else none
    else none
  else none

/-- euphroe/prf.Seal -/
def p295 (c223 : List Int → List (List Int) → Option (List Int)) (N : Nat) (a0 : List Int) (a1 : List Int) : Option (List Int) :=
  bif (decide (32 ≤ (List.length a0))) then
    bif (decide (32 ≤ (List.length a0))) then
      match c223 (List.take 32 (List.drop 0 a0)) ([a1] : List (List Int)) with
      | none => none
      | some r1 =>
        bif ((List.length r1) == 32) then
          bif (decide ((0 + (List.length r1)) ≤ 32)) then
            bif (decide (32 ≤ (List.length (([] ++ r1) ++ (List.drop (0 + (List.length r1)) [(0 : Int), 0, 0, 0, 0, 0, 0, 0, 0, 0, 0, 0, 0, 0, 0, 0, 0, 0, 0, 0, 0, 0, 0, 0, 0, 0, 0, 0, 0, 0, 0, 0]))))) then
              some (List.take 32 (List.drop 0 (([] ++ r1) ++ (List.drop (0 + (List.length r1)) [(0 : Int), 0, 0, 0, 0, 0, 0, 0, 0, 0, 0, 0, 0, 0, 0, 0, 0, 0, 0, 0, 0, 0, 0, 0, 0, 0, 0, 0, 0, 0, 0, 0]))))
            else none
          else none
        else none
    else none
  else none

/-- euphroe/prf.Check -/
def p296 (c226 : List Int → List Int → List (List Int) → Option Bool) (N : Nat) (a0 : List Int) (a1 : List Int) (a2 : List Int) : Option Bool :=
  bif (decide (32 ≤ (List.length a0))) then
    bif (decide (32 ≤ (List.length a0))) then
      match c226 (List.take 32 (List.drop 0 a0)) a2 ([a1] : List (List Int)) with
      | none => none
      | some r1 =>
        some r1
    else none
  else none

/-- euphroe/euphroelaw13.alive -/
def p289 (c290 : List Int → List Int → Int → Option ((List Int) × Int)) (c293 : List Int → Option (List Int)) (c295 : List Int → List Int → Option (List Int)) (c296 : List Int → List Int → List Int → Option Bool) (c292 : List Int → List Int → Int → Option Int) (N : Nat)  : Option Bool :=
  match c290 ([] : List Int) ([] : List Int) (33 : Int) with
  | none => none
  | some r1 =>
    match c293 ([(0 : Int), 0, 0, 0, 0, 0, 0, 0, 0, 0, 0, 0, 0, 0, 0, 0, 0, 0, 0, 0, 0, 0, 0, 0, 0, 0, 0, 0, 0, 0, 0, 0] : List Int) with
    | none => none
    | some r2 =>
      bif ((List.length r2) == 32) then
        bif (decide ((0 + (List.length r2)) ≤ 32)) then
          bif (decide (32 ≤ (List.length (([] ++ r2) ++ (List.drop (0 + (List.length r2)) [(0 : Int), 0, 0, 0, 0, 0, 0, 0, 0, 0, 0, 0, 0, 0, 0, 0, 0, 0, 0, 0, 0, 0, 0, 0, 0, 0, 0, 0, 0, 0, 0, 0]))))) then
            match c295 (List.take 32 (List.drop 0 (([] ++ r2) ++ (List.drop (0 + (List.length r2)) [(0 : Int), 0, 0, 0, 0, 0, 0, 0, 0, 0, 0, 0, 0, 0, 0, 0, 0, 0, 0, 0, 0, 0, 0, 0, 0, 0, 0, 0, 0, 0, 0, 0])))) ([] : List Int) with
            | none => none
            | some r3 =>
              bif ((List.length r3) == 32) then
                bif (decide ((0 + (List.length r3)) ≤ 32)) then
                  bif ((((List.length r1.1) : Nat) : Int) == (33 : Int)) then
                    bif (r1.2 == (0 : Int)) then
                      bif (decide (32 ≤ (List.length (([] ++ r2) ++ (List.drop (0 + (List.length r2)) [(0 : Int), 0, 0, 0, 0, 0, 0, 0, 0, 0, 0, 0, 0, 0, 0, 0, 0, 0, 0, 0, 0, 0, 0, 0, 0, 0, 0, 0, 0, 0, 0, 0]))))) then
                        bif (((List.length (List.take 32 (List.drop 0 (([] ++ r2) ++ (List.drop (0 + (List.length r2)) [(0 : Int), 0, 0, 0, 0, 0, 0, 0, 0, 0, 0, 0, 0, 0, 0, 0, 0, 0, 0, 0, 0, 0, 0, 0, 0, 0, 0, 0, 0, 0, 0, 0]))))) == 32) && true) then
                          bif (!((List.take 32 (List.drop 0 (([] ++ r2) ++ (List.drop (0 + (List.length r2)) [(0 : Int), 0, 0, 0, 0, 0, 0, 0, 0, 0, 0, 0, 0, 0, 0, 0, 0, 0, 0, 0, 0, 0, 0, 0, 0, 0, 0, 0, 0, 0, 0, 0])))) == ([(0 : Int), 0, 0, 0, 0, 0, 0, 0, 0, 0, 0, 0, 0, 0, 0, 0, 0, 0, 0, 0, 0, 0, 0, 0, 0, 0, 0, 0, 0, 0, 0, 0] : List Int))) then
                            bif (decide (32 ≤ (List.length (([] ++ r2) ++ (List.drop (0 + (List.length r2)) [(0 : Int), 0, 0, 0, 0, 0, 0, 0, 0, 0, 0, 0, 0, 0, 0, 0, 0, 0, 0, 0, 0, 0, 0, 0, 0, 0, 0, 0, 0, 0, 0, 0]))))) then
                              bif (decide (32 ≤ (List.length (([] ++ r3) ++ (List.drop (0 + (List.length r3)) [(0 : Int), 0, 0, 0, 0, 0, 0, 0, 0, 0, 0, 0, 0, 0, 0, 0, 0, 0, 0, 0, 0, 0, 0, 0, 0, 0, 0, 0, 0, 0, 0, 0]))))) then
                                bif (decide (32 ≤ (List.length (([] ++ r3) ++ (List.drop (0 + (List.length r3)) [(0 : Int), 0, 0, 0, 0, 0, 0, 0, 0, 0, 0, 0, 0, 0, 0, 0, 0, 0, 0, 0, 0, 0, 0, 0, 0, 0, 0, 0, 0, 0, 0, 0]))))) then
                                  match c296 (List.take 32 (List.drop 0 (([] ++ r2) ++ (List.drop (0 + (List.length r2)) [(0 : Int), 0, 0, 0, 0, 0, 0, 0, 0, 0, 0, 0, 0, 0, 0, 0, 0, 0, 0, 0, 0, 0, 0, 0, 0, 0, 0, 0, 0, 0, 0, 0])))) ([] : List Int) (List.take 32 (List.drop 0 (([] ++ r3) ++ (List.drop (0 + (List.length r3)) [(0 : Int), 0, 0, 0, 0, 0, 0, 0, 0, 0, 0, 0, 0, 0, 0, 0, 0, 0, 0, 0, 0, 0, 0, 0, 0, 0, 0, 0, 0, 0, 0, 0])))) with
                                  | none => none
                                  | some r4 =>
                                    bif r4 then
                                      match c292 ([] : List Int) ([] : List Int) (33 : Int) with
                                      | none => none
                                      | some r5 =>
                                        bif (r5 == (2 : Int)) then
                                          some true
                                        else
                                          some false
                                    else
                                      some false
                                else none
                              else none
                            else none
                          else
                            some false
                        else none
                      else none
                    else
                      some false
                  else
                    some false
                else none
              else none
          else none
        else none
      else none

def L291_0 (c222 : List Int → List Int → Option (List Int)) (N : Nat) (q0_0 : Int → Nat → Int → List Int → Option ((List Int) × Int × Int)) : Nat → List Int → List Int → Int → Nat → List Int → Int → List Int → Option ((List Int) × Int × Int)
  | 0, _, _, _, _, _, _, _ => none
  | n0 + 1, v1, v2, v3, v4, v5, v6, v7 =>
    bif (decide (((v4 : Nat) : Int) < v3)) then
      bif ((decide (((List.length v5) * 1) ≤ 1099511627776)) && (decide ((List.length v5) ≤ 1099511627776))) then
        bif (((List.length v5) == ((List.length v5) * 1)) && ((decide ((((List.length v5) + (List.length v2)) * 1) ≤ 1099511627776)) && (decide (((List.length v5) + (List.length v2)) ≤ 1099511627776)))) then
          bif (((List.length (v5 ++ v2)) == (((List.length v5) + (List.length v2)) * 1)) && ((decide (((((List.length v5) + (List.length v2)) + 3) * 1) ≤ 1099511627776)) && (decide ((((List.length v5) + (List.length v2)) + 3) ≤ 1099511627776)))) then
            bif (decide ((0 + ((((List.length v5) + (List.length v2)) + 3) * 1)) ≤ (List.length ((v5 ++ v2) ++ [(IntKind.wrap .u8 (irem v3 (256 : Int))), (IntKind.wrap .u8 (iquo .i64 v3 (256 : Int))), (IntKind.wrap .u8 (iadd .i64 v6 (1 : Int)))])))) then
              match c222 v1 (List.take (((List.length v5) + (List.length v2)) + 3) (List.drop 0 ((v5 ++ v2) ++ [(IntKind.wrap .u8 (irem v3 (256 : Int))), (IntKind.wrap .u8 (iquo .i64 v3 (256 : Int))), (IntKind.wrap .u8 (iadd .i64 v6 (1 : Int)))]))) with
              | none => none
              | some r8 =>
                bif ((List.length r8) == 32) then
                  bif (decide ((0 + (List.length r8)) ≤ 32)) then
                    bif (decide (32 ≤ (List.length (([] ++ r8) ++ (List.drop (0 + (List.length r8)) [(0 : Int), 0, 0, 0, 0, 0, 0, 0, 0, 0, 0, 0, 0, 0, 0, 0, 0, 0, 0, 0, 0, 0, 0, 0, 0, 0, 0, 0, 0, 0, 0, 0]))))) then
                      bif (decide (32 ≤ (List.length (([] ++ r8) ++ (List.drop (0 + (List.length r8)) [(0 : Int), 0, 0, 0, 0, 0, 0, 0, 0, 0, 0, 0, 0, 0, 0, 0, 0, 0, 0, 0, 0, 0, 0, 0, 0, 0, 0, 0, 0, 0, 0, 0]))))) then
                        bif (((List.length v7) == (v4 * 1)) && ((decide (((v4 + 32) * 1) ≤ 1099511627776)) && (decide ((v4 + 32) ≤ 1099511627776)))) then
                          bif (decide (32 ≤ (List.length (([] ++ r8) ++ (List.drop (0 + (List.length r8)) [(0 : Int), 0, 0, 0, 0, 0, 0, 0, 0, 0, 0, 0, 0, 0, 0, 0, 0, 0, 0, 0, 0, 0, 0, 0, 0, 0, 0, 0, 0, 0, 0, 0]))))) then
                            L291_0 c222 N q0_0 n0 v1 v2 v3 (v4 + 32) (List.take 32 (List.drop 0 (([] ++ r8) ++ (List.drop (0 + (List.length r8)) [(0 : Int), 0, 0, 0, 0, 0, 0, 0, 0, 0, 0, 0, 0, 0, 0, 0, 0, 0, 0, 0, 0, 0, 0, 0, 0, 0, 0, 0, 0, 0, 0, 0])))) (iadd .i64 v6 (1 : Int)) (v7 ++ (List.take 32 (List.drop 0 (([] ++ r8) ++ (List.drop (0 + (List.length r8)) [(0 : Int), 0, 0, 0, 0, 0, 0, 0, 0, 0, 0, 0, 0, 0, 0, 0, 0, 0, 0, 0, 0, 0, 0, 0, 0, 0, 0, 0, 0, 0, 0, 0])))))
                          else none
                        else none
                      else none
                    else none
                  else none
                else none
            else none
          else none
        else none
      else none
    else
      q0_0 v3 v4 v6 v7
/-- euphroe/euphroeref13.Derive -/
def p291 (c222 : List Int → List Int → Option (List Int)) (N : Nat) (a0 : List Int) (a1 : List Int) (a2 : Int) : Option ((List Int) × Int × Int) :=
  bif (decide (a2 < (1 : Int))) then
    some (([] : List Int), ((0 : Int), (1 : Int)))
  else
    bif (decide (a2 > (8160 : Int))) then
      some (([] : List Int), ((0 : Int), (8 : Int)))
    else
      L291_0 c222 N (fun (y9 : Int) (y10 : Nat) (y11 : Int) (y12 : List Int) =>
          bif ((decide ((0 : Int) ≤ y9)) && (decide (y9 ≤ ((y10 : Nat) : Int)))) then
            bif (decide ((0 + ((Int.toNat y9) * 1)) ≤ (List.length y12))) then
              some ((List.take (Int.toNat y9) (List.drop 0 y12)), (y11, (0 : Int)))
            else none
          else none) N a0 a1 a2 0 ([] : List Int) (0 : Int) ([] : List Int)

/-- euphroe/euphroelaw13.PrfDerives -/
def p284 (c289 : Option Bool) (c290 : List Int → List Int → Int → Option ((List Int) × Int)) (c291 : List Int → List Int → Int → Option ((List Int) × Int × Int)) (c23 : List Int → List Int → Option Bool) (c292 : List Int → List Int → Int → Option Int) (N : Nat) (a0 : List Int) (a1 : List Int) (a2 : Int) : Option Bool :=
  bif (decide ((((List.length a0) : Nat) : Int) > (200 : Int))) then
    match c289 with
    | none => none
    | some r1 =>
      some r1
  else
    bif (decide ((((List.length a1) : Nat) : Int) > (200 : Int))) then
      match c289 with
      | none => none
      | some r2 =>
        some r2
    else
      bif (decide (a2 > (700 : Int))) then
        bif (decide (a2 ≤ (8160 : Int))) then
          match c289 with
          | none => none
          | some r3 =>
            some r3
        else
          match c290 a0 a1 a2 with
          | none => none
          | some r4 =>
            match c291 a0 a1 a2 with
            | none => none
            | some r5 =>
              match c23 r4.1 r5.1 with
              | none => none
              | some r6 =>
                bif r6 then
                  bif (r4.2 == r5.2.2) then
                    match c292 a0 a1 a2 with
                    | none => none
                    | some r7 =>
                      bif (r7 == r5.2.1) then
                        match c289 with
                        | none => none
                        | some r8 =>
                          some r8
                      else
                        some false
                  else
                    some false
                else
                  some false
      else
        match c290 a0 a1 a2 with
        | none => none
        | some r9 =>
          match c291 a0 a1 a2 with
          | none => none
          | some r10 =>
            match c23 r9.1 r10.1 with
            | none => none
            | some r11 =>
              bif r11 then
                bif (r9.2 == r10.2.2) then
                  match c292 a0 a1 a2 with
                  | none => none
                  | some r12 =>
                    bif (r12 == r10.2.1) then
                      match c289 with
                      | none => none
                      | some r13 =>
                        some r13
                    else
                      some false
                else
                  some false
              else
                some false

def L294_0 (c291 : List Int → List Int → Int → Option ((List Int) × Int × Int)) (N : Nat) (q0_0 : List Int → List Int → Option (List Int)) : Nat → List Int → Int → List Int → List Int → Option (List Int)
  | 0, _, _, _, _ => none
  | n0 + 1, v2, v3, v4, v5 =>
    bif (decide (v3 < (32 : Int))) then
      match geti v2 v3 with
      | none => none
      | some x6 =>
        bif ((decide ((0 : Int) ≤ v3)) && (decide (v3 < (32 : Int)))) then
          bif (decide ((0 + ((Int.toNat v3) * 1)) < (List.length v5))) then
            L294_0 c291 N q0_0 n0 v2 (iadd .i64 v3 (1 : Int)) v4 (List.set v5 (0 + ((Int.toNat v3) * 1)) x6)
          else none
        else none
    else
      q0_0 v4 v5
/-- euphroe/euphroeref13.Bind -/
def p294 (c291 : List Int → List Int → Int → Option ((List Int) × Int × Int)) (N : Nat) (a0 : List Int) : Option (List Int) :=
  bif (decide (32 ≤ (List.length a0))) then
    bif (decide (32 ≤ (List.length a0))) then
      match c291 (List.take 32 (List.drop 0 a0)) ([(83 : Int), (83 : Int), (84 : Int), (80 : Int), (32 : Int), (105 : Int), (110 : Int), (110 : Int), (101 : Int), (114 : Int), (32 : Int), (109 : Int), (101 : Int), (116 : Int), (104 : Int), (111 : Int), (100 : Int), (32 : Int), (100 : Int), (101 : Int), (114 : Int), (105 : Int), (118 : Int), (101 : Int), (100 : Int), (32 : Int), (67 : Int), (77 : Int), (75 : Int)] : List Int) (32 : Int) with
      | none => none
      | some r1 =>
        L294_0 c291 N (fun (y7 : List Int) (y8 : List Int) =>
            bif (decide (32 ≤ (List.length y8))) then
              bif ((List.length (List.take 32 (List.drop 0 y8))) == 32) then
                bif (decide ((0 + (List.length (List.take 32 (List.drop 0 y8)))) ≤ (List.length y7))) then
                  bif (decide (32 ≤ (List.length (((List.take 0 y7) ++ (List.take 32 (List.drop 0 y8))) ++ (List.drop (0 + (List.length (List.take 32 (List.drop 0 y8)))) y7))))) then
                    some (List.take 32 (List.drop 0 (((List.take 0 y7) ++ (List.take 32 (List.drop 0 y8))) ++ (List.drop (0 + (List.length (List.take 32 (List.drop 0 y8)))) y7))))
                  else none
                else none
              else none
            else none) N r1.1 (0 : Int) ([(0 : Int), 0, 0, 0, 0, 0, 0, 0, 0, 0, 0, 0, 0, 0, 0, 0, 0, 0, 0, 0, 0, 0, 0, 0, 0, 0, 0, 0, 0, 0, 0, 0] : List Int) ([(0 : Int), 0, 0, 0, 0, 0, 0, 0, 0, 0, 0, 0, 0, 0, 0, 0, 0, 0, 0, 0, 0, 0, 0, 0, 0, 0, 0, 0, 0, 0, 0, 0] : List Int)
    else none
  else none

/-- euphroe/euphroelaw13.PrfBinds -/
def p285 (c289 : Option Bool) (c293 : List Int → Option (List Int)) (c222 : List Int → List Int → Option (List Int)) (c294 : List Int → Option (List Int)) (c295 : List Int → List Int → Option (List Int)) (c296 : List Int → List Int → List Int → Option Bool) (c23 : List Int → List Int → Option Bool) (N : Nat) (a0 : List Int) (a1 : List Int) (a2 : List Int) : Option Bool :=
  bif (decide ((((List.length a1) : Nat) : Int) > (300 : Int))) then
    match c289 with
    | none => none
    | some r1 =>
      some r1
  else
    bif (decide ((((List.length a2) : Nat) : Int) > (100 : Int))) then
      match c289 with
      | none => none
      | some r2 =>
        some r2
    else
      bif (decide (32 ≤ (List.length a0))) then
        match c293 (List.take 32 (List.drop 0 a0)) with
        | none => none
        | some r3 =>
          bif ((List.length r3) == 32) then
            bif (decide ((0 + (List.length r3)) ≤ 32)) then
              bif (decide (32 ≤ (List.length (([] ++ r3) ++ (List.drop (0 + (List.length r3)) [(0 : Int), 0, 0, 0, 0, 0, 0, 0, 0, 0, 0, 0, 0, 0, 0, 0, 0, 0, 0, 0, 0, 0, 0, 0, 0, 0, 0, 0, 0, 0, 0, 0]))))) then
                bif (decide (32 ≤ (List.length (([] ++ r3) ++ (List.drop (0 + (List.length r3)) [(0 : Int), 0, 0, 0, 0, 0, 0, 0, 0, 0, 0, 0, 0, 0, 0, 0, 0, 0, 0, 0, 0, 0, 0, 0, 0, 0, 0, 0, 0, 0, 0, 0]))))) then
                  match c222 (List.take 32 (List.drop 0 (([] ++ r3) ++ (List.drop (0 + (List.length r3)) [(0 : Int), 0, 0, 0, 0, 0, 0, 0, 0, 0, 0, 0, 0, 0, 0, 0, 0, 0, 0, 0, 0, 0, 0, 0, 0, 0, 0, 0, 0, 0, 0, 0])))) a1 with
                  | none => none
                  | some r4 =>
                    bif ((List.length r4) == 32) then
                      bif (decide ((0 + (List.length r4)) ≤ 32)) then
                        bif (decide (32 ≤ (List.length (([] ++ r3) ++ (List.drop (0 + (List.length r3)) [(0 : Int), 0, 0, 0, 0, 0, 0, 0, 0, 0, 0, 0, 0, 0, 0, 0, 0, 0, 0, 0, 0, 0, 0, 0, 0, 0, 0, 0, 0, 0, 0, 0]))))) then
                          bif (decide (32 ≤ (List.length a0))) then
                            match c294 (List.take 32 (List.drop 0 a0)) with
                            | none => none
                            | some r5 =>
                              bif (((List.length (List.take 32 (List.drop 0 (([] ++ r3) ++ (List.drop (0 + (List.length r3)) [(0 : Int), 0, 0, 0, 0, 0, 0, 0, 0, 0, 0, 0, 0, 0, 0, 0, 0, 0, 0, 0, 0, 0, 0, 0, 0, 0, 0, 0, 0, 0, 0, 0]))))) == 32) && ((List.length r5) == 32)) then
                                bif ((List.take 32 (List.drop 0 (([] ++ r3) ++ (List.drop (0 + (List.length r3)) [(0 : Int), 0, 0, 0, 0, 0, 0, 0, 0, 0, 0, 0, 0, 0, 0, 0, 0, 0, 0, 0, 0, 0, 0, 0, 0, 0, 0, 0, 0, 0, 0, 0])))) == r5) then
                                  bif (decide (32 ≤ (List.length (([] ++ r3) ++ (List.drop (0 + (List.length r3)) [(0 : Int), 0, 0, 0, 0, 0, 0, 0, 0, 0, 0, 0, 0, 0, 0, 0, 0, 0, 0, 0, 0, 0, 0, 0, 0, 0, 0, 0, 0, 0, 0, 0]))))) then
                                    match c295 (List.take 32 (List.drop 0 (([] ++ r3) ++ (List.drop (0 + (List.length r3)) [(0 : Int), 0, 0, 0, 0, 0, 0, 0, 0, 0, 0, 0, 0, 0, 0, 0, 0, 0, 0, 0, 0, 0, 0, 0, 0, 0, 0, 0, 0, 0, 0, 0])))) a1 with
                                    | none => none
                                    | some r6 =>
                                      bif (decide (32 ≤ (List.length (([] ++ r4) ++ (List.drop (0 + (List.length r4)) [(0 : Int), 0, 0, 0, 0, 0, 0, 0, 0, 0, 0, 0, 0, 0, 0, 0, 0, 0, 0, 0, 0, 0, 0, 0, 0, 0, 0, 0, 0, 0, 0, 0]))))) then
                                        bif (((List.length r6) == 32) && ((List.length (List.take 32 (List.drop 0 (([] ++ r4) ++ (List.drop (0 + (List.length r4)) [(0 : Int), 0, 0, 0, 0, 0, 0, 0, 0, 0, 0, 0, 0, 0, 0, 0, 0, 0, 0, 0, 0, 0, 0, 0, 0, 0, 0, 0, 0, 0, 0, 0]))))) == 32)) then
                                          bif (r6 == (List.take 32 (List.drop 0 (([] ++ r4) ++ (List.drop (0 + (List.length r4)) [(0 : Int), 0, 0, 0, 0, 0, 0, 0, 0, 0, 0, 0, 0, 0, 0, 0, 0, 0, 0, 0, 0, 0, 0, 0, 0, 0, 0, 0, 0, 0, 0, 0]))))) then
                                            bif (decide (32 ≤ (List.length (([] ++ r3) ++ (List.drop (0 + (List.length r3)) [(0 : Int), 0, 0, 0, 0, 0, 0, 0, 0, 0, 0, 0, 0, 0, 0, 0, 0, 0, 0, 0, 0, 0, 0, 0, 0, 0, 0, 0, 0, 0, 0, 0]))))) then
                                              match c296 (List.take 32 (List.drop 0 (([] ++ r3) ++ (List.drop (0 + (List.length r3)) [(0 : Int), 0, 0, 0, 0, 0, 0, 0, 0, 0, 0, 0, 0, 0, 0, 0, 0, 0, 0, 0, 0, 0, 0, 0, 0, 0, 0, 0, 0, 0, 0, 0])))) a1 a2 with
                                              | none => none
                                              | some r7 =>
                                                bif (decide (32 ≤ (List.length (([] ++ r4) ++ (List.drop (0 + (List.length r4)) [(0 : Int), 0, 0, 0, 0, 0, 0, 0, 0, 0, 0, 0, 0, 0, 0, 0, 0, 0, 0, 0, 0, 0, 0, 0, 0, 0, 0, 0, 0, 0, 0, 0]))))) then
                                                  bif (decide (32 ≤ (List.length (([] ++ r4) ++ (List.drop (0 + (List.length r4)) [(0 : Int), 0, 0, 0, 0, 0, 0, 0, 0, 0, 0, 0, 0, 0, 0, 0, 0, 0, 0, 0, 0, 0, 0, 0, 0, 0, 0, 0, 0, 0, 0, 0]))))) then
                                                    match c23 (List.take 32 (List.drop 0 (([] ++ r4) ++ (List.drop (0 + (List.length r4)) [(0 : Int), 0, 0, 0, 0, 0, 0, 0, 0, 0, 0, 0, 0, 0, 0, 0, 0, 0, 0, 0, 0, 0, 0, 0, 0, 0, 0, 0, 0, 0, 0, 0])))) a2 with
                                                    | none => none
                                                    | some r8 =>
                                                      bif (r7 == r8) then
                                                        bif (decide (32 ≤ (List.length (([] ++ r3) ++ (List.drop (0 + (List.length r3)) [(0 : Int), 0, 0, 0, 0, 0, 0, 0, 0, 0, 0, 0, 0, 0, 0, 0, 0, 0, 0, 0, 0, 0, 0, 0, 0, 0, 0, 0, 0, 0, 0, 0]))))) then
                                                          bif (decide (32 ≤ (List.length (([] ++ r4) ++ (List.drop (0 + (List.length r4)) [(0 : Int), 0, 0, 0, 0, 0, 0, 0, 0, 0, 0, 0, 0, 0, 0, 0, 0, 0, 0, 0, 0, 0, 0, 0, 0, 0, 0, 0, 0, 0, 0, 0]))))) then
                                                            bif (decide (32 ≤ (List.length (([] ++ r4) ++ (List.drop (0 + (List.length r4)) [(0 : Int), 0, 0, 0, 0, 0, 0, 0, 0, 0, 0, 0, 0, 0, 0, 0, 0, 0, 0, 0, 0, 0, 0, 0, 0, 0, 0, 0, 0, 0, 0, 0]))))) then
                                                              match c296 (List.take 32 (List.drop 0 (([] ++ r3) ++ (List.drop (0 + (List.length r3)) [(0 : Int), 0, 0, 0, 0, 0, 0, 0, 0, 0, 0, 0, 0, 0, 0, 0, 0, 0, 0, 0, 0, 0, 0, 0, 0, 0, 0, 0, 0, 0, 0, 0])))) a1 (List.take 32 (List.drop 0 (([] ++ r4) ++ (List.drop (0 + (List.length r4)) [(0 : Int), 0, 0, 0, 0, 0, 0, 0, 0, 0, 0, 0, 0, 0, 0, 0, 0, 0, 0, 0, 0, 0, 0, 0, 0, 0, 0, 0, 0, 0, 0, 0])))) with
                                                              | none => none
                                                              | some r9 =>
                                                                bif r9 then
                                                                  match c289 with
                                                                  | none => none
                                                                  | some r10 =>
                                                                    some r10
                                                                else
                                                                  some false
                                                            else none
                                                          else none
                                                        else none
                                                      else
                                                        some false
                                                  else none
                                                else none
                                            else none
                                          else
                                            some false
                                        else none
                                      else none
                                  else none
                                else
                                  some false
                              else none
                          else none
                        else none
                      else none
                    else none
                else none
              else none
            else none
          else none
      else none

/-- euphroe/euphroelaw13.PrfLong -/
def p286 (c289 : Option Bool) (c290 : List Int → List Int → Int → Option ((List Int) × Int)) (c292 : List Int → List Int → Int → Option Int) (c23 : List Int → List Int → Option Bool) (N : Nat) (a0 : List Int) (a1 : List Int) (a2 : List Int) : Option Bool :=
  bif (decide ((((List.length a0) : Nat) : Int) > (200 : Int))) then
    match c289 with
    | none => none
    | some r1 =>
      some r1
  else
    bif (decide ((((List.length a1) : Nat) : Int) > (200 : Int))) then
      match c289 with
      | none => none
      | some r2 =>
        some r2
    else
      match (a2)[0]? with
      | none => none
      | some x3 =>
        match (a2)[1]? with
        | none => none
        | some x4 =>
          match c290 a0 a1 (iadd .i64 (1 : Int) (IntKind.wrap .i64 (irem x3 (300 : Int)))) with
          | none => none
          | some r5 =>
            match c290 a0 a1 (iadd .i64 (1 : Int) (IntKind.wrap .i64 (irem x3 (300 : Int)))) with
            | none => none
            | some r6 =>
              match c292 a0 a1 (iadd .i64 (1 : Int) (IntKind.wrap .i64 (irem x3 (300 : Int)))) with
              | none => none
              | some r7 =>
                match c292 a0 a1 (iadd .i64 (1 : Int) (IntKind.wrap .i64 (irem x4 (300 : Int)))) with
                | none => none
                | some r8 =>
                  bif (r5.2 == (0 : Int)) then
                    bif (r6.2 == (0 : Int)) then
                      bif ((((List.length r5.1) : Nat) : Int) == (iadd .i64 (1 : Int) (IntKind.wrap .i64 (irem x3 (300 : Int))))) then
                        match c23 r5.1 r6.1 with
                        | none => none
                        | some r9 =>
                          bif r9 then
                            bif (decide ((iadd .i64 (1 : Int) (IntKind.wrap .i64 (irem x4 (300 : Int)))) < (iadd .i64 (1 : Int) (IntKind.wrap .i64 (irem x3 (300 : Int)))))) then
                              bif (decide ((imul .i64 (32 : Int) r7) ≥ (iadd .i64 (1 : Int) (IntKind.wrap .i64 (irem x3 (300 : Int)))))) then
                                bif (decide ((imul .i64 (32 : Int) r7) < (iadd .i64 (iadd .i64 (1 : Int) (IntKind.wrap .i64 (irem x3 (300 : Int)))) (32 : Int)))) then
                                  match c289 with
                                  | none => none
                                  | some r10 =>
                                    some r10
                                else
                                  some false
                              else
                                some false
                            else
                              bif (decide (r8 ≥ r7)) then
                                bif (decide ((imul .i64 (32 : Int) r7) ≥ (iadd .i64 (1 : Int) (IntKind.wrap .i64 (irem x3 (300 : Int)))))) then
                                  bif (decide ((imul .i64 (32 : Int) r7) < (iadd .i64 (iadd .i64 (1 : Int) (IntKind.wrap .i64 (irem x3 (300 : Int)))) (32 : Int)))) then
                                    match c289 with
                                    | none => none
                                    | some r11 =>
                                      some r11
                                  else
                                    some false
                                else
                                  some false
                              else
                                some false
                          else
                            some false
                      else
                        some false
                    else
                      some false
                  else
                    some false
end Go.Proofs.YtciafmcbccgggaaE
