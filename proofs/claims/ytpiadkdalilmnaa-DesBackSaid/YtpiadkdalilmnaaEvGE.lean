/- The functions as plain ones. -/
import Derived.Test.YtpiadkdalilmnaaEvFE
namespace Go.Proofs.YtpiadkdalilmnaaE
open Go
set_option linter.unusedVariables false
set_option linter.unusedSimpArgs false
/-- slices.Concat[[]int,int] -/
abbrev en2 (f : List (List Int) → Option (List Int)) : Ent := ⟨[(Sh.sl (Sh.sl (Sh.int .i64)))], List Int, fun v => f v.1, ownOut .i64⟩
/-- euphroe/octs.Put -/
abbrev en19 (f : Int → Int → Bool → Option ((List Int) × Int)) : Ent := ⟨[(Sh.int .u64), (Sh.int .i64), Sh.bool], (List Int) × Int, fun v => f v.1 v.2.1 v.2.2.1, fun r => (((Sh.tu (Sh.pr (Sh.sl (Sh.int .u8)) (Sh.int .i64)))).enc r, [])⟩
/-- euphroe/octs.Get -/
abbrev en21 (f : List Int → Bool → Option (Int × Int)) : Ent := ⟨[(Sh.sl (Sh.int .u8)), Sh.bool], Int × Int, fun v => f v.1 v.2.1, fun r => (((Sh.tu (Sh.pr (Sh.int .u64) (Sh.int .i64)))).enc r, [])⟩
/-- euphroe/euphroeref01.Same -/
abbrev en23 (f : List Int → List Int → Option Bool) : Ent := ⟨[(Sh.sl (Sh.int .u8)), (Sh.sl (Sh.int .u8))], Bool, fun v => f v.1 v.2.1, fun r => ((Sh.bool).enc r, [])⟩
/-- euphroe/bitp.Spread -/
abbrev en24 (f : List Int → Option ((List Int) × Int)) : Ent := ⟨[(Sh.sl (Sh.int .u8))], (List Int) × Int, fun v => f v.1, fun r => (((Sh.tu (Sh.pr (Sh.sl (Sh.int .u8)) (Sh.int .i64)))).enc r, [])⟩
/-- euphroe/bitp.Odd -/
abbrev en25 (f : Int → Option Int) : Ent := ⟨[(Sh.int .u8)], Int, fun v => f v.1, fun r => (((Sh.int .u8)).enc r, [])⟩
/-- euphroe/bitp.Permute -/
abbrev en27 (f : Int → Int → List Int → Option (Int × Int)) : Ent := ⟨[(Sh.int .u64), (Sh.int .i64), (Sh.sl (Sh.int .i64))], Int × Int, fun v => f v.1 v.2.1 v.2.2.1, fun r => (((Sh.tu (Sh.pr (Sh.int .u64) (Sh.int .i64)))).enc r, [])⟩
/-- euphroe/bitp.Turn -/
abbrev en29 (f : Int → Int → Int → Option (Int × Int)) : Ent := ⟨[(Sh.int .u64), (Sh.int .i64), (Sh.int .i64)], Int × Int, fun v => f v.1 v.2.1 v.2.2.1, fun r => (((Sh.tu (Sh.pr (Sh.int .u64) (Sh.int .i64)))).enc r, [])⟩
/-- euphroe/bitp.Split -/
abbrev en31 (f : Int → Int → Int → Option (Int × Int × Int)) : Ent := ⟨[(Sh.int .u64), (Sh.int .i64), (Sh.int .i64)], Int × Int × Int, fun v => f v.1 v.2.1 v.2.2.1, fun r => (((Sh.tu (Sh.pr (Sh.int .u64) (Sh.pr (Sh.int .u64) (Sh.int .i64))))).enc r, [])⟩
/-- euphroe/bitp.Bit -/
abbrev en33 (f : Int → Int → Int → Option Int) : Ent := ⟨[(Sh.int .u64), (Sh.int .i64), (Sh.int .i64)], Int, fun v => f v.1 v.2.1 v.2.2.1, fun r => (((Sh.int .u64)).enc r, [])⟩
/-- euphroe/euphroeref03.Spread -/
abbrev en36 (f : List Int → Option ((List Int) × Int)) : Ent := ⟨[(Sh.sl (Sh.int .u8))], (List Int) × Int, fun v => f v.1, fun r => (((Sh.tu (Sh.pr (Sh.sl (Sh.int .u8)) (Sh.int .i64)))).enc r, [])⟩
/-- euphroe/euphroeref03.Odd -/
abbrev en39 (f : Int → Option Int) : Ent := ⟨[(Sh.int .u8)], Int, fun v => f v.1, fun r => (((Sh.int .u8)).enc r, [])⟩
/-- euphroe/euphroeref01.Big -/
abbrev en50 (f : Int → Int → Option (List Int)) : Ent := ⟨[(Sh.int .u64), (Sh.int .i64)], List Int, fun v => f v.1 v.2.1, fun r => (((Sh.sl (Sh.int .u8))).enc r, [])⟩
/-- euphroe/euphroeref01.Num -/
abbrev en51 (f : List Int → Option Int) : Ent := ⟨[(Sh.sl (Sh.int .u8))], Int, fun v => f v.1, fun r => (((Sh.int .u64)).enc r, [])⟩
/-- math/bits.OnesCount8 -/
abbrev en52 (f : Int → Option Int) : Ent := ⟨[(Sh.int .u8)], Int, fun v => f v.1, fun r => (((Sh.int .i64)).enc r, [])⟩
/-- euphroe/bitp.isWidth -/
abbrev en53 (f : Int → Option Bool) : Ent := ⟨[(Sh.int .i64)], Bool, fun v => f v.1, fun r => ((Sh.bool).enc r, [])⟩
/-- euphroe/euphroeref03.Row -/
abbrev en56 (f : Int → Int → Option (List Int)) : Ent := ⟨[(Sh.int .u64), (Sh.int .i64)], List Int, fun v => f v.1 v.2.1, fun r => (((Sh.sl (Sh.int .u8))).enc r, [])⟩
/-- euphroe/euphroeref03.Word -/
abbrev en57 (f : List Int → Option Int) : Ent := ⟨[(Sh.sl (Sh.int .u8))], Int, fun v => f v.1, fun r => (((Sh.int .u64)).enc r, [])⟩
/-- euphroe/bitp.mask -/
abbrev en58 (f : Int → Option Int) : Ent := ⟨[(Sh.int .i64)], Int, fun v => f v.1, fun r => (((Sh.int .u64)).enc r, [])⟩
/-- strings.IndexByte -/
abbrev en63 (f : List UInt8 → Int → Option Int) : Ent := ⟨[Sh.str, (Sh.int .u8)], Int, fun v => f v.1 v.2.1, fun r => (((Sh.int .i64)).enc r, [])⟩
/-- internal/stringslite.IndexByte -/
abbrev en65 (f : List UInt8 → Int → Option Int) : Ent := ⟨[Sh.str, (Sh.int .u8)], Int, fun v => f v.1 v.2.1, fun r => (((Sh.int .i64)).enc r, [])⟩
/-- internal/bytealg.IndexByteString -/
abbrev en66 (f : List UInt8 → Int → Option Int) : Ent := ⟨[Sh.str, (Sh.int .u8)], Int, fun v => f v.1 v.2.1, fun r => (((Sh.int .i64)).enc r, [])⟩
/-- euphroe/euphroelaw08.DesWords -/
abbrev en240 (f : Int → Int → Int → Option Bool) : Ent := ⟨[(Sh.int .i64), (Sh.int .u64), (Sh.int .u32)], Bool, fun v => f v.1 v.2.1 v.2.2.1, fun r => ((Sh.bool).enc r, [])⟩
/-- euphroe/euphroelaw08.DesSeven -/
abbrev en241 (f : List Int → List Int → Option Bool) : Ent := ⟨[(Sh.sl (Sh.int .u8)), (Sh.sl (Sh.int .u8))], Bool, fun v => f v.1 v.2.1, fun r => ((Sh.bool).enc r, [])⟩
/-- euphroe/euphroelaw08.DesTurns -/
abbrev en242 (f : Int → Int → Option Bool) : Ent := ⟨[(Sh.int .u64), (Sh.int .u64)], Bool, fun v => f v.1 v.2.1, fun r => ((Sh.bool).enc r, [])⟩
/-- euphroe/euphroelaw08.DesBack -/
abbrev en243 (f : Int → Int → Int → Option Bool) : Ent := ⟨[(Sh.int .u64), (Sh.int .u64), (Sh.int .u64)], Bool, fun v => f v.1 v.2.1 v.2.2.1, fun r => ((Sh.bool).enc r, [])⟩
/-- euphroe/euphroelaw08.DesOther -/
abbrev en244 (f : Int → Int → Option Bool) : Ent := ⟨[(Sh.int .u64), (Sh.int .u64)], Bool, fun v => f v.1 v.2.1, fun r => ((Sh.bool).enc r, [])⟩
/-- euphroe/des.Box -/
abbrev en245 (f : Int → Int → Option Int) : Ent := ⟨[(Sh.int .i64), (Sh.int .u64)], Int, fun v => f v.1 v.2.1, fun r => (((Sh.int .u64)).enc r, [])⟩
/-- euphroe/euphroeref08.Box -/
abbrev en246 (f : Int → Int → Option Int) : Ent := ⟨[(Sh.int .i64), (Sh.int .u64)], Int, fun v => f v.1 v.2.1, fun r => (((Sh.int .u64)).enc r, [])⟩
/-- euphroe/des.Keys -/
abbrev en247 (f : Int → Option (List Int)) : Ent := ⟨[(Sh.int .u64)], List Int, fun v => f v.1, fun r => (((Sh.ar .u64)).enc r, [])⟩
/-- euphroe/euphroeref08.Keys -/
abbrev en248 (f : Int → Option (List Int)) : Ent := ⟨[(Sh.int .u64)], List Int, fun v => f v.1, fun r => (((Sh.ar .u64)).enc r, [])⟩
/-- euphroe/des.Word -/
abbrev en249 (f : Int → Int → Option Int) : Ent := ⟨[(Sh.int .u32), (Sh.int .u64)], Int, fun v => f v.1 v.2.1, fun r => (((Sh.int .u32)).enc r, [])⟩
/-- euphroe/euphroeref08.Word -/
abbrev en250 (f : Int → Int → Option Int) : Ent := ⟨[(Sh.int .u32), (Sh.int .u64)], Int, fun v => f v.1 v.2.1, fun r => (((Sh.int .u32)).enc r, [])⟩
/-- euphroe/euphroelaw08.alive -/
abbrev en251 (f : Option Bool) : Ent := ⟨[], Bool, fun v => f, fun r => ((Sh.bool).enc r, [])⟩
/-- euphroe/des.Seven -/
abbrev en252 (f : List Int → List Int → Option ((List Int) × Int)) : Ent := ⟨[(Sh.sl (Sh.int .u8)), (Sh.sl (Sh.int .u8))], (List Int) × Int, fun v => f v.1 v.2.1, fun r => (((Sh.tu (Sh.pr (Sh.sl (Sh.int .u8)) (Sh.int .i64)))).enc r, [])⟩
/-- euphroe/euphroeref08.Seven -/
abbrev en253 (f : List Int → List Int → Option ((List Int) × Int)) : Ent := ⟨[(Sh.sl (Sh.int .u8)), (Sh.sl (Sh.int .u8))], (List Int) × Int, fun v => f v.1 v.2.1, fun r => (((Sh.tu (Sh.pr (Sh.sl (Sh.int .u8)) (Sh.int .i64)))).enc r, [])⟩
/-- euphroe/des.Turn -/
abbrev en254 (f : Int → Int → Option Int) : Ent := ⟨[(Sh.int .u64), (Sh.int .u64)], Int, fun v => f v.1 v.2.1, fun r => (((Sh.int .u64)).enc r, [])⟩
/-- euphroe/euphroeref08.Turn -/
abbrev en255 (f : Int → Int → Option Int) : Ent := ⟨[(Sh.int .u64), (Sh.int .u64)], Int, fun v => f v.1 v.2.1, fun r => (((Sh.int .u64)).enc r, [])⟩
/-- euphroe/des.Back -/
abbrev en256 (f : Int → Int → Option Int) : Ent := ⟨[(Sh.int .u64), (Sh.int .u64)], Int, fun v => f v.1 v.2.1, fun r => (((Sh.int .u64)).enc r, [])⟩
/-- euphroe/euphroeref08.Back -/
abbrev en257 (f : Int → Int → Option Int) : Ent := ⟨[(Sh.int .u64), (Sh.int .u64)], Int, fun v => f v.1 v.2.1, fun r => (((Sh.int .u64)).enc r, [])⟩
/-- euphroe/des.rows -/
abbrev en258 (f : Option ((List UInt8) × (List UInt8) × (List UInt8) × (List UInt8) × (List UInt8) × (List UInt8) × (List UInt8) × (List UInt8))) : Ent := ⟨[], (List UInt8) × (List UInt8) × (List UInt8) × (List UInt8) × (List UInt8) × (List UInt8) × (List UInt8) × (List UInt8), fun v => f, fun r => (((Sh.st (Sh.pr Sh.str (Sh.pr Sh.str (Sh.pr Sh.str (Sh.pr Sh.str (Sh.pr Sh.str (Sh.pr Sh.str (Sh.pr Sh.str Sh.str))))))))).enc r, [])⟩
/-- euphroe/euphroeref08.digit -/
abbrev en259 (f : Int → List Int → Option Int) : Ent := ⟨[(Sh.int .i64), (Sh.sl (Sh.int .u8))], Int, fun v => f v.1 v.2.1, fun r => (((Sh.int .i64)).enc r, [])⟩
/-- euphroe/des.by -/
abbrev en260 (f : Int → Int → List Int → Option Int) : Ent := ⟨[(Sh.int .u64), (Sh.int .i64), (Sh.sl (Sh.int .i64))], Int, fun v => f v.1 v.2.1 v.2.2.1, fun r => (((Sh.int .u64)).enc r, [])⟩
/-- euphroe/des.ofKeys -/
abbrev en261 (f : Option (List Int)) : Ent := ⟨[], List Int, fun v => f, fun r => (((Sh.sl (Sh.int .i64))).enc r, [])⟩
/-- euphroe/des.turns -/
abbrev en262 (f : Int → Option Int) : Ent := ⟨[(Sh.int .i64)], Int, fun v => f v.1, fun r => (((Sh.int .i64)).enc r, [])⟩
/-- euphroe/des.ofRounds -/
abbrev en263 (f : Option (List Int)) : Ent := ⟨[], List Int, fun v => f, fun r => (((Sh.sl (Sh.int .i64))).enc r, [])⟩
/-- euphroe/euphroeref08.keys -/
abbrev en264 (f : Int → Option (List (List Int))) : Ent := ⟨[(Sh.int .u64)], List (List Int), fun v => f v.1, fun r => (((Sh.sl (Sh.sl (Sh.int .u8)))).enc r, [])⟩
/-- euphroe/des.wide -/
abbrev en265 (f : Option (List Int)) : Ent := ⟨[], List Int, fun v => f, fun r => (((Sh.sl (Sh.int .i64))).enc r, [])⟩
/-- euphroe/des.mixing -/
abbrev en266 (f : Option (List Int)) : Ent := ⟨[], List Int, fun v => f, fun r => (((Sh.sl (Sh.int .i64))).enc r, [])⟩
/-- euphroe/euphroeref08.word -/
abbrev en267 (f : List Int → List Int → Option (List Int)) : Ent := ⟨[(Sh.sl (Sh.int .u8)), (Sh.sl (Sh.int .u8))], List Int, fun v => f v.1 v.2.1, fun r => (((Sh.sl (Sh.int .u8))).enc r, [])⟩
/-- euphroe/des.turn -/
abbrev en268 (f : Int → List Int → Option Int) : Ent := ⟨[(Sh.int .u64), (Sh.sl (Sh.int .u64))], Int, fun v => f v.1 v.2.1, fun r => (((Sh.int .u64)).enc r, [])⟩
/-- euphroe/euphroeref08.turn -/
abbrev en269 (f : Int → List (List Int) → Option Int) : Ent := ⟨[(Sh.int .u64), (Sh.sl (Sh.sl (Sh.int .u8)))], Int, fun v => f v.1 v.2.1, fun r => (((Sh.int .u64)).enc r, [])⟩
/-- euphroe/euphroeref08.box -/
abbrev en271 (f : Int → Option (List Int)) : Ent := ⟨[(Sh.int .i64)], List Int, fun v => f v.1, fun r => (((Sh.sl (Sh.int .i64))).enc r, [])⟩
/-- euphroe/des.down -/
abbrev en272 (f : Int → Int → Option (List Int)) : Ent := ⟨[(Sh.int .i64), (Sh.int .i64)], List Int, fun v => f v.1 v.2.1, fun r => (((Sh.sl (Sh.int .i64))).enc r, [])⟩
/-- euphroe/euphroeref08.by -/
abbrev en273 (f : List Int → List Int → Option (List Int)) : Ent := ⟨[(Sh.sl (Sh.int .u8)), (Sh.sl (Sh.int .i64))], List Int, fun v => f v.1 v.2.1, fun r => (((Sh.sl (Sh.int .u8))).enc r, [])⟩
/-- euphroe/euphroeref08.ofKeys -/
abbrev en274 (f : Option (List Int)) : Ent := ⟨[], List Int, fun v => f, fun r => (((Sh.sl (Sh.int .i64))).enc r, [])⟩
/-- euphroe/euphroeref08.ofRounds -/
abbrev en275 (f : Option (List Int)) : Ent := ⟨[], List Int, fun v => f, fun r => (((Sh.sl (Sh.int .i64))).enc r, [])⟩
/-- euphroe/euphroeref08.turned -/
abbrev en276 (f : List Int → List Int → Option (List Int)) : Ent := ⟨[(Sh.sl (Sh.int .u8)), (Sh.sl (Sh.int .u8))], List Int, fun v => f v.1 v.2.1, fun r => (((Sh.sl (Sh.int .u8))).enc r, [])⟩
/-- euphroe/euphroeref08.wide -/
abbrev en277 (f : Option (List Int)) : Ent := ⟨[], List Int, fun v => f, fun r => (((Sh.sl (Sh.int .i64))).enc r, [])⟩
/-- euphroe/euphroeref08.mixing -/
abbrev en278 (f : Option (List Int)) : Ent := ⟨[], List Int, fun v => f, fun r => (((Sh.sl (Sh.int .i64))).enc r, [])⟩
/-- euphroe/des.first -/
abbrev en279 (f : Option (List Int)) : Ent := ⟨[], List Int, fun v => f, fun r => (((Sh.sl (Sh.int .i64))).enc r, [])⟩
/-- euphroe/des.last -/
abbrev en280 (f : Option (List Int)) : Ent := ⟨[], List Int, fun v => f, fun r => (((Sh.sl (Sh.int .i64))).enc r, [])⟩
/-- euphroe/euphroeref08.first -/
abbrev en281 (f : Option (List Int)) : Ent := ⟨[], List Int, fun v => f, fun r => (((Sh.sl (Sh.int .i64))).enc r, [])⟩
/-- euphroe/euphroeref08.last -/
abbrev en282 (f : Option (List Int)) : Ent := ⟨[], List Int, fun v => f, fun r => (((Sh.sl (Sh.int .i64))).enc r, [])⟩
def PR283v0 : Pr := ⟨(.cons .nils (.cons (.int .i64) .nil)), []⟩
def QR283v0 : Pr := ⟨(.cons (.sl 0 1) .nil), [(.ints false .i64)]⟩
/-- slices.Grow[[]int,int] -/
abbrev rn283v0 (f : Int → Option ((Nat × Unit) × ((List Int) × Unit))) : REnt := ⟨PR283v0, QR283v0, (Nat × Unit) × ((List Int) × Unit), fun v => f v.1.2.1, fun r => r⟩
def PR48v0 : Pr := ⟨(.cons (.slc 0 1) .nil), [(.ints false .u8)]⟩
def QR48v0 : Pr := ⟨(.cons .tup0 .nil), [(.ints false .u8)]⟩
/-- slices.Reverse[[]byte,byte] -/
abbrev rn48v0 (f : Nat → Nat → List Int → Option ((Unit × Unit) × ((List Int) × Unit))) : REnt := ⟨PR48v0, QR48v0, (Unit × Unit) × ((List Int) × Unit), fun v => f v.1.1.1 v.1.1.2 v.2.1, fun r => r⟩
def PR54v0 : Pr := ⟨(.cons (.int .i64) (.cons (.ptr 0 0) (.cons (.ptr 1 0) (.cons (.ptr 2 0) (.cons (.ptr 3 0) .nil))))), [(.vals false (.cons .bool .nil)), (.ints false .i64), (.ints false .u64), (.ints false .u64)]⟩
def QR54v0 : Pr := ⟨(.cons .tup0 .nil), [(.vals false (.cons .bool .nil)), (.ints false .i64), (.ints false .u64), (.ints false .u64)]⟩
/-- euphroe/bitp.Permute$1 -/
abbrev rn54v0 (f : Int → Bool → List Int → List Int → List Int → Option ((Unit × Unit) × ((Bool × Unit) × ((List Int) × ((List Int) × ((List Int) × Unit)))))) : REnt := ⟨PR54v0, QR54v0, (Unit × Unit) × ((Bool × Unit) × ((List Int) × ((List Int) × ((List Int) × Unit)))), fun v => f v.1.1 v.2.1.1 v.2.2.1 v.2.2.2.1 v.2.2.2.2.1, fun r => r⟩
def PR270v0 : Pr := ⟨(.cons (.slc 0 1) .nil), [(.ints false .u64)]⟩
def QR270v0 : Pr := ⟨(.cons .tup0 .nil), [(.ints false .u64)]⟩
/-- slices.Reverse[[]uint64,uint64] -/
abbrev rn270v0 (f : Nat → Nat → List Int → Option ((Unit × Unit) × ((List Int) × Unit))) : REnt := ⟨PR270v0, QR270v0, (Unit × Unit) × ((List Int) × Unit), fun v => f v.1.1.1 v.1.1.2 v.2.1, fun r => r⟩

/-- slices.Grow[[]int,int] -/
def p283v0 (N : Nat) (a0 : Int) : Option ((Nat × Unit) × ((List Int) × Unit)) :=
  bif (decide (a0 < (0 : Int))) then
    none
  else
    bif (decide ((isub .i64 a0 (0 : Int)) > (0 : Int))) then
      bif ((decide ((0 : Int) ≤ (isub .i64 a0 (0 : Int)))) && ((decide (((isub .i64 a0 (0 : Int)) * ((8 : Nat) : Int)) ≤ (1099511627776 : Int))) && (decide ((isub .i64 a0 (0 : Int)) ≤ (1099511627776 : Int))))) then
        bif (decide ((0 : Int) ≤ (((Int.toNat (isub .i64 a0 (0 : Int))) : Nat) : Int))) then
          some ((0, ()), (([] : List Int), ()))
        else none
      else none
    else
      some ((0, ()), (([] : List Int), ()))

def L2_0 (d283v0 : Int → Option ((Nat × Unit) × ((List Int) × Unit))) (N : Nat) (q0_0 : List (List Int) → Int → Option (List Int)) : Nat → List (List Int) → Int → List (List Int) → Int → Int → Option (List Int)
  | 0, _, _, _, _, _ => none
  | n0 + 1, v1, v2, v3, v4, v5 =>
    bif (decide (v5 < v4)) then
      match geti v3 v5 with
      | none => none
      | some x6 =>
        bif (decide ((iadd .i64 v2 (((List.length x6) : Nat) : Int)) < (0 : Int))) then
          none
        else
          L2_0 d283v0 N q0_0 n0 v1 (iadd .i64 v2 (((List.length x6) : Nat) : Int)) v3 v4 (iadd .i64 v5 (1 : Int))
    else
      q0_0 v1 v2
def L2_1 (d283v0 : Int → Option ((Nat × Unit) × ((List Int) × Unit))) (N : Nat) (q1_2 : Nat → List Int → Option (List Int)) : Nat → Nat → List (List Int) → Int → Int → List Int → Option (List Int)
  | 0, _, _, _, _, _ => none
  | n1 + 1, v10, v11, v12, v13, v14 =>
    bif (decide (v13 < v12)) then
      match geti v11 v13 with
      | none => none
      | some x15 =>
        bif (((List.length v14) == (v10 * 1)) && ((decide (((v10 + (List.length x15)) * 8) ≤ 1099511627776)) && (decide ((v10 + (List.length x15)) ≤ 1099511627776)))) then
          L2_1 d283v0 N q1_2 n1 (v10 + (List.length x15)) v11 v12 (iadd .i64 v13 (1 : Int)) (v14 ++ x15)
        else none
    else
      q1_2 v10 v14
/-- slices.Concat[[]int,int] -/
def p2 (d283v0 : Int → Option ((Nat × Unit) × ((List Int) × Unit))) (N : Nat) (a0 : List (List Int)) : Option (List Int) :=
  L2_0 d283v0 N (fun (y7 : List (List Int)) (y8 : Int) =>
      match d283v0 y8 with
      | none => none
      | some r9 =>
        L2_1 d283v0 N (fun (y16 : Nat) (y17 : List Int) =>
            bif (y16 == (List.length y17)) then
              some y17
            else none) N r9.1.1 y7 (((List.length y7) : Nat) : Int) (0 : Int) r9.2.1) N a0 (0 : Int) a0 (((List.length a0) : Nat) : Int) (0 : Int)

def L48v0_0 (N : Nat) (q0_0 : List Int → Option ((Unit × Unit) × ((List Int) × Unit))) : Nat → Nat → Nat → Int → Int → List Int → Option ((Unit × Unit) × ((List Int) × Unit))
  | 0, _, _, _, _, _ => none
  | n0 + 1, v1, v2, v3, v4, v5 =>
    bif (decide (v3 < v4)) then
      bif ((decide ((0 : Int) ≤ v4)) && (decide (v4 < ((v1 : Nat) : Int)))) then
        match (v5)[(0 + ((Int.toNat v4) * 1))]? with
        | none => none
        | some x6 =>
          bif ((decide ((0 : Int) ≤ v3)) && (decide (v3 < ((v1 : Nat) : Int)))) then
            match (v5)[(0 + ((Int.toNat v3) * 1))]? with
            | none => none
            | some x7 =>
              bif ((decide ((0 : Int) ≤ v3)) && (decide (v3 < ((v1 : Nat) : Int)))) then
                bif (decide ((0 + ((Int.toNat v3) * 1)) < (List.length v5))) then
                  bif ((decide ((0 : Int) ≤ v4)) && (decide (v4 < ((v1 : Nat) : Int)))) then
                    bif (decide ((0 + ((Int.toNat v4) * 1)) < (List.length (List.set v5 (0 + ((Int.toNat v3) * 1)) x6)))) then
                      L48v0_0 N q0_0 n0 v1 v2 (iadd .i64 v3 (1 : Int)) (isub .i64 v4 (1 : Int)) (List.set (List.set v5 (0 + ((Int.toNat v3) * 1)) x6) (0 + ((Int.toNat v4) * 1)) x7)
                    else none
                  else none
                else none
              else none
          else none
      else none
    else
      q0_0 v5
/-- slices.Reverse[[]byte,byte] -/
def p48v0 (N : Nat) (a0 : Nat) (a1 : Nat) (a2 : List Int) : Option ((Unit × Unit) × ((List Int) × Unit)) :=
  L48v0_0 N (fun (y8 : List Int) =>
      some (((), ()), (y8, ()))) N a0 a1 (0 : Int) (isub .i64 ((a0 : Nat) : Int) (1 : Int)) a2

def L19_0 (d48v0 : Nat → Nat → List Int → Option ((Unit × Unit) × ((List Int) × Unit))) (N : Nat) (q0_0 : Bool → Nat → Nat → List Int → Option ((List Int) × Int)) : Nat → Int → Bool → Nat → Nat → Int → Int → List Int → Option ((List Int) × Int)
  | 0, _, _, _, _, _, _, _ => none
  | n0 + 1, v1, v2, v3, v4, v5, v6, v7 =>
    bif (decide (v6 < v5)) then
      bif (decide ((imul .i64 (8 : Int) v6) < (0 : Int))) then
        none
      else
        bif ((decide ((0 : Int) ≤ v6)) && (decide (v6 < ((v3 : Nat) : Int)))) then
          bif (decide ((0 + ((Int.toNat v6) * 1)) < (List.length v7))) then
            L19_0 d48v0 N q0_0 n0 v1 v2 v3 v4 v5 (iadd .i64 v6 (1 : Int)) (List.set v7 (0 + ((Int.toNat v6) * 1)) (IntKind.wrap .u8 (ishr .u64 v1 (imul .i64 (8 : Int) v6))))
          else none
        else none
    else
      q0_0 v2 v3 v4 v7
/-- euphroe/octs.Put -/
def p19 (d48v0 : Nat → Nat → List Int → Option ((Unit × Unit) × ((List Int) × Unit))) (N : Nat) (a0 : Int) (a1 : Int) (a2 : Bool) : Option ((List Int) × Int) :=
  bif (decide (a1 < (1 : Int))) then
    some (([] : List Int), (1 : Int))
  else
    bif (decide (a1 > (8 : Int))) then
      some (([] : List Int), (1 : Int))
    else
      bif ((decide ((0 : Int) ≤ a1)) && ((decide (a1 ≤ a1)) && ((decide ((a1 * ((1 : Nat) : Int)) ≤ (1099511627776 : Int))) && (decide (a1 ≤ (1099511627776 : Int)))))) then
        L19_0 d48v0 N (fun (y8 : Bool) (y9 : Nat) (y10 : Nat) (y11 : List Int) =>
            bif (!y8) then
              match d48v0 y9 y10 y11 with
              | none => none
              | some r12 =>
                bif (decide ((0 + (y9 * 1)) ≤ (List.length r12.2.1))) then
                  some ((List.take y9 (List.drop 0 r12.2.1)), (0 : Int))
                else none
            else
              bif (decide ((0 + (y9 * 1)) ≤ (List.length y11))) then
                some ((List.take y9 (List.drop 0 y11)), (0 : Int))
              else none) N a0 a2 (Int.toNat a1) (Int.toNat a1) (((Int.toNat a1) : Nat) : Int) (0 : Int) (List.replicate (Int.toNat a1) (0 : Int))
      else none

def L21_0 (N : Nat) (q0_0 : Int → Option (Int × Int)) : Nat → Bool → Int → List Int → Int → Int → Option (Int × Int)
  | 0, _, _, _, _, _ => none
  | n0 + 1, v1, v2, v3, v4, v5 =>
    bif (decide (v5 < v4)) then
      match geti v3 v5 with
      | none => none
      | some x6 =>
        bif v1 then
          bif (decide ((imul .i64 (8 : Int) v5) < (0 : Int))) then
            none
          else
            L21_0 N q0_0 n0 v1 (ior .u64 v2 (ishl .u64 (IntKind.wrap .u64 x6) (imul .i64 (8 : Int) v5))) v3 v4 (iadd .i64 v5 (1 : Int))
        else
          L21_0 N q0_0 n0 v1 (ior .u64 (ishl .u64 v2 (8 : Int)) (IntKind.wrap .u64 x6)) v3 v4 (iadd .i64 v5 (1 : Int))
    else
      q0_0 v2
/-- euphroe/octs.Get -/
def p21 (N : Nat) (a0 : List Int) (a1 : Bool) : Option (Int × Int) :=
  bif (decide ((((List.length a0) : Nat) : Int) < (1 : Int))) then
    some ((0 : Int), (1 : Int))
  else
    bif (decide ((((List.length a0) : Nat) : Int) > (8 : Int))) then
      some ((0 : Int), (1 : Int))
    else
      L21_0 N (fun (y7 : Int) =>
          some (y7, (0 : Int))) N a1 (0 : Int) a0 (((List.length a0) : Nat) : Int) (0 : Int)

def L23_0 (N : Nat) (q0_0 : Option Bool) : Nat → List Int → List Int → Int → Option Bool
  | 0, _, _, _ => none
  | n0 + 1, v1, v2, v3 =>
    bif (decide (v3 < (((List.length v1) : Nat) : Int))) then
      match geti v1 v3 with
      | none => none
      | some x4 =>
        match geti v2 v3 with
        | none => none
        | some x5 =>
          bif (x4 != x5) then
            some false
          else
            L23_0 N q0_0 n0 v1 v2 (iadd .i64 v3 (1 : Int))
    else
      q0_0
/-- euphroe/euphroeref01.Same -/
def p23 (N : Nat) (a0 : List Int) (a1 : List Int) : Option Bool :=
  bif ((((List.length a0) : Nat) : Int) != (((List.length a1) : Nat) : Int)) then
    some false
  else
    L23_0 N (
        some true) N a0 a1 (0 : Int)

/-- math/bits.OnesCount8 -/
def p52 (N : Nat) (a0 : Int) : Option Int :=
  match geti ([(0 : UInt8), (1 : UInt8), (1 : UInt8), (2 : UInt8), (1 : UInt8), (2 : UInt8), (2 : UInt8), (3 : UInt8), (1 : UInt8), (2 : UInt8), (2 : UInt8), (3 : UInt8), (2 : UInt8), (3 : UInt8), (3 : UInt8), (4 : UInt8), (1 : UInt8), (2 : UInt8), (2 : UInt8), (3 : UInt8), (2 : UInt8), (3 : UInt8), (3 : UInt8), (4 : UInt8), (2 : UInt8), (3 : UInt8), (3 : UInt8), (4 : UInt8), (3 : UInt8), (4 : UInt8), (4 : UInt8), (5 : UInt8), (1 : UInt8), (2 : UInt8), (2 : UInt8), (3 : UInt8), (2 : UInt8), (3 : UInt8), (3 : UInt8), (4 : UInt8), (2 : UInt8), (3 : UInt8), (3 : UInt8), (4 : UInt8), (3 : UInt8), (4 : UInt8), (4 : UInt8), (5 : UInt8), (2 : UInt8), (3 : UInt8), (3 : UInt8), (4 : UInt8), (3 : UInt8), (4 : UInt8), (4 : UInt8), (5 : UInt8), (3 : UInt8), (4 : UInt8), (4 : UInt8), (5 : UInt8), (4 : UInt8), (5 : UInt8), (5 : UInt8), (6 : UInt8), (1 : UInt8), (2 : UInt8), (2 : UInt8), (3 : UInt8), (2 : UInt8), (3 : UInt8), (3 : UInt8), (4 : UInt8), (2 : UInt8), (3 : UInt8), (3 : UInt8), (4 : UInt8), (3 : UInt8), (4 : UInt8), (4 : UInt8), (5 : UInt8), (2 : UInt8), (3 : UInt8), (3 : UInt8), (4 : UInt8), (3 : UInt8), (4 : UInt8), (4 : UInt8), (5 : UInt8), (3 : UInt8), (4 : UInt8), (4 : UInt8), (5 : UInt8), (4 : UInt8), (5 : UInt8), (5 : UInt8), (6 : UInt8), (2 : UInt8), (3 : UInt8), (3 : UInt8), (4 : UInt8), (3 : UInt8), (4 : UInt8), (4 : UInt8), (5 : UInt8), (3 : UInt8), (4 : UInt8), (4 : UInt8), (5 : UInt8), (4 : UInt8), (5 : UInt8), (5 : UInt8), (6 : UInt8), (3 : UInt8), (4 : UInt8), (4 : UInt8), (5 : UInt8), (4 : UInt8), (5 : UInt8), (5 : UInt8), (6 : UInt8), (4 : UInt8), (5 : UInt8), (5 : UInt8), (6 : UInt8), (5 : UInt8), (6 : UInt8), (6 : UInt8), (7 : UInt8), (1 : UInt8), (2 : UInt8), (2 : UInt8), (3 : UInt8), (2 : UInt8), (3 : UInt8), (3 : UInt8), (4 : UInt8), (2 : UInt8), (3 : UInt8), (3 : UInt8), (4 : UInt8), (3 : UInt8), (4 : UInt8), (4 : UInt8), (5 : UInt8), (2 : UInt8), (3 : UInt8), (3 : UInt8), (4 : UInt8), (3 : UInt8), (4 : UInt8), (4 : UInt8), (5 : UInt8), (3 : UInt8), (4 : UInt8), (4 : UInt8), (5 : UInt8), (4 : UInt8), (5 : UInt8), (5 : UInt8), (6 : UInt8), (2 : UInt8), (3 : UInt8), (3 : UInt8), (4 : UInt8), (3 : UInt8), (4 : UInt8), (4 : UInt8), (5 : UInt8), (3 : UInt8), (4 : UInt8), (4 : UInt8), (5 : UInt8), (4 : UInt8), (5 : UInt8), (5 : UInt8), (6 : UInt8), (3 : UInt8), (4 : UInt8), (4 : UInt8), (5 : UInt8), (4 : UInt8), (5 : UInt8), (5 : UInt8), (6 : UInt8), (4 : UInt8), (5 : UInt8), (5 : UInt8), (6 : UInt8), (5 : UInt8), (6 : UInt8), (6 : UInt8), (7 : UInt8), (2 : UInt8), (3 : UInt8), (3 : UInt8), (4 : UInt8), (3 : UInt8), (4 : UInt8), (4 : UInt8), (5 : UInt8), (3 : UInt8), (4 : UInt8), (4 : UInt8), (5 : UInt8), (4 : UInt8), (5 : UInt8), (5 : UInt8), (6 : UInt8), (3 : UInt8), (4 : UInt8), (4 : UInt8), (5 : UInt8), (4 : UInt8), (5 : UInt8), (5 : UInt8), (6 : UInt8), (4 : UInt8), (5 : UInt8), (5 : UInt8), (6 : UInt8), (5 : UInt8), (6 : UInt8), (6 : UInt8), (7 : UInt8), (3 : UInt8), (4 : UInt8), (4 : UInt8), (5 : UInt8), (4 : UInt8), (5 : UInt8), (5 : UInt8), (6 : UInt8), (4 : UInt8), (5 : UInt8), (5 : UInt8), (6 : UInt8), (5 : UInt8), (6 : UInt8), (6 : UInt8), (7 : UInt8), (4 : UInt8), (5 : UInt8), (5 : UInt8), (6 : UInt8), (5 : UInt8), (6 : UInt8), (6 : UInt8), (7 : UInt8), (5 : UInt8), (6 : UInt8), (6 : UInt8), (7 : UInt8), (6 : UInt8), (7 : UInt8), (7 : UInt8), (8 : UInt8)] : List UInt8) a0 with
  | none => none
  | some x1 =>
    some (IntKind.wrap .i64 ((UInt8.toNat x1 : Nat) : Int))

/-- euphroe/bitp.Odd -/
def p25 (c52 : Int → Option Int) (N : Nat) (a0 : Int) : Option Int :=
  match c52 (ishr .u8 a0 (1 : Int)) with
  | none => none
  | some r1 =>
    some (ior .u8 (iandn .u8 a0 (1 : Int)) (IntKind.wrap .u8 (isub .i64 (1 : Int) (iand .i64 r1 (1 : Int)))))

def L24_0 (c25 : Int → Option Int) (N : Nat) (q0_0 : Int → Option ((List Int) × Int)) : Nat → Int → List Int → Int → Int → Option ((List Int) × Int)
  | 0, _, _, _, _ => none
  | n0 + 1, v1, v2, v3, v4 =>
    bif (decide (v4 < v3)) then
      match geti v2 v4 with
      | none => none
      | some x5 =>
        L24_0 c25 N q0_0 n0 (ior .u64 (ishl .u64 v1 (8 : Int)) (IntKind.wrap .u64 x5)) v2 v3 (iadd .i64 v4 (1 : Int))
    else
      q0_0 v1
def L24_1 (c25 : Int → Option Int) (N : Nat) (q1_2 : Nat → Nat → List Int → Option ((List Int) × Int)) : Nat → Int → Nat → Nat → Int → Int → List Int → Option ((List Int) × Int)
  | 0, _, _, _, _, _, _ => none
  | n1 + 1, v7, v8, v9, v10, v11, v12 =>
    bif (decide (v11 < v10)) then
      bif (decide ((imul .i64 (7 : Int) (isub .i64 (7 : Int) v11)) < (0 : Int))) then
        none
      else
        match c25 (IntKind.wrap .u8 (ishl .u64 (ishr .u64 v7 (imul .i64 (7 : Int) (isub .i64 (7 : Int) v11))) (1 : Int))) with
        | none => none
        | some r13 =>
          bif ((decide ((0 : Int) ≤ v11)) && (decide (v11 < ((v8 : Nat) : Int)))) then
            bif (decide ((0 + ((Int.toNat v11) * 1)) < (List.length v12))) then
              L24_1 c25 N q1_2 n1 v7 v8 v9 v10 (iadd .i64 v11 (1 : Int)) (List.set v12 (0 + ((Int.toNat v11) * 1)) r13)
            else none
          else none
    else
      q1_2 v8 v9 v12
/-- euphroe/bitp.Spread -/
def p24 (c25 : Int → Option Int) (N : Nat) (a0 : List Int) : Option ((List Int) × Int) :=
  bif ((((List.length a0) : Nat) : Int) != (7 : Int)) then
    some (([] : List Int), (1 : Int))
  else
    L24_0 c25 N (fun (y6 : Int) =>
        L24_1 c25 N (fun (y14 : Nat) (y15 : Nat) (y16 : List Int) =>
            bif (decide ((0 + (y14 * 1)) ≤ (List.length y16))) then
              some ((List.take y14 (List.drop 0 y16)), (0 : Int))
            else none) N y6 8 8 (8 : Int) (0 : Int) ([(0 : Int), (0 : Int), (0 : Int), (0 : Int), (0 : Int), (0 : Int), (0 : Int), (0 : Int)] : List Int)) N (0 : Int) a0 (((List.length a0) : Nat) : Int) (0 : Int)

/-- euphroe/bitp.isWidth -/
def p53 (N : Nat) (a0 : Int) : Option Bool :=
  bif (decide (a0 ≥ (1 : Int))) then
    some (decide (a0 ≤ (64 : Int)))
  else
    some false

/-- euphroe/bitp.Bit -/
def p33 (c53 : Int → Option Bool) (N : Nat) (a0 : Int) (a1 : Int) (a2 : Int) : Option Int :=
  match c53 a1 with
  | none => none
  | some r1 =>
    bif (!r1) then
      some (0 : Int)
    else
      bif (decide (a2 < (1 : Int))) then
        some (0 : Int)
      else
        bif (decide (a2 > a1)) then
          some (0 : Int)
        else
          bif (decide ((isub .i64 a1 a2) < (0 : Int))) then
            none
          else
            some (iand .u64 (ishr .u64 a0 (isub .i64 a1 a2)) (1 : Int))

/-- euphroe/bitp.Permute$1 -/
def p54v0 (c33 : Int → Int → Int → Option Int) (N : Nat) (a0 : Int) (a1 : Bool) (a2 : List Int) (a3 : List Int) (a4 : List Int) : Option ((Unit × Unit) × ((Bool × Unit) × ((List Int) × ((List Int) × ((List Int) × Unit))))) :=
  bif a1 then
    match (a3)[0]? with
    | none => none
    | some x1 =>
      match (a4)[0]? with
      | none => none
      | some x2 =>
        match (a2)[0]? with
        | none => none
        | some x3 =>
          match c33 x2 x3 a0 with
          | none => none
          | some r4 =>
            bif (decide (0 < (List.length a3))) then
              some (((), ()), ((true, ()), (a2, ((List.set a3 0 (ior .u64 (ishl .u64 x1 (1 : Int)) r4)), (a4, ())))))
            else none
  else
    bif (decide (a0 < (1 : Int))) then
      match (a3)[0]? with
      | none => none
      | some x5 =>
        match (a4)[0]? with
        | none => none
        | some x6 =>
          match (a2)[0]? with
          | none => none
          | some x7 =>
            match c33 x6 x7 a0 with
            | none => none
            | some r8 =>
              bif (decide (0 < (List.length a3))) then
                some (((), ()), ((true, ()), (a2, ((List.set a3 0 (ior .u64 (ishl .u64 x5 (1 : Int)) r8)), (a4, ())))))
              else none
    else
      match (a2)[0]? with
      | none => none
      | some x9 =>
        match (a3)[0]? with
        | none => none
        | some x10 =>
          match (a4)[0]? with
          | none => none
          | some x11 =>
            match (a2)[0]? with
            | none => none
            | some x12 =>
              match c33 x11 x12 a0 with
              | none => none
              | some r13 =>
                bif (decide (0 < (List.length a3))) then
                  some (((), ()), (((decide (a0 > x9)), ()), (a2, ((List.set a3 0 (ior .u64 (ishl .u64 x10 (1 : Int)) r13)), (a4, ())))))
                else none

def L27_0 (c53 : Int → Option Bool) (d54v0 : Int → Bool → List Int → List Int → List Int → Option ((Unit × Unit) × ((Bool × Unit) × ((List Int) × ((List Int) × ((List Int) × Unit)))))) (N : Nat) (q0_0 : List Int → Bool → Option (Int × Int)) : Nat → List Int → Int → Int → List Int → Bool → List Int → List Int → Option (Int × Int)
  | 0, _, _, _, _, _, _, _ => none
  | n0 + 1, v2, v3, v4, v5, v6, v7, v8 =>
    bif (decide (v4 < v3)) then
      match geti v2 v4 with
      | none => none
      | some x9 =>
        match d54v0 x9 v6 v7 v5 v8 with
        | none => none
        | some r10 =>
          L27_0 c53 d54v0 N q0_0 n0 v2 v3 (iadd .i64 v4 (1 : Int)) r10.2.2.2.1 r10.2.1.1 r10.2.2.1 r10.2.2.2.2.1
    else
      q0_0 v5 v6
/-- euphroe/bitp.Permute -/
def p27 (c53 : Int → Option Bool) (d54v0 : Int → Bool → List Int → List Int → List Int → Option ((Unit × Unit) × ((Bool × Unit) × ((List Int) × ((List Int) × ((List Int) × Unit)))))) (N : Nat) (a0 : Int) (a1 : Int) (a2 : List Int) : Option (Int × Int) :=
  match c53 a1 with
  | none => none
  | some r1 =>
    bif (!r1) then
      some ((0 : Int), (1 : Int))
    else
      bif (decide ((((List.length a2) : Nat) : Int) > (64 : Int))) then
        some ((0 : Int), (1 : Int))
      else
        L27_0 c53 d54v0 N (fun (y11 : List Int) (y12 : Bool) =>
            bif y12 then
              some ((0 : Int), (1 : Int))
            else
              match (y11)[0]? with
              | none => none
              | some x13 =>
                some (x13, (0 : Int))) N a2 (((List.length a2) : Nat) : Int) (0 : Int) ([(0 : Int)] : List Int) false ([a1] : List Int) ([a0] : List Int)

/-- euphroe/bitp.mask -/
def p58 (N : Nat) (a0 : Int) : Option Int :=
  bif (decide ((isub .i64 (64 : Int) a0) < (0 : Int))) then
    none
  else
    some (ishr .u64 (18446744073709551615 : Int) (isub .i64 (64 : Int) a0))

/-- euphroe/bitp.Turn -/
def p29 (c53 : Int → Option Bool) (c58 : Int → Option Int) (N : Nat) (a0 : Int) (a1 : Int) (a2 : Int) : Option (Int × Int) :=
  match c53 a1 with
  | none => none
  | some r1 =>
    bif (!r1) then
      some ((0 : Int), (1 : Int))
    else
      bif (a1 == (0 : Int)) then
        none
      else
        bif (decide ((irem a2 a1) < (0 : Int))) then
          match c58 a1 with
          | none => none
          | some r2 =>
            bif (decide ((iadd .i64 (irem a2 a1) a1) < (0 : Int))) then
              none
            else
              bif (decide ((isub .i64 a1 (iadd .i64 (irem a2 a1) a1)) < (0 : Int))) then
                none
              else
                match c58 a1 with
                | none => none
                | some r3 =>
                  some ((iand .u64 (ior .u64 (ishl .u64 (iand .u64 a0 r2) (iadd .i64 (irem a2 a1) a1)) (ishr .u64 (iand .u64 a0 r2) (isub .i64 a1 (iadd .i64 (irem a2 a1) a1)))) r3), (0 : Int))
        else
          match c58 a1 with
          | none => none
          | some r4 =>
            bif (decide ((irem a2 a1) < (0 : Int))) then
              none
            else
              bif (decide ((isub .i64 a1 (irem a2 a1)) < (0 : Int))) then
                none
              else
                match c58 a1 with
                | none => none
                | some r5 =>
                  some ((iand .u64 (ior .u64 (ishl .u64 (iand .u64 a0 r4) (irem a2 a1)) (ishr .u64 (iand .u64 a0 r4) (isub .i64 a1 (irem a2 a1)))) r5), (0 : Int))

/-- euphroe/bitp.Split -/
def p31 (c53 : Int → Option Bool) (c58 : Int → Option Int) (N : Nat) (a0 : Int) (a1 : Int) (a2 : Int) : Option (Int × Int × Int) :=
  match c53 a1 with
  | none => none
  | some r1 =>
    bif (!r1) then
      some ((0 : Int), ((0 : Int), (1 : Int)))
    else
      bif (decide (a2 < (0 : Int))) then
        some ((0 : Int), ((0 : Int), (1 : Int)))
      else
        bif (decide (a2 > a1)) then
          some ((0 : Int), ((0 : Int), (1 : Int)))
        else
          match c58 a1 with
          | none => none
          | some r2 =>
            bif (decide ((isub .i64 a1 a2) < (0 : Int))) then
              none
            else
              bif (decide ((isub .i64 a1 a2) < (0 : Int))) then
                none
              else
                bif (decide ((isub .i64 a1 a2) < (0 : Int))) then
                  none
                else
                  some ((ishr .u64 (iand .u64 a0 r2) (isub .i64 a1 a2)), ((iandn .u64 (iand .u64 a0 r2) (ishl .u64 (ishr .u64 (iand .u64 a0 r2) (isub .i64 a1 a2)) (isub .i64 a1 a2))), (0 : Int)))

def L56_0 (N : Nat) (q0_0 : Nat → Nat → List Int → Option (List Int)) : Nat → Int → Nat → Nat → Int → List Int → Option (List Int)
  | 0, _, _, _, _, _ => none
  | n0 + 1, v1, v2, v3, v4, v5 =>
    bif (decide (v4 ≥ (0 : Int))) then
      bif ((decide ((0 : Int) ≤ v4)) && (decide (v4 < ((v2 : Nat) : Int)))) then
        bif (decide ((0 + ((Int.toNat v4) * 1)) < (List.length v5))) then
          L56_0 N q0_0 n0 (iquo .u64 v1 (2 : Int)) v2 v3 (isub .i64 v4 (1 : Int)) (List.set v5 (0 + ((Int.toNat v4) * 1)) (IntKind.wrap .u8 (irem v1 (2 : Int))))
        else none
      else none
    else
      q0_0 v2 v3 v5
/-- euphroe/euphroeref03.Row -/
def p56 (N : Nat) (a0 : Int) (a1 : Int) : Option (List Int) :=
  bif ((decide ((0 : Int) ≤ a1)) && ((decide (a1 ≤ a1)) && ((decide ((a1 * ((1 : Nat) : Int)) ≤ (1099511627776 : Int))) && (decide (a1 ≤ (1099511627776 : Int)))))) then
    L56_0 N (fun (y6 : Nat) (y7 : Nat) (y8 : List Int) =>
        bif (decide ((0 + (y6 * 1)) ≤ (List.length y8))) then
          some (List.take y6 (List.drop 0 y8))
        else none) N a0 (Int.toNat a1) (Int.toNat a1) (isub .i64 a1 (1 : Int)) (List.replicate (Int.toNat a1) (0 : Int))
  else none

def L57_0 (N : Nat) (q0_0 : Int → Option Int) : Nat → List Int → Int → Int → Option Int
  | 0, _, _, _ => none
  | n0 + 1, v1, v2, v3 =>
    bif (decide (v3 < (((List.length v1) : Nat) : Int))) then
      match geti v1 v3 with
      | none => none
      | some x4 =>
        L57_0 N q0_0 n0 v1 (iadd .u64 (imul .u64 (2 : Int) v2) (IntKind.wrap .u64 x4)) (iadd .i64 v3 (1 : Int))
    else
      q0_0 v2
/-- euphroe/euphroeref03.Word -/
def p57 (N : Nat) (a0 : List Int) : Option Int :=
  L57_0 N (fun (y5 : Int) =>
      some y5) N a0 (0 : Int) (0 : Int)

def L39_0 (N : Nat) (q0_0 : Int → Int → Option Int) : Nat → Int → Int → Int → Option Int
  | 0, _, _, _ => none
  | n0 + 1, v1, v2, v3 =>
    bif (decide (v3 < (8 : Int))) then
      bif (decide (v3 < (0 : Int))) then
        none
      else
        L39_0 N q0_0 n0 v1 (iadd .u8 v2 (irem (ishr .u8 v1 v3) (2 : Int))) (iadd .i64 v3 (1 : Int))
    else
      q0_0 v1 v2
/-- euphroe/euphroeref03.Odd -/
def p39 (N : Nat) (a0 : Int) : Option Int :=
  L39_0 N (fun (y4 : Int) (y5 : Int) =>
      some (iadd .u8 (isub .u8 y4 (irem y4 (2 : Int))) (irem (iadd .u8 y5 (1 : Int)) (2 : Int)))) N a0 (0 : Int) (1 : Int)

def L36_0 (c56 : Int → Int → Option (List Int)) (c57 : List Int → Option Int) (c39 : Int → Option Int) (N : Nat) (q0_0 : Nat → List Int → Option ((List Int) × Int)) : Nat → List Int → Nat → Int → List Int → Option ((List Int) × Int)
  | 0, _, _, _, _ => none
  | n0 + 1, v1, v2, v3, v4 =>
    bif (decide (v3 < (7 : Int))) then
      match geti v1 v3 with
      | none => none
      | some x5 =>
        match c56 (IntKind.wrap .u64 x5) (8 : Int) with
        | none => none
        | some r6 =>
          bif (((List.length v4) == (v2 * 1)) && ((decide (((v2 + (List.length r6)) * 1) ≤ 1099511627776)) && (decide ((v2 + (List.length r6)) ≤ 1099511627776)))) then
            L36_0 c56 c57 c39 N q0_0 n0 v1 (v2 + (List.length r6)) (iadd .i64 v3 (1 : Int)) (v4 ++ r6)
          else none
    else
      q0_0 v2 v4
def L36_1 (c56 : Int → Int → Option (List Int)) (c57 : List Int → Option Int) (c39 : Int → Option Int) (N : Nat) (q1_2 : Nat → List Int → Option ((List Int) × Int)) : Nat → Nat → Nat → Int → List Int → List Int → Option ((List Int) × Int)
  | 0, _, _, _, _, _ => none
  | n1 + 1, v9, v10, v11, v12, v13 =>
    bif (decide (v11 < (8 : Int))) then
      bif ((decide ((0 : Int) ≤ (iadd .i64 (imul .i64 (7 : Int) v11) (7 : Int)))) && (decide ((iadd .i64 (imul .i64 (7 : Int) v11) (7 : Int)) ≤ ((v9 : Nat) : Int)))) then
        bif ((decide ((0 : Int) ≤ (imul .i64 (7 : Int) v11))) && (decide ((imul .i64 (7 : Int) v11) ≤ (((Int.toNat (iadd .i64 (imul .i64 (7 : Int) v11) (7 : Int))) : Nat) : Int)))) then
          bif (decide (((0 + ((Int.toNat (imul .i64 (7 : Int) v11)) * 1)) + (((Int.toNat (iadd .i64 (imul .i64 (7 : Int) v11) (7 : Int))) - (Int.toNat (imul .i64 (7 : Int) v11))) * 1)) ≤ (List.length v12))) then
            match c57 (List.take ((Int.toNat (iadd .i64 (imul .i64 (7 : Int) v11) (7 : Int))) - (Int.toNat (imul .i64 (7 : Int) v11))) (List.drop (0 + ((Int.toNat (imul .i64 (7 : Int) v11)) * 1)) v12)) with
            | none => none
            | some r14 =>
              match c39 (IntKind.wrap .u8 (imul .u64 (2 : Int) r14)) with
              | none => none
              | some r15 =>
                bif (((List.length v13) == (v10 * 1)) && ((decide (((v10 + 1) * 1) ≤ 1099511627776)) && (decide ((v10 + 1) ≤ 1099511627776)))) then
                  L36_1 c56 c57 c39 N q1_2 n1 v9 (v10 + 1) (iadd .i64 v11 (1 : Int)) v12 (v13 ++ [r15])
                else none
          else none
        else none
      else none
    else
      q1_2 v10 v13
/-- euphroe/euphroeref03.Spread -/
def p36 (c56 : Int → Int → Option (List Int)) (c57 : List Int → Option Int) (c39 : Int → Option Int) (N : Nat) (a0 : List Int) : Option ((List Int) × Int) :=
  bif ((((List.length a0) : Nat) : Int) != (7 : Int)) then
    some (([] : List Int), (1 : Int))
  else
    L36_0 c56 c57 c39 N (fun (y7 : Nat) (y8 : List Int) =>
        L36_1 c56 c57 c39 N (fun (y16 : Nat) (y17 : List Int) =>
            bif (decide ((0 + (y16 * 1)) ≤ (List.length y17))) then
              some ((List.take y16 (List.drop 0 y17)), (0 : Int))
            else none) N y7 0 (0 : Int) y8 ([] : List Int)) N a0 0 (0 : Int) ([] : List Int)

def L50_0 (N : Nat) (q0_0 : Nat → Nat → List Int → Option (List Int)) : Nat → Int → Nat → Nat → Int → List Int → Option (List Int)
  | 0, _, _, _, _, _ => none
  | n0 + 1, v1, v2, v3, v4, v5 =>
    bif (decide (v4 ≥ (0 : Int))) then
      bif ((decide ((0 : Int) ≤ v4)) && (decide (v4 < ((v2 : Nat) : Int)))) then
        bif (decide ((0 + ((Int.toNat v4) * 1)) < (List.length v5))) then
          L50_0 N q0_0 n0 (iquo .u64 v1 (256 : Int)) v2 v3 (isub .i64 v4 (1 : Int)) (List.set v5 (0 + ((Int.toNat v4) * 1)) (IntKind.wrap .u8 (irem v1 (256 : Int))))
        else none
      else none
    else
      q0_0 v2 v3 v5
/-- euphroe/euphroeref01.Big -/
def p50 (N : Nat) (a0 : Int) (a1 : Int) : Option (List Int) :=
  bif ((decide ((0 : Int) ≤ a1)) && ((decide (a1 ≤ a1)) && ((decide ((a1 * ((1 : Nat) : Int)) ≤ (1099511627776 : Int))) && (decide (a1 ≤ (1099511627776 : Int)))))) then
    L50_0 N (fun (y6 : Nat) (y7 : Nat) (y8 : List Int) =>
        bif (decide ((0 + (y6 * 1)) ≤ (List.length y8))) then
          some (List.take y6 (List.drop 0 y8))
        else none) N a0 (Int.toNat a1) (Int.toNat a1) (isub .i64 a1 (1 : Int)) (List.replicate (Int.toNat a1) (0 : Int))
  else none

def L51_0 (N : Nat) (q0_0 : Int → Option Int) : Nat → List Int → Int → Int → Option Int
  | 0, _, _, _ => none
  | n0 + 1, v1, v2, v3 =>
    bif (decide (v3 < (((List.length v1) : Nat) : Int))) then
      match geti v1 v3 with
      | none => none
      | some x4 =>
        L51_0 N q0_0 n0 v1 (iadd .u64 (imul .u64 v2 (256 : Int)) (IntKind.wrap .u64 x4)) (iadd .i64 v3 (1 : Int))
    else
      q0_0 v2
/-- euphroe/euphroeref01.Num -/
def p51 (N : Nat) (a0 : List Int) : Option Int :=
  L51_0 N (fun (y5 : Int) =>
      some y5) N a0 (0 : Int) (0 : Int)

/-- internal/stringslite.IndexByte -/
def p65 (c66 : List UInt8 → Int → Option Int) (N : Nat) (a0 : List UInt8) (a1 : Int) : Option Int :=
  match c66 a0 a1 with
  | none => none
  | some r1 =>
    some r1

/-- strings.IndexByte -/
def p63 (c65 : List UInt8 → Int → Option Int) (N : Nat) (a0 : List UInt8) (a1 : Int) : Option Int :=
  match c65 a0 a1 with
  | none => none
  | some r1 =>
    some r1

/-- euphroe/des.rows -/
def p258 (N : Nat)  : Option ((List UInt8) × (List UInt8) × (List UInt8) × (List UInt8) × (List UInt8) × (List UInt8) × (List UInt8) × (List UInt8)) :=
  some (([(69 : UInt8), (52 : UInt8), (68 : UInt8), (49 : UInt8), (50 : UInt8), (70 : UInt8), (66 : UInt8), (56 : UInt8), (51 : UInt8), (65 : UInt8), (54 : UInt8), (67 : UInt8), (53 : UInt8), (57 : UInt8), (48 : UInt8), (55 : UInt8), (48 : UInt8), (70 : UInt8), (55 : UInt8), (52 : UInt8), (69 : UInt8), (50 : UInt8), (68 : UInt8), (49 : UInt8), (65 : UInt8), (54 : UInt8), (67 : UInt8), (66 : UInt8), (57 : UInt8), (53 : UInt8), (51 : UInt8), (56 : UInt8), (52 : UInt8), (49 : UInt8), (69 : UInt8), (56 : UInt8), (68 : UInt8), (54 : UInt8), (50 : UInt8), (66 : UInt8), (70 : UInt8), (67 : UInt8), (57 : UInt8), (55 : UInt8), (51 : UInt8), (65 : UInt8), (53 : UInt8), (48 : UInt8), (70 : UInt8), (67 : UInt8), (56 : UInt8), (50 : UInt8), (52 : UInt8), (57 : UInt8), (49 : UInt8), (55 : UInt8), (53 : UInt8), (66 : UInt8), (51 : UInt8), (69 : UInt8), (65 : UInt8), (48 : UInt8), (54 : UInt8), (68 : UInt8)] : List UInt8), (([(70 : UInt8), (49 : UInt8), (56 : UInt8), (69 : UInt8), (54 : UInt8), (66 : UInt8), (51 : UInt8), (52 : UInt8), (57 : UInt8), (55 : UInt8), (50 : UInt8), (68 : UInt8), (67 : UInt8), (48 : UInt8), (53 : UInt8), (65 : UInt8), (51 : UInt8), (68 : UInt8), (52 : UInt8), (55 : UInt8), (70 : UInt8), (50 : UInt8), (56 : UInt8), (69 : UInt8), (67 : UInt8), (48 : UInt8), (49 : UInt8), (65 : UInt8), (54 : UInt8), (57 : UInt8), (66 : UInt8), (53 : UInt8), (48 : UInt8), (69 : UInt8), (55 : UInt8), (66 : UInt8), (65 : UInt8), (52 : UInt8), (68 : UInt8), (49 : UInt8), (53 : UInt8), (56 : UInt8), (67 : UInt8), (54 : UInt8), (57 : UInt8), (51 : UInt8), (50 : UInt8), (70 : UInt8), (68 : UInt8), (56 : UInt8), (65 : UInt8), (49 : UInt8), (51 : UInt8), (70 : UInt8), (52 : UInt8), (50 : UInt8), (66 : UInt8), (54 : UInt8), (55 : UInt8), (67 : UInt8), (48 : UInt8), (53 : UInt8), (69 : UInt8), (57 : UInt8)] : List UInt8), (([(65 : UInt8), (48 : UInt8), (57 : UInt8), (69 : UInt8), (54 : UInt8), (51 : UInt8), (70 : UInt8), (53 : UInt8), (49 : UInt8), (68 : UInt8), (67 : UInt8), (55 : UInt8), (66 : UInt8), (52 : UInt8), (50 : UInt8), (56 : UInt8), (68 : UInt8), (55 : UInt8), (48 : UInt8), (57 : UInt8), (51 : UInt8), (52 : UInt8), (54 : UInt8), (65 : UInt8), (50 : UInt8), (56 : UInt8), (53 : UInt8), (69 : UInt8), (67 : UInt8), (66 : UInt8), (70 : UInt8), (49 : UInt8), (68 : UInt8), (54 : UInt8), (52 : UInt8), (57 : UInt8), (56 : UInt8), (70 : UInt8), (51 : UInt8), (48 : UInt8), (66 : UInt8), (49 : UInt8), (50 : UInt8), (67 : UInt8), (53 : UInt8), (65 : UInt8), (69 : UInt8), (55 : UInt8), (49 : UInt8), (65 : UInt8), (68 : UInt8), (48 : UInt8), (54 : UInt8), (57 : UInt8), (56 : UInt8), (55 : UInt8), (52 : UInt8), (70 : UInt8), (69 : UInt8), (51 : UInt8), (66 : UInt8), (53 : UInt8), (50 : UInt8), (67 : UInt8)] : List UInt8), (([(55 : UInt8), (68 : UInt8), (69 : UInt8), (51 : UInt8), (48 : UInt8), (54 : UInt8), (57 : UInt8), (65 : UInt8), (49 : UInt8), (50 : UInt8), (56 : UInt8), (53 : UInt8), (66 : UInt8), (67 : UInt8), (52 : UInt8), (70 : UInt8), (68 : UInt8), (56 : UInt8), (66 : UInt8), (53 : UInt8), (54 : UInt8), (70 : UInt8), (48 : UInt8), (51 : UInt8), (52 : UInt8), (55 : UInt8), (50 : UInt8), (67 : UInt8), (49 : UInt8), (65 : UInt8), (69 : UInt8), (57 : UInt8), (65 : UInt8), (54 : UInt8), (57 : UInt8), (48 : UInt8), (67 : UInt8), (66 : UInt8), (55 : UInt8), (68 : UInt8), (70 : UInt8), (49 : UInt8), (51 : UInt8), (69 : UInt8), (53 : UInt8), (50 : UInt8), (56 : UInt8), (52 : UInt8), (51 : UInt8), (70 : UInt8), (48 : UInt8), (54 : UInt8), (65 : UInt8), (49 : UInt8), (68 : UInt8), (56 : UInt8), (57 : UInt8), (52 : UInt8), (53 : UInt8), (66 : UInt8), (67 : UInt8), (55 : UInt8), (50 : UInt8), (69 : UInt8)] : List UInt8), (([(50 : UInt8), (67 : UInt8), (52 : UInt8), (49 : UInt8), (55 : UInt8), (65 : UInt8), (66 : UInt8), (54 : UInt8), (56 : UInt8), (53 : UInt8), (51 : UInt8), (70 : UInt8), (68 : UInt8), (48 : UInt8), (69 : UInt8), (57 : UInt8), (69 : UInt8), (66 : UInt8), (50 : UInt8), (67 : UInt8), (52 : UInt8), (55 : UInt8), (68 : UInt8), (49 : UInt8), (53 : UInt8), (48 : UInt8), (70 : UInt8), (65 : UInt8), (51 : UInt8), (57 : UInt8), (56 : UInt8), (54 : UInt8), (52 : UInt8), (50 : UInt8), (49 : UInt8), (66 : UInt8), (65 : UInt8), (68 : UInt8), (55 : UInt8), (56 : UInt8), (70 : UInt8), (57 : UInt8), (67 : UInt8), (53 : UInt8), (54 : UInt8), (51 : UInt8), (48 : UInt8), (69 : UInt8), (66 : UInt8), (56 : UInt8), (67 : UInt8), (55 : UInt8), (49 : UInt8), (69 : UInt8), (50 : UInt8), (68 : UInt8), (54 : UInt8), (70 : UInt8), (48 : UInt8), (57 : UInt8), (65 : UInt8), (52 : UInt8), (53 : UInt8), (51 : UInt8)] : List UInt8), (([(67 : UInt8), (49 : UInt8), (65 : UInt8), (70 : UInt8), (57 : UInt8), (50 : UInt8), (54 : UInt8), (56 : UInt8), (48 : UInt8), (68 : UInt8), (51 : UInt8), (52 : UInt8), (69 : UInt8), (55 : UInt8), (53 : UInt8), (66 : UInt8), (65 : UInt8), (70 : UInt8), (52 : UInt8), (50 : UInt8), (55 : UInt8), (67 : UInt8), (57 : UInt8), (53 : UInt8), (54 : UInt8), (49 : UInt8), (68 : UInt8), (69 : UInt8), (48 : UInt8), (66 : UInt8), (51 : UInt8), (56 : UInt8), (57 : UInt8), (69 : UInt8), (70 : UInt8), (53 : UInt8), (50 : UInt8), (56 : UInt8), (67 : UInt8), (51 : UInt8), (55 : UInt8), (48 : UInt8), (52 : UInt8), (65 : UInt8), (49 : UInt8), (68 : UInt8), (66 : UInt8), (54 : UInt8), (52 : UInt8), (51 : UInt8), (50 : UInt8), (67 : UInt8), (57 : UInt8), (53 : UInt8), (70 : UInt8), (65 : UInt8), (66 : UInt8), (69 : UInt8), (49 : UInt8), (55 : UInt8), (54 : UInt8), (48 : UInt8), (56 : UInt8), (68 : UInt8)] : List UInt8), (([(52 : UInt8), (66 : UInt8), (50 : UInt8), (69 : UInt8), (70 : UInt8), (48 : UInt8), (56 : UInt8), (68 : UInt8), (51 : UInt8), (67 : UInt8), (57 : UInt8), (55 : UInt8), (53 : UInt8), (65 : UInt8), (54 : UInt8), (49 : UInt8), (68 : UInt8), (48 : UInt8), (66 : UInt8), (55 : UInt8), (52 : UInt8), (57 : UInt8), (49 : UInt8), (65 : UInt8), (69 : UInt8), (51 : UInt8), (53 : UInt8), (67 : UInt8), (50 : UInt8), (70 : UInt8), (56 : UInt8), (54 : UInt8), (49 : UInt8), (52 : UInt8), (66 : UInt8), (68 : UInt8), (67 : UInt8), (51 : UInt8), (55 : UInt8), (69 : UInt8), (65 : UInt8), (70 : UInt8), (54 : UInt8), (56 : UInt8), (48 : UInt8), (53 : UInt8), (57 : UInt8), (50 : UInt8), (54 : UInt8), (66 : UInt8), (68 : UInt8), (56 : UInt8), (49 : UInt8), (52 : UInt8), (65 : UInt8), (55 : UInt8), (57 : UInt8), (53 : UInt8), (48 : UInt8), (70 : UInt8), (69 : UInt8), (50 : UInt8), (51 : UInt8), (67 : UInt8)] : List UInt8), ([(68 : UInt8), (50 : UInt8), (56 : UInt8), (52 : UInt8), (54 : UInt8), (70 : UInt8), (66 : UInt8), (49 : UInt8), (65 : UInt8), (57 : UInt8), (51 : UInt8), (69 : UInt8), (53 : UInt8), (48 : UInt8), (67 : UInt8), (55 : UInt8), (49 : UInt8), (70 : UInt8), (68 : UInt8), (56 : UInt8), (65 : UInt8), (51 : UInt8), (55 : UInt8), (52 : UInt8), (67 : UInt8), (53 : UInt8), (54 : UInt8), (66 : UInt8), (48 : UInt8), (69 : UInt8), (57 : UInt8), (50 : UInt8), (55 : UInt8), (66 : UInt8), (52 : UInt8), (49 : UInt8), (57 : UInt8), (67 : UInt8), (69 : UInt8), (50 : UInt8), (48 : UInt8), (54 : UInt8), (65 : UInt8), (68 : UInt8), (70 : UInt8), (51 : UInt8), (53 : UInt8), (56 : UInt8), (50 : UInt8), (49 : UInt8), (69 : UInt8), (55 : UInt8), (52 : UInt8), (65 : UInt8), (56 : UInt8), (68 : UInt8), (70 : UInt8), (67 : UInt8), (57 : UInt8), (48 : UInt8), (51 : UInt8), (53 : UInt8), (54 : UInt8), (66 : UInt8)] : List UInt8))))))))

/-- euphroe/des.Box -/
def p245 (c258 : Option ((List UInt8) × (List UInt8) × (List UInt8) × (List UInt8) × (List UInt8) × (List UInt8) × (List UInt8) × (List UInt8))) (c63 : List UInt8 → Int → Option Int) (N : Nat) (a0 : Int) (a1 : Int) : Option Int :=
  bif (decide (a0 < (1 : Int))) then
    some (0 : Int)
  else
    bif (decide (a0 > (8 : Int))) then
      some (0 : Int)
    else
      match c258 with
      | none => none
      | some r1 =>
        bif ((decide ((0 : Int) ≤ (isub .i64 a0 (1 : Int)))) && (decide ((isub .i64 a0 (1 : Int)) < (8 : Int)))) then
          bif (Nat.beq (Int.toNat (isub .i64 a0 (1 : Int))) 0) then
            match geti r1.1 (iadd .u64 (imul .u64 (16 : Int) (ior .u64 (iand .u64 (ishr .u64 a1 (4 : Int)) (2 : Int)) (iand .u64 a1 (1 : Int)))) (iand .u64 (ishr .u64 a1 (1 : Int)) (15 : Int))) with
            | none => none
            | some x2 =>
              match c63 ([(48 : UInt8), (49 : UInt8), (50 : UInt8), (51 : UInt8), (52 : UInt8), (53 : UInt8), (54 : UInt8), (55 : UInt8), (56 : UInt8), (57 : UInt8), (65 : UInt8), (66 : UInt8), (67 : UInt8), (68 : UInt8), (69 : UInt8), (70 : UInt8)] : List UInt8) ((UInt8.toNat x2 : Nat) : Int) with
              | none => none
              | some r3 =>
                some (IntKind.wrap .u64 r3)
          else
            bif (Nat.beq (Int.toNat (isub .i64 a0 (1 : Int))) 1) then
              match geti r1.2.1 (iadd .u64 (imul .u64 (16 : Int) (ior .u64 (iand .u64 (ishr .u64 a1 (4 : Int)) (2 : Int)) (iand .u64 a1 (1 : Int)))) (iand .u64 (ishr .u64 a1 (1 : Int)) (15 : Int))) with
              | none => none
              | some x4 =>
                match c63 ([(48 : UInt8), (49 : UInt8), (50 : UInt8), (51 : UInt8), (52 : UInt8), (53 : UInt8), (54 : UInt8), (55 : UInt8), (56 : UInt8), (57 : UInt8), (65 : UInt8), (66 : UInt8), (67 : UInt8), (68 : UInt8), (69 : UInt8), (70 : UInt8)] : List UInt8) ((UInt8.toNat x4 : Nat) : Int) with
                | none => none
                | some r5 =>
                  some (IntKind.wrap .u64 r5)
            else
              bif (Nat.beq (Int.toNat (isub .i64 a0 (1 : Int))) 2) then
                match geti r1.2.2.1 (iadd .u64 (imul .u64 (16 : Int) (ior .u64 (iand .u64 (ishr .u64 a1 (4 : Int)) (2 : Int)) (iand .u64 a1 (1 : Int)))) (iand .u64 (ishr .u64 a1 (1 : Int)) (15 : Int))) with
                | none => none
                | some x6 =>
                  match c63 ([(48 : UInt8), (49 : UInt8), (50 : UInt8), (51 : UInt8), (52 : UInt8), (53 : UInt8), (54 : UInt8), (55 : UInt8), (56 : UInt8), (57 : UInt8), (65 : UInt8), (66 : UInt8), (67 : UInt8), (68 : UInt8), (69 : UInt8), (70 : UInt8)] : List UInt8) ((UInt8.toNat x6 : Nat) : Int) with
                  | none => none
                  | some r7 =>
                    some (IntKind.wrap .u64 r7)
              else
                bif (Nat.beq (Int.toNat (isub .i64 a0 (1 : Int))) 3) then
                  match geti r1.2.2.2.1 (iadd .u64 (imul .u64 (16 : Int) (ior .u64 (iand .u64 (ishr .u64 a1 (4 : Int)) (2 : Int)) (iand .u64 a1 (1 : Int)))) (iand .u64 (ishr .u64 a1 (1 : Int)) (15 : Int))) with
                  | none => none
                  | some x8 =>
                    match c63 ([(48 : UInt8), (49 : UInt8), (50 : UInt8), (51 : UInt8), (52 : UInt8), (53 : UInt8), (54 : UInt8), (55 : UInt8), (56 : UInt8), (57 : UInt8), (65 : UInt8), (66 : UInt8), (67 : UInt8), (68 : UInt8), (69 : UInt8), (70 : UInt8)] : List UInt8) ((UInt8.toNat x8 : Nat) : Int) with
                    | none => none
                    | some r9 =>
                      some (IntKind.wrap .u64 r9)
                else
                  bif (Nat.beq (Int.toNat (isub .i64 a0 (1 : Int))) 4) then
                    match geti r1.2.2.2.2.1 (iadd .u64 (imul .u64 (16 : Int) (ior .u64 (iand .u64 (ishr .u64 a1 (4 : Int)) (2 : Int)) (iand .u64 a1 (1 : Int)))) (iand .u64 (ishr .u64 a1 (1 : Int)) (15 : Int))) with
                    | none => none
                    | some x10 =>
                      match c63 ([(48 : UInt8), (49 : UInt8), (50 : UInt8), (51 : UInt8), (52 : UInt8), (53 : UInt8), (54 : UInt8), (55 : UInt8), (56 : UInt8), (57 : UInt8), (65 : UInt8), (66 : UInt8), (67 : UInt8), (68 : UInt8), (69 : UInt8), (70 : UInt8)] : List UInt8) ((UInt8.toNat x10 : Nat) : Int) with
                      | none => none
                      | some r11 =>
                        some (IntKind.wrap .u64 r11)
                  else
                    bif (Nat.beq (Int.toNat (isub .i64 a0 (1 : Int))) 5) then
                      match geti r1.2.2.2.2.2.1 (iadd .u64 (imul .u64 (16 : Int) (ior .u64 (iand .u64 (ishr .u64 a1 (4 : Int)) (2 : Int)) (iand .u64 a1 (1 : Int)))) (iand .u64 (ishr .u64 a1 (1 : Int)) (15 : Int))) with
                      | none => none
                      | some x12 =>
                        match c63 ([(48 : UInt8), (49 : UInt8), (50 : UInt8), (51 : UInt8), (52 : UInt8), (53 : UInt8), (54 : UInt8), (55 : UInt8), (56 : UInt8), (57 : UInt8), (65 : UInt8), (66 : UInt8), (67 : UInt8), (68 : UInt8), (69 : UInt8), (70 : UInt8)] : List UInt8) ((UInt8.toNat x12 : Nat) : Int) with
                        | none => none
                        | some r13 =>
                          some (IntKind.wrap .u64 r13)
                    else
                      bif (Nat.beq (Int.toNat (isub .i64 a0 (1 : Int))) 6) then
                        match geti r1.2.2.2.2.2.2.1 (iadd .u64 (imul .u64 (16 : Int) (ior .u64 (iand .u64 (ishr .u64 a1 (4 : Int)) (2 : Int)) (iand .u64 a1 (1 : Int)))) (iand .u64 (ishr .u64 a1 (1 : Int)) (15 : Int))) with
                        | none => none
                        | some x14 =>
                          match c63 ([(48 : UInt8), (49 : UInt8), (50 : UInt8), (51 : UInt8), (52 : UInt8), (53 : UInt8), (54 : UInt8), (55 : UInt8), (56 : UInt8), (57 : UInt8), (65 : UInt8), (66 : UInt8), (67 : UInt8), (68 : UInt8), (69 : UInt8), (70 : UInt8)] : List UInt8) ((UInt8.toNat x14 : Nat) : Int) with
                          | none => none
                          | some r15 =>
                            some (IntKind.wrap .u64 r15)
                      else
                        bif (Nat.beq (Int.toNat (isub .i64 a0 (1 : Int))) 7) then
                          match geti r1.2.2.2.2.2.2.2 (iadd .u64 (imul .u64 (16 : Int) (ior .u64 (iand .u64 (ishr .u64 a1 (4 : Int)) (2 : Int)) (iand .u64 a1 (1 : Int)))) (iand .u64 (ishr .u64 a1 (1 : Int)) (15 : Int))) with
                          | none => none
                          | some x16 =>
                            match c63 ([(48 : UInt8), (49 : UInt8), (50 : UInt8), (51 : UInt8), (52 : UInt8), (53 : UInt8), (54 : UInt8), (55 : UInt8), (56 : UInt8), (57 : UInt8), (65 : UInt8), (66 : UInt8), (67 : UInt8), (68 : UInt8), (69 : UInt8), (70 : UInt8)] : List UInt8) ((UInt8.toNat x16 : Nat) : Int) with
                            | none => none
                            | some r17 =>
                              some (IntKind.wrap .u64 r17)
                        else none
        else none

/-- euphroe/euphroeref08.box -/
def p271 (N : Nat) (a0 : Int) : Option (List Int) :=
  bif (a0 == (1 : Int)) then
    some ([(14 : Int), (4 : Int), (13 : Int), (1 : Int), (2 : Int), (15 : Int), (11 : Int), (8 : Int), (3 : Int), (10 : Int), (6 : Int), (12 : Int), (5 : Int), (9 : Int), (0 : Int), (7 : Int), (0 : Int), (15 : Int), (7 : Int), (4 : Int), (14 : Int), (2 : Int), (13 : Int), (1 : Int), (10 : Int), (6 : Int), (12 : Int), (11 : Int), (9 : Int), (5 : Int), (3 : Int), (8 : Int), (4 : Int), (1 : Int), (14 : Int), (8 : Int), (13 : Int), (6 : Int), (2 : Int), (11 : Int), (15 : Int), (12 : Int), (9 : Int), (7 : Int), (3 : Int), (10 : Int), (5 : Int), (0 : Int), (15 : Int), (12 : Int), (8 : Int), (2 : Int), (4 : Int), (9 : Int), (1 : Int), (7 : Int), (5 : Int), (11 : Int), (3 : Int), (14 : Int), (10 : Int), (0 : Int), (6 : Int), (13 : Int)] : List Int)
  else
    bif (a0 == (2 : Int)) then
      some ([(15 : Int), (1 : Int), (8 : Int), (14 : Int), (6 : Int), (11 : Int), (3 : Int), (4 : Int), (9 : Int), (7 : Int), (2 : Int), (13 : Int), (12 : Int), (0 : Int), (5 : Int), (10 : Int), (3 : Int), (13 : Int), (4 : Int), (7 : Int), (15 : Int), (2 : Int), (8 : Int), (14 : Int), (12 : Int), (0 : Int), (1 : Int), (10 : Int), (6 : Int), (9 : Int), (11 : Int), (5 : Int), (0 : Int), (14 : Int), (7 : Int), (11 : Int), (10 : Int), (4 : Int), (13 : Int), (1 : Int), (5 : Int), (8 : Int), (12 : Int), (6 : Int), (9 : Int), (3 : Int), (2 : Int), (15 : Int), (13 : Int), (8 : Int), (10 : Int), (1 : Int), (3 : Int), (15 : Int), (4 : Int), (2 : Int), (11 : Int), (6 : Int), (7 : Int), (12 : Int), (0 : Int), (5 : Int), (14 : Int), (9 : Int)] : List Int)
    else
      bif (a0 == (3 : Int)) then
        some ([(10 : Int), (0 : Int), (9 : Int), (14 : Int), (6 : Int), (3 : Int), (15 : Int), (5 : Int), (1 : Int), (13 : Int), (12 : Int), (7 : Int), (11 : Int), (4 : Int), (2 : Int), (8 : Int), (13 : Int), (7 : Int), (0 : Int), (9 : Int), (3 : Int), (4 : Int), (6 : Int), (10 : Int), (2 : Int), (8 : Int), (5 : Int), (14 : Int), (12 : Int), (11 : Int), (15 : Int), (1 : Int), (13 : Int), (6 : Int), (4 : Int), (9 : Int), (8 : Int), (15 : Int), (3 : Int), (0 : Int), (11 : Int), (1 : Int), (2 : Int), (12 : Int), (5 : Int), (10 : Int), (14 : Int), (7 : Int), (1 : Int), (10 : Int), (13 : Int), (0 : Int), (6 : Int), (9 : Int), (8 : Int), (7 : Int), (4 : Int), (15 : Int), (14 : Int), (3 : Int), (11 : Int), (5 : Int), (2 : Int), (12 : Int)] : List Int)
      else
        bif (a0 == (4 : Int)) then
          some ([(7 : Int), (13 : Int), (14 : Int), (3 : Int), (0 : Int), (6 : Int), (9 : Int), (10 : Int), (1 : Int), (2 : Int), (8 : Int), (5 : Int), (11 : Int), (12 : Int), (4 : Int), (15 : Int), (13 : Int), (8 : Int), (11 : Int), (5 : Int), (6 : Int), (15 : Int), (0 : Int), (3 : Int), (4 : Int), (7 : Int), (2 : Int), (12 : Int), (1 : Int), (10 : Int), (14 : Int), (9 : Int), (10 : Int), (6 : Int), (9 : Int), (0 : Int), (12 : Int), (11 : Int), (7 : Int), (13 : Int), (15 : Int), (1 : Int), (3 : Int), (14 : Int), (5 : Int), (2 : Int), (8 : Int), (4 : Int), (3 : Int), (15 : Int), (0 : Int), (6 : Int), (10 : Int), (1 : Int), (13 : Int), (8 : Int), (9 : Int), (4 : Int), (5 : Int), (11 : Int), (12 : Int), (7 : Int), (2 : Int), (14 : Int)] : List Int)
        else
          bif (a0 == (5 : Int)) then
            some ([(2 : Int), (12 : Int), (4 : Int), (1 : Int), (7 : Int), (10 : Int), (11 : Int), (6 : Int), (8 : Int), (5 : Int), (3 : Int), (15 : Int), (13 : Int), (0 : Int), (14 : Int), (9 : Int), (14 : Int), (11 : Int), (2 : Int), (12 : Int), (4 : Int), (7 : Int), (13 : Int), (1 : Int), (5 : Int), (0 : Int), (15 : Int), (10 : Int), (3 : Int), (9 : Int), (8 : Int), (6 : Int), (4 : Int), (2 : Int), (1 : Int), (11 : Int), (10 : Int), (13 : Int), (7 : Int), (8 : Int), (15 : Int), (9 : Int), (12 : Int), (5 : Int), (6 : Int), (3 : Int), (0 : Int), (14 : Int), (11 : Int), (8 : Int), (12 : Int), (7 : Int), (1 : Int), (14 : Int), (2 : Int), (13 : Int), (6 : Int), (15 : Int), (0 : Int), (9 : Int), (10 : Int), (4 : Int), (5 : Int), (3 : Int)] : List Int)
          else
            bif (a0 == (6 : Int)) then
              some ([(12 : Int), (1 : Int), (10 : Int), (15 : Int), (9 : Int), (2 : Int), (6 : Int), (8 : Int), (0 : Int), (13 : Int), (3 : Int), (4 : Int), (14 : Int), (7 : Int), (5 : Int), (11 : Int), (10 : Int), (15 : Int), (4 : Int), (2 : Int), (7 : Int), (12 : Int), (9 : Int), (5 : Int), (6 : Int), (1 : Int), (13 : Int), (14 : Int), (0 : Int), (11 : Int), (3 : Int), (8 : Int), (9 : Int), (14 : Int), (15 : Int), (5 : Int), (2 : Int), (8 : Int), (12 : Int), (3 : Int), (7 : Int), (0 : Int), (4 : Int), (10 : Int), (1 : Int), (13 : Int), (11 : Int), (6 : Int), (4 : Int), (3 : Int), (2 : Int), (12 : Int), (9 : Int), (5 : Int), (15 : Int), (10 : Int), (11 : Int), (14 : Int), (1 : Int), (7 : Int), (6 : Int), (0 : Int), (8 : Int), (13 : Int)] : List Int)
            else
              bif (a0 == (7 : Int)) then
                some ([(4 : Int), (11 : Int), (2 : Int), (14 : Int), (15 : Int), (0 : Int), (8 : Int), (13 : Int), (3 : Int), (12 : Int), (9 : Int), (7 : Int), (5 : Int), (10 : Int), (6 : Int), (1 : Int), (13 : Int), (0 : Int), (11 : Int), (7 : Int), (4 : Int), (9 : Int), (1 : Int), (10 : Int), (14 : Int), (3 : Int), (5 : Int), (12 : Int), (2 : Int), (15 : Int), (8 : Int), (6 : Int), (1 : Int), (4 : Int), (11 : Int), (13 : Int), (12 : Int), (3 : Int), (7 : Int), (14 : Int), (10 : Int), (15 : Int), (6 : Int), (8 : Int), (0 : Int), (5 : Int), (9 : Int), (2 : Int), (6 : Int), (11 : Int), (13 : Int), (8 : Int), (1 : Int), (4 : Int), (10 : Int), (7 : Int), (9 : Int), (5 : Int), (0 : Int), (15 : Int), (14 : Int), (2 : Int), (3 : Int), (12 : Int)] : List Int)
              else
                bif (a0 == (8 : Int)) then
                  some ([(13 : Int), (2 : Int), (8 : Int), (4 : Int), (6 : Int), (15 : Int), (11 : Int), (1 : Int), (10 : Int), (9 : Int), (3 : Int), (14 : Int), (5 : Int), (0 : Int), (12 : Int), (7 : Int), (1 : Int), (15 : Int), (13 : Int), (8 : Int), (10 : Int), (3 : Int), (7 : Int), (4 : Int), (12 : Int), (5 : Int), (6 : Int), (11 : Int), (0 : Int), (14 : Int), (9 : Int), (2 : Int), (7 : Int), (11 : Int), (4 : Int), (1 : Int), (9 : Int), (12 : Int), (14 : Int), (2 : Int), (0 : Int), (6 : Int), (10 : Int), (13 : Int), (15 : Int), (3 : Int), (5 : Int), (8 : Int), (2 : Int), (1 : Int), (14 : Int), (7 : Int), (4 : Int), (10 : Int), (8 : Int), (13 : Int), (15 : Int), (12 : Int), (9 : Int), (0 : Int), (3 : Int), (5 : Int), (6 : Int), (11 : Int)] : List Int)
                else
                  some ([(0 : Int), (0 : Int), (0 : Int), (0 : Int), (0 : Int), (0 : Int), (0 : Int), (0 : Int), (0 : Int), (0 : Int), (0 : Int), (0 : Int), (0 : Int), (0 : Int), (0 : Int), (0 : Int), (0 : Int), (0 : Int), (0 : Int), (0 : Int), (0 : Int), (0 : Int), (0 : Int), (0 : Int), (0 : Int), (0 : Int), (0 : Int), (0 : Int), (0 : Int), (0 : Int), (0 : Int), (0 : Int), (0 : Int), (0 : Int), (0 : Int), (0 : Int), (0 : Int), (0 : Int), (0 : Int), (0 : Int), (0 : Int), (0 : Int), (0 : Int), (0 : Int), (0 : Int), (0 : Int), (0 : Int), (0 : Int), (0 : Int), (0 : Int), (0 : Int), (0 : Int), (0 : Int), (0 : Int), (0 : Int), (0 : Int), (0 : Int), (0 : Int), (0 : Int), (0 : Int), (0 : Int), (0 : Int), (0 : Int), (0 : Int)] : List Int)

/-- euphroe/euphroeref08.digit -/
def p259 (c57 : List Int → Option Int) (c271 : Int → Option (List Int)) (N : Nat) (a0 : Int) (a1 : List Int) : Option Int :=
  match geti a1 (0 : Int) with
  | none => none
  | some x1 =>
    match geti a1 (5 : Int) with
    | none => none
    | some x2 =>
      bif (decide ((5 : Int) ≤ (((List.length a1) : Nat) : Int))) then
        match c57 (List.take 4 (List.drop 1 a1)) with
        | none => none
        | some r3 =>
          match c271 a0 with
          | none => none
          | some r4 =>
            match geti r4 (iadd .i64 (imul .i64 (16 : Int) (iadd .i64 (imul .i64 (2 : Int) (IntKind.wrap .i64 x1)) (IntKind.wrap .i64 x2))) (IntKind.wrap .i64 r3)) with
            | none => none
            | some x5 =>
              some x5
      else none

/-- euphroe/euphroeref08.Box -/
def p246 (c56 : Int → Int → Option (List Int)) (c259 : Int → List Int → Option Int) (N : Nat) (a0 : Int) (a1 : Int) : Option Int :=
  match c56 a1 (6 : Int) with
  | none => none
  | some r1 =>
    match c259 a0 r1 with
    | none => none
    | some r2 =>
      some (IntKind.wrap .u64 r2)

def L272_0 (N : Nat) (q0_0 : Nat → List Int → Option (List Int)) : Nat → Int → Nat → Int → List Int → Option (List Int)
  | 0, _, _, _, _ => none
  | n0 + 1, v1, v2, v3, v4 =>
    bif (decide (v3 ≥ v1)) then
      bif (((List.length v4) == (v2 * 1)) && ((decide (((v2 + 1) * 8) ≤ 1099511627776)) && (decide ((v2 + 1) ≤ 1099511627776)))) then
        L272_0 N q0_0 n0 v1 (v2 + 1) (isub .i64 v3 (8 : Int)) (v4 ++ [v3])
      else none
    else
      q0_0 v2 v4
/-- euphroe/des.down -/
def p272 (N : Nat) (a0 : Int) (a1 : Int) : Option (List Int) :=
  L272_0 N (fun (y5 : Nat) (y6 : List Int) =>
      bif (decide ((0 + (y5 * 1)) ≤ (List.length y6))) then
        some (List.take y5 (List.drop 0 y6))
      else none) N a1 0 a0 ([] : List Int)

/-- euphroe/des.ofKeys -/
def p261 (c272 : Int → Int → Option (List Int)) (c2 : List (List Int) → Option (List Int)) (N : Nat)  : Option (List Int) :=
  match c272 (57 : Int) (1 : Int) with
  | none => none
  | some r1 =>
    match c272 (58 : Int) (2 : Int) with
    | none => none
    | some r2 =>
      match c272 (59 : Int) (3 : Int) with
      | none => none
      | some r3 =>
        match c272 (60 : Int) (36 : Int) with
        | none => none
        | some r4 =>
          match c272 (63 : Int) (7 : Int) with
          | none => none
          | some r5 =>
            match c272 (62 : Int) (6 : Int) with
            | none => none
            | some r6 =>
              match c272 (61 : Int) (5 : Int) with
              | none => none
              | some r7 =>
                match c272 (28 : Int) (4 : Int) with
                | none => none
                | some r8 =>
                  match c2 ([r1, r2, r3, r4, r5, r6, r7, r8] : List (List Int)) with
                  | none => none
                  | some r9 =>
                    bif (decide ((0 + ((List.length r9) * 1)) ≤ (List.length r9))) then
                      some (List.take (List.length r9) (List.drop 0 r9))
                    else none

/-- euphroe/des.by -/
def p260 (c27 : Int → Int → List Int → Option (Int × Int)) (N : Nat) (a0 : Int) (a1 : Int) (a2 : List Int) : Option Int :=
  match c27 a0 a1 a2 with
  | none => none
  | some r1 =>
    some r1.1

/-- euphroe/des.turns -/
def p262 (N : Nat) (a0 : Int) : Option Int :=
  bif (a0 == (0 : Int)) then
    bif (a0 == (0 : Int)) then
      some (1 : Int)
    else
      some (2 : Int)
  else
    bif (a0 == (1 : Int)) then
      bif (a0 == (1 : Int)) then
        some (1 : Int)
      else
        some (2 : Int)
    else
      bif (a0 == (8 : Int)) then
        bif (a0 == (8 : Int)) then
          some (1 : Int)
        else
          some (2 : Int)
      else
        bif (a0 == (15 : Int)) then
          some (1 : Int)
        else
          some (2 : Int)

/-- euphroe/des.ofRounds -/
def p263 (N : Nat)  : Option (List Int) :=
  some ([(14 : Int), (17 : Int), (11 : Int), (24 : Int), (1 : Int), (5 : Int), (3 : Int), (28 : Int), (15 : Int), (6 : Int), (21 : Int), (10 : Int), (23 : Int), (19 : Int), (12 : Int), (4 : Int), (26 : Int), (8 : Int), (16 : Int), (7 : Int), (27 : Int), (20 : Int), (13 : Int), (2 : Int), (41 : Int), (52 : Int), (31 : Int), (37 : Int), (47 : Int), (55 : Int), (30 : Int), (40 : Int), (51 : Int), (45 : Int), (33 : Int), (48 : Int), (44 : Int), (49 : Int), (39 : Int), (56 : Int), (34 : Int), (53 : Int), (46 : Int), (42 : Int), (50 : Int), (36 : Int), (29 : Int), (32 : Int)] : List Int)

def L247_0 (c261 : Option (List Int)) (c260 : Int → Int → List Int → Option Int) (c31 : Int → Int → Int → Option (Int × Int × Int)) (c262 : Int → Option Int) (c29 : Int → Int → Int → Option (Int × Int)) (c263 : Option (List Int)) (N : Nat) (q0_0 : List Int → List Int → Option (List Int)) : Nat → Int → Int → Int → List Int → List Int → Option (List Int)
  | 0, _, _, _, _, _ => none
  | n0 + 1, v4, v5, v6, v7, v8 =>
    bif (decide (v6 < (16 : Int))) then
      match c262 v6 with
      | none => none
      | some r9 =>
        match c29 v4 (28 : Int) r9 with
        | none => none
        | some r10 =>
          match c262 v6 with
          | none => none
          | some r11 =>
            match c29 v5 (28 : Int) r11 with
            | none => none
            | some r12 =>
              match c263 with
              | none => none
              | some r13 =>
                match c260 (ior .u64 (ishl .u64 r10.1 (28 : Int)) r12.1) (56 : Int) r13 with
                | none => none
                | some r14 =>
                  bif ((decide ((0 : Int) ≤ v6)) && (decide (v6 < (16 : Int)))) then
                    bif (decide ((0 + ((Int.toNat v6) * 1)) < (List.length v8))) then
                      L247_0 c261 c260 c31 c262 c29 c263 N q0_0 n0 r10.1 r12.1 (iadd .i64 v6 (1 : Int)) v7 (List.set v8 (0 + ((Int.toNat v6) * 1)) r14)
                    else none
                  else none
    else
      q0_0 v7 v8
/-- euphroe/des.Keys -/
def p247 (c261 : Option (List Int)) (c260 : Int → Int → List Int → Option Int) (c31 : Int → Int → Int → Option (Int × Int × Int)) (c262 : Int → Option Int) (c29 : Int → Int → Int → Option (Int × Int)) (c263 : Option (List Int)) (N : Nat) (a0 : Int) : Option (List Int) :=
  match c261 with
  | none => none
  | some r1 =>
    match c260 a0 (64 : Int) r1 with
    | none => none
    | some r2 =>
      match c31 r2 (56 : Int) (28 : Int) with
      | none => none
      | some r3 =>
        L247_0 c261 c260 c31 c262 c29 c263 N (fun (y15 : List Int) (y16 : List Int) =>
            bif (decide (16 ≤ (List.length y16))) then
              bif ((List.length (List.take 16 (List.drop 0 y16))) == 16) then
                bif (decide ((0 + (List.length (List.take 16 (List.drop 0 y16)))) ≤ (List.length y15))) then
                  bif (decide (16 ≤ (List.length (((List.take 0 y15) ++ (List.take 16 (List.drop 0 y16))) ++ (List.drop (0 + (List.length (List.take 16 (List.drop 0 y16)))) y15))))) then
                    some (List.take 16 (List.drop 0 (((List.take 0 y15) ++ (List.take 16 (List.drop 0 y16))) ++ (List.drop (0 + (List.length (List.take 16 (List.drop 0 y16)))) y15))))
                  else none
                else none
              else none
            else none) N r3.1 r3.2.1 (0 : Int) ([(0 : Int), (0 : Int), (0 : Int), (0 : Int), (0 : Int), (0 : Int), (0 : Int), (0 : Int), (0 : Int), (0 : Int), (0 : Int), (0 : Int), (0 : Int), (0 : Int), (0 : Int), (0 : Int)] : List Int) ([(0 : Int), (0 : Int), (0 : Int), (0 : Int), (0 : Int), (0 : Int), (0 : Int), (0 : Int), (0 : Int), (0 : Int), (0 : Int), (0 : Int), (0 : Int), (0 : Int), (0 : Int), (0 : Int)] : List Int)

/-- euphroe/euphroeref08.ofKeys -/
def p274 (N : Nat)  : Option (List Int) :=
  some ([(57 : Int), (49 : Int), (41 : Int), (33 : Int), (25 : Int), (17 : Int), (9 : Int), (1 : Int), (58 : Int), (50 : Int), (42 : Int), (34 : Int), (26 : Int), (18 : Int), (10 : Int), (2 : Int), (59 : Int), (51 : Int), (43 : Int), (35 : Int), (27 : Int), (19 : Int), (11 : Int), (3 : Int), (60 : Int), (52 : Int), (44 : Int), (36 : Int), (63 : Int), (55 : Int), (47 : Int), (39 : Int), (31 : Int), (23 : Int), (15 : Int), (7 : Int), (62 : Int), (54 : Int), (46 : Int), (38 : Int), (30 : Int), (22 : Int), (14 : Int), (6 : Int), (61 : Int), (53 : Int), (45 : Int), (37 : Int), (29 : Int), (21 : Int), (13 : Int), (5 : Int), (28 : Int), (20 : Int), (12 : Int), (4 : Int)] : List Int)

def L273_0 (N : Nat) (q0_0 : Nat → List Int → Option (List Int)) : Nat → List Int → List Int → Nat → Int → List Int → Option (List Int)
  | 0, _, _, _, _, _ => none
  | n0 + 1, v1, v2, v3, v4, v5 =>
    bif (decide (v4 < (((List.length v2) : Nat) : Int))) then
      match geti v2 v4 with
      | none => none
      | some x6 =>
        match geti v1 (isub .i64 x6 (1 : Int)) with
        | none => none
        | some x7 =>
          bif (((List.length v5) == (v3 * 1)) && ((decide (((v3 + 1) * 1) ≤ 1099511627776)) && (decide ((v3 + 1) ≤ 1099511627776)))) then
            L273_0 N q0_0 n0 v1 v2 (v3 + 1) (iadd .i64 v4 (1 : Int)) (v5 ++ [x7])
          else none
    else
      q0_0 v3 v5
/-- euphroe/euphroeref08.by -/
def p273 (N : Nat) (a0 : List Int) (a1 : List Int) : Option (List Int) :=
  L273_0 N (fun (y8 : Nat) (y9 : List Int) =>
      bif (decide ((0 + (y8 * 1)) ≤ (List.length y9))) then
        some (List.take y8 (List.drop 0 y9))
      else none) N a0 a1 0 (0 : Int) ([] : List Int)

/-- euphroe/euphroeref08.ofRounds -/
def p275 (N : Nat)  : Option (List Int) :=
  some ([(14 : Int), (17 : Int), (11 : Int), (24 : Int), (1 : Int), (5 : Int), (3 : Int), (28 : Int), (15 : Int), (6 : Int), (21 : Int), (10 : Int), (23 : Int), (19 : Int), (12 : Int), (4 : Int), (26 : Int), (8 : Int), (16 : Int), (7 : Int), (27 : Int), (20 : Int), (13 : Int), (2 : Int), (41 : Int), (52 : Int), (31 : Int), (37 : Int), (47 : Int), (55 : Int), (30 : Int), (40 : Int), (51 : Int), (45 : Int), (33 : Int), (48 : Int), (44 : Int), (49 : Int), (39 : Int), (56 : Int), (34 : Int), (53 : Int), (46 : Int), (42 : Int), (50 : Int), (36 : Int), (29 : Int), (32 : Int)] : List Int)

def L264_0 (c56 : Int → Int → Option (List Int)) (c274 : Option (List Int)) (c273 : List Int → List Int → Option (List Int)) (c275 : Option (List Int)) (N : Nat) (q0_0 : Nat → List V → Option (List (List Int))) : Nat → List Int → List Int → Nat → Int → List V → Option (List (List Int))
  | 0, _, _, _, _, _ => none
  | n0 + 1, v4, v5, v6, v7, v8 =>
    bif (decide (v7 ≤ (16 : Int))) then
      bif (v7 == (1 : Int)) then
        bif (decide ((1 : Int) ≤ (((List.length v4) : Nat) : Int))) then
          bif ((decide (((List.length (List.drop 1 v4)) * 1) ≤ 1099511627776)) && (decide ((List.length (List.drop 1 v4)) ≤ 1099511627776))) then
            bif (decide ((1 : Int) ≤ (((List.length v4) : Nat) : Int))) then
              bif (((List.length (List.drop 1 v4)) == ((List.length (List.drop 1 v4)) * 1)) && ((decide ((((List.length (List.drop 1 v4)) + (List.length (List.take 1 v4))) * 1) ≤ 1099511627776)) && (decide (((List.length (List.drop 1 v4)) + (List.length (List.take 1 v4))) ≤ 1099511627776)))) then
                bif (decide ((1 : Int) ≤ (((List.length v5) : Nat) : Int))) then
                  bif ((decide (((List.length (List.drop 1 v5)) * 1) ≤ 1099511627776)) && (decide ((List.length (List.drop 1 v5)) ≤ 1099511627776))) then
                    bif (decide ((1 : Int) ≤ (((List.length v5) : Nat) : Int))) then
                      bif (((List.length (List.drop 1 v5)) == ((List.length (List.drop 1 v5)) * 1)) && ((decide ((((List.length (List.drop 1 v5)) + (List.length (List.take 1 v5))) * 1) ≤ 1099511627776)) && (decide (((List.length (List.drop 1 v5)) + (List.length (List.take 1 v5))) ≤ 1099511627776)))) then
                        bif (decide ((0 + (((List.length (List.drop 1 v4)) + (List.length (List.take 1 v4))) * 1)) ≤ (List.length ((List.drop 1 v4) ++ (List.take 1 v4))))) then
                          bif ((decide ((((List.length (List.drop 1 v4)) + (List.length (List.take 1 v4))) * 1) ≤ 1099511627776)) && (decide (((List.length (List.drop 1 v4)) + (List.length (List.take 1 v4))) ≤ 1099511627776))) then
                            bif (decide ((0 + (((List.length (List.drop 1 v5)) + (List.length (List.take 1 v5))) * 1)) ≤ (List.length ((List.drop 1 v5) ++ (List.take 1 v5))))) then
                              bif (((List.length (List.take (((List.length (List.drop 1 v4)) + (List.length (List.take 1 v4))) * 1) (List.drop 0 ((List.drop 1 v4) ++ (List.take 1 v4))))) == (((List.length (List.drop 1 v4)) + (List.length (List.take 1 v4))) * 1)) && ((decide (((((List.length (List.drop 1 v4)) + (List.length (List.take 1 v4))) + ((List.length (List.drop 1 v5)) + (List.length (List.take 1 v5)))) * 1) ≤ 1099511627776)) && (decide ((((List.length (List.drop 1 v4)) + (List.length (List.take 1 v4))) + ((List.length (List.drop 1 v5)) + (List.length (List.take 1 v5)))) ≤ 1099511627776)))) then
                                match c275 with
                                | none => none
                                | some r9 =>
                                  bif (decide ((0 + ((((List.length (List.drop 1 v4)) + (List.length (List.take 1 v4))) + ((List.length (List.drop 1 v5)) + (List.length (List.take 1 v5)))) * 1)) ≤ (List.length ((List.take (((List.length (List.drop 1 v4)) + (List.length (List.take 1 v4))) * 1) (List.drop 0 ((List.drop 1 v4) ++ (List.take 1 v4)))) ++ (List.take (((List.length (List.drop 1 v5)) + (List.length (List.take 1 v5))) * 1) (List.drop 0 ((List.drop 1 v5) ++ (List.take 1 v5)))))))) then
                                    match c273 (List.take (((List.length (List.drop 1 v4)) + (List.length (List.take 1 v4))) + ((List.length (List.drop 1 v5)) + (List.length (List.take 1 v5)))) (List.drop 0 ((List.take (((List.length (List.drop 1 v4)) + (List.length (List.take 1 v4))) * 1) (List.drop 0 ((List.drop 1 v4) ++ (List.take 1 v4)))) ++ (List.take (((List.length (List.drop 1 v5)) + (List.length (List.take 1 v5))) * 1) (List.drop 0 ((List.drop 1 v5) ++ (List.take 1 v5))))))) r9 with
                                    | none => none
                                    | some r10 =>
                                      bif (((List.length v8) == (v6 * 1)) && ((decide (((v6 + 1) * 24) ≤ 1099511627776)) && (decide ((v6 + 1) ≤ 1099511627776)))) then
                                        bif (decide ((0 + (((List.length (List.drop 1 v4)) + (List.length (List.take 1 v4))) * 1)) ≤ (List.length ((List.drop 1 v4) ++ (List.take 1 v4))))) then
                                          bif (decide ((0 + (((List.length (List.drop 1 v5)) + (List.length (List.take 1 v5))) * 1)) ≤ (List.length ((List.drop 1 v5) ++ (List.take 1 v5))))) then
                                            L264_0 c56 c274 c273 c275 N q0_0 n0 (List.take ((List.length (List.drop 1 v4)) + (List.length (List.take 1 v4))) (List.drop 0 ((List.drop 1 v4) ++ (List.take 1 v4)))) (List.take ((List.length (List.drop 1 v5)) + (List.length (List.take 1 v5))) (List.drop 0 ((List.drop 1 v5) ++ (List.take 1 v5)))) (v6 + 1) (iadd .i64 v7 (1 : Int)) ((v8 ++ [(V.tb (Sh.int .u8) r10)]) : List V)
                                          else none
                                        else none
                                      else none
                                  else none
                              else none
                            else none
                          else none
                        else none
                      else none
                    else none
                  else none
                else none
              else none
            else none
          else none
        else none
      else
        bif (v7 == (2 : Int)) then
          bif (decide ((1 : Int) ≤ (((List.length v4) : Nat) : Int))) then
            bif ((decide (((List.length (List.drop 1 v4)) * 1) ≤ 1099511627776)) && (decide ((List.length (List.drop 1 v4)) ≤ 1099511627776))) then
              bif (decide ((1 : Int) ≤ (((List.length v4) : Nat) : Int))) then
                bif (((List.length (List.drop 1 v4)) == ((List.length (List.drop 1 v4)) * 1)) && ((decide ((((List.length (List.drop 1 v4)) + (List.length (List.take 1 v4))) * 1) ≤ 1099511627776)) && (decide (((List.length (List.drop 1 v4)) + (List.length (List.take 1 v4))) ≤ 1099511627776)))) then
                  bif (decide ((1 : Int) ≤ (((List.length v5) : Nat) : Int))) then
                    bif ((decide (((List.length (List.drop 1 v5)) * 1) ≤ 1099511627776)) && (decide ((List.length (List.drop 1 v5)) ≤ 1099511627776))) then
                      bif (decide ((1 : Int) ≤ (((List.length v5) : Nat) : Int))) then
                        bif (((List.length (List.drop 1 v5)) == ((List.length (List.drop 1 v5)) * 1)) && ((decide ((((List.length (List.drop 1 v5)) + (List.length (List.take 1 v5))) * 1) ≤ 1099511627776)) && (decide (((List.length (List.drop 1 v5)) + (List.length (List.take 1 v5))) ≤ 1099511627776)))) then
                          bif (decide ((0 + (((List.length (List.drop 1 v4)) + (List.length (List.take 1 v4))) * 1)) ≤ (List.length ((List.drop 1 v4) ++ (List.take 1 v4))))) then
                            bif ((decide ((((List.length (List.drop 1 v4)) + (List.length (List.take 1 v4))) * 1) ≤ 1099511627776)) && (decide (((List.length (List.drop 1 v4)) + (List.length (List.take 1 v4))) ≤ 1099511627776))) then
                              bif (decide ((0 + (((List.length (List.drop 1 v5)) + (List.length (List.take 1 v5))) * 1)) ≤ (List.length ((List.drop 1 v5) ++ (List.take 1 v5))))) then
                                bif (((List.length (List.take (((List.length (List.drop 1 v4)) + (List.length (List.take 1 v4))) * 1) (List.drop 0 ((List.drop 1 v4) ++ (List.take 1 v4))))) == (((List.length (List.drop 1 v4)) + (List.length (List.take 1 v4))) * 1)) && ((decide (((((List.length (List.drop 1 v4)) + (List.length (List.take 1 v4))) + ((List.length (List.drop 1 v5)) + (List.length (List.take 1 v5)))) * 1) ≤ 1099511627776)) && (decide ((((List.length (List.drop 1 v4)) + (List.length (List.take 1 v4))) + ((List.length (List.drop 1 v5)) + (List.length (List.take 1 v5)))) ≤ 1099511627776)))) then
                                  match c275 with
                                  | none => none
                                  | some r11 =>
                                    bif (decide ((0 + ((((List.length (List.drop 1 v4)) + (List.length (List.take 1 v4))) + ((List.length (List.drop 1 v5)) + (List.length (List.take 1 v5)))) * 1)) ≤ (List.length ((List.take (((List.length (List.drop 1 v4)) + (List.length (List.take 1 v4))) * 1) (List.drop 0 ((List.drop 1 v4) ++ (List.take 1 v4)))) ++ (List.take (((List.length (List.drop 1 v5)) + (List.length (List.take 1 v5))) * 1) (List.drop 0 ((List.drop 1 v5) ++ (List.take 1 v5)))))))) then
                                      match c273 (List.take (((List.length (List.drop 1 v4)) + (List.length (List.take 1 v4))) + ((List.length (List.drop 1 v5)) + (List.length (List.take 1 v5)))) (List.drop 0 ((List.take (((List.length (List.drop 1 v4)) + (List.length (List.take 1 v4))) * 1) (List.drop 0 ((List.drop 1 v4) ++ (List.take 1 v4)))) ++ (List.take (((List.length (List.drop 1 v5)) + (List.length (List.take 1 v5))) * 1) (List.drop 0 ((List.drop 1 v5) ++ (List.take 1 v5))))))) r11 with
                                      | none => none
                                      | some r12 =>
                                        bif (((List.length v8) == (v6 * 1)) && ((decide (((v6 + 1) * 24) ≤ 1099511627776)) && (decide ((v6 + 1) ≤ 1099511627776)))) then
                                          bif (decide ((0 + (((List.length (List.drop 1 v4)) + (List.length (List.take 1 v4))) * 1)) ≤ (List.length ((List.drop 1 v4) ++ (List.take 1 v4))))) then
                                            bif (decide ((0 + (((List.length (List.drop 1 v5)) + (List.length (List.take 1 v5))) * 1)) ≤ (List.length ((List.drop 1 v5) ++ (List.take 1 v5))))) then
                                              L264_0 c56 c274 c273 c275 N q0_0 n0 (List.take ((List.length (List.drop 1 v4)) + (List.length (List.take 1 v4))) (List.drop 0 ((List.drop 1 v4) ++ (List.take 1 v4)))) (List.take ((List.length (List.drop 1 v5)) + (List.length (List.take 1 v5))) (List.drop 0 ((List.drop 1 v5) ++ (List.take 1 v5)))) (v6 + 1) (iadd .i64 v7 (1 : Int)) ((v8 ++ [(V.tb (Sh.int .u8) r12)]) : List V)
                                            else none
                                          else none
                                        else none
                                    else none
                                else none
                              else none
                            else none
                          else none
                        else none
                      else none
                    else none
                  else none
                else none
              else none
            else none
          else none
        else
          bif (v7 == (9 : Int)) then
            bif (decide ((1 : Int) ≤ (((List.length v4) : Nat) : Int))) then
              bif ((decide (((List.length (List.drop 1 v4)) * 1) ≤ 1099511627776)) && (decide ((List.length (List.drop 1 v4)) ≤ 1099511627776))) then
                bif (decide ((1 : Int) ≤ (((List.length v4) : Nat) : Int))) then
                  bif (((List.length (List.drop 1 v4)) == ((List.length (List.drop 1 v4)) * 1)) && ((decide ((((List.length (List.drop 1 v4)) + (List.length (List.take 1 v4))) * 1) ≤ 1099511627776)) && (decide (((List.length (List.drop 1 v4)) + (List.length (List.take 1 v4))) ≤ 1099511627776)))) then
                    bif (decide ((1 : Int) ≤ (((List.length v5) : Nat) : Int))) then
                      bif ((decide (((List.length (List.drop 1 v5)) * 1) ≤ 1099511627776)) && (decide ((List.length (List.drop 1 v5)) ≤ 1099511627776))) then
                        bif (decide ((1 : Int) ≤ (((List.length v5) : Nat) : Int))) then
                          bif (((List.length (List.drop 1 v5)) == ((List.length (List.drop 1 v5)) * 1)) && ((decide ((((List.length (List.drop 1 v5)) + (List.length (List.take 1 v5))) * 1) ≤ 1099511627776)) && (decide (((List.length (List.drop 1 v5)) + (List.length (List.take 1 v5))) ≤ 1099511627776)))) then
                            bif (decide ((0 + (((List.length (List.drop 1 v4)) + (List.length (List.take 1 v4))) * 1)) ≤ (List.length ((List.drop 1 v4) ++ (List.take 1 v4))))) then
                              bif ((decide ((((List.length (List.drop 1 v4)) + (List.length (List.take 1 v4))) * 1) ≤ 1099511627776)) && (decide (((List.length (List.drop 1 v4)) + (List.length (List.take 1 v4))) ≤ 1099511627776))) then
                                bif (decide ((0 + (((List.length (List.drop 1 v5)) + (List.length (List.take 1 v5))) * 1)) ≤ (List.length ((List.drop 1 v5) ++ (List.take 1 v5))))) then
                                  bif (((List.length (List.take (((List.length (List.drop 1 v4)) + (List.length (List.take 1 v4))) * 1) (List.drop 0 ((List.drop 1 v4) ++ (List.take 1 v4))))) == (((List.length (List.drop 1 v4)) + (List.length (List.take 1 v4))) * 1)) && ((decide (((((List.length (List.drop 1 v4)) + (List.length (List.take 1 v4))) + ((List.length (List.drop 1 v5)) + (List.length (List.take 1 v5)))) * 1) ≤ 1099511627776)) && (decide ((((List.length (List.drop 1 v4)) + (List.length (List.take 1 v4))) + ((List.length (List.drop 1 v5)) + (List.length (List.take 1 v5)))) ≤ 1099511627776)))) then
                                    match c275 with
                                    | none => none
                                    | some r13 =>
                                      bif (decide ((0 + ((((List.length (List.drop 1 v4)) + (List.length (List.take 1 v4))) + ((List.length (List.drop 1 v5)) + (List.length (List.take 1 v5)))) * 1)) ≤ (List.length ((List.take (((List.length (List.drop 1 v4)) + (List.length (List.take 1 v4))) * 1) (List.drop 0 ((List.drop 1 v4) ++ (List.take 1 v4)))) ++ (List.take (((List.length (List.drop 1 v5)) + (List.length (List.take 1 v5))) * 1) (List.drop 0 ((List.drop 1 v5) ++ (List.take 1 v5)))))))) then
                                        match c273 (List.take (((List.length (List.drop 1 v4)) + (List.length (List.take 1 v4))) + ((List.length (List.drop 1 v5)) + (List.length (List.take 1 v5)))) (List.drop 0 ((List.take (((List.length (List.drop 1 v4)) + (List.length (List.take 1 v4))) * 1) (List.drop 0 ((List.drop 1 v4) ++ (List.take 1 v4)))) ++ (List.take (((List.length (List.drop 1 v5)) + (List.length (List.take 1 v5))) * 1) (List.drop 0 ((List.drop 1 v5) ++ (List.take 1 v5))))))) r13 with
                                        | none => none
                                        | some r14 =>
                                          bif (((List.length v8) == (v6 * 1)) && ((decide (((v6 + 1) * 24) ≤ 1099511627776)) && (decide ((v6 + 1) ≤ 1099511627776)))) then
                                            bif (decide ((0 + (((List.length (List.drop 1 v4)) + (List.length (List.take 1 v4))) * 1)) ≤ (List.length ((List.drop 1 v4) ++ (List.take 1 v4))))) then
                                              bif (decide ((0 + (((List.length (List.drop 1 v5)) + (List.length (List.take 1 v5))) * 1)) ≤ (List.length ((List.drop 1 v5) ++ (List.take 1 v5))))) then
                                                L264_0 c56 c274 c273 c275 N q0_0 n0 (List.take ((List.length (List.drop 1 v4)) + (List.length (List.take 1 v4))) (List.drop 0 ((List.drop 1 v4) ++ (List.take 1 v4)))) (List.take ((List.length (List.drop 1 v5)) + (List.length (List.take 1 v5))) (List.drop 0 ((List.drop 1 v5) ++ (List.take 1 v5)))) (v6 + 1) (iadd .i64 v7 (1 : Int)) ((v8 ++ [(V.tb (Sh.int .u8) r14)]) : List V)
                                              else none
                                            else none
                                          else none
                                      else none
                                  else none
                                else none
                              else none
                            else none
                          else none
                        else none
                      else none
                    else none
                  else none
                else none
              else none
            else none
          else
            bif (v7 == (16 : Int)) then
              bif (decide ((1 : Int) ≤ (((List.length v4) : Nat) : Int))) then
                bif ((decide (((List.length (List.drop 1 v4)) * 1) ≤ 1099511627776)) && (decide ((List.length (List.drop 1 v4)) ≤ 1099511627776))) then
                  bif (decide ((1 : Int) ≤ (((List.length v4) : Nat) : Int))) then
                    bif (((List.length (List.drop 1 v4)) == ((List.length (List.drop 1 v4)) * 1)) && ((decide ((((List.length (List.drop 1 v4)) + (List.length (List.take 1 v4))) * 1) ≤ 1099511627776)) && (decide (((List.length (List.drop 1 v4)) + (List.length (List.take 1 v4))) ≤ 1099511627776)))) then
                      bif (decide ((1 : Int) ≤ (((List.length v5) : Nat) : Int))) then
                        bif ((decide (((List.length (List.drop 1 v5)) * 1) ≤ 1099511627776)) && (decide ((List.length (List.drop 1 v5)) ≤ 1099511627776))) then
                          bif (decide ((1 : Int) ≤ (((List.length v5) : Nat) : Int))) then
                            bif (((List.length (List.drop 1 v5)) == ((List.length (List.drop 1 v5)) * 1)) && ((decide ((((List.length (List.drop 1 v5)) + (List.length (List.take 1 v5))) * 1) ≤ 1099511627776)) && (decide (((List.length (List.drop 1 v5)) + (List.length (List.take 1 v5))) ≤ 1099511627776)))) then
                              bif (decide ((0 + (((List.length (List.drop 1 v4)) + (List.length (List.take 1 v4))) * 1)) ≤ (List.length ((List.drop 1 v4) ++ (List.take 1 v4))))) then
                                bif ((decide ((((List.length (List.drop 1 v4)) + (List.length (List.take 1 v4))) * 1) ≤ 1099511627776)) && (decide (((List.length (List.drop 1 v4)) + (List.length (List.take 1 v4))) ≤ 1099511627776))) then
                                  bif (decide ((0 + (((List.length (List.drop 1 v5)) + (List.length (List.take 1 v5))) * 1)) ≤ (List.length ((List.drop 1 v5) ++ (List.take 1 v5))))) then
                                    bif (((List.length (List.take (((List.length (List.drop 1 v4)) + (List.length (List.take 1 v4))) * 1) (List.drop 0 ((List.drop 1 v4) ++ (List.take 1 v4))))) == (((List.length (List.drop 1 v4)) + (List.length (List.take 1 v4))) * 1)) && ((decide (((((List.length (List.drop 1 v4)) + (List.length (List.take 1 v4))) + ((List.length (List.drop 1 v5)) + (List.length (List.take 1 v5)))) * 1) ≤ 1099511627776)) && (decide ((((List.length (List.drop 1 v4)) + (List.length (List.take 1 v4))) + ((List.length (List.drop 1 v5)) + (List.length (List.take 1 v5)))) ≤ 1099511627776)))) then
                                      match c275 with
                                      | none => none
                                      | some r15 =>
                                        bif (decide ((0 + ((((List.length (List.drop 1 v4)) + (List.length (List.take 1 v4))) + ((List.length (List.drop 1 v5)) + (List.length (List.take 1 v5)))) * 1)) ≤ (List.length ((List.take (((List.length (List.drop 1 v4)) + (List.length (List.take 1 v4))) * 1) (List.drop 0 ((List.drop 1 v4) ++ (List.take 1 v4)))) ++ (List.take (((List.length (List.drop 1 v5)) + (List.length (List.take 1 v5))) * 1) (List.drop 0 ((List.drop 1 v5) ++ (List.take 1 v5)))))))) then
                                          match c273 (List.take (((List.length (List.drop 1 v4)) + (List.length (List.take 1 v4))) + ((List.length (List.drop 1 v5)) + (List.length (List.take 1 v5)))) (List.drop 0 ((List.take (((List.length (List.drop 1 v4)) + (List.length (List.take 1 v4))) * 1) (List.drop 0 ((List.drop 1 v4) ++ (List.take 1 v4)))) ++ (List.take (((List.length (List.drop 1 v5)) + (List.length (List.take 1 v5))) * 1) (List.drop 0 ((List.drop 1 v5) ++ (List.take 1 v5))))))) r15 with
                                          | none => none
                                          | some r16 =>
                                            bif (((List.length v8) == (v6 * 1)) && ((decide (((v6 + 1) * 24) ≤ 1099511627776)) && (decide ((v6 + 1) ≤ 1099511627776)))) then
                                              bif (decide ((0 + (((List.length (List.drop 1 v4)) + (List.length (List.take 1 v4))) * 1)) ≤ (List.length ((List.drop 1 v4) ++ (List.take 1 v4))))) then
                                                bif (decide ((0 + (((List.length (List.drop 1 v5)) + (List.length (List.take 1 v5))) * 1)) ≤ (List.length ((List.drop 1 v5) ++ (List.take 1 v5))))) then
                                                  L264_0 c56 c274 c273 c275 N q0_0 n0 (List.take ((List.length (List.drop 1 v4)) + (List.length (List.take 1 v4))) (List.drop 0 ((List.drop 1 v4) ++ (List.take 1 v4)))) (List.take ((List.length (List.drop 1 v5)) + (List.length (List.take 1 v5))) (List.drop 0 ((List.drop 1 v5) ++ (List.take 1 v5)))) (v6 + 1) (iadd .i64 v7 (1 : Int)) ((v8 ++ [(V.tb (Sh.int .u8) r16)]) : List V)
                                                else none
                                              else none
                                            else none
                                        else none
                                    else none
                                  else none
                                else none
                              else none
                            else none
                          else none
                        else none
                      else none
                    else none
                  else none
                else none
              else none
            else
              bif (decide ((2 : Int) ≤ (((List.length v4) : Nat) : Int))) then
                bif ((decide (((List.length (List.drop 2 v4)) * 1) ≤ 1099511627776)) && (decide ((List.length (List.drop 2 v4)) ≤ 1099511627776))) then
                  bif (decide ((2 : Int) ≤ (((List.length v4) : Nat) : Int))) then
                    bif (((List.length (List.drop 2 v4)) == ((List.length (List.drop 2 v4)) * 1)) && ((decide ((((List.length (List.drop 2 v4)) + (List.length (List.take 2 v4))) * 1) ≤ 1099511627776)) && (decide (((List.length (List.drop 2 v4)) + (List.length (List.take 2 v4))) ≤ 1099511627776)))) then
                      bif (decide ((2 : Int) ≤ (((List.length v5) : Nat) : Int))) then
                        bif ((decide (((List.length (List.drop 2 v5)) * 1) ≤ 1099511627776)) && (decide ((List.length (List.drop 2 v5)) ≤ 1099511627776))) then
                          bif (decide ((2 : Int) ≤ (((List.length v5) : Nat) : Int))) then
                            bif (((List.length (List.drop 2 v5)) == ((List.length (List.drop 2 v5)) * 1)) && ((decide ((((List.length (List.drop 2 v5)) + (List.length (List.take 2 v5))) * 1) ≤ 1099511627776)) && (decide (((List.length (List.drop 2 v5)) + (List.length (List.take 2 v5))) ≤ 1099511627776)))) then
                              bif (decide ((0 + (((List.length (List.drop 2 v4)) + (List.length (List.take 2 v4))) * 1)) ≤ (List.length ((List.drop 2 v4) ++ (List.take 2 v4))))) then
                                bif ((decide ((((List.length (List.drop 2 v4)) + (List.length (List.take 2 v4))) * 1) ≤ 1099511627776)) && (decide (((List.length (List.drop 2 v4)) + (List.length (List.take 2 v4))) ≤ 1099511627776))) then
                                  bif (decide ((0 + (((List.length (List.drop 2 v5)) + (List.length (List.take 2 v5))) * 1)) ≤ (List.length ((List.drop 2 v5) ++ (List.take 2 v5))))) then
                                    bif (((List.length (List.take (((List.length (List.drop 2 v4)) + (List.length (List.take 2 v4))) * 1) (List.drop 0 ((List.drop 2 v4) ++ (List.take 2 v4))))) == (((List.length (List.drop 2 v4)) + (List.length (List.take 2 v4))) * 1)) && ((decide (((((List.length (List.drop 2 v4)) + (List.length (List.take 2 v4))) + ((List.length (List.drop 2 v5)) + (List.length (List.take 2 v5)))) * 1) ≤ 1099511627776)) && (decide ((((List.length (List.drop 2 v4)) + (List.length (List.take 2 v4))) + ((List.length (List.drop 2 v5)) + (List.length (List.take 2 v5)))) ≤ 1099511627776)))) then
                                      match c275 with
                                      | none => none
                                      | some r17 =>
                                        bif (decide ((0 + ((((List.length (List.drop 2 v4)) + (List.length (List.take 2 v4))) + ((List.length (List.drop 2 v5)) + (List.length (List.take 2 v5)))) * 1)) ≤ (List.length ((List.take (((List.length (List.drop 2 v4)) + (List.length (List.take 2 v4))) * 1) (List.drop 0 ((List.drop 2 v4) ++ (List.take 2 v4)))) ++ (List.take (((List.length (List.drop 2 v5)) + (List.length (List.take 2 v5))) * 1) (List.drop 0 ((List.drop 2 v5) ++ (List.take 2 v5)))))))) then
                                          match c273 (List.take (((List.length (List.drop 2 v4)) + (List.length (List.take 2 v4))) + ((List.length (List.drop 2 v5)) + (List.length (List.take 2 v5)))) (List.drop 0 ((List.take (((List.length (List.drop 2 v4)) + (List.length (List.take 2 v4))) * 1) (List.drop 0 ((List.drop 2 v4) ++ (List.take 2 v4)))) ++ (List.take (((List.length (List.drop 2 v5)) + (List.length (List.take 2 v5))) * 1) (List.drop 0 ((List.drop 2 v5) ++ (List.take 2 v5))))))) r17 with
                                          | none => none
                                          | some r18 =>
                                            bif (((List.length v8) == (v6 * 1)) && ((decide (((v6 + 1) * 24) ≤ 1099511627776)) && (decide ((v6 + 1) ≤ 1099511627776)))) then
                                              bif (decide ((0 + (((List.length (List.drop 2 v4)) + (List.length (List.take 2 v4))) * 1)) ≤ (List.length ((List.drop 2 v4) ++ (List.take 2 v4))))) then
                                                bif (decide ((0 + (((List.length (List.drop 2 v5)) + (List.length (List.take 2 v5))) * 1)) ≤ (List.length ((List.drop 2 v5) ++ (List.take 2 v5))))) then
                                                  L264_0 c56 c274 c273 c275 N q0_0 n0 (List.take ((List.length (List.drop 2 v4)) + (List.length (List.take 2 v4))) (List.drop 0 ((List.drop 2 v4) ++ (List.take 2 v4)))) (List.take ((List.length (List.drop 2 v5)) + (List.length (List.take 2 v5))) (List.drop 0 ((List.drop 2 v5) ++ (List.take 2 v5)))) (v6 + 1) (iadd .i64 v7 (1 : Int)) ((v8 ++ [(V.tb (Sh.int .u8) r18)]) : List V)
                                                else none
                                              else none
                                            else none
                                        else none
                                    else none
                                  else none
                                else none
                              else none
                            else none
                          else none
                        else none
                      else none
                    else none
                  else none
                else none
              else none
    else
      q0_0 v6 (v8 : List V)
/-- euphroe/euphroeref08.keys -/
def p264 (c56 : Int → Int → Option (List Int)) (c274 : Option (List Int)) (c273 : List Int → List Int → Option (List Int)) (c275 : Option (List Int)) (N : Nat) (a0 : Int) : Option (List (List Int)) :=
  match c56 a0 (64 : Int) with
  | none => none
  | some r1 =>
    match c274 with
    | none => none
    | some r2 =>
      match c273 r1 r2 with
      | none => none
      | some r3 =>
        bif (decide ((28 : Int) ≤ (((List.length r3) : Nat) : Int))) then
          bif (decide ((28 : Int) ≤ (((List.length r3) : Nat) : Int))) then
            L264_0 c56 c274 c273 c275 N (fun (y19 : Nat) (y20 : List V) =>
                bif (decide ((0 + (y19 * 1)) ≤ (List.length y20))) then
                  match rowsOf (Sh.sl (Sh.int .u8)) y19 (List.take (y19 * 1) (List.drop 0 y20)) with
                  | none => none
                  | some x21 =>
                    some x21
                else none) N (List.take 28 r3) (List.drop 28 r3) 0 (1 : Int) ([] : List V)
          else none
        else none

def L248_0 (c264 : Int → Option (List (List Int))) (c57 : List Int → Option Int) (N : Nat) (q0_0 : List Int → List Int → Option (List Int)) : Nat → List (List Int) → Int → List Int → List Int → Option (List Int)
  | 0, _, _, _, _ => none
  | n0 + 1, v2, v3, v4, v5 =>
    bif (decide (v3 < (16 : Int))) then
      match geti v2 v3 with
      | none => none
      | some x6 =>
        match c57 x6 with
        | none => none
        | some r7 =>
          bif ((decide ((0 : Int) ≤ v3)) && (decide (v3 < (16 : Int)))) then
            bif (decide ((0 + ((Int.toNat v3) * 1)) < (List.length v5))) then
              L248_0 c264 c57 N q0_0 n0 v2 (iadd .i64 v3 (1 : Int)) v4 (List.set v5 (0 + ((Int.toNat v3) * 1)) r7)
            else none
          else none
    else
      q0_0 v4 v5
/-- euphroe/euphroeref08.Keys -/
def p248 (c264 : Int → Option (List (List Int))) (c57 : List Int → Option Int) (N : Nat) (a0 : Int) : Option (List Int) :=
  match c264 a0 with
  | none => none
  | some r1 =>
    L248_0 c264 c57 N (fun (y8 : List Int) (y9 : List Int) =>
        bif (decide (16 ≤ (List.length y9))) then
          bif ((List.length (List.take 16 (List.drop 0 y9))) == 16) then
            bif (decide ((0 + (List.length (List.take 16 (List.drop 0 y9)))) ≤ (List.length y8))) then
              bif (decide (16 ≤ (List.length (((List.take 0 y8) ++ (List.take 16 (List.drop 0 y9))) ++ (List.drop (0 + (List.length (List.take 16 (List.drop 0 y9)))) y8))))) then
                some (List.take 16 (List.drop 0 (((List.take 0 y8) ++ (List.take 16 (List.drop 0 y9))) ++ (List.drop (0 + (List.length (List.take 16 (List.drop 0 y9)))) y8))))
              else none
            else none
          else none
        else none) N r1 (0 : Int) ([(0 : Int), (0 : Int), (0 : Int), (0 : Int), (0 : Int), (0 : Int), (0 : Int), (0 : Int), (0 : Int), (0 : Int), (0 : Int), (0 : Int), (0 : Int), (0 : Int), (0 : Int), (0 : Int)] : List Int) ([(0 : Int), (0 : Int), (0 : Int), (0 : Int), (0 : Int), (0 : Int), (0 : Int), (0 : Int), (0 : Int), (0 : Int), (0 : Int), (0 : Int), (0 : Int), (0 : Int), (0 : Int), (0 : Int)] : List Int)

def L265_1 (N : Nat) (q1_2 : Nat → Int → List Int → Option (List Int)) : Nat → Nat → Int → Int → Int → List Int → Option (List Int)
  | 0, _, _, _, _, _ => none
  | n1 + 1, v4, v5, v6, v7, v8 =>
    bif (decide (v7 < (6 : Int))) then
      bif (((List.length v8) == (v4 * 1)) && ((decide (((v4 + 1) * 8) ≤ 1099511627776)) && (decide ((v4 + 1) ≤ 1099511627776)))) then
        L265_1 N q1_2 n1 (v4 + 1) v5 v6 (iadd .i64 v7 (1 : Int)) (v8 ++ [(iadd .i64 (irem (isub .i64 (iadd .i64 (iadd .i64 (imul .i64 (4 : Int) v5) v7) (32 : Int)) (1 : Int)) (32 : Int)) (1 : Int))])
      else none
    else
      q1_2 v4 v6 v8
def L265_0 (N : Nat) (q0_0 : Nat → List Int → Option (List Int)) : Nat → Nat → Int → List Int → Option (List Int)
  | 0, _, _, _ => none
  | n0 + 1, v1, v2, v3 =>
    bif (decide (v2 < (8 : Int))) then
      L265_1 N (fun (y9 : Nat) (y10 : Int) (y11 : List Int) =>
          L265_0 N q0_0 n0 y9 (iadd .i64 y10 (1 : Int)) y11) N v1 v2 v2 (0 : Int) v3
    else
      q0_0 v1 v3
/-- euphroe/des.wide -/
def p265 (N : Nat)  : Option (List Int) :=
  L265_0 N (fun (y12 : Nat) (y13 : List Int) =>
      bif (decide ((0 + (y12 * 1)) ≤ (List.length y13))) then
        some (List.take y12 (List.drop 0 y13))
      else none) N 0 (0 : Int) ([] : List Int)

/-- euphroe/des.mixing -/
def p266 (N : Nat)  : Option (List Int) :=
  some ([(16 : Int), (7 : Int), (20 : Int), (21 : Int), (29 : Int), (12 : Int), (28 : Int), (17 : Int), (1 : Int), (15 : Int), (23 : Int), (26 : Int), (5 : Int), (18 : Int), (31 : Int), (10 : Int), (2 : Int), (8 : Int), (24 : Int), (14 : Int), (32 : Int), (27 : Int), (3 : Int), (9 : Int), (19 : Int), (13 : Int), (30 : Int), (6 : Int), (22 : Int), (11 : Int), (4 : Int), (25 : Int)] : List Int)

def L249_0 (c265 : Option (List Int)) (c260 : Int → Int → List Int → Option Int) (c245 : Int → Int → Option Int) (c266 : Option (List Int)) (N : Nat) (q0_0 : Int → Option Int) : Nat → Int → Int → Int → Option Int
  | 0, _, _, _ => none
  | n0 + 1, v3, v4, v5 =>
    bif (decide (v5 < (8 : Int))) then
      bif (decide ((imul .i64 (6 : Int) (isub .i64 (7 : Int) v5)) < (0 : Int))) then
        none
      else
        match c245 (iadd .i64 v5 (1 : Int)) (ishr .u64 v3 (imul .i64 (6 : Int) (isub .i64 (7 : Int) v5))) with
        | none => none
        | some r6 =>
          L249_0 c265 c260 c245 c266 N q0_0 n0 v3 (ior .u64 (ishl .u64 v4 (4 : Int)) r6) (iadd .i64 v5 (1 : Int))
    else
      q0_0 v4
/-- euphroe/des.Word -/
def p249 (c265 : Option (List Int)) (c260 : Int → Int → List Int → Option Int) (c245 : Int → Int → Option Int) (c266 : Option (List Int)) (N : Nat) (a0 : Int) (a1 : Int) : Option Int :=
  match c265 with
  | none => none
  | some r1 =>
    match c260 (IntKind.wrap .u64 a0) (32 : Int) r1 with
    | none => none
    | some r2 =>
      L249_0 c265 c260 c245 c266 N (fun (y7 : Int) =>
          match c266 with
          | none => none
          | some r8 =>
            match c260 y7 (32 : Int) r8 with
            | none => none
            | some r9 =>
              some (IntKind.wrap .u32 r9)) N (ixor .u64 r2 a1) (0 : Int) (0 : Int)

/-- euphroe/euphroeref08.wide -/
def p277 (N : Nat)  : Option (List Int) :=
  some ([(32 : Int), (1 : Int), (2 : Int), (3 : Int), (4 : Int), (5 : Int), (4 : Int), (5 : Int), (6 : Int), (7 : Int), (8 : Int), (9 : Int), (8 : Int), (9 : Int), (10 : Int), (11 : Int), (12 : Int), (13 : Int), (12 : Int), (13 : Int), (14 : Int), (15 : Int), (16 : Int), (17 : Int), (16 : Int), (17 : Int), (18 : Int), (19 : Int), (20 : Int), (21 : Int), (20 : Int), (21 : Int), (22 : Int), (23 : Int), (24 : Int), (25 : Int), (24 : Int), (25 : Int), (26 : Int), (27 : Int), (28 : Int), (29 : Int), (28 : Int), (29 : Int), (30 : Int), (31 : Int), (32 : Int), (1 : Int)] : List Int)

def L276_0 (N : Nat) (q0_0 : Nat → Nat → List Int → Option (List Int)) : Nat → List Int → List Int → Nat → Nat → Int → List Int → Option (List Int)
  | 0, _, _, _, _, _, _ => none
  | n0 + 1, v1, v2, v3, v4, v5, v6 =>
    bif (decide (v5 < (((List.length v1) : Nat) : Int))) then
      match geti v1 v5 with
      | none => none
      | some x7 =>
        match geti v2 v5 with
        | none => none
        | some x8 =>
          bif ((decide ((0 : Int) ≤ v5)) && (decide (v5 < ((v3 : Nat) : Int)))) then
            bif (decide ((0 + ((Int.toNat v5) * 1)) < (List.length v6))) then
              L276_0 N q0_0 n0 v1 v2 v3 v4 (iadd .i64 v5 (1 : Int)) (List.set v6 (0 + ((Int.toNat v5) * 1)) (ixor .u8 x7 x8))
            else none
          else none
    else
      q0_0 v3 v4 v6
/-- euphroe/euphroeref08.turned -/
def p276 (N : Nat) (a0 : List Int) (a1 : List Int) : Option (List Int) :=
  bif ((decide ((0 : Int) ≤ (((List.length a0) : Nat) : Int))) && ((decide ((((List.length a0) : Nat) : Int) ≤ (((List.length a0) : Nat) : Int))) && ((decide (((((List.length a0) : Nat) : Int) * ((1 : Nat) : Int)) ≤ (1099511627776 : Int))) && (decide ((((List.length a0) : Nat) : Int) ≤ (1099511627776 : Int)))))) then
    L276_0 N (fun (y9 : Nat) (y10 : Nat) (y11 : List Int) =>
        bif (decide ((0 + (y9 * 1)) ≤ (List.length y11))) then
          some (List.take y9 (List.drop 0 y11))
        else none) N a0 a1 (Int.toNat (((List.length a0) : Nat) : Int)) (Int.toNat (((List.length a0) : Nat) : Int)) (0 : Int) (List.replicate (Int.toNat (((List.length a0) : Nat) : Int)) (0 : Int))
  else none

/-- euphroe/euphroeref08.mixing -/
def p278 (N : Nat)  : Option (List Int) :=
  some ([(16 : Int), (7 : Int), (20 : Int), (21 : Int), (29 : Int), (12 : Int), (28 : Int), (17 : Int), (1 : Int), (15 : Int), (23 : Int), (26 : Int), (5 : Int), (18 : Int), (31 : Int), (10 : Int), (2 : Int), (8 : Int), (24 : Int), (14 : Int), (32 : Int), (27 : Int), (3 : Int), (9 : Int), (19 : Int), (13 : Int), (30 : Int), (6 : Int), (22 : Int), (11 : Int), (4 : Int), (25 : Int)] : List Int)

def L267_0 (c277 : Option (List Int)) (c273 : List Int → List Int → Option (List Int)) (c276 : List Int → List Int → Option (List Int)) (c259 : Int → List Int → Option Int) (c56 : Int → Int → Option (List Int)) (c278 : Option (List Int)) (N : Nat) (q0_0 : Nat → List Int → Option (List Int)) : Nat → List Int → Nat → Int → List Int → Option (List Int)
  | 0, _, _, _, _ => none
  | n0 + 1, v4, v5, v6, v7 =>
    bif (decide (v6 < (8 : Int))) then
      bif ((decide ((0 : Int) ≤ (iadd .i64 (imul .i64 (6 : Int) v6) (6 : Int)))) && (decide ((iadd .i64 (imul .i64 (6 : Int) v6) (6 : Int)) ≤ (((List.length v4) : Nat) : Int)))) then
        bif ((decide ((0 : Int) ≤ (imul .i64 (6 : Int) v6))) && (decide ((imul .i64 (6 : Int) v6) ≤ (((Int.toNat (iadd .i64 (imul .i64 (6 : Int) v6) (6 : Int))) : Nat) : Int)))) then
          match c259 (iadd .i64 v6 (1 : Int)) (List.take ((Int.toNat (iadd .i64 (imul .i64 (6 : Int) v6) (6 : Int))) - (Int.toNat (imul .i64 (6 : Int) v6))) (List.drop (Int.toNat (imul .i64 (6 : Int) v6)) v4)) with
          | none => none
          | some r8 =>
            match c56 (IntKind.wrap .u64 r8) (4 : Int) with
            | none => none
            | some r9 =>
              bif (((List.length v7) == (v5 * 1)) && ((decide (((v5 + (List.length r9)) * 1) ≤ 1099511627776)) && (decide ((v5 + (List.length r9)) ≤ 1099511627776)))) then
                L267_0 c277 c273 c276 c259 c56 c278 N q0_0 n0 v4 (v5 + (List.length r9)) (iadd .i64 v6 (1 : Int)) (v7 ++ r9)
              else none
        else none
      else none
    else
      q0_0 v5 v7
/-- euphroe/euphroeref08.word -/
def p267 (c277 : Option (List Int)) (c273 : List Int → List Int → Option (List Int)) (c276 : List Int → List Int → Option (List Int)) (c259 : Int → List Int → Option Int) (c56 : Int → Int → Option (List Int)) (c278 : Option (List Int)) (N : Nat) (a0 : List Int) (a1 : List Int) : Option (List Int) :=
  match c277 with
  | none => none
  | some r1 =>
    match c273 a0 r1 with
    | none => none
    | some r2 =>
      match c276 r2 a1 with
      | none => none
      | some r3 =>
        L267_0 c277 c273 c276 c259 c56 c278 N (fun (y10 : Nat) (y11 : List Int) =>
            match c278 with
            | none => none
            | some r12 =>
              bif (decide ((0 + (y10 * 1)) ≤ (List.length y11))) then
                match c273 (List.take y10 (List.drop 0 y11)) r12 with
                | none => none
                | some r13 =>
                  some r13
              else none) N r3 0 (0 : Int) ([] : List Int)

/-- euphroe/euphroeref08.Word -/
def p250 (c56 : Int → Int → Option (List Int)) (c267 : List Int → List Int → Option (List Int)) (c57 : List Int → Option Int) (N : Nat) (a0 : Int) (a1 : Int) : Option Int :=
  match c56 (IntKind.wrap .u64 a0) (32 : Int) with
  | none => none
  | some r1 =>
    match c56 a1 (48 : Int) with
    | none => none
    | some r2 =>
      match c267 r1 r2 with
      | none => none
      | some r3 =>
        match c57 r3 with
        | none => none
        | some r4 =>
          some (IntKind.wrap .u32 r4)

def L279_0 (c272 : Int → Int → Option (List Int)) (N : Nat) (q0_0 : Nat → List Int → Option (List Int)) : Nat → Nat → List Int → Int → List Int → Option (List Int)
  | 0, _, _, _, _ => none
  | n0 + 1, v1, v2, v3, v4 =>
    bif (decide (v3 < (8 : Int))) then
      bif ((decide ((0 : Int) ≤ v3)) && (decide (v3 < (8 : Int)))) then
        match (v2)[((Int.toNat v3) * 1)]? with
        | none => none
        | some x5 =>
          match c272 x5 (isub .i64 x5 (56 : Int)) with
          | none => none
          | some r6 =>
            bif (((List.length v4) == (v1 * 1)) && ((decide (((v1 + (List.length r6)) * 8) ≤ 1099511627776)) && (decide ((v1 + (List.length r6)) ≤ 1099511627776)))) then
              L279_0 c272 N q0_0 n0 (v1 + (List.length r6)) v2 (iadd .i64 v3 (1 : Int)) (v4 ++ r6)
            else none
      else none
    else
      q0_0 v1 v4
/-- euphroe/des.first -/
def p279 (c272 : Int → Int → Option (List Int)) (N : Nat)  : Option (List Int) :=
  L279_0 c272 N (fun (y7 : Nat) (y8 : List Int) =>
      bif (decide ((0 + (y7 * 1)) ≤ (List.length y8))) then
        some (List.take y7 (List.drop 0 y8))
      else none) N 0 ([(58 : Int), (60 : Int), (62 : Int), (64 : Int), (57 : Int), (59 : Int), (61 : Int), (63 : Int)] : List Int) (0 : Int) ([] : List Int)

def L280_0 (c279 : Option (List Int)) (N : Nat) (q0_0 : Nat → Nat → List Int → Option (List Int)) : Nat → Nat → Nat → List Int → Int → Int → List Int → Option (List Int)
  | 0, _, _, _, _, _, _ => none
  | n0 + 1, v2, v3, v4, v5, v6, v7 =>
    bif (decide (v6 < v5)) then
      match geti v4 v6 with
      | none => none
      | some x8 =>
        bif ((decide ((0 : Int) ≤ (isub .i64 x8 (1 : Int)))) && (decide ((isub .i64 x8 (1 : Int)) < ((v2 : Nat) : Int)))) then
          bif (decide ((0 + ((Int.toNat (isub .i64 x8 (1 : Int))) * 1)) < (List.length v7))) then
            L280_0 c279 N q0_0 n0 v2 v3 v4 v5 (iadd .i64 v6 (1 : Int)) (List.set v7 (0 + ((Int.toNat (isub .i64 x8 (1 : Int))) * 1)) (iadd .i64 v6 (1 : Int)))
          else none
        else none
    else
      q0_0 v2 v3 v7
/-- euphroe/des.last -/
def p280 (c279 : Option (List Int)) (N : Nat)  : Option (List Int) :=
  match c279 with
  | none => none
  | some r1 =>
    L280_0 c279 N (fun (y9 : Nat) (y10 : Nat) (y11 : List Int) =>
        bif (decide ((0 + (y9 * 1)) ≤ (List.length y11))) then
          some (List.take y9 (List.drop 0 y11))
        else none) N 64 64 r1 (((List.length r1) : Nat) : Int) (0 : Int) ([(0 : Int), (0 : Int), (0 : Int), (0 : Int), (0 : Int), (0 : Int), (0 : Int), (0 : Int), (0 : Int), (0 : Int), (0 : Int), (0 : Int), (0 : Int), (0 : Int), (0 : Int), (0 : Int), (0 : Int), (0 : Int), (0 : Int), (0 : Int), (0 : Int), (0 : Int), (0 : Int), (0 : Int), (0 : Int), (0 : Int), (0 : Int), (0 : Int), (0 : Int), (0 : Int), (0 : Int), (0 : Int), (0 : Int), (0 : Int), (0 : Int), (0 : Int), (0 : Int), (0 : Int), (0 : Int), (0 : Int), (0 : Int), (0 : Int), (0 : Int), (0 : Int), (0 : Int), (0 : Int), (0 : Int), (0 : Int), (0 : Int), (0 : Int), (0 : Int), (0 : Int), (0 : Int), (0 : Int), (0 : Int), (0 : Int), (0 : Int), (0 : Int), (0 : Int), (0 : Int), (0 : Int), (0 : Int), (0 : Int), (0 : Int)] : List Int)

def L268_0 (c279 : Option (List Int)) (c260 : Int → Int → List Int → Option Int) (c249 : Int → Int → Option Int) (c280 : Option (List Int)) (N : Nat) (q0_0 : Int → Int → Option Int) : Nat → Int → Int → List Int → Int → Int → Option Int
  | 0, _, _, _, _, _ => none
  | n0 + 1, v3, v4, v5, v6, v7 =>
    bif (decide (v7 < v6)) then
      match geti v5 v7 with
      | none => none
      | some x8 =>
        match c249 v4 x8 with
        | none => none
        | some r9 =>
          L268_0 c279 c260 c249 c280 N q0_0 n0 v4 (ixor .u32 v3 r9) v5 v6 (iadd .i64 v7 (1 : Int))
    else
      q0_0 v3 v4
/-- euphroe/des.turn -/
def p268 (c279 : Option (List Int)) (c260 : Int → Int → List Int → Option Int) (c249 : Int → Int → Option Int) (c280 : Option (List Int)) (N : Nat) (a0 : Int) (a1 : List Int) : Option Int :=
  match c279 with
  | none => none
  | some r1 =>
    match c260 a0 (64 : Int) r1 with
    | none => none
    | some r2 =>
      L268_0 c279 c260 c249 c280 N (fun (y10 : Int) (y11 : Int) =>
          match c280 with
          | none => none
          | some r12 =>
            match c260 (ior .u64 (ishl .u64 (IntKind.wrap .u64 y11) (32 : Int)) (IntKind.wrap .u64 y10)) (64 : Int) r12 with
            | none => none
            | some r13 =>
              some r13) N (IntKind.wrap .u32 (ishr .u64 r2 (32 : Int))) (IntKind.wrap .u32 r2) a1 (((List.length a1) : Nat) : Int) (0 : Int)

/-- euphroe/des.Turn -/
def p254 (c247 : Int → Option (List Int)) (c268 : Int → List Int → Option Int) (N : Nat) (a0 : Int) (a1 : Int) : Option Int :=
  match c247 a0 with
  | none => none
  | some r1 =>
    bif ((List.length r1) == 16) then
      bif (decide ((0 + (List.length r1)) ≤ 16)) then
        bif (decide (16 ≤ (List.length (([] ++ r1) ++ (List.drop (0 + (List.length r1)) [(0 : Int), (0 : Int), (0 : Int), (0 : Int), (0 : Int), (0 : Int), (0 : Int), (0 : Int), (0 : Int), (0 : Int), (0 : Int), (0 : Int), (0 : Int), (0 : Int), (0 : Int), (0 : Int)]))))) then
          bif (decide (16 ≤ (List.length (([] ++ r1) ++ (List.drop (0 + (List.length r1)) [(0 : Int), (0 : Int), (0 : Int), (0 : Int), (0 : Int), (0 : Int), (0 : Int), (0 : Int), (0 : Int), (0 : Int), (0 : Int), (0 : Int), (0 : Int), (0 : Int), (0 : Int), (0 : Int)]))))) then
            match c268 a1 (List.take 16 (List.drop 0 (([] ++ r1) ++ (List.drop (0 + (List.length r1)) [(0 : Int), (0 : Int), (0 : Int), (0 : Int), (0 : Int), (0 : Int), (0 : Int), (0 : Int), (0 : Int), (0 : Int), (0 : Int), (0 : Int), (0 : Int), (0 : Int), (0 : Int), (0 : Int)])))) with
            | none => none
            | some r2 =>
              some r2
          else none
        else none
      else none
    else none

/-- euphroe/des.Seven -/
def p252 (c24 : List Int → Option ((List Int) × Int)) (c21 : List Int → Bool → Option (Int × Int)) (c254 : Int → Int → Option Int) (c19 : Int → Int → Bool → Option ((List Int) × Int)) (N : Nat) (a0 : List Int) (a1 : List Int) : Option ((List Int) × Int) :=
  bif ((((List.length a0) : Nat) : Int) != (7 : Int)) then
    some (([] : List Int), (1 : Int))
  else
    bif ((((List.length a1) : Nat) : Int) != (8 : Int)) then
      some (([] : List Int), (1 : Int))
    else
      match c24 a0 with
      | none => none
      | some r1 =>
        bif (r1.2 != (0 : Int)) then
          some (([] : List Int), r1.2)
        else
          match c21 r1.1 false with
          | none => none
          | some r2 =>
            match c21 a1 false with
            | none => none
            | some r3 =>
              match c254 r2.1 r3.1 with
              | none => none
              | some r4 =>
                match c19 r4 (8 : Int) false with
                | none => none
                | some r5 =>
                  some (r5.1, r5.2)

/-- euphroe/euphroelaw08.alive -/
def p251 (c252 : List Int → List Int → Option ((List Int) × Int)) (c254 : Int → Int → Option Int) (c245 : Int → Int → Option Int) (N : Nat)  : Option Bool :=
  match c252 ([(0 : Int), (0 : Int), (0 : Int), (0 : Int), (0 : Int), (0 : Int), (0 : Int)] : List Int) ([(0 : Int), (0 : Int), (0 : Int), (0 : Int), (0 : Int), (0 : Int), (0 : Int), (0 : Int)] : List Int) with
  | none => none
  | some r1 =>
    match c254 (1383827165325090801 : Int) (81985529216486895 : Int) with
    | none => none
    | some r2 =>
      bif (r2 == (9648983453391827973 : Int)) then
        bif ((((List.length r1.1) : Nat) : Int) == (8 : Int)) then
          bif (r1.2 == (0 : Int)) then
            match c245 (1 : Int) (0 : Int) with
            | none => none
            | some r3 =>
              some (r3 == (14 : Int))
          else
            some false
        else
          some false
      else
        some false

/-- euphroe/euphroelaw08.DesWords -/
def p240 (c245 : Int → Int → Option Int) (c246 : Int → Int → Option Int) (c247 : Int → Option (List Int)) (c248 : Int → Option (List Int)) (c249 : Int → Int → Option Int) (c250 : Int → Int → Option Int) (c251 : Option Bool) (N : Nat) (a0 : Int) (a1 : Int) (a2 : Int) : Option Bool :=
  match c245 a0 a1 with
  | none => none
  | some r1 =>
    match c246 a0 a1 with
    | none => none
    | some r2 =>
      bif (r1 == r2) then
        match c247 a1 with
        | none => none
        | some r3 =>
          match c248 a1 with
          | none => none
          | some r4 =>
            bif (((List.length r3) == 16) && ((List.length r4) == 16)) then
              bif (r3 == r4) then
                match c249 a2 a1 with
                | none => none
                | some r5 =>
                  match c250 a2 a1 with
                  | none => none
                  | some r6 =>
                    bif (r5 == r6) then
                      match c251 with
                      | none => none
                      | some r7 =>
                        some r7
                    else
                      some false
              else
                some false
            else none
      else
        some false

/-- euphroe/euphroeref08.first -/
def p281 (N : Nat)  : Option (List Int) :=
  some ([(58 : Int), (50 : Int), (42 : Int), (34 : Int), (26 : Int), (18 : Int), (10 : Int), (2 : Int), (60 : Int), (52 : Int), (44 : Int), (36 : Int), (28 : Int), (20 : Int), (12 : Int), (4 : Int), (62 : Int), (54 : Int), (46 : Int), (38 : Int), (30 : Int), (22 : Int), (14 : Int), (6 : Int), (64 : Int), (56 : Int), (48 : Int), (40 : Int), (32 : Int), (24 : Int), (16 : Int), (8 : Int), (57 : Int), (49 : Int), (41 : Int), (33 : Int), (25 : Int), (17 : Int), (9 : Int), (1 : Int), (59 : Int), (51 : Int), (43 : Int), (35 : Int), (27 : Int), (19 : Int), (11 : Int), (3 : Int), (61 : Int), (53 : Int), (45 : Int), (37 : Int), (29 : Int), (21 : Int), (13 : Int), (5 : Int), (63 : Int), (55 : Int), (47 : Int), (39 : Int), (31 : Int), (23 : Int), (15 : Int), (7 : Int)] : List Int)

/-- euphroe/euphroeref08.last -/
def p282 (N : Nat)  : Option (List Int) :=
  some ([(40 : Int), (8 : Int), (48 : Int), (16 : Int), (56 : Int), (24 : Int), (64 : Int), (32 : Int), (39 : Int), (7 : Int), (47 : Int), (15 : Int), (55 : Int), (23 : Int), (63 : Int), (31 : Int), (38 : Int), (6 : Int), (46 : Int), (14 : Int), (54 : Int), (22 : Int), (62 : Int), (30 : Int), (37 : Int), (5 : Int), (45 : Int), (13 : Int), (53 : Int), (21 : Int), (61 : Int), (29 : Int), (36 : Int), (4 : Int), (44 : Int), (12 : Int), (52 : Int), (20 : Int), (60 : Int), (28 : Int), (35 : Int), (3 : Int), (43 : Int), (11 : Int), (51 : Int), (19 : Int), (59 : Int), (27 : Int), (34 : Int), (2 : Int), (42 : Int), (10 : Int), (50 : Int), (18 : Int), (58 : Int), (26 : Int), (33 : Int), (1 : Int), (41 : Int), (9 : Int), (49 : Int), (17 : Int), (57 : Int), (25 : Int)] : List Int)

def L269_0 (c56 : Int → Int → Option (List Int)) (c281 : Option (List Int)) (c273 : List Int → List Int → Option (List Int)) (c267 : List Int → List Int → Option (List Int)) (c276 : List Int → List Int → Option (List Int)) (c282 : Option (List Int)) (c57 : List Int → Option Int) (N : Nat) (q0_0 : List Int → List Int → Option Int) : Nat → List (List Int) → List Int → List Int → Int → Option Int
  | 0, _, _, _, _ => none
  | n0 + 1, v4, v5, v6, v7 =>
    bif (decide (v7 < (((List.length v4) : Nat) : Int))) then
      match geti v4 v7 with
      | none => none
      | some x8 =>
        match c267 v6 x8 with
        | none => none
        | some r9 =>
          match c276 v5 r9 with
          | none => none
          | some r10 =>
            L269_0 c56 c281 c273 c267 c276 c282 c57 N q0_0 n0 v4 v6 r10 (iadd .i64 v7 (1 : Int))
    else
      q0_0 v5 v6
/-- euphroe/euphroeref08.turn -/
def p269 (c56 : Int → Int → Option (List Int)) (c281 : Option (List Int)) (c273 : List Int → List Int → Option (List Int)) (c267 : List Int → List Int → Option (List Int)) (c276 : List Int → List Int → Option (List Int)) (c282 : Option (List Int)) (c57 : List Int → Option Int) (N : Nat) (a0 : Int) (a1 : List (List Int)) : Option Int :=
  match c56 a0 (64 : Int) with
  | none => none
  | some r1 =>
    match c281 with
    | none => none
    | some r2 =>
      match c273 r1 r2 with
      | none => none
      | some r3 =>
        bif (decide ((32 : Int) ≤ (((List.length r3) : Nat) : Int))) then
          bif (decide ((32 : Int) ≤ (((List.length r3) : Nat) : Int))) then
            L269_0 c56 c281 c273 c267 c276 c282 c57 N (fun (y11 : List Int) (y12 : List Int) =>
                bif ((decide (((List.length y12) * 1) ≤ 1099511627776)) && (decide ((List.length y12) ≤ 1099511627776))) then
                  bif (((List.length y12) == ((List.length y12) * 1)) && ((decide ((((List.length y12) + (List.length y11)) * 1) ≤ 1099511627776)) && (decide (((List.length y12) + (List.length y11)) ≤ 1099511627776)))) then
                    match c282 with
                    | none => none
                    | some r13 =>
                      bif (decide ((0 + (((List.length y12) + (List.length y11)) * 1)) ≤ (List.length (y12 ++ y11)))) then
                        match c273 (List.take ((List.length y12) + (List.length y11)) (List.drop 0 (y12 ++ y11))) r13 with
                        | none => none
                        | some r14 =>
                          match c57 r14 with
                          | none => none
                          | some r15 =>
                            some r15
                      else none
                  else none
                else none) N a1 (List.take 32 r3) (List.drop 32 r3) (0 : Int)
          else none
        else none

/-- euphroe/euphroeref08.Turn -/
def p255 (c264 : Int → Option (List (List Int))) (c269 : Int → List (List Int) → Option Int) (N : Nat) (a0 : Int) (a1 : Int) : Option Int :=
  match c264 a0 with
  | none => none
  | some r1 =>
    match c269 a1 r1 with
    | none => none
    | some r2 =>
      some r2

/-- euphroe/euphroeref08.Seven -/
def p253 (c36 : List Int → Option ((List Int) × Int)) (c51 : List Int → Option Int) (c255 : Int → Int → Option Int) (c50 : Int → Int → Option (List Int)) (N : Nat) (a0 : List Int) (a1 : List Int) : Option ((List Int) × Int) :=
  bif ((((List.length a0) : Nat) : Int) != (7 : Int)) then
    some (([] : List Int), (1 : Int))
  else
    bif ((((List.length a1) : Nat) : Int) != (8 : Int)) then
      some (([] : List Int), (1 : Int))
    else
      match c36 a0 with
      | none => none
      | some r1 =>
        match c51 r1.1 with
        | none => none
        | some r2 =>
          match c51 a1 with
          | none => none
          | some r3 =>
            match c255 r2 r3 with
            | none => none
            | some r4 =>
              match c50 r4 (8 : Int) with
              | none => none
              | some r5 =>
                some (r5, (0 : Int))

/-- euphroe/euphroelaw08.DesSeven -/
def p241 (c251 : Option Bool) (c252 : List Int → List Int → Option ((List Int) × Int)) (c253 : List Int → List Int → Option ((List Int) × Int)) (c23 : List Int → List Int → Option Bool) (N : Nat) (a0 : List Int) (a1 : List Int) : Option Bool :=
  bif (decide ((((List.length a0) : Nat) : Int) > (100 : Int))) then
    match c251 with
    | none => none
    | some r1 =>
      some r1
  else
    bif (decide ((((List.length a1) : Nat) : Int) > (100 : Int))) then
      match c251 with
      | none => none
      | some r2 =>
        some r2
    else
      match c252 a0 a1 with
      | none => none
      | some r3 =>
        match c253 a0 a1 with
        | none => none
        | some r4 =>
          match c23 r3.1 r4.1 with
          | none => none
          | some r5 =>
            bif r5 then
              bif (r3.2 == r4.2) then
                match c251 with
                | none => none
                | some r6 =>
                  some r6
              else
                some false
            else
              some false

def L270v0_0 (N : Nat) (q0_0 : List Int → Option ((Unit × Unit) × ((List Int) × Unit))) : Nat → Nat → Nat → Int → Int → List Int → Option ((Unit × Unit) × ((List Int) × Unit))
  | 0, _, _, _, _, _ => none
  | n0 + 1, v1, v2, v3, v4, v5 =>
    bif (decide (v3 < v4)) then
      bif ((decide ((0 : Int) ≤ v4)) && (decide (v4 < ((v1 : Nat) : Int)))) then
        match (v5)[(0 + ((Int.toNat v4) * 1))]? with
        | none => none
        | some x6 =>
          bif ((decide ((0 : Int) ≤ v3)) && (decide (v3 < ((v1 : Nat) : Int)))) then
            match (v5)[(0 + ((Int.toNat v3) * 1))]? with
            | none => none
            | some x7 =>
              bif ((decide ((0 : Int) ≤ v3)) && (decide (v3 < ((v1 : Nat) : Int)))) then
                bif (decide ((0 + ((Int.toNat v3) * 1)) < (List.length v5))) then
                  bif ((decide ((0 : Int) ≤ v4)) && (decide (v4 < ((v1 : Nat) : Int)))) then
                    bif (decide ((0 + ((Int.toNat v4) * 1)) < (List.length (List.set v5 (0 + ((Int.toNat v3) * 1)) x6)))) then
                      L270v0_0 N q0_0 n0 v1 v2 (iadd .i64 v3 (1 : Int)) (isub .i64 v4 (1 : Int)) (List.set (List.set v5 (0 + ((Int.toNat v3) * 1)) x6) (0 + ((Int.toNat v4) * 1)) x7)
                    else none
                  else none
                else none
              else none
          else none
      else none
    else
      q0_0 v5
/-- slices.Reverse[[]uint64,uint64] -/
def p270v0 (N : Nat) (a0 : Nat) (a1 : Nat) (a2 : List Int) : Option ((Unit × Unit) × ((List Int) × Unit)) :=
  L270v0_0 N (fun (y8 : List Int) =>
      some (((), ()), (y8, ()))) N a0 a1 (0 : Int) (isub .i64 ((a0 : Nat) : Int) (1 : Int)) a2

/-- euphroe/des.Back -/
def p256 (c247 : Int → Option (List Int)) (d270v0 : Nat → Nat → List Int → Option ((Unit × Unit) × ((List Int) × Unit))) (c268 : Int → List Int → Option Int) (N : Nat) (a0 : Int) (a1 : Int) : Option Int :=
  match c247 a0 with
  | none => none
  | some r1 =>
    bif ((List.length r1) == 16) then
      bif (decide ((0 + (List.length r1)) ≤ 16)) then
        bif (decide (16 ≤ (List.length (([] ++ r1) ++ (List.drop (0 + (List.length r1)) [(0 : Int), (0 : Int), (0 : Int), (0 : Int), (0 : Int), (0 : Int), (0 : Int), (0 : Int), (0 : Int), (0 : Int), (0 : Int), (0 : Int), (0 : Int), (0 : Int), (0 : Int), (0 : Int)]))))) then
          match d270v0 16 16 (([] ++ r1) ++ (List.drop (0 + (List.length r1)) [(0 : Int), (0 : Int), (0 : Int), (0 : Int), (0 : Int), (0 : Int), (0 : Int), (0 : Int), (0 : Int), (0 : Int), (0 : Int), (0 : Int), (0 : Int), (0 : Int), (0 : Int), (0 : Int)])) with
          | none => none
          | some r2 =>
            bif (decide (16 ≤ (List.length r2.2.1))) then
              bif (decide (16 ≤ (List.length r2.2.1))) then
                match c268 a1 (List.take 16 (List.drop 0 r2.2.1)) with
                | none => none
                | some r3 =>
                  some r3
              else none
            else none
        else none
      else none
    else none

def L257_0 (c264 : Int → Option (List (List Int))) (c269 : Int → List (List Int) → Option Int) (N : Nat) (q0_0 : Int → Nat → List V → Option Int) : Nat → Int → List (List Int) → Nat → Int → List V → Option Int
  | 0, _, _, _, _, _ => none
  | n0 + 1, v2, v3, v4, v5, v6 =>
    bif (decide (v5 ≥ (0 : Int))) then
      match geti v3 v5 with
      | none => none
      | some x7 =>
        bif (((List.length v6) == (v4 * 1)) && ((decide (((v4 + 1) * 24) ≤ 1099511627776)) && (decide ((v4 + 1) ≤ 1099511627776)))) then
          L257_0 c264 c269 N q0_0 n0 v2 v3 (v4 + 1) (isub .i64 v5 (1 : Int)) ((v6 ++ [(V.tb (Sh.int .u8) x7)]) : List V)
        else none
    else
      q0_0 v2 v4 (v6 : List V)
/-- euphroe/euphroeref08.Back -/
def p257 (c264 : Int → Option (List (List Int))) (c269 : Int → List (List Int) → Option Int) (N : Nat) (a0 : Int) (a1 : Int) : Option Int :=
  match c264 a0 with
  | none => none
  | some r1 =>
    L257_0 c264 c269 N (fun (y8 : Int) (y9 : Nat) (y10 : List V) =>
        bif (decide ((0 + (y9 * 1)) ≤ (List.length y10))) then
          match rowsOf (Sh.sl (Sh.int .u8)) y9 (List.take (y9 * 1) (List.drop 0 y10)) with
          | none => none
          | some x11 =>
            match c269 y8 x11 with
            | none => none
            | some r12 =>
              some r12
        else none) N a1 r1 0 (isub .i64 (((List.length r1) : Nat) : Int) (1 : Int)) ([] : List V)

/-- euphroe/euphroelaw08.DesTurns -/
def p242 (c254 : Int → Int → Option Int) (c255 : Int → Int → Option Int) (c256 : Int → Int → Option Int) (c257 : Int → Int → Option Int) (c251 : Option Bool) (N : Nat) (a0 : Int) (a1 : Int) : Option Bool :=
  match c254 a0 a1 with
  | none => none
  | some r1 =>
    match c255 a0 a1 with
    | none => none
    | some r2 =>
      bif (r1 == r2) then
        match c256 a0 a1 with
        | none => none
        | some r3 =>
          match c257 a0 a1 with
          | none => none
          | some r4 =>
            bif (r3 == r4) then
              match c251 with
              | none => none
              | some r5 =>
                some r5
            else
              some false
      else
        some false

/-- euphroe/euphroelaw08.DesBack -/
def p243 (c254 : Int → Int → Option Int) (c256 : Int → Int → Option Int) (c251 : Option Bool) (N : Nat) (a0 : Int) (a1 : Int) (a2 : Int) : Option Bool :=
  match c254 a0 a1 with
  | none => none
  | some r1 =>
    match c256 a0 r1 with
    | none => none
    | some r2 =>
      bif (r2 == a1) then
        match c256 a0 a1 with
        | none => none
        | some r3 =>
          match c254 a0 r3 with
          | none => none
          | some r4 =>
            bif (r4 == a1) then
              match c254 (ixor .u64 a0 (iand .u64 a2 (72340172838076673 : Int))) a1 with
              | none => none
              | some r5 =>
                bif (r5 == r1) then
                  match c251 with
                  | none => none
                  | some r6 =>
                    some r6
                else
                  some false
            else
              some false
      else
        some false

/-- euphroe/euphroelaw08.DesOther -/
def p244 (c254 : Int → Int → Option Int) (c256 : Int → Int → Option Int) (c251 : Option Bool) (N : Nat) (a0 : Int) (a1 : Int) : Option Bool :=
  match c254 (ixor .u64 (18446744073709551615 : Int) a0) (ixor .u64 (18446744073709551615 : Int) a1) with
  | none => none
  | some r1 =>
    match c254 a0 a1 with
    | none => none
    | some r2 =>
      bif (r1 == (ixor .u64 (18446744073709551615 : Int) r2)) then
        match c256 (ixor .u64 (18446744073709551615 : Int) a0) (ixor .u64 (18446744073709551615 : Int) a1) with
        | none => none
        | some r3 =>
          match c256 a0 a1 with
          | none => none
          | some r4 =>
            bif (r3 == (ixor .u64 (18446744073709551615 : Int) r4)) then
              match c251 with
              | none => none
              | some r5 =>
                some r5
            else
              some false
      else
        some false
end Go.Proofs.YtpiadkdalilmnaaE
