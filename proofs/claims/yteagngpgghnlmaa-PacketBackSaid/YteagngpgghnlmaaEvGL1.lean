/- The functions as plain ones. -/
import Derived.Test.YteagngpgghnlmaaEvFL1
namespace Go.Proofs.YteagngpgghnlmaaE
open Go
set_option linter.unusedVariables false
set_option linter.unusedSimpArgs false
/-- slices.Concat[[]byte,byte] -/
abbrev en1 (f : List (List Int) → Option (List Int)) : Ent := ⟨[(Sh.sl (Sh.sl (Sh.int .u8)))], List Int, fun v => f v.1, ownOut .u8⟩
/-- euphroe/octs.Put -/
abbrev en19 (f : Int → Int → Bool → Option ((List Int) × Int)) : Ent := ⟨[(Sh.int .u64), (Sh.int .i64), Sh.bool], (List Int) × Int, fun v => f v.1 v.2.1 v.2.2.1, fun r => (((Sh.tu (Sh.pr (Sh.sl (Sh.int .u8)) (Sh.int .i64)))).enc r, [])⟩
/-- euphroe/octs.Get -/
abbrev en21 (f : List Int → Bool → Option (Int × Int)) : Ent := ⟨[(Sh.sl (Sh.int .u8)), Sh.bool], Int × Int, fun v => f v.1 v.2.1, fun r => (((Sh.tu (Sh.pr (Sh.int .u64) (Sh.int .i64)))).enc r, [])⟩
/-- euphroe/euphroeref01.Same -/
abbrev en23 (f : List Int → List Int → Option Bool) : Ent := ⟨[(Sh.sl (Sh.int .u8)), (Sh.sl (Sh.int .u8))], Bool, fun v => f v.1 v.2.1, fun r => ((Sh.bool).enc r, [])⟩
/-- euphroe/octs.Join -/
abbrev en46 (f : List (List Int) → Option (List Int)) : Ent := ⟨[(Sh.sl (Sh.sl (Sh.int .u8)))], List Int, fun v => f v.1, ownOut .u8⟩
/-- euphroe/euphroeref01.Big -/
abbrev en50 (f : Int → Int → Option (List Int)) : Ent := ⟨[(Sh.int .u64), (Sh.int .i64)], List Int, fun v => f v.1 v.2.1, ownOut .u8⟩
/-- euphroe/euphroeref01.Num -/
abbrev en51 (f : List Int → Option Int) : Ent := ⟨[(Sh.sl (Sh.int .u8))], Int, fun v => f v.1, fun r => (((Sh.int .u64)).enc r, [])⟩
/-- bytes.Clone -/
abbrev en108 (f : List Int → Option (List Int)) : Ent := ⟨[(Sh.sl (Sh.int .u8))], List Int, fun v => f v.1, ownOut .u8⟩
/-- euphroe/attr.Lay -/
abbrev en139 (f : Int × (List Int) → Option ((List Int) × Int)) : Ent := ⟨[(Sh.st (Sh.pr (Sh.int .u8) (Sh.sl (Sh.int .u8))))], (List Int) × Int, fun v => f v.1, fun r => (((Sh.tu (Sh.pr (Sh.sl (Sh.int .u8)) (Sh.int .i64)))).enc r, [])⟩
/-- euphroe/euphroeref17.Lay -/
abbrev en141 (f : Int × (List Int) → Option ((List Int) × Int)) : Ent := ⟨[(Sh.st (Sh.pr (Sh.int .u8) (Sh.sl (Sh.int .u8))))], (List Int) × Int, fun v => f v.1, fun r => (((Sh.tu (Sh.pr (Sh.sl (Sh.int .u8)) (Sh.int .i64)))).enc r, [])⟩
/-- euphroe/attr.Parse -/
abbrev en142 (f : List Int → Option ((Int × (List Int)) × Int × Int)) : Ent := ⟨[(Sh.sl (Sh.int .u8))], (Int × (List Int)) × Int × Int, fun v => f v.1, fun r => (((Sh.tu (Sh.pr (Sh.st (Sh.pr (Sh.int .u8) (Sh.sl (Sh.int .u8)))) (Sh.pr (Sh.int .i64) (Sh.int .i64))))).enc r, [])⟩
/-- euphroe/euphroeref17.Parse -/
abbrev en143 (f : List Int → Option ((Int × (List Int)) × Int × Int)) : Ent := ⟨[(Sh.sl (Sh.int .u8))], (Int × (List Int)) × Int × Int, fun v => f v.1, fun r => (((Sh.tu (Sh.pr (Sh.st (Sh.pr (Sh.int .u8) (Sh.sl (Sh.int .u8)))) (Sh.pr (Sh.int .i64) (Sh.int .i64))))).enc r, [])⟩
/-- euphroe/attr.Same -/
abbrev en144 (f : Int × (List Int) → Int × (List Int) → Option Bool) : Ent := ⟨[(Sh.st (Sh.pr (Sh.int .u8) (Sh.sl (Sh.int .u8)))), (Sh.st (Sh.pr (Sh.int .u8) (Sh.sl (Sh.int .u8))))], Bool, fun v => f v.1 v.2.1, fun r => ((Sh.bool).enc r, [])⟩
/-- euphroe/attr.Check -/
abbrev en145 (f : Int × (List Int) → Option Int) : Ent := ⟨[(Sh.st (Sh.pr (Sh.int .u8) (Sh.sl (Sh.int .u8))))], Int, fun v => f v.1, fun r => (((Sh.int .i64)).enc r, [])⟩
/-- euphroe/euphroeref17.Check -/
abbrev en146 (f : Int × (List Int) → Option Int) : Ent := ⟨[(Sh.st (Sh.pr (Sh.int .u8) (Sh.sl (Sh.int .u8))))], Int, fun v => f v.1, fun r => (((Sh.int .i64)).enc r, [])⟩
/-- bytes.Equal -/
abbrev en160 (f : List Int → List Int → Option Bool) : Ent := ⟨[(Sh.sl (Sh.int .u8)), (Sh.sl (Sh.int .u8))], Bool, fun v => f v.1 v.2.1, fun r => ((Sh.bool).enc r, [])⟩
/-- euphroe/attr.isKind -/
abbrev en161 (f : Int → Option Bool) : Ent := ⟨[(Sh.int .u8)], Bool, fun v => f v.1, fun r => ((Sh.bool).enc r, [])⟩
/-- euphroe/euphroeref17.kind -/
abbrev en162 (f : Int → Option Bool) : Ent := ⟨[(Sh.int .u8)], Bool, fun v => f v.1, fun r => ((Sh.bool).enc r, [])⟩
/-- euphroe/attr.limits -/
abbrev en163 (f : Int → Option (Int × Int × Int × Int)) : Ent := ⟨[(Sh.int .u8)], Int × Int × Int × Int, fun v => f v.1, fun r => (((Sh.tu (Sh.pr (Sh.int .i64) (Sh.pr (Sh.int .i64) (Sh.pr (Sh.int .u8) (Sh.int .u8)))))).enc r, [])⟩
/-- bytes.HasPrefix -/
abbrev en164 (f : List Int → List Int → Option Bool) : Ent := ⟨[(Sh.sl (Sh.int .u8)), (Sh.sl (Sh.int .u8))], Bool, fun v => f v.1 v.2.1, fun r => ((Sh.bool).enc r, [])⟩
/-- euphroe/euphroeref17.zeros -/
abbrev en165 (f : List Int → Option Bool) : Ent := ⟨[(Sh.sl (Sh.int .u8))], Bool, fun v => f v.1, fun r => ((Sh.bool).enc r, [])⟩
/-- euphroe/packet.Same -/
abbrev en302 (f : Bool × Int × (List (Int × (List Int))) × (List Int) → Bool × Int × (List (Int × (List Int))) × (List Int) → Option Bool) : Ent := ⟨[(Sh.st (Sh.pr Sh.bool (Sh.pr (Sh.int .u16) (Sh.pr (Sh.sl (Sh.pr (Sh.int .u8) (Sh.sl (Sh.int .u8)))) (Sh.sl (Sh.int .u8)))))), (Sh.st (Sh.pr Sh.bool (Sh.pr (Sh.int .u16) (Sh.pr (Sh.sl (Sh.pr (Sh.int .u8) (Sh.sl (Sh.int .u8)))) (Sh.sl (Sh.int .u8))))))], Bool, fun v => f v.1 v.2.1, fun r => ((Sh.bool).enc r, [])⟩
/-- euphroe/packet.Of -/
abbrev en316 (f : Int → List (Int × (List Int)) → Option (Bool × Int × (List (Int × (List Int))) × (List Int))) : Ent := ⟨[(Sh.int .u16), (Sh.sl (Sh.pr (Sh.int .u8) (Sh.sl (Sh.int .u8))))], Bool × Int × (List (Int × (List Int))) × (List Int), fun v => f v.1 v.2.1, fun r => (((Sh.st (Sh.pr Sh.bool (Sh.pr (Sh.int .u16) (Sh.pr (Sh.sl (Sh.pr (Sh.int .u8) (Sh.sl (Sh.int .u8)))) (Sh.sl (Sh.int .u8))))))).enc r, [])⟩
/-- euphroe/packet.Lay -/
abbrev en317 (f : Bool × Int × (List (Int × (List Int))) × (List Int) → Option ((List Int) × Int)) : Ent := ⟨[(Sh.st (Sh.pr Sh.bool (Sh.pr (Sh.int .u16) (Sh.pr (Sh.sl (Sh.pr (Sh.int .u8) (Sh.sl (Sh.int .u8)))) (Sh.sl (Sh.int .u8))))))], (List Int) × Int, fun v => f v.1, fun r => (((Sh.tu (Sh.pr (Sh.sl (Sh.int .u8)) (Sh.int .i64)))).enc r, [])⟩
/-- euphroe/euphroeref18.Lay -/
abbrev en319 (f : Bool × Int × (List (Int × (List Int))) × (List Int) → Option ((List Int) × Int)) : Ent := ⟨[(Sh.st (Sh.pr Sh.bool (Sh.pr (Sh.int .u16) (Sh.pr (Sh.sl (Sh.pr (Sh.int .u8) (Sh.sl (Sh.int .u8)))) (Sh.sl (Sh.int .u8))))))], (List Int) × Int, fun v => f v.1, fun r => (((Sh.tu (Sh.pr (Sh.sl (Sh.int .u8)) (Sh.int .i64)))).enc r, [])⟩
/-- slices.Clone[[]euphroe/api.Attr,euphroe/api.Attr] -/
abbrev en320 (f : List (Int × (List Int)) → Option (List (Int × (List Int)))) : Ent := ⟨[(Sh.sl (Sh.pr (Sh.int .u8) (Sh.sl (Sh.int .u8))))], List (Int × (List Int)), fun v => f v.1, fun r => (((Sh.sl (Sh.pr (Sh.int .u8) (Sh.sl (Sh.int .u8))))).enc r, [])⟩
/-- euphroe/packet.body -/
abbrev en321 (f : Bool × Int × (List (Int × (List Int))) × (List Int) → Option ((List Int) × Int)) : Ent := ⟨[(Sh.st (Sh.pr Sh.bool (Sh.pr (Sh.int .u16) (Sh.pr (Sh.sl (Sh.pr (Sh.int .u8) (Sh.sl (Sh.int .u8)))) (Sh.sl (Sh.int .u8))))))], (List Int) × Int, fun v => f v.1, fun r => (((Sh.tu (Sh.pr (Sh.sl (Sh.int .u8)) (Sh.int .i64)))).enc r, [])⟩
/-- euphroe/packet.number -/
abbrev en322 (f : Int → Option (List Int)) : Ent := ⟨[(Sh.int .i64)], List Int, fun v => f v.1, fun r => (((Sh.sl (Sh.int .u8))).enc r, [])⟩
/-- euphroe/packet.Check -/
abbrev en323 (f : Bool × Int × (List (Int × (List Int))) × (List Int) → Option Int) : Ent := ⟨[(Sh.st (Sh.pr Sh.bool (Sh.pr (Sh.int .u16) (Sh.pr (Sh.sl (Sh.pr (Sh.int .u8) (Sh.sl (Sh.int .u8)))) (Sh.sl (Sh.int .u8))))))], Int, fun v => f v.1, fun r => (((Sh.int .i64)).enc r, [])⟩
/-- euphroe/packet.wants -/
abbrev en324 (f : Int → Option (Int × Int × Int)) : Ent := ⟨[(Sh.int .u16)], Int × Int × Int, fun v => f v.1, fun r => (((Sh.tu (Sh.pr (Sh.int .u8) (Sh.pr (Sh.int .i64) (Sh.int .i64))))).enc r, [])⟩
/-- euphroe/euphroelaw18.PacketLays -/
abbrev en328 (f : Bool × Int × (List (Int × (List Int))) × (List Int) → Option Bool) : Ent := ⟨[(Sh.st (Sh.pr Sh.bool (Sh.pr (Sh.int .u16) (Sh.pr (Sh.sl (Sh.pr (Sh.int .u8) (Sh.sl (Sh.int .u8)))) (Sh.sl (Sh.int .u8))))))], Bool, fun v => f v.1, fun r => ((Sh.bool).enc r, [])⟩
/-- euphroe/euphroelaw18.PacketParses -/
abbrev en329 (f : List Int → Option Bool) : Ent := ⟨[(Sh.sl (Sh.int .u8))], Bool, fun v => f v.1, fun r => ((Sh.bool).enc r, [])⟩
/-- euphroe/euphroelaw18.PacketBack -/
abbrev en330 (f : Bool × Int × (List (Int × (List Int))) × (List Int) → Bool × Int × (List (Int × (List Int))) × (List Int) → List Int → Option Bool) : Ent := ⟨[(Sh.st (Sh.pr Sh.bool (Sh.pr (Sh.int .u16) (Sh.pr (Sh.sl (Sh.pr (Sh.int .u8) (Sh.sl (Sh.int .u8)))) (Sh.sl (Sh.int .u8)))))), (Sh.st (Sh.pr Sh.bool (Sh.pr (Sh.int .u16) (Sh.pr (Sh.sl (Sh.pr (Sh.int .u8) (Sh.sl (Sh.int .u8)))) (Sh.sl (Sh.int .u8)))))), (Sh.sl (Sh.int .u8))], Bool, fun v => f v.1 v.2.1 v.2.2.1, fun r => ((Sh.bool).enc r, [])⟩
/-- euphroe/euphroelaw18.PacketMakes -/
abbrev en331 (f : Int → Bool × Int × (List (Int × (List Int))) × (List Int) → Option Bool) : Ent := ⟨[(Sh.int .u16), (Sh.st (Sh.pr Sh.bool (Sh.pr (Sh.int .u16) (Sh.pr (Sh.sl (Sh.pr (Sh.int .u8) (Sh.sl (Sh.int .u8)))) (Sh.sl (Sh.int .u8))))))], Bool, fun v => f v.1 v.2.1, fun r => ((Sh.bool).enc r, [])⟩
/-- euphroe/euphroelaw18.PacketLength -/
abbrev en332 (f : Bool × Int × (List (Int × (List Int))) × (List Int) → Int → Option Bool) : Ent := ⟨[(Sh.st (Sh.pr Sh.bool (Sh.pr (Sh.int .u16) (Sh.pr (Sh.sl (Sh.pr (Sh.int .u8) (Sh.sl (Sh.int .u8)))) (Sh.sl (Sh.int .u8)))))), (Sh.int .u16)], Bool, fun v => f v.1 v.2.1, fun r => ((Sh.bool).enc r, [])⟩
/-- euphroe/euphroelaw18.far -/
abbrev en337 (f : Bool × Int × (List (Int × (List Int))) × (List Int) → Option Bool) : Ent := ⟨[(Sh.st (Sh.pr Sh.bool (Sh.pr (Sh.int .u16) (Sh.pr (Sh.sl (Sh.pr (Sh.int .u8) (Sh.sl (Sh.int .u8)))) (Sh.sl (Sh.int .u8))))))], Bool, fun v => f v.1, fun r => ((Sh.bool).enc r, [])⟩
/-- euphroe/euphroelaw18.alive -/
abbrev en338 (f : Option Bool) : Ent := ⟨[], Bool, fun v => f, fun r => ((Sh.bool).enc r, [])⟩
/-- euphroe/euphroelaw18.theirs -/
abbrev en339 (f : Bool × Int × (List (Int × (List Int))) × (List Int) → Option (Bool × Int × (List (Int × (List Int))) × (List Int))) : Ent := ⟨[(Sh.st (Sh.pr Sh.bool (Sh.pr (Sh.int .u16) (Sh.pr (Sh.sl (Sh.pr (Sh.int .u8) (Sh.sl (Sh.int .u8)))) (Sh.sl (Sh.int .u8))))))], Bool × Int × (List (Int × (List Int))) × (List Int), fun v => f v.1, fun r => (((Sh.st (Sh.pr Sh.bool (Sh.pr (Sh.int .u16) (Sh.pr (Sh.sl (Sh.pr (Sh.int .u8) (Sh.sl (Sh.int .u8)))) (Sh.sl (Sh.int .u8))))))).enc r, [])⟩
/-- euphroe/euphroeref18.Check -/
abbrev en340 (f : Bool × Int × (List (Int × (List Int))) × (List Int) → Option Int) : Ent := ⟨[(Sh.st (Sh.pr Sh.bool (Sh.pr (Sh.int .u16) (Sh.pr (Sh.sl (Sh.pr (Sh.int .u8) (Sh.sl (Sh.int .u8)))) (Sh.sl (Sh.int .u8))))))], Int, fun v => f v.1, fun r => (((Sh.int .i64)).enc r, [])⟩
/-- euphroe/packet.Parse -/
abbrev en341 (f : List Int → Option ((Bool × Int × (List (Int × (List Int))) × (List Int)) × Int)) : Ent := ⟨[(Sh.sl (Sh.int .u8))], (Bool × Int × (List (Int × (List Int))) × (List Int)) × Int, fun v => f v.1, fun r => (((Sh.tu (Sh.pr (Sh.st (Sh.pr Sh.bool (Sh.pr (Sh.int .u16) (Sh.pr (Sh.sl (Sh.pr (Sh.int .u8) (Sh.sl (Sh.int .u8)))) (Sh.sl (Sh.int .u8)))))) (Sh.int .i64)))).enc r, [])⟩
/-- euphroe/euphroeref18.Parse -/
abbrev en342 (f : List Int → Option ((Bool × Int × (List (Int × (List Int))) × (List Int)) × Int)) : Ent := ⟨[(Sh.sl (Sh.int .u8))], (Bool × Int × (List (Int × (List Int))) × (List Int)) × Int, fun v => f v.1, fun r => (((Sh.tu (Sh.pr (Sh.st (Sh.pr Sh.bool (Sh.pr (Sh.int .u16) (Sh.pr (Sh.sl (Sh.pr (Sh.int .u8) (Sh.sl (Sh.int .u8)))) (Sh.sl (Sh.int .u8)))))) (Sh.int .i64)))).enc r, [])⟩
/-- euphroe/packet.Length -/
abbrev en343 (f : List Int → Option (Int × Int)) : Ent := ⟨[(Sh.sl (Sh.int .u8))], Int × Int, fun v => f v.1, fun r => (((Sh.tu (Sh.pr (Sh.int .i64) (Sh.int .i64)))).enc r, [])⟩
/-- euphroe/euphroeref18.Length -/
abbrev en344 (f : List Int → Option (Int × Int)) : Ent := ⟨[(Sh.sl (Sh.int .u8))], Int × Int, fun v => f v.1, fun r => (((Sh.tu (Sh.pr (Sh.int .i64) (Sh.int .i64)))).enc r, [])⟩
/-- euphroe/euphroeref18.Same -/
abbrev en345 (f : Bool × Int × (List (Int × (List Int))) × (List Int) → Bool × Int × (List (Int × (List Int))) × (List Int) → Option Bool) : Ent := ⟨[(Sh.st (Sh.pr Sh.bool (Sh.pr (Sh.int .u16) (Sh.pr (Sh.sl (Sh.pr (Sh.int .u8) (Sh.sl (Sh.int .u8)))) (Sh.sl (Sh.int .u8)))))), (Sh.st (Sh.pr Sh.bool (Sh.pr (Sh.int .u16) (Sh.pr (Sh.sl (Sh.pr (Sh.int .u8) (Sh.sl (Sh.int .u8)))) (Sh.sl (Sh.int .u8))))))], Bool, fun v => f v.1 v.2.1, fun r => ((Sh.bool).enc r, [])⟩
/-- euphroe/packet.OfData -/
abbrev en346 (f : List Int → Option (Bool × Int × (List (Int × (List Int))) × (List Int))) : Ent := ⟨[(Sh.sl (Sh.int .u8))], Bool × Int × (List (Int × (List Int))) × (List Int), fun v => f v.1, fun r => (((Sh.st (Sh.pr Sh.bool (Sh.pr (Sh.int .u16) (Sh.pr (Sh.sl (Sh.pr (Sh.int .u8) (Sh.sl (Sh.int .u8)))) (Sh.sl (Sh.int .u8))))))).enc r, [])⟩
/-- euphroe/euphroeref18.has -/
abbrev en358 (f : Bool × Int × (List (Int × (List Int))) × (List Int) → Option Bool) : Ent := ⟨[(Sh.st (Sh.pr Sh.bool (Sh.pr (Sh.int .u16) (Sh.pr (Sh.sl (Sh.pr (Sh.int .u8) (Sh.sl (Sh.int .u8)))) (Sh.sl (Sh.int .u8))))))], Bool, fun v => f v.1, fun r => ((Sh.bool).enc r, [])⟩
/-- euphroe/packet.attrs -/
abbrev en359 (f : List Int → Int → Option ((List (Int × (List Int))) × Int)) : Ent := ⟨[(Sh.sl (Sh.int .u8)), (Sh.int .u64)], (List (Int × (List Int))) × Int, fun v => f v.1 v.2.1, fun r => (((Sh.tu (Sh.pr (Sh.sl (Sh.pr (Sh.int .u8) (Sh.sl (Sh.int .u8)))) (Sh.int .i64)))).enc r, [])⟩
/-- euphroe/euphroeref17.Same -/
abbrev en360 (f : Int × (List Int) → Int × (List Int) → Option Bool) : Ent := ⟨[(Sh.st (Sh.pr (Sh.int .u8) (Sh.sl (Sh.int .u8)))), (Sh.st (Sh.pr (Sh.int .u8) (Sh.sl (Sh.int .u8))))], Bool, fun v => f v.1 v.2.1, fun r => ((Sh.bool).enc r, [])⟩
/-- euphroe/euphroeref18.kinds -/
abbrev en363 (f : List (Int × (List Int)) → List Int → Option Bool) : Ent := ⟨[(Sh.sl (Sh.pr (Sh.int .u8) (Sh.sl (Sh.int .u8)))), (Sh.sl (Sh.int .u8))], Bool, fun v => f v.1 v.2.1, fun r => ((Sh.bool).enc r, [])⟩
def PR64v0 : Pr := ⟨(.cons .nils (.cons (.int .i64) .nil)), []⟩
def QR64v0 : Pr := ⟨(.cons (.sl 0 1) .nil), [(.ints false .u8)]⟩
/-- slices.Grow[[]byte,byte] -/
abbrev rn64v0 (f : Int → Option ((Nat × Unit) × ((List Int) × Unit))) : REnt := ⟨PR64v0, QR64v0, (Nat × Unit) × ((List Int) × Unit), fun v => f v.1.2.1, fun r => r⟩
def PR48v0 : Pr := ⟨(.cons (.slc 0 1) .nil), [(.ints false .u8)]⟩
def QR48v0 : Pr := ⟨(.cons .tup0 .nil), [(.ints false .u8)]⟩
/-- slices.Reverse[[]byte,byte] -/
abbrev rn48v0 (f : Nat → Nat → List Int → Option ((Unit × Unit) × ((List Int) × Unit))) : REnt := ⟨PR48v0, QR48v0, (Unit × Unit) × ((List Int) × Unit), fun v => f v.1.1.1 v.1.1.2 v.2.1, fun r => r⟩
def PR313v0 : Pr := ⟨(.cons (.tb (Sh.pr (Sh.int .u8) (Sh.sl (Sh.int .u8)))) (.cons (.tb (Sh.pr (Sh.int .u8) (Sh.sl (Sh.int .u8)))) (.cons (.fn 144 .nil) .nil))), []⟩
def QR313v0 : Pr := ⟨(.cons .bool .nil), []⟩
/-- slices.EqualFunc[[]euphroe/api.Attr,[]euphroe/api.Attr,euphroe/api.Attr,euphroe/api.Attr] -/
abbrev rn313v0 (f : List (Int × (List Int)) → List (Int × (List Int)) → Option ((Bool × Unit) × Unit)) : REnt := ⟨PR313v0, QR313v0, (Bool × Unit) × Unit, fun v => f v.1.1 v.1.2.1, fun r => r⟩
def PR326v0 : Pr := ⟨(.cons (.im (.cons (.int .u8) (.cons (.tb (Sh.int .u8)) .nil))) (.cons (.ptr 0 0) .nil)), [(.ints false .u8)]⟩
def QR326v0 : Pr := ⟨(.cons .bool .nil), [(.ints false .u8)]⟩
/-- euphroe/packet.Check$1 -/
abbrev rn326v0 (f : Int → List Int → List Int → Option ((Bool × Unit) × ((List Int) × Unit))) : REnt := ⟨PR326v0, QR326v0, (Bool × Unit) × ((List Int) × Unit), fun v => f v.1.1.1 v.1.1.2.1 v.2.1, fun r => r⟩
def PR327v0 : Pr := ⟨(.cons (.tb (Sh.pr (Sh.int .u8) (Sh.sl (Sh.int .u8)))) (.cons (.fn 326 (.cons (.ptr 0 0) .nil)) .nil)), [(.ints false .u8)]⟩
def QR327v0 : Pr := ⟨(.cons (.int .i64) .nil), [(.ints false .u8)]⟩
/-- slices.IndexFunc[[]euphroe/api.Attr,euphroe/api.Attr] -/
abbrev rn327v0 (f : List (Int × (List Int)) → List Int → Option ((Int × Unit) × ((List Int) × Unit))) : REnt := ⟨PR327v0, QR327v0, (Int × Unit) × ((List Int) × Unit), fun v => f v.1.1 v.2.1, fun r => r⟩
def PR325v0 : Pr := ⟨(.cons (.tb (Sh.pr (Sh.int .u8) (Sh.sl (Sh.int .u8)))) (.cons (.fn 326 (.cons (.ptr 0 0) .nil)) .nil)), [(.ints false .u8)]⟩
def QR325v0 : Pr := ⟨(.cons .bool .nil), [(.ints false .u8)]⟩
/-- slices.ContainsFunc[[]euphroe/api.Attr,euphroe/api.Attr] -/
abbrev rn325v0 (f : List (Int × (List Int)) → List Int → Option ((Bool × Unit) × ((List Int) × Unit))) : REnt := ⟨PR325v0, QR325v0, (Bool × Unit) × ((List Int) × Unit), fun v => f v.1.1 v.2.1, fun r => r⟩

/-- slices.Grow[[]byte,byte] -/
def p64v0 (N : Nat) (a0 : Int) : Option ((Nat × Unit) × ((List Int) × Unit)) :=
  bif (decide (a0 < (0 : Int))) then
    none
  else
    bif (decide ((isub .i64 a0 (0 : Int)) > (0 : Int))) then
      bif ((decide ((0 : Int) ≤ (isub .i64 a0 (0 : Int)))) && ((decide (((isub .i64 a0 (0 : Int)) * ((1 : Nat) : Int)) ≤ (1099511627776 : Int))) && (decide ((isub .i64 a0 (0 : Int)) ≤ (1099511627776 : Int))))) then
        bif (decide ((0 : Int) ≤ (((Int.toNat (isub .i64 a0 (0 : Int))) : Nat) : Int))) then
          some ((0, ()), (([] : List Int), ()))
        else none
      else none
    else
      some ((0, ()), (([] : List Int), ()))

def L1_0 (d64v0 : Int → Option ((Nat × Unit) × ((List Int) × Unit))) (N : Nat) (q0_0 : List (List Int) → Int → Option (List Int)) : Nat → List (List Int) → Int → List (List Int) → Int → Int → Option (List Int)
  | 0, _, _, _, _, _ => none
  | n0 + 1, v1, v2, v3, v4, v5 =>
    bif (decide (v5 < v4)) then
      match geti v3 v5 with
      | none => none
      | some x6 =>
        bif (decide ((iadd .i64 v2 (((List.length x6) : Nat) : Int)) < (0 : Int))) then
          none
        else
          L1_0 d64v0 N q0_0 n0 v1 (iadd .i64 v2 (((List.length x6) : Nat) : Int)) v3 v4 (iadd .i64 v5 (1 : Int))
    else
      q0_0 v1 v2
def L1_1 (d64v0 : Int → Option ((Nat × Unit) × ((List Int) × Unit))) (N : Nat) (q1_2 : Nat → List Int → Option (List Int)) : Nat → Nat → List (List Int) → Int → Int → List Int → Option (List Int)
  | 0, _, _, _, _, _ => none
  | n1 + 1, v10, v11, v12, v13, v14 =>
    bif (decide (v13 < v12)) then
      match geti v11 v13 with
      | none => none
      | some x15 =>
        bif (((List.length v14) == (v10 * 1)) && ((decide (((v10 + (List.length x15)) * 1) ≤ 1099511627776)) && (decide ((v10 + (List.length x15)) ≤ 1099511627776)))) then
          L1_1 d64v0 N q1_2 n1 (v10 + (List.length x15)) v11 v12 (iadd .i64 v13 (1 : Int)) (v14 ++ x15)
        else none
    else
      q1_2 v10 v14
/-- slices.Concat[[]byte,byte] -/
def p1 (d64v0 : Int → Option ((Nat × Unit) × ((List Int) × Unit))) (N : Nat) (a0 : List (List Int)) : Option (List Int) :=
  L1_0 d64v0 N (fun (y7 : List (List Int)) (y8 : Int) =>
      match d64v0 y8 with
      | none => none
      | some r9 =>
        L1_1 d64v0 N (fun (y16 : Nat) (y17 : List Int) =>
            bif (y16 == (List.length y17)) then
              some y17
            else none) N r9.1.1 y7 (((List.length y7) : Nat) : Int) (0 : Int) r9.2.1) N a0 (0 : Int) a0 (((List.length a0) : Nat) : Int) (0 : Int)

def L48v0_0 (N : Nat) (q0_0 : List Int → Option ((Unit × Unit) × ((List Int) × Unit))) : Nat → Nat → Nat → Int → Int → List Int → Option ((Unit × Unit) × ((List Int) × Unit))
  | 0, _, _, _, _, _ => none
  | n0 + 1, v1, v2, v3, v4, v5 =>
    bif (decide (v3 < v4)) then
      bif ((decide ((0 : Int) ≤ v4)) && (decide (v4 < ((v1 : Nat) : Int)))) then
        match (v5)[(0 + ((Int.toNat v4) * 1))]? with
        | none => none
        | some x6 =>
          bif ((decide ((0 : Int) ≤ v3)) && (decide (v3 < ((v1 : Nat) : Int)))) then
            match (v5)[(0 + ((Int.toNat v3) * 1))]? with
            | none => none
            | some x7 =>
              bif ((decide ((0 : Int) ≤ v3)) && (decide (v3 < ((v1 : Nat) : Int)))) then
                bif (decide ((0 + ((Int.toNat v3) * 1)) < (List.length v5))) then
                  bif ((decide ((0 : Int) ≤ v4)) && (decide (v4 < ((v1 : Nat) : Int)))) then
                    bif (decide ((0 + ((Int.toNat v4) * 1)) < (List.length (List.set v5 (0 + ((Int.toNat v3) * 1)) x6)))) then
                      L48v0_0 N q0_0 n0 v1 v2 (iadd .i64 v3 (1 : Int)) (isub .i64 v4 (1 : Int)) (List.set (List.set v5 (0 + ((Int.toNat v3) * 1)) x6) (0 + ((Int.toNat v4) * 1)) x7)
                    else none
                  else none
                else none
              else none
          else none
      else none
    else
      q0_0 v5
/-- slices.Reverse[[]byte,byte] -/
def p48v0 (N : Nat) (a0 : Nat) (a1 : Nat) (a2 : List Int) : Option ((Unit × Unit) × ((List Int) × Unit)) :=
  L48v0_0 N (fun (y8 : List Int) =>
      some (((), ()), (y8, ()))) N a0 a1 (0 : Int) (isub .i64 ((a0 : Nat) : Int) (1 : Int)) a2

def L19_0 (d48v0 : Nat → Nat → List Int → Option ((Unit × Unit) × ((List Int) × Unit))) (N : Nat) (q0_0 : Bool → Nat → Nat → List Int → Option ((List Int) × Int)) : Nat → Int → Bool → Nat → Nat → Int → Int → List Int → Option ((List Int) × Int)
  | 0, _, _, _, _, _, _, _ => none
  | n0 + 1, v1, v2, v3, v4, v5, v6, v7 =>
    bif (decide (v6 < v5)) then
      bif (decide ((imul .i64 (8 : Int) v6) < (0 : Int))) then
        none
      else
        bif ((decide ((0 : Int) ≤ v6)) && (decide (v6 < ((v3 : Nat) : Int)))) then
          bif (decide ((0 + ((Int.toNat v6) * 1)) < (List.length v7))) then
            L19_0 d48v0 N q0_0 n0 v1 v2 v3 v4 v5 (iadd .i64 v6 (1 : Int)) (List.set v7 (0 + ((Int.toNat v6) * 1)) (IntKind.wrap .u8 (ishr .u64 v1 (imul .i64 (8 : Int) v6))))
          else none
        else none
    else
      q0_0 v2 v3 v4 v7
/-- euphroe/octs.Put -/
def p19 (d48v0 : Nat → Nat → List Int → Option ((Unit × Unit) × ((List Int) × Unit))) (N : Nat) (a0 : Int) (a1 : Int) (a2 : Bool) : Option ((List Int) × Int) :=
  bif (decide (a1 < (1 : Int))) then
    some (([] : List Int), (1 : Int))
  else
    bif (decide (a1 > (8 : Int))) then
      some (([] : List Int), (1 : Int))
    else
      bif ((decide ((0 : Int) ≤ a1)) && ((decide (a1 ≤ a1)) && ((decide ((a1 * ((1 : Nat) : Int)) ≤ (1099511627776 : Int))) && (decide (a1 ≤ (1099511627776 : Int)))))) then
        L19_0 d48v0 N (fun (y8 : Bool) (y9 : Nat) (y10 : Nat) (y11 : List Int) =>
            bif (!y8) then
              match d48v0 y9 y10 y11 with
              | none => none
              | some r12 =>
                bif (decide ((0 + (y9 * 1)) ≤ (List.length r12.2.1))) then
                  some ((List.take y9 (List.drop 0 r12.2.1)), (0 : Int))
                else none
            else
              bif (decide ((0 + (y9 * 1)) ≤ (List.length y11))) then
                some ((List.take y9 (List.drop 0 y11)), (0 : Int))
              else none) N a0 a2 (Int.toNat a1) (Int.toNat a1) (((Int.toNat a1) : Nat) : Int) (0 : Int) (List.replicate (Int.toNat a1) (0 : Int))
      else none

def L21_0 (N : Nat) (q0_0 : Int → Option (Int × Int)) : Nat → Bool → Int → List Int → Int → Int → Option (Int × Int)
  | 0, _, _, _, _, _ => none
  | n0 + 1, v1, v2, v3, v4, v5 =>
    bif (decide (v5 < v4)) then
      match geti v3 v5 with
      | none => none
      | some x6 =>
        bif v1 then
          bif (decide ((imul .i64 (8 : Int) v5) < (0 : Int))) then
            none
          else
            L21_0 N q0_0 n0 v1 (ior .u64 v2 (ishl .u64 (IntKind.wrap .u64 x6) (imul .i64 (8 : Int) v5))) v3 v4 (iadd .i64 v5 (1 : Int))
        else
          L21_0 N q0_0 n0 v1 (ior .u64 (ishl .u64 v2 (8 : Int)) (IntKind.wrap .u64 x6)) v3 v4 (iadd .i64 v5 (1 : Int))
    else
      q0_0 v2
/-- euphroe/octs.Get -/
def p21 (N : Nat) (a0 : List Int) (a1 : Bool) : Option (Int × Int) :=
  bif (decide ((((List.length a0) : Nat) : Int) < (1 : Int))) then
    some ((0 : Int), (1 : Int))
  else
    bif (decide ((((List.length a0) : Nat) : Int) > (8 : Int))) then
      some ((0 : Int), (1 : Int))
    else
      L21_0 N (fun (y7 : Int) =>
          some (y7, (0 : Int))) N a1 (0 : Int) a0 (((List.length a0) : Nat) : Int) (0 : Int)

def L23_0 (N : Nat) (q0_0 : Option Bool) : Nat → List Int → List Int → Int → Option Bool
  | 0, _, _, _ => none
  | n0 + 1, v1, v2, v3 =>
    bif (decide (v3 < (((List.length v1) : Nat) : Int))) then
      match geti v1 v3 with
      | none => none
      | some x4 =>
        match geti v2 v3 with
        | none => none
        | some x5 =>
          bif (x4 != x5) then
            some false
          else
            L23_0 N q0_0 n0 v1 v2 (iadd .i64 v3 (1 : Int))
    else
      q0_0
/-- euphroe/euphroeref01.Same -/
def p23 (N : Nat) (a0 : List Int) (a1 : List Int) : Option Bool :=
  bif ((((List.length a0) : Nat) : Int) != (((List.length a1) : Nat) : Int)) then
    some false
  else
    L23_0 N (
        some true) N a0 a1 (0 : Int)

/-- euphroe/octs.Join -/
def p46 (c1 : List (List Int) → Option (List Int)) (N : Nat) (a0 : List (List Int)) : Option (List Int) :=
  match c1 a0 with
  | none => none
  | some r1 =>
    bif ((List.length r1) == (List.length r1)) then
      some r1
    else none

def L50_0 (N : Nat) (q0_0 : Nat → Nat → List Int → Option (List Int)) : Nat → Int → Nat → Nat → Int → List Int → Option (List Int)
  | 0, _, _, _, _, _ => none
  | n0 + 1, v1, v2, v3, v4, v5 =>
    bif (decide (v4 ≥ (0 : Int))) then
      bif ((decide ((0 : Int) ≤ v4)) && (decide (v4 < ((v2 : Nat) : Int)))) then
        bif (decide ((0 + ((Int.toNat v4) * 1)) < (List.length v5))) then
          L50_0 N q0_0 n0 (iquo .u64 v1 (256 : Int)) v2 v3 (isub .i64 v4 (1 : Int)) (List.set v5 (0 + ((Int.toNat v4) * 1)) (IntKind.wrap .u8 (irem v1 (256 : Int))))
        else none
      else none
    else
      q0_0 v2 v3 v5
/-- euphroe/euphroeref01.Big -/
def p50 (N : Nat) (a0 : Int) (a1 : Int) : Option (List Int) :=
  bif ((decide ((0 : Int) ≤ a1)) && ((decide (a1 ≤ a1)) && ((decide ((a1 * ((1 : Nat) : Int)) ≤ (1099511627776 : Int))) && (decide (a1 ≤ (1099511627776 : Int)))))) then
    L50_0 N (fun (y6 : Nat) (y7 : Nat) (y8 : List Int) =>
        bif (decide ((y6 * 1) ≤ (List.length y8))) then
          bif (y6 == (List.length (List.take (y6 * 1) (List.drop 0 y8)))) then
            some (List.take (y6 * 1) (List.drop 0 y8))
          else none
        else none) N a0 (Int.toNat a1) (Int.toNat a1) (isub .i64 a1 (1 : Int)) (List.replicate (Int.toNat a1) (0 : Int))
  else none

def L51_0 (N : Nat) (q0_0 : Int → Option Int) : Nat → List Int → Int → Int → Option Int
  | 0, _, _, _ => none
  | n0 + 1, v1, v2, v3 =>
    bif (decide (v3 < (((List.length v1) : Nat) : Int))) then
      match geti v1 v3 with
      | none => none
      | some x4 =>
        L51_0 N q0_0 n0 v1 (iadd .u64 (imul .u64 v2 (256 : Int)) (IntKind.wrap .u64 x4)) (iadd .i64 v3 (1 : Int))
    else
      q0_0 v2
/-- euphroe/euphroeref01.Num -/
def p51 (N : Nat) (a0 : List Int) : Option Int :=
  L51_0 N (fun (y5 : Int) =>
      some y5) N a0 (0 : Int) (0 : Int)

/-- euphroe/attr.isKind -/
def p161 (N : Nat) (a0 : Int) : Option Bool :=
  bif (decide (a0 ≥ (1 : Int))) then
    some (decide (a0 ≤ (4 : Int)))
  else
    some false

/-- euphroe/attr.Lay -/
def p139 (c161 : Int → Option Bool) (c19 : Int → Int → Bool → Option ((List Int) × Int)) (c46 : List (List Int) → Option (List Int)) (N : Nat) (a0 : Int × (List Int)) : Option ((List Int) × Int) :=
  match c161 a0.1 with
  | none => none
  | some r1 =>
    bif (!r1) then
      some (([] : List Int), (9 : Int))
    else
      bif (decide ((iadd .i64 (4 : Int) (((List.length a0.2) : Nat) : Int)) > (4095 : Int))) then
        some (([] : List Int), (8 : Int))
      else
        match c19 (IntKind.wrap .u64 (iadd .i64 (4 : Int) (((List.length a0.2) : Nat) : Int))) (2 : Int) false with
        | none => none
        | some r2 =>
          match c46 ([([(0 : Int), a0.1] : List Int), r2.1, a0.2] : List (List Int)) with
          | none => none
          | some r3 =>
            bif (decide ((0 + ((List.length r3) * 1)) ≤ (List.length r3))) then
              some ((List.take (List.length r3) (List.drop 0 r3)), (0 : Int))
            else none

/-- euphroe/euphroeref17.kind -/
def p162 (N : Nat) (a0 : Int) : Option Bool :=
  bif (decide (a0 ≥ (1 : Int))) then
    some (decide (a0 ≤ (4 : Int)))
  else
    some false

/-- euphroe/euphroeref17.Lay -/
def p141 (c162 : Int → Option Bool) (c50 : Int → Int → Option (List Int)) (N : Nat) (a0 : Int × (List Int)) : Option ((List Int) × Int) :=
  match c162 a0.1 with
  | none => none
  | some r1 =>
    bif (!r1) then
      some (([] : List Int), (9 : Int))
    else
      bif (decide ((((List.length a0.2) : Nat) : Int) > (4091 : Int))) then
        some (([] : List Int), (8 : Int))
      else
        match c50 (IntKind.wrap .u64 (iadd .i64 (4 : Int) (((List.length a0.2) : Nat) : Int))) (2 : Int) with
        | none => none
        | some r2 =>
          bif (decide ((0 + ((List.length r2) * 1)) ≤ (List.length r2))) then
            bif (decide (2 < (2 + (List.length r2)))) then
              bif ((decide (((2 + (List.length r2)) * 1) ≤ 1099511627776)) && (decide ((2 + (List.length r2)) ≤ 1099511627776))) then
                bif (((List.length ([(0 : Int), a0.1] ++ (List.take ((List.length r2) * 1) (List.drop 0 r2)))) == ((2 + (List.length r2)) * 1)) && ((decide ((((2 + (List.length r2)) + (List.length a0.2)) * 1) ≤ 1099511627776)) && (decide (((2 + (List.length r2)) + (List.length a0.2)) ≤ 1099511627776)))) then
                  bif (decide ((0 + (((2 + (List.length r2)) + (List.length a0.2)) * 1)) ≤ (List.length (([(0 : Int), a0.1] ++ (List.take ((List.length r2) * 1) (List.drop 0 r2))) ++ a0.2)))) then
                    some ((List.take ((2 + (List.length r2)) + (List.length a0.2)) (List.drop 0 (([(0 : Int), a0.1] ++ (List.take ((List.length r2) * 1) (List.drop 0 r2))) ++ a0.2))), (0 : Int))
                  else none
                else none
              else none
            else
              bif (decide ((2 + (List.length (List.take ((List.length r2) * 1) (List.drop 0 r2)))) ≤ 2)) then
                bif (decide (2 < ((2 + (List.length r2)) + (List.length a0.2)))) then
                  bif ((decide ((((2 + (List.length r2)) + (List.length a0.2)) * 1) ≤ 1099511627776)) && (decide (((2 + (List.length r2)) + (List.length a0.2)) ≤ 1099511627776))) then
                    bif (decide ((0 + ((2 + (List.length r2)) * 1)) ≤ (List.length (([(0 : Int), a0.1] ++ (List.take ((List.length r2) * 1) (List.drop 0 r2))) ++ (List.drop (2 + (List.length (List.take ((List.length r2) * 1) (List.drop 0 r2)))) [(0 : Int), a0.1]))))) then
                      bif (decide ((0 + (((2 + (List.length r2)) + (List.length a0.2)) * 1)) ≤ (List.length ((List.take ((2 + (List.length r2)) * 1) (List.drop 0 (([(0 : Int), a0.1] ++ (List.take ((List.length r2) * 1) (List.drop 0 r2))) ++ (List.drop (2 + (List.length (List.take ((List.length r2) * 1) (List.drop 0 r2)))) [(0 : Int), a0.1])))) ++ a0.2)))) then
                        some ((List.take ((2 + (List.length r2)) + (List.length a0.2)) (List.drop 0 ((List.take ((2 + (List.length r2)) * 1) (List.drop 0 (([(0 : Int), a0.1] ++ (List.take ((List.length r2) * 1) (List.drop 0 r2))) ++ (List.drop (2 + (List.length (List.take ((List.length r2) * 1) (List.drop 0 r2)))) [(0 : Int), a0.1])))) ++ a0.2))), (0 : Int))
                      else none
                    else none
                  else none
                else
                  bif (decide (((0 + ((2 + (List.length r2)) * 1)) + (List.length a0.2)) ≤ (List.length (([(0 : Int), a0.1] ++ (List.take ((List.length r2) * 1) (List.drop 0 r2))) ++ (List.drop (2 + (List.length (List.take ((List.length r2) * 1) (List.drop 0 r2)))) [(0 : Int), a0.1]))))) then
                    bif (decide ((0 + (((2 + (List.length r2)) + (List.length a0.2)) * 1)) ≤ (List.length (((List.take (0 + ((2 + (List.length r2)) * 1)) (([(0 : Int), a0.1] ++ (List.take ((List.length r2) * 1) (List.drop 0 r2))) ++ (List.drop (2 + (List.length (List.take ((List.length r2) * 1) (List.drop 0 r2)))) [(0 : Int), a0.1]))) ++ a0.2) ++ (List.drop ((0 + ((2 + (List.length r2)) * 1)) + (List.length a0.2)) (([(0 : Int), a0.1] ++ (List.take ((List.length r2) * 1) (List.drop 0 r2))) ++ (List.drop (2 + (List.length (List.take ((List.length r2) * 1) (List.drop 0 r2)))) [(0 : Int), a0.1]))))))) then
                      some ((List.take ((2 + (List.length r2)) + (List.length a0.2)) (List.drop 0 (((List.take (0 + ((2 + (List.length r2)) * 1)) (([(0 : Int), a0.1] ++ (List.take ((List.length r2) * 1) (List.drop 0 r2))) ++ (List.drop (2 + (List.length (List.take ((List.length r2) * 1) (List.drop 0 r2)))) [(0 : Int), a0.1]))) ++ a0.2) ++ (List.drop ((0 + ((2 + (List.length r2)) * 1)) + (List.length a0.2)) (([(0 : Int), a0.1] ++ (List.take ((List.length r2) * 1) (List.drop 0 r2))) ++ (List.drop (2 + (List.length (List.take ((List.length r2) * 1) (List.drop 0 r2)))) [(0 : Int), a0.1])))))), (0 : Int))
                    else none
                  else none
              else none
          else none

/-- euphroe/attr.Parse -/
def p142 (c21 : List Int → Bool → Option (Int × Int)) (c161 : Int → Option Bool) (c108 : List Int → Option (List Int)) (N : Nat) (a0 : List Int) : Option ((Int × (List Int)) × Int × Int) :=
  bif (decide ((((List.length a0) : Nat) : Int) < (4 : Int))) then
    some (((0 : Int), ([] : List Int)), ((0 : Int), (4 : Int)))
  else
    bif (decide ((4 : Int) ≤ (((List.length a0) : Nat) : Int))) then
      match c21 (List.take 2 (List.drop 2 a0)) false with
      | none => none
      | some r1 =>
        match geti a0 (0 : Int) with
        | none => none
        | some x2 =>
          bif (x2 != (0 : Int)) then
            some (((0 : Int), ([] : List Int)), ((0 : Int), (3 : Int)))
          else
            bif (decide ((IntKind.wrap .i64 r1.1) < (4 : Int))) then
              some (((0 : Int), ([] : List Int)), ((0 : Int), (3 : Int)))
            else
              bif (decide ((IntKind.wrap .i64 r1.1) > (4095 : Int))) then
                some (((0 : Int), ([] : List Int)), ((0 : Int), (3 : Int)))
              else
                match geti a0 (1 : Int) with
                | none => none
                | some x3 =>
                  match c161 x3 with
                  | none => none
                  | some r4 =>
                    bif (!r4) then
                      some (((0 : Int), ([] : List Int)), ((0 : Int), (9 : Int)))
                    else
                      bif (decide ((((List.length a0) : Nat) : Int) < (IntKind.wrap .i64 r1.1))) then
                        some (((0 : Int), ([] : List Int)), ((0 : Int), (4 : Int)))
                      else
                        match geti a0 (1 : Int) with
                        | none => none
                        | some x5 =>
                          bif ((decide ((0 : Int) ≤ (IntKind.wrap .i64 r1.1))) && (decide ((IntKind.wrap .i64 r1.1) ≤ (((List.length a0) : Nat) : Int)))) then
                            bif (decide ((4 : Int) ≤ (((Int.toNat (IntKind.wrap .i64 r1.1)) : Nat) : Int))) then
                              match c108 (List.take ((Int.toNat (IntKind.wrap .i64 r1.1)) - 4) (List.drop 4 a0)) with
                              | none => none
                              | some r6 =>
                                bif (decide ((0 + ((List.length r6) * 1)) ≤ (List.length r6))) then
                                  some ((x5, (List.take (List.length r6) (List.drop 0 r6))), ((IntKind.wrap .i64 r1.1), (0 : Int)))
                                else none
                            else none
                          else none
    else none

/-- euphroe/euphroeref17.Parse -/
def p143 (c51 : List Int → Option Int) (c162 : Int → Option Bool) (N : Nat) (a0 : List Int) : Option ((Int × (List Int)) × Int × Int) :=
  bif (decide ((((List.length a0) : Nat) : Int) < (4 : Int))) then
    some (((0 : Int), ([] : List Int)), ((0 : Int), (4 : Int)))
  else
    bif (decide ((4 : Int) ≤ (((List.length a0) : Nat) : Int))) then
      match c51 (List.take 2 (List.drop 2 a0)) with
      | none => none
      | some r1 =>
        match geti a0 (0 : Int) with
        | none => none
        | some x2 =>
          bif (x2 != (0 : Int)) then
            some (((0 : Int), ([] : List Int)), ((0 : Int), (3 : Int)))
          else
            bif (decide ((IntKind.wrap .i64 r1) < (4 : Int))) then
              some (((0 : Int), ([] : List Int)), ((0 : Int), (3 : Int)))
            else
              bif (decide ((IntKind.wrap .i64 r1) > (4095 : Int))) then
                some (((0 : Int), ([] : List Int)), ((0 : Int), (3 : Int)))
              else
                match geti a0 (1 : Int) with
                | none => none
                | some x3 =>
                  match c162 x3 with
                  | none => none
                  | some r4 =>
                    bif (!r4) then
                      some (((0 : Int), ([] : List Int)), ((0 : Int), (9 : Int)))
                    else
                      bif (decide ((((List.length a0) : Nat) : Int) < (IntKind.wrap .i64 r1))) then
                        some (((0 : Int), ([] : List Int)), ((0 : Int), (4 : Int)))
                      else
                        match geti a0 (1 : Int) with
                        | none => none
                        | some x5 =>
                          bif ((decide ((0 : Int) ≤ (IntKind.wrap .i64 r1))) && (decide ((IntKind.wrap .i64 r1) ≤ (((List.length a0) : Nat) : Int)))) then
                            bif (decide ((4 : Int) ≤ (((Int.toNat (IntKind.wrap .i64 r1)) : Nat) : Int))) then
                              some ((x5, (List.take ((Int.toNat (IntKind.wrap .i64 r1)) - 4) (List.drop 4 a0))), ((IntKind.wrap .i64 r1), (0 : Int)))
                            else none
                          else none
    else none

/-- bytes.Equal -/
def p160 (N : Nat) (a0 : List Int) (a1 : List Int) : Option Bool :=
  some ((List.map (fun n : Int => UInt8.ofNat n.toNat) a0) == (List.map (fun n : Int => UInt8.ofNat n.toNat) a1))

/-- euphroe/attr.Same -/
def p144 (c160 : List Int → List Int → Option Bool) (N : Nat) (a0 : Int × (List Int)) (a1 : Int × (List Int)) : Option Bool :=
  bif (a0.1 == a1.1) then
    match c160 a0.2 a1.2 with
    | none => none
    | some r1 =>
      some r1
  else
    some false

/-- euphroe/attr.limits -/
def p163 (N : Nat) (a0 : Int) : Option (Int × Int × Int × Int) :=
  bif (a0 == (2 : Int)) then
    some ((8 : Int), ((72 : Int), ((0 : Int), (4 : Int))))
  else
    bif (a0 == (3 : Int)) then
      some ((100 : Int), ((100 : Int), ((1 : Int), (2 : Int))))
    else
      bif (a0 == (4 : Int)) then
        some ((36 : Int), ((36 : Int), ((1 : Int), (3 : Int))))
      else
        some ((2 : Int), ((2 : Int), ((0 : Int), (0 : Int))))

/-- bytes.HasPrefix -/
def p164 (c160 : List Int → List Int → Option Bool) (N : Nat) (a0 : List Int) (a1 : List Int) : Option Bool :=
  bif (decide ((((List.length a0) : Nat) : Int) ≥ (((List.length a1) : Nat) : Int))) then
    bif ((decide ((0 : Int) ≤ (((List.length a1) : Nat) : Int))) && (decide ((((List.length a1) : Nat) : Int) ≤ (((List.length a0) : Nat) : Int)))) then
      match c160 (List.take (Int.toNat (((List.length a1) : Nat) : Int)) a0) a1 with
      | none => none
      | some r1 =>
        some r1
    else none
  else
    some false

/-- euphroe/attr.Check -/
def p145 (c163 : Int → Option (Int × Int × Int × Int)) (c161 : Int → Option Bool) (c164 : List Int → List Int → Option Bool) (N : Nat) (a0 : Int × (List Int)) : Option Int :=
  match c163 a0.1 with
  | none => none
  | some r1 =>
    match c161 a0.1 with
    | none => none
    | some r2 =>
      bif (!r2) then
        some (9 : Int)
      else
        bif (decide ((((List.length a0.2) : Nat) : Int) < r1.1)) then
          some (4 : Int)
        else
          bif (decide ((((List.length a0.2) : Nat) : Int) > r1.2.1)) then
            some (3 : Int)
          else
            bif (a0.1 == (1 : Int)) then
              some (0 : Int)
            else
              match geti a0.2 (3 : Int) with
              | none => none
              | some x3 =>
                match c164 a0.2 ([(0 : Int), (0 : Int), (0 : Int)] : List Int) with
                | none => none
                | some r4 =>
                  bif (!r4) then
                    some (3 : Int)
                  else
                    bif (decide (x3 < r1.2.2.1)) then
                      some (3 : Int)
                    else
                      bif (decide (x3 > r1.2.2.2)) then
                        some (3 : Int)
                      else
                        some (0 : Int)

def L165_0 (N : Nat) (q0_0 : Option Bool) : Nat → List Int → Int → Option Bool
  | 0, _, _ => none
  | n0 + 1, v1, v2 =>
    bif (decide (v2 < (((List.length v1) : Nat) : Int))) then
      match geti v1 v2 with
      | none => none
      | some x3 =>
        bif (x3 != (0 : Int)) then
          some false
        else
          L165_0 N q0_0 n0 v1 (iadd .i64 v2 (1 : Int))
    else
      q0_0
/-- euphroe/euphroeref17.zeros -/
def p165 (N : Nat) (a0 : List Int) : Option Bool :=
  L165_0 N (
      some true) N a0 (0 : Int)

/-- euphroe/euphroeref17.Check -/
def p146 (c162 : Int → Option Bool) (c165 : List Int → Option Bool) (N : Nat) (a0 : Int × (List Int)) : Option Int :=
  match c162 a0.1 with
  | none => none
  | some r1 =>
    bif (!r1) then
      some (9 : Int)
    else
      bif ((decide ((0 : Int) ≤ (isub .u8 a0.1 (1 : Int)))) && (decide ((isub .u8 a0.1 (1 : Int)) < (4 : Int)))) then
        match (([(2 : Int), 8, 100, 36] : List Int))[(0 + ((Int.toNat (isub .u8 a0.1 (1 : Int))) * 1))]? with
        | none => none
        | some x2 =>
          bif ((decide ((0 : Int) ≤ (isub .u8 a0.1 (1 : Int)))) && (decide ((isub .u8 a0.1 (1 : Int)) < (4 : Int)))) then
            match (([(2 : Int), 72, 100, 36] : List Int))[(0 + ((Int.toNat (isub .u8 a0.1 (1 : Int))) * 1))]? with
            | none => none
            | some x3 =>
              bif (decide ((((List.length a0.2) : Nat) : Int) < x2)) then
                some (4 : Int)
              else
                bif (decide ((((List.length a0.2) : Nat) : Int) > x3)) then
                  some (3 : Int)
                else
                  bif (a0.1 == (1 : Int)) then
                    some (0 : Int)
                  else
                    match geti a0.2 (3 : Int) with
                    | none => none
                    | some x4 =>
                      bif (decide ((3 : Int) ≤ (((List.length a0.2) : Nat) : Int))) then
                        match c165 (List.take 3 a0.2) with
                        | none => none
                        | some r5 =>
                          bif (!r5) then
                            some (3 : Int)
                          else
                            bif (a0.1 == (2 : Int)) then
                              bif (decide (x4 > (4 : Int))) then
                                some (3 : Int)
                              else
                                bif (a0.1 == (3 : Int)) then
                                  bif (x4 != (1 : Int)) then
                                    bif (x4 != (2 : Int)) then
                                      some (3 : Int)
                                    else
                                      bif (a0.1 == (4 : Int)) then
                                        bif (decide (x4 < (1 : Int))) then
                                          some (3 : Int)
                                        else
                                          bif (decide (x4 > (3 : Int))) then
                                            some (3 : Int)
                                          else
                                            some (0 : Int)
                                      else
                                        some (0 : Int)
                                  else
                                    bif (a0.1 == (4 : Int)) then
                                      bif (decide (x4 < (1 : Int))) then
                                        some (3 : Int)
                                      else
                                        bif (decide (x4 > (3 : Int))) then
                                          some (3 : Int)
                                        else
                                          some (0 : Int)
                                    else
                                      some (0 : Int)
                                else
                                  bif (a0.1 == (4 : Int)) then
                                    bif (decide (x4 < (1 : Int))) then
                                      some (3 : Int)
                                    else
                                      bif (decide (x4 > (3 : Int))) then
                                        some (3 : Int)
                                      else
                                        some (0 : Int)
                                  else
                                    some (0 : Int)
                            else
                              bif (a0.1 == (3 : Int)) then
                                bif (x4 != (1 : Int)) then
                                  bif (x4 != (2 : Int)) then
                                    some (3 : Int)
                                  else
                                    bif (a0.1 == (4 : Int)) then
                                      bif (decide (x4 < (1 : Int))) then
                                        some (3 : Int)
                                      else
                                        bif (decide (x4 > (3 : Int))) then
                                          some (3 : Int)
                                        else
                                          some (0 : Int)
                                    else
                                      some (0 : Int)
                                else
                                  bif (a0.1 == (4 : Int)) then
                                    bif (decide (x4 < (1 : Int))) then
                                      some (3 : Int)
                                    else
                                      bif (decide (x4 > (3 : Int))) then
                                        some (3 : Int)
                                      else
                                        some (0 : Int)
                                  else
                                    some (0 : Int)
                              else
                                bif (a0.1 == (4 : Int)) then
                                  bif (decide (x4 < (1 : Int))) then
                                    some (3 : Int)
                                  else
                                    bif (decide (x4 > (3 : Int))) then
                                      some (3 : Int)
                                    else
                                      some (0 : Int)
                                else
                                  some (0 : Int)
                      else none
          else none
      else none

def L313v0_0 (c144 : Int × (List Int) → Int × (List Int) → Option Bool) (N : Nat) (q0_0 : Option ((Bool × Unit) × Unit)) : Nat → List (Int × (List Int)) → List (Int × (List Int)) → Int → Int → Option ((Bool × Unit) × Unit)
  | 0, _, _, _, _ => none
  | n0 + 1, v1, v2, v3, v4 =>
    bif (decide (v4 < v3)) then
      match geti v2 v4 with
      | none => none
      | some x5 =>
        match geti v1 v4 with
        | none => none
        | some x6 =>
          match c144 (x5.1, x5.2) (x6.1, x6.2) with
          | none => none
          | some r7 =>
            bif (!r7) then
              some ((false, ()), ())
            else
              L313v0_0 c144 N q0_0 n0 v1 v2 v3 (iadd .i64 v4 (1 : Int))
    else
      q0_0
/-- slices.EqualFunc[[]euphroe/api.Attr,[]euphroe/api.Attr,euphroe/api.Attr,euphroe/api.Attr] -/
def p313v0 (c144 : Int × (List Int) → Int × (List Int) → Option Bool) (N : Nat) (a0 : List (Int × (List Int))) (a1 : List (Int × (List Int))) : Option ((Bool × Unit) × Unit) :=
  bif ((((List.length a0) : Nat) : Int) != (((List.length a1) : Nat) : Int)) then
    some ((false, ()), ())
  else
    L313v0_0 c144 N (
        some ((true, ()), ())) N a1 a0 (((List.length a0) : Nat) : Int) (0 : Int)

/-- euphroe/packet.Same -/
def p302 (d313v0 : List (Int × (List Int)) → List (Int × (List Int)) → Option ((Bool × Unit) × Unit)) (c160 : List Int → List Int → Option Bool) (N : Nat) (a0 : Bool × Int × (List (Int × (List Int))) × (List Int)) (a1 : Bool × Int × (List (Int × (List Int))) × (List Int)) : Option Bool :=
  bif (a0.1 == a1.1) then
    bif (a0.2.1 == a1.2.1) then
      match d313v0 a0.2.2.1 a1.2.2.1 with
      | none => none
      | some r1 =>
        bif r1.1.1 then
          match c160 a0.2.2.2 a1.2.2.2 with
          | none => none
          | some r2 =>
            some r2
        else
          some false
    else
      some false
  else
    some false

/-- euphroe/packet.Of -/
def p316 (c320 : List (Int × (List Int)) → Option (List (Int × (List Int)))) (N : Nat) (a0 : Int) (a1 : List (Int × (List Int))) : Option (Bool × Int × (List (Int × (List Int))) × (List Int)) :=
  match c320 a1 with
  | none => none
  | some r1 =>
    some (true, (a0, (r1, ([] : List Int))))

/-- euphroe/packet.number -/
def p322 (c19 : Int → Int → Bool → Option ((List Int) × Int)) (N : Nat) (a0 : Int) : Option (List Int) :=
  match c19 (IntKind.wrap .u64 a0) (2 : Int) false with
  | none => none
  | some r1 =>
    some r1.1

def L321_0 (c322 : Int → Option (List Int)) (c46 : List (List Int) → Option (List Int)) (c139 : Int × (List Int) → Option ((List Int) × Int)) (N : Nat) (q0_1 : Nat → List Int → Option ((List Int) × Int)) : Nat → Nat → List (Int × (List Int)) → Int → Int → List Int → Option ((List Int) × Int)
  | 0, _, _, _, _, _ => none
  | n0 + 1, v4, v5, v6, v7, v8 =>
    bif (decide (v7 < v6)) then
      match geti v5 v7 with
      | none => none
      | some x9 =>
        match c139 (x9.1, x9.2) with
        | none => none
        | some r10 =>
          bif (r10.2 != (0 : Int)) then
            some (([] : List Int), r10.2)
          else
            bif (((List.length v8) == (v4 * 1)) && ((decide (((v4 + (List.length r10.1)) * 1) ≤ 1099511627776)) && (decide ((v4 + (List.length r10.1)) ≤ 1099511627776)))) then
              L321_0 c322 c46 c139 N q0_1 n0 (v4 + (List.length r10.1)) v5 v6 (iadd .i64 v7 (1 : Int)) (v8 ++ r10.1)
            else none
    else
      q0_1 v4 v8
/-- euphroe/packet.body -/
def p321 (c322 : Int → Option (List Int)) (c46 : List (List Int) → Option (List Int)) (c139 : Int × (List Int) → Option ((List Int) × Int)) (N : Nat) (a0 : Bool × Int × (List (Int × (List Int))) × (List Int)) : Option ((List Int) × Int) :=
  bif (!a0.1) then
    bif ((((List.length a0.2.2.2) : Nat) : Int) == (0 : Int)) then
      some (([] : List Int), (4 : Int))
    else
      bif (!a0.1) then
        some (a0.2.2.2, (0 : Int))
      else
        bif (decide ((((List.length a0.2.2.1) : Nat) : Int) > (8 : Int))) then
          some (([] : List Int), (5 : Int))
        else
          match c322 (IntKind.wrap .i64 a0.2.1) with
          | none => none
          | some r1 =>
            match c322 (((List.length a0.2.2.1) : Nat) : Int) with
            | none => none
            | some r2 =>
              match c46 ([r1, r2] : List (List Int)) with
              | none => none
              | some r3 =>
                L321_0 c322 c46 c139 N (fun (y11 : Nat) (y12 : List Int) =>
                    bif (decide ((0 + (y11 * 1)) ≤ (List.length y12))) then
                      some ((List.take y11 (List.drop 0 y12)), (0 : Int))
                    else none) N (List.length r3) a0.2.2.1 (((List.length a0.2.2.1) : Nat) : Int) (0 : Int) r3
  else
    bif (!a0.1) then
      some (a0.2.2.2, (0 : Int))
    else
      bif (decide ((((List.length a0.2.2.1) : Nat) : Int) > (8 : Int))) then
        some (([] : List Int), (5 : Int))
      else
        match c322 (IntKind.wrap .i64 a0.2.1) with
        | none => none
        | some r13 =>
          match c322 (((List.length a0.2.2.1) : Nat) : Int) with
          | none => none
          | some r14 =>
            match c46 ([r13, r14] : List (List Int)) with
            | none => none
            | some r15 =>
              L321_0 c322 c46 c139 N (fun (y16 : Nat) (y17 : List Int) =>
                  bif (decide ((0 + (y16 * 1)) ≤ (List.length y17))) then
                    some ((List.take y16 (List.drop 0 y17)), (0 : Int))
                  else none) N (List.length r15) a0.2.2.1 (((List.length a0.2.2.1) : Nat) : Int) (0 : Int) r15

/-- euphroe/packet.Lay -/
def p317 (c321 : Bool × Int × (List (Int × (List Int))) × (List Int) → Option ((List Int) × Int)) (c322 : Int → Option (List Int)) (c46 : List (List Int) → Option (List Int)) (N : Nat) (a0 : Bool × Int × (List (Int × (List Int))) × (List Int)) : Option ((List Int) × Int) :=
  match c321 (a0.1, (a0.2.1, (a0.2.2.1, a0.2.2.2))) with
  | none => none
  | some r1 =>
    bif (r1.2 != (0 : Int)) then
      some (([] : List Int), r1.2)
    else
      bif (decide ((iadd .i64 (4 : Int) (((List.length r1.1) : Nat) : Int)) > (4095 : Int))) then
        some (([] : List Int), (8 : Int))
      else
        bif a0.1 then
          match c322 (iadd .i64 (4 : Int) (((List.length r1.1) : Nat) : Int)) with
          | none => none
          | some r2 =>
            match c46 ([([(16 : Int), (1 : Int)] : List Int), r2, r1.1] : List (List Int)) with
            | none => none
            | some r3 =>
              bif (decide ((0 + ((List.length r3) * 1)) ≤ (List.length r3))) then
                some ((List.take (List.length r3) (List.drop 0 r3)), (0 : Int))
              else none
        else
          match c322 (iadd .i64 (4 : Int) (((List.length r1.1) : Nat) : Int)) with
          | none => none
          | some r4 =>
            match c46 ([([(16 : Int), (0 : Int)] : List Int), r4, r1.1] : List (List Int)) with
            | none => none
            | some r5 =>
              bif (decide ((0 + ((List.length r5) * 1)) ≤ (List.length r5))) then
                some ((List.take (List.length r5) (List.drop 0 r5)), (0 : Int))
              else none

def L319_0 (c50 : Int → Int → Option (List Int)) (c141 : Int × (List Int) → Option ((List Int) × Int)) (N : Nat) (q0_0 : Nat → Int → List Int → Option ((List Int) × Int)) : Nat → Nat → Int → Int → Bool → Int → List (Int × (List Int)) → List Int → List Int → Option ((List Int) × Int)
  | 0, _, _, _, _, _, _, _, _ => none
  | n0 + 1, v3, v4, v5, v6, v7, v8, v9, v10 =>
    bif (decide (v5 < (((List.length v8) : Nat) : Int))) then
      match geti v8 v5 with
      | none => none
      | some x11 =>
        match c141 (x11.1, x11.2) with
        | none => none
        | some r12 =>
          bif (r12.2 != (0 : Int)) then
            some (([] : List Int), r12.2)
          else
            bif (((List.length v10) == (v3 * 1)) && ((decide (((v3 + (List.length r12.1)) * 1) ≤ 1099511627776)) && (decide ((v3 + (List.length r12.1)) ≤ 1099511627776)))) then
              L319_0 c50 c141 N q0_0 n0 (v3 + (List.length r12.1)) v4 (iadd .i64 v5 (1 : Int)) v6 v7 v8 v9 (v10 ++ r12.1)
            else none
    else
      q0_0 v3 v4 v10
/-- euphroe/euphroeref18.Lay -/
def p319 (c50 : Int → Int → Option (List Int)) (c141 : Int × (List Int) → Option ((List Int) × Int)) (N : Nat) (a0 : Bool × Int × (List (Int × (List Int))) × (List Int)) : Option ((List Int) × Int) :=
  bif a0.1 then
    bif (decide ((((List.length a0.2.2.1) : Nat) : Int) > (8 : Int))) then
      some (([] : List Int), (5 : Int))
    else
      match c50 (IntKind.wrap .u64 a0.2.1) (2 : Int) with
      | none => none
      | some r1 =>
        match c50 (IntKind.wrap .u64 (((List.length a0.2.2.1) : Nat) : Int)) (2 : Int) with
        | none => none
        | some r2 =>
          bif (decide ((0 + ((List.length r2) * 1)) ≤ (List.length r2))) then
            bif (((List.length r1) == ((List.length r1) * 1)) && ((decide ((((List.length r1) + (List.length r2)) * 1) ≤ 1099511627776)) && (decide (((List.length r1) + (List.length r2)) ≤ 1099511627776)))) then
              L319_0 c50 c141 N (fun (y13 : Nat) (y14 : Int) (y15 : List Int) =>
                  bif (((y13 : Nat) : Int) == (0 : Int)) then
                    some (([] : List Int), (4 : Int))
                  else
                    bif (decide ((iadd .i64 (4 : Int) ((y13 : Nat) : Int)) > (4095 : Int))) then
                      some (([] : List Int), (8 : Int))
                    else
                      match c50 (IntKind.wrap .u64 (iadd .i64 (4 : Int) ((y13 : Nat) : Int))) (2 : Int) with
                      | none => none
                      | some r16 =>
                        bif (decide ((0 + ((List.length r16) * 1)) ≤ (List.length r16))) then
                          bif (decide (2 < (2 + (List.length r16)))) then
                            bif ((decide (((2 + (List.length r16)) * 1) ≤ 1099511627776)) && (decide ((2 + (List.length r16)) ≤ 1099511627776))) then
                              bif (decide ((0 + (y13 * 1)) ≤ (List.length y15))) then
                                bif (((List.length ([(16 : Int), y14] ++ (List.take ((List.length r16) * 1) (List.drop 0 r16)))) == ((2 + (List.length r16)) * 1)) && ((decide ((((2 + (List.length r16)) + y13) * 1) ≤ 1099511627776)) && (decide (((2 + (List.length r16)) + y13) ≤ 1099511627776)))) then
                                  bif (decide ((0 + (((2 + (List.length r16)) + y13) * 1)) ≤ (List.length (([(16 : Int), y14] ++ (List.take ((List.length r16) * 1) (List.drop 0 r16))) ++ (List.take (y13 * 1) (List.drop 0 y15)))))) then
                                    some ((List.take ((2 + (List.length r16)) + y13) (List.drop 0 (([(16 : Int), y14] ++ (List.take ((List.length r16) * 1) (List.drop 0 r16))) ++ (List.take (y13 * 1) (List.drop 0 y15))))), (0 : Int))
                                  else none
                                else none
                              else none
                            else none
                          else
                            bif (decide ((2 + (List.length (List.take ((List.length r16) * 1) (List.drop 0 r16)))) ≤ 2)) then
                              bif (decide ((0 + (y13 * 1)) ≤ (List.length y15))) then
                                bif (decide (2 < ((2 + (List.length r16)) + y13))) then
                                  bif ((decide ((((2 + (List.length r16)) + y13) * 1) ≤ 1099511627776)) && (decide (((2 + (List.length r16)) + y13) ≤ 1099511627776))) then
                                    bif (decide ((0 + ((2 + (List.length r16)) * 1)) ≤ (List.length (([(16 : Int), y14] ++ (List.take ((List.length r16) * 1) (List.drop 0 r16))) ++ (List.drop (2 + (List.length (List.take ((List.length r16) * 1) (List.drop 0 r16)))) [(16 : Int), y14]))))) then
                                      bif (decide ((0 + (((2 + (List.length r16)) + y13) * 1)) ≤ (List.length ((List.take ((2 + (List.length r16)) * 1) (List.drop 0 (([(16 : Int), y14] ++ (List.take ((List.length r16) * 1) (List.drop 0 r16))) ++ (List.drop (2 + (List.length (List.take ((List.length r16) * 1) (List.drop 0 r16)))) [(16 : Int), y14])))) ++ (List.take (y13 * 1) (List.drop 0 y15)))))) then
                                        some ((List.take ((2 + (List.length r16)) + y13) (List.drop 0 ((List.take ((2 + (List.length r16)) * 1) (List.drop 0 (([(16 : Int), y14] ++ (List.take ((List.length r16) * 1) (List.drop 0 r16))) ++ (List.drop (2 + (List.length (List.take ((List.length r16) * 1) (List.drop 0 r16)))) [(16 : Int), y14])))) ++ (List.take (y13 * 1) (List.drop 0 y15))))), (0 : Int))
                                      else none
                                    else none
                                  else none
                                else
                                  bif (decide (((0 + ((2 + (List.length r16)) * 1)) + (List.length (List.take (y13 * 1) (List.drop 0 y15)))) ≤ (List.length (([(16 : Int), y14] ++ (List.take ((List.length r16) * 1) (List.drop 0 r16))) ++ (List.drop (2 + (List.length (List.take ((List.length r16) * 1) (List.drop 0 r16)))) [(16 : Int), y14]))))) then
                                    bif (decide ((0 + (((2 + (List.length r16)) + y13) * 1)) ≤ (List.length (((List.take (0 + ((2 + (List.length r16)) * 1)) (([(16 : Int), y14] ++ (List.take ((List.length r16) * 1) (List.drop 0 r16))) ++ (List.drop (2 + (List.length (List.take ((List.length r16) * 1) (List.drop 0 r16)))) [(16 : Int), y14]))) ++ (List.take (y13 * 1) (List.drop 0 y15))) ++ (List.drop ((0 + ((2 + (List.length r16)) * 1)) + (List.length (List.take (y13 * 1) (List.drop 0 y15)))) (([(16 : Int), y14] ++ (List.take ((List.length r16) * 1) (List.drop 0 r16))) ++ (List.drop (2 + (List.length (List.take ((List.length r16) * 1) (List.drop 0 r16)))) [(16 : Int), y14]))))))) then
                                      some ((List.take ((2 + (List.length r16)) + y13) (List.drop 0 (((List.take (0 + ((2 + (List.length r16)) * 1)) (([(16 : Int), y14] ++ (List.take ((List.length r16) * 1) (List.drop 0 r16))) ++ (List.drop (2 + (List.length (List.take ((List.length r16) * 1) (List.drop 0 r16)))) [(16 : Int), y14]))) ++ (List.take (y13 * 1) (List.drop 0 y15))) ++ (List.drop ((0 + ((2 + (List.length r16)) * 1)) + (List.length (List.take (y13 * 1) (List.drop 0 y15)))) (([(16 : Int), y14] ++ (List.take ((List.length r16) * 1) (List.drop 0 r16))) ++ (List.drop (2 + (List.length (List.take ((List.length r16) * 1) (List.drop 0 r16)))) [(16 : Int), y14])))))), (0 : Int))
                                    else none
                                  else none
                              else none
                            else none
                        else none) N ((List.length r1) + (List.length r2)) (1 : Int) (0 : Int) a0.1 a0.2.1 a0.2.2.1 a0.2.2.2 (r1 ++ (List.take ((List.length r2) * 1) (List.drop 0 r2)))
            else none
          else none
  else
    bif ((((List.length a0.2.2.2) : Nat) : Int) == (0 : Int)) then
      some (([] : List Int), (4 : Int))
    else
      bif (decide ((iadd .i64 (4 : Int) (((List.length a0.2.2.2) : Nat) : Int)) > (4095 : Int))) then
        some (([] : List Int), (8 : Int))
      else
        match c50 (IntKind.wrap .u64 (iadd .i64 (4 : Int) (((List.length a0.2.2.2) : Nat) : Int))) (2 : Int) with
        | none => none
        | some r17 =>
          bif (decide ((0 + ((List.length r17) * 1)) ≤ (List.length r17))) then
            bif (decide (2 < (2 + (List.length r17)))) then
              bif ((decide (((2 + (List.length r17)) * 1) ≤ 1099511627776)) && (decide ((2 + (List.length r17)) ≤ 1099511627776))) then
                bif (((List.length ([(16 : Int), 0] ++ (List.take ((List.length r17) * 1) (List.drop 0 r17)))) == ((2 + (List.length r17)) * 1)) && ((decide ((((2 + (List.length r17)) + (List.length a0.2.2.2)) * 1) ≤ 1099511627776)) && (decide (((2 + (List.length r17)) + (List.length a0.2.2.2)) ≤ 1099511627776)))) then
                  bif (decide ((0 + (((2 + (List.length r17)) + (List.length a0.2.2.2)) * 1)) ≤ (List.length (([(16 : Int), 0] ++ (List.take ((List.length r17) * 1) (List.drop 0 r17))) ++ a0.2.2.2)))) then
                    some ((List.take ((2 + (List.length r17)) + (List.length a0.2.2.2)) (List.drop 0 (([(16 : Int), 0] ++ (List.take ((List.length r17) * 1) (List.drop 0 r17))) ++ a0.2.2.2))), (0 : Int))
                  else none
                else none
              else none
            else
              bif (decide ((2 + (List.length (List.take ((List.length r17) * 1) (List.drop 0 r17)))) ≤ 2)) then
                bif (decide (2 < ((2 + (List.length r17)) + (List.length a0.2.2.2)))) then
                  bif ((decide ((((2 + (List.length r17)) + (List.length a0.2.2.2)) * 1) ≤ 1099511627776)) && (decide (((2 + (List.length r17)) + (List.length a0.2.2.2)) ≤ 1099511627776))) then
                    bif (decide ((0 + ((2 + (List.length r17)) * 1)) ≤ (List.length (([(16 : Int), 0] ++ (List.take ((List.length r17) * 1) (List.drop 0 r17))) ++ (List.drop (2 + (List.length (List.take ((List.length r17) * 1) (List.drop 0 r17)))) [(16 : Int), 0]))))) then
                      bif (decide ((0 + (((2 + (List.length r17)) + (List.length a0.2.2.2)) * 1)) ≤ (List.length ((List.take ((2 + (List.length r17)) * 1) (List.drop 0 (([(16 : Int), 0] ++ (List.take ((List.length r17) * 1) (List.drop 0 r17))) ++ (List.drop (2 + (List.length (List.take ((List.length r17) * 1) (List.drop 0 r17)))) [(16 : Int), 0])))) ++ a0.2.2.2)))) then
                        some ((List.take ((2 + (List.length r17)) + (List.length a0.2.2.2)) (List.drop 0 ((List.take ((2 + (List.length r17)) * 1) (List.drop 0 (([(16 : Int), 0] ++ (List.take ((List.length r17) * 1) (List.drop 0 r17))) ++ (List.drop (2 + (List.length (List.take ((List.length r17) * 1) (List.drop 0 r17)))) [(16 : Int), 0])))) ++ a0.2.2.2))), (0 : Int))
                      else none
                    else none
                  else none
                else
                  bif (decide (((0 + ((2 + (List.length r17)) * 1)) + (List.length a0.2.2.2)) ≤ (List.length (([(16 : Int), 0] ++ (List.take ((List.length r17) * 1) (List.drop 0 r17))) ++ (List.drop (2 + (List.length (List.take ((List.length r17) * 1) (List.drop 0 r17)))) [(16 : Int), 0]))))) then
                    bif (decide ((0 + (((2 + (List.length r17)) + (List.length a0.2.2.2)) * 1)) ≤ (List.length (((List.take (0 + ((2 + (List.length r17)) * 1)) (([(16 : Int), 0] ++ (List.take ((List.length r17) * 1) (List.drop 0 r17))) ++ (List.drop (2 + (List.length (List.take ((List.length r17) * 1) (List.drop 0 r17)))) [(16 : Int), 0]))) ++ a0.2.2.2) ++ (List.drop ((0 + ((2 + (List.length r17)) * 1)) + (List.length a0.2.2.2)) (([(16 : Int), 0] ++ (List.take ((List.length r17) * 1) (List.drop 0 r17))) ++ (List.drop (2 + (List.length (List.take ((List.length r17) * 1) (List.drop 0 r17)))) [(16 : Int), 0]))))))) then
                      some ((List.take ((2 + (List.length r17)) + (List.length a0.2.2.2)) (List.drop 0 (((List.take (0 + ((2 + (List.length r17)) * 1)) (([(16 : Int), 0] ++ (List.take ((List.length r17) * 1) (List.drop 0 r17))) ++ (List.drop (2 + (List.length (List.take ((List.length r17) * 1) (List.drop 0 r17)))) [(16 : Int), 0]))) ++ a0.2.2.2) ++ (List.drop ((0 + ((2 + (List.length r17)) * 1)) + (List.length a0.2.2.2)) (([(16 : Int), 0] ++ (List.take ((List.length r17) * 1) (List.drop 0 r17))) ++ (List.drop (2 + (List.length (List.take ((List.length r17) * 1) (List.drop 0 r17)))) [(16 : Int), 0])))))), (0 : Int))
                    else none
                  else none
              else none
          else none

/-- euphroe/packet.wants -/
def p324 (N : Nat) (a0 : Int) : Option (Int × Int × Int) :=
  bif (a0 == (1 : Int)) then
    some ((1 : Int), ((1 : Int), (1 : Int)))
  else
    bif (a0 == (2 : Int)) then
      some ((4 : Int), ((1 : Int), (1 : Int)))
    else
      bif (a0 == (3 : Int)) then
        some ((2 : Int), ((1 : Int), (3 : Int)))
      else
        bif (a0 == (4 : Int)) then
          some ((3 : Int), ((1 : Int), (1 : Int)))
        else
          bif (a0 == (5 : Int)) then
            bif (a0 == (5 : Int)) then
              some ((2 : Int), ((0 : Int), (1 : Int)))
            else
              some ((0 : Int), ((0 : Int), (0 : Int)))
          else
            bif (a0 == (6 : Int)) then
              some ((2 : Int), ((0 : Int), (1 : Int)))
            else
              some ((0 : Int), ((0 : Int), (0 : Int)))

/-- euphroe/packet.Check$1 -/
def p326v0 (N : Nat) (a0 : Int) (a1 : List Int) (a2 : List Int) : Option ((Bool × Unit) × ((List Int) × Unit)) :=
  match (a2)[0]? with
  | none => none
  | some x1 =>
    some (((a0 != x1), ()), (a2, ()))

def L327v0_0 (d326v0 : Int → List Int → List Int → Option ((Bool × Unit) × ((List Int) × Unit))) (N : Nat) (q0_0 : List Int → Option ((Int × Unit) × ((List Int) × Unit))) : Nat → List (Int × (List Int)) → Int → Int → List Int → Option ((Int × Unit) × ((List Int) × Unit))
  | 0, _, _, _, _ => none
  | n0 + 1, v1, v2, v3, v4 =>
    bif (decide (v3 < v2)) then
      match geti v1 v3 with
      | none => none
      | some x5 =>
        match d326v0 x5.1 x5.2 v4 with
        | none => none
        | some r6 =>
          bif r6.1.1 then
            some ((v3, ()), (r6.2.1, ()))
          else
            L327v0_0 d326v0 N q0_0 n0 v1 v2 (iadd .i64 v3 (1 : Int)) r6.2.1
    else
      q0_0 v4
/-- slices.IndexFunc[[]euphroe/api.Attr,euphroe/api.Attr] -/
def p327v0 (d326v0 : Int → List Int → List Int → Option ((Bool × Unit) × ((List Int) × Unit))) (N : Nat) (a0 : List (Int × (List Int))) (a1 : List Int) : Option ((Int × Unit) × ((List Int) × Unit)) :=
  L327v0_0 d326v0 N (fun (y7 : List Int) =>
      some (((-1 : Int), ()), (y7, ()))) N a0 (((List.length a0) : Nat) : Int) (0 : Int) a1

/-- slices.ContainsFunc[[]euphroe/api.Attr,euphroe/api.Attr] -/
def p325v0 (d327v0 : List (Int × (List Int)) → List Int → Option ((Int × Unit) × ((List Int) × Unit))) (N : Nat) (a0 : List (Int × (List Int))) (a1 : List Int) : Option ((Bool × Unit) × ((List Int) × Unit)) :=
  match d327v0 a0 a1 with
  | none => none
  | some r1 =>
    some (((decide (r1.1.1 ≥ (0 : Int))), ()), (r1.2.1, ()))

def L323_0 (c324 : Int → Option (Int × Int × Int)) (d325v0 : List (Int × (List Int)) → List Int → Option ((Bool × Unit) × ((List Int) × Unit))) (c145 : Int × (List Int) → Option Int) (N : Nat) (q0_1 : Option Int) : Nat → List (Int × (List Int)) → Int → Int → Option Int
  | 0, _, _, _ => none
  | n0 + 1, v3, v4, v5 =>
    bif (decide (v5 < v4)) then
      match geti v3 v5 with
      | none => none
      | some x6 =>
        match c145 (x6.1, x6.2) with
        | none => none
        | some r7 =>
          bif (r7 != (0 : Int)) then
            some r7
          else
            L323_0 c324 d325v0 c145 N q0_1 n0 v3 v4 (iadd .i64 v5 (1 : Int))
    else
      q0_1
/-- euphroe/packet.Check -/
def p323 (c324 : Int → Option (Int × Int × Int)) (d325v0 : List (Int × (List Int)) → List Int → Option ((Bool × Unit) × ((List Int) × Unit))) (c145 : Int × (List Int) → Option Int) (N : Nat) (a0 : Bool × Int × (List (Int × (List Int))) × (List Int)) : Option Int :=
  match c324 a0.2.1 with
  | none => none
  | some r1 =>
    bif (!a0.1) then
      some (0 : Int)
    else
      bif (decide (a0.2.1 < (1 : Int))) then
        some (9 : Int)
      else
        bif (decide (a0.2.1 > (9 : Int))) then
          some (9 : Int)
        else
          bif (decide ((((List.length a0.2.2.1) : Nat) : Int) < r1.2.1)) then
            some (1 : Int)
          else
            bif (decide ((((List.length a0.2.2.1) : Nat) : Int) > r1.2.2)) then
              some (1 : Int)
            else
              match d325v0 a0.2.2.1 ([r1.1] : List Int) with
              | none => none
              | some r2 =>
                bif r2.1.1 then
                  some (1 : Int)
                else
                  L323_0 c324 d325v0 c145 N (
                      some (0 : Int)) N a0.2.2.1 (((List.length a0.2.2.1) : Nat) : Int) (0 : Int)

def L337_0 (N : Nat) (q0_0 : Bool → Int → List (Int × (List Int)) → List Int → Option Bool) : Nat → List (Int × (List Int)) → Int → Int → Bool → Int → List (Int × (List Int)) → List Int → Option Bool
  | 0, _, _, _, _, _, _, _ => none
  | n0 + 1, v1, v2, v3, v4, v5, v6, v7 =>
    bif (decide (v3 < v2)) then
      match geti v1 v3 with
      | none => none
      | some x8 =>
        bif (decide ((((List.length x8.2) : Nat) : Int) > (4200 : Int))) then
          some true
        else
          L337_0 N q0_0 n0 v1 v2 (iadd .i64 v3 (1 : Int)) v4 v5 v6 v7
    else
      q0_0 v4 v5 v6 v7
/-- euphroe/euphroelaw18.far -/
def p337 (N : Nat) (a0 : Bool × Int × (List (Int × (List Int))) × (List Int)) : Option Bool :=
  bif ((decide ((0 : Int) ≤ (if (12 : Int) < (((List.length a0.2.2.1) : Nat) : Int) then (12 : Int) else (((List.length a0.2.2.1) : Nat) : Int)))) && (decide ((if (12 : Int) < (((List.length a0.2.2.1) : Nat) : Int) then (12 : Int) else (((List.length a0.2.2.1) : Nat) : Int)) ≤ (((List.length a0.2.2.1) : Nat) : Int)))) then
    L337_0 N (fun (y9 : Bool) (y10 : Int) (y11 : List (Int × (List Int))) (y12 : List Int) =>
        bif (decide ((((List.length y11) : Nat) : Int) > (12 : Int))) then
          some true
        else
          some (decide ((((List.length y12) : Nat) : Int) > (5000 : Int)))) N (List.take (Int.toNat (if (12 : Int) < (((List.length a0.2.2.1) : Nat) : Int) then (12 : Int) else (((List.length a0.2.2.1) : Nat) : Int))) a0.2.2.1) (((List.length (List.take (Int.toNat (if (12 : Int) < (((List.length a0.2.2.1) : Nat) : Int) then (12 : Int) else (((List.length a0.2.2.1) : Nat) : Int))) a0.2.2.1)) : Nat) : Int) (0 : Int) a0.1 a0.2.1 a0.2.2.1 a0.2.2.2
  else none

/-- euphroe/packet.Length -/
def p343 (c21 : List Int → Bool → Option (Int × Int)) (N : Nat) (a0 : List Int) : Option (Int × Int) :=
  bif (decide ((((List.length a0) : Nat) : Int) < (4 : Int))) then
    some ((0 : Int), (4 : Int))
  else
    match geti a0 (0 : Int) with
    | none => none
    | some x1 =>
      bif (x1 != (16 : Int)) then
        some ((0 : Int), (15 : Int))
      else
        bif (decide ((4 : Int) ≤ (((List.length a0) : Nat) : Int))) then
          match c21 (List.take 2 (List.drop 2 a0)) false with
          | none => none
          | some r2 =>
            match geti a0 (1 : Int) with
            | none => none
            | some x3 =>
              bif (x3 == (1 : Int)) then
                match geti a0 (1 : Int) with
                | none => none
                | some x4 =>
                  bif (decide (x4 > (1 : Int))) then
                    some ((0 : Int), (3 : Int))
                  else
                    bif (decide ((IntKind.wrap .i64 r2.1) < (8 : Int))) then
                      some ((0 : Int), (3 : Int))
                    else
                      bif (decide (r2.1 > (4095 : Int))) then
                        some ((0 : Int), (3 : Int))
                      else
                        some ((IntKind.wrap .i64 r2.1), (0 : Int))
              else
                match geti a0 (1 : Int) with
                | none => none
                | some x5 =>
                  bif (decide (x5 > (1 : Int))) then
                    some ((0 : Int), (3 : Int))
                  else
                    bif (decide ((IntKind.wrap .i64 r2.1) < (5 : Int))) then
                      some ((0 : Int), (3 : Int))
                    else
                      bif (decide (r2.1 > (4095 : Int))) then
                        some ((0 : Int), (3 : Int))
                      else
                        some ((IntKind.wrap .i64 r2.1), (0 : Int))
        else none

/-- euphroe/packet.OfData -/
def p346 (c108 : List Int → Option (List Int)) (N : Nat) (a0 : List Int) : Option (Bool × Int × (List (Int × (List Int))) × (List Int)) :=
  match c108 a0 with
  | none => none
  | some r1 =>
    bif (decide ((0 + ((List.length r1) * 1)) ≤ (List.length r1))) then
      some (false, ((0 : Int), (([] : List (Int × (List Int))), (List.take (List.length r1) (List.drop 0 r1)))))
    else none

def L359_0 (c142 : List Int → Option ((Int × (List Int)) × Int × Int)) (N : Nat) (q0_0 : List Int → Nat → List V → Option ((List (Int × (List Int))) × Int)) : Nat → List Int → Nat → Int → Int → List V → Option ((List (Int × (List Int))) × Int)
  | 0, _, _, _, _, _ => none
  | n0 + 1, v1, v2, v3, v4, v5 =>
    bif (decide (v4 < v3)) then
      match c142 v1 with
      | none => none
      | some r6 =>
        bif (r6.2.2 != (0 : Int)) then
          some (([] : List (Int × (List Int))), r6.2.2)
        else
          bif (((List.length v5) == (v2 * 2)) && ((decide (((v2 + 1) * 32) ≤ 1099511627776)) && (decide ((v2 + 1) ≤ 1099511627776)))) then
            bif ((decide ((0 : Int) ≤ r6.2.1)) && (decide (r6.2.1 ≤ (((List.length v1) : Nat) : Int)))) then
              L359_0 c142 N q0_0 n0 (List.drop (Int.toNat r6.2.1) v1) (v2 + 1) v3 (iadd .u64 v4 (1 : Int)) ((v5 ++ [(V.int .u8 r6.1.1), (V.tb (Sh.int .u8) r6.1.2)]) : List V)
            else none
          else none
    else
      q0_0 v1 v2 (v5 : List V)
/-- euphroe/packet.attrs -/
def p359 (c142 : List Int → Option ((Int × (List Int)) × Int × Int)) (N : Nat) (a0 : List Int) (a1 : Int) : Option ((List (Int × (List Int))) × Int) :=
  bif (decide (a1 > (8 : Int))) then
    some (([] : List (Int × (List Int))), (5 : Int))
  else
    L359_0 c142 N (fun (y7 : List Int) (y8 : Nat) (y9 : List V) =>
        bif (decide ((((List.length y7) : Nat) : Int) > (0 : Int))) then
          some (([] : List (Int × (List Int))), (3 : Int))
        else
          bif (decide ((0 + (y8 * 2)) ≤ (List.length y9))) then
            match rowsOf (Sh.pr (Sh.int .u8) (Sh.sl (Sh.int .u8))) y8 (List.take (y8 * 2) (List.drop 0 y9)) with
            | none => none
            | some x10 =>
              some (x10, (0 : Int))
          else none) N a0 0 a1 (0 : Int) ([] : List V)

/-- euphroe/packet.Parse -/
def p341 (c343 : List Int → Option (Int × Int)) (c346 : List Int → Option (Bool × Int × (List (Int × (List Int))) × (List Int))) (c21 : List Int → Bool → Option (Int × Int)) (c359 : List Int → Int → Option ((List (Int × (List Int))) × Int)) (c316 : Int → List (Int × (List Int)) → Option (Bool × Int × (List (Int × (List Int))) × (List Int))) (N : Nat) (a0 : List Int) : Option ((Bool × Int × (List (Int × (List Int))) × (List Int)) × Int) :=
  match c343 a0 with
  | none => none
  | some r1 =>
    bif (r1.2 != (0 : Int)) then
      some ((false, ((0 : Int), (([] : List (Int × (List Int))), ([] : List Int)))), r1.2)
    else
      bif (decide ((((List.length a0) : Nat) : Int) < r1.1)) then
        some ((false, ((0 : Int), (([] : List (Int × (List Int))), ([] : List Int)))), (4 : Int))
      else
        bif (decide ((((List.length a0) : Nat) : Int) > r1.1)) then
          some ((false, ((0 : Int), (([] : List (Int × (List Int))), ([] : List Int)))), (3 : Int))
        else
          match geti a0 (1 : Int) with
          | none => none
          | some x2 =>
            bif (x2 == (0 : Int)) then
              bif (decide ((4 : Int) ≤ (((List.length a0) : Nat) : Int))) then
                match c346 (List.drop 4 a0) with
                | none => none
                | some r3 =>
                  some ((r3.1, (r3.2.1, (r3.2.2.1, r3.2.2.2))), (0 : Int))
              else none
            else
              bif (decide ((6 : Int) ≤ (((List.length a0) : Nat) : Int))) then
                match c21 (List.take 2 (List.drop 4 a0)) false with
                | none => none
                | some r4 =>
                  bif (decide ((8 : Int) ≤ (((List.length a0) : Nat) : Int))) then
                    match c21 (List.take 2 (List.drop 6 a0)) false with
                    | none => none
                    | some r5 =>
                      bif (decide ((8 : Int) ≤ (((List.length a0) : Nat) : Int))) then
                        match c359 (List.drop 8 a0) r5.1 with
                        | none => none
                        | some r6 =>
                          bif (r6.2 != (0 : Int)) then
                            some ((false, ((0 : Int), (([] : List (Int × (List Int))), ([] : List Int)))), r6.2)
                          else
                            match c316 (IntKind.wrap .u16 r4.1) r6.1 with
                            | none => none
                            | some r7 =>
                              some ((r7.1, (r7.2.1, (r7.2.2.1, r7.2.2.2))), (0 : Int))
                      else none
                  else none
              else none

/-- euphroe/euphroelaw18.alive -/
def p338 (c316 : Int → List (Int × (List Int)) → Option (Bool × Int × (List (Int × (List Int))) × (List Int))) (c317 : Bool × Int × (List (Int × (List Int))) × (List Int) → Option ((List Int) × Int)) (c341 : List Int → Option ((Bool × Int × (List (Int × (List Int))) × (List Int)) × Int)) (c343 : List Int → Option (Int × Int)) (c346 : List Int → Option (Bool × Int × (List (Int × (List Int))) × (List Int))) (c302 : Bool × Int × (List (Int × (List Int))) × (List Int) → Bool × Int × (List (Int × (List Int))) × (List Int) → Option Bool) (c323 : Bool × Int × (List (Int × (List Int))) × (List Int) → Option Int) (N : Nat)  : Option Bool :=
  match c316 (8 : Int) ([] : List (Int × (List Int))) with
  | none => none
  | some r1 =>
    match c317 (r1.1, (r1.2.1, (r1.2.2.1, r1.2.2.2))) with
    | none => none
    | some r2 =>
      match c341 r2.1 with
      | none => none
      | some r3 =>
        match c343 r2.1 with
        | none => none
        | some r4 =>
          match c346 ([(120 : Int)] : List Int) with
          | none => none
          | some r5 =>
            match c317 (r5.1, (r5.2.1, (r5.2.2.1, r5.2.2.2))) with
            | none => none
            | some r6 =>
              bif ((List.map (fun n : Int => UInt8.ofNat n.toNat) r2.1) == ([(16 : UInt8), (1 : UInt8), (0 : UInt8), (8 : UInt8), (0 : UInt8), (8 : UInt8), (0 : UInt8), (0 : UInt8)] : List UInt8)) then
                bif (r2.2 == (0 : Int)) then
                  match c302 (r1.1, (r1.2.1, (r1.2.2.1, r1.2.2.2))) (r3.1.1, (r3.1.2.1, (r3.1.2.2.1, r3.1.2.2.2))) with
                  | none => none
                  | some r7 =>
                    bif r7 then
                      bif (r3.2 == (0 : Int)) then
                        bif (r4.1 == (8 : Int)) then
                          bif (r4.2 == (0 : Int)) then
                            bif ((((List.length r6.1) : Nat) : Int) == (5 : Int)) then
                              bif (r6.2 == (0 : Int)) then
                                match c323 (r1.1, (r1.2.1, (r1.2.2.1, r1.2.2.2))) with
                                | none => none
                                | some r8 =>
                                  some (r8 == (0 : Int))
                              else
                                some false
                            else
                              some false
                          else
                            some false
                        else
                          some false
                      else
                        some false
                    else
                      some false
                else
                  some false
              else
                some false

def L339_0 (N : Nat) (q0_0 : Bool → Int → Bool → Int → Nat → List Int → List V → Option (Bool × Int × (List (Int × (List Int))) × (List Int))) : Nat → List (Int × (List Int)) → Int → Int → Bool → Int → Bool → Int → Nat → List Int → List V → Option (Bool × Int × (List (Int × (List Int))) × (List Int))
  | 0, _, _, _, _, _, _, _, _, _, _ => none
  | n0 + 1, v1, v2, v3, v4, v5, v6, v7, v8, v9, v10 =>
    bif (decide (v3 < v2)) then
      match geti v1 v3 with
      | none => none
      | some x11 =>
        bif (((List.length v10) == (v8 * 2)) && ((decide (((v8 + 1) * 32) ≤ 1099511627776)) && (decide ((v8 + 1) ≤ 1099511627776)))) then
          L339_0 N q0_0 n0 v1 v2 (iadd .i64 v3 (1 : Int)) v4 v5 v6 v7 (v8 + 1) v9 ((v10 ++ [(V.int .u8 x11.1), (V.tb (Sh.int .u8) x11.2)]) : List V)
        else none
    else
      q0_0 v4 v5 v6 v7 v8 v9 (v10 : List V)
/-- euphroe/euphroelaw18.theirs -/
def p339 (N : Nat) (a0 : Bool × Int × (List (Int × (List Int))) × (List Int)) : Option (Bool × Int × (List (Int × (List Int))) × (List Int)) :=
  L339_0 N (fun (y12 : Bool) (y13 : Int) (y14 : Bool) (y15 : Int) (y16 : Nat) (y17 : List Int) (y18 : List V) =>
      bif (decide ((0 + (y16 * 2)) ≤ (List.length y18))) then
        match rowsOf (Sh.pr (Sh.int .u8) (Sh.sl (Sh.int .u8))) y16 (List.take (y16 * 2) (List.drop 0 y18)) with
        | none => none
        | some x19 =>
          some (y14, (y15, (x19, y17)))
      else none) N a0.2.2.1 (((List.length a0.2.2.1) : Nat) : Int) (0 : Int) false (0 : Int) a0.1 a0.2.1 0 a0.2.2.2 ([] : List V)

def L363_0 (N : Nat) (q0_0 : Option Bool) : Nat → List (Int × (List Int)) → List Int → Int → Option Bool
  | 0, _, _, _ => none
  | n0 + 1, v1, v2, v3 =>
    bif (decide (v3 < (((List.length v1) : Nat) : Int))) then
      match geti v1 v3 with
      | none => none
      | some x4 =>
        match geti v2 v3 with
        | none => none
        | some x5 =>
          bif (x4.1 != x5) then
            some false
          else
            L363_0 N q0_0 n0 v1 v2 (iadd .i64 v3 (1 : Int))
    else
      q0_0
/-- euphroe/euphroeref18.kinds -/
def p363 (N : Nat) (a0 : List (Int × (List Int))) (a1 : List Int) : Option Bool :=
  bif ((((List.length a0) : Nat) : Int) != (((List.length a1) : Nat) : Int)) then
    some false
  else
    L363_0 N (
        some true) N a0 a1 (0 : Int)

/-- euphroe/euphroeref18.has -/
def p358 (c363 : List (Int × (List Int)) → List Int → Option Bool) (N : Nat) (a0 : Bool × Int × (List (Int × (List Int))) × (List Int)) : Option Bool :=
  bif (a0.2.1 == (1 : Int)) then
    match c363 a0.2.2.1 ([(1 : Int)] : List Int) with
    | none => none
    | some r1 =>
      some r1
  else
    bif (a0.2.1 == (2 : Int)) then
      match c363 a0.2.2.1 ([(4 : Int)] : List Int) with
      | none => none
      | some r2 =>
        some r2
    else
      bif (a0.2.1 == (3 : Int)) then
        match c363 a0.2.2.1 ([(2 : Int)] : List Int) with
        | none => none
        | some r3 =>
          bif r3 then
            some true
          else
            match c363 a0.2.2.1 ([(2 : Int), (2 : Int)] : List Int) with
            | none => none
            | some r4 =>
              bif r4 then
                some true
              else
                match c363 a0.2.2.1 ([(2 : Int), (2 : Int), (2 : Int)] : List Int) with
                | none => none
                | some r5 =>
                  some r5
      else
        bif (a0.2.1 == (4 : Int)) then
          match c363 a0.2.2.1 ([(3 : Int)] : List Int) with
          | none => none
          | some r6 =>
            some r6
        else
          bif (a0.2.1 == (5 : Int)) then
            bif (a0.2.1 == (5 : Int)) then
              match c363 a0.2.2.1 ([] : List Int) with
              | none => none
              | some r7 =>
                bif r7 then
                  some true
                else
                  match c363 a0.2.2.1 ([(2 : Int)] : List Int) with
                  | none => none
                  | some r8 =>
                    some r8
            else
              match c363 a0.2.2.1 ([] : List Int) with
              | none => none
              | some r9 =>
                some r9
          else
            bif (a0.2.1 == (6 : Int)) then
              match c363 a0.2.2.1 ([] : List Int) with
              | none => none
              | some r10 =>
                bif r10 then
                  some true
                else
                  match c363 a0.2.2.1 ([(2 : Int)] : List Int) with
                  | none => none
                  | some r11 =>
                    some r11
            else
              match c363 a0.2.2.1 ([] : List Int) with
              | none => none
              | some r12 =>
                some r12

def L340_0 (c358 : Bool × Int × (List (Int × (List Int))) × (List Int) → Option Bool) (c146 : Int × (List Int) → Option Int) (N : Nat) (q0_0 : Option Int) : Nat → Int → Bool → Int → List (Int × (List Int)) → List Int → Option Int
  | 0, _, _, _, _, _ => none
  | n0 + 1, v2, v3, v4, v5, v6 =>
    bif (decide (v2 < (((List.length v5) : Nat) : Int))) then
      match geti v5 v2 with
      | none => none
      | some x7 =>
        match c146 (x7.1, x7.2) with
        | none => none
        | some r8 =>
          bif (r8 != (0 : Int)) then
            some r8
          else
            L340_0 c358 c146 N q0_0 n0 (iadd .i64 v2 (1 : Int)) v3 v4 v5 v6
    else
      q0_0
/-- euphroe/euphroeref18.Check -/
def p340 (c358 : Bool × Int × (List (Int × (List Int))) × (List Int) → Option Bool) (c146 : Int × (List Int) → Option Int) (N : Nat) (a0 : Bool × Int × (List (Int × (List Int))) × (List Int)) : Option Int :=
  bif (!a0.1) then
    some (0 : Int)
  else
    bif (decide (a0.2.1 < (1 : Int))) then
      some (9 : Int)
    else
      bif (decide (a0.2.1 > (9 : Int))) then
        some (9 : Int)
      else
        match c358 (a0.1, (a0.2.1, (a0.2.2.1, a0.2.2.2))) with
        | none => none
        | some r1 =>
          bif (!r1) then
            some (1 : Int)
          else
            L340_0 c358 c146 N (
                some (0 : Int)) N (0 : Int) a0.1 a0.2.1 a0.2.2.1 a0.2.2.2

/-- euphroe/euphroelaw18.PacketLays -/
def p328 (c337 : Bool × Int × (List (Int × (List Int))) × (List Int) → Option Bool) (c338 : Option Bool) (c339 : Bool × Int × (List (Int × (List Int))) × (List Int) → Option (Bool × Int × (List (Int × (List Int))) × (List Int))) (c317 : Bool × Int × (List (Int × (List Int))) × (List Int) → Option ((List Int) × Int)) (c319 : Bool × Int × (List (Int × (List Int))) × (List Int) → Option ((List Int) × Int)) (c23 : List Int → List Int → Option Bool) (c323 : Bool × Int × (List (Int × (List Int))) × (List Int) → Option Int) (c340 : Bool × Int × (List (Int × (List Int))) × (List Int) → Option Int) (N : Nat) (a0 : Bool × Int × (List (Int × (List Int))) × (List Int)) : Option Bool :=
  match c337 (a0.1, (a0.2.1, (a0.2.2.1, a0.2.2.2))) with
  | none => none
  | some r1 =>
    bif r1 then
      match c338 with
      | none => none
      | some r2 =>
        some r2
    else
      match c339 (a0.1, (a0.2.1, (a0.2.2.1, a0.2.2.2))) with
      | none => none
      | some r3 =>
        match c317 (r3.1, (r3.2.1, (r3.2.2.1, r3.2.2.2))) with
        | none => none
        | some r4 =>
          match c319 (a0.1, (a0.2.1, (a0.2.2.1, a0.2.2.2))) with
          | none => none
          | some r5 =>
            match c23 r4.1 r5.1 with
            | none => none
            | some r6 =>
              bif r6 then
                bif (r4.2 == r5.2) then
                  match c339 (a0.1, (a0.2.1, (a0.2.2.1, a0.2.2.2))) with
                  | none => none
                  | some r7 =>
                    match c323 (r7.1, (r7.2.1, (r7.2.2.1, r7.2.2.2))) with
                    | none => none
                    | some r8 =>
                      match c340 (a0.1, (a0.2.1, (a0.2.2.1, a0.2.2.2))) with
                      | none => none
                      | some r9 =>
                        bif (r8 == r9) then
                          match c338 with
                          | none => none
                          | some r10 =>
                            some r10
                        else
                          some false
                else
                  some false
              else
                some false

/-- euphroe/euphroeref18.Length -/
def p344 (c51 : List Int → Option Int) (N : Nat) (a0 : List Int) : Option (Int × Int) :=
  bif (decide ((((List.length a0) : Nat) : Int) < (4 : Int))) then
    some ((0 : Int), (4 : Int))
  else
    match geti a0 (0 : Int) with
    | none => none
    | some x1 =>
      bif (x1 != (16 : Int)) then
        some ((0 : Int), (15 : Int))
      else
        bif (decide ((4 : Int) ≤ (((List.length a0) : Nat) : Int))) then
          match c51 (List.take 2 (List.drop 2 a0)) with
          | none => none
          | some r2 =>
            match geti a0 (1 : Int) with
            | none => none
            | some x3 =>
              bif (decide (x3 > (1 : Int))) then
                some ((0 : Int), (3 : Int))
              else
                bif (decide ((IntKind.wrap .i64 r2) < (5 : Int))) then
                  some ((0 : Int), (3 : Int))
                else
                  match geti a0 (1 : Int) with
                  | none => none
                  | some x4 =>
                    bif (x4 == (1 : Int)) then
                      bif (decide ((IntKind.wrap .i64 r2) < (8 : Int))) then
                        some ((0 : Int), (3 : Int))
                      else
                        bif (decide ((IntKind.wrap .i64 r2) > (4095 : Int))) then
                          some ((0 : Int), (3 : Int))
                        else
                          some ((IntKind.wrap .i64 r2), (0 : Int))
                    else
                      bif (decide ((IntKind.wrap .i64 r2) > (4095 : Int))) then
                        some ((0 : Int), (3 : Int))
                      else
                        some ((IntKind.wrap .i64 r2), (0 : Int))
        else none

def L342_0 (c344 : List Int → Option (Int × Int)) (c51 : List Int → Option Int) (c143 : List Int → Option ((Int × (List Int)) × Int × Int)) (N : Nat) (q0_0 : List Int → Bool → Int → Bool → Int → Nat → List V → Option ((Bool × Int × (List (Int × (List Int))) × (List Int)) × Int)) : Nat → Int → List Int → Int → Bool → Int → Bool → Int → Nat → List V → Option ((Bool × Int × (List (Int × (List Int))) × (List Int)) × Int)
  | 0, _, _, _, _, _, _, _, _, _ => none
  | n0 + 1, v5, v6, v7, v8, v9, v10, v11, v12, v13 =>
    bif (decide (v7 < v5)) then
      match c143 v6 with
      | none => none
      | some r14 =>
        bif (r14.2.2 != (0 : Int)) then
          some ((false, ((0 : Int), (([] : List (Int × (List Int))), ([] : List Int)))), r14.2.2)
        else
          bif (((List.length v13) == (v12 * 2)) && ((decide (((v12 + 1) * 32) ≤ 1099511627776)) && (decide ((v12 + 1) ≤ 1099511627776)))) then
            bif ((decide ((0 : Int) ≤ r14.2.1)) && (decide (r14.2.1 ≤ (((List.length v6) : Nat) : Int)))) then
              L342_0 c344 c51 c143 N q0_0 n0 v5 (List.drop (Int.toNat r14.2.1) v6) (iadd .i64 v7 (1 : Int)) v8 v9 v10 v11 (v12 + 1) ((v13 ++ [(V.int .u8 r14.1.1), (V.tb (Sh.int .u8) r14.1.2)]) : List V)
            else none
          else none
    else
      q0_0 v6 v8 v9 v10 v11 v12 (v13 : List V)
/-- euphroe/euphroeref18.Parse -/
def p342 (c344 : List Int → Option (Int × Int)) (c51 : List Int → Option Int) (c143 : List Int → Option ((Int × (List Int)) × Int × Int)) (N : Nat) (a0 : List Int) : Option ((Bool × Int × (List (Int × (List Int))) × (List Int)) × Int) :=
  match c344 a0 with
  | none => none
  | some r1 =>
    bif (r1.2 != (0 : Int)) then
      some ((false, ((0 : Int), (([] : List (Int × (List Int))), ([] : List Int)))), r1.2)
    else
      bif (decide ((((List.length a0) : Nat) : Int) < r1.1)) then
        some ((false, ((0 : Int), (([] : List (Int × (List Int))), ([] : List Int)))), (4 : Int))
      else
        bif (decide ((((List.length a0) : Nat) : Int) > r1.1)) then
          some ((false, ((0 : Int), (([] : List (Int × (List Int))), ([] : List Int)))), (3 : Int))
        else
          match geti a0 (1 : Int) with
          | none => none
          | some x2 =>
            bif (x2 == (0 : Int)) then
              bif (decide ((4 : Int) ≤ (((List.length a0) : Nat) : Int))) then
                some ((false, ((0 : Int), (([] : List (Int × (List Int))), (List.drop 4 a0)))), (0 : Int))
              else none
            else
              bif (decide ((8 : Int) ≤ (((List.length a0) : Nat) : Int))) then
                match c51 (List.take 2 (List.drop 6 a0)) with
                | none => none
                | some r3 =>
                  bif (decide ((IntKind.wrap .i64 r3) > (8 : Int))) then
                    some ((false, ((0 : Int), (([] : List (Int × (List Int))), ([] : List Int)))), (5 : Int))
                  else
                    bif (decide ((6 : Int) ≤ (((List.length a0) : Nat) : Int))) then
                      match c51 (List.take 2 (List.drop 4 a0)) with
                      | none => none
                      | some r4 =>
                        bif (decide ((8 : Int) ≤ (((List.length a0) : Nat) : Int))) then
                          L342_0 c344 c51 c143 N (fun (y15 : List Int) (y16 : Bool) (y17 : Int) (y18 : Bool) (y19 : Int) (y20 : Nat) (y21 : List V) =>
                              bif (decide ((((List.length y15) : Nat) : Int) > (0 : Int))) then
                                some ((false, ((0 : Int), (([] : List (Int × (List Int))), ([] : List Int)))), (3 : Int))
                              else
                                bif (decide ((0 + (y20 * 2)) ≤ (List.length y21))) then
                                  match rowsOf (Sh.pr (Sh.int .u8) (Sh.sl (Sh.int .u8))) y20 (List.take (y20 * 2) (List.drop 0 y21)) with
                                  | none => none
                                  | some x22 =>
                                    some ((y18, (y19, (x22, ([] : List Int)))), (0 : Int))
                                else none) N (IntKind.wrap .i64 r3) (List.drop 8 a0) (0 : Int) false (0 : Int) true (IntKind.wrap .u16 r4) 0 ([] : List V)
                        else none
                    else none
              else none

/-- euphroe/euphroelaw18.PacketParses -/
def p329 (c338 : Option Bool) (c341 : List Int → Option ((Bool × Int × (List (Int × (List Int))) × (List Int)) × Int)) (c342 : List Int → Option ((Bool × Int × (List (Int × (List Int))) × (List Int)) × Int)) (c343 : List Int → Option (Int × Int)) (c344 : List Int → Option (Int × Int)) (c339 : Bool × Int × (List (Int × (List Int))) × (List Int) → Option (Bool × Int × (List (Int × (List Int))) × (List Int))) (c302 : Bool × Int × (List (Int × (List Int))) × (List Int) → Bool × Int × (List (Int × (List Int))) × (List Int) → Option Bool) (N : Nat) (a0 : List Int) : Option Bool :=
  bif (decide ((((List.length a0) : Nat) : Int) > (5000 : Int))) then
    match c338 with
    | none => none
    | some r1 =>
      some r1
  else
    match c341 a0 with
    | none => none
    | some r2 =>
      match c342 a0 with
      | none => none
      | some r3 =>
        match c343 a0 with
        | none => none
        | some r4 =>
          match c344 a0 with
          | none => none
          | some r5 =>
            match c339 (r3.1.1, (r3.1.2.1, (r3.1.2.2.1, r3.1.2.2.2))) with
            | none => none
            | some r6 =>
              match c302 (r2.1.1, (r2.1.2.1, (r2.1.2.2.1, r2.1.2.2.2))) (r6.1, (r6.2.1, (r6.2.2.1, r6.2.2.2))) with
              | none => none
              | some r7 =>
                bif r7 then
                  bif (r2.2 == r3.2) then
                    bif (r4.1 == r5.1) then
                      bif (r4.2 == r5.2) then
                        match c338 with
                        | none => none
                        | some r8 =>
                          some r8
                      else
                        some false
                    else
                      some false
                  else
                    some false
                else
                  some false

/-- euphroe/euphroeref17.Same -/
def p360 (c23 : List Int → List Int → Option Bool) (N : Nat) (a0 : Int × (List Int)) (a1 : Int × (List Int)) : Option Bool :=
  bif (a0.1 == a1.1) then
    match c23 a0.2 a1.2 with
    | none => none
    | some r1 =>
      some r1
  else
    some false

def L345_0 (c360 : Int × (List Int) → Int × (List Int) → Option Bool) (c23 : List Int → List Int → Option Bool) (N : Nat) (q0_0 : Bool → Int → List (Int × (List Int)) → List Int → Bool → Int → List (Int × (List Int)) → List Int → Option Bool) : Nat → Int → Bool → Int → List (Int × (List Int)) → List Int → Bool → Int → List (Int × (List Int)) → List Int → Option Bool
  | 0, _, _, _, _, _, _, _, _, _ => none
  | n0 + 1, v1, v2, v3, v4, v5, v6, v7, v8, v9 =>
    bif (decide (v1 < (((List.length v4) : Nat) : Int))) then
      match geti v4 v1 with
      | none => none
      | some x10 =>
        match geti v8 v1 with
        | none => none
        | some x11 =>
          match c360 (x10.1, x10.2) (x11.1, x11.2) with
          | none => none
          | some r12 =>
            bif (!r12) then
              some false
            else
              L345_0 c360 c23 N q0_0 n0 (iadd .i64 v1 (1 : Int)) v2 v3 v4 v5 v6 v7 v8 v9
    else
      q0_0 v2 v3 v4 v5 v6 v7 v8 v9
/-- euphroe/euphroeref18.Same -/
def p345 (c360 : Int × (List Int) → Int × (List Int) → Option Bool) (c23 : List Int → List Int → Option Bool) (N : Nat) (a0 : Bool × Int × (List (Int × (List Int))) × (List Int)) (a1 : Bool × Int × (List (Int × (List Int))) × (List Int)) : Option Bool :=
  bif ((((List.length a0.2.2.1) : Nat) : Int) != (((List.length a1.2.2.1) : Nat) : Int)) then
    some false
  else
    L345_0 c360 c23 N (fun (y13 : Bool) (y14 : Int) (y15 : List (Int × (List Int))) (y16 : List Int) (y17 : Bool) (y18 : Int) (y19 : List (Int × (List Int))) (y20 : List Int) =>
        bif (y13 == y17) then
          bif (y14 == y18) then
            match c23 y16 y20 with
            | none => none
            | some r21 =>
              some r21
          else
            some false
        else
          some false) N (0 : Int) a0.1 a0.2.1 a0.2.2.1 a0.2.2.2 a1.1 a1.2.1 a1.2.2.1 a1.2.2.2

/-- euphroe/euphroelaw18.PacketBack -/
def p330 (c337 : Bool × Int × (List (Int × (List Int))) × (List Int) → Option Bool) (c338 : Option Bool) (c339 : Bool × Int × (List (Int × (List Int))) × (List Int) → Option (Bool × Int × (List (Int × (List Int))) × (List Int))) (c302 : Bool × Int × (List (Int × (List Int))) × (List Int) → Bool × Int × (List (Int × (List Int))) × (List Int) → Option Bool) (c345 : Bool × Int × (List (Int × (List Int))) × (List Int) → Bool × Int × (List (Int × (List Int))) × (List Int) → Option Bool) (c317 : Bool × Int × (List (Int × (List Int))) × (List Int) → Option ((List Int) × Int)) (c341 : List Int → Option ((Bool × Int × (List (Int × (List Int))) × (List Int)) × Int)) (c23 : List Int → List Int → Option Bool) (N : Nat) (a0 : Bool × Int × (List (Int × (List Int))) × (List Int)) (a1 : Bool × Int × (List (Int × (List Int))) × (List Int)) (a2 : List Int) : Option Bool :=
  match c337 (a0.1, (a0.2.1, (a0.2.2.1, a0.2.2.2))) with
  | none => none
  | some r1 =>
    bif r1 then
      match c338 with
      | none => none
      | some r2 =>
        some r2
    else
      match c337 (a1.1, (a1.2.1, (a1.2.2.1, a1.2.2.2))) with
      | none => none
      | some r3 =>
        bif r3 then
          match c338 with
          | none => none
          | some r4 =>
            some r4
        else
          bif (decide ((((List.length a2) : Nat) : Int) > (5000 : Int))) then
            match c338 with
            | none => none
            | some r5 =>
              some r5
          else
            match c339 (a0.1, (a0.2.1, (a0.2.2.1, a0.2.2.2))) with
            | none => none
            | some r6 =>
              match c339 (a1.1, (a1.2.1, (a1.2.2.1, a1.2.2.2))) with
              | none => none
              | some r7 =>
                match c302 (r6.1, (r6.2.1, (r6.2.2.1, r6.2.2.2))) (r7.1, (r7.2.1, (r7.2.2.1, r7.2.2.2))) with
                | none => none
                | some r8 =>
                  match c345 (a0.1, (a0.2.1, (a0.2.2.1, a0.2.2.2))) (a1.1, (a1.2.1, (a1.2.2.1, a1.2.2.2))) with
                  | none => none
                  | some r9 =>
                    bif (!(r8 == r9)) then
                      some false
                    else
                      match c339 (a0.1, (a0.2.1, (a0.2.2.1, a0.2.2.2))) with
                      | none => none
                      | some r10 =>
                        bif a0.1 then
                          match c339 (a0.1, (a0.2.1, (a0.2.2.1, a0.2.2.2))) with
                          | none => none
                          | some r11 =>
                            match c317 (r11.1, (r11.2.1, (r11.2.2.1, r11.2.2.2))) with
                            | none => none
                            | some r12 =>
                              bif (r12.2 == (0 : Int)) then
                                match c341 r12.1 with
                                | none => none
                                | some r13 =>
                                  match c302 (r13.1.1, (r13.1.2.1, (r13.1.2.2.1, r13.1.2.2.2))) (r10.1, (r10.2.1, (r10.2.2.1, ([] : List Int)))) with
                                  | none => none
                                  | some r14 =>
                                    bif (!r14) then
                                      some false
                                    else
                                      bif (r13.2 != (0 : Int)) then
                                        some false
                                      else
                                        match c341 a2 with
                                        | none => none
                                        | some r15 =>
                                          bif (r15.2 != (0 : Int)) then
                                            match c302 (r15.1.1, (r15.1.2.1, (r15.1.2.2.1, r15.1.2.2.2))) (false, ((0 : Int), (([] : List (Int × (List Int))), ([] : List Int)))) with
                                            | none => none
                                            | some r16 =>
                                              bif r16 then
                                                match c338 with
                                                | none => none
                                                | some r17 =>
                                                  some r17
                                              else
                                                some false
                                          else
                                            match c317 (r15.1.1, (r15.1.2.1, (r15.1.2.2.1, r15.1.2.2.2))) with
                                            | none => none
                                            | some r18 =>
                                              bif (r18.2 == (0 : Int)) then
                                                match c23 r18.1 a2 with
                                                | none => none
                                                | some r19 =>
                                                  bif r19 then
                                                    match c338 with
                                                    | none => none
                                                    | some r20 =>
                                                      some r20
                                                  else
                                                    some false
                                              else
                                                some false
                              else
                                match c341 a2 with
                                | none => none
                                | some r21 =>
                                  bif (r21.2 != (0 : Int)) then
                                    match c302 (r21.1.1, (r21.1.2.1, (r21.1.2.2.1, r21.1.2.2.2))) (false, ((0 : Int), (([] : List (Int × (List Int))), ([] : List Int)))) with
                                    | none => none
                                    | some r22 =>
                                      bif r22 then
                                        match c338 with
                                        | none => none
                                        | some r23 =>
                                          some r23
                                      else
                                        some false
                                  else
                                    match c317 (r21.1.1, (r21.1.2.1, (r21.1.2.2.1, r21.1.2.2.2))) with
                                    | none => none
                                    | some r24 =>
                                      bif (r24.2 == (0 : Int)) then
                                        match c23 r24.1 a2 with
                                        | none => none
                                        | some r25 =>
                                          bif r25 then
                                            match c338 with
                                            | none => none
                                            | some r26 =>
                                              some r26
                                          else
                                            some false
                                      else
                                        some false
                        else
                          match c339 (a0.1, (a0.2.1, (a0.2.2.1, a0.2.2.2))) with
                          | none => none
                          | some r27 =>
                            match c317 (r27.1, (r27.2.1, (r27.2.2.1, r27.2.2.2))) with
                            | none => none
                            | some r28 =>
                              bif (r28.2 == (0 : Int)) then
                                match c341 r28.1 with
                                | none => none
                                | some r29 =>
                                  match c302 (r29.1.1, (r29.1.2.1, (r29.1.2.2.1, r29.1.2.2.2))) (r10.1, ((0 : Int), (([] : List (Int × (List Int))), r10.2.2.2))) with
                                  | none => none
                                  | some r30 =>
                                    bif (!r30) then
                                      some false
                                    else
                                      bif (r29.2 != (0 : Int)) then
                                        some false
                                      else
                                        match c341 a2 with
                                        | none => none
                                        | some r31 =>
                                          bif (r31.2 != (0 : Int)) then
                                            match c302 (r31.1.1, (r31.1.2.1, (r31.1.2.2.1, r31.1.2.2.2))) (false, ((0 : Int), (([] : List (Int × (List Int))), ([] : List Int)))) with
                                            | none => none
                                            | some r32 =>
                                              bif r32 then
                                                match c338 with
                                                | none => none
                                                | some r33 =>
                                                  some r33
                                              else
                                                some false
                                          else
                                            match c317 (r31.1.1, (r31.1.2.1, (r31.1.2.2.1, r31.1.2.2.2))) with
                                            | none => none
                                            | some r34 =>
                                              bif (r34.2 == (0 : Int)) then
                                                match c23 r34.1 a2 with
                                                | none => none
                                                | some r35 =>
                                                  bif r35 then
                                                    match c338 with
                                                    | none => none
                                                    | some r36 =>
                                                      some r36
                                                  else
                                                    some false
                                              else
                                                some false
                              else
                                match c341 a2 with
                                | none => none
                                | some r37 =>
                                  bif (r37.2 != (0 : Int)) then
                                    match c302 (r37.1.1, (r37.1.2.1, (r37.1.2.2.1, r37.1.2.2.2))) (false, ((0 : Int), (([] : List (Int × (List Int))), ([] : List Int)))) with
                                    | none => none
                                    | some r38 =>
                                      bif r38 then
                                        match c338 with
                                        | none => none
                                        | some r39 =>
                                          some r39
                                      else
                                        some false
                                  else
                                    match c317 (r37.1.1, (r37.1.2.1, (r37.1.2.2.1, r37.1.2.2.2))) with
                                    | none => none
                                    | some r40 =>
                                      bif (r40.2 == (0 : Int)) then
                                        match c23 r40.1 a2 with
                                        | none => none
                                        | some r41 =>
                                          bif r41 then
                                            match c338 with
                                            | none => none
                                            | some r42 =>
                                              some r42
                                          else
                                            some false
                                      else
                                        some false

/-- euphroe/euphroelaw18.PacketMakes -/
def p331 (c337 : Bool × Int × (List (Int × (List Int))) × (List Int) → Option Bool) (c338 : Option Bool) (c339 : Bool × Int × (List (Int × (List Int))) × (List Int) → Option (Bool × Int × (List (Int × (List Int))) × (List Int))) (c316 : Int → List (Int × (List Int)) → Option (Bool × Int × (List (Int × (List Int))) × (List Int))) (c346 : List Int → Option (Bool × Int × (List (Int × (List Int))) × (List Int))) (c302 : Bool × Int × (List (Int × (List Int))) × (List Int) → Bool × Int × (List (Int × (List Int))) × (List Int) → Option Bool) (c323 : Bool × Int × (List (Int × (List Int))) × (List Int) → Option Int) (c340 : Bool × Int × (List (Int × (List Int))) × (List Int) → Option Int) (N : Nat) (a0 : Int) (a1 : Bool × Int × (List (Int × (List Int))) × (List Int)) : Option Bool :=
  match c337 (a1.1, (a1.2.1, (a1.2.2.1, a1.2.2.2))) with
  | none => none
  | some r1 =>
    bif r1 then
      match c338 with
      | none => none
      | some r2 =>
        some r2
    else
      match c339 (a1.1, (a1.2.1, (a1.2.2.1, a1.2.2.2))) with
      | none => none
      | some r3 =>
        match c316 a0 r3.2.2.1 with
        | none => none
        | some r4 =>
          match c346 a1.2.2.2 with
          | none => none
          | some r5 =>
            match c302 (r4.1, (r4.2.1, (r4.2.2.1, r4.2.2.2))) (true, (a0, (r3.2.2.1, ([] : List Int)))) with
            | none => none
            | some r6 =>
              bif r6 then
                match c302 (r5.1, (r5.2.1, (r5.2.2.1, r5.2.2.2))) (false, ((0 : Int), (([] : List (Int × (List Int))), a1.2.2.2))) with
                | none => none
                | some r7 =>
                  bif r7 then
                    match c323 (r4.1, (r4.2.1, (r4.2.2.1, r4.2.2.2))) with
                    | none => none
                    | some r8 =>
                      match c340 (true, (a0, (a1.2.2.1, ([] : List Int)))) with
                      | none => none
                      | some r9 =>
                        bif (r8 == r9) then
                          match c323 (r5.1, (r5.2.1, (r5.2.2.1, r5.2.2.2))) with
                          | none => none
                          | some r10 =>
                            bif (r10 == (0 : Int)) then
                              match c338 with
                              | none => none
                              | some r11 =>
                                some r11
                            else
                              some false
                        else
                          some false
                  else
                    some false
              else
                some false

/-- euphroe/euphroelaw18.PacketLength -/
def p332 (c337 : Bool × Int × (List (Int × (List Int))) × (List Int) → Option Bool) (c338 : Option Bool) (c339 : Bool × Int × (List (Int × (List Int))) × (List Int) → Option (Bool × Int × (List (Int × (List Int))) × (List Int))) (c317 : Bool × Int × (List (Int × (List Int))) × (List Int) → Option ((List Int) × Int)) (c343 : List Int → Option (Int × Int)) (c341 : List Int → Option ((Bool × Int × (List (Int × (List Int))) × (List Int)) × Int)) (N : Nat) (a0 : Bool × Int × (List (Int × (List Int))) × (List Int)) (a1 : Int) : Option Bool :=
  match c337 (a0.1, (a0.2.1, (a0.2.2.1, a0.2.2.2))) with
  | none => none
  | some r1 =>
    bif r1 then
      match c338 with
      | none => none
      | some r2 =>
        some r2
    else
      match c339 (a0.1, (a0.2.1, (a0.2.2.1, a0.2.2.2))) with
      | none => none
      | some r3 =>
        match c317 (r3.1, (r3.2.1, (r3.2.2.1, r3.2.2.2))) with
        | none => none
        | some r4 =>
          bif (r4.2 != (0 : Int)) then
            bif (r4.2 != (0 : Int)) then
              bif ((((List.length r4.1) : Nat) : Int) == (0 : Int)) then
                match c338 with
                | none => none
                | some r5 =>
                  some r5
              else
                some false
            else
              some false
          else
            bif ((((List.length r4.1) : Nat) : Int) == (0 : Int)) then
              bif (r4.2 != (0 : Int)) then
                bif ((((List.length r4.1) : Nat) : Int) == (0 : Int)) then
                  match c338 with
                  | none => none
                  | some r6 =>
                    some r6
                else
                  some false
              else
                some false
            else
              bif ((((List.length r4.1) : Nat) : Int) == (0 : Int)) then
                none
              else
                bif ((decide ((0 : Int) ≤ (irem (IntKind.wrap .i64 a1) (((List.length r4.1) : Nat) : Int)))) && (decide ((irem (IntKind.wrap .i64 a1) (((List.length r4.1) : Nat) : Int)) ≤ (((List.length r4.1) : Nat) : Int)))) then
                  match c343 (List.take (Int.toNat (irem (IntKind.wrap .i64 a1) (((List.length r4.1) : Nat) : Int))) r4.1) with
                  | none => none
                  | some r7 =>
                    bif ((decide ((0 : Int) ≤ (irem (IntKind.wrap .i64 a1) (((List.length r4.1) : Nat) : Int)))) && (decide ((irem (IntKind.wrap .i64 a1) (((List.length r4.1) : Nat) : Int)) ≤ (((List.length r4.1) : Nat) : Int)))) then
                      match c341 (List.take (Int.toNat (irem (IntKind.wrap .i64 a1) (((List.length r4.1) : Nat) : Int))) r4.1) with
                      | none => none
                      | some r8 =>
                        bif ((decide ((irem (IntKind.wrap .i64 a1) (((List.length r4.1) : Nat) : Int)) < (4 : Int))) == (r7.2 == (4 : Int))) then
                          bif (decide ((irem (IntKind.wrap .i64 a1) (((List.length r4.1) : Nat) : Int)) < (4 : Int))) then
                            bif (r8.2 == (4 : Int)) then
                              bif (decide ((((List.length r4.1) : Nat) : Int) ≤ (4095 : Int))) then
                                match c338 with
                                | none => none
                                | some r9 =>
                                  some r9
                              else
                                some false
                            else
                              some false
                          else
                            bif (r7.1 == (((List.length r4.1) : Nat) : Int)) then
                              bif (r7.2 == (0 : Int)) then
                                bif (r8.2 == (4 : Int)) then
                                  bif (decide ((((List.length r4.1) : Nat) : Int) ≤ (4095 : Int))) then
                                    match c338 with
                                    | none => none
                                    | some r10 =>
                                      some r10
                                  else
                                    some false
                                else
                                  some false
                              else
                                some false
                            else
                              some false
                        else
                          some false
                    else none
                else none
end Go.Proofs.YteagngpgghnlmaaE
