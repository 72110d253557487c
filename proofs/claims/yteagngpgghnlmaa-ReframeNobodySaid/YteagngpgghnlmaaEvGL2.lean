/- The functions as plain ones. -/
import Derived.Test.YteagngpgghnlmaaEvFL2
namespace Go.Proofs.YteagngpgghnlmaaE
open Go
set_option linter.unusedVariables false
set_option linter.unusedSimpArgs false
/-- slices.Concat[[]byte,byte] -/
abbrev en1 (f : List (List Int) → Option (List Int)) : Ent := ⟨[(Sh.sl (Sh.sl (Sh.int .u8)))], List Int, fun v => f v.1, ownOut .u8⟩
/-- euphroe/octs.Put -/
abbrev en19 (f : Int → Int → Bool → Option ((List Int) × Int)) : Ent := ⟨[(Sh.int .u64), (Sh.int .i64), Sh.bool], (List Int) × Int, fun v => f v.1 v.2.1 v.2.2.1, fun r => (((Sh.tu (Sh.pr (Sh.sl (Sh.int .u8)) (Sh.int .i64)))).enc r, [])⟩
/-- euphroe/octs.Get -/
abbrev en21 (f : List Int → Bool → Option (Int × Int)) : Ent := ⟨[(Sh.sl (Sh.int .u8)), Sh.bool], Int × Int, fun v => f v.1 v.2.1, fun r => (((Sh.tu (Sh.pr (Sh.int .u64) (Sh.int .i64)))).enc r, [])⟩
/-- euphroe/octs.Join -/
abbrev en46 (f : List (List Int) → Option (List Int)) : Ent := ⟨[(Sh.sl (Sh.sl (Sh.int .u8)))], List Int, fun v => f v.1, ownOut .u8⟩
/-- euphroe/euphroeref01.Num -/
abbrev en51 (f : List Int → Option Int) : Ent := ⟨[(Sh.sl (Sh.int .u8))], Int, fun v => f v.1, fun r => (((Sh.int .u64)).enc r, [])⟩
/-- bytes.Clone -/
abbrev en108 (f : List Int → Option (List Int)) : Ent := ⟨[(Sh.sl (Sh.int .u8))], List Int, fun v => f v.1, ownOut .u8⟩
/-- euphroe/attr.Lay -/
abbrev en139 (f : Int × (List Int) → Option ((List Int) × Int)) : Ent := ⟨[(Sh.st (Sh.pr (Sh.int .u8) (Sh.sl (Sh.int .u8))))], (List Int) × Int, fun v => f v.1, fun r => (((Sh.tu (Sh.pr (Sh.sl (Sh.int .u8)) (Sh.int .i64)))).enc r, [])⟩
/-- euphroe/attr.Parse -/
abbrev en142 (f : List Int → Option ((Int × (List Int)) × Int × Int)) : Ent := ⟨[(Sh.sl (Sh.int .u8))], (Int × (List Int)) × Int × Int, fun v => f v.1, fun r => (((Sh.tu (Sh.pr (Sh.st (Sh.pr (Sh.int .u8) (Sh.sl (Sh.int .u8)))) (Sh.pr (Sh.int .i64) (Sh.int .i64))))).enc r, [])⟩
/-- euphroe/euphroeref17.Parse -/
abbrev en143 (f : List Int → Option ((Int × (List Int)) × Int × Int)) : Ent := ⟨[(Sh.sl (Sh.int .u8))], (Int × (List Int)) × Int × Int, fun v => f v.1, fun r => (((Sh.tu (Sh.pr (Sh.st (Sh.pr (Sh.int .u8) (Sh.sl (Sh.int .u8)))) (Sh.pr (Sh.int .i64) (Sh.int .i64))))).enc r, [])⟩
/-- euphroe/attr.Same -/
abbrev en144 (f : Int × (List Int) → Int × (List Int) → Option Bool) : Ent := ⟨[(Sh.st (Sh.pr (Sh.int .u8) (Sh.sl (Sh.int .u8)))), (Sh.st (Sh.pr (Sh.int .u8) (Sh.sl (Sh.int .u8))))], Bool, fun v => f v.1 v.2.1, fun r => ((Sh.bool).enc r, [])⟩
/-- bytes.Equal -/
abbrev en160 (f : List Int → List Int → Option Bool) : Ent := ⟨[(Sh.sl (Sh.int .u8)), (Sh.sl (Sh.int .u8))], Bool, fun v => f v.1 v.2.1, fun r => ((Sh.bool).enc r, [])⟩
/-- euphroe/attr.isKind -/
abbrev en161 (f : Int → Option Bool) : Ent := ⟨[(Sh.int .u8)], Bool, fun v => f v.1, fun r => ((Sh.bool).enc r, [])⟩
/-- euphroe/euphroeref17.kind -/
abbrev en162 (f : Int → Option Bool) : Ent := ⟨[(Sh.int .u8)], Bool, fun v => f v.1, fun r => ((Sh.bool).enc r, [])⟩
/-- euphroe/packet.Same -/
abbrev en302 (f : Bool × Int × (List (Int × (List Int))) × (List Int) → Bool × Int × (List (Int × (List Int))) × (List Int) → Option Bool) : Ent := ⟨[(Sh.st (Sh.pr Sh.bool (Sh.pr (Sh.int .u16) (Sh.pr (Sh.sl (Sh.pr (Sh.int .u8) (Sh.sl (Sh.int .u8)))) (Sh.sl (Sh.int .u8)))))), (Sh.st (Sh.pr Sh.bool (Sh.pr (Sh.int .u16) (Sh.pr (Sh.sl (Sh.pr (Sh.int .u8) (Sh.sl (Sh.int .u8)))) (Sh.sl (Sh.int .u8))))))], Bool, fun v => f v.1 v.2.1, fun r => ((Sh.bool).enc r, [])⟩
/-- euphroe/packet.Of -/
abbrev en316 (f : Int → List (Int × (List Int)) → Option (Bool × Int × (List (Int × (List Int))) × (List Int))) : Ent := ⟨[(Sh.int .u16), (Sh.sl (Sh.pr (Sh.int .u8) (Sh.sl (Sh.int .u8))))], Bool × Int × (List (Int × (List Int))) × (List Int), fun v => f v.1 v.2.1, fun r => (((Sh.st (Sh.pr Sh.bool (Sh.pr (Sh.int .u16) (Sh.pr (Sh.sl (Sh.pr (Sh.int .u8) (Sh.sl (Sh.int .u8)))) (Sh.sl (Sh.int .u8))))))).enc r, [])⟩
/-- euphroe/packet.Lay -/
abbrev en317 (f : Bool × Int × (List (Int × (List Int))) × (List Int) → Option ((List Int) × Int)) : Ent := ⟨[(Sh.st (Sh.pr Sh.bool (Sh.pr (Sh.int .u16) (Sh.pr (Sh.sl (Sh.pr (Sh.int .u8) (Sh.sl (Sh.int .u8)))) (Sh.sl (Sh.int .u8))))))], (List Int) × Int, fun v => f v.1, fun r => (((Sh.tu (Sh.pr (Sh.sl (Sh.int .u8)) (Sh.int .i64)))).enc r, [])⟩
/-- slices.Clone[[]euphroe/api.Attr,euphroe/api.Attr] -/
abbrev en320 (f : List (Int × (List Int)) → Option (List (Int × (List Int)))) : Ent := ⟨[(Sh.sl (Sh.pr (Sh.int .u8) (Sh.sl (Sh.int .u8))))], List (Int × (List Int)), fun v => f v.1, fun r => (((Sh.sl (Sh.pr (Sh.int .u8) (Sh.sl (Sh.int .u8))))).enc r, [])⟩
/-- euphroe/packet.body -/
abbrev en321 (f : Bool × Int × (List (Int × (List Int))) × (List Int) → Option ((List Int) × Int)) : Ent := ⟨[(Sh.st (Sh.pr Sh.bool (Sh.pr (Sh.int .u16) (Sh.pr (Sh.sl (Sh.pr (Sh.int .u8) (Sh.sl (Sh.int .u8)))) (Sh.sl (Sh.int .u8))))))], (List Int) × Int, fun v => f v.1, fun r => (((Sh.tu (Sh.pr (Sh.sl (Sh.int .u8)) (Sh.int .i64)))).enc r, [])⟩
/-- euphroe/packet.number -/
abbrev en322 (f : Int → Option (List Int)) : Ent := ⟨[(Sh.int .i64)], List Int, fun v => f v.1, fun r => (((Sh.sl (Sh.int .u8))).enc r, [])⟩
/-- euphroe/euphroelaw19.ReframeNobody -/
abbrev en333 (f : List Int → List Int → Option Bool) : Ent := ⟨[(Sh.sl (Sh.int .u8)), (Sh.sl (Sh.int .u8))], Bool, fun v => f v.1 v.2.1, fun r => ((Sh.bool).enc r, [])⟩
/-- euphroe/euphroelaw19.ReframeHeld -/
abbrev en334 (f : List Int → List Int → Option Bool) : Ent := ⟨[(Sh.sl (Sh.int .u8)), (Sh.sl (Sh.int .u16))], Bool, fun v => f v.1 v.2.1, fun r => ((Sh.bool).enc r, [])⟩
/-- euphroe/euphroelaw19.ReframeWrites -/
abbrev en335 (f : List Int → List Int → Option Bool) : Ent := ⟨[(Sh.sl (Sh.int .u8)), (Sh.sl (Sh.int .u16))], Bool, fun v => f v.1 v.2.1, fun r => ((Sh.bool).enc r, [])⟩
/-- euphroe/euphroelaw19.ReframeSame -/
abbrev en336 (f : List Int → List Int → Option Bool) : Ent := ⟨[(Sh.sl (Sh.int .u8)), (Sh.sl (Sh.int .u16))], Bool, fun v => f v.1 v.2.1, fun r => ((Sh.bool).enc r, [])⟩
/-- euphroe/packet.Parse -/
abbrev en341 (f : List Int → Option ((Bool × Int × (List (Int × (List Int))) × (List Int)) × Int)) : Ent := ⟨[(Sh.sl (Sh.int .u8))], (Bool × Int × (List (Int × (List Int))) × (List Int)) × Int, fun v => f v.1, fun r => (((Sh.tu (Sh.pr (Sh.st (Sh.pr Sh.bool (Sh.pr (Sh.int .u16) (Sh.pr (Sh.sl (Sh.pr (Sh.int .u8) (Sh.sl (Sh.int .u8)))) (Sh.sl (Sh.int .u8)))))) (Sh.int .i64)))).enc r, [])⟩
/-- euphroe/euphroeref18.Parse -/
abbrev en342 (f : List Int → Option ((Bool × Int × (List (Int × (List Int))) × (List Int)) × Int)) : Ent := ⟨[(Sh.sl (Sh.int .u8))], (Bool × Int × (List (Int × (List Int))) × (List Int)) × Int, fun v => f v.1, fun r => (((Sh.tu (Sh.pr (Sh.st (Sh.pr Sh.bool (Sh.pr (Sh.int .u16) (Sh.pr (Sh.sl (Sh.pr (Sh.int .u8) (Sh.sl (Sh.int .u8)))) (Sh.sl (Sh.int .u8)))))) (Sh.int .i64)))).enc r, [])⟩
/-- euphroe/packet.Length -/
abbrev en343 (f : List Int → Option (Int × Int)) : Ent := ⟨[(Sh.sl (Sh.int .u8))], Int × Int, fun v => f v.1, fun r => (((Sh.tu (Sh.pr (Sh.int .i64) (Sh.int .i64)))).enc r, [])⟩
/-- euphroe/euphroeref18.Length -/
abbrev en344 (f : List Int → Option (Int × Int)) : Ent := ⟨[(Sh.sl (Sh.int .u8))], Int × Int, fun v => f v.1, fun r => (((Sh.tu (Sh.pr (Sh.int .i64) (Sh.int .i64)))).enc r, [])⟩
/-- euphroe/packet.OfData -/
abbrev en346 (f : List Int → Option (Bool × Int × (List (Int × (List Int))) × (List Int))) : Ent := ⟨[(Sh.sl (Sh.int .u8))], Bool × Int × (List (Int × (List Int))) × (List Int), fun v => f v.1, fun r => (((Sh.st (Sh.pr Sh.bool (Sh.pr (Sh.int .u16) (Sh.pr (Sh.sl (Sh.pr (Sh.int .u8) (Sh.sl (Sh.int .u8)))) (Sh.sl (Sh.int .u8))))))).enc r, [])⟩
/-- euphroe/euphroelaw19.alive -/
abbrev en347 (f : Option Bool) : Ent := ⟨[], Bool, fun v => f, fun r => ((Sh.bool).enc r, [])⟩
/-- euphroe/euphroelaw19.cuts -/
abbrev en354 (f : List Int → List Int → Option (List (List Int))) : Ent := ⟨[(Sh.sl (Sh.int .u8)), (Sh.sl (Sh.int .u16))], List (List Int), fun v => f v.1 v.2.1, fun r => (((Sh.sl (Sh.sl (Sh.int .u8)))).enc r, [])⟩
/-- euphroe/euphroeref19.All -/
abbrev en355 (f : List Int → Option ((List (Bool × Int × (List (Int × (List Int))) × (List Int))) × Int × Int)) : Ent := ⟨[(Sh.sl (Sh.int .u8))], (List (Bool × Int × (List (Int × (List Int))) × (List Int))) × Int × Int, fun v => f v.1, fun r => (((Sh.tu (Sh.pr (Sh.sl (Sh.pr Sh.bool (Sh.pr (Sh.int .u16) (Sh.pr (Sh.sl (Sh.pr (Sh.int .u8) (Sh.sl (Sh.int .u8)))) (Sh.sl (Sh.int .u8)))))) (Sh.pr (Sh.int .i64) (Sh.int .i64))))).enc r, [])⟩
/-- euphroe/euphroeref19.Wants -/
abbrev en356 (f : List Int → Option Int) : Ent := ⟨[(Sh.sl (Sh.int .u8))], Int, fun v => f v.1, fun r => (((Sh.int .i64)).enc r, [])⟩
/-- euphroe/euphroelaw19.theirs -/
abbrev en357 (f : Bool × Int × (List (Int × (List Int))) × (List Int) → Option (Bool × Int × (List (Int × (List Int))) × (List Int))) : Ent := ⟨[(Sh.st (Sh.pr Sh.bool (Sh.pr (Sh.int .u16) (Sh.pr (Sh.sl (Sh.pr (Sh.int .u8) (Sh.sl (Sh.int .u8)))) (Sh.sl (Sh.int .u8))))))], Bool × Int × (List (Int × (List Int))) × (List Int), fun v => f v.1, fun r => (((Sh.st (Sh.pr Sh.bool (Sh.pr (Sh.int .u16) (Sh.pr (Sh.sl (Sh.pr (Sh.int .u8) (Sh.sl (Sh.int .u8)))) (Sh.sl (Sh.int .u8))))))).enc r, [])⟩
/-- euphroe/packet.attrs -/
abbrev en359 (f : List Int → Int → Option ((List (Int × (List Int))) × Int)) : Ent := ⟨[(Sh.sl (Sh.int .u8)), (Sh.int .u64)], (List (Int × (List Int))) × Int, fun v => f v.1 v.2.1, fun r => (((Sh.tu (Sh.pr (Sh.sl (Sh.pr (Sh.int .u8) (Sh.sl (Sh.int .u8)))) (Sh.int .i64)))).enc r, [])⟩
def PR64v0 : Pr := ⟨(.cons .nils (.cons (.int .i64) .nil)), []⟩
def QR64v0 : Pr := ⟨(.cons (.sl 0 1) .nil), [(.ints false .u8)]⟩
/-- slices.Grow[[]byte,byte] -/
abbrev rn64v0 (f : Int → Option ((Nat × Unit) × ((List Int) × Unit))) : REnt := ⟨PR64v0, QR64v0, (Nat × Unit) × ((List Int) × Unit), fun v => f v.1.2.1, fun r => r⟩
def PR48v0 : Pr := ⟨(.cons (.slc 0 1) .nil), [(.ints false .u8)]⟩
def QR48v0 : Pr := ⟨(.cons .tup0 .nil), [(.ints false .u8)]⟩
/-- slices.Reverse[[]byte,byte] -/
abbrev rn48v0 (f : Nat → Nat → List Int → Option ((Unit × Unit) × ((List Int) × Unit))) : REnt := ⟨PR48v0, QR48v0, (Unit × Unit) × ((List Int) × Unit), fun v => f v.1.1.1 v.1.1.2 v.2.1, fun r => r⟩
def PR313v0 : Pr := ⟨(.cons (.tb (Sh.pr (Sh.int .u8) (Sh.sl (Sh.int .u8)))) (.cons (.tb (Sh.pr (Sh.int .u8) (Sh.sl (Sh.int .u8)))) (.cons (.fn 144 .nil) .nil))), []⟩
def QR313v0 : Pr := ⟨(.cons .bool .nil), []⟩
/-- slices.EqualFunc[[]euphroe/api.Attr,[]euphroe/api.Attr,euphroe/api.Attr,euphroe/api.Attr] -/
abbrev rn313v0 (f : List (Int × (List Int)) → List (Int × (List Int)) → Option ((Bool × Unit) × Unit)) : REnt := ⟨PR313v0, QR313v0, (Bool × Unit) × Unit, fun v => f v.1.1 v.1.2.1, fun r => r⟩
def PR348v2 : Pr := ⟨(.cons (.ptr 0 0) (.cons (.tb (Sh.int .u8)) .nil)), [(.vals false (.cons .bool (.cons (.tb (Sh.int .u8)) (.cons (.int .i64) (.cons (.int .i64) (.cons (.int .i64) .nil))))))]⟩
def QR348v2 : Pr := ⟨(.cons (.tp (.cons (.tb (Sh.pr Sh.bool (Sh.pr (Sh.int .u16) (Sh.pr (Sh.sl (Sh.pr (Sh.int .u8) (Sh.sl (Sh.int .u8)))) (Sh.sl (Sh.int .u8)))))) (.cons (.int .i64) .nil))) .nil), [(.vals false (.cons .bool (.cons (.tb (Sh.int .u8)) (.cons (.int .i64) (.cons (.int .i64) (.cons (.int .i64) .nil))))))]⟩
/-- (*euphroe/reframe.Stream).Write -/
abbrev rn348v2 (f : List Int → Bool → List Int → Int → Int → Int → Option ((((List (Bool × Int × (List (Int × (List Int))) × (List Int))) × (Int × Unit)) × Unit) × ((Bool × ((List Int) × (Int × (Int × (Int × Unit))))) × Unit))) : REnt := ⟨PR348v2, QR348v2, (((List (Bool × Int × (List (Int × (List Int))) × (List Int))) × (Int × Unit)) × Unit) × ((Bool × ((List Int) × (Int × (Int × (Int × Unit))))) × Unit), fun v => f v.1.2.1 v.2.1.1 v.2.1.2.1 v.2.1.2.2.1 v.2.1.2.2.2.1 v.2.1.2.2.2.2.1, fun r => r⟩
def PR352v1 : Pr := ⟨(.cons (.ptr 0 0) .nil), [(.vals false (.cons .bool (.cons (.tb (Sh.int .u8)) (.cons (.int .i64) (.cons (.int .i64) (.cons (.int .i64) .nil))))))]⟩
def QR352v1 : Pr := ⟨(.cons (.int .i64) .nil), [(.vals false (.cons .bool (.cons (.tb (Sh.int .u8)) (.cons (.int .i64) (.cons (.int .i64) (.cons (.int .i64) .nil))))))]⟩
/-- (*euphroe/reframe.Stream).Wants -/
abbrev rn352v1 (f : Bool → List Int → Int → Int → Int → Option ((Int × Unit) × ((Bool × ((List Int) × (Int × (Int × (Int × Unit))))) × Unit))) : REnt := ⟨PR352v1, QR352v1, (Int × Unit) × ((Bool × ((List Int) × (Int × (Int × (Int × Unit))))) × Unit), fun v => f v.2.1.1 v.2.1.2.1 v.2.1.2.2.1 v.2.1.2.2.2.1 v.2.1.2.2.2.2.1, fun r => r⟩
def PR351v1 : Pr := ⟨(.cons (.ptr 0 0) .nil), [(.vals false (.cons .bool (.cons (.tb (Sh.int .u8)) (.cons (.int .i64) (.cons (.int .i64) (.cons (.int .i64) .nil))))))]⟩
def QR351v1 : Pr := ⟨(.cons (.int .i64) .nil), [(.vals false (.cons .bool (.cons (.tb (Sh.int .u8)) (.cons (.int .i64) (.cons (.int .i64) (.cons (.int .i64) .nil))))))]⟩
/-- (*euphroe/reframe.Stream).At -/
abbrev rn351v1 (f : Bool → List Int → Int → Int → Int → Option ((Int × Unit) × ((Bool × ((List Int) × (Int × (Int × (Int × Unit))))) × Unit))) : REnt := ⟨PR351v1, QR351v1, (Int × Unit) × ((Bool × ((List Int) × (Int × (Int × (Int × Unit))))) × Unit), fun v => f v.2.1.1 v.2.1.2.1 v.2.1.2.2.1 v.2.1.2.2.2.1 v.2.1.2.2.2.2.1, fun r => r⟩
def PR349v1 : Pr := ⟨(.cons (.ptr 0 0) .nil), [(.vals false (.cons .bool (.cons (.tb (Sh.int .u8)) (.cons (.int .i64) (.cons (.int .i64) (.cons (.int .i64) .nil))))))]⟩
def QR349v1 : Pr := ⟨(.cons (.int .i64) .nil), [(.vals false (.cons .bool (.cons (.tb (Sh.int .u8)) (.cons (.int .i64) (.cons (.int .i64) (.cons (.int .i64) .nil))))))]⟩
/-- (*euphroe/reframe.Stream).Held -/
abbrev rn349v1 (f : Bool → List Int → Int → Int → Int → Option ((Int × Unit) × ((Bool × ((List Int) × (Int × (Int × (Int × Unit))))) × Unit))) : REnt := ⟨PR349v1, QR349v1, (Int × Unit) × ((Bool × ((List Int) × (Int × (Int × (Int × Unit))))) × Unit), fun v => f v.2.1.1 v.2.1.2.1 v.2.1.2.2.1 v.2.1.2.2.2.1 v.2.1.2.2.2.2.1, fun r => r⟩
def PR350v1 : Pr := ⟨(.cons (.ptr 0 0) .nil), [(.vals false (.cons .bool (.cons (.tb (Sh.int .u8)) (.cons (.int .i64) (.cons (.int .i64) (.cons (.int .i64) .nil))))))]⟩
def QR350v1 : Pr := ⟨(.cons (.int .i64) .nil), [(.vals false (.cons .bool (.cons (.tb (Sh.int .u8)) (.cons (.int .i64) (.cons (.int .i64) (.cons (.int .i64) .nil))))))]⟩
/-- (*euphroe/reframe.Stream).Count -/
abbrev rn350v1 (f : Bool → List Int → Int → Int → Int → Option ((Int × Unit) × ((Bool × ((List Int) × (Int × (Int × (Int × Unit))))) × Unit))) : REnt := ⟨PR350v1, QR350v1, (Int × Unit) × ((Bool × ((List Int) × (Int × (Int × (Int × Unit))))) × Unit), fun v => f v.2.1.1 v.2.1.2.1 v.2.1.2.2.1 v.2.1.2.2.2.1 v.2.1.2.2.2.2.1, fun r => r⟩
def PR348v0 : Pr := ⟨(.cons .nilp (.cons (.tb (Sh.int .u8)) .nil)), []⟩
def QR348v0 : Pr := ⟨(.cons (.tp (.cons (.tb (Sh.pr Sh.bool (Sh.pr (Sh.int .u16) (Sh.pr (Sh.sl (Sh.pr (Sh.int .u8) (Sh.sl (Sh.int .u8)))) (Sh.sl (Sh.int .u8)))))) (.cons (.int .i64) .nil))) .nil), []⟩
/-- (*euphroe/reframe.Stream).Write -/
abbrev rn348v0 (f : List Int → Option ((((List (Bool × Int × (List (Int × (List Int))) × (List Int))) × (Int × Unit)) × Unit) × Unit)) : REnt := ⟨PR348v0, QR348v0, (((List (Bool × Int × (List (Int × (List Int))) × (List Int))) × (Int × Unit)) × Unit) × Unit, fun v => f v.1.2.1, fun r => r⟩
def PR349v0 : Pr := ⟨(.cons .nilp .nil), []⟩
def QR349v0 : Pr := ⟨(.cons (.int .i64) .nil), []⟩
/-- (*euphroe/reframe.Stream).Held -/
abbrev rn349v0 (f : Option ((Int × Unit) × Unit)) : REnt := ⟨PR349v0, QR349v0, (Int × Unit) × Unit, fun v => f , fun r => r⟩
def PR350v0 : Pr := ⟨(.cons .nilp .nil), []⟩
def QR350v0 : Pr := ⟨(.cons (.int .i64) .nil), []⟩
/-- (*euphroe/reframe.Stream).Count -/
abbrev rn350v0 (f : Option ((Int × Unit) × Unit)) : REnt := ⟨PR350v0, QR350v0, (Int × Unit) × Unit, fun v => f , fun r => r⟩
def PR351v0 : Pr := ⟨(.cons .nilp .nil), []⟩
def QR351v0 : Pr := ⟨(.cons (.int .i64) .nil), []⟩
/-- (*euphroe/reframe.Stream).At -/
abbrev rn351v0 (f : Option ((Int × Unit) × Unit)) : REnt := ⟨PR351v0, QR351v0, (Int × Unit) × Unit, fun v => f , fun r => r⟩
def PR352v0 : Pr := ⟨(.cons .nilp .nil), []⟩
def QR352v0 : Pr := ⟨(.cons (.int .i64) .nil), []⟩
/-- (*euphroe/reframe.Stream).Wants -/
abbrev rn352v0 (f : Option ((Int × Unit) × Unit)) : REnt := ⟨PR352v0, QR352v0, (Int × Unit) × Unit, fun v => f , fun r => r⟩
def PR348v1 : Pr := ⟨(.cons (.ptr 0 0) (.cons (.tb (Sh.int .u8)) .nil)), [(.vals false (.cons .bool (.cons .nils (.cons (.int .i64) (.cons (.int .i64) (.cons (.int .i64) .nil))))))]⟩
def QR348v1 : Pr := ⟨(.cons (.tp (.cons (.tb (Sh.pr Sh.bool (Sh.pr (Sh.int .u16) (Sh.pr (Sh.sl (Sh.pr (Sh.int .u8) (Sh.sl (Sh.int .u8)))) (Sh.sl (Sh.int .u8)))))) (.cons (.int .i64) .nil))) .nil), [(.vals false (.cons .bool (.cons (.tb (Sh.int .u8)) (.cons (.int .i64) (.cons (.int .i64) (.cons (.int .i64) .nil))))))]⟩
/-- (*euphroe/reframe.Stream).Write -/
abbrev rn348v1 (f : List Int → Bool → Int → Int → Int → Option ((((List (Bool × Int × (List (Int × (List Int))) × (List Int))) × (Int × Unit)) × Unit) × ((Bool × ((List Int) × (Int × (Int × (Int × Unit))))) × Unit))) : REnt := ⟨PR348v1, QR348v1, (((List (Bool × Int × (List (Int × (List Int))) × (List Int))) × (Int × Unit)) × Unit) × ((Bool × ((List Int) × (Int × (Int × (Int × Unit))))) × Unit), fun v => f v.1.2.1 v.2.1.1 v.2.1.2.2.1 v.2.1.2.2.2.1 v.2.1.2.2.2.2.1, fun r => r⟩
def PR348v3 : Pr := ⟨(.cons (.ptr 0 0) (.cons .nils .nil)), [(.vals false (.cons .bool (.cons (.tb (Sh.int .u8)) (.cons (.int .i64) (.cons (.int .i64) (.cons (.int .i64) .nil))))))]⟩
def QR348v3 : Pr := ⟨(.cons (.tp (.cons (.tb (Sh.pr Sh.bool (Sh.pr (Sh.int .u16) (Sh.pr (Sh.sl (Sh.pr (Sh.int .u8) (Sh.sl (Sh.int .u8)))) (Sh.sl (Sh.int .u8)))))) (.cons (.int .i64) .nil))) .nil), [(.vals false (.cons .bool (.cons (.tb (Sh.int .u8)) (.cons (.int .i64) (.cons (.int .i64) (.cons (.int .i64) .nil))))))]⟩
/-- (*euphroe/reframe.Stream).Write -/
abbrev rn348v3 (f : Bool → List Int → Int → Int → Int → Option ((((List (Bool × Int × (List (Int × (List Int))) × (List Int))) × (Int × Unit)) × Unit) × ((Bool × ((List Int) × (Int × (Int × (Int × Unit))))) × Unit))) : REnt := ⟨PR348v3, QR348v3, (((List (Bool × Int × (List (Int × (List Int))) × (List Int))) × (Int × Unit)) × Unit) × ((Bool × ((List Int) × (Int × (Int × (Int × Unit))))) × Unit), fun v => f v.2.1.1 v.2.1.2.1 v.2.1.2.2.1 v.2.1.2.2.2.1 v.2.1.2.2.2.2.1, fun r => r⟩

/-- slices.Grow[[]byte,byte] -/
def p64v0 (N : Nat) (a0 : Int) : Option ((Nat × Unit) × ((List Int) × Unit)) :=
  bif (decide (a0 < (0 : Int))) then
    none
  else
    bif (decide ((isub .i64 a0 (0 : Int)) > (0 : Int))) then
      bif ((decide ((0 : Int) ≤ (isub .i64 a0 (0 : Int)))) && ((decide (((isub .i64 a0 (0 : Int)) * ((1 : Nat) : Int)) ≤ (1099511627776 : Int))) && (decide ((isub .i64 a0 (0 : Int)) ≤ (1099511627776 : Int))))) then
        bif (decide ((0 : Int) ≤ (((Int.toNat (isub .i64 a0 (0 : Int))) : Nat) : Int))) then
          some ((0, ()), (([] : List Int), ()))
        else none
      else none
    else
      some ((0, ()), (([] : List Int), ()))

def L1_0 (d64v0 : Int → Option ((Nat × Unit) × ((List Int) × Unit))) (N : Nat) (q0_0 : List (List Int) → Int → Option (List Int)) : Nat → List (List Int) → Int → List (List Int) → Int → Int → Option (List Int)
  | 0, _, _, _, _, _ => none
  | n0 + 1, v1, v2, v3, v4, v5 =>
    bif (decide (v5 < v4)) then
      match geti v3 v5 with
      | none => none
      | some x6 =>
        bif (decide ((iadd .i64 v2 (((List.length x6) : Nat) : Int)) < (0 : Int))) then
          none
        else
          L1_0 d64v0 N q0_0 n0 v1 (iadd .i64 v2 (((List.length x6) : Nat) : Int)) v3 v4 (iadd .i64 v5 (1 : Int))
    else
      q0_0 v1 v2
def L1_1 (d64v0 : Int → Option ((Nat × Unit) × ((List Int) × Unit))) (N : Nat) (q1_2 : Nat → List Int → Option (List Int)) : Nat → Nat → List (List Int) → Int → Int → List Int → Option (List Int)
  | 0, _, _, _, _, _ => none
  | n1 + 1, v10, v11, v12, v13, v14 =>
    bif (decide (v13 < v12)) then
      match geti v11 v13 with
      | none => none
      | some x15 =>
        bif (((List.length v14) == (v10 * 1)) && ((decide (((v10 + (List.length x15)) * 1) ≤ 1099511627776)) && (decide ((v10 + (List.length x15)) ≤ 1099511627776)))) then
          L1_1 d64v0 N q1_2 n1 (v10 + (List.length x15)) v11 v12 (iadd .i64 v13 (1 : Int)) (v14 ++ x15)
        else none
    else
      q1_2 v10 v14
/-- slices.Concat[[]byte,byte] -/
def p1 (d64v0 : Int → Option ((Nat × Unit) × ((List Int) × Unit))) (N : Nat) (a0 : List (List Int)) : Option (List Int) :=
  L1_0 d64v0 N (fun (y7 : List (List Int)) (y8 : Int) =>
      match d64v0 y8 with
      | none => none
      | some r9 =>
        L1_1 d64v0 N (fun (y16 : Nat) (y17 : List Int) =>
            bif (y16 == (List.length y17)) then
              some y17
            else none) N r9.1.1 y7 (((List.length y7) : Nat) : Int) (0 : Int) r9.2.1) N a0 (0 : Int) a0 (((List.length a0) : Nat) : Int) (0 : Int)

def L48v0_0 (N : Nat) (q0_0 : List Int → Option ((Unit × Unit) × ((List Int) × Unit))) : Nat → Nat → Nat → Int → Int → List Int → Option ((Unit × Unit) × ((List Int) × Unit))
  | 0, _, _, _, _, _ => none
  | n0 + 1, v1, v2, v3, v4, v5 =>
    bif (decide (v3 < v4)) then
      bif ((decide ((0 : Int) ≤ v4)) && (decide (v4 < ((v1 : Nat) : Int)))) then
        match (v5)[(0 + ((Int.toNat v4) * 1))]? with
        | none => none
        | some x6 =>
          bif ((decide ((0 : Int) ≤ v3)) && (decide (v3 < ((v1 : Nat) : Int)))) then
            match (v5)[(0 + ((Int.toNat v3) * 1))]? with
            | none => none
            | some x7 =>
              bif ((decide ((0 : Int) ≤ v3)) && (decide (v3 < ((v1 : Nat) : Int)))) then
                bif (decide ((0 + ((Int.toNat v3) * 1)) < (List.length v5))) then
                  bif ((decide ((0 : Int) ≤ v4)) && (decide (v4 < ((v1 : Nat) : Int)))) then
                    bif (decide ((0 + ((Int.toNat v4) * 1)) < (List.length (List.set v5 (0 + ((Int.toNat v3) * 1)) x6)))) then
                      L48v0_0 N q0_0 n0 v1 v2 (iadd .i64 v3 (1 : Int)) (isub .i64 v4 (1 : Int)) (List.set (List.set v5 (0 + ((Int.toNat v3) * 1)) x6) (0 + ((Int.toNat v4) * 1)) x7)
                    else none
                  else none
                else none
              else none
          else none
      else none
    else
      q0_0 v5
/-- slices.Reverse[[]byte,byte] -/
def p48v0 (N : Nat) (a0 : Nat) (a1 : Nat) (a2 : List Int) : Option ((Unit × Unit) × ((List Int) × Unit)) :=
  L48v0_0 N (fun (y8 : List Int) =>
      some (((), ()), (y8, ()))) N a0 a1 (0 : Int) (isub .i64 ((a0 : Nat) : Int) (1 : Int)) a2

def L19_0 (d48v0 : Nat → Nat → List Int → Option ((Unit × Unit) × ((List Int) × Unit))) (N : Nat) (q0_0 : Bool → Nat → Nat → List Int → Option ((List Int) × Int)) : Nat → Int → Bool → Nat → Nat → Int → Int → List Int → Option ((List Int) × Int)
  | 0, _, _, _, _, _, _, _ => none
  | n0 + 1, v1, v2, v3, v4, v5, v6, v7 =>
    bif (decide (v6 < v5)) then
      bif (decide ((imul .i64 (8 : Int) v6) < (0 : Int))) then
        none
      else
        bif ((decide ((0 : Int) ≤ v6)) && (decide (v6 < ((v3 : Nat) : Int)))) then
          bif (decide ((0 + ((Int.toNat v6) * 1)) < (List.length v7))) then
            L19_0 d48v0 N q0_0 n0 v1 v2 v3 v4 v5 (iadd .i64 v6 (1 : Int)) (List.set v7 (0 + ((Int.toNat v6) * 1)) (IntKind.wrap .u8 (ishr .u64 v1 (imul .i64 (8 : Int) v6))))
          else none
        else none
    else
      q0_0 v2 v3 v4 v7
/-- euphroe/octs.Put -/
def p19 (d48v0 : Nat → Nat → List Int → Option ((Unit × Unit) × ((List Int) × Unit))) (N : Nat) (a0 : Int) (a1 : Int) (a2 : Bool) : Option ((List Int) × Int) :=
  bif (decide (a1 < (1 : Int))) then
    some (([] : List Int), (1 : Int))
  else
    bif (decide (a1 > (8 : Int))) then
      some (([] : List Int), (1 : Int))
    else
      bif ((decide ((0 : Int) ≤ a1)) && ((decide (a1 ≤ a1)) && ((decide ((a1 * ((1 : Nat) : Int)) ≤ (1099511627776 : Int))) && (decide (a1 ≤ (1099511627776 : Int)))))) then
        L19_0 d48v0 N (fun (y8 : Bool) (y9 : Nat) (y10 : Nat) (y11 : List Int) =>
            bif (!y8) then
              match d48v0 y9 y10 y11 with
              | none => none
              | some r12 =>
                bif (decide ((0 + (y9 * 1)) ≤ (List.length r12.2.1))) then
                  some ((List.take y9 (List.drop 0 r12.2.1)), (0 : Int))
                else none
            else
              bif (decide ((0 + (y9 * 1)) ≤ (List.length y11))) then
                some ((List.take y9 (List.drop 0 y11)), (0 : Int))
              else none) N a0 a2 (Int.toNat a1) (Int.toNat a1) (((Int.toNat a1) : Nat) : Int) (0 : Int) (List.replicate (Int.toNat a1) (0 : Int))
      else none

def L21_0 (N : Nat) (q0_0 : Int → Option (Int × Int)) : Nat → Bool → Int → List Int → Int → Int → Option (Int × Int)
  | 0, _, _, _, _, _ => none
  | n0 + 1, v1, v2, v3, v4, v5 =>
    bif (decide (v5 < v4)) then
      match geti v3 v5 with
      | none => none
      | some x6 =>
        bif v1 then
          bif (decide ((imul .i64 (8 : Int) v5) < (0 : Int))) then
            none
          else
            L21_0 N q0_0 n0 v1 (ior .u64 v2 (ishl .u64 (IntKind.wrap .u64 x6) (imul .i64 (8 : Int) v5))) v3 v4 (iadd .i64 v5 (1 : Int))
        else
          L21_0 N q0_0 n0 v1 (ior .u64 (ishl .u64 v2 (8 : Int)) (IntKind.wrap .u64 x6)) v3 v4 (iadd .i64 v5 (1 : Int))
    else
      q0_0 v2
/-- euphroe/octs.Get -/
def p21 (N : Nat) (a0 : List Int) (a1 : Bool) : Option (Int × Int) :=
  bif (decide ((((List.length a0) : Nat) : Int) < (1 : Int))) then
    some ((0 : Int), (1 : Int))
  else
    bif (decide ((((List.length a0) : Nat) : Int) > (8 : Int))) then
      some ((0 : Int), (1 : Int))
    else
      L21_0 N (fun (y7 : Int) =>
          some (y7, (0 : Int))) N a1 (0 : Int) a0 (((List.length a0) : Nat) : Int) (0 : Int)

/-- euphroe/octs.Join -/
def p46 (c1 : List (List Int) → Option (List Int)) (N : Nat) (a0 : List (List Int)) : Option (List Int) :=
  match c1 a0 with
  | none => none
  | some r1 =>
    bif ((List.length r1) == (List.length r1)) then
      some r1
    else none

def L51_0 (N : Nat) (q0_0 : Int → Option Int) : Nat → List Int → Int → Int → Option Int
  | 0, _, _, _ => none
  | n0 + 1, v1, v2, v3 =>
    bif (decide (v3 < (((List.length v1) : Nat) : Int))) then
      match geti v1 v3 with
      | none => none
      | some x4 =>
        L51_0 N q0_0 n0 v1 (iadd .u64 (imul .u64 v2 (256 : Int)) (IntKind.wrap .u64 x4)) (iadd .i64 v3 (1 : Int))
    else
      q0_0 v2
/-- euphroe/euphroeref01.Num -/
def p51 (N : Nat) (a0 : List Int) : Option Int :=
  L51_0 N (fun (y5 : Int) =>
      some y5) N a0 (0 : Int) (0 : Int)

/-- euphroe/attr.isKind -/
def p161 (N : Nat) (a0 : Int) : Option Bool :=
  bif (decide (a0 ≥ (1 : Int))) then
    some (decide (a0 ≤ (4 : Int)))
  else
    some false

/-- euphroe/attr.Lay -/
def p139 (c161 : Int → Option Bool) (c19 : Int → Int → Bool → Option ((List Int) × Int)) (c46 : List (List Int) → Option (List Int)) (N : Nat) (a0 : Int × (List Int)) : Option ((List Int) × Int) :=
  match c161 a0.1 with
  | none => none
  | some r1 =>
    bif (!r1) then
      some (([] : List Int), (9 : Int))
    else
      bif (decide ((iadd .i64 (4 : Int) (((List.length a0.2) : Nat) : Int)) > (4095 : Int))) then
        some (([] : List Int), (8 : Int))
      else
        match c19 (IntKind.wrap .u64 (iadd .i64 (4 : Int) (((List.length a0.2) : Nat) : Int))) (2 : Int) false with
        | none => none
        | some r2 =>
          match c46 ([([(0 : Int), a0.1] : List Int), r2.1, a0.2] : List (List Int)) with
          | none => none
          | some r3 =>
            bif (decide ((0 + ((List.length r3) * 1)) ≤ (List.length r3))) then
              some ((List.take (List.length r3) (List.drop 0 r3)), (0 : Int))
            else none

/-- euphroe/euphroeref17.kind -/
def p162 (N : Nat) (a0 : Int) : Option Bool :=
  bif (decide (a0 ≥ (1 : Int))) then
    some (decide (a0 ≤ (4 : Int)))
  else
    some false

/-- euphroe/attr.Parse -/
def p142 (c21 : List Int → Bool → Option (Int × Int)) (c161 : Int → Option Bool) (c108 : List Int → Option (List Int)) (N : Nat) (a0 : List Int) : Option ((Int × (List Int)) × Int × Int) :=
  bif (decide ((((List.length a0) : Nat) : Int) < (4 : Int))) then
    some (((0 : Int), ([] : List Int)), ((0 : Int), (4 : Int)))
  else
    bif (decide ((4 : Int) ≤ (((List.length a0) : Nat) : Int))) then
      match c21 (List.take 2 (List.drop 2 a0)) false with
      | none => none
      | some r1 =>
        match geti a0 (0 : Int) with
        | none => none
        | some x2 =>
          bif (x2 != (0 : Int)) then
            some (((0 : Int), ([] : List Int)), ((0 : Int), (3 : Int)))
          else
            bif (decide ((IntKind.wrap .i64 r1.1) < (4 : Int))) then
              some (((0 : Int), ([] : List Int)), ((0 : Int), (3 : Int)))
            else
              bif (decide ((IntKind.wrap .i64 r1.1) > (4095 : Int))) then
                some (((0 : Int), ([] : List Int)), ((0 : Int), (3 : Int)))
              else
                match geti a0 (1 : Int) with
                | none => none
                | some x3 =>
                  match c161 x3 with
                  | none => none
                  | some r4 =>
                    bif (!r4) then
                      some (((0 : Int), ([] : List Int)), ((0 : Int), (9 : Int)))
                    else
                      bif (decide ((((List.length a0) : Nat) : Int) < (IntKind.wrap .i64 r1.1))) then
                        some (((0 : Int), ([] : List Int)), ((0 : Int), (4 : Int)))
                      else
                        match geti a0 (1 : Int) with
                        | none => none
                        | some x5 =>
                          bif ((decide ((0 : Int) ≤ (IntKind.wrap .i64 r1.1))) && (decide ((IntKind.wrap .i64 r1.1) ≤ (((List.length a0) : Nat) : Int)))) then
                            bif (decide ((4 : Int) ≤ (((Int.toNat (IntKind.wrap .i64 r1.1)) : Nat) : Int))) then
                              match c108 (List.take ((Int.toNat (IntKind.wrap .i64 r1.1)) - 4) (List.drop 4 a0)) with
                              | none => none
                              | some r6 =>
                                bif (decide ((0 + ((List.length r6) * 1)) ≤ (List.length r6))) then
                                  some ((x5, (List.take (List.length r6) (List.drop 0 r6))), ((IntKind.wrap .i64 r1.1), (0 : Int)))
                                else none
                            else none
                          else none
    else none

/-- euphroe/euphroeref17.Parse -/
def p143 (c51 : List Int → Option Int) (c162 : Int → Option Bool) (N : Nat) (a0 : List Int) : Option ((Int × (List Int)) × Int × Int) :=
  bif (decide ((((List.length a0) : Nat) : Int) < (4 : Int))) then
    some (((0 : Int), ([] : List Int)), ((0 : Int), (4 : Int)))
  else
    bif (decide ((4 : Int) ≤ (((List.length a0) : Nat) : Int))) then
      match c51 (List.take 2 (List.drop 2 a0)) with
      | none => none
      | some r1 =>
        match geti a0 (0 : Int) with
        | none => none
        | some x2 =>
          bif (x2 != (0 : Int)) then
            some (((0 : Int), ([] : List Int)), ((0 : Int), (3 : Int)))
          else
            bif (decide ((IntKind.wrap .i64 r1) < (4 : Int))) then
              some (((0 : Int), ([] : List Int)), ((0 : Int), (3 : Int)))
            else
              bif (decide ((IntKind.wrap .i64 r1) > (4095 : Int))) then
                some (((0 : Int), ([] : List Int)), ((0 : Int), (3 : Int)))
              else
                match geti a0 (1 : Int) with
                | none => none
                | some x3 =>
                  match c162 x3 with
                  | none => none
                  | some r4 =>
                    bif (!r4) then
                      some (((0 : Int), ([] : List Int)), ((0 : Int), (9 : Int)))
                    else
                      bif (decide ((((List.length a0) : Nat) : Int) < (IntKind.wrap .i64 r1))) then
                        some (((0 : Int), ([] : List Int)), ((0 : Int), (4 : Int)))
                      else
                        match geti a0 (1 : Int) with
                        | none => none
                        | some x5 =>
                          bif ((decide ((0 : Int) ≤ (IntKind.wrap .i64 r1))) && (decide ((IntKind.wrap .i64 r1) ≤ (((List.length a0) : Nat) : Int)))) then
                            bif (decide ((4 : Int) ≤ (((Int.toNat (IntKind.wrap .i64 r1)) : Nat) : Int))) then
                              some ((x5, (List.take ((Int.toNat (IntKind.wrap .i64 r1)) - 4) (List.drop 4 a0))), ((IntKind.wrap .i64 r1), (0 : Int)))
                            else none
                          else none
    else none

/-- bytes.Equal -/
def p160 (N : Nat) (a0 : List Int) (a1 : List Int) : Option Bool :=
  some ((List.map (fun n : Int => UInt8.ofNat n.toNat) a0) == (List.map (fun n : Int => UInt8.ofNat n.toNat) a1))

/-- euphroe/attr.Same -/
def p144 (c160 : List Int → List Int → Option Bool) (N : Nat) (a0 : Int × (List Int)) (a1 : Int × (List Int)) : Option Bool :=
  bif (a0.1 == a1.1) then
    match c160 a0.2 a1.2 with
    | none => none
    | some r1 =>
      some r1
  else
    some false

def L313v0_0 (c144 : Int × (List Int) → Int × (List Int) → Option Bool) (N : Nat) (q0_0 : Option ((Bool × Unit) × Unit)) : Nat → List (Int × (List Int)) → List (Int × (List Int)) → Int → Int → Option ((Bool × Unit) × Unit)
  | 0, _, _, _, _ => none
  | n0 + 1, v1, v2, v3, v4 =>
    bif (decide (v4 < v3)) then
      match geti v2 v4 with
      | none => none
      | some x5 =>
        match geti v1 v4 with
        | none => none
        | some x6 =>
          match c144 (x5.1, x5.2) (x6.1, x6.2) with
          | none => none
          | some r7 =>
            bif (!r7) then
              some ((false, ()), ())
            else
              L313v0_0 c144 N q0_0 n0 v1 v2 v3 (iadd .i64 v4 (1 : Int))
    else
      q0_0
/-- slices.EqualFunc[[]euphroe/api.Attr,[]euphroe/api.Attr,euphroe/api.Attr,euphroe/api.Attr] -/
def p313v0 (c144 : Int × (List Int) → Int × (List Int) → Option Bool) (N : Nat) (a0 : List (Int × (List Int))) (a1 : List (Int × (List Int))) : Option ((Bool × Unit) × Unit) :=
  bif ((((List.length a0) : Nat) : Int) != (((List.length a1) : Nat) : Int)) then
    some ((false, ()), ())
  else
    L313v0_0 c144 N (
        some ((true, ()), ())) N a1 a0 (((List.length a0) : Nat) : Int) (0 : Int)

/-- euphroe/packet.Same -/
def p302 (d313v0 : List (Int × (List Int)) → List (Int × (List Int)) → Option ((Bool × Unit) × Unit)) (c160 : List Int → List Int → Option Bool) (N : Nat) (a0 : Bool × Int × (List (Int × (List Int))) × (List Int)) (a1 : Bool × Int × (List (Int × (List Int))) × (List Int)) : Option Bool :=
  bif (a0.1 == a1.1) then
    bif (a0.2.1 == a1.2.1) then
      match d313v0 a0.2.2.1 a1.2.2.1 with
      | none => none
      | some r1 =>
        bif r1.1.1 then
          match c160 a0.2.2.2 a1.2.2.2 with
          | none => none
          | some r2 =>
            some r2
        else
          some false
    else
      some false
  else
    some false

/-- euphroe/packet.Of -/
def p316 (c320 : List (Int × (List Int)) → Option (List (Int × (List Int)))) (N : Nat) (a0 : Int) (a1 : List (Int × (List Int))) : Option (Bool × Int × (List (Int × (List Int))) × (List Int)) :=
  match c320 a1 with
  | none => none
  | some r1 =>
    some (true, (a0, (r1, ([] : List Int))))

/-- euphroe/packet.number -/
def p322 (c19 : Int → Int → Bool → Option ((List Int) × Int)) (N : Nat) (a0 : Int) : Option (List Int) :=
  match c19 (IntKind.wrap .u64 a0) (2 : Int) false with
  | none => none
  | some r1 =>
    some r1.1

def L321_0 (c322 : Int → Option (List Int)) (c46 : List (List Int) → Option (List Int)) (c139 : Int × (List Int) → Option ((List Int) × Int)) (N : Nat) (q0_1 : Nat → List Int → Option ((List Int) × Int)) : Nat → Nat → List (Int × (List Int)) → Int → Int → List Int → Option ((List Int) × Int)
  | 0, _, _, _, _, _ => none
  | n0 + 1, v4, v5, v6, v7, v8 =>
    bif (decide (v7 < v6)) then
      match geti v5 v7 with
      | none => none
      | some x9 =>
        match c139 (x9.1, x9.2) with
        | none => none
        | some r10 =>
          bif (r10.2 != (0 : Int)) then
            some (([] : List Int), r10.2)
          else
            bif (((List.length v8) == (v4 * 1)) && ((decide (((v4 + (List.length r10.1)) * 1) ≤ 1099511627776)) && (decide ((v4 + (List.length r10.1)) ≤ 1099511627776)))) then
              L321_0 c322 c46 c139 N q0_1 n0 (v4 + (List.length r10.1)) v5 v6 (iadd .i64 v7 (1 : Int)) (v8 ++ r10.1)
            else none
    else
      q0_1 v4 v8
/-- euphroe/packet.body -/
def p321 (c322 : Int → Option (List Int)) (c46 : List (List Int) → Option (List Int)) (c139 : Int × (List Int) → Option ((List Int) × Int)) (N : Nat) (a0 : Bool × Int × (List (Int × (List Int))) × (List Int)) : Option ((List Int) × Int) :=
  bif (!a0.1) then
    bif ((((List.length a0.2.2.2) : Nat) : Int) == (0 : Int)) then
      some (([] : List Int), (4 : Int))
    else
      bif (!a0.1) then
        some (a0.2.2.2, (0 : Int))
      else
        bif (decide ((((List.length a0.2.2.1) : Nat) : Int) > (8 : Int))) then
          some (([] : List Int), (5 : Int))
        else
          match c322 (IntKind.wrap .i64 a0.2.1) with
          | none => none
          | some r1 =>
            match c322 (((List.length a0.2.2.1) : Nat) : Int) with
            | none => none
            | some r2 =>
              match c46 ([r1, r2] : List (List Int)) with
              | none => none
              | some r3 =>
                L321_0 c322 c46 c139 N (fun (y11 : Nat) (y12 : List Int) =>
                    bif (decide ((0 + (y11 * 1)) ≤ (List.length y12))) then
                      some ((List.take y11 (List.drop 0 y12)), (0 : Int))
                    else none) N (List.length r3) a0.2.2.1 (((List.length a0.2.2.1) : Nat) : Int) (0 : Int) r3
  else
    bif (!a0.1) then
      some (a0.2.2.2, (0 : Int))
    else
      bif (decide ((((List.length a0.2.2.1) : Nat) : Int) > (8 : Int))) then
        some (([] : List Int), (5 : Int))
      else
        match c322 (IntKind.wrap .i64 a0.2.1) with
        | none => none
        | some r13 =>
          match c322 (((List.length a0.2.2.1) : Nat) : Int) with
          | none => none
          | some r14 =>
            match c46 ([r13, r14] : List (List Int)) with
            | none => none
            | some r15 =>
              L321_0 c322 c46 c139 N (fun (y16 : Nat) (y17 : List Int) =>
                  bif (decide ((0 + (y16 * 1)) ≤ (List.length y17))) then
                    some ((List.take y16 (List.drop 0 y17)), (0 : Int))
                  else none) N (List.length r15) a0.2.2.1 (((List.length a0.2.2.1) : Nat) : Int) (0 : Int) r15

/-- euphroe/packet.Lay -/
def p317 (c321 : Bool × Int × (List (Int × (List Int))) × (List Int) → Option ((List Int) × Int)) (c322 : Int → Option (List Int)) (c46 : List (List Int) → Option (List Int)) (N : Nat) (a0 : Bool × Int × (List (Int × (List Int))) × (List Int)) : Option ((List Int) × Int) :=
  match c321 (a0.1, (a0.2.1, (a0.2.2.1, a0.2.2.2))) with
  | none => none
  | some r1 =>
    bif (r1.2 != (0 : Int)) then
      some (([] : List Int), r1.2)
    else
      bif (decide ((iadd .i64 (4 : Int) (((List.length r1.1) : Nat) : Int)) > (4095 : Int))) then
        some (([] : List Int), (8 : Int))
      else
        bif a0.1 then
          match c322 (iadd .i64 (4 : Int) (((List.length r1.1) : Nat) : Int)) with
          | none => none
          | some r2 =>
            match c46 ([([(16 : Int), (1 : Int)] : List Int), r2, r1.1] : List (List Int)) with
            | none => none
            | some r3 =>
              bif (decide ((0 + ((List.length r3) * 1)) ≤ (List.length r3))) then
                some ((List.take (List.length r3) (List.drop 0 r3)), (0 : Int))
              else none
        else
          match c322 (iadd .i64 (4 : Int) (((List.length r1.1) : Nat) : Int)) with
          | none => none
          | some r4 =>
            match c46 ([([(16 : Int), (0 : Int)] : List Int), r4, r1.1] : List (List Int)) with
            | none => none
            | some r5 =>
              bif (decide ((0 + ((List.length r5) * 1)) ≤ (List.length r5))) then
                some ((List.take (List.length r5) (List.drop 0 r5)), (0 : Int))
              else none

/-- euphroe/packet.Length -/
def p343 (c21 : List Int → Bool → Option (Int × Int)) (N : Nat) (a0 : List Int) : Option (Int × Int) :=
  bif (decide ((((List.length a0) : Nat) : Int) < (4 : Int))) then
    some ((0 : Int), (4 : Int))
  else
    match geti a0 (0 : Int) with
    | none => none
    | some x1 =>
      bif (x1 != (16 : Int)) then
        some ((0 : Int), (15 : Int))
      else
        bif (decide ((4 : Int) ≤ (((List.length a0) : Nat) : Int))) then
          match c21 (List.take 2 (List.drop 2 a0)) false with
          | none => none
          | some r2 =>
            match geti a0 (1 : Int) with
            | none => none
            | some x3 =>
              bif (x3 == (1 : Int)) then
                match geti a0 (1 : Int) with
                | none => none
                | some x4 =>
                  bif (decide (x4 > (1 : Int))) then
                    some ((0 : Int), (3 : Int))
                  else
                    bif (decide ((IntKind.wrap .i64 r2.1) < (8 : Int))) then
                      some ((0 : Int), (3 : Int))
                    else
                      bif (decide (r2.1 > (4095 : Int))) then
                        some ((0 : Int), (3 : Int))
                      else
                        some ((IntKind.wrap .i64 r2.1), (0 : Int))
              else
                match geti a0 (1 : Int) with
                | none => none
                | some x5 =>
                  bif (decide (x5 > (1 : Int))) then
                    some ((0 : Int), (3 : Int))
                  else
                    bif (decide ((IntKind.wrap .i64 r2.1) < (5 : Int))) then
                      some ((0 : Int), (3 : Int))
                    else
                      bif (decide (r2.1 > (4095 : Int))) then
                        some ((0 : Int), (3 : Int))
                      else
                        some ((IntKind.wrap .i64 r2.1), (0 : Int))
        else none

/-- euphroe/packet.OfData -/
def p346 (c108 : List Int → Option (List Int)) (N : Nat) (a0 : List Int) : Option (Bool × Int × (List (Int × (List Int))) × (List Int)) :=
  match c108 a0 with
  | none => none
  | some r1 =>
    bif (decide ((0 + ((List.length r1) * 1)) ≤ (List.length r1))) then
      some (false, ((0 : Int), (([] : List (Int × (List Int))), (List.take (List.length r1) (List.drop 0 r1)))))
    else none

def L359_0 (c142 : List Int → Option ((Int × (List Int)) × Int × Int)) (N : Nat) (q0_0 : List Int → Nat → List V → Option ((List (Int × (List Int))) × Int)) : Nat → List Int → Nat → Int → Int → List V → Option ((List (Int × (List Int))) × Int)
  | 0, _, _, _, _, _ => none
  | n0 + 1, v1, v2, v3, v4, v5 =>
    bif (decide (v4 < v3)) then
      match c142 v1 with
      | none => none
      | some r6 =>
        bif (r6.2.2 != (0 : Int)) then
          some (([] : List (Int × (List Int))), r6.2.2)
        else
          bif (((List.length v5) == (v2 * 2)) && ((decide (((v2 + 1) * 32) ≤ 1099511627776)) && (decide ((v2 + 1) ≤ 1099511627776)))) then
            bif ((decide ((0 : Int) ≤ r6.2.1)) && (decide (r6.2.1 ≤ (((List.length v1) : Nat) : Int)))) then
              L359_0 c142 N q0_0 n0 (List.drop (Int.toNat r6.2.1) v1) (v2 + 1) v3 (iadd .u64 v4 (1 : Int)) ((v5 ++ [(V.int .u8 r6.1.1), (V.tb (Sh.int .u8) r6.1.2)]) : List V)
            else none
          else none
    else
      q0_0 v1 v2 (v5 : List V)
/-- euphroe/packet.attrs -/
def p359 (c142 : List Int → Option ((Int × (List Int)) × Int × Int)) (N : Nat) (a0 : List Int) (a1 : Int) : Option ((List (Int × (List Int))) × Int) :=
  bif (decide (a1 > (8 : Int))) then
    some (([] : List (Int × (List Int))), (5 : Int))
  else
    L359_0 c142 N (fun (y7 : List Int) (y8 : Nat) (y9 : List V) =>
        bif (decide ((((List.length y7) : Nat) : Int) > (0 : Int))) then
          some (([] : List (Int × (List Int))), (3 : Int))
        else
          bif (decide ((0 + (y8 * 2)) ≤ (List.length y9))) then
            match rowsOf (Sh.pr (Sh.int .u8) (Sh.sl (Sh.int .u8))) y8 (List.take (y8 * 2) (List.drop 0 y9)) with
            | none => none
            | some x10 =>
              some (x10, (0 : Int))
          else none) N a0 0 a1 (0 : Int) ([] : List V)

/-- euphroe/packet.Parse -/
def p341 (c343 : List Int → Option (Int × Int)) (c346 : List Int → Option (Bool × Int × (List (Int × (List Int))) × (List Int))) (c21 : List Int → Bool → Option (Int × Int)) (c359 : List Int → Int → Option ((List (Int × (List Int))) × Int)) (c316 : Int → List (Int × (List Int)) → Option (Bool × Int × (List (Int × (List Int))) × (List Int))) (N : Nat) (a0 : List Int) : Option ((Bool × Int × (List (Int × (List Int))) × (List Int)) × Int) :=
  match c343 a0 with
  | none => none
  | some r1 =>
    bif (r1.2 != (0 : Int)) then
      some ((false, ((0 : Int), (([] : List (Int × (List Int))), ([] : List Int)))), r1.2)
    else
      bif (decide ((((List.length a0) : Nat) : Int) < r1.1)) then
        some ((false, ((0 : Int), (([] : List (Int × (List Int))), ([] : List Int)))), (4 : Int))
      else
        bif (decide ((((List.length a0) : Nat) : Int) > r1.1)) then
          some ((false, ((0 : Int), (([] : List (Int × (List Int))), ([] : List Int)))), (3 : Int))
        else
          match geti a0 (1 : Int) with
          | none => none
          | some x2 =>
            bif (x2 == (0 : Int)) then
              bif (decide ((4 : Int) ≤ (((List.length a0) : Nat) : Int))) then
                match c346 (List.drop 4 a0) with
                | none => none
                | some r3 =>
                  some ((r3.1, (r3.2.1, (r3.2.2.1, r3.2.2.2))), (0 : Int))
              else none
            else
              bif (decide ((6 : Int) ≤ (((List.length a0) : Nat) : Int))) then
                match c21 (List.take 2 (List.drop 4 a0)) false with
                | none => none
                | some r4 =>
                  bif (decide ((8 : Int) ≤ (((List.length a0) : Nat) : Int))) then
                    match c21 (List.take 2 (List.drop 6 a0)) false with
                    | none => none
                    | some r5 =>
                      bif (decide ((8 : Int) ≤ (((List.length a0) : Nat) : Int))) then
                        match c359 (List.drop 8 a0) r5.1 with
                        | none => none
                        | some r6 =>
                          bif (r6.2 != (0 : Int)) then
                            some ((false, ((0 : Int), (([] : List (Int × (List Int))), ([] : List Int)))), r6.2)
                          else
                            match c316 (IntKind.wrap .u16 r4.1) r6.1 with
                            | none => none
                            | some r7 =>
                              some ((r7.1, (r7.2.1, (r7.2.2.1, r7.2.2.2))), (0 : Int))
                      else none
                  else none
              else none

/-- euphroe/euphroeref18.Length -/
def p344 (c51 : List Int → Option Int) (N : Nat) (a0 : List Int) : Option (Int × Int) :=
  bif (decide ((((List.length a0) : Nat) : Int) < (4 : Int))) then
    some ((0 : Int), (4 : Int))
  else
    match geti a0 (0 : Int) with
    | none => none
    | some x1 =>
      bif (x1 != (16 : Int)) then
        some ((0 : Int), (15 : Int))
      else
        bif (decide ((4 : Int) ≤ (((List.length a0) : Nat) : Int))) then
          match c51 (List.take 2 (List.drop 2 a0)) with
          | none => none
          | some r2 =>
            match geti a0 (1 : Int) with
            | none => none
            | some x3 =>
              bif (decide (x3 > (1 : Int))) then
                some ((0 : Int), (3 : Int))
              else
                bif (decide ((IntKind.wrap .i64 r2) < (5 : Int))) then
                  some ((0 : Int), (3 : Int))
                else
                  match geti a0 (1 : Int) with
                  | none => none
                  | some x4 =>
                    bif (x4 == (1 : Int)) then
                      bif (decide ((IntKind.wrap .i64 r2) < (8 : Int))) then
                        some ((0 : Int), (3 : Int))
                      else
                        bif (decide ((IntKind.wrap .i64 r2) > (4095 : Int))) then
                          some ((0 : Int), (3 : Int))
                        else
                          some ((IntKind.wrap .i64 r2), (0 : Int))
                    else
                      bif (decide ((IntKind.wrap .i64 r2) > (4095 : Int))) then
                        some ((0 : Int), (3 : Int))
                      else
                        some ((IntKind.wrap .i64 r2), (0 : Int))
        else none

def L342_0 (c344 : List Int → Option (Int × Int)) (c51 : List Int → Option Int) (c143 : List Int → Option ((Int × (List Int)) × Int × Int)) (N : Nat) (q0_0 : List Int → Bool → Int → Bool → Int → Nat → List V → Option ((Bool × Int × (List (Int × (List Int))) × (List Int)) × Int)) : Nat → Int → List Int → Int → Bool → Int → Bool → Int → Nat → List V → Option ((Bool × Int × (List (Int × (List Int))) × (List Int)) × Int)
  | 0, _, _, _, _, _, _, _, _, _ => none
  | n0 + 1, v5, v6, v7, v8, v9, v10, v11, v12, v13 =>
    bif (decide (v7 < v5)) then
      match c143 v6 with
      | none => none
      | some r14 =>
        bif (r14.2.2 != (0 : Int)) then
          some ((false, ((0 : Int), (([] : List (Int × (List Int))), ([] : List Int)))), r14.2.2)
        else
          bif (((List.length v13) == (v12 * 2)) && ((decide (((v12 + 1) * 32) ≤ 1099511627776)) && (decide ((v12 + 1) ≤ 1099511627776)))) then
            bif ((decide ((0 : Int) ≤ r14.2.1)) && (decide (r14.2.1 ≤ (((List.length v6) : Nat) : Int)))) then
              L342_0 c344 c51 c143 N q0_0 n0 v5 (List.drop (Int.toNat r14.2.1) v6) (iadd .i64 v7 (1 : Int)) v8 v9 v10 v11 (v12 + 1) ((v13 ++ [(V.int .u8 r14.1.1), (V.tb (Sh.int .u8) r14.1.2)]) : List V)
            else none
          else none
    else
      q0_0 v6 v8 v9 v10 v11 v12 (v13 : List V)
/-- euphroe/euphroeref18.Parse -/
def p342 (c344 : List Int → Option (Int × Int)) (c51 : List Int → Option Int) (c143 : List Int → Option ((Int × (List Int)) × Int × Int)) (N : Nat) (a0 : List Int) : Option ((Bool × Int × (List (Int × (List Int))) × (List Int)) × Int) :=
  match c344 a0 with
  | none => none
  | some r1 =>
    bif (r1.2 != (0 : Int)) then
      some ((false, ((0 : Int), (([] : List (Int × (List Int))), ([] : List Int)))), r1.2)
    else
      bif (decide ((((List.length a0) : Nat) : Int) < r1.1)) then
        some ((false, ((0 : Int), (([] : List (Int × (List Int))), ([] : List Int)))), (4 : Int))
      else
        bif (decide ((((List.length a0) : Nat) : Int) > r1.1)) then
          some ((false, ((0 : Int), (([] : List (Int × (List Int))), ([] : List Int)))), (3 : Int))
        else
          match geti a0 (1 : Int) with
          | none => none
          | some x2 =>
            bif (x2 == (0 : Int)) then
              bif (decide ((4 : Int) ≤ (((List.length a0) : Nat) : Int))) then
                some ((false, ((0 : Int), (([] : List (Int × (List Int))), (List.drop 4 a0)))), (0 : Int))
              else none
            else
              bif (decide ((8 : Int) ≤ (((List.length a0) : Nat) : Int))) then
                match c51 (List.take 2 (List.drop 6 a0)) with
                | none => none
                | some r3 =>
                  bif (decide ((IntKind.wrap .i64 r3) > (8 : Int))) then
                    some ((false, ((0 : Int), (([] : List (Int × (List Int))), ([] : List Int)))), (5 : Int))
                  else
                    bif (decide ((6 : Int) ≤ (((List.length a0) : Nat) : Int))) then
                      match c51 (List.take 2 (List.drop 4 a0)) with
                      | none => none
                      | some r4 =>
                        bif (decide ((8 : Int) ≤ (((List.length a0) : Nat) : Int))) then
                          L342_0 c344 c51 c143 N (fun (y15 : List Int) (y16 : Bool) (y17 : Int) (y18 : Bool) (y19 : Int) (y20 : Nat) (y21 : List V) =>
                              bif (decide ((((List.length y15) : Nat) : Int) > (0 : Int))) then
                                some ((false, ((0 : Int), (([] : List (Int × (List Int))), ([] : List Int)))), (3 : Int))
                              else
                                bif (decide ((0 + (y20 * 2)) ≤ (List.length y21))) then
                                  match rowsOf (Sh.pr (Sh.int .u8) (Sh.sl (Sh.int .u8))) y20 (List.take (y20 * 2) (List.drop 0 y21)) with
                                  | none => none
                                  | some x22 =>
                                    some ((y18, (y19, (x22, ([] : List Int)))), (0 : Int))
                                else none) N (IntKind.wrap .i64 r3) (List.drop 8 a0) (0 : Int) false (0 : Int) true (IntKind.wrap .u16 r4) 0 ([] : List V)
                        else none
                    else none
              else none

def L348v2_0 (c108 : List Int → Option (List Int)) (c343 : List Int → Option (Int × Int)) (c341 : List Int → Option ((Bool × Int × (List (Int × (List Int))) × (List Int)) × Int)) (N : Nat) (q0_0 : Nat → Bool → List Int → Int → Int → Int → List V → Option ((((List (Bool × Int × (List (Int × (List Int))) × (List Int))) × (Int × Unit)) × Unit) × ((Bool × ((List Int) × (Int × (Int × (Int × Unit))))) × Unit))) : Nat → Nat → Bool → List Int → Int → Int → Int → List V → Option ((((List (Bool × Int × (List (Int × (List Int))) × (List Int))) × (Int × Unit)) × Unit) × ((Bool × ((List Int) × (Int × (Int × (Int × Unit))))) × Unit))
  | 0, _, _, _, _, _, _, _ => none
  | n0 + 1, v2, v3, v4, v5, v6, v7, v8 =>
    match c343 v4 with
    | none => none
    | some r9 =>
      bif (r9.2 == (4 : Int)) then
        q0_0 v2 v3 v4 v5 v6 v7 (v8 : List V)
      else
        bif (r9.2 != (0 : Int)) then
          bif (r9.2 != (0 : Int)) then
            q0_0 v2 v3 ([] : List Int) r9.2 v6 v7 (v8 : List V)
          else
            q0_0 v2 v3 v4 v5 v6 v7 (v8 : List V)
        else
          bif (decide ((((List.length v4) : Nat) : Int) < r9.1)) then
            bif (r9.2 != (0 : Int)) then
              q0_0 v2 v3 ([] : List Int) r9.2 v6 v7 (v8 : List V)
            else
              q0_0 v2 v3 v4 v5 v6 v7 (v8 : List V)
          else
            bif ((decide ((0 : Int) ≤ r9.1)) && (decide (r9.1 ≤ (((List.length v4) : Nat) : Int)))) then
              match c341 (List.take (Int.toNat r9.1) v4) with
              | none => none
              | some r10 =>
                bif (r10.2 != (0 : Int)) then
                  bif (r10.2 != (0 : Int)) then
                    q0_0 v2 v3 ([] : List Int) r10.2 v6 v7 (v8 : List V)
                  else
                    q0_0 v2 v3 v4 v5 v6 v7 (v8 : List V)
                else
                  bif ((decide ((0 : Int) ≤ r9.1)) && (decide (r9.1 ≤ (((List.length v4) : Nat) : Int)))) then
                    bif (((List.length v8) == (v2 * 4)) && ((decide (((v2 + 1) * 56) ≤ 1099511627776)) && (decide ((v2 + 1) ≤ 1099511627776)))) then
                      L348v2_0 c108 c343 c341 N q0_0 n0 (v2 + 1) v3 (List.drop (Int.toNat r9.1) v4) v5 (iadd .i64 v6 (1 : Int)) (iadd .i64 v7 r9.1) ((v8 ++ [(V.bool r10.1.1), (V.int .u16 r10.1.2.1), (V.tb (Sh.pr (Sh.int .u8) (Sh.sl (Sh.int .u8))) r10.1.2.2.1), (V.tb (Sh.int .u8) r10.1.2.2.2)]) : List V)
                    else none
                  else none
            else none
/-- (*euphroe/reframe.Stream).Write -/
def p348v2 (c108 : List Int → Option (List Int)) (c343 : List Int → Option (Int × Int)) (c341 : List Int → Option ((Bool × Int × (List (Int × (List Int))) × (List Int)) × Int)) (N : Nat) (a0 : List Int) (a1 : Bool) (a2 : List Int) (a3 : Int) (a4 : Int) (a5 : Int) : Option ((((List (Bool × Int × (List (Int × (List Int))) × (List Int))) × (Int × Unit)) × Unit) × ((Bool × ((List Int) × (Int × (Int × (Int × Unit))))) × Unit)) :=
  bif (!a1) then
    some (((([] : List (Bool × Int × (List (Int × (List Int))) × (List Int))), ((2 : Int), ())), ()), ((a1, (a2, (a3, (a4, (a5, ()))))), ()))
  else
    bif (a3 != (0 : Int)) then
      some (((([] : List (Bool × Int × (List (Int × (List Int))) × (List Int))), (a3, ())), ()), ((a1, (a2, (a3, (a4, (a5, ()))))), ()))
    else
      match c108 a2 with
      | none => none
      | some r1 =>
        bif (((List.length r1) == ((List.length r1) * 1)) && ((decide ((((List.length r1) + (List.length a0)) * 1) ≤ 1099511627776)) && (decide (((List.length r1) + (List.length a0)) ≤ 1099511627776)))) then
          bif (decide ((0 + (((List.length r1) + (List.length a0)) * 1)) ≤ (List.length (r1 ++ a0)))) then
            L348v2_0 c108 c343 c341 N (fun (y11 : Nat) (y12 : Bool) (y13 : List Int) (y14 : Int) (y15 : Int) (y16 : Int) (y17 : List V) =>
                bif (decide ((0 + (y11 * 4)) ≤ (List.length y17))) then
                  match rowsOf (Sh.pr Sh.bool (Sh.pr (Sh.int .u16) (Sh.pr (Sh.sl (Sh.pr (Sh.int .u8) (Sh.sl (Sh.int .u8)))) (Sh.sl (Sh.int .u8))))) y11 (List.take (y11 * 4) (List.drop 0 y17)) with
                  | none => none
                  | some x18 =>
                    some (((x18, (y14, ())), ()), ((y12, (y13, (y14, (y15, (y16, ()))))), ()))
                else none) N 0 a1 (List.take ((List.length r1) + (List.length a0)) (List.drop 0 (r1 ++ a0))) a3 a4 a5 ([] : List V)
          else none
        else none

/-- (*euphroe/reframe.Stream).Wants -/
def p352v1 (c343 : List Int → Option (Int × Int)) (N : Nat) (a0 : Bool) (a1 : List Int) (a2 : Int) (a3 : Int) (a4 : Int) : Option ((Int × Unit) × ((Bool × ((List Int) × (Int × (Int × (Int × Unit))))) × Unit)) :=
  bif (!a0) then
    some (((0 : Int), ()), ((a0, (a1, (a2, (a3, (a4, ()))))), ()))
  else
    bif (a2 != (0 : Int)) then
      some (((0 : Int), ()), ((a0, (a1, (a2, (a3, (a4, ()))))), ()))
    else
      match c343 a1 with
      | none => none
      | some r1 =>
        bif (r1.2 != (0 : Int)) then
          some (((isub .i64 (4 : Int) (((List.length a1) : Nat) : Int)), ()), ((a0, (a1, (a2, (a3, (a4, ()))))), ()))
        else
          some (((isub .i64 r1.1 (((List.length a1) : Nat) : Int)), ()), ((a0, (a1, (a2, (a3, (a4, ()))))), ()))

/-- (*euphroe/reframe.Stream).At -/
def p351v1 (N : Nat) (a0 : Bool) (a1 : List Int) (a2 : Int) (a3 : Int) (a4 : Int) : Option ((Int × Unit) × ((Bool × ((List Int) × (Int × (Int × (Int × Unit))))) × Unit)) :=
  bif (!a0) then
    some (((0 : Int), ()), ((a0, (a1, (a2, (a3, (a4, ()))))), ()))
  else
    some ((a4, ()), ((a0, (a1, (a2, (a3, (a4, ()))))), ()))

/-- (*euphroe/reframe.Stream).Held -/
def p349v1 (N : Nat) (a0 : Bool) (a1 : List Int) (a2 : Int) (a3 : Int) (a4 : Int) : Option ((Int × Unit) × ((Bool × ((List Int) × (Int × (Int × (Int × Unit))))) × Unit)) :=
  bif (!a0) then
    some (((0 : Int), ()), ((a0, (a1, (a2, (a3, (a4, ()))))), ()))
  else
    some (((((List.length a1) : Nat) : Int), ()), ((a0, (a1, (a2, (a3, (a4, ()))))), ()))

/-- (*euphroe/reframe.Stream).Count -/
def p350v1 (N : Nat) (a0 : Bool) (a1 : List Int) (a2 : Int) (a3 : Int) (a4 : Int) : Option ((Int × Unit) × ((Bool × ((List Int) × (Int × (Int × (Int × Unit))))) × Unit)) :=
  bif (!a0) then
    some (((0 : Int), ()), ((a0, (a1, (a2, (a3, (a4, ()))))), ()))
  else
    some ((a3, ()), ((a0, (a1, (a2, (a3, (a4, ()))))), ()))

/-- euphroe/euphroelaw19.alive -/
def p347 (c316 : Int → List (Int × (List Int)) → Option (Bool × Int × (List (Int × (List Int))) × (List Int))) (c317 : Bool × Int × (List (Int × (List Int))) × (List Int) → Option ((List Int) × Int)) (d348v2 : List Int → Bool → List Int → Int → Int → Int → Option ((((List (Bool × Int × (List (Int × (List Int))) × (List Int))) × (Int × Unit)) × Unit) × ((Bool × ((List Int) × (Int × (Int × (Int × Unit))))) × Unit))) (d352v1 : Bool → List Int → Int → Int → Int → Option ((Int × Unit) × ((Bool × ((List Int) × (Int × (Int × (Int × Unit))))) × Unit))) (d351v1 : Bool → List Int → Int → Int → Int → Option ((Int × Unit) × ((Bool × ((List Int) × (Int × (Int × (Int × Unit))))) × Unit))) (d349v1 : Bool → List Int → Int → Int → Int → Option ((Int × Unit) × ((Bool × ((List Int) × (Int × (Int × (Int × Unit))))) × Unit))) (d350v1 : Bool → List Int → Int → Int → Int → Option ((Int × Unit) × ((Bool × ((List Int) × (Int × (Int × (Int × Unit))))) × Unit))) (N : Nat)  : Option Bool :=
  match c316 (8 : Int) ([] : List (Int × (List Int))) with
  | none => none
  | some r1 =>
    match c317 (r1.1, (r1.2.1, (r1.2.2.1, r1.2.2.2))) with
    | none => none
    | some r2 =>
      bif ((((List.length r2.1) : Nat) : Int) != (8 : Int)) then
        some false
      else
        bif (r2.2 != (0 : Int)) then
          some false
        else
          bif (decide ((1 : Int) ≤ (((List.length r2.1) : Nat) : Int))) then
            match d348v2 (List.take 1 r2.1) true ([] : List Int) (0 : Int) (0 : Int) (0 : Int) with
            | none => none
            | some r3 =>
              match d352v1 r3.2.1.1 r3.2.1.2.1 r3.2.1.2.2.1 r3.2.1.2.2.2.1 r3.2.1.2.2.2.2.1 with
              | none => none
              | some r4 =>
                bif (decide ((1 : Int) ≤ (((List.length r2.1) : Nat) : Int))) then
                  match d348v2 (List.drop 1 r2.1) r4.2.1.1 r4.2.1.2.1 r4.2.1.2.2.1 r4.2.1.2.2.2.1 r4.2.1.2.2.2.2.1 with
                  | none => none
                  | some r5 =>
                    bif ((((List.length r3.1.1.1) : Nat) : Int) == (0 : Int)) then
                      bif (r3.1.1.2.1 == (0 : Int)) then
                        bif (r4.1.1 == (3 : Int)) then
                          bif ((((List.length r5.1.1.1) : Nat) : Int) == (1 : Int)) then
                            match geti r5.1.1.1 (0 : Int) with
                            | none => none
                            | some x6 =>
                              bif (x6.2.1 == (8 : Int)) then
                                bif (r5.1.1.2.1 == (0 : Int)) then
                                  match d351v1 r5.2.1.1 r5.2.1.2.1 r5.2.1.2.2.1 r5.2.1.2.2.2.1 r5.2.1.2.2.2.2.1 with
                                  | none => none
                                  | some r7 =>
                                    bif (r7.1.1 == (8 : Int)) then
                                      match d349v1 r7.2.1.1 r7.2.1.2.1 r7.2.1.2.2.1 r7.2.1.2.2.2.1 r7.2.1.2.2.2.2.1 with
                                      | none => none
                                      | some r8 =>
                                        bif (r8.1.1 == (0 : Int)) then
                                          match d350v1 r8.2.1.1 r8.2.1.2.1 r8.2.1.2.2.1 r8.2.1.2.2.2.1 r8.2.1.2.2.2.2.1 with
                                          | none => none
                                          | some r9 =>
                                            some (r9.1.1 == (1 : Int))
                                        else
                                          some false
                                    else
                                      some false
                                else
                                  some false
                              else
                                some false
                          else
                            some false
                        else
                          some false
                      else
                        some false
                    else
                      some false
                else none
          else none

/-- (*euphroe/reframe.Stream).Write -/
def p348v0 (N : Nat) (a0 : List Int) : Option ((((List (Bool × Int × (List (Int × (List Int))) × (List Int))) × (Int × Unit)) × Unit) × Unit) :=
  some (((([] : List (Bool × Int × (List (Int × (List Int))) × (List Int))), ((2 : Int), ())), ()), ())

/-- (*euphroe/reframe.Stream).Held -/
def p349v0 (N : Nat)  : Option ((Int × Unit) × Unit) :=
  some (((0 : Int), ()), ())

/-- (*euphroe/reframe.Stream).Count -/
def p350v0 (N : Nat)  : Option ((Int × Unit) × Unit) :=
  some (((0 : Int), ()), ())

/-- (*euphroe/reframe.Stream).At -/
def p351v0 (N : Nat)  : Option ((Int × Unit) × Unit) :=
  some (((0 : Int), ()), ())

/-- (*euphroe/reframe.Stream).Wants -/
def p352v0 (N : Nat)  : Option ((Int × Unit) × Unit) :=
  some (((0 : Int), ()), ())

def L348v1_0 (c108 : List Int → Option (List Int)) (c343 : List Int → Option (Int × Int)) (c341 : List Int → Option ((Bool × Int × (List (Int × (List Int))) × (List Int)) × Int)) (N : Nat) (q0_0 : Nat → Bool → List Int → Int → Int → Int → List V → Option ((((List (Bool × Int × (List (Int × (List Int))) × (List Int))) × (Int × Unit)) × Unit) × ((Bool × ((List Int) × (Int × (Int × (Int × Unit))))) × Unit))) : Nat → Nat → Bool → List Int → Int → Int → Int → List V → Option ((((List (Bool × Int × (List (Int × (List Int))) × (List Int))) × (Int × Unit)) × Unit) × ((Bool × ((List Int) × (Int × (Int × (Int × Unit))))) × Unit))
  | 0, _, _, _, _, _, _, _ => none
  | n0 + 1, v2, v3, v4, v5, v6, v7, v8 =>
    match c343 v4 with
    | none => none
    | some r9 =>
      bif (r9.2 == (4 : Int)) then
        q0_0 v2 v3 v4 v5 v6 v7 (v8 : List V)
      else
        bif (r9.2 != (0 : Int)) then
          bif (r9.2 != (0 : Int)) then
            q0_0 v2 v3 ([] : List Int) r9.2 v6 v7 (v8 : List V)
          else
            q0_0 v2 v3 v4 v5 v6 v7 (v8 : List V)
        else
          bif (decide ((((List.length v4) : Nat) : Int) < r9.1)) then
            bif (r9.2 != (0 : Int)) then
              q0_0 v2 v3 ([] : List Int) r9.2 v6 v7 (v8 : List V)
            else
              q0_0 v2 v3 v4 v5 v6 v7 (v8 : List V)
          else
            bif ((decide ((0 : Int) ≤ r9.1)) && (decide (r9.1 ≤ (((List.length v4) : Nat) : Int)))) then
              match c341 (List.take (Int.toNat r9.1) v4) with
              | none => none
              | some r10 =>
                bif (r10.2 != (0 : Int)) then
                  bif (r10.2 != (0 : Int)) then
                    q0_0 v2 v3 ([] : List Int) r10.2 v6 v7 (v8 : List V)
                  else
                    q0_0 v2 v3 v4 v5 v6 v7 (v8 : List V)
                else
                  bif ((decide ((0 : Int) ≤ r9.1)) && (decide (r9.1 ≤ (((List.length v4) : Nat) : Int)))) then
                    bif (((List.length v8) == (v2 * 4)) && ((decide (((v2 + 1) * 56) ≤ 1099511627776)) && (decide ((v2 + 1) ≤ 1099511627776)))) then
                      L348v1_0 c108 c343 c341 N q0_0 n0 (v2 + 1) v3 (List.drop (Int.toNat r9.1) v4) v5 (iadd .i64 v6 (1 : Int)) (iadd .i64 v7 r9.1) ((v8 ++ [(V.bool r10.1.1), (V.int .u16 r10.1.2.1), (V.tb (Sh.pr (Sh.int .u8) (Sh.sl (Sh.int .u8))) r10.1.2.2.1), (V.tb (Sh.int .u8) r10.1.2.2.2)]) : List V)
                    else none
                  else none
            else none
/-- (*euphroe/reframe.Stream).Write -/
def p348v1 (c108 : List Int → Option (List Int)) (c343 : List Int → Option (Int × Int)) (c341 : List Int → Option ((Bool × Int × (List (Int × (List Int))) × (List Int)) × Int)) (N : Nat) (a0 : List Int) (a1 : Bool) (a2 : Int) (a3 : Int) (a4 : Int) : Option ((((List (Bool × Int × (List (Int × (List Int))) × (List Int))) × (Int × Unit)) × Unit) × ((Bool × ((List Int) × (Int × (Int × (Int × Unit))))) × Unit)) :=
  bif (!a1) then
    some (((([] : List (Bool × Int × (List (Int × (List Int))) × (List Int))), ((2 : Int), ())), ()), ((a1, (([] : List Int), (a2, (a3, (a4, ()))))), ()))
  else
    bif (a2 != (0 : Int)) then
      some (((([] : List (Bool × Int × (List (Int × (List Int))) × (List Int))), (a2, ())), ()), ((a1, (([] : List Int), (a2, (a3, (a4, ()))))), ()))
    else
      match c108 ([] : List Int) with
      | none => none
      | some r1 =>
        bif (((List.length r1) == ((List.length r1) * 1)) && ((decide ((((List.length r1) + (List.length a0)) * 1) ≤ 1099511627776)) && (decide (((List.length r1) + (List.length a0)) ≤ 1099511627776)))) then
          bif (decide ((0 + (((List.length r1) + (List.length a0)) * 1)) ≤ (List.length (r1 ++ a0)))) then
            L348v1_0 c108 c343 c341 N (fun (y11 : Nat) (y12 : Bool) (y13 : List Int) (y14 : Int) (y15 : Int) (y16 : Int) (y17 : List V) =>
                bif (decide ((0 + (y11 * 4)) ≤ (List.length y17))) then
                  match rowsOf (Sh.pr Sh.bool (Sh.pr (Sh.int .u16) (Sh.pr (Sh.sl (Sh.pr (Sh.int .u8) (Sh.sl (Sh.int .u8)))) (Sh.sl (Sh.int .u8))))) y11 (List.take (y11 * 4) (List.drop 0 y17)) with
                  | none => none
                  | some x18 =>
                    some (((x18, (y14, ())), ()), ((y12, (y13, (y14, (y15, (y16, ()))))), ()))
                else none) N 0 a1 (List.take ((List.length r1) + (List.length a0)) (List.drop 0 (r1 ++ a0))) a2 a3 a4 ([] : List V)
          else none
        else none

/-- euphroe/euphroelaw19.ReframeNobody -/
def p333 (c347 : Option Bool) (d348v0 : List Int → Option ((((List (Bool × Int × (List (Int × (List Int))) × (List Int))) × (Int × Unit)) × Unit) × Unit)) (d349v0 : Option ((Int × Unit) × Unit)) (d350v0 : Option ((Int × Unit) × Unit)) (d351v0 : Option ((Int × Unit) × Unit)) (d352v0 : Option ((Int × Unit) × Unit)) (d348v1 : List Int → Bool → Int → Int → Int → Option ((((List (Bool × Int × (List (Int × (List Int))) × (List Int))) × (Int × Unit)) × Unit) × ((Bool × ((List Int) × (Int × (Int × (Int × Unit))))) × Unit))) (d349v1 : Bool → List Int → Int → Int → Int → Option ((Int × Unit) × ((Bool × ((List Int) × (Int × (Int × (Int × Unit))))) × Unit))) (d350v1 : Bool → List Int → Int → Int → Int → Option ((Int × Unit) × ((Bool × ((List Int) × (Int × (Int × (Int × Unit))))) × Unit))) (d351v1 : Bool → List Int → Int → Int → Int → Option ((Int × Unit) × ((Bool × ((List Int) × (Int × (Int × (Int × Unit))))) × Unit))) (d352v1 : Bool → List Int → Int → Int → Int → Option ((Int × Unit) × ((Bool × ((List Int) × (Int × (Int × (Int × Unit))))) × Unit))) (d348v2 : List Int → Bool → List Int → Int → Int → Int → Option ((((List (Bool × Int × (List (Int × (List Int))) × (List Int))) × (Int × Unit)) × Unit) × ((Bool × ((List Int) × (Int × (Int × (Int × Unit))))) × Unit))) (N : Nat) (a0 : List Int) (a1 : List Int) : Option Bool :=
  bif (decide ((((List.length a0) : Nat) : Int) > (3000 : Int))) then
    match c347 with
    | none => none
    | some r1 =>
      some r1
  else
    bif (decide ((((List.length a1) : Nat) : Int) > (3000 : Int))) then
      match c347 with
      | none => none
      | some r2 =>
        some r2
    else
      match d348v0 a0 with
      | none => none
      | some r3 =>
        bif ((((List.length r3.1.1.1) : Nat) : Int) != (0 : Int)) then
          some false
        else
          bif (r3.1.1.2.1 != (2 : Int)) then
            some false
          else
            match d349v0 with
            | none => none
            | some r4 =>
              match d350v0 with
              | none => none
              | some r5 =>
                match d351v0 with
                | none => none
                | some r6 =>
                  match d352v0 with
                  | none => none
                  | some r7 =>
                    bif ((iadd .i64 (iadd .i64 (iadd .i64 r4.1.1 r5.1.1) r6.1.1) r7.1.1) != (0 : Int)) then
                      some false
                    else
                      match d348v1 a0 false (0 : Int) (0 : Int) (0 : Int) with
                      | none => none
                      | some r8 =>
                        bif ((((List.length r8.1.1.1) : Nat) : Int) != (0 : Int)) then
                          some false
                        else
                          bif (r8.1.1.2.1 != (2 : Int)) then
                            some false
                          else
                            match d349v1 r8.2.1.1 r8.2.1.2.1 r8.2.1.2.2.1 r8.2.1.2.2.2.1 r8.2.1.2.2.2.2.1 with
                            | none => none
                            | some r9 =>
                              match d350v1 r9.2.1.1 r9.2.1.2.1 r9.2.1.2.2.1 r9.2.1.2.2.2.1 r9.2.1.2.2.2.2.1 with
                              | none => none
                              | some r10 =>
                                match d351v1 r10.2.1.1 r10.2.1.2.1 r10.2.1.2.2.1 r10.2.1.2.2.2.1 r10.2.1.2.2.2.2.1 with
                                | none => none
                                | some r11 =>
                                  match d352v1 r11.2.1.1 r11.2.1.2.1 r11.2.1.2.2.1 r11.2.1.2.2.2.1 r11.2.1.2.2.2.2.1 with
                                  | none => none
                                  | some r12 =>
                                    bif ((iadd .i64 (iadd .i64 (iadd .i64 r9.1.1 r10.1.1) r11.1.1) r12.1.1) != (0 : Int)) then
                                      some false
                                    else
                                      match d348v2 a0 true ([] : List Int) (0 : Int) (0 : Int) (0 : Int) with
                                      | none => none
                                      | some r13 =>
                                        match d350v1 r13.2.1.1 r13.2.1.2.1 r13.2.1.2.2.1 r13.2.1.2.2.2.1 r13.2.1.2.2.2.2.1 with
                                        | none => none
                                        | some r14 =>
                                          match d348v2 a1 r14.2.1.1 r14.2.1.2.1 r14.2.1.2.2.1 r14.2.1.2.2.2.1 r14.2.1.2.2.2.2.1 with
                                          | none => none
                                          | some r15 =>
                                            bif (r13.1.1.2.1 == (0 : Int)) then
                                              match c347 with
                                              | none => none
                                              | some r16 =>
                                                some r16
                                            else
                                              bif (r15.1.1.2.1 == r13.1.1.2.1) then
                                                bif ((((List.length r15.1.1.1) : Nat) : Int) == (0 : Int)) then
                                                  match d350v1 r15.2.1.1 r15.2.1.2.1 r15.2.1.2.2.1 r15.2.1.2.2.2.1 r15.2.1.2.2.2.2.1 with
                                                  | none => none
                                                  | some r17 =>
                                                    bif (r17.1.1 == r14.1.1) then
                                                      match d349v1 r17.2.1.1 r17.2.1.2.1 r17.2.1.2.2.1 r17.2.1.2.2.2.1 r17.2.1.2.2.2.2.1 with
                                                      | none => none
                                                      | some r18 =>
                                                        bif (r18.1.1 == (0 : Int)) then
                                                          match d352v1 r18.2.1.1 r18.2.1.2.1 r18.2.1.2.2.1 r18.2.1.2.2.2.1 r18.2.1.2.2.2.2.1 with
                                                          | none => none
                                                          | some r19 =>
                                                            bif (r19.1.1 == (0 : Int)) then
                                                              match c347 with
                                                              | none => none
                                                              | some r20 =>
                                                                some r20
                                                            else
                                                              some false
                                                        else
                                                          some false
                                                    else
                                                      some false
                                                else
                                                  some false
                                              else
                                                some false

def L354_0 (N : Nat) (q0_0 : List Int → Nat → List V → Option (List (List Int))) : Nat → List Int → Nat → List Int → Int → Int → List V → Option (List (List Int))
  | 0, _, _, _, _, _, _ => none
  | n0 + 1, v1, v2, v3, v4, v5, v6 =>
    bif (decide (v5 < v4)) then
      match geti v3 v5 with
      | none => none
      | some x7 =>
        bif ((iadd .i64 (((List.length v1) : Nat) : Int) (1 : Int)) == (0 : Int)) then
          none
        else
          bif ((decide ((0 : Int) ≤ (irem (IntKind.wrap .i64 x7) (iadd .i64 (((List.length v1) : Nat) : Int) (1 : Int))))) && (decide ((irem (IntKind.wrap .i64 x7) (iadd .i64 (((List.length v1) : Nat) : Int) (1 : Int))) ≤ (((List.length v1) : Nat) : Int)))) then
            bif (((List.length v6) == (v2 * 1)) && ((decide (((v2 + 1) * 24) ≤ 1099511627776)) && (decide ((v2 + 1) ≤ 1099511627776)))) then
              bif ((decide ((0 : Int) ≤ (irem (IntKind.wrap .i64 x7) (iadd .i64 (((List.length v1) : Nat) : Int) (1 : Int))))) && (decide ((irem (IntKind.wrap .i64 x7) (iadd .i64 (((List.length v1) : Nat) : Int) (1 : Int))) ≤ (((List.length v1) : Nat) : Int)))) then
                L354_0 N q0_0 n0 (List.drop (Int.toNat (irem (IntKind.wrap .i64 x7) (iadd .i64 (((List.length v1) : Nat) : Int) (1 : Int)))) v1) (v2 + 1) v3 v4 (iadd .i64 v5 (1 : Int)) ((v6 ++ [(V.tb (Sh.int .u8) (List.take (Int.toNat (irem (IntKind.wrap .i64 x7) (iadd .i64 (((List.length v1) : Nat) : Int) (1 : Int)))) v1))]) : List V)
              else none
            else none
          else none
    else
      q0_0 v1 v2 (v6 : List V)
/-- euphroe/euphroelaw19.cuts -/
def p354 (N : Nat) (a0 : List Int) (a1 : List Int) : Option (List (List Int)) :=
  bif ((decide ((0 : Int) ≤ (if (20 : Int) < (((List.length a1) : Nat) : Int) then (20 : Int) else (((List.length a1) : Nat) : Int)))) && (decide ((if (20 : Int) < (((List.length a1) : Nat) : Int) then (20 : Int) else (((List.length a1) : Nat) : Int)) ≤ (((List.length a1) : Nat) : Int)))) then
    L354_0 N (fun (y8 : List Int) (y9 : Nat) (y10 : List V) =>
        bif (((List.length y10) == (y9 * 1)) && ((decide (((y9 + 1) * 24) ≤ 1099511627776)) && (decide ((y9 + 1) ≤ 1099511627776)))) then
          bif (decide ((0 + ((y9 + 1) * 1)) ≤ (List.length (y10 ++ [(V.tb (Sh.int .u8) y8)])))) then
            match rowsOf (Sh.sl (Sh.int .u8)) (y9 + 1) (List.take ((y9 + 1) * 1) (List.drop 0 (y10 ++ [(V.tb (Sh.int .u8) y8)]))) with
            | none => none
            | some x11 =>
              some x11
          else none
        else none) N a0 0 (List.take (Int.toNat (if (20 : Int) < (((List.length a1) : Nat) : Int) then (20 : Int) else (((List.length a1) : Nat) : Int))) a1) (((List.length (List.take (Int.toNat (if (20 : Int) < (((List.length a1) : Nat) : Int) then (20 : Int) else (((List.length a1) : Nat) : Int))) a1)) : Nat) : Int) (0 : Int) ([] : List V)
  else none

def L334_0 (c347 : Option Bool) (c354 : List Int → List Int → Option (List (List Int))) (d348v2 : List Int → Bool → List Int → Int → Int → Int → Option ((((List (Bool × Int × (List (Int × (List Int))) × (List Int))) × (Int × Unit)) × Unit) × ((Bool × ((List Int) × (Int × (Int × (Int × Unit))))) × Unit))) (d349v1 : Bool → List Int → Int → Int → Int → Option ((Int × Unit) × ((Bool × ((List Int) × (Int × (Int × (Int × Unit))))) × Unit))) (d352v1 : Bool → List Int → Int → Int → Int → Option ((Int × Unit) × ((Bool × ((List Int) × (Int × (Int × (Int × Unit))))) × Unit))) (d351v1 : Bool → List Int → Int → Int → Int → Option ((Int × Unit) × ((Bool × ((List Int) × (Int × (Int × (Int × Unit))))) × Unit))) (d350v1 : Bool → List Int → Int → Int → Int → Option ((Int × Unit) × ((Bool × ((List Int) × (Int × (Int × (Int × Unit))))) × Unit))) (N : Nat) (q0_0 : Option Bool) : Nat → Int → List (List Int) → Int → Int → Bool → List Int → Int → Int → Int → Option Bool
  | 0, _, _, _, _, _, _, _, _, _ => none
  | n0 + 1, v3, v4, v5, v6, v7, v8, v9, v10, v11 =>
    bif (decide (v6 < v5)) then
      match geti v4 v6 with
      | none => none
      | some x12 =>
        match d348v2 x12 v7 v8 v9 v10 v11 with
        | none => none
        | some r13 =>
          bif (r13.1.1.2.1 != (0 : Int)) then
            match d349v1 r13.2.1.1 r13.2.1.2.1 r13.2.1.2.2.1 r13.2.1.2.2.2.1 r13.2.1.2.2.2.2.1 with
            | none => none
            | some r14 =>
              bif (r14.1.1 == (0 : Int)) then
                match d352v1 r14.2.1.1 r14.2.1.2.1 r14.2.1.2.2.1 r14.2.1.2.2.2.1 r14.2.1.2.2.2.2.1 with
                | none => none
                | some r15 =>
                  bif (r15.1.1 == (0 : Int)) then
                    match c347 with
                    | none => none
                    | some r16 =>
                      some r16
                  else
                    some false
              else
                some false
          else
            match d349v1 r13.2.1.1 r13.2.1.2.1 r13.2.1.2.2.1 r13.2.1.2.2.2.1 r13.2.1.2.2.2.2.1 with
            | none => none
            | some r17 =>
              match d351v1 r17.2.1.1 r17.2.1.2.1 r17.2.1.2.2.1 r17.2.1.2.2.2.1 r17.2.1.2.2.2.2.1 with
              | none => none
              | some r18 =>
                bif ((iadd .i64 r17.1.1 r18.1.1) != (iadd .i64 v3 (((List.length x12) : Nat) : Int))) then
                  some false
                else
                  match d352v1 r18.2.1.1 r18.2.1.2.1 r18.2.1.2.2.1 r18.2.1.2.2.2.1 r18.2.1.2.2.2.2.1 with
                  | none => none
                  | some r19 =>
                    bif (decide (r19.1.1 < (1 : Int))) then
                      some false
                    else
                      match d351v1 r19.2.1.1 r19.2.1.2.1 r19.2.1.2.2.1 r19.2.1.2.2.2.1 r19.2.1.2.2.2.2.1 with
                      | none => none
                      | some r20 =>
                        match d350v1 r20.2.1.1 r20.2.1.2.1 r20.2.1.2.2.1 r20.2.1.2.2.2.1 r20.2.1.2.2.2.2.1 with
                        | none => none
                        | some r21 =>
                          bif (decide (r20.1.1 < (imul .i64 (5 : Int) r21.1.1))) then
                            some false
                          else
                            L334_0 c347 c354 d348v2 d349v1 d352v1 d351v1 d350v1 N q0_0 n0 (iadd .i64 v3 (((List.length x12) : Nat) : Int)) v4 v5 (iadd .i64 v6 (1 : Int)) r21.2.1.1 r21.2.1.2.1 r21.2.1.2.2.1 r21.2.1.2.2.2.1 r21.2.1.2.2.2.2.1
    else
      q0_0
/-- euphroe/euphroelaw19.ReframeHeld -/
def p334 (c347 : Option Bool) (c354 : List Int → List Int → Option (List (List Int))) (d348v2 : List Int → Bool → List Int → Int → Int → Int → Option ((((List (Bool × Int × (List (Int × (List Int))) × (List Int))) × (Int × Unit)) × Unit) × ((Bool × ((List Int) × (Int × (Int × (Int × Unit))))) × Unit))) (d349v1 : Bool → List Int → Int → Int → Int → Option ((Int × Unit) × ((Bool × ((List Int) × (Int × (Int × (Int × Unit))))) × Unit))) (d352v1 : Bool → List Int → Int → Int → Int → Option ((Int × Unit) × ((Bool × ((List Int) × (Int × (Int × (Int × Unit))))) × Unit))) (d351v1 : Bool → List Int → Int → Int → Int → Option ((Int × Unit) × ((Bool × ((List Int) × (Int × (Int × (Int × Unit))))) × Unit))) (d350v1 : Bool → List Int → Int → Int → Int → Option ((Int × Unit) × ((Bool × ((List Int) × (Int × (Int × (Int × Unit))))) × Unit))) (N : Nat) (a0 : List Int) (a1 : List Int) : Option Bool :=
  bif (decide ((((List.length a0) : Nat) : Int) > (6000 : Int))) then
    match c347 with
    | none => none
    | some r1 =>
      some r1
  else
    match c354 a0 a1 with
    | none => none
    | some r2 =>
      L334_0 c347 c354 d348v2 d349v1 d352v1 d351v1 d350v1 N (
          match c347 with
          | none => none
          | some r22 =>
            some r22) N (0 : Int) r2 (((List.length r2) : Nat) : Int) (0 : Int) true ([] : List Int) (0 : Int) (0 : Int) (0 : Int)

def L355_0 (c344 : List Int → Option (Int × Int)) (c342 : List Int → Option ((Bool × Int × (List (Int × (List Int))) × (List Int)) × Int)) (N : Nat) (q0_0 : Nat → Int → List V → Option ((List (Bool × Int × (List (Int × (List Int))) × (List Int))) × Int × Int)) : Nat → List Int → Nat → Int → List V → Option ((List (Bool × Int × (List (Int × (List Int))) × (List Int))) × Int × Int)
  | 0, _, _, _, _ => none
  | n0 + 1, v1, v2, v3, v4 =>
    bif (decide ((isub .i64 (((List.length v1) : Nat) : Int) v3) ≥ (4 : Int))) then
      bif ((decide ((0 : Int) ≤ v3)) && (decide (v3 ≤ (((List.length v1) : Nat) : Int)))) then
        match c344 (List.drop (Int.toNat v3) v1) with
        | none => none
        | some r5 =>
          bif (r5.2 != (0 : Int)) then
            bif (decide ((0 + (v2 * 4)) ≤ (List.length v4))) then
              match rowsOf (Sh.pr Sh.bool (Sh.pr (Sh.int .u16) (Sh.pr (Sh.sl (Sh.pr (Sh.int .u8) (Sh.sl (Sh.int .u8)))) (Sh.sl (Sh.int .u8))))) v2 (List.take (v2 * 4) (List.drop 0 v4)) with
              | none => none
              | some x6 =>
                some (x6, (v3, r5.2))
            else none
          else
            bif (decide ((isub .i64 (((List.length v1) : Nat) : Int) v3) < r5.1)) then
              bif (decide ((0 + (v2 * 4)) ≤ (List.length v4))) then
                match rowsOf (Sh.pr Sh.bool (Sh.pr (Sh.int .u16) (Sh.pr (Sh.sl (Sh.pr (Sh.int .u8) (Sh.sl (Sh.int .u8)))) (Sh.sl (Sh.int .u8))))) v2 (List.take (v2 * 4) (List.drop 0 v4)) with
                | none => none
                | some x7 =>
                  some (x7, (v3, (0 : Int)))
              else none
            else
              bif ((decide ((0 : Int) ≤ (iadd .i64 v3 r5.1))) && (decide ((iadd .i64 v3 r5.1) ≤ (((List.length v1) : Nat) : Int)))) then
                bif ((decide ((0 : Int) ≤ v3)) && (decide (v3 ≤ (((Int.toNat (iadd .i64 v3 r5.1)) : Nat) : Int)))) then
                  match c342 (List.take ((Int.toNat (iadd .i64 v3 r5.1)) - (Int.toNat v3)) (List.drop (Int.toNat v3) v1)) with
                  | none => none
                  | some r8 =>
                    bif (r8.2 != (0 : Int)) then
                      bif (decide ((0 + (v2 * 4)) ≤ (List.length v4))) then
                        match rowsOf (Sh.pr Sh.bool (Sh.pr (Sh.int .u16) (Sh.pr (Sh.sl (Sh.pr (Sh.int .u8) (Sh.sl (Sh.int .u8)))) (Sh.sl (Sh.int .u8))))) v2 (List.take (v2 * 4) (List.drop 0 v4)) with
                        | none => none
                        | some x9 =>
                          some (x9, (v3, r8.2))
                      else none
                    else
                      bif (((List.length v4) == (v2 * 4)) && ((decide (((v2 + 1) * 56) ≤ 1099511627776)) && (decide ((v2 + 1) ≤ 1099511627776)))) then
                        L355_0 c344 c342 N q0_0 n0 v1 (v2 + 1) (iadd .i64 v3 (if (1 : Int) > r5.1 then (1 : Int) else r5.1)) ((v4 ++ [(V.bool r8.1.1), (V.int .u16 r8.1.2.1), (V.tb (Sh.pr (Sh.int .u8) (Sh.sl (Sh.int .u8))) r8.1.2.2.1), (V.tb (Sh.int .u8) r8.1.2.2.2)]) : List V)
                      else none
                else none
              else none
      else none
    else
      q0_0 v2 v3 (v4 : List V)
/-- euphroe/euphroeref19.All -/
def p355 (c344 : List Int → Option (Int × Int)) (c342 : List Int → Option ((Bool × Int × (List (Int × (List Int))) × (List Int)) × Int)) (N : Nat) (a0 : List Int) : Option ((List (Bool × Int × (List (Int × (List Int))) × (List Int))) × Int × Int) :=
  L355_0 c344 c342 N (fun (y10 : Nat) (y11 : Int) (y12 : List V) =>
      bif (decide ((0 + (y10 * 4)) ≤ (List.length y12))) then
        match rowsOf (Sh.pr Sh.bool (Sh.pr (Sh.int .u16) (Sh.pr (Sh.sl (Sh.pr (Sh.int .u8) (Sh.sl (Sh.int .u8)))) (Sh.sl (Sh.int .u8))))) y10 (List.take (y10 * 4) (List.drop 0 y12)) with
        | none => none
        | some x13 =>
          some (x13, (y11, (0 : Int)))
      else none) N a0 0 (0 : Int) ([] : List V)

/-- euphroe/euphroeref19.Wants -/
def p356 (c344 : List Int → Option (Int × Int)) (N : Nat) (a0 : List Int) : Option Int :=
  bif (decide ((((List.length a0) : Nat) : Int) < (4 : Int))) then
    some (isub .i64 (4 : Int) (((List.length a0) : Nat) : Int))
  else
    match c344 a0 with
    | none => none
    | some r1 =>
      some (isub .i64 r1.1 (((List.length a0) : Nat) : Int))

def L357_0 (N : Nat) (q0_0 : Bool → Int → Bool → Int → Nat → List Int → List V → Option (Bool × Int × (List (Int × (List Int))) × (List Int))) : Nat → List (Int × (List Int)) → Int → Int → Bool → Int → Bool → Int → Nat → List Int → List V → Option (Bool × Int × (List (Int × (List Int))) × (List Int))
  | 0, _, _, _, _, _, _, _, _, _, _ => none
  | n0 + 1, v1, v2, v3, v4, v5, v6, v7, v8, v9, v10 =>
    bif (decide (v3 < v2)) then
      match geti v1 v3 with
      | none => none
      | some x11 =>
        bif (((List.length v10) == (v8 * 2)) && ((decide (((v8 + 1) * 32) ≤ 1099511627776)) && (decide ((v8 + 1) ≤ 1099511627776)))) then
          L357_0 N q0_0 n0 v1 v2 (iadd .i64 v3 (1 : Int)) v4 v5 v6 v7 (v8 + 1) v9 ((v10 ++ [(V.int .u8 x11.1), (V.tb (Sh.int .u8) x11.2)]) : List V)
        else none
    else
      q0_0 v4 v5 v6 v7 v8 v9 (v10 : List V)
/-- euphroe/euphroelaw19.theirs -/
def p357 (N : Nat) (a0 : Bool × Int × (List (Int × (List Int))) × (List Int)) : Option (Bool × Int × (List (Int × (List Int))) × (List Int)) :=
  L357_0 N (fun (y12 : Bool) (y13 : Int) (y14 : Bool) (y15 : Int) (y16 : Nat) (y17 : List Int) (y18 : List V) =>
      bif (decide ((0 + (y16 * 2)) ≤ (List.length y18))) then
        match rowsOf (Sh.pr (Sh.int .u8) (Sh.sl (Sh.int .u8))) y16 (List.take (y16 * 2) (List.drop 0 y18)) with
        | none => none
        | some x19 =>
          some (y14, (y15, (x19, y17)))
      else none) N a0.2.2.1 (((List.length a0.2.2.1) : Nat) : Int) (0 : Int) false (0 : Int) a0.1 a0.2.1 0 a0.2.2.2 ([] : List V)

def L335_1 (c347 : Option Bool) (c354 : List Int → List Int → Option (List (List Int))) (c355 : List Int → Option ((List (Bool × Int × (List (Int × (List Int))) × (List Int))) × Int × Int)) (d348v2 : List Int → Bool → List Int → Int → Int → Int → Option ((((List (Bool × Int × (List (Int × (List Int))) × (List Int))) × (Int × Unit)) × Unit) × ((Bool × ((List Int) × (Int × (Int × (Int × Unit))))) × Unit))) (c356 : List Int → Option Int) (d351v1 : Bool → List Int → Int → Int → Int → Option ((Int × Unit) × ((Bool × ((List Int) × (Int × (Int × (Int × Unit))))) × Unit))) (d350v1 : Bool → List Int → Int → Int → Int → Option ((Int × Unit) × ((Bool × ((List Int) × (Int × (Int × (Int × Unit))))) × Unit))) (d349v1 : Bool → List Int → Int → Int → Int → Option ((Int × Unit) × ((Bool × ((List Int) × (Int × (Int × (Int × Unit))))) × Unit))) (d352v1 : Bool → List Int → Int → Int → Int → Option ((Int × Unit) × ((Bool × ((List Int) × (Int × (Int × (Int × Unit))))) × Unit))) (c357 : Bool × Int × (List (Int × (List Int))) × (List Int) → Option (Bool × Int × (List (Int × (List Int))) × (List Int))) (c302 : Bool × Int × (List (Int × (List Int))) × (List Int) → Bool × Int × (List (Int × (List Int))) × (List Int) → Option Bool) (N : Nat) (q1_2 : List Int → Int → Int → List (Bool × Int × (List (Int × (List Int))) × (List Int)) → List (List Int) → Int → Int → Bool → List Int → Int → Int → Int → Option Bool) : Nat → List Int → Int → Int → Int → List (Bool × Int × (List (Int × (List Int))) × (List Int)) → List (Bool × Int × (List (Int × (List Int))) × (List Int)) → List (List Int) → Int → Int → Int → Int → Bool → List Int → Int → Int → Int → Option Bool
  | 0, _, _, _, _, _, _, _, _, _, _, _, _, _, _, _, _ => none
  | n1 + 1, v23, v24, v25, v26, v27, v28, v29, v30, v31, v32, v33, v34, v35, v36, v37, v38 =>
    bif (decide (v33 < v32)) then
      match geti v28 v33 with
      | none => none
      | some x39 =>
        match geti v27 (iadd .i64 v25 v33) with
        | none => none
        | some x40 =>
          match c357 (x40.1, (x40.2.1, (x40.2.2.1, x40.2.2.2))) with
          | none => none
          | some r41 =>
            match c302 (x39.1, (x39.2.1, (x39.2.2.1, x39.2.2.2))) (r41.1, (r41.2.1, (r41.2.2.1, r41.2.2.2))) with
            | none => none
            | some r42 =>
              bif (!r42) then
                some false
              else
                L335_1 c347 c354 c355 d348v2 c356 d351v1 d350v1 d349v1 d352v1 c357 c302 N q1_2 n1 v23 v24 v25 v26 v27 v28 v29 v30 v31 v32 (iadd .i64 v33 (1 : Int)) v34 v35 v36 v37 v38
    else
      q1_2 v23 v24 v26 v27 v29 v30 v31 v34 v35 v36 v37 v38
def L335_0 (c347 : Option Bool) (c354 : List Int → List Int → Option (List (List Int))) (c355 : List Int → Option ((List (Bool × Int × (List (Int × (List Int))) × (List Int))) × Int × Int)) (d348v2 : List Int → Bool → List Int → Int → Int → Int → Option ((((List (Bool × Int × (List (Int × (List Int))) × (List Int))) × (Int × Unit)) × Unit) × ((Bool × ((List Int) × (Int × (Int × (Int × Unit))))) × Unit))) (c356 : List Int → Option Int) (d351v1 : Bool → List Int → Int → Int → Int → Option ((Int × Unit) × ((Bool × ((List Int) × (Int × (Int × (Int × Unit))))) × Unit))) (d350v1 : Bool → List Int → Int → Int → Int → Option ((Int × Unit) × ((Bool × ((List Int) × (Int × (Int × (Int × Unit))))) × Unit))) (d349v1 : Bool → List Int → Int → Int → Int → Option ((Int × Unit) × ((Bool × ((List Int) × (Int × (Int × (Int × Unit))))) × Unit))) (d352v1 : Bool → List Int → Int → Int → Int → Option ((Int × Unit) × ((Bool × ((List Int) × (Int × (Int × (Int × Unit))))) × Unit))) (c357 : Bool × Int × (List (Int × (List Int))) × (List Int) → Option (Bool × Int × (List (Int × (List Int))) × (List Int))) (c302 : Bool × Int × (List (Int × (List Int))) × (List Int) → Bool × Int × (List (Int × (List Int))) × (List Int) → Option Bool) (N : Nat) (q0_0 : Option Bool) : Nat → List Int → Int → Int → Int → List (List Int) → Int → Int → Bool → List Int → Int → Int → Int → Option Bool
  | 0, _, _, _, _, _, _, _, _, _, _, _, _ => none
  | n0 + 1, v3, v4, v5, v6, v7, v8, v9, v10, v11, v12, v13, v14 =>
    bif (decide (v9 < v8)) then
      match geti v7 v9 with
      | none => none
      | some x15 =>
        bif ((decide ((0 : Int) ≤ (iadd .i64 v4 (((List.length x15) : Nat) : Int)))) && (decide ((iadd .i64 v4 (((List.length x15) : Nat) : Int)) ≤ (((List.length v3) : Nat) : Int)))) then
          match c355 (List.take (Int.toNat (iadd .i64 v4 (((List.length x15) : Nat) : Int))) v3) with
          | none => none
          | some r16 =>
            match d348v2 x15 v10 v11 v12 v13 v14 with
            | none => none
            | some r17 =>
              bif (v6 != (0 : Int)) then
                bif ((((List.length r17.1.1.1) : Nat) : Int) != (0 : Int)) then
                  some false
                else
                  bif (r17.1.1.2.1 != v6) then
                    some false
                  else
                    L335_0 c347 c354 c355 d348v2 c356 d351v1 d350v1 d349v1 d352v1 c357 c302 N q0_0 n0 v3 (iadd .i64 v4 (((List.length x15) : Nat) : Int)) v5 v6 v7 v8 (iadd .i64 v9 (1 : Int)) r17.2.1.1 r17.2.1.2.1 r17.2.1.2.2.1 r17.2.1.2.2.2.1 r17.2.1.2.2.2.2.1
              else
                bif ((decide ((0 : Int) ≤ (iadd .i64 v4 (((List.length x15) : Nat) : Int)))) && (decide ((iadd .i64 v4 (((List.length x15) : Nat) : Int)) ≤ (((List.length v3) : Nat) : Int)))) then
                  bif ((decide ((0 : Int) ≤ r16.2.1)) && (decide (r16.2.1 ≤ (((Int.toNat (iadd .i64 v4 (((List.length x15) : Nat) : Int))) : Nat) : Int)))) then
                    match c356 (List.take ((Int.toNat (iadd .i64 v4 (((List.length x15) : Nat) : Int))) - (Int.toNat r16.2.1)) (List.drop (Int.toNat r16.2.1) v3)) with
                    | none => none
                    | some r18 =>
                      bif (r16.2.2 != (0 : Int)) then
                        bif ((((List.length r17.1.1.1) : Nat) : Int) != (isub .i64 (((List.length r16.1) : Nat) : Int) v5)) then
                          some false
                        else
                          bif (r17.1.1.2.1 != r16.2.2) then
                            some false
                          else
                            match d351v1 r17.2.1.1 r17.2.1.2.1 r17.2.1.2.2.1 r17.2.1.2.2.2.1 r17.2.1.2.2.2.2.1 with
                            | none => none
                            | some r19 =>
                              bif (r19.1.1 != r16.2.1) then
                                some false
                              else
                                match d350v1 r19.2.1.1 r19.2.1.2.1 r19.2.1.2.2.1 r19.2.1.2.2.2.1 r19.2.1.2.2.2.2.1 with
                                | none => none
                                | some r20 =>
                                  bif (r20.1.1 != (((List.length r16.1) : Nat) : Int)) then
                                    some false
                                  else
                                    match d349v1 r20.2.1.1 r20.2.1.2.1 r20.2.1.2.2.1 r20.2.1.2.2.2.1 r20.2.1.2.2.2.2.1 with
                                    | none => none
                                    | some r21 =>
                                      bif (r21.1.1 != (0 : Int)) then
                                        some false
                                      else
                                        match d352v1 r21.2.1.1 r21.2.1.2.1 r21.2.1.2.2.1 r21.2.1.2.2.2.1 r21.2.1.2.2.2.2.1 with
                                        | none => none
                                        | some r22 =>
                                          bif (r22.1.1 != (0 : Int)) then
                                            some false
                                          else
                                            L335_1 c347 c354 c355 d348v2 c356 d351v1 d350v1 d349v1 d352v1 c357 c302 N (fun (y43 : List Int) (y44 : Int) (y45 : Int) (y46 : List (Bool × Int × (List (Int × (List Int))) × (List Int))) (y47 : List (List Int)) (y48 : Int) (y49 : Int) (y50 : Bool) (y51 : List Int) (y52 : Int) (y53 : Int) (y54 : Int) =>
                                                L335_0 c347 c354 c355 d348v2 c356 d351v1 d350v1 d349v1 d352v1 c357 c302 N q0_0 n0 y43 y44 (((List.length y46) : Nat) : Int) y45 y47 y48 (iadd .i64 y49 (1 : Int)) y50 y51 y52 y53 y54) N v3 (iadd .i64 v4 (((List.length x15) : Nat) : Int)) v5 r16.2.2 r16.1 r17.1.1.1 v7 v8 v9 (((List.length r17.1.1.1) : Nat) : Int) (0 : Int) r22.2.1.1 r22.2.1.2.1 r22.2.1.2.2.1 r22.2.1.2.2.2.1 r22.2.1.2.2.2.2.1
                      else
                        bif ((((List.length r17.1.1.1) : Nat) : Int) != (isub .i64 (((List.length r16.1) : Nat) : Int) v5)) then
                          some false
                        else
                          bif (r17.1.1.2.1 != r16.2.2) then
                            some false
                          else
                            match d351v1 r17.2.1.1 r17.2.1.2.1 r17.2.1.2.2.1 r17.2.1.2.2.2.1 r17.2.1.2.2.2.2.1 with
                            | none => none
                            | some r55 =>
                              bif (r55.1.1 != r16.2.1) then
                                some false
                              else
                                match d350v1 r55.2.1.1 r55.2.1.2.1 r55.2.1.2.2.1 r55.2.1.2.2.2.1 r55.2.1.2.2.2.2.1 with
                                | none => none
                                | some r56 =>
                                  bif (r56.1.1 != (((List.length r16.1) : Nat) : Int)) then
                                    some false
                                  else
                                    match d349v1 r56.2.1.1 r56.2.1.2.1 r56.2.1.2.2.1 r56.2.1.2.2.2.1 r56.2.1.2.2.2.2.1 with
                                    | none => none
                                    | some r57 =>
                                      bif (r57.1.1 != (isub .i64 (iadd .i64 v4 (((List.length x15) : Nat) : Int)) r16.2.1)) then
                                        some false
                                      else
                                        match d352v1 r57.2.1.1 r57.2.1.2.1 r57.2.1.2.2.1 r57.2.1.2.2.2.1 r57.2.1.2.2.2.2.1 with
                                        | none => none
                                        | some r58 =>
                                          bif (r58.1.1 != r18) then
                                            some false
                                          else
                                            L335_1 c347 c354 c355 d348v2 c356 d351v1 d350v1 d349v1 d352v1 c357 c302 N (fun (y59 : List Int) (y60 : Int) (y61 : Int) (y62 : List (Bool × Int × (List (Int × (List Int))) × (List Int))) (y63 : List (List Int)) (y64 : Int) (y65 : Int) (y66 : Bool) (y67 : List Int) (y68 : Int) (y69 : Int) (y70 : Int) =>
                                                L335_0 c347 c354 c355 d348v2 c356 d351v1 d350v1 d349v1 d352v1 c357 c302 N q0_0 n0 y59 y60 (((List.length y62) : Nat) : Int) y61 y63 y64 (iadd .i64 y65 (1 : Int)) y66 y67 y68 y69 y70) N v3 (iadd .i64 v4 (((List.length x15) : Nat) : Int)) v5 r16.2.2 r16.1 r17.1.1.1 v7 v8 v9 (((List.length r17.1.1.1) : Nat) : Int) (0 : Int) r58.2.1.1 r58.2.1.2.1 r58.2.1.2.2.1 r58.2.1.2.2.2.1 r58.2.1.2.2.2.2.1
                  else none
                else none
        else none
    else
      q0_0
/-- euphroe/euphroelaw19.ReframeWrites -/
def p335 (c347 : Option Bool) (c354 : List Int → List Int → Option (List (List Int))) (c355 : List Int → Option ((List (Bool × Int × (List (Int × (List Int))) × (List Int))) × Int × Int)) (d348v2 : List Int → Bool → List Int → Int → Int → Int → Option ((((List (Bool × Int × (List (Int × (List Int))) × (List Int))) × (Int × Unit)) × Unit) × ((Bool × ((List Int) × (Int × (Int × (Int × Unit))))) × Unit))) (c356 : List Int → Option Int) (d351v1 : Bool → List Int → Int → Int → Int → Option ((Int × Unit) × ((Bool × ((List Int) × (Int × (Int × (Int × Unit))))) × Unit))) (d350v1 : Bool → List Int → Int → Int → Int → Option ((Int × Unit) × ((Bool × ((List Int) × (Int × (Int × (Int × Unit))))) × Unit))) (d349v1 : Bool → List Int → Int → Int → Int → Option ((Int × Unit) × ((Bool × ((List Int) × (Int × (Int × (Int × Unit))))) × Unit))) (d352v1 : Bool → List Int → Int → Int → Int → Option ((Int × Unit) × ((Bool × ((List Int) × (Int × (Int × (Int × Unit))))) × Unit))) (c357 : Bool × Int × (List (Int × (List Int))) × (List Int) → Option (Bool × Int × (List (Int × (List Int))) × (List Int))) (c302 : Bool × Int × (List (Int × (List Int))) × (List Int) → Bool × Int × (List (Int × (List Int))) × (List Int) → Option Bool) (N : Nat) (a0 : List Int) (a1 : List Int) : Option Bool :=
  bif (decide ((((List.length a0) : Nat) : Int) > (9000 : Int))) then
    match c347 with
    | none => none
    | some r1 =>
      some r1
  else
    match c354 a0 a1 with
    | none => none
    | some r2 =>
      L335_0 c347 c354 c355 d348v2 c356 d351v1 d350v1 d349v1 d352v1 c357 c302 N (
          match c347 with
          | none => none
          | some r71 =>
            some r71) N a0 (0 : Int) (0 : Int) (0 : Int) r2 (((List.length r2) : Nat) : Int) (0 : Int) true ([] : List Int) (0 : Int) (0 : Int) (0 : Int)

def L348v3_0 (c108 : List Int → Option (List Int)) (c343 : List Int → Option (Int × Int)) (c341 : List Int → Option ((Bool × Int × (List (Int × (List Int))) × (List Int)) × Int)) (N : Nat) (q0_0 : Nat → Bool → List Int → Int → Int → Int → List V → Option ((((List (Bool × Int × (List (Int × (List Int))) × (List Int))) × (Int × Unit)) × Unit) × ((Bool × ((List Int) × (Int × (Int × (Int × Unit))))) × Unit))) : Nat → Nat → Bool → List Int → Int → Int → Int → List V → Option ((((List (Bool × Int × (List (Int × (List Int))) × (List Int))) × (Int × Unit)) × Unit) × ((Bool × ((List Int) × (Int × (Int × (Int × Unit))))) × Unit))
  | 0, _, _, _, _, _, _, _ => none
  | n0 + 1, v2, v3, v4, v5, v6, v7, v8 =>
    match c343 v4 with
    | none => none
    | some r9 =>
      bif (r9.2 == (4 : Int)) then
        q0_0 v2 v3 v4 v5 v6 v7 (v8 : List V)
      else
        bif (r9.2 != (0 : Int)) then
          bif (r9.2 != (0 : Int)) then
            q0_0 v2 v3 ([] : List Int) r9.2 v6 v7 (v8 : List V)
          else
            q0_0 v2 v3 v4 v5 v6 v7 (v8 : List V)
        else
          bif (decide ((((List.length v4) : Nat) : Int) < r9.1)) then
            bif (r9.2 != (0 : Int)) then
              q0_0 v2 v3 ([] : List Int) r9.2 v6 v7 (v8 : List V)
            else
              q0_0 v2 v3 v4 v5 v6 v7 (v8 : List V)
          else
            bif ((decide ((0 : Int) ≤ r9.1)) && (decide (r9.1 ≤ (((List.length v4) : Nat) : Int)))) then
              match c341 (List.take (Int.toNat r9.1) v4) with
              | none => none
              | some r10 =>
                bif (r10.2 != (0 : Int)) then
                  bif (r10.2 != (0 : Int)) then
                    q0_0 v2 v3 ([] : List Int) r10.2 v6 v7 (v8 : List V)
                  else
                    q0_0 v2 v3 v4 v5 v6 v7 (v8 : List V)
                else
                  bif ((decide ((0 : Int) ≤ r9.1)) && (decide (r9.1 ≤ (((List.length v4) : Nat) : Int)))) then
                    bif (((List.length v8) == (v2 * 4)) && ((decide (((v2 + 1) * 56) ≤ 1099511627776)) && (decide ((v2 + 1) ≤ 1099511627776)))) then
                      L348v3_0 c108 c343 c341 N q0_0 n0 (v2 + 1) v3 (List.drop (Int.toNat r9.1) v4) v5 (iadd .i64 v6 (1 : Int)) (iadd .i64 v7 r9.1) ((v8 ++ [(V.bool r10.1.1), (V.int .u16 r10.1.2.1), (V.tb (Sh.pr (Sh.int .u8) (Sh.sl (Sh.int .u8))) r10.1.2.2.1), (V.tb (Sh.int .u8) r10.1.2.2.2)]) : List V)
                    else none
                  else none
            else none
/-- (*euphroe/reframe.Stream).Write -/
def p348v3 (c108 : List Int → Option (List Int)) (c343 : List Int → Option (Int × Int)) (c341 : List Int → Option ((Bool × Int × (List (Int × (List Int))) × (List Int)) × Int)) (N : Nat) (a0 : Bool) (a1 : List Int) (a2 : Int) (a3 : Int) (a4 : Int) : Option ((((List (Bool × Int × (List (Int × (List Int))) × (List Int))) × (Int × Unit)) × Unit) × ((Bool × ((List Int) × (Int × (Int × (Int × Unit))))) × Unit)) :=
  bif (!a0) then
    some (((([] : List (Bool × Int × (List (Int × (List Int))) × (List Int))), ((2 : Int), ())), ()), ((a0, (a1, (a2, (a3, (a4, ()))))), ()))
  else
    bif (a2 != (0 : Int)) then
      some (((([] : List (Bool × Int × (List (Int × (List Int))) × (List Int))), (a2, ())), ()), ((a0, (a1, (a2, (a3, (a4, ()))))), ()))
    else
      match c108 a1 with
      | none => none
      | some r1 =>
        bif (((List.length r1) == ((List.length r1) * 1)) && ((decide ((((List.length r1) + 0) * 1) ≤ 1099511627776)) && (decide (((List.length r1) + 0) ≤ 1099511627776)))) then
          bif (decide ((0 + (((List.length r1) + 0) * 1)) ≤ (List.length r1))) then
            L348v3_0 c108 c343 c341 N (fun (y11 : Nat) (y12 : Bool) (y13 : List Int) (y14 : Int) (y15 : Int) (y16 : Int) (y17 : List V) =>
                bif (decide ((0 + (y11 * 4)) ≤ (List.length y17))) then
                  match rowsOf (Sh.pr Sh.bool (Sh.pr (Sh.int .u16) (Sh.pr (Sh.sl (Sh.pr (Sh.int .u8) (Sh.sl (Sh.int .u8)))) (Sh.sl (Sh.int .u8))))) y11 (List.take (y11 * 4) (List.drop 0 y17)) with
                  | none => none
                  | some x18 =>
                    some (((x18, (y14, ())), ()), ((y12, (y13, (y14, (y15, (y16, ()))))), ()))
                else none) N 0 a0 (List.take ((List.length r1) + 0) (List.drop 0 r1)) a2 a3 a4 ([] : List V)
          else none
        else none

def L336_0 (c347 : Option Bool) (c354 : List Int → List Int → Option (List (List Int))) (d348v2 : List Int → Bool → List Int → Int → Int → Int → Option ((((List (Bool × Int × (List (Int × (List Int))) × (List Int))) × (Int × Unit)) × Unit) × ((Bool × ((List Int) × (Int × (Int × (Int × Unit))))) × Unit))) (d349v1 : Bool → List Int → Int → Int → Int → Option ((Int × Unit) × ((Bool × ((List Int) × (Int × (Int × (Int × Unit))))) × Unit))) (d352v1 : Bool → List Int → Int → Int → Int → Option ((Int × Unit) × ((Bool × ((List Int) × (Int × (Int × (Int × Unit))))) × Unit))) (d348v3 : Bool → List Int → Int → Int → Int → Option ((((List (Bool × Int × (List (Int × (List Int))) × (List Int))) × (Int × Unit)) × Unit) × ((Bool × ((List Int) × (Int × (Int × (Int × Unit))))) × Unit))) (d351v1 : Bool → List Int → Int → Int → Int → Option ((Int × Unit) × ((Bool × ((List Int) × (Int × (Int × (Int × Unit))))) × Unit))) (d350v1 : Bool → List Int → Int → Int → Int → Option ((Int × Unit) × ((Bool × ((List Int) × (Int × (Int × (Int × Unit))))) × Unit))) (c302 : Bool × Int × (List (Int × (List Int))) × (List Int) → Bool × Int × (List (Int × (List Int))) × (List Int) → Option Bool) (N : Nat) (q0_0 : List Int → Nat → Bool → List Int → Int → Int → Int → Bool → List Int → Int → Int → Int → List V → Option Bool) : Nat → List Int → Nat → List (List Int) → Int → Int → Bool → List Int → Int → Int → Int → Bool → List Int → Int → Int → Int → List V → Option Bool
  | 0, _, _, _, _, _, _, _, _, _, _, _, _, _, _, _, _ => none
  | n0 + 1, v3, v4, v5, v6, v7, v8, v9, v10, v11, v12, v13, v14, v15, v16, v17, v18 =>
    bif (decide (v7 < v6)) then
      match geti v5 v7 with
      | none => none
      | some x19 =>
        match d348v2 x19 v8 v9 v10 v11 v12 with
        | none => none
        | some r20 =>
          bif (((List.length v18) == (v4 * 4)) && ((decide (((v4 + (List.length r20.1.1.1)) * 56) ≤ 1099511627776)) && (decide ((v4 + (List.length r20.1.1.1)) ≤ 1099511627776)))) then
            match d349v1 r20.2.1.1 r20.2.1.2.1 r20.2.1.2.2.1 r20.2.1.2.2.2.1 r20.2.1.2.2.2.2.1 with
            | none => none
            | some r21 =>
              bif (decide (r21.1.1 ≥ (4095 : Int))) then
                some false
              else
                match d352v1 r21.2.1.1 r21.2.1.2.1 r21.2.1.2.2.1 r21.2.1.2.2.2.1 r21.2.1.2.2.2.2.1 with
                | none => none
                | some r22 =>
                  bif (decide (r22.1.1 < (0 : Int))) then
                    some false
                  else
                    L336_0 c347 c354 d348v2 d349v1 d352v1 d348v3 d351v1 d350v1 c302 N q0_0 n0 v3 (v4 + (List.length r20.1.1.1)) v5 v6 (iadd .i64 v7 (1 : Int)) r22.2.1.1 r22.2.1.2.1 r22.2.1.2.2.1 r22.2.1.2.2.2.1 r22.2.1.2.2.2.2.1 v13 v14 v15 v16 v17 ((v18 ++ (flat (Sh.pr Sh.bool (Sh.pr (Sh.int .u16) (Sh.pr (Sh.sl (Sh.pr (Sh.int .u8) (Sh.sl (Sh.int .u8)))) (Sh.sl (Sh.int .u8))))) r20.1.1.1)) : List V)
          else none
    else
      q0_0 v3 v4 v8 v9 v10 v11 v12 v13 v14 v15 v16 v17 (v18 : List V)
def L336_1 (c347 : Option Bool) (c354 : List Int → List Int → Option (List (List Int))) (d348v2 : List Int → Bool → List Int → Int → Int → Int → Option ((((List (Bool × Int × (List (Int × (List Int))) × (List Int))) × (Int × Unit)) × Unit) × ((Bool × ((List Int) × (Int × (Int × (Int × Unit))))) × Unit))) (d349v1 : Bool → List Int → Int → Int → Int → Option ((Int × Unit) × ((Bool × ((List Int) × (Int × (Int × (Int × Unit))))) × Unit))) (d352v1 : Bool → List Int → Int → Int → Int → Option ((Int × Unit) × ((Bool × ((List Int) × (Int × (Int × (Int × Unit))))) × Unit))) (d348v3 : Bool → List Int → Int → Int → Int → Option ((((List (Bool × Int × (List (Int × (List Int))) × (List Int))) × (Int × Unit)) × Unit) × ((Bool × ((List Int) × (Int × (Int × (Int × Unit))))) × Unit))) (d351v1 : Bool → List Int → Int → Int → Int → Option ((Int × Unit) × ((Bool × ((List Int) × (Int × (Int × (Int × Unit))))) × Unit))) (d350v1 : Bool → List Int → Int → Int → Int → Option ((Int × Unit) × ((Bool × ((List Int) × (Int × (Int × (Int × Unit))))) × Unit))) (c302 : Bool × Int × (List (Int × (List Int))) × (List Int) → Bool × Int × (List (Int × (List Int))) × (List Int) → Option Bool) (N : Nat) (q1_2 : Nat → Nat → Bool → List Int → Int → Int → Int → Bool → List Int → Int → Int → Int → List V → List V → Option Bool) : Nat → List Int → Nat → Nat → Int → Int → Bool → List Int → Int → Int → Int → Bool → List Int → Int → Int → Int → List V → List V → Option Bool
  | 0, _, _, _, _, _, _, _, _, _, _, _, _, _, _, _, _, _ => none
  | n1 + 1, v36, v37, v38, v39, v40, v41, v42, v43, v44, v45, v46, v47, v48, v49, v50, v51, v52 =>
    bif (decide (v40 < v39)) then
      bif ((decide ((0 : Int) ≤ (iadd .i64 v40 (1 : Int)))) && (decide ((iadd .i64 v40 (1 : Int)) ≤ (((List.length v36) : Nat) : Int)))) then
        bif ((decide ((0 : Int) ≤ v40)) && (decide (v40 ≤ (((Int.toNat (iadd .i64 v40 (1 : Int))) : Nat) : Int)))) then
          match d348v2 (List.take ((Int.toNat (iadd .i64 v40 (1 : Int))) - (Int.toNat v40)) (List.drop (Int.toNat v40) v36)) v46 v47 v48 v49 v50 with
          | none => none
          | some r53 =>
            bif (((List.length v52) == (v38 * 4)) && ((decide (((v38 + (List.length r53.1.1.1)) * 56) ≤ 1099511627776)) && (decide ((v38 + (List.length r53.1.1.1)) ≤ 1099511627776)))) then
              L336_1 c347 c354 d348v2 d349v1 d352v1 d348v3 d351v1 d350v1 c302 N q1_2 n1 v36 v37 (v38 + (List.length r53.1.1.1)) v39 (iadd .i64 v40 (1 : Int)) v41 v42 v43 v44 v45 r53.2.1.1 r53.2.1.2.1 r53.2.1.2.2.1 r53.2.1.2.2.2.1 r53.2.1.2.2.2.2.1 (v51 : List V) ((v52 ++ (flat (Sh.pr Sh.bool (Sh.pr (Sh.int .u16) (Sh.pr (Sh.sl (Sh.pr (Sh.int .u8) (Sh.sl (Sh.int .u8)))) (Sh.sl (Sh.int .u8))))) r53.1.1.1)) : List V)
            else none
        else none
      else none
    else
      q1_2 v37 v38 v41 v42 v43 v44 v45 v46 v47 v48 v49 v50 (v51 : List V) (v52 : List V)
def L336_2 (c347 : Option Bool) (c354 : List Int → List Int → Option (List (List Int))) (d348v2 : List Int → Bool → List Int → Int → Int → Int → Option ((((List (Bool × Int × (List (Int × (List Int))) × (List Int))) × (Int × Unit)) × Unit) × ((Bool × ((List Int) × (Int × (Int × (Int × Unit))))) × Unit))) (d349v1 : Bool → List Int → Int → Int → Int → Option ((Int × Unit) × ((Bool × ((List Int) × (Int × (Int × (Int × Unit))))) × Unit))) (d352v1 : Bool → List Int → Int → Int → Int → Option ((Int × Unit) × ((Bool × ((List Int) × (Int × (Int × (Int × Unit))))) × Unit))) (d348v3 : Bool → List Int → Int → Int → Int → Option ((((List (Bool × Int × (List (Int × (List Int))) × (List Int))) × (Int × Unit)) × Unit) × ((Bool × ((List Int) × (Int × (Int × (Int × Unit))))) × Unit))) (d351v1 : Bool → List Int → Int → Int → Int → Option ((Int × Unit) × ((Bool × ((List Int) × (Int × (Int × (Int × Unit))))) × Unit))) (d350v1 : Bool → List Int → Int → Int → Int → Option ((Int × Unit) × ((Bool × ((List Int) × (Int × (Int × (Int × Unit))))) × Unit))) (c302 : Bool × Int × (List (Int × (List Int))) × (List Int) → Bool × Int × (List (Int × (List Int))) × (List Int) → Option Bool) (N : Nat) (q2_4 : Option Bool) : Nat → List (Bool × Int × (List (Int × (List Int))) × (List Int)) → List (Bool × Int × (List (Int × (List Int))) × (List Int)) → Int → Int → Option Bool
  | 0, _, _, _, _ => none
  | n2 + 1, v78, v79, v80, v81 =>
    bif (decide (v81 < v80)) then
      match geti v78 v81 with
      | none => none
      | some x82 =>
        match geti v79 v81 with
        | none => none
        | some x83 =>
          match c302 (x82.1, (x82.2.1, (x82.2.2.1, x82.2.2.2))) (x83.1, (x83.2.1, (x83.2.2.1, x83.2.2.2))) with
          | none => none
          | some r84 =>
            bif (!r84) then
              some false
            else
              L336_2 c347 c354 d348v2 d349v1 d352v1 d348v3 d351v1 d350v1 c302 N q2_4 n2 v78 v79 v80 (iadd .i64 v81 (1 : Int))
    else
      q2_4
/-- euphroe/euphroelaw19.ReframeSame -/
def p336 (c347 : Option Bool) (c354 : List Int → List Int → Option (List (List Int))) (d348v2 : List Int → Bool → List Int → Int → Int → Int → Option ((((List (Bool × Int × (List (Int × (List Int))) × (List Int))) × (Int × Unit)) × Unit) × ((Bool × ((List Int) × (Int × (Int × (Int × Unit))))) × Unit))) (d349v1 : Bool → List Int → Int → Int → Int → Option ((Int × Unit) × ((Bool × ((List Int) × (Int × (Int × (Int × Unit))))) × Unit))) (d352v1 : Bool → List Int → Int → Int → Int → Option ((Int × Unit) × ((Bool × ((List Int) × (Int × (Int × (Int × Unit))))) × Unit))) (d348v3 : Bool → List Int → Int → Int → Int → Option ((((List (Bool × Int × (List (Int × (List Int))) × (List Int))) × (Int × Unit)) × Unit) × ((Bool × ((List Int) × (Int × (Int × (Int × Unit))))) × Unit))) (d351v1 : Bool → List Int → Int → Int → Int → Option ((Int × Unit) × ((Bool × ((List Int) × (Int × (Int × (Int × Unit))))) × Unit))) (d350v1 : Bool → List Int → Int → Int → Int → Option ((Int × Unit) × ((Bool × ((List Int) × (Int × (Int × (Int × Unit))))) × Unit))) (c302 : Bool × Int × (List (Int × (List Int))) × (List Int) → Bool × Int × (List (Int × (List Int))) × (List Int) → Option Bool) (N : Nat) (a0 : List Int) (a1 : List Int) : Option Bool :=
  bif (decide ((((List.length a0) : Nat) : Int) > (3000 : Int))) then
    match c347 with
    | none => none
    | some r1 =>
      some r1
  else
    match c354 a0 a1 with
    | none => none
    | some r2 =>
      L336_0 c347 c354 d348v2 d349v1 d352v1 d348v3 d351v1 d350v1 c302 N (fun (y23 : List Int) (y24 : Nat) (y25 : Bool) (y26 : List Int) (y27 : Int) (y28 : Int) (y29 : Int) (y30 : Bool) (y31 : List Int) (y32 : Int) (y33 : Int) (y34 : Int) (y35 : List V) =>
          L336_1 c347 c354 d348v2 d349v1 d352v1 d348v3 d351v1 d350v1 c302 N (fun (y54 : Nat) (y55 : Nat) (y56 : Bool) (y57 : List Int) (y58 : Int) (y59 : Int) (y60 : Int) (y61 : Bool) (y62 : List Int) (y63 : Int) (y64 : Int) (y65 : Int) (y66 : List V) (y67 : List V) =>
              match d348v3 y56 y57 y58 y59 y60 with
              | none => none
              | some r68 =>
                match d348v3 y61 y62 y63 y64 y65 with
                | none => none
                | some r69 =>
                  bif (((y54 : Nat) : Int) != ((y55 : Nat) : Int)) then
                    some false
                  else
                    bif (r68.1.1.2.1 != r69.1.1.2.1) then
                      some false
                    else
                      match d351v1 r68.2.1.1 r68.2.1.2.1 r68.2.1.2.2.1 r68.2.1.2.2.2.1 r68.2.1.2.2.2.2.1 with
                      | none => none
                      | some r70 =>
                        match d351v1 r69.2.1.1 r69.2.1.2.1 r69.2.1.2.2.1 r69.2.1.2.2.2.1 r69.2.1.2.2.2.2.1 with
                        | none => none
                        | some r71 =>
                          bif (r70.1.1 != r71.1.1) then
                            some false
                          else
                            match d350v1 r70.2.1.1 r70.2.1.2.1 r70.2.1.2.2.1 r70.2.1.2.2.2.1 r70.2.1.2.2.2.2.1 with
                            | none => none
                            | some r72 =>
                              match d350v1 r71.2.1.1 r71.2.1.2.1 r71.2.1.2.2.1 r71.2.1.2.2.2.1 r71.2.1.2.2.2.2.1 with
                              | none => none
                              | some r73 =>
                                bif (r72.1.1 != r73.1.1) then
                                  some false
                                else
                                  match d349v1 r72.2.1.1 r72.2.1.2.1 r72.2.1.2.2.1 r72.2.1.2.2.2.1 r72.2.1.2.2.2.2.1 with
                                  | none => none
                                  | some r74 =>
                                    match d349v1 r73.2.1.1 r73.2.1.2.1 r73.2.1.2.2.1 r73.2.1.2.2.2.1 r73.2.1.2.2.2.2.1 with
                                    | none => none
                                    | some r75 =>
                                      bif (r74.1.1 != r75.1.1) then
                                        some false
                                      else
                                        bif (decide ((0 + (y54 * 4)) ≤ (List.length y66))) then
                                          match rowsOf (Sh.pr Sh.bool (Sh.pr (Sh.int .u16) (Sh.pr (Sh.sl (Sh.pr (Sh.int .u8) (Sh.sl (Sh.int .u8)))) (Sh.sl (Sh.int .u8))))) y54 (List.take (y54 * 4) (List.drop 0 y66)) with
                                          | none => none
                                          | some x76 =>
                                            bif (decide ((0 + (y55 * 4)) ≤ (List.length y67))) then
                                              match rowsOf (Sh.pr Sh.bool (Sh.pr (Sh.int .u16) (Sh.pr (Sh.sl (Sh.pr (Sh.int .u8) (Sh.sl (Sh.int .u8)))) (Sh.sl (Sh.int .u8))))) y55 (List.take (y55 * 4) (List.drop 0 y67)) with
                                              | none => none
                                              | some x77 =>
                                                L336_2 c347 c354 d348v2 d349v1 d352v1 d348v3 d351v1 d350v1 c302 N (
                                                    match c347 with
                                                    | none => none
                                                    | some r85 =>
                                                      some r85) N x76 x77 ((y54 : Nat) : Int) (0 : Int)
                                            else none
                                        else none) N y23 y24 0 (((List.length y23) : Nat) : Int) (0 : Int) y25 y26 y27 y28 y29 y30 y31 y32 y33 y34 (y35 : List V) ([] : List V)) N a0 0 r2 (((List.length r2) : Nat) : Int) (0 : Int) true ([] : List Int) (0 : Int) (0 : Int) (0 : Int) true ([] : List Int) (0 : Int) (0 : Int) (0 : Int) ([] : List V)
end Go.Proofs.YteagngpgghnlmaaE
