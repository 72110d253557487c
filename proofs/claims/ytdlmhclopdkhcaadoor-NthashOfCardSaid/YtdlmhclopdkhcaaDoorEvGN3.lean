/- The functions as plain ones. -/
import Derived.Test.YtdlmhclopdkhcaaDoorEvFN3
namespace Go.Proofs.YtdlmhclopdkhcaaDoorE
open Go
set_option linter.unusedVariables false
set_option linter.unusedSimpArgs false
abbrev zz (n : Nat) : List Int := List.replicate n 0
abbrev D1 : Type := List (List Int) → Option (List Int)
/-- slices.Concat[[]byte,byte] -/
abbrev en1 (f : D1) : Ent := ⟨[(Sh.sl (Sh.sl (Sh.int .u8)))], List Int, fun v => f v.1, ownOut .u8⟩
abbrev O1 (f : D1) : Prop := EntOK FT XT 1 (en1 f)
abbrev D19 : Type := Int → Int → Bool → Option ((List Int) × Int)
/-- euphroe/octs.Put -/
abbrev en19 (f : D19) : Ent := ⟨[(Sh.int .u64), (Sh.int .i64), Sh.bool], ((Sh.tu (Sh.pr (Sh.sl (Sh.int .u8)) (Sh.int .i64)))).T, fun v => f v.1 v.2.1 v.2.2.1, fun r => (((Sh.tu (Sh.pr (Sh.sl (Sh.int .u8)) (Sh.int .i64)))).enc r, [])⟩
abbrev O19 (f : D19) : Prop := EntOK FT XT 19 (en19 f)
abbrev D21 : Type := List Int → Bool → Option (Int × Int)
/-- euphroe/octs.Get -/
abbrev en21 (f : D21) : Ent := ⟨[(Sh.sl (Sh.int .u8)), Sh.bool], ((Sh.tu (Sh.pr (Sh.int .u64) (Sh.int .i64)))).T, fun v => f v.1 v.2.1, fun r => (((Sh.tu (Sh.pr (Sh.int .u64) (Sh.int .i64)))).enc r, [])⟩
abbrev O21 (f : D21) : Prop := EntOK FT XT 21 (en21 f)
abbrev D46 : Type := List (List Int) → Option (List Int)
/-- euphroe/octs.Join -/
abbrev en46 (f : D46) : Ent := ⟨[(Sh.sl (Sh.sl (Sh.int .u8)))], List Int, fun v => f v.1, ownOut .u8⟩
abbrev O46 (f : D46) : Prop := EntOK FT XT 46 (en46 f)
abbrev D75 : Type := Int → Int → Int → Option (Int × Int)
/-- euphroe/roots.Root -/
abbrev en75 (f : D75) : Ent := ⟨[(Sh.int .i64), (Sh.int .i64), (Sh.int .i64)], ((Sh.tu (Sh.pr (Sh.int .u64) (Sh.int .i64)))).T, fun v => f v.1 v.2.1 v.2.2.1, fun r => (((Sh.tu (Sh.pr (Sh.int .u64) (Sh.int .i64)))).enc r, [])⟩
abbrev O75 (f : D75) : Prop := EntOK FT XT 75 (en75 f)
abbrev D100 : Type := Int → Int → Int → Option Bool
/-- euphroe/roots.may -/
abbrev en100 (f : D100) : Ent := ⟨[(Sh.int .i64), (Sh.int .i64), (Sh.int .i64)], (Sh.bool).T, fun v => f v.1 v.2.1 v.2.2.1, fun r => ((Sh.bool).enc r, [])⟩
abbrev O100 (f : D100) : Prop := EntOK FT XT 100 (en100 f)
abbrev D101 : Type := Int → Int → Option Int
/-- euphroe/roots.full -/
abbrev en101 (f : D101) : Ent := ⟨[(Sh.int .i64), (Sh.int .i64)], ((Sh.int .u64)).T, fun v => f v.1 v.2.1, fun r => (((Sh.int .u64)).enc r, [])⟩
abbrev O101 (f : D101) : Prop := EntOK FT XT 101 (en101 f)
abbrev D116 : Type := Int → Int → Int → Option Bool
/-- euphroe/roots.fits -/
abbrev en116 (f : D116) : Ent := ⟨[(Sh.int .u64), (Sh.int .u64), (Sh.int .i64)], (Sh.bool).T, fun v => f v.1 v.2.1 v.2.2.1, fun r => ((Sh.bool).enc r, [])⟩
abbrev O116 (f : D116) : Prop := EntOK FT XT 116 (en116 f)
abbrev D120 : Type := Int → Int → Option (Int × Int)
/-- math/bits.Mul64 -/
abbrev en120 (f : D120) : Ent := ⟨[(Sh.int .u64), (Sh.int .u64)], ((Sh.tu (Sh.pr (Sh.int .u64) (Sh.int .u64)))).T, fun v => f v.1 v.2.1, fun r => (((Sh.tu (Sh.pr (Sh.int .u64) (Sh.int .u64)))).enc r, [])⟩
abbrev O120 (f : D120) : Prop := EntOK FT XT 120 (en120 f)
abbrev D174 : Type := List Int → List Int → Option (List Int)
/-- euphroe/md4.Block -/
abbrev en174 (f : D174) : Ent := ⟨[(Sh.ar .u32), (Sh.ar .u8)], ((Sh.ar .u32)).T, fun v => f v.1 v.2.1, fun r => (((Sh.ar .u32)).enc r, [])⟩
abbrev O174 (f : D174) : Prop := EntOK FT XT 174 (en174 f)
abbrev D175 : Type := List Int → List Int → Option (List Int)
/-- euphroe/euphroeref04.Block -/
abbrev en175 (f : D175) : Ent := ⟨[(Sh.ar .u32), (Sh.ar .u8)], ((Sh.ar .u32)).T, fun v => f v.1 v.2.1, fun r => (((Sh.ar .u32)).enc r, [])⟩
abbrev O175 (f : D175) : Prop := EntOK FT XT 175 (en175 f)
abbrev D176 : Type := Int → Option (List Int)
/-- euphroe/md4.Tail -/
abbrev en176 (f : D176) : Ent := ⟨[(Sh.int .u64)], ((Sh.sl (Sh.int .u8))).T, fun v => f v.1, fun r => (((Sh.sl (Sh.int .u8))).enc r, [])⟩
abbrev O176 (f : D176) : Prop := EntOK FT XT 176 (en176 f)
abbrev D177 : Type := Int → Option (List Int)
/-- euphroe/euphroeref04.Tail -/
abbrev en177 (f : D177) : Ent := ⟨[(Sh.int .u64)], ((Sh.sl (Sh.int .u8))).T, fun v => f v.1, fun r => (((Sh.sl (Sh.int .u8))).enc r, [])⟩
abbrev O177 (f : D177) : Prop := EntOK FT XT 177 (en177 f)
abbrev D178 : Type := Option (List Int)
/-- euphroe/md4.First -/
abbrev en178 (f : D178) : Ent := ⟨[], ((Sh.ar .u32)).T, fun v => f, fun r => (((Sh.ar .u32)).enc r, [])⟩
abbrev O178 (f : D178) : Prop := EntOK FT XT 178 (en178 f)
abbrev D179 : Type := Option (List Int)
/-- euphroe/euphroeref04.First -/
abbrev en179 (f : D179) : Ent := ⟨[], ((Sh.ar .u32)).T, fun v => f, fun r => (((Sh.ar .u32)).enc r, [])⟩
abbrev O179 (f : D179) : Prop := EntOK FT XT 179 (en179 f)
abbrev D181 : Type := List (List Int) → Option (List Int)
/-- euphroe/md4.Of -/
abbrev en181 (f : D181) : Ent := ⟨[(Sh.sl (Sh.sl (Sh.int .u8)))], ((Sh.ar .u8)).T, fun v => f v.1, fun r => (((Sh.ar .u8)).enc r, [])⟩
abbrev O181 (f : D181) : Prop := EntOK FT XT 181 (en181 f)
abbrev D182 : Type := List Int → Option (List Int)
/-- euphroe/euphroeref04.Of -/
abbrev en182 (f : D182) : Ent := ⟨[(Sh.sl (Sh.int .u8))], ((Sh.ar .u8)).T, fun v => f v.1, fun r => (((Sh.ar .u8)).enc r, [])⟩
abbrev O182 (f : D182) : Prop := EntOK FT XT 182 (en182 f)
abbrev D192 : Type := List Int → Option (List Int)
/-- euphroe/md4.words -/
abbrev en192 (f : D192) : Ent := ⟨[(Sh.ar .u8)], ((Sh.ar .u32)).T, fun v => f v.1, fun r => (((Sh.ar .u32)).enc r, [])⟩
abbrev O192 (f : D192) : Prop := EntOK FT XT 192 (en192 f)
abbrev D194 : Type := Int → Int → Int → Int → Option Int
/-- euphroe/md4.mix -/
abbrev en194 (f : D194) : Ent := ⟨[(Sh.int .i64), (Sh.int .u32), (Sh.int .u32), (Sh.int .u32)], ((Sh.int .u32)).T, fun v => f v.1 v.2.1 v.2.2.1 v.2.2.2.1, fun r => (((Sh.int .u32)).enc r, [])⟩
abbrev O194 (f : D194) : Prop := EntOK FT XT 194 (en194 f)
abbrev D195 : Type := Int → Int → Option Int
/-- math/bits.RotateLeft32 -/
abbrev en195 (f : D195) : Ent := ⟨[(Sh.int .u32), (Sh.int .i64)], ((Sh.int .u32)).T, fun v => f v.1 v.2.1, fun r => (((Sh.int .u32)).enc r, [])⟩
abbrev O195 (f : D195) : Prop := EntOK FT XT 195 (en195 f)
abbrev D196 : Type := Int → Option Int
/-- euphroe/euphroeref04.place -/
abbrev en196 (f : D196) : Ent := ⟨[(Sh.int .i64)], ((Sh.int .i64)).T, fun v => f v.1, fun r => (((Sh.int .i64)).enc r, [])⟩
abbrev O196 (f : D196) : Prop := EntOK FT XT 196 (en196 f)
abbrev D197 : Type := Int → Int → Option Int
/-- euphroe/euphroeref04.turn -/
abbrev en197 (f : D197) : Ent := ⟨[(Sh.int .u32), (Sh.int .i64)], ((Sh.int .u32)).T, fun v => f v.1 v.2.1, fun r => (((Sh.int .u32)).enc r, [])⟩
abbrev O197 (f : D197) : Prop := EntOK FT XT 197 (en197 f)
abbrev D198 : Type := Int → Int → Int → Int → Option Int
/-- euphroe/euphroeref04.step -/
abbrev en198 (f : D198) : Ent := ⟨[(Sh.int .i64), (Sh.int .u32), (Sh.int .u32), (Sh.int .u32)], ((Sh.int .u32)).T, fun v => f v.1 v.2.1 v.2.2.1 v.2.2.2.1, fun r => (((Sh.int .u32)).enc r, [])⟩
abbrev O198 (f : D198) : Prop := EntOK FT XT 198 (en198 f)
abbrev D204 : Type := Int → Int → Int → Option Int
/-- euphroe/euphroeref04.two -/
abbrev en204 (f : D204) : Ent := ⟨[(Sh.int .u32), (Sh.int .u32), (Sh.int .u32)], ((Sh.int .u32)).T, fun v => f v.1 v.2.1 v.2.2.1, fun r => (((Sh.int .u32)).enc r, [])⟩
abbrev O204 (f : D204) : Prop := EntOK FT XT 204 (en204 f)
abbrev D364 : Type := List UInt8 → List Int → Option Bool
/-- euphroe/euphroelaw10.NthashOf -/
abbrev en364 (f : D364) : Ent := ⟨[Sh.str, (Sh.ar .u8)], (Sh.bool).T, fun v => f v.1 v.2.1, fun r => ((Sh.bool).enc r, [])⟩
abbrev O364 (f : D364) : Prop := EntOK FT XT 364 (en364 f)
abbrev D369 : Type := Option Bool
/-- euphroe/euphroelaw10.alive -/
abbrev en369 (f : D369) : Ent := ⟨[], (Sh.bool).T, fun v => f, fun r => ((Sh.bool).enc r, [])⟩
abbrev O369 (f : D369) : Prop := EntOK FT XT 369 (en369 f)
abbrev D370 : Type := List UInt8 → Option ((List Int) × Int)
/-- euphroe/nthash.Of -/
abbrev en370 (f : D370) : Ent := ⟨[Sh.str], ((Sh.tu (Sh.pr (Sh.ar .u8) (Sh.int .i64)))).T, fun v => f v.1, fun r => (((Sh.tu (Sh.pr (Sh.ar .u8) (Sh.int .i64)))).enc r, [])⟩
abbrev O370 (f : D370) : Prop := EntOK FT XT 370 (en370 f)
abbrev D371 : Type := List UInt8 → Option ((List Int) × Int)
/-- euphroe/euphroeref10.Of -/
abbrev en371 (f : D371) : Ent := ⟨[Sh.str], ((Sh.tu (Sh.pr (Sh.ar .u8) (Sh.int .i64)))).T, fun v => f v.1, fun r => (((Sh.tu (Sh.pr (Sh.ar .u8) (Sh.int .i64)))).enc r, [])⟩
abbrev O371 (f : D371) : Prop := EntOK FT XT 371 (en371 f)
abbrev D372 : Type := List Int → Option (List Int)
/-- euphroe/nthash.Twice -/
abbrev en372 (f : D372) : Ent := ⟨[(Sh.ar .u8)], ((Sh.ar .u8)).T, fun v => f v.1, fun r => (((Sh.ar .u8)).enc r, [])⟩
abbrev O372 (f : D372) : Prop := EntOK FT XT 372 (en372 f)
abbrev D373 : Type := List Int → Option (List Int)
/-- euphroe/euphroeref10.Twice -/
abbrev en373 (f : D373) : Ent := ⟨[(Sh.ar .u8)], ((Sh.ar .u8)).T, fun v => f v.1, fun r => (((Sh.ar .u8)).enc r, [])⟩
abbrev O373 (f : D373) : Prop := EntOK FT XT 373 (en373 f)
abbrev D387 : Type := List UInt8 → Option ((List Int) × Int)
/-- euphroe/utf16.Lay -/
abbrev en387 (f : D387) : Ent := ⟨[Sh.str], ((Sh.tu (Sh.pr (Sh.sl (Sh.int .u8)) (Sh.int .i64)))).T, fun v => f v.1, fun r => (((Sh.tu (Sh.pr (Sh.sl (Sh.int .u8)) (Sh.int .i64)))).enc r, [])⟩
abbrev O387 (f : D387) : Prop := EntOK FT XT 387 (en387 f)
abbrev D388 : Type := List UInt8 → Option ((List Int) × Int)
/-- euphroe/euphroeref09.Lay -/
abbrev en388 (f : D388) : Ent := ⟨[Sh.str], ((Sh.tu (Sh.pr (Sh.sl (Sh.int .u8)) (Sh.int .i64)))).T, fun v => f v.1, fun r => (((Sh.tu (Sh.pr (Sh.sl (Sh.int .u8)) (Sh.int .i64)))).enc r, [])⟩
abbrev O388 (f : D388) : Prop := EntOK FT XT 388 (en388 f)
abbrev D391 : Type := List UInt8 → Option Int
/-- euphroe/utf16.May -/
abbrev en391 (f : D391) : Ent := ⟨[Sh.str], ((Sh.int .i64)).T, fun v => f v.1, fun r => (((Sh.int .i64)).enc r, [])⟩
abbrev O391 (f : D391) : Prop := EntOK FT XT 391 (en391 f)
abbrev D392 : Type := List UInt8 → Option (List Int)
/-- euphroe/utf16.Units -/
abbrev en392 (f : D392) : Ent := ⟨[Sh.str], ((Sh.sl (Sh.int .u16))).T, fun v => f v.1, fun r => (((Sh.sl (Sh.int .u16))).enc r, [])⟩
abbrev O392 (f : D392) : Prop := EntOK FT XT 392 (en392 f)
abbrev D393 : Type := List UInt8 → Option Int
/-- euphroe/euphroeref09.May -/
abbrev en393 (f : D393) : Ent := ⟨[Sh.str], ((Sh.int .i64)).T, fun v => f v.1, fun r => (((Sh.int .i64)).enc r, [])⟩
abbrev O393 (f : D393) : Prop := EntOK FT XT 393 (en393 f)
abbrev D394 : Type := List UInt8 → Option (List Int)
/-- euphroe/euphroeref09.Units -/
abbrev en394 (f : D394) : Ent := ⟨[Sh.str], ((Sh.sl (Sh.int .u16))).T, fun v => f v.1, fun r => (((Sh.sl (Sh.int .u16))).enc r, [])⟩
abbrev O394 (f : D394) : Prop := EntOK FT XT 394 (en394 f)
abbrev D396 : Type := List UInt8 → Option Bool
/-- unicode/utf8.ValidString -/
abbrev en396 (f : D396) : Ent := ⟨[Sh.str], (Sh.bool).T, fun v => f v.1, fun r => ((Sh.bool).enc r, [])⟩
abbrev O396 (f : D396) : Prop := EntOK FT XT 396 (en396 f)
abbrev D397 : Type := List UInt8 → Option Int
/-- unicode/utf8.RuneCountInString -/
abbrev en397 (f : D397) : Ent := ⟨[Sh.str], ((Sh.int .i64)).T, fun v => f v.1, fun r => (((Sh.int .i64)).enc r, [])⟩
abbrev O397 (f : D397) : Prop := EntOK FT XT 397 (en397 f)
abbrev D398 : Type := List UInt8 → Option ((List Int) × Bool)
/-- euphroe/euphroeref09.Signs -/
abbrev en398 (f : D398) : Ent := ⟨[Sh.str], ((Sh.tu (Sh.pr (Sh.sl (Sh.int .i64)) Sh.bool))).T, fun v => f v.1, fun r => (((Sh.tu (Sh.pr (Sh.sl (Sh.int .i64)) Sh.bool))).enc r, [])⟩
abbrev O398 (f : D398) : Prop := EntOK FT XT 398 (en398 f)
abbrev D401 : Type := List UInt8 → Option Int
/-- unicode/utf8.word[string] -/
abbrev en401 (f : D401) : Ent := ⟨[Sh.str], ((Sh.int .u64)).T, fun v => f v.1, fun r => (((Sh.int .u64)).enc r, [])⟩
abbrev O401 (f : D401) : Prop := EntOK FT XT 401 (en401 f)
abbrev D402 : Type := List UInt8 → Int → Option (Int × Int)
/-- euphroe/euphroeref09.sign -/
abbrev en402 (f : D402) : Ent := ⟨[Sh.str, (Sh.int .i64)], ((Sh.tu (Sh.pr (Sh.int .i64) (Sh.int .i64)))).T, fun v => f v.1 v.2.1, fun r => (((Sh.tu (Sh.pr (Sh.int .i64) (Sh.int .i64)))).enc r, [])⟩
abbrev O402 (f : D402) : Prop := EntOK FT XT 402 (en402 f)
abbrev D403 : Type := Int → Int → Option (Int × Int)
/-- math/bits.Mul32 -/
abbrev en403 (f : D403) : Ent := ⟨[(Sh.int .u32), (Sh.int .u32)], ((Sh.tu (Sh.pr (Sh.int .u32) (Sh.int .u32)))).T, fun v => f v.1 v.2.1, fun r => (((Sh.tu (Sh.pr (Sh.int .u32) (Sh.int .u32)))).enc r, [])⟩
abbrev O403 (f : D403) : Prop := EntOK FT XT 403 (en403 f)
abbrev D404 : Type := List UInt8 → Int → Option (Int × Bool)
/-- euphroe/euphroeref09.more -/
abbrev en404 (f : D404) : Ent := ⟨[Sh.str, (Sh.int .i64)], ((Sh.tu (Sh.pr (Sh.int .i64) Sh.bool))).T, fun v => f v.1 v.2.1, fun r => (((Sh.tu (Sh.pr (Sh.int .i64) Sh.bool))).enc r, [])⟩
abbrev O404 (f : D404) : Prop := EntOK FT XT 404 (en404 f)
abbrev R64v0 : Type := (Nat × Unit) × ((List Int) × Unit)
abbrev D64v0 : Type := Int → Option R64v0
def PR64v0 : Pr := ⟨(.cons .nils (.cons (.int .i64) .nil)), []⟩
def QR64v0 : Pr := ⟨(.cons (.sl 0 1) .nil), [(.ints false .u8)]⟩
/-- slices.Grow[[]byte,byte] -/
abbrev rn64v0 (f : D64v0) : REnt := ⟨PR64v0, QR64v0, R64v0, fun v => f v.1.2.1, fun r => r⟩
abbrev O64v0 (f : D64v0) : Prop := REntOK FT XT 64 (rn64v0 f)
abbrev R48v0 : Type := (Unit × Unit) × ((List Int) × Unit)
abbrev D48v0 : Type := Nat → Nat → List Int → Option R48v0
def PR48v0 : Pr := ⟨(.cons (.slc 0 1) .nil), [(.ints false .u8)]⟩
def QR48v0 : Pr := ⟨(.cons .tup0 .nil), [(.ints false .u8)]⟩
/-- slices.Reverse[[]byte,byte] -/
abbrev rn48v0 (f : D48v0) : REnt := ⟨PR48v0, QR48v0, R48v0, fun v => f v.1.1.1 v.1.1.2 v.2.1, fun r => r⟩
abbrev O48v0 (f : D48v0) : Prop := REntOK FT XT 48 (rn48v0 f)
abbrev R115v0 : Type := (Bool × Unit) × ((List Int) × ((List Int) × Unit))
abbrev D115v0 : Type := Int → List Int → List Int → Option R115v0
def PR115v0 : Pr := ⟨(.cons (.int .i64) (.cons (.ptr 0 0) (.cons (.ptr 1 0) .nil))), [(.ints false .i64), (.ints false .i64)]⟩
def QR115v0 : Pr := ⟨(.cons .bool .nil), [(.ints false .i64), (.ints false .i64)]⟩
/-- euphroe/roots.full$1 -/
abbrev rn115v0 (f : D115v0) : REnt := ⟨PR115v0, QR115v0, R115v0, fun v => f v.1.1 v.2.1 v.2.2.1, fun r => r⟩
abbrev O115v0 (f : D115v0) : Prop := REntOK FT XT 115 (rn115v0 f)
abbrev R114v0 : Type := (Int × Unit) × ((List Int) × ((List Int) × Unit))
abbrev D114v0 : Type := Int → List Int → List Int → Option R114v0
def PR114v0 : Pr := ⟨(.cons (.int .i64) (.cons (.fn 115 (.cons (.ptr 0 0) (.cons (.ptr 1 0) .nil))) .nil)), [(.ints false .i64), (.ints false .i64)]⟩
def QR114v0 : Pr := ⟨(.cons (.int .i64) .nil), [(.ints false .i64), (.ints false .i64)]⟩
/-- sort.Search -/
abbrev rn114v0 (f : D114v0) : REnt := ⟨PR114v0, QR114v0, R114v0, fun v => f v.1.1 v.2.1 v.2.2.1, fun r => r⟩
abbrev O114v0 (f : D114v0) : Prop := REntOK FT XT 114 (rn114v0 f)
abbrev R193v0 : Type := ((Int × (Int × (Int × (Int × (Int × (Int × (Int × (Int × (Int × (Int × (Int × (Int × (Int × (Int × (Int × (Int × (Int × (Int × (Int × (Int × (Int × (Int × (Int × (Int × (Int × (Int × (Int × (Int × (Int × (Int × (Int × (Int × (Int × (Int × (Int × (Int × (Int × (Int × (Int × (Int × (Int × (Int × (Int × (Int × (Int × (Int × (Int × (Int × (Int × (Int × (Int × (Int × (Int × (Int × (Int × (Int × (Int × (Int × (Int × (Int × (Int × (Int × (Int × Unit))))))))))))))))))))))))))))))))))))))))))))))))))))))))))))))) × Unit) × Unit
abbrev D193v0 : Type := Option R193v0
def PR193v0 : Pr := ⟨.nil, []⟩
def QR193v0 : Pr := ⟨(.cons (.vs (.cons (.int .u32) (.cons (.int .i64) (.cons (.int .i64) (.cons (.int .i64) (.cons (.int .i64) (.cons (.int .i64) (.cons (.int .i64) (.cons (.int .i64) (.cons (.int .i64) (.cons (.int .i64) (.cons (.int .i64) (.cons (.int .i64) (.cons (.int .i64) (.cons (.int .i64) (.cons (.int .i64) (.cons (.int .i64) (.cons (.int .i64) (.cons (.int .i64) (.cons (.int .i64) (.cons (.int .i64) (.cons (.int .i64) (.cons (.int .u32) (.cons (.int .i64) (.cons (.int .i64) (.cons (.int .i64) (.cons (.int .i64) (.cons (.int .i64) (.cons (.int .i64) (.cons (.int .i64) (.cons (.int .i64) (.cons (.int .i64) (.cons (.int .i64) (.cons (.int .i64) (.cons (.int .i64) (.cons (.int .i64) (.cons (.int .i64) (.cons (.int .i64) (.cons (.int .i64) (.cons (.int .i64) (.cons (.int .i64) (.cons (.int .i64) (.cons (.int .i64) (.cons (.int .u32) (.cons (.int .i64) (.cons (.int .i64) (.cons (.int .i64) (.cons (.int .i64) (.cons (.int .i64) (.cons (.int .i64) (.cons (.int .i64) (.cons (.int .i64) (.cons (.int .i64) (.cons (.int .i64) (.cons (.int .i64) (.cons (.int .i64) (.cons (.int .i64) (.cons (.int .i64) (.cons (.int .i64) (.cons (.int .i64) (.cons (.int .i64) (.cons (.int .i64) (.cons (.int .i64) (.cons (.int .i64) .nil)))))))))))))))))))))))))))))))))))))))))))))))))))))))))))))))) .nil), []⟩
/-- euphroe/md4.plans -/
abbrev rn193v0 (f : D193v0) : REnt := ⟨PR193v0, QR193v0, R193v0, fun v => f , fun r => r⟩
abbrev O193v0 (f : D193v0) : Prop := REntOK FT XT 193 (rn193v0 f)

/-- slices.Grow[[]byte,byte] -/
def p64v0 (N : Nat) (a0 : Int) : Option R64v0 :=
  bif (decide (a0 < (0 : Int))) then
 none
 else
 bif (decide ((isub .i64 a0 (0 : Int)) > (0 : Int))) then
 bif ((decide ((0 : Int) ≤ (isub .i64 a0 (0 : Int)))) && ((decide (((isub .i64 a0 (0 : Int)) * ((1 : Nat) : Int)) ≤ (1099511627776 : Int))) && (decide ((isub .i64 a0 (0 : Int)) ≤ (1099511627776 : Int))))) then
 bif (decide ((0 : Int) ≤ (((Int.toNat (isub .i64 a0 (0 : Int))) : Nat) : Int))) then
 some ((0, ()), (([] : List Int), ()))
 else none
 else none
 else
 some ((0, ()), (([] : List Int), ()))

def L1_0 (d64v0 : D64v0) (N : Nat) (q0_0 : List (List Int) → Int → Option (List Int)) : Nat → List (List Int) → Int → List (List Int) → Int → Int → Option (List Int)
  | 0, _, _, _, _, _ => none
  | n0 + 1, v1, v2, v3, v4, v5 =>
    bif (decide (v5 < v4)) then
 match geti v3 v5 with
 | none => none
 | some x6 =>
 bif (decide ((iadd .i64 v2 (((List.length x6) : Nat) : Int)) < (0 : Int))) then
 none
 else
 L1_0 d64v0 N q0_0 n0 v1 (iadd .i64 v2 (((List.length x6) : Nat) : Int)) v3 v4 (iadd .i64 v5 (1 : Int))
 else
 q0_0 v1 v2
def L1_1 (d64v0 : D64v0) (N : Nat) (q1_2 : Nat → List Int → Option (List Int)) : Nat → Nat → List (List Int) → Int → Int → List Int → Option (List Int)
  | 0, _, _, _, _, _ => none
  | n1 + 1, v10, v11, v12, v13, v14 =>
    bif (decide (v13 < v12)) then
 match geti v11 v13 with
 | none => none
 | some x15 =>
 bif (((List.length v14) == (v10 * 1)) && ((decide (((v10 + (List.length x15)) * 1) ≤ 1099511627776)) && (decide ((v10 + (List.length x15)) ≤ 1099511627776)))) then
 L1_1 d64v0 N q1_2 n1 (v10 + (List.length x15)) v11 v12 (iadd .i64 v13 (1 : Int)) (v14 ++ x15)
 else none
 else
 q1_2 v10 v14
/-- slices.Concat[[]byte,byte] -/
def p1 (d64v0 : D64v0) (N : Nat) (a0 : List (List Int)) : Option (List Int) :=
  L1_0 d64v0 N (fun (y7 : List (List Int)) (y8 : Int) =>
 match d64v0 y8 with
 | none => none
 | some r9 =>
 L1_1 d64v0 N (fun (y16 : Nat) (y17 : List Int) =>
 bif (y16 == (List.length y17)) then
 some y17
 else none) N r9.1.1 y7 (((List.length y7) : Nat) : Int) (0 : Int) r9.2.1) N a0 (0 : Int) a0 (((List.length a0) : Nat) : Int) (0 : Int)

def L48v0_0 (N : Nat) (q0_0 : List Int → Option R48v0) : Nat → Nat → Nat → Int → Int → List Int → Option R48v0
  | 0, _, _, _, _, _ => none
  | n0 + 1, v1, v2, v3, v4, v5 =>
    bif (decide (v3 < v4)) then
 bif ((decide ((0 : Int) ≤ v4)) && (decide (v4 < ((v1 : Nat) : Int)))) then
 match (v5)[(0 + ((Int.toNat v4) * 1))]? with
 | none => none
 | some x6 =>
 bif ((decide ((0 : Int) ≤ v3)) && (decide (v3 < ((v1 : Nat) : Int)))) then
 match (v5)[(0 + ((Int.toNat v3) * 1))]? with
 | none => none
 | some x7 =>
 bif ((decide ((0 : Int) ≤ v3)) && (decide (v3 < ((v1 : Nat) : Int)))) then
 bif (decide ((0 + ((Int.toNat v3) * 1)) < (List.length v5))) then
 bif ((decide ((0 : Int) ≤ v4)) && (decide (v4 < ((v1 : Nat) : Int)))) then
 bif (decide ((0 + ((Int.toNat v4) * 1)) < (List.length (List.set v5 (0 + ((Int.toNat v3) * 1)) x6)))) then
 L48v0_0 N q0_0 n0 v1 v2 (iadd .i64 v3 (1 : Int)) (isub .i64 v4 (1 : Int)) (List.set (List.set v5 (0 + ((Int.toNat v3) * 1)) x6) (0 + ((Int.toNat v4) * 1)) x7)
 else none
 else none
 else none
 else none
 else none
 else none
 else
 q0_0 v5
/-- slices.Reverse[[]byte,byte] -/
def p48v0 (N : Nat) (a0 : Nat) (a1 : Nat) (a2 : List Int) : Option R48v0 :=
  L48v0_0 N (fun (y8 : List Int) =>
 some (((), ()), (y8, ()))) N a0 a1 (0 : Int) (isub .i64 ((a0 : Nat) : Int) (1 : Int)) a2

def L19_0 (d48v0 : D48v0) (N : Nat) (q0_0 : Bool → Nat → Nat → List Int → Option ((List Int) × Int)) : Nat → Int → Bool → Nat → Nat → Int → Int → List Int → Option ((List Int) × Int)
  | 0, _, _, _, _, _, _, _ => none
  | n0 + 1, v1, v2, v3, v4, v5, v6, v7 =>
    bif (decide (v6 < v5)) then
 bif (decide ((imul .i64 (8 : Int) v6) < (0 : Int))) then
 none
 else
 bif ((decide ((0 : Int) ≤ v6)) && (decide (v6 < ((v3 : Nat) : Int)))) then
 bif (decide ((0 + ((Int.toNat v6) * 1)) < (List.length v7))) then
 L19_0 d48v0 N q0_0 n0 v1 v2 v3 v4 v5 (iadd .i64 v6 (1 : Int)) (List.set v7 (0 + ((Int.toNat v6) * 1)) (IntKind.wrap .u8 (ishr .u64 v1 (imul .i64 (8 : Int) v6))))
 else none
 else none
 else
 q0_0 v2 v3 v4 v7
/-- euphroe/octs.Put -/
def p19 (d48v0 : D48v0) (N : Nat) (a0 : Int) (a1 : Int) (a2 : Bool) : Option ((List Int) × Int) :=
  bif (decide (a1 < (1 : Int))) then
 some (([] : List Int), (1 : Int))
 else
 bif (decide (a1 > (8 : Int))) then
 some (([] : List Int), (1 : Int))
 else
 bif ((decide ((0 : Int) ≤ a1)) && ((decide (a1 ≤ a1)) && ((decide ((a1 * ((1 : Nat) : Int)) ≤ (1099511627776 : Int))) && (decide (a1 ≤ (1099511627776 : Int)))))) then
 L19_0 d48v0 N (fun (y8 : Bool) (y9 : Nat) (y10 : Nat) (y11 : List Int) =>
 bif (!y8) then
 match d48v0 y9 y10 y11 with
 | none => none
 | some r12 =>
 bif (decide ((0 + (y9 * 1)) ≤ (List.length r12.2.1))) then
 some ((List.take y9 (List.drop 0 r12.2.1)), (0 : Int))
 else none
 else
 bif (decide ((0 + (y9 * 1)) ≤ (List.length y11))) then
 some ((List.take y9 (List.drop 0 y11)), (0 : Int))
 else none) N a0 a2 (Int.toNat a1) (Int.toNat a1) (((Int.toNat a1) : Nat) : Int) (0 : Int) (List.replicate (Int.toNat a1) (0 : Int))
 else none

def L21_0 (N : Nat) (q0_0 : Int → Option (Int × Int)) : Nat → Bool → Int → List Int → Int → Int → Option (Int × Int)
  | 0, _, _, _, _, _ => none
  | n0 + 1, v1, v2, v3, v4, v5 =>
    bif (decide (v5 < v4)) then
 match geti v3 v5 with
 | none => none
 | some x6 =>
 bif v1 then
 bif (decide ((imul .i64 (8 : Int) v5) < (0 : Int))) then
 none
 else
 L21_0 N q0_0 n0 v1 (ior .u64 v2 (ishl .u64 (IntKind.wrap .u64 x6) (imul .i64 (8 : Int) v5))) v3 v4 (iadd .i64 v5 (1 : Int))
 else
 L21_0 N q0_0 n0 v1 (ior .u64 (ishl .u64 v2 (8 : Int)) (IntKind.wrap .u64 x6)) v3 v4 (iadd .i64 v5 (1 : Int))
 else
 q0_0 v2
/-- euphroe/octs.Get -/
def p21 (N : Nat) (a0 : List Int) (a1 : Bool) : Option (Int × Int) :=
  bif (decide ((((List.length a0) : Nat) : Int) < (1 : Int))) then
 some ((0 : Int), (1 : Int))
 else
 bif (decide ((((List.length a0) : Nat) : Int) > (8 : Int))) then
 some ((0 : Int), (1 : Int))
 else
 L21_0 N (fun (y7 : Int) =>
 some (y7, (0 : Int))) N a1 (0 : Int) a0 (((List.length a0) : Nat) : Int) (0 : Int)

/-- euphroe/octs.Join -/
def p46 (c1 : D1) (N : Nat) (a0 : List (List Int)) : Option (List Int) :=
  match c1 a0 with
 | none => none
 | some r1 =>
 bif ((List.length r1) == (List.length r1)) then
 some r1
 else none

/-- euphroe/roots.may -/
def p100 (N : Nat) (a0 : Int) (a1 : Int) (a2 : Int) : Option Bool :=
  bif (decide (a0 ≥ (0 : Int))) then
 bif (decide (a0 ≤ (1000 : Int))) then
 bif (a1 == (2 : Int)) then
 bif (decide (a2 ≥ (0 : Int))) then
 some (decide (a2 ≤ (32 : Int)))
 else
 some false
 else
 bif (a1 == (3 : Int)) then
 bif (decide (a2 ≥ (0 : Int))) then
 some (decide (a2 ≤ (32 : Int)))
 else
 some false
 else
 some false
 else
 some false
 else
 some false

/-- math/bits.Mul64 -/
def p120 (N : Nat) (a0 : Int) (a1 : Int) : Option (Int × Int) :=
  some ((iadd .u64 (iadd .u64 (imul .u64 (ishr .u64 a0 (32 : Int)) (ishr .u64 a1 (32 : Int))) (ishr .u64 (iadd .u64 (imul .u64 (ishr .u64 a0 (32 : Int)) (iand .u64 a1 (4294967295 : Int))) (ishr .u64 (imul .u64 (iand .u64 a0 (4294967295 : Int)) (iand .u64 a1 (4294967295 : Int))) (32 : Int))) (32 : Int))) (ishr .u64 (iadd .u64 (iand .u64 (iadd .u64 (imul .u64 (ishr .u64 a0 (32 : Int)) (iand .u64 a1 (4294967295 : Int))) (ishr .u64 (imul .u64 (iand .u64 a0 (4294967295 : Int)) (iand .u64 a1 (4294967295 : Int))) (32 : Int))) (4294967295 : Int)) (imul .u64 (iand .u64 a0 (4294967295 : Int)) (ishr .u64 a1 (32 : Int)))) (32 : Int))), (imul .u64 a0 a1))

/-- euphroe/roots.fits -/
def p116 (c120 : D120) (N : Nat) (a0 : Int) (a1 : Int) (a2 : Int) : Option Bool :=
  match c120 a0 a0 with
 | none => none
 | some r1 =>
 bif (a2 == (2 : Int)) then
 bif (decide (r1.1 < a1)) then
 some true
 else
 bif (r1.1 == a1) then
 some (r1.2 == (0 : Int))
 else
 some false
 else
 match c120 r1.2 a0 with
 | none => none
 | some r2 =>
 bif (decide ((iadd .u64 (imul .u64 r1.1 a0) r2.1) < (ishl .u64 a1 (32 : Int)))) then
 some true
 else
 bif ((iadd .u64 (imul .u64 r1.1 a0) r2.1) == (ishl .u64 a1 (32 : Int))) then
 some (r2.2 == (0 : Int))
 else
 some false

/-- euphroe/roots.full$1 -/
def p115v0 (c116 : D116) (N : Nat) (a0 : Int) (a1 : List Int) (a2 : List Int) : Option R115v0 :=
  match (a1)[0]? with
 | none => none
 | some x1 =>
 match (a2)[0]? with
 | none => none
 | some x2 =>
 match c116 (iadd .u64 (IntKind.wrap .u64 a0) (1 : Int)) (IntKind.wrap .u64 x1) x2 with
 | none => none
 | some r3 =>
 some (((!r3), ()), (a1, (a2, ())))

def L114v0_0 (d115v0 : D115v0) (N : Nat) (q0_0 : Int → List Int → List Int → Option R114v0) : Nat → Int → Int → List Int → List Int → Option R114v0
  | 0, _, _, _, _ => none
  | n0 + 1, v1, v2, v3, v4 =>
    bif (decide (v1 < v2)) then
 match d115v0 (IntKind.wrap .i64 (ishr .u64 (IntKind.wrap .u64 (iadd .i64 v1 v2)) (1 : Int))) v3 v4 with
 | none => none
 | some r5 =>
 bif (!r5.1.1) then
 L114v0_0 d115v0 N q0_0 n0 (iadd .i64 (IntKind.wrap .i64 (ishr .u64 (IntKind.wrap .u64 (iadd .i64 v1 v2)) (1 : Int))) (1 : Int)) v2 r5.2.1 r5.2.2.1
 else
 L114v0_0 d115v0 N q0_0 n0 v1 (IntKind.wrap .i64 (ishr .u64 (IntKind.wrap .u64 (iadd .i64 v1 v2)) (1 : Int))) r5.2.1 r5.2.2.1
 else
 q0_0 v1 v3 v4
/-- sort.Search -/
def p114v0 (d115v0 : D115v0) (N : Nat) (a0 : Int) (a1 : List Int) (a2 : List Int) : Option R114v0 :=
  L114v0_0 d115v0 N (fun (y6 : Int) (y7 : List Int) (y8 : List Int) =>
 some ((y6, ()), (y7, (y8, ())))) N (0 : Int) a0 a1 a2

/-- euphroe/roots.full -/
def p101 (d114v0 : D114v0) (N : Nat) (a0 : Int) (a1 : Int) : Option Int :=
  match d114v0 (274877906944 : Int) ([a0] : List Int) ([a1] : List Int) with
 | none => none
 | some r1 =>
 some (IntKind.wrap .u64 r1.1.1)

/-- euphroe/roots.Root -/
def p75 (c100 : D100) (c101 : D101) (N : Nat) (a0 : Int) (a1 : Int) (a2 : Int) : Option (Int × Int) :=
  match c100 a0 a1 a2 with
 | none => none
 | some r1 =>
 bif (!r1) then
 some ((0 : Int), (1 : Int))
 else
 match c101 a0 a1 with
 | none => none
 | some r2 =>
 bif (decide ((isub .i64 (32 : Int) a2) < (0 : Int))) then
 none
 else
 some ((ishr .u64 r2 (isub .i64 (32 : Int) a2)), (0 : Int))

def L192_0 (c21 : D21) (N : Nat) (q0_0 : List Int → List Int → Option (List Int)) : Nat → Int → List Int → List Int → List Int → Option (List Int)
  | 0, _, _, _, _ => none
  | n0 + 1, v1, v2, v3, v4 =>
    bif (decide (v1 < (16 : Int))) then
 bif (decide (64 ≤ (List.length v2))) then
 bif ((decide ((0 : Int) ≤ (iadd .i64 (imul .i64 (4 : Int) v1) (4 : Int)))) && (decide ((iadd .i64 (imul .i64 (4 : Int) v1) (4 : Int)) ≤ (64 : Int)))) then
 bif ((decide ((0 : Int) ≤ (imul .i64 (4 : Int) v1))) && (decide ((imul .i64 (4 : Int) v1) ≤ (((Int.toNat (iadd .i64 (imul .i64 (4 : Int) v1) (4 : Int))) : Nat) : Int)))) then
 bif (decide (((0 + ((Int.toNat (imul .i64 (4 : Int) v1)) * 1)) + (((Int.toNat (iadd .i64 (imul .i64 (4 : Int) v1) (4 : Int))) - (Int.toNat (imul .i64 (4 : Int) v1))) * 1)) ≤ (List.length v2))) then
 match c21 (List.take ((Int.toNat (iadd .i64 (imul .i64 (4 : Int) v1) (4 : Int))) - (Int.toNat (imul .i64 (4 : Int) v1))) (List.drop (0 + ((Int.toNat (imul .i64 (4 : Int) v1)) * 1)) v2)) true with
 | none => none
 | some r5 =>
 bif ((decide ((0 : Int) ≤ v1)) && (decide (v1 < (16 : Int)))) then
 bif (decide ((0 + ((Int.toNat v1) * 1)) < (List.length v4))) then
 L192_0 c21 N q0_0 n0 (iadd .i64 v1 (1 : Int)) v2 v3 (List.set v4 (0 + ((Int.toNat v1) * 1)) (IntKind.wrap .u32 r5.1))
 else none
 else none
 else none
 else none
 else none
 else none
 else
 q0_0 v3 v4
/-- euphroe/md4.words -/
def p192 (c21 : D21) (N : Nat) (a0 : List Int) : Option (List Int) :=
  L192_0 c21 N (fun (y6 : List Int) (y7 : List Int) =>
 bif (decide (16 ≤ (List.length y7))) then
 bif ((List.length (List.take 16 (List.drop 0 y7))) == 16) then
 bif (decide ((0 + (List.length (List.take 16 (List.drop 0 y7)))) ≤ (List.length y6))) then
 bif (decide (16 ≤ (List.length (((List.take 0 y6) ++ (List.take 16 (List.drop 0 y7))) ++ (List.drop (0 + (List.length (List.take 16 (List.drop 0 y7)))) y6))))) then
 some (List.take 16 (List.drop 0 (((List.take 0 y6) ++ (List.take 16 (List.drop 0 y7))) ++ (List.drop (0 + (List.length (List.take 16 (List.drop 0 y7)))) y6))))
 else none
 else none
 else none
 else none) N (0 : Int) a0 ([(0 : Int), 0, 0, 0, 0, 0, 0, 0, 0, 0, 0, 0, 0, 0, 0, 0] : List Int) ([(0 : Int), 0, 0, 0, 0, 0, 0, 0, 0, 0, 0, 0, 0, 0, 0, 0] : List Int)

/-- euphroe/md4.plans -/
def p193v0 (c75 : D75) (N : Nat)  : Option R193v0 :=
  match c75 (2 : Int) (2 : Int) (30 : Int) with
 | none => none
 | some r1 =>
 match c75 (3 : Int) (2 : Int) (30 : Int) with
 | none => none
 | some r2 =>
 some ((((0 : Int), ((3 : Int), ((7 : Int), ((11 : Int), ((19 : Int), ((0 : Int), ((1 : Int), ((2 : Int), ((3 : Int), ((4 : Int), ((5 : Int), ((6 : Int), ((7 : Int), ((8 : Int), ((9 : Int), ((10 : Int), ((11 : Int), ((12 : Int), ((13 : Int), ((14 : Int), ((15 : Int), ((IntKind.wrap .u32 r1.1), ((3 : Int), ((5 : Int), ((9 : Int), ((13 : Int), ((0 : Int), ((4 : Int), ((8 : Int), ((12 : Int), ((1 : Int), ((5 : Int), ((9 : Int), ((13 : Int), ((2 : Int), ((6 : Int), ((10 : Int), ((14 : Int), ((3 : Int), ((7 : Int), ((11 : Int), ((15 : Int), ((IntKind.wrap .u32 r2.1), ((3 : Int), ((9 : Int), ((11 : Int), ((15 : Int), ((0 : Int), ((8 : Int), ((4 : Int), ((12 : Int), ((2 : Int), ((10 : Int), ((6 : Int), ((14 : Int), ((1 : Int), ((9 : Int), ((5 : Int), ((13 : Int), ((3 : Int), ((11 : Int), ((7 : Int), ((15 : Int), ()))))))))))))))))))))))))))))))))))))))))))))))))))))))))))))))), ()), ())

/-- euphroe/md4.mix -/
def p194 (N : Nat) (a0 : Int) (a1 : Int) (a2 : Int) (a3 : Int) : Option Int :=
  bif (a0 == (0 : Int)) then
 some (ixor .u32 a3 (iand .u32 a1 (ixor .u32 a2 a3)))
 else
 bif (a0 == (1 : Int)) then
 some (ior .u32 (iand .u32 a1 a2) (iand .u32 a3 (ior .u32 a1 a2)))
 else
 some (ixor .u32 (ixor .u32 a1 a2) a3)

/-- math/bits.RotateLeft32 -/
def p195 (N : Nat) (a0 : Int) (a1 : Int) : Option Int :=
  bif (decide ((iand .u64 (IntKind.wrap .u64 a1) (31 : Int)) < (0 : Int))) then
 none
 else
 bif (decide ((isub .u64 (32 : Int) (iand .u64 (IntKind.wrap .u64 a1) (31 : Int))) < (0 : Int))) then
 none
 else
 some (ior .u32 (ishl .u32 a0 (iand .u64 (IntKind.wrap .u64 a1) (31 : Int))) (ishr .u32 a0 (isub .u64 (32 : Int) (iand .u64 (IntKind.wrap .u64 a1) (31 : Int)))))

def L174_1 (c192 : D192) (d193v0 : D193v0) (c194 : D194) (c195 : D195) (N : Nat) (q1_2 : Int → Int → Int → Int → Int → Int → Int → Int → Int → Int → Int → Int → Int → Int → Int → Int → Int → Int → Int → Int → Int → Int → Int → Int → Int → Int → Int → Int → Int → Int → Int → Int → Int → Int → Int → Int → Int → Int → Int → Int → Int → Int → Int → Int → Int → Int → Int → Int → Int → Int → Int → Int → Int → Int → Int → Int → Int → Int → Int → Int → Int → Int → Int → Int → List Int → List Int → List Int → List Int → Option (List Int)) : Nat → Int → Int → Int → Int → Int → Int → Int → Int → Int → Int → Int → Int → Int → Int → Int → Int → Int → Int → Int → Int → Int → Int → Int → Int → Int → Int → Int → Int → Int → Int → Int → Int → Int → Int → Int → Int → Int → Int → Int → Int → Int → Int → Int → Int → Int → Int → Int → Int → Int → Int → Int → Int → Int → Int → Int → Int → Int → Int → Int → Int → Int → Int → Int → Int → Int → List Int → Int → List Int → List Int → List Int → List Int → Int → Int → Int → Int → Int → Int → Int → Int → Int → Int → Int → Int → Int → Int → Int → Int → Int → Int → Int → Int → Int → Option (List Int)
  | 0, _, _, _, _, _, _, _, _, _, _, _, _, _, _, _, _, _, _, _, _, _, _, _, _, _, _, _, _, _, _, _, _, _, _, _, _, _, _, _, _, _, _, _, _, _, _, _, _, _, _, _, _, _, _, _, _, _, _, _, _, _, _, _, _, _, _, _, _, _, _, _, _, _, _, _, _, _, _, _, _, _, _, _, _, _, _, _, _, _, _, _, _ => none
  | n1 + 1, v71, v72, v73, v74, v75, v76, v77, v78, v79, v80, v81, v82, v83, v84, v85, v86, v87, v88, v89, v90, v91, v92, v93, v94, v95, v96, v97, v98, v99, v100, v101, v102, v103, v104, v105, v106, v107, v108, v109, v110, v111, v112, v113, v114, v115, v116, v117, v118, v119, v120, v121, v122, v123, v124, v125, v126, v127, v128, v129, v130, v131, v132, v133, v134, v135, v136, v137, v138, v139, v140, v141, v142, v143, v144, v145, v146, v147, v148, v149, v150, v151, v152, v153, v154, v155, v156, v157, v158, v159, v160, v161, v162 =>
    bif (decide (v137 < (16 : Int))) then
 bif ((decide ((0 : Int) ≤ v137)) && (decide (v137 < (16 : Int)))) then
 match (v136)[((Int.toNat v137) * 1)]? with
 | none => none
 | some x163 =>
 match (v141)[0]? with
 | none => none
 | some x164 =>
 match (v141)[1]? with
 | none => none
 | some x165 =>
 match (v141)[2]? with
 | none => none
 | some x166 =>
 match (v141)[3]? with
 | none => none
 | some x167 =>
 match c194 v71 x165 x166 x167 with
 | none => none
 | some r168 =>
 bif ((decide ((0 : Int) ≤ x163)) && (decide (x163 < (16 : Int)))) then
 match (v140)[(0 + ((Int.toNat x163) * 1))]? with
 | none => none
 | some x169 =>
 match (v141)[3]? with
 | none => none
 | some x170 =>
 bif ((decide ((0 : Int) ≤ (irem v137 (4 : Int)))) && (decide ((irem v137 (4 : Int)) < (4 : Int)))) then
 bif (Nat.beq (Int.toNat (irem v137 (4 : Int))) 0) then
 match c195 (iadd .u32 (iadd .u32 (iadd .u32 x164 r168) x169) v142) v143 with
 | none => none
 | some r171 =>
 match (v141)[1]? with
 | none => none
 | some x172 =>
 match (v141)[2]? with
 | none => none
 | some x173 =>
 bif (decide (4 ≤ (List.length v141))) then
 L174_1 c192 d193v0 c194 c195 N q1_2 n1 v71 v72 v73 v74 v75 v76 v77 v78 v79 v80 v81 v82 v83 v84 v85 v86 v87 v88 v89 v90 v91 v92 v93 v94 v95 v96 v97 v98 v99 v100 v101 v102 v103 v104 v105 v106 v107 v108 v109 v110 v111 v112 v113 v114 v115 v116 v117 v118 v119 v120 v121 v122 v123 v124 v125 v126 v127 v128 v129 v130 v131 v132 v133 v134 v135 v136 (iadd .i64 v137 (1 : Int)) v138 v139 v140 (((List.take 0 v141) ++ [x170, r171, x172, x173]) ++ (List.drop 4 v141)) v142 v143 v144 v145 v146 v147 v148 v149 v150 v151 v152 v153 v154 v155 v156 v157 v158 v159 v160 v161 v162
 else none
 else
 bif (Nat.beq (Int.toNat (irem v137 (4 : Int))) 1) then
 match c195 (iadd .u32 (iadd .u32 (iadd .u32 x164 r168) x169) v142) v144 with
 | none => none
 | some r174 =>
 match (v141)[1]? with
 | none => none
 | some x175 =>
 match (v141)[2]? with
 | none => none
 | some x176 =>
 bif (decide (4 ≤ (List.length v141))) then
 L174_1 c192 d193v0 c194 c195 N q1_2 n1 v71 v72 v73 v74 v75 v76 v77 v78 v79 v80 v81 v82 v83 v84 v85 v86 v87 v88 v89 v90 v91 v92 v93 v94 v95 v96 v97 v98 v99 v100 v101 v102 v103 v104 v105 v106 v107 v108 v109 v110 v111 v112 v113 v114 v115 v116 v117 v118 v119 v120 v121 v122 v123 v124 v125 v126 v127 v128 v129 v130 v131 v132 v133 v134 v135 v136 (iadd .i64 v137 (1 : Int)) v138 v139 v140 (((List.take 0 v141) ++ [x170, r174, x175, x176]) ++ (List.drop 4 v141)) v142 v143 v144 v145 v146 v147 v148 v149 v150 v151 v152 v153 v154 v155 v156 v157 v158 v159 v160 v161 v162
 else none
 else
 bif (Nat.beq (Int.toNat (irem v137 (4 : Int))) 2) then
 match c195 (iadd .u32 (iadd .u32 (iadd .u32 x164 r168) x169) v142) v145 with
 | none => none
 | some r177 =>
 match (v141)[1]? with
 | none => none
 | some x178 =>
 match (v141)[2]? with
 | none => none
 | some x179 =>
 bif (decide (4 ≤ (List.length v141))) then
 L174_1 c192 d193v0 c194 c195 N q1_2 n1 v71 v72 v73 v74 v75 v76 v77 v78 v79 v80 v81 v82 v83 v84 v85 v86 v87 v88 v89 v90 v91 v92 v93 v94 v95 v96 v97 v98 v99 v100 v101 v102 v103 v104 v105 v106 v107 v108 v109 v110 v111 v112 v113 v114 v115 v116 v117 v118 v119 v120 v121 v122 v123 v124 v125 v126 v127 v128 v129 v130 v131 v132 v133 v134 v135 v136 (iadd .i64 v137 (1 : Int)) v138 v139 v140 (((List.take 0 v141) ++ [x170, r177, x178, x179]) ++ (List.drop 4 v141)) v142 v143 v144 v145 v146 v147 v148 v149 v150 v151 v152 v153 v154 v155 v156 v157 v158 v159 v160 v161 v162
 else none
 else
 bif (Nat.beq (Int.toNat (irem v137 (4 : Int))) 3) then
 match c195 (iadd .u32 (iadd .u32 (iadd .u32 x164 r168) x169) v142) v146 with
 | none => none
 | some r180 =>
 match (v141)[1]? with
 | none => none
 | some x181 =>
 match (v141)[2]? with
 | none => none
 | some x182 =>
 bif (decide (4 ≤ (List.length v141))) then
 L174_1 c192 d193v0 c194 c195 N q1_2 n1 v71 v72 v73 v74 v75 v76 v77 v78 v79 v80 v81 v82 v83 v84 v85 v86 v87 v88 v89 v90 v91 v92 v93 v94 v95 v96 v97 v98 v99 v100 v101 v102 v103 v104 v105 v106 v107 v108 v109 v110 v111 v112 v113 v114 v115 v116 v117 v118 v119 v120 v121 v122 v123 v124 v125 v126 v127 v128 v129 v130 v131 v132 v133 v134 v135 v136 (iadd .i64 v137 (1 : Int)) v138 v139 v140 (((List.take 0 v141) ++ [x170, r180, x181, x182]) ++ (List.drop 4 v141)) v142 v143 v144 v145 v146 v147 v148 v149 v150 v151 v152 v153 v154 v155 v156 v157 v158 v159 v160 v161 v162
 else none
 else none
 else none
 else none
 else none
 else
 q1_2 v72 v73 v74 v75 v76 v77 v78 v79 v80 v81 v82 v83 v84 v85 v86 v87 v88 v89 v90 v91 v92 v93 v94 v95 v96 v97 v98 v99 v100 v101 v102 v103 v104 v105 v106 v107 v108 v109 v110 v111 v112 v113 v114 v115 v116 v117 v118 v119 v120 v121 v122 v123 v124 v125 v126 v127 v128 v129 v130 v131 v132 v133 v134 v135 v138 v139 v140 v141
def L174_0 (c192 : D192) (d193v0 : D193v0) (c194 : D194) (c195 : D195) (N : Nat) (q0_0 : List Int → List Int → List Int → Option (List Int)) : Nat → Int → Int → Int → Int → Int → Int → Int → Int → Int → Int → Int → Int → Int → Int → Int → Int → Int → Int → Int → Int → Int → Int → Int → Int → Int → Int → Int → Int → Int → Int → Int → Int → Int → Int → Int → Int → Int → Int → Int → Int → Int → Int → Int → Int → Int → Int → Int → Int → Int → Int → Int → Int → Int → Int → Int → Int → Int → Int → Int → Int → Int → Int → Int → Int → List Int → List Int → List Int → List Int → Option (List Int)
  | 0, _, _, _, _, _, _, _, _, _, _, _, _, _, _, _, _, _, _, _, _, _, _, _, _, _, _, _, _, _, _, _, _, _, _, _, _, _, _, _, _, _, _, _, _, _, _, _, _, _, _, _, _, _, _, _, _, _, _, _, _, _, _, _, _, _, _, _, _ => none
  | n0 + 1, v3, v4, v5, v6, v7, v8, v9, v10, v11, v12, v13, v14, v15, v16, v17, v18, v19, v20, v21, v22, v23, v24, v25, v26, v27, v28, v29, v30, v31, v32, v33, v34, v35, v36, v37, v38, v39, v40, v41, v42, v43, v44, v45, v46, v47, v48, v49, v50, v51, v52, v53, v54, v55, v56, v57, v58, v59, v60, v61, v62, v63, v64, v65, v66, v67, v68, v69, v70 =>
    let KK0 := fun (z0 : Int) (z1 : Int) (z2 : Int) (z3 : Int) (z4 : Int) (z5 : Int) (z6 : Int) (z7 : Int) (z8 : Int) (z9 : Int) (z10 : Int) (z11 : Int) (z12 : Int) (z13 : Int) (z14 : Int) (z15 : Int) (z16 : Int) (z17 : Int) (z18 : Int) (z19 : Int) (z20 : Int) (z21 : Int) (z22 : Int) (z23 : Int) (z24 : Int) (z25 : Int) (z26 : Int) (z27 : Int) (z28 : Int) (z29 : Int) (z30 : Int) (z31 : Int) (z32 : Int) (z33 : Int) (z34 : Int) (z35 : Int) (z36 : Int) (z37 : Int) (z38 : Int) (z39 : Int) (z40 : Int) (z41 : Int) (z42 : Int) (z43 : Int) (z44 : Int) (z45 : Int) (z46 : Int) (z47 : Int) (z48 : Int) (z49 : Int) (z50 : Int) (z51 : Int) (z52 : Int) (z53 : Int) (z54 : Int) (z55 : Int) (z56 : Int) (z57 : Int) (z58 : Int) (z59 : Int) (z60 : Int) (z61 : Int) (z62 : Int) (z63 : Int) (z64 : List Int) (z65 : List Int) (z66 : List Int) (z67 : List Int) =>
 L174_0 c192 d193v0 c194 c195 N q0_0 n0 z0 z1 z2 z3 z4 z5 z6 z7 z8 z9 z10 z11 z12 z13 z14 z15 z16 z17 z18 z19 z20 z21 z22 z23 z24 z25 z26 z27 z28 z29 z30 z31 z32 z33 z34 z35 z36 z37 z38 z39 z40 z41 z42 z43 z44 z45 z46 z47 z48 z49 z50 z51 z52 z53 z54 z55 z56 z57 z58 z59 z60 z61 z62 (iadd .i64 z63 (1 : Int)) z64 z65 z66 z67
    bif (decide (v66 < (3 : Int))) then
 bif ((decide ((0 : Int) ≤ v66)) && (decide (v66 < (3 : Int)))) then
 bif (Nat.beq (Int.toNat v66) 0) then
 L174_1 c192 d193v0 c194 c195 N KK0 N v66 v3 v4 v5 v6 v7 v8 v9 v10 v11 v12 v13 v14 v15 v16 v17 v18 v19 v20 v21 v22 v23 v24 v25 v26 v27 v28 v29 v30 v31 v32 v33 v34 v35 v36 v37 v38 v39 v40 v41 v42 v43 v44 v45 v46 v47 v48 v49 v50 v51 v52 v53 v54 v55 v56 v57 v58 v59 v60 v61 v62 v63 v64 v65 v66 ([v8, v9, v10, v11, v12, v13, v14, v15, v16, v17, v18, v19, v20, v21, v22, v23] : List Int) (0 : Int) v67 v68 v69 v70 v3 v4 v5 v6 v7 v8 v9 v10 v11 v12 v13 v14 v15 v16 v17 v18 v19 v20 v21 v22 v23
 else
 bif (Nat.beq (Int.toNat v66) 1) then
 L174_1 c192 d193v0 c194 c195 N KK0 N v66 v3 v4 v5 v6 v7 v8 v9 v10 v11 v12 v13 v14 v15 v16 v17 v18 v19 v20 v21 v22 v23 v24 v25 v26 v27 v28 v29 v30 v31 v32 v33 v34 v35 v36 v37 v38 v39 v40 v41 v42 v43 v44 v45 v46 v47 v48 v49 v50 v51 v52 v53 v54 v55 v56 v57 v58 v59 v60 v61 v62 v63 v64 v65 v66 ([v29, v30, v31, v32, v33, v34, v35, v36, v37, v38, v39, v40, v41, v42, v43, v44] : List Int) (0 : Int) v67 v68 v69 v70 v24 v25 v26 v27 v28 v29 v30 v31 v32 v33 v34 v35 v36 v37 v38 v39 v40 v41 v42 v43 v44
 else
 bif (Nat.beq (Int.toNat v66) 2) then
 L174_1 c192 d193v0 c194 c195 N KK0 N v66 v3 v4 v5 v6 v7 v8 v9 v10 v11 v12 v13 v14 v15 v16 v17 v18 v19 v20 v21 v22 v23 v24 v25 v26 v27 v28 v29 v30 v31 v32 v33 v34 v35 v36 v37 v38 v39 v40 v41 v42 v43 v44 v45 v46 v47 v48 v49 v50 v51 v52 v53 v54 v55 v56 v57 v58 v59 v60 v61 v62 v63 v64 v65 v66 ([v50, v51, v52, v53, v54, v55, v56, v57, v58, v59, v60, v61, v62, v63, v64, v65] : List Int) (0 : Int) v67 v68 v69 v70 v45 v46 v47 v48 v49 v50 v51 v52 v53 v54 v55 v56 v57 v58 v59 v60 v61 v62 v63 v64 v65
 else none
 else none
 else
 q0_0 v67 v68 v70
def L174_2 (c192 : D192) (d193v0 : D193v0) (c194 : D194) (c195 : D195) (N : Nat) (q2_4 : List Int → List Int → Option (List Int)) : Nat → Int → List Int → List Int → List Int → Option (List Int)
  | 0, _, _, _, _ => none
  | n2 + 1, v390, v391, v392, v393 =>
    bif (decide (v390 < (4 : Int))) then
 bif ((decide ((0 : Int) ≤ v390)) && (decide (v390 < (4 : Int)))) then
 match (v393)[(0 + ((Int.toNat v390) * 1))]? with
 | none => none
 | some x394 =>
 bif ((decide ((0 : Int) ≤ v390)) && (decide (v390 < (4 : Int)))) then
 match (v391)[(0 + ((Int.toNat v390) * 1))]? with
 | none => none
 | some x395 =>
 bif ((decide ((0 : Int) ≤ v390)) && (decide (v390 < (4 : Int)))) then
 bif (decide ((0 + ((Int.toNat v390) * 1)) < (List.length v393))) then
 L174_2 c192 d193v0 c194 c195 N q2_4 n2 (iadd .i64 v390 (1 : Int)) v391 v392 (List.set v393 (0 + ((Int.toNat v390) * 1)) (iadd .u32 x394 x395))
 else none
 else none
 else none
 else none
 else
 q2_4 v392 v393
/-- euphroe/md4.Block -/
def p174 (c192 : D192) (d193v0 : D193v0) (c194 : D194) (c195 : D195) (N : Nat) (a0 : List Int) (a1 : List Int) : Option (List Int) :=
  bif (decide (64 ≤ (List.length a1))) then
 match c192 (List.take 64 (List.drop 0 a1)) with
 | none => none
 | some r1 =>
 bif ((List.length r1) == 16) then
 bif (decide ((0 + (List.length r1)) ≤ 16)) then
 bif (decide (4 ≤ (List.length a0))) then
 bif ((List.length (List.take 4 (List.drop 0 a0))) == 4) then
 bif (decide ((0 + (List.length (List.take 4 (List.drop 0 a0)))) ≤ 4)) then
 match d193v0 with
 | none => none
 | some r2 =>
 L174_0 c192 d193v0 c194 c195 N (fun (y387 : List Int) (y388 : List Int) (y389 : List Int) =>
 L174_2 c192 d193v0 c194 c195 N (fun (y396 : List Int) (y397 : List Int) =>
 bif (decide (4 ≤ (List.length y397))) then
 bif ((List.length (List.take 4 (List.drop 0 y397))) == 4) then
 bif (decide ((0 + (List.length (List.take 4 (List.drop 0 y397)))) ≤ (List.length y396))) then
 bif (decide (4 ≤ (List.length (((List.take 0 y396) ++ (List.take 4 (List.drop 0 y397))) ++ (List.drop (0 + (List.length (List.take 4 (List.drop 0 y397)))) y396))))) then
 some (List.take 4 (List.drop 0 (((List.take 0 y396) ++ (List.take 4 (List.drop 0 y397))) ++ (List.drop (0 + (List.length (List.take 4 (List.drop 0 y397)))) y396))))
 else none
 else none
 else none
 else none) N (0 : Int) y387 y388 y389) N r2.1.1.1 r2.1.1.2.1 r2.1.1.2.2.1 r2.1.1.2.2.2.1 r2.1.1.2.2.2.2.1 r2.1.1.2.2.2.2.2.1 r2.1.1.2.2.2.2.2.2.1 r2.1.1.2.2.2.2.2.2.2.1 r2.1.1.2.2.2.2.2.2.2.2.1 r2.1.1.2.2.2.2.2.2.2.2.2.1 r2.1.1.2.2.2.2.2.2.2.2.2.2.1 r2.1.1.2.2.2.2.2.2.2.2.2.2.2.1 r2.1.1.2.2.2.2.2.2.2.2.2.2.2.2.1 r2.1.1.2.2.2.2.2.2.2.2.2.2.2.2.2.1 r2.1.1.2.2.2.2.2.2.2.2.2.2.2.2.2.2.1 r2.1.1.2.2.2.2.2.2.2.2.2.2.2.2.2.2.2.1 r2.1.1.2.2.2.2.2.2.2.2.2.2.2.2.2.2.2.2.1 r2.1.1.2.2.2.2.2.2.2.2.2.2.2.2.2.2.2.2.2.1 r2.1.1.2.2.2.2.2.2.2.2.2.2.2.2.2.2.2.2.2.2.1 r2.1.1.2.2.2.2.2.2.2.2.2.2.2.2.2.2.2.2.2.2.2.1 r2.1.1.2.2.2.2.2.2.2.2.2.2.2.2.2.2.2.2.2.2.2.2.1 r2.1.1.2.2.2.2.2.2.2.2.2.2.2.2.2.2.2.2.2.2.2.2.2.1 r2.1.1.2.2.2.2.2.2.2.2.2.2.2.2.2.2.2.2.2.2.2.2.2.2.1 r2.1.1.2.2.2.2.2.2.2.2.2.2.2.2.2.2.2.2.2.2.2.2.2.2.2.1 r2.1.1.2.2.2.2.2.2.2.2.2.2.2.2.2.2.2.2.2.2.2.2.2.2.2.2.1 r2.1.1.2.2.2.2.2.2.2.2.2.2.2.2.2.2.2.2.2.2.2.2.2.2.2.2.2.1 r2.1.1.2.2.2.2.2.2.2.2.2.2.2.2.2.2.2.2.2.2.2.2.2.2.2.2.2.2.1 r2.1.1.2.2.2.2.2.2.2.2.2.2.2.2.2.2.2.2.2.2.2.2.2.2.2.2.2.2.2.1 r2.1.1.2.2.2.2.2.2.2.2.2.2.2.2.2.2.2.2.2.2.2.2.2.2.2.2.2.2.2.2.1 r2.1.1.2.2.2.2.2.2.2.2.2.2.2.2.2.2.2.2.2.2.2.2.2.2.2.2.2.2.2.2.2.1 r2.1.1.2.2.2.2.2.2.2.2.2.2.2.2.2.2.2.2.2.2.2.2.2.2.2.2.2.2.2.2.2.2.1 r2.1.1.2.2.2.2.2.2.2.2.2.2.2.2.2.2.2.2.2.2.2.2.2.2.2.2.2.2.2.2.2.2.2.1 r2.1.1.2.2.2.2.2.2.2.2.2.2.2.2.2.2.2.2.2.2.2.2.2.2.2.2.2.2.2.2.2.2.2.2.1 r2.1.1.2.2.2.2.2.2.2.2.2.2.2.2.2.2.2.2.2.2.2.2.2.2.2.2.2.2.2.2.2.2.2.2.2.1 r2.1.1.2.2.2.2.2.2.2.2.2.2.2.2.2.2.2.2.2.2.2.2.2.2.2.2.2.2.2.2.2.2.2.2.2.2.1 r2.1.1.2.2.2.2.2.2.2.2.2.2.2.2.2.2.2.2.2.2.2.2.2.2.2.2.2.2.2.2.2.2.2.2.2.2.2.1 r2.1.1.2.2.2.2.2.2.2.2.2.2.2.2.2.2.2.2.2.2.2.2.2.2.2.2.2.2.2.2.2.2.2.2.2.2.2.2.1 r2.1.1.2.2.2.2.2.2.2.2.2.2.2.2.2.2.2.2.2.2.2.2.2.2.2.2.2.2.2.2.2.2.2.2.2.2.2.2.2.1 r2.1.1.2.2.2.2.2.2.2.2.2.2.2.2.2.2.2.2.2.2.2.2.2.2.2.2.2.2.2.2.2.2.2.2.2.2.2.2.2.2.1 r2.1.1.2.2.2.2.2.2.2.2.2.2.2.2.2.2.2.2.2.2.2.2.2.2.2.2.2.2.2.2.2.2.2.2.2.2.2.2.2.2.2.1 r2.1.1.2.2.2.2.2.2.2.2.2.2.2.2.2.2.2.2.2.2.2.2.2.2.2.2.2.2.2.2.2.2.2.2.2.2.2.2.2.2.2.2.1 r2.1.1.2.2.2.2.2.2.2.2.2.2.2.2.2.2.2.2.2.2.2.2.2.2.2.2.2.2.2.2.2.2.2.2.2.2.2.2.2.2.2.2.2.1 r2.1.1.2.2.2.2.2.2.2.2.2.2.2.2.2.2.2.2.2.2.2.2.2.2.2.2.2.2.2.2.2.2.2.2.2.2.2.2.2.2.2.2.2.2.1 r2.1.1.2.2.2.2.2.2.2.2.2.2.2.2.2.2.2.2.2.2.2.2.2.2.2.2.2.2.2.2.2.2.2.2.2.2.2.2.2.2.2.2.2.2.2.1 r2.1.1.2.2.2.2.2.2.2.2.2.2.2.2.2.2.2.2.2.2.2.2.2.2.2.2.2.2.2.2.2.2.2.2.2.2.2.2.2.2.2.2.2.2.2.2.1 r2.1.1.2.2.2.2.2.2.2.2.2.2.2.2.2.2.2.2.2.2.2.2.2.2.2.2.2.2.2.2.2.2.2.2.2.2.2.2.2.2.2.2.2.2.2.2.2.1 r2.1.1.2.2.2.2.2.2.2.2.2.2.2.2.2.2.2.2.2.2.2.2.2.2.2.2.2.2.2.2.2.2.2.2.2.2.2.2.2.2.2.2.2.2.2.2.2.2.1 r2.1.1.2.2.2.2.2.2.2.2.2.2.2.2.2.2.2.2.2.2.2.2.2.2.2.2.2.2.2.2.2.2.2.2.2.2.2.2.2.2.2.2.2.2.2.2.2.2.2.1 r2.1.1.2.2.2.2.2.2.2.2.2.2.2.2.2.2.2.2.2.2.2.2.2.2.2.2.2.2.2.2.2.2.2.2.2.2.2.2.2.2.2.2.2.2.2.2.2.2.2.2.1 r2.1.1.2.2.2.2.2.2.2.2.2.2.2.2.2.2.2.2.2.2.2.2.2.2.2.2.2.2.2.2.2.2.2.2.2.2.2.2.2.2.2.2.2.2.2.2.2.2.2.2.2.1 r2.1.1.2.2.2.2.2.2.2.2.2.2.2.2.2.2.2.2.2.2.2.2.2.2.2.2.2.2.2.2.2.2.2.2.2.2.2.2.2.2.2.2.2.2.2.2.2.2.2.2.2.2.1 r2.1.1.2.2.2.2.2.2.2.2.2.2.2.2.2.2.2.2.2.2.2.2.2.2.2.2.2.2.2.2.2.2.2.2.2.2.2.2.2.2.2.2.2.2.2.2.2.2.2.2.2.2.2.1 r2.1.1.2.2.2.2.2.2.2.2.2.2.2.2.2.2.2.2.2.2.2.2.2.2.2.2.2.2.2.2.2.2.2.2.2.2.2.2.2.2.2.2.2.2.2.2.2.2.2.2.2.2.2.2.1 r2.1.1.2.2.2.2.2.2.2.2.2.2.2.2.2.2.2.2.2.2.2.2.2.2.2.2.2.2.2.2.2.2.2.2.2.2.2.2.2.2.2.2.2.2.2.2.2.2.2.2.2.2.2.2.2.1 r2.1.1.2.2.2.2.2.2.2.2.2.2.2.2.2.2.2.2.2.2.2.2.2.2.2.2.2.2.2.2.2.2.2.2.2.2.2.2.2.2.2.2.2.2.2.2.2.2.2.2.2.2.2.2.2.2.1 r2.1.1.2.2.2.2.2.2.2.2.2.2.2.2.2.2.2.2.2.2.2.2.2.2.2.2.2.2.2.2.2.2.2.2.2.2.2.2.2.2.2.2.2.2.2.2.2.2.2.2.2.2.2.2.2.2.2.1 r2.1.1.2.2.2.2.2.2.2.2.2.2.2.2.2.2.2.2.2.2.2.2.2.2.2.2.2.2.2.2.2.2.2.2.2.2.2.2.2.2.2.2.2.2.2.2.2.2.2.2.2.2.2.2.2.2.2.2.1 r2.1.1.2.2.2.2.2.2.2.2.2.2.2.2.2.2.2.2.2.2.2.2.2.2.2.2.2.2.2.2.2.2.2.2.2.2.2.2.2.2.2.2.2.2.2.2.2.2.2.2.2.2.2.2.2.2.2.2.2.1 r2.1.1.2.2.2.2.2.2.2.2.2.2.2.2.2.2.2.2.2.2.2.2.2.2.2.2.2.2.2.2.2.2.2.2.2.2.2.2.2.2.2.2.2.2.2.2.2.2.2.2.2.2.2.2.2.2.2.2.2.2.1 r2.1.1.2.2.2.2.2.2.2.2.2.2.2.2.2.2.2.2.2.2.2.2.2.2.2.2.2.2.2.2.2.2.2.2.2.2.2.2.2.2.2.2.2.2.2.2.2.2.2.2.2.2.2.2.2.2.2.2.2.2.2.1 r2.1.1.2.2.2.2.2.2.2.2.2.2.2.2.2.2.2.2.2.2.2.2.2.2.2.2.2.2.2.2.2.2.2.2.2.2.2.2.2.2.2.2.2.2.2.2.2.2.2.2.2.2.2.2.2.2.2.2.2.2.2.2.1 r2.1.1.2.2.2.2.2.2.2.2.2.2.2.2.2.2.2.2.2.2.2.2.2.2.2.2.2.2.2.2.2.2.2.2.2.2.2.2.2.2.2.2.2.2.2.2.2.2.2.2.2.2.2.2.2.2.2.2.2.2.2.2.2.1 r2.1.1.2.2.2.2.2.2.2.2.2.2.2.2.2.2.2.2.2.2.2.2.2.2.2.2.2.2.2.2.2.2.2.2.2.2.2.2.2.2.2.2.2.2.2.2.2.2.2.2.2.2.2.2.2.2.2.2.2.2.2.2.2.2.1 (0 : Int) a0 ([(0 : Int), 0, 0, 0] : List Int) (([] ++ r1) ++ (List.drop (0 + (List.length r1)) [(0 : Int), 0, 0, 0, 0, 0, 0, 0, 0, 0, 0, 0, 0, 0, 0, 0])) (([] ++ (List.take 4 (List.drop 0 a0))) ++ (List.drop (0 + (List.length (List.take 4 (List.drop 0 a0)))) [(0 : Int), 0, 0, 0]))
 else none
 else none
 else none
 else none
 else none
 else none

/-- euphroe/euphroeref04.place -/
def p196 (N : Nat) (a0 : Int) : Option Int :=
  bif ((iquo .i64 a0 (16 : Int)) == (0 : Int)) then
 some a0
 else
 bif ((iquo .i64 a0 (16 : Int)) == (1 : Int)) then
 some (iadd .i64 (imul .i64 (irem a0 (4 : Int)) (4 : Int)) (irem (iquo .i64 a0 (4 : Int)) (4 : Int)))
 else
 bif ((decide ((0 : Int) ≤ (isub .i64 a0 (32 : Int)))) && (decide ((isub .i64 a0 (32 : Int)) < (16 : Int)))) then
 match (([(0 : Int), 8, 4, 12, 2, 10, 6, 14, 1, 9, 5, 13, 3, 11, 7, 15] : List Int))[(0 + ((Int.toNat (isub .i64 a0 (32 : Int))) * 1))]? with
 | none => none
 | some x1 =>
 some x1
 else none

/-- euphroe/euphroeref04.two -/
def p204 (N : Nat) (a0 : Int) (a1 : Int) (a2 : Int) : Option Int :=
  some (ior .u32 (ior .u32 (iand .u32 a0 a1) (iand .u32 a0 a2)) (iand .u32 a1 a2))

/-- euphroe/euphroeref04.step -/
def p198 (c204 : D204) (N : Nat) (a0 : Int) (a1 : Int) (a2 : Int) (a3 : Int) : Option Int :=
  bif (a0 == (0 : Int)) then
 some (ior .u32 (iand .u32 a1 a2) (iand .u32 (isub .u32 (4294967295 : Int) a1) a3))
 else
 bif (a0 == (1 : Int)) then
 match c204 a1 a2 a3 with
 | none => none
 | some r1 =>
 some (iadd .u32 r1 (1518500249 : Int))
 else
 some (iadd .u32 (ixor .u32 (ixor .u32 a1 a2) a3) (1859775393 : Int))

/-- euphroe/euphroeref04.turn -/
def p197 (N : Nat) (a0 : Int) (a1 : Int) : Option Int :=
  bif (decide (a1 < (0 : Int))) then
 none
 else
 bif (decide ((isub .i64 (32 : Int) a1) < (0 : Int))) then
 none
 else
 some (ior .u32 (ishl .u32 a0 a1) (ishr .u32 a0 (isub .i64 (32 : Int) a1)))

def L175_0 (c196 : D196) (c198 : D198) (c197 : D197) (N : Nat) (q0_0 : List Int → List Int → List Int → Option (List Int)) : Nat → List (List Int) → Int → List Int → List Int → List Int → List Int → Option (List Int)
  | 0, _, _, _, _, _, _ => none
  | n0 + 1, v1, v2, v3, v4, v5, v6 =>
    bif (decide (v2 < (48 : Int))) then
 match c196 v2 with
 | none => none
 | some r7 =>
 bif ((decide ((0 : Int) ≤ (imul .i64 (4 : Int) r7))) && (decide ((imul .i64 (4 : Int) r7) < (64 : Int)))) then
 match (v4)[(0 + ((Int.toNat (imul .i64 (4 : Int) r7)) * 1))]? with
 | none => none
 | some x8 =>
 bif ((decide ((0 : Int) ≤ (iadd .i64 (imul .i64 (4 : Int) r7) (1 : Int)))) && (decide ((iadd .i64 (imul .i64 (4 : Int) r7) (1 : Int)) < (64 : Int)))) then
 match (v4)[(0 + ((Int.toNat (iadd .i64 (imul .i64 (4 : Int) r7) (1 : Int))) * 1))]? with
 | none => none
 | some x9 =>
 bif ((decide ((0 : Int) ≤ (iadd .i64 (imul .i64 (4 : Int) r7) (2 : Int)))) && (decide ((iadd .i64 (imul .i64 (4 : Int) r7) (2 : Int)) < (64 : Int)))) then
 match (v4)[(0 + ((Int.toNat (iadd .i64 (imul .i64 (4 : Int) r7) (2 : Int))) * 1))]? with
 | none => none
 | some x10 =>
 bif ((decide ((0 : Int) ≤ (iadd .i64 (imul .i64 (4 : Int) r7) (3 : Int)))) && (decide ((iadd .i64 (imul .i64 (4 : Int) r7) (3 : Int)) < (64 : Int)))) then
 match (v4)[(0 + ((Int.toNat (iadd .i64 (imul .i64 (4 : Int) r7) (3 : Int))) * 1))]? with
 | none => none
 | some x11 =>
 match (v6)[0]? with
 | none => none
 | some x12 =>
 match (v6)[1]? with
 | none => none
 | some x13 =>
 match (v6)[2]? with
 | none => none
 | some x14 =>
 match (v6)[3]? with
 | none => none
 | some x15 =>
 match c198 (iquo .i64 v2 (16 : Int)) x13 x14 x15 with
 | none => none
 | some r16 =>
 match geti v1 (iquo .i64 v2 (16 : Int)) with
 | none => none
 | some x17 =>
 match geti x17 (irem v2 (4 : Int)) with
 | none => none
 | some x18 =>
 match c197 (iadd .u32 (iadd .u32 x12 r16) (iadd .u32 (iadd .u32 (iadd .u32 (IntKind.wrap .u32 x8) (imul .u32 (IntKind.wrap .u32 x9) (256 : Int))) (imul .u32 (IntKind.wrap .u32 x10) (65536 : Int))) (imul .u32 (IntKind.wrap .u32 x11) (16777216 : Int)))) x18 with
 | none => none
 | some r19 =>
 match (v6)[3]? with
 | none => none
 | some x20 =>
 match (v6)[1]? with
 | none => none
 | some x21 =>
 match (v6)[2]? with
 | none => none
 | some x22 =>
 bif (decide (4 ≤ (List.length v6))) then
 L175_0 c196 c198 c197 N q0_0 n0 v1 (iadd .i64 v2 (1 : Int)) v3 v4 v5 (((List.take 0 v6) ++ [x20, r19, x21, x22]) ++ (List.drop 4 v6))
 else none
 else none
 else none
 else none
 else none
 else
 q0_0 v3 v5 v6
def L175_1 (c196 : D196) (c198 : D198) (c197 : D197) (N : Nat) (q1_2 : List Int → List Int → Option (List Int)) : Nat → Int → List Int → List Int → List Int → Option (List Int)
  | 0, _, _, _, _ => none
  | n1 + 1, v26, v27, v28, v29 =>
    bif (decide (v26 < (4 : Int))) then
 bif ((decide ((0 : Int) ≤ v26)) && (decide (v26 < (4 : Int)))) then
 match (v29)[(0 + ((Int.toNat v26) * 1))]? with
 | none => none
 | some x30 =>
 bif ((decide ((0 : Int) ≤ v26)) && (decide (v26 < (4 : Int)))) then
 match (v27)[(0 + ((Int.toNat v26) * 1))]? with
 | none => none
 | some x31 =>
 bif ((decide ((0 : Int) ≤ v26)) && (decide (v26 < (4 : Int)))) then
 bif (decide ((0 + ((Int.toNat v26) * 1)) < (List.length v29))) then
 L175_1 c196 c198 c197 N q1_2 n1 (iadd .i64 v26 (1 : Int)) v27 v28 (List.set v29 (0 + ((Int.toNat v26) * 1)) (iadd .u32 x30 x31))
 else none
 else none
 else none
 else none
 else
 q1_2 v28 v29
/-- euphroe/euphroeref04.Block -/
def p175 (c196 : D196) (c198 : D198) (c197 : D197) (N : Nat) (a0 : List Int) (a1 : List Int) : Option (List Int) :=
  bif (decide (4 ≤ (List.length a0))) then
 bif ((List.length (List.take 4 (List.drop 0 a0))) == 4) then
 bif (decide ((0 + (List.length (List.take 4 (List.drop 0 a0)))) ≤ 4)) then
 L175_0 c196 c198 c197 N (fun (y23 : List Int) (y24 : List Int) (y25 : List Int) =>
 L175_1 c196 c198 c197 N (fun (y32 : List Int) (y33 : List Int) =>
 bif (decide (4 ≤ (List.length y33))) then
 bif ((List.length (List.take 4 (List.drop 0 y33))) == 4) then
 bif (decide ((0 + (List.length (List.take 4 (List.drop 0 y33)))) ≤ (List.length y32))) then
 bif (decide (4 ≤ (List.length (((List.take 0 y32) ++ (List.take 4 (List.drop 0 y33))) ++ (List.drop (0 + (List.length (List.take 4 (List.drop 0 y33)))) y32))))) then
 some (List.take 4 (List.drop 0 (((List.take 0 y32) ++ (List.take 4 (List.drop 0 y33))) ++ (List.drop (0 + (List.length (List.take 4 (List.drop 0 y33)))) y32))))
 else none
 else none
 else none
 else none) N (0 : Int) y23 y24 y25) N ([([(3 : Int), (7 : Int), (11 : Int), (19 : Int)] : List Int), ([(3 : Int), (5 : Int), (9 : Int), (13 : Int)] : List Int), ([(3 : Int), (9 : Int), (11 : Int), (15 : Int)] : List Int)] : List (List Int)) (0 : Int) a0 a1 ([(0 : Int), 0, 0, 0] : List Int) (([] ++ (List.take 4 (List.drop 0 a0))) ++ (List.drop (0 + (List.length (List.take 4 (List.drop 0 a0)))) [(0 : Int), 0, 0, 0]))
 else none
 else none
 else none

/-- euphroe/md4.Tail -/
def p176 (c19 : D19) (N : Nat) (a0 : Int) : Option (List Int) :=
  bif ((decide ((0 : Int) ≤ (irem (isub .u64 (64 : Int) (irem (iadd .u64 (iadd .u64 a0 (1 : Int)) (8 : Int)) (64 : Int))) (64 : Int)))) && ((decide (((irem (isub .u64 (64 : Int) (irem (iadd .u64 (iadd .u64 a0 (1 : Int)) (8 : Int)) (64 : Int))) (64 : Int)) * ((1 : Nat) : Int)) ≤ (1099511627776 : Int))) && (decide ((irem (isub .u64 (64 : Int) (irem (iadd .u64 (iadd .u64 a0 (1 : Int)) (8 : Int)) (64 : Int))) (64 : Int)) ≤ (1099511627776 : Int))))) then
 bif ((List.length (List.replicate (Int.toNat (irem (isub .u64 (64 : Int) (irem (iadd .u64 (iadd .u64 a0 (1 : Int)) (8 : Int)) (64 : Int))) (64 : Int))) (0 : Int))) == ((Int.toNat (irem (isub .u64 (64 : Int) (irem (iadd .u64 (iadd .u64 a0 (1 : Int)) (8 : Int)) (64 : Int))) (64 : Int))) * 1)) then
 bif (decide (1 < (1 + (Int.toNat (irem (isub .u64 (64 : Int) (irem (iadd .u64 (iadd .u64 a0 (1 : Int)) (8 : Int)) (64 : Int))) (64 : Int)))))) then
 bif ((decide (((1 + (Int.toNat (irem (isub .u64 (64 : Int) (irem (iadd .u64 (iadd .u64 a0 (1 : Int)) (8 : Int)) (64 : Int))) (64 : Int)))) * 1) ≤ 1099511627776)) && (decide ((1 + (Int.toNat (irem (isub .u64 (64 : Int) (irem (iadd .u64 (iadd .u64 a0 (1 : Int)) (8 : Int)) (64 : Int))) (64 : Int)))) ≤ 1099511627776))) then
 match c19 (imul .u64 a0 (8 : Int)) (8 : Int) true with
 | none => none
 | some r1 =>
 bif (((List.length ([(128 : Int)] ++ (List.replicate (Int.toNat (irem (isub .u64 (64 : Int) (irem (iadd .u64 (iadd .u64 a0 (1 : Int)) (8 : Int)) (64 : Int))) (64 : Int))) (0 : Int)))) == ((1 + (Int.toNat (irem (isub .u64 (64 : Int) (irem (iadd .u64 (iadd .u64 a0 (1 : Int)) (8 : Int)) (64 : Int))) (64 : Int)))) * 1)) && ((decide ((((1 + (Int.toNat (irem (isub .u64 (64 : Int) (irem (iadd .u64 (iadd .u64 a0 (1 : Int)) (8 : Int)) (64 : Int))) (64 : Int)))) + (List.length r1.1)) * 1) ≤ 1099511627776)) && (decide (((1 + (Int.toNat (irem (isub .u64 (64 : Int) (irem (iadd .u64 (iadd .u64 a0 (1 : Int)) (8 : Int)) (64 : Int))) (64 : Int)))) + (List.length r1.1)) ≤ 1099511627776)))) then
 bif (decide ((0 + (((1 + (Int.toNat (irem (isub .u64 (64 : Int) (irem (iadd .u64 (iadd .u64 a0 (1 : Int)) (8 : Int)) (64 : Int))) (64 : Int)))) + (List.length r1.1)) * 1)) ≤ (List.length (([(128 : Int)] ++ (List.replicate (Int.toNat (irem (isub .u64 (64 : Int) (irem (iadd .u64 (iadd .u64 a0 (1 : Int)) (8 : Int)) (64 : Int))) (64 : Int))) (0 : Int))) ++ r1.1)))) then
 some (List.take ((1 + (Int.toNat (irem (isub .u64 (64 : Int) (irem (iadd .u64 (iadd .u64 a0 (1 : Int)) (8 : Int)) (64 : Int))) (64 : Int)))) + (List.length r1.1)) (List.drop 0 (([(128 : Int)] ++ (List.replicate (Int.toNat (irem (isub .u64 (64 : Int) (irem (iadd .u64 (iadd .u64 a0 (1 : Int)) (8 : Int)) (64 : Int))) (64 : Int))) (0 : Int))) ++ r1.1)))
 else none
 else none
 else none
 else
 bif (decide ((1 + (List.length (List.replicate (Int.toNat (irem (isub .u64 (64 : Int) (irem (iadd .u64 (iadd .u64 a0 (1 : Int)) (8 : Int)) (64 : Int))) (64 : Int))) (0 : Int)))) ≤ 1)) then
 match c19 (imul .u64 a0 (8 : Int)) (8 : Int) true with
 | none => none
 | some r2 =>
 bif (decide (1 < ((1 + (Int.toNat (irem (isub .u64 (64 : Int) (irem (iadd .u64 (iadd .u64 a0 (1 : Int)) (8 : Int)) (64 : Int))) (64 : Int)))) + (List.length r2.1)))) then
 bif ((decide ((((1 + (Int.toNat (irem (isub .u64 (64 : Int) (irem (iadd .u64 (iadd .u64 a0 (1 : Int)) (8 : Int)) (64 : Int))) (64 : Int)))) + (List.length r2.1)) * 1) ≤ 1099511627776)) && (decide (((1 + (Int.toNat (irem (isub .u64 (64 : Int) (irem (iadd .u64 (iadd .u64 a0 (1 : Int)) (8 : Int)) (64 : Int))) (64 : Int)))) + (List.length r2.1)) ≤ 1099511627776))) then
 bif (decide ((0 + ((1 + (Int.toNat (irem (isub .u64 (64 : Int) (irem (iadd .u64 (iadd .u64 a0 (1 : Int)) (8 : Int)) (64 : Int))) (64 : Int)))) * 1)) ≤ (List.length (([(128 : Int)] ++ (List.replicate (Int.toNat (irem (isub .u64 (64 : Int) (irem (iadd .u64 (iadd .u64 a0 (1 : Int)) (8 : Int)) (64 : Int))) (64 : Int))) (0 : Int))) ++ (List.drop (1 + (List.length (List.replicate (Int.toNat (irem (isub .u64 (64 : Int) (irem (iadd .u64 (iadd .u64 a0 (1 : Int)) (8 : Int)) (64 : Int))) (64 : Int))) (0 : Int)))) [(128 : Int)]))))) then
 bif (decide ((0 + (((1 + (Int.toNat (irem (isub .u64 (64 : Int) (irem (iadd .u64 (iadd .u64 a0 (1 : Int)) (8 : Int)) (64 : Int))) (64 : Int)))) + (List.length r2.1)) * 1)) ≤ (List.length ((List.take ((1 + (Int.toNat (irem (isub .u64 (64 : Int) (irem (iadd .u64 (iadd .u64 a0 (1 : Int)) (8 : Int)) (64 : Int))) (64 : Int)))) * 1) (List.drop 0 (([(128 : Int)] ++ (List.replicate (Int.toNat (irem (isub .u64 (64 : Int) (irem (iadd .u64 (iadd .u64 a0 (1 : Int)) (8 : Int)) (64 : Int))) (64 : Int))) (0 : Int))) ++ (List.drop (1 + (List.length (List.replicate (Int.toNat (irem (isub .u64 (64 : Int) (irem (iadd .u64 (iadd .u64 a0 (1 : Int)) (8 : Int)) (64 : Int))) (64 : Int))) (0 : Int)))) [(128 : Int)])))) ++ r2.1)))) then
 some (List.take ((1 + (Int.toNat (irem (isub .u64 (64 : Int) (irem (iadd .u64 (iadd .u64 a0 (1 : Int)) (8 : Int)) (64 : Int))) (64 : Int)))) + (List.length r2.1)) (List.drop 0 ((List.take ((1 + (Int.toNat (irem (isub .u64 (64 : Int) (irem (iadd .u64 (iadd .u64 a0 (1 : Int)) (8 : Int)) (64 : Int))) (64 : Int)))) * 1) (List.drop 0 (([(128 : Int)] ++ (List.replicate (Int.toNat (irem (isub .u64 (64 : Int) (irem (iadd .u64 (iadd .u64 a0 (1 : Int)) (8 : Int)) (64 : Int))) (64 : Int))) (0 : Int))) ++ (List.drop (1 + (List.length (List.replicate (Int.toNat (irem (isub .u64 (64 : Int) (irem (iadd .u64 (iadd .u64 a0 (1 : Int)) (8 : Int)) (64 : Int))) (64 : Int))) (0 : Int)))) [(128 : Int)])))) ++ r2.1)))
 else none
 else none
 else none
 else
 bif (decide (((0 + ((1 + (Int.toNat (irem (isub .u64 (64 : Int) (irem (iadd .u64 (iadd .u64 a0 (1 : Int)) (8 : Int)) (64 : Int))) (64 : Int)))) * 1)) + (List.length r2.1)) ≤ (List.length (([(128 : Int)] ++ (List.replicate (Int.toNat (irem (isub .u64 (64 : Int) (irem (iadd .u64 (iadd .u64 a0 (1 : Int)) (8 : Int)) (64 : Int))) (64 : Int))) (0 : Int))) ++ (List.drop (1 + (List.length (List.replicate (Int.toNat (irem (isub .u64 (64 : Int) (irem (iadd .u64 (iadd .u64 a0 (1 : Int)) (8 : Int)) (64 : Int))) (64 : Int))) (0 : Int)))) [(128 : Int)]))))) then
 bif (decide ((0 + (((1 + (Int.toNat (irem (isub .u64 (64 : Int) (irem (iadd .u64 (iadd .u64 a0 (1 : Int)) (8 : Int)) (64 : Int))) (64 : Int)))) + (List.length r2.1)) * 1)) ≤ (List.length (((List.take (0 + ((1 + (Int.toNat (irem (isub .u64 (64 : Int) (irem (iadd .u64 (iadd .u64 a0 (1 : Int)) (8 : Int)) (64 : Int))) (64 : Int)))) * 1)) (([(128 : Int)] ++ (List.replicate (Int.toNat (irem (isub .u64 (64 : Int) (irem (iadd .u64 (iadd .u64 a0 (1 : Int)) (8 : Int)) (64 : Int))) (64 : Int))) (0 : Int))) ++ (List.drop (1 + (List.length (List.replicate (Int.toNat (irem (isub .u64 (64 : Int) (irem (iadd .u64 (iadd .u64 a0 (1 : Int)) (8 : Int)) (64 : Int))) (64 : Int))) (0 : Int)))) [(128 : Int)]))) ++ r2.1) ++ (List.drop ((0 + ((1 + (Int.toNat (irem (isub .u64 (64 : Int) (irem (iadd .u64 (iadd .u64 a0 (1 : Int)) (8 : Int)) (64 : Int))) (64 : Int)))) * 1)) + (List.length r2.1)) (([(128 : Int)] ++ (List.replicate (Int.toNat (irem (isub .u64 (64 : Int) (irem (iadd .u64 (iadd .u64 a0 (1 : Int)) (8 : Int)) (64 : Int))) (64 : Int))) (0 : Int))) ++ (List.drop (1 + (List.length (List.replicate (Int.toNat (irem (isub .u64 (64 : Int) (irem (iadd .u64 (iadd .u64 a0 (1 : Int)) (8 : Int)) (64 : Int))) (64 : Int))) (0 : Int)))) [(128 : Int)]))))))) then
 some (List.take ((1 + (Int.toNat (irem (isub .u64 (64 : Int) (irem (iadd .u64 (iadd .u64 a0 (1 : Int)) (8 : Int)) (64 : Int))) (64 : Int)))) + (List.length r2.1)) (List.drop 0 (((List.take (0 + ((1 + (Int.toNat (irem (isub .u64 (64 : Int) (irem (iadd .u64 (iadd .u64 a0 (1 : Int)) (8 : Int)) (64 : Int))) (64 : Int)))) * 1)) (([(128 : Int)] ++ (List.replicate (Int.toNat (irem (isub .u64 (64 : Int) (irem (iadd .u64 (iadd .u64 a0 (1 : Int)) (8 : Int)) (64 : Int))) (64 : Int))) (0 : Int))) ++ (List.drop (1 + (List.length (List.replicate (Int.toNat (irem (isub .u64 (64 : Int) (irem (iadd .u64 (iadd .u64 a0 (1 : Int)) (8 : Int)) (64 : Int))) (64 : Int))) (0 : Int)))) [(128 : Int)]))) ++ r2.1) ++ (List.drop ((0 + ((1 + (Int.toNat (irem (isub .u64 (64 : Int) (irem (iadd .u64 (iadd .u64 a0 (1 : Int)) (8 : Int)) (64 : Int))) (64 : Int)))) * 1)) + (List.length r2.1)) (([(128 : Int)] ++ (List.replicate (Int.toNat (irem (isub .u64 (64 : Int) (irem (iadd .u64 (iadd .u64 a0 (1 : Int)) (8 : Int)) (64 : Int))) (64 : Int))) (0 : Int))) ++ (List.drop (1 + (List.length (List.replicate (Int.toNat (irem (isub .u64 (64 : Int) (irem (iadd .u64 (iadd .u64 a0 (1 : Int)) (8 : Int)) (64 : Int))) (64 : Int))) (0 : Int)))) [(128 : Int)]))))))
 else none
 else none
 else none
 else none
 else none

def L177_0 (N : Nat) (q0_0 : Int → Nat → List Int → Option (List Int)) : Nat → Int → Nat → List Int → Option (List Int)
  | 0, _, _, _ => none
  | n0 + 1, v1, v2, v3 =>
    bif ((irem (iadd .u64 v1 (IntKind.wrap .u64 ((v2 : Nat) : Int))) (64 : Int)) != (56 : Int)) then
 bif (((List.length v3) == (v2 * 1)) && ((decide (((v2 + 1) * 1) ≤ 1099511627776)) && (decide ((v2 + 1) ≤ 1099511627776)))) then
 L177_0 N q0_0 n0 v1 (v2 + 1) (v3 ++ [(0 : Int)])
 else none
 else
 q0_0 v1 v2 v3
def L177_1 (N : Nat) (q1_2 : Nat → List Int → Option (List Int)) : Nat → Nat → Int → Int → List Int → Option (List Int)
  | 0, _, _, _, _ => none
  | n1 + 1, v7, v8, v9, v10 =>
    bif (decide (v9 < (8 : Int))) then
 bif (((List.length v10) == (v7 * 1)) && ((decide (((v7 + 1) * 1) ≤ 1099511627776)) && (decide ((v7 + 1) ≤ 1099511627776)))) then
 L177_1 N q1_2 n1 (v7 + 1) (iquo .u64 v8 (256 : Int)) (iadd .i64 v9 (1 : Int)) (v10 ++ [(IntKind.wrap .u8 (irem v8 (256 : Int)))])
 else none
 else
 q1_2 v7 v10
/-- euphroe/euphroeref04.Tail -/
def p177 (N : Nat) (a0 : Int) : Option (List Int) :=
  L177_0 N (fun (y4 : Int) (y5 : Nat) (y6 : List Int) =>
 L177_1 N (fun (y11 : Nat) (y12 : List Int) =>
 bif (decide ((0 + (y11 * 1)) ≤ (List.length y12))) then
 some (List.take y11 (List.drop 0 y12))
 else none) N y5 (imul .u64 (8 : Int) y4) (0 : Int) y6) N a0 1 ([(128 : Int)] : List Int)

/-- euphroe/md4.First -/
def p178 (N : Nat)  : Option (List Int) :=
  some ([(1732584193 : Int), 4023233417, 2562383102, 271733878] : List Int)

/-- euphroe/euphroeref04.First -/
def p179 (N : Nat)  : Option (List Int) :=
  some ([(1732584193 : Int), 4023233417, 2562383102, 271733878] : List Int)

def L181_0 (c46 : D46) (c176 : D176) (c178 : D178) (c174 : D174) (N : Nat) (q0_0 : List Int → List Int → Option (List Int)) : Nat → List Int → List Int → List Int → Option (List Int)
  | 0, _, _, _ => none
  | n0 + 1, v4, v5, v6 =>
    bif (decide ((((List.length v4) : Nat) : Int) > (0 : Int))) then
 bif (decide (4 ≤ (List.length v6))) then
 bif (decide ((64 : Int) ≤ (((List.length v4) : Nat) : Int))) then
 bif (decide (64 ≤ (List.length (List.take 64 v4)))) then
 bif (decide (64 ≤ (List.length (List.take 64 v4)))) then
 match c174 (List.take 4 (List.drop 0 v6)) (List.take 64 (List.drop 0 (List.take 64 v4))) with
 | none => none
 | some r7 =>
 bif ((List.length r7) == 4) then
 bif (decide ((0 + (List.length r7)) ≤ (List.length v6))) then
 bif (decide ((64 : Int) ≤ (((List.length v4) : Nat) : Int))) then
 L181_0 c46 c176 c178 c174 N q0_0 n0 (List.drop 64 v4) v5 (((List.take 0 v6) ++ r7) ++ (List.drop (0 + (List.length r7)) v6))
 else none
 else none
 else none
 else none
 else none
 else none
 else none
 else
 q0_0 v5 v6
def L181_1 (c46 : D46) (c176 : D176) (c178 : D178) (c174 : D174) (N : Nat) (q1_2 : List Int → List Int → Option (List Int)) : Nat → Int → List Int → List Int → List Int → Option (List Int)
  | 0, _, _, _, _ => none
  | n1 + 1, v10, v11, v12, v13 =>
    bif (decide (v10 < (16 : Int))) then
 bif ((decide ((0 : Int) ≤ (iquo .i64 v10 (4 : Int)))) && (decide ((iquo .i64 v10 (4 : Int)) < (4 : Int)))) then
 match (v12)[(0 + ((Int.toNat (iquo .i64 v10 (4 : Int))) * 1))]? with
 | none => none
 | some x14 =>
 bif (decide ((imul .i64 (8 : Int) (irem v10 (4 : Int))) < (0 : Int))) then
 none
 else
 bif ((decide ((0 : Int) ≤ v10)) && (decide (v10 < (16 : Int)))) then
 bif (decide ((0 + ((Int.toNat v10) * 1)) < (List.length v13))) then
 L181_1 c46 c176 c178 c174 N q1_2 n1 (iadd .i64 v10 (1 : Int)) v11 v12 (List.set v13 (0 + ((Int.toNat v10) * 1)) (IntKind.wrap .u8 (ishr .u32 x14 (imul .i64 (8 : Int) (irem v10 (4 : Int))))))
 else none
 else none
 else none
 else
 q1_2 v11 v13
/-- euphroe/md4.Of -/
def p181 (c46 : D46) (c176 : D176) (c178 : D178) (c174 : D174) (N : Nat) (a0 : List (List Int)) : Option (List Int) :=
  match c46 a0 with
 | none => none
 | some r1 =>
 match c176 (IntKind.wrap .u64 (((List.length r1) : Nat) : Int)) with
 | none => none
 | some r2 =>
 bif (((List.length r1) == ((List.length r1) * 1)) && ((decide ((((List.length r1) + (List.length r2)) * 1) ≤ 1099511627776)) && (decide (((List.length r1) + (List.length r2)) ≤ 1099511627776)))) then
 match c178 with
 | none => none
 | some r3 =>
 bif ((List.length r3) == 4) then
 bif (decide ((0 + (List.length r3)) ≤ 4)) then
 bif (decide ((0 + (((List.length r1) + (List.length r2)) * 1)) ≤ (List.length (r1 ++ r2)))) then
 L181_0 c46 c176 c178 c174 N (fun (y8 : List Int) (y9 : List Int) =>
 L181_1 c46 c176 c178 c174 N (fun (y15 : List Int) (y16 : List Int) =>
 bif (decide (16 ≤ (List.length y16))) then
 bif ((List.length (List.take 16 (List.drop 0 y16))) == 16) then
 bif (decide ((0 + (List.length (List.take 16 (List.drop 0 y16)))) ≤ (List.length y15))) then
 bif (decide (16 ≤ (List.length (((List.take 0 y15) ++ (List.take 16 (List.drop 0 y16))) ++ (List.drop (0 + (List.length (List.take 16 (List.drop 0 y16)))) y15))))) then
 some (List.take 16 (List.drop 0 (((List.take 0 y15) ++ (List.take 16 (List.drop 0 y16))) ++ (List.drop (0 + (List.length (List.take 16 (List.drop 0 y16)))) y15))))
 else none
 else none
 else none
 else none) N (0 : Int) y8 y9 ([(0 : Int), 0, 0, 0, 0, 0, 0, 0, 0, 0, 0, 0, 0, 0, 0, 0] : List Int)) N (List.take ((List.length r1) + (List.length r2)) (List.drop 0 (r1 ++ r2))) ([(0 : Int), 0, 0, 0, 0, 0, 0, 0, 0, 0, 0, 0, 0, 0, 0, 0] : List Int) (([] ++ r3) ++ (List.drop (0 + (List.length r3)) [(0 : Int), 0, 0, 0]))
 else none
 else none
 else none
 else none

def L182_1 (c177 : D177) (c179 : D179) (c175 : D175) (N : Nat) (q1_2 : Nat → Int → List Int → List Int → List Int → List Int → Option (List Int)) : Nat → Nat → Int → Int → List Int → List Int → List Int → List Int → Option (List Int)
  | 0, _, _, _, _, _, _, _ => none
  | n1 + 1, v8, v9, v10, v11, v12, v13, v14 =>
    bif (decide (v10 < (64 : Int))) then
 bif ((decide ((0 : Int) ≤ (iadd .i64 v9 v10))) && (decide ((iadd .i64 v9 v10) < ((v8 : Nat) : Int)))) then
 match (v12)[(0 + ((Int.toNat (iadd .i64 v9 v10)) * 1))]? with
 | none => none
 | some x15 =>
 bif ((decide ((0 : Int) ≤ v10)) && (decide (v10 < (64 : Int)))) then
 bif (decide ((0 + ((Int.toNat v10) * 1)) < (List.length v14))) then
 L182_1 c177 c179 c175 N q1_2 n1 v8 v9 (iadd .i64 v10 (1 : Int)) v11 v12 v13 (List.set v14 (0 + ((Int.toNat v10) * 1)) x15)
 else none
 else none
 else none
 else
 q1_2 v8 v9 v11 v12 v13 v14
def L182_0 (c177 : D177) (c179 : D179) (c175 : D175) (N : Nat) (q0_0 : List Int → List Int → Option (List Int)) : Nat → Nat → Int → List Int → List Int → List Int → Option (List Int)
  | 0, _, _, _, _, _ => none
  | n0 + 1, v3, v4, v5, v6, v7 =>
    bif (decide (v4 < ((v3 : Nat) : Int))) then
 L182_1 c177 c179 c175 N (fun (y16 : Nat) (y17 : Int) (y18 : List Int) (y19 : List Int) (y20 : List Int) (y21 : List Int) =>
 bif (decide (4 ≤ (List.length y20))) then
 bif (decide (64 ≤ (List.length y21))) then
 match c175 (List.take 4 (List.drop 0 y20)) (List.take 64 (List.drop 0 y21)) with
 | none => none
 | some r22 =>
 bif ((List.length r22) == 4) then
 bif (decide ((0 + (List.length r22)) ≤ (List.length y20))) then
 L182_0 c177 c179 c175 N q0_0 n0 y16 (iadd .i64 y17 (64 : Int)) y18 y19 (((List.take 0 y20) ++ r22) ++ (List.drop (0 + (List.length r22)) y20))
 else none
 else none
 else none
 else none) N v3 v4 (0 : Int) v5 v6 v7 ([(0 : Int), 0, 0, 0, 0, 0, 0, 0, 0, 0, 0, 0, 0, 0, 0, 0, 0, 0, 0, 0, 0, 0, 0, 0, 0, 0, 0, 0, 0, 0, 0, 0, 0, 0, 0, 0, 0, 0, 0, 0, 0, 0, 0, 0, 0, 0, 0, 0, 0, 0, 0, 0, 0, 0, 0, 0, 0, 0, 0, 0, 0, 0, 0, 0] : List Int)
 else
 q0_0 v5 v7
def L182_2 (c177 : D177) (c179 : D179) (c175 : D175) (N : Nat) (q2_4 : List Int → List Int → Option (List Int)) : Nat → Int → List Int → List Int → List Int → Option (List Int)
  | 0, _, _, _, _ => none
  | n2 + 1, v25, v26, v27, v28 =>
    bif (decide (v25 < (16 : Int))) then
 bif ((decide ((0 : Int) ≤ (iquo .i64 v25 (4 : Int)))) && (decide ((iquo .i64 v25 (4 : Int)) < (4 : Int)))) then
 match (v27)[(0 + ((Int.toNat (iquo .i64 v25 (4 : Int))) * 1))]? with
 | none => none
 | some x29 =>
 bif (decide ((imul .i64 (8 : Int) (irem v25 (4 : Int))) < (0 : Int))) then
 none
 else
 bif ((decide ((0 : Int) ≤ v25)) && (decide (v25 < (16 : Int)))) then
 bif (decide ((0 + ((Int.toNat v25) * 1)) < (List.length v28))) then
 L182_2 c177 c179 c175 N q2_4 n2 (iadd .i64 v25 (1 : Int)) v26 v27 (List.set v28 (0 + ((Int.toNat v25) * 1)) (IntKind.wrap .u8 (ishr .u32 x29 (imul .i64 (8 : Int) (irem v25 (4 : Int))))))
 else none
 else none
 else none
 else
 q2_4 v26 v28
/-- euphroe/euphroeref04.Of -/
def p182 (c177 : D177) (c179 : D179) (c175 : D175) (N : Nat) (a0 : List Int) : Option (List Int) :=
  bif ((decide (((List.length a0) * 1) ≤ 1099511627776)) && (decide ((List.length a0) ≤ 1099511627776))) then
 match c177 (IntKind.wrap .u64 (((List.length a0) : Nat) : Int)) with
 | none => none
 | some r1 =>
 bif (((List.length a0) == ((List.length a0) * 1)) && ((decide ((((List.length a0) + (List.length r1)) * 1) ≤ 1099511627776)) && (decide (((List.length a0) + (List.length r1)) ≤ 1099511627776)))) then
 match c179 with
 | none => none
 | some r2 =>
 bif ((List.length r2) == 4) then
 bif (decide ((0 + (List.length r2)) ≤ 4)) then
 L182_0 c177 c179 c175 N (fun (y23 : List Int) (y24 : List Int) =>
 L182_2 c177 c179 c175 N (fun (y30 : List Int) (y31 : List Int) =>
 bif (decide (16 ≤ (List.length y31))) then
 bif ((List.length (List.take 16 (List.drop 0 y31))) == 16) then
 bif (decide ((0 + (List.length (List.take 16 (List.drop 0 y31)))) ≤ (List.length y30))) then
 bif (decide (16 ≤ (List.length (((List.take 0 y30) ++ (List.take 16 (List.drop 0 y31))) ++ (List.drop (0 + (List.length (List.take 16 (List.drop 0 y31)))) y30))))) then
 some (List.take 16 (List.drop 0 (((List.take 0 y30) ++ (List.take 16 (List.drop 0 y31))) ++ (List.drop (0 + (List.length (List.take 16 (List.drop 0 y31)))) y30))))
 else none
 else none
 else none
 else none) N (0 : Int) y23 y24 ([(0 : Int), 0, 0, 0, 0, 0, 0, 0, 0, 0, 0, 0, 0, 0, 0, 0] : List Int)) N ((List.length a0) + (List.length r1)) (0 : Int) ([(0 : Int), 0, 0, 0, 0, 0, 0, 0, 0, 0, 0, 0, 0, 0, 0, 0] : List Int) (a0 ++ r1) (([] ++ r2) ++ (List.drop (0 + (List.length r2)) [(0 : Int), 0, 0, 0]))
 else none
 else none
 else none
 else none

/-- unicode/utf8.word[string] -/
def p401 (N : Nat) (a0 : List UInt8) : Option Int :=
  match geti a0 (0 : Int) with
 | none => none
 | some x1 =>
 match geti a0 (1 : Int) with
 | none => none
 | some x2 =>
 match geti a0 (2 : Int) with
 | none => none
 | some x3 =>
 match geti a0 (3 : Int) with
 | none => none
 | some x4 =>
 match geti a0 (4 : Int) with
 | none => none
 | some x5 =>
 match geti a0 (5 : Int) with
 | none => none
 | some x6 =>
 match geti a0 (6 : Int) with
 | none => none
 | some x7 =>
 match geti a0 (7 : Int) with
 | none => none
 | some x8 =>
 some (ior .u64 (ior .u64 (ior .u64 (ior .u64 (ior .u64 (ior .u64 (ior .u64 (IntKind.wrap .u64 ((UInt8.toNat x1 : Nat) : Int)) (ishl .u64 (IntKind.wrap .u64 ((UInt8.toNat x2 : Nat) : Int)) (8 : Int))) (ishl .u64 (IntKind.wrap .u64 ((UInt8.toNat x3 : Nat) : Int)) (16 : Int))) (ishl .u64 (IntKind.wrap .u64 ((UInt8.toNat x4 : Nat) : Int)) (24 : Int))) (ishl .u64 (IntKind.wrap .u64 ((UInt8.toNat x5 : Nat) : Int)) (32 : Int))) (ishl .u64 (IntKind.wrap .u64 ((UInt8.toNat x6 : Nat) : Int)) (40 : Int))) (ishl .u64 (IntKind.wrap .u64 ((UInt8.toNat x7 : Nat) : Int)) (48 : Int))) (ishl .u64 (IntKind.wrap .u64 ((UInt8.toNat x8 : Nat) : Int)) (56 : Int)))

def L396_1 (c401 : D401) (N : Nat) (q1_2 : List UInt8 → Option Bool) : Nat → List UInt8 → Option Bool
  | 0, _ => none
  | n1 + 1, v6 =>
    bif (decide ((((List.length v6) : Nat) : Int) > (32 : Int))) then
 match c401 v6 with
 | none => none
 | some r7 =>
 bif (decide ((8 : Int) ≤ (((List.length v6) : Nat) : Int))) then
 match c401 (List.take ((List.length v6) - 8) (List.drop 8 v6)) with
 | none => none
 | some r8 =>
 bif (decide ((16 : Int) ≤ (((List.length v6) : Nat) : Int))) then
 match c401 (List.take ((List.length v6) - 16) (List.drop 16 v6)) with
 | none => none
 | some r9 =>
 bif (decide ((24 : Int) ≤ (((List.length v6) : Nat) : Int))) then
 match c401 (List.take ((List.length v6) - 24) (List.drop 24 v6)) with
 | none => none
 | some r10 =>
 bif ((iand .u64 (ior .u64 (ior .u64 r7 r8) (ior .u64 r9 r10)) (9259542123273814144 : Int)) == (0 : Int)) then
 bif (decide ((32 : Int) ≤ (((List.length v6) : Nat) : Int))) then
 L396_1 c401 N q1_2 n1 (List.take ((List.length v6) - 32) (List.drop 32 v6))
 else none
 else
 q1_2 v6
 else none
 else none
 else none
 else
 q1_2 v6
def L396_0 (c401 : D401) (N : Nat) (q0_0 : Option Bool) : Nat → List UInt8 → Option Bool
  | 0, _ => none
  | n0 + 1, v1 =>
    bif (decide ((((List.length v1) : Nat) : Int) > (0 : Int))) then
 match geti v1 (0 : Int) with
 | none => none
 | some x2 =>
 bif (decide (((UInt8.toNat x2 : Nat) : Int) < (128 : Int))) then
 bif (decide ((1 : Int) ≤ (((List.length v1) : Nat) : Int))) then
 bif (decide ((((List.length (List.take ((List.length v1) - 1) (List.drop 1 v1))) : Nat) : Int) > (8 : Int))) then
 match c401 (List.take ((List.length v1) - 1) (List.drop 1 v1)) with
 | none => none
 | some r3 =>
 bif ((iand .u64 r3 (9259542123273814144 : Int)) == (0 : Int)) then
 bif (decide ((8 : Int) ≤ (((List.length (List.take ((List.length v1) - 1) (List.drop 1 v1))) : Nat) : Int))) then
 bif (decide ((((List.length (List.take ((List.length (List.take ((List.length v1) - 1) (List.drop 1 v1))) - 8) (List.drop 8 (List.take ((List.length v1) - 1) (List.drop 1 v1))))) : Nat) : Int) > (16 : Int))) then
 match c401 (List.take ((List.length (List.take ((List.length v1) - 1) (List.drop 1 v1))) - 8) (List.drop 8 (List.take ((List.length v1) - 1) (List.drop 1 v1)))) with
 | none => none
 | some r4 =>
 bif (decide ((8 : Int) ≤ (((List.length (List.take ((List.length (List.take ((List.length v1) - 1) (List.drop 1 v1))) - 8) (List.drop 8 (List.take ((List.length v1) - 1) (List.drop 1 v1))))) : Nat) : Int))) then
 match c401 (List.take ((List.length (List.take ((List.length (List.take ((List.length v1) - 1) (List.drop 1 v1))) - 8) (List.drop 8 (List.take ((List.length v1) - 1) (List.drop 1 v1))))) - 8) (List.drop 8 (List.take ((List.length (List.take ((List.length v1) - 1) (List.drop 1 v1))) - 8) (List.drop 8 (List.take ((List.length v1) - 1) (List.drop 1 v1)))))) with
 | none => none
 | some r5 =>
 bif ((iand .u64 (ior .u64 r4 r5) (9259542123273814144 : Int)) == (0 : Int)) then
 bif (decide ((16 : Int) ≤ (((List.length (List.take ((List.length (List.take ((List.length v1) - 1) (List.drop 1 v1))) - 8) (List.drop 8 (List.take ((List.length v1) - 1) (List.drop 1 v1))))) : Nat) : Int))) then
 L396_1 c401 N (fun (y11 : List UInt8) =>
 L396_0 c401 N q0_0 n0 y11) N (List.take ((List.length (List.take ((List.length (List.take ((List.length v1) - 1) (List.drop 1 v1))) - 8) (List.drop 8 (List.take ((List.length v1) - 1) (List.drop 1 v1))))) - 16) (List.drop 16 (List.take ((List.length (List.take ((List.length v1) - 1) (List.drop 1 v1))) - 8) (List.drop 8 (List.take ((List.length v1) - 1) (List.drop 1 v1))))))
 else none
 else
 L396_0 c401 N q0_0 n0 (List.take ((List.length (List.take ((List.length v1) - 1) (List.drop 1 v1))) - 8) (List.drop 8 (List.take ((List.length v1) - 1) (List.drop 1 v1))))
 else none
 else
 L396_0 c401 N q0_0 n0 (List.take ((List.length (List.take ((List.length v1) - 1) (List.drop 1 v1))) - 8) (List.drop 8 (List.take ((List.length v1) - 1) (List.drop 1 v1))))
 else none
 else
 L396_0 c401 N q0_0 n0 (List.take ((List.length v1) - 1) (List.drop 1 v1))
 else
 L396_0 c401 N q0_0 n0 (List.take ((List.length v1) - 1) (List.drop 1 v1))
 else none
 else
 bif ((decide ((0 : Int) ≤ ((UInt8.toNat x2 : Nat) : Int))) && (decide (((UInt8.toNat x2 : Nat) : Int) < (256 : Int)))) then
 match ((List.drop ((Int.toNat ((UInt8.toNat x2 : Nat) : Int)) * 1) vt0))[0]? with
 | none => none
 | some x12 =>
 bif ((decide ((0 : Int) ≤ (ishr .u8 x12 (4 : Int)))) && (decide ((ishr .u8 x12 (4 : Int)) < (16 : Int)))) then
 bif (decide (2 ≤ (List.length (List.drop ((Int.toNat (ishr .u8 x12 (4 : Int))) * 2) vt1)))) then
 bif ((List.length (List.take 2 (List.drop 0 (List.drop ((Int.toNat (ishr .u8 x12 (4 : Int))) * 2) vt1)))) == 2) then
 bif (decide ((0 + (List.length (List.take 2 (List.drop 0 (List.drop ((Int.toNat (ishr .u8 x12 (4 : Int))) * 2) vt1))))) ≤ 2)) then
 bif ((IntKind.wrap .i64 (iand .u8 x12 (7 : Int))) == (2 : Int)) then
 bif (decide ((((List.length v1) : Nat) : Int) < (2 : Int))) then
 some false
 else
 match geti v1 (1 : Int) with
 | none => none
 | some x13 =>
 match ((([] ++ (List.take 2 (List.drop 0 (List.drop ((Int.toNat (ishr .u8 x12 (4 : Int))) * 2) vt1)))) ++ (List.drop (0 + (List.length (List.take 2 (List.drop 0 (List.drop ((Int.toNat (ishr .u8 x12 (4 : Int))) * 2) vt1))))) [(0 : Int), 0])))[0]? with
 | none => none
 | some x14 =>
 bif (decide (((UInt8.toNat x13 : Nat) : Int) < x14)) then
 some false
 else
 match ((([] ++ (List.take 2 (List.drop 0 (List.drop ((Int.toNat (ishr .u8 x12 (4 : Int))) * 2) vt1)))) ++ (List.drop (0 + (List.length (List.take 2 (List.drop 0 (List.drop ((Int.toNat (ishr .u8 x12 (4 : Int))) * 2) vt1))))) [(0 : Int), 0])))[1]? with
 | none => none
 | some x15 =>
 match geti v1 (1 : Int) with
 | none => none
 | some x16 =>
 bif (decide (x15 < ((UInt8.toNat x16 : Nat) : Int))) then
 some false
 else
 bif (decide ((2 : Int) ≤ (((List.length v1) : Nat) : Int))) then
 L396_0 c401 N q0_0 n0 (List.take ((List.length v1) - 2) (List.drop 2 v1))
 else none
 else
 bif ((IntKind.wrap .i64 (iand .u8 x12 (7 : Int))) == (3 : Int)) then
 bif (decide ((((List.length v1) : Nat) : Int) < (3 : Int))) then
 some false
 else
 match geti v1 (1 : Int) with
 | none => none
 | some x17 =>
 match ((([] ++ (List.take 2 (List.drop 0 (List.drop ((Int.toNat (ishr .u8 x12 (4 : Int))) * 2) vt1)))) ++ (List.drop (0 + (List.length (List.take 2 (List.drop 0 (List.drop ((Int.toNat (ishr .u8 x12 (4 : Int))) * 2) vt1))))) [(0 : Int), 0])))[0]? with
 | none => none
 | some x18 =>
 bif (decide (((UInt8.toNat x17 : Nat) : Int) < x18)) then
 some false
 else
 match ((([] ++ (List.take 2 (List.drop 0 (List.drop ((Int.toNat (ishr .u8 x12 (4 : Int))) * 2) vt1)))) ++ (List.drop (0 + (List.length (List.take 2 (List.drop 0 (List.drop ((Int.toNat (ishr .u8 x12 (4 : Int))) * 2) vt1))))) [(0 : Int), 0])))[1]? with
 | none => none
 | some x19 =>
 match geti v1 (1 : Int) with
 | none => none
 | some x20 =>
 bif (decide (x19 < ((UInt8.toNat x20 : Nat) : Int))) then
 some false
 else
 match geti v1 (2 : Int) with
 | none => none
 | some x21 =>
 bif (decide (((UInt8.toNat x21 : Nat) : Int) < (128 : Int))) then
 some false
 else
 match geti v1 (2 : Int) with
 | none => none
 | some x22 =>
 bif (decide ((191 : Int) < ((UInt8.toNat x22 : Nat) : Int))) then
 some false
 else
 bif (decide ((3 : Int) ≤ (((List.length v1) : Nat) : Int))) then
 L396_0 c401 N q0_0 n0 (List.take ((List.length v1) - 3) (List.drop 3 v1))
 else none
 else
 bif ((IntKind.wrap .i64 (iand .u8 x12 (7 : Int))) == (4 : Int)) then
 bif (decide ((((List.length v1) : Nat) : Int) < (4 : Int))) then
 some false
 else
 match geti v1 (1 : Int) with
 | none => none
 | some x23 =>
 match ((([] ++ (List.take 2 (List.drop 0 (List.drop ((Int.toNat (ishr .u8 x12 (4 : Int))) * 2) vt1)))) ++ (List.drop (0 + (List.length (List.take 2 (List.drop 0 (List.drop ((Int.toNat (ishr .u8 x12 (4 : Int))) * 2) vt1))))) [(0 : Int), 0])))[0]? with
 | none => none
 | some x24 =>
 bif (decide (((UInt8.toNat x23 : Nat) : Int) < x24)) then
 some false
 else
 match ((([] ++ (List.take 2 (List.drop 0 (List.drop ((Int.toNat (ishr .u8 x12 (4 : Int))) * 2) vt1)))) ++ (List.drop (0 + (List.length (List.take 2 (List.drop 0 (List.drop ((Int.toNat (ishr .u8 x12 (4 : Int))) * 2) vt1))))) [(0 : Int), 0])))[1]? with
 | none => none
 | some x25 =>
 match geti v1 (1 : Int) with
 | none => none
 | some x26 =>
 bif (decide (x25 < ((UInt8.toNat x26 : Nat) : Int))) then
 some false
 else
 match geti v1 (2 : Int) with
 | none => none
 | some x27 =>
 bif (decide (((UInt8.toNat x27 : Nat) : Int) < (128 : Int))) then
 some false
 else
 match geti v1 (2 : Int) with
 | none => none
 | some x28 =>
 bif (decide ((191 : Int) < ((UInt8.toNat x28 : Nat) : Int))) then
 some false
 else
 match geti v1 (3 : Int) with
 | none => none
 | some x29 =>
 bif (decide (((UInt8.toNat x29 : Nat) : Int) < (128 : Int))) then
 some false
 else
 match geti v1 (3 : Int) with
 | none => none
 | some x30 =>
 bif (decide ((191 : Int) < ((UInt8.toNat x30 : Nat) : Int))) then
 some false
 else
 bif (decide ((4 : Int) ≤ (((List.length v1) : Nat) : Int))) then
 L396_0 c401 N q0_0 n0 (List.take ((List.length v1) - 4) (List.drop 4 v1))
 else none
 else
 some false
 else none
 else none
 else none
 else none
 else none
 else
 q0_0
/-- unicode/utf8.ValidString -/
def p396 (c401 : D401) (N : Nat) (a0 : List UInt8) : Option Bool :=
  L396_0 c401 N (
 some true) N a0

def L397_0 (N : Nat) (q0_0 : Int → Option Int) : Nat → Int → List UInt8 → Nat → Option Int
  | 0, _, _, _ => none
  | n0 + 1, v1, v2, v3 =>
    bif (decide (v3 < (List.length v2))) then
 L397_0 N q0_0 n0 (iadd .i64 v1 (1 : Int)) v2 (v3 + (Utf8.decode ⟨List.toArray v2⟩ v3).2)
 else
 q0_0 v1
/-- unicode/utf8.RuneCountInString -/
def p397 (N : Nat) (a0 : List UInt8) : Option Int :=
  L397_0 N (fun (y4 : Int) =>
 some y4) N (0 : Int) a0 0

/-- euphroe/utf16.May -/
def p391 (c396 : D396) (c397 : D397) (N : Nat) (a0 : List UInt8) : Option Int :=
  match c396 a0 with
 | none => none
 | some r1 =>
 bif (!r1) then
 some (3 : Int)
 else
 match c397 a0 with
 | none => none
 | some r2 =>
 bif (decide (r2 > (64 : Int))) then
 some (8 : Int)
 else
 some (0 : Int)

def L392_0 (c391 : D391) (N : Nat) (q0_0 : Nat → List Int → Option (List Int)) : Nat → Nat → List Int → List UInt8 → Nat → Option (List Int)
  | 0, _, _, _, _ => none
  | n0 + 1, v2, v3, v4, v5 =>
    bif (decide (v5 < (List.length v4))) then
 bif (decide ((((Utf8.decode ⟨List.toArray v4⟩ v5).1 : Nat) : Int) < (65536 : Int))) then
 bif (((List.length v3) == (v2 * 1)) && ((decide (((v2 + 1) * 2) ≤ 1099511627776)) && (decide ((v2 + 1) ≤ 1099511627776)))) then
 L392_0 c391 N q0_0 n0 (v2 + 1) (v3 ++ [(IntKind.wrap .u16 (((Utf8.decode ⟨List.toArray v4⟩ v5).1 : Nat) : Int))]) v4 (v5 + (Utf8.decode ⟨List.toArray v4⟩ v5).2)
 else none
 else
 bif (((List.length v3) == (v2 * 1)) && ((decide (((v2 + 2) * 2) ≤ 1099511627776)) && (decide ((v2 + 2) ≤ 1099511627776)))) then
 L392_0 c391 N q0_0 n0 (v2 + 2) (v3 ++ [(IntKind.wrap .u16 (ior .i32 (55296 : Int) (ishr .i32 (isub .i32 (((Utf8.decode ⟨List.toArray v4⟩ v5).1 : Nat) : Int) (65536 : Int)) (10 : Int)))), (IntKind.wrap .u16 (ior .i32 (56320 : Int) (iand .i32 (isub .i32 (((Utf8.decode ⟨List.toArray v4⟩ v5).1 : Nat) : Int) (65536 : Int)) (1023 : Int))))]) v4 (v5 + (Utf8.decode ⟨List.toArray v4⟩ v5).2)
 else none
 else
 q0_0 v2 v3
/-- euphroe/utf16.Units -/
def p392 (c391 : D391) (N : Nat) (a0 : List UInt8) : Option (List Int) :=
  match c391 a0 with
 | none => none
 | some r1 =>
 bif (r1 != (0 : Int)) then
 some ([] : List Int)
 else
 L392_0 c391 N (fun (y6 : Nat) (y7 : List Int) =>
 bif (decide ((0 + (y6 * 1)) ≤ (List.length y7))) then
 some (List.take y6 (List.drop 0 y7))
 else none) N 0 ([] : List Int) a0 0

def L387_0 (c391 : D391) (c392 : D392) (c19 : D19) (N : Nat) (q0_0 : Nat → List Int → Option ((List Int) × Int)) : Nat → Nat → List Int → Int → Int → List Int → Option ((List Int) × Int)
  | 0, _, _, _, _, _ => none
  | n0 + 1, v3, v4, v5, v6, v7 =>
    bif (decide (v6 < v5)) then
 match geti v4 v6 with
 | none => none
 | some x8 =>
 match c19 (IntKind.wrap .u64 x8) (2 : Int) true with
 | none => none
 | some r9 =>
 bif (((List.length v7) == (v3 * 1)) && ((decide (((v3 + (List.length r9.1)) * 1) ≤ 1099511627776)) && (decide ((v3 + (List.length r9.1)) ≤ 1099511627776)))) then
 L387_0 c391 c392 c19 N q0_0 n0 (v3 + (List.length r9.1)) v4 v5 (iadd .i64 v6 (1 : Int)) (v7 ++ r9.1)
 else none
 else
 q0_0 v3 v7
/-- euphroe/utf16.Lay -/
def p387 (c391 : D391) (c392 : D392) (c19 : D19) (N : Nat) (a0 : List UInt8) : Option ((List Int) × Int) :=
  match c391 a0 with
 | none => none
 | some r1 =>
 bif (r1 != (0 : Int)) then
 some (([] : List Int), r1)
 else
 match c392 a0 with
 | none => none
 | some r2 =>
 L387_0 c391 c392 c19 N (fun (y10 : Nat) (y11 : List Int) =>
 bif (decide ((0 + (y10 * 1)) ≤ (List.length y11))) then
 some ((List.take y10 (List.drop 0 y11)), (0 : Int))
 else none) N 0 r2 (((List.length r2) : Nat) : Int) (0 : Int) ([] : List Int)

/-- euphroe/nthash.Of -/
def p370 (c387 : D387) (c181 : D181) (N : Nat) (a0 : List UInt8) : Option ((List Int) × Int) :=
  match c387 a0 with
 | none => none
 | some r1 =>
 bif (r1.2 != (0 : Int)) then
 some (([(0 : Int), 0, 0, 0, 0, 0, 0, 0, 0, 0, 0, 0, 0, 0, 0, 0] : List Int), r1.2)
 else
 match c181 ([r1.1] : List (List Int)) with
 | none => none
 | some r2 =>
 bif ((List.length r2) == 16) then
 bif (decide ((0 + (List.length r2)) ≤ 16)) then
 bif (decide (16 ≤ (List.length (([] ++ r2) ++ (List.drop (0 + (List.length r2)) [(0 : Int), 0, 0, 0, 0, 0, 0, 0, 0, 0, 0, 0, 0, 0, 0, 0]))))) then
 some ((List.take 16 (List.drop 0 (([] ++ r2) ++ (List.drop (0 + (List.length r2)) [(0 : Int), 0, 0, 0, 0, 0, 0, 0, 0, 0, 0, 0, 0, 0, 0, 0])))), (0 : Int))
 else none
 else none
 else none

/-- euphroe/nthash.Twice -/
def p372 (c181 : D181) (N : Nat) (a0 : List Int) : Option (List Int) :=
  bif (decide (16 ≤ (List.length a0))) then
 bif (decide (16 ≤ (List.length a0))) then
 match c181 ([(List.take 16 (List.drop 0 a0))] : List (List Int)) with
 | none => none
 | some r1 =>
 bif ((List.length r1) == 16) then
 bif (decide ((0 + (List.length r1)) ≤ 16)) then
 bif (decide (16 ≤ (List.length (([] ++ r1) ++ (List.drop (0 + (List.length r1)) [(0 : Int), 0, 0, 0, 0, 0, 0, 0, 0, 0, 0, 0, 0, 0, 0, 0]))))) then
 some (List.take 16 (List.drop 0 (([] ++ r1) ++ (List.drop (0 + (List.length r1)) [(0 : Int), 0, 0, 0, 0, 0, 0, 0, 0, 0, 0, 0, 0, 0, 0, 0]))))
 else none
 else none
 else none
 else none
 else none

/-- euphroe/euphroelaw10.alive -/
def p369 (c370 : D370) (c372 : D372) (N : Nat)  : Option Bool :=
  match c370 ([(99 : UInt8), (108 : UInt8), (105 : UInt8), (101 : UInt8), (110 : UInt8), (116 : UInt8), (80 : UInt8), (97 : UInt8), (115 : UInt8), (115 : UInt8)] : List UInt8) with
 | none => none
 | some r1 =>
 bif ((List.length r1.1) == 16) then
 bif (decide ((0 + (List.length r1.1)) ≤ 16)) then
 match ((([] ++ r1.1) ++ (List.drop (0 + (List.length r1.1)) [(0 : Int), 0, 0, 0, 0, 0, 0, 0, 0, 0, 0, 0, 0, 0, 0, 0])))[0]? with
 | none => none
 | some x2 =>
 bif (x2 == (68 : Int)) then
 match ((([] ++ r1.1) ++ (List.drop (0 + (List.length r1.1)) [(0 : Int), 0, 0, 0, 0, 0, 0, 0, 0, 0, 0, 0, 0, 0, 0, 0])))[1]? with
 | none => none
 | some x3 =>
 bif (x3 == (235 : Int)) then
 match ((([] ++ r1.1) ++ (List.drop (0 + (List.length r1.1)) [(0 : Int), 0, 0, 0, 0, 0, 0, 0, 0, 0, 0, 0, 0, 0, 0, 0])))[15]? with
 | none => none
 | some x4 =>
 bif (x4 == (174 : Int)) then
 bif (r1.2 == (0 : Int)) then
 bif (decide (16 ≤ (List.length (([] ++ r1.1) ++ (List.drop (0 + (List.length r1.1)) [(0 : Int), 0, 0, 0, 0, 0, 0, 0, 0, 0, 0, 0, 0, 0, 0, 0]))))) then
 match c372 (List.take 16 (List.drop 0 (([] ++ r1.1) ++ (List.drop (0 + (List.length r1.1)) [(0 : Int), 0, 0, 0, 0, 0, 0, 0, 0, 0, 0, 0, 0, 0, 0, 0])))) with
 | none => none
 | some r5 =>
 match (r5)[0]? with
 | none => none
 | some x6 =>
 some (x6 == (65 : Int))
 else none
 else
 some false
 else
 some false
 else
 some false
 else
 some false
 else none
 else none

/-- euphroe/euphroeref09.more -/
def p404 (N : Nat) (a0 : List UInt8) (a1 : Int) : Option (Int × Bool) :=
  bif (decide (a1 ≥ (((List.length a0) : Nat) : Int))) then
 some ((0 : Int), false)
 else
 match geti a0 a1 with
 | none => none
 | some x1 =>
 bif (decide (((UInt8.toNat x1 : Nat) : Int) < (128 : Int))) then
 some ((0 : Int), false)
 else
 match geti a0 a1 with
 | none => none
 | some x2 =>
 bif (decide (((UInt8.toNat x2 : Nat) : Int) > (191 : Int))) then
 some ((0 : Int), false)
 else
 match geti a0 a1 with
 | none => none
 | some x3 =>
 some ((isub .i64 (IntKind.wrap .i64 ((UInt8.toNat x3 : Nat) : Int)) (128 : Int)), true)

def L402_0 (c404 : D404) (N : Nat) (q0_1 : Int → Int → Int → Option (Int × Int)) : Nat → List UInt8 → Int → Int → Int → Int → Int → Option (Int × Int)
  | 0, _, _, _, _, _, _ => none
  | n0 + 1, v2, v3, v4, v5, v6, v7 =>
    bif (decide (v7 ≤ v4)) then
 match c404 v2 (iadd .i64 v3 v7) with
 | none => none
 | some r8 =>
 bif (!r8.2) then
 some ((0 : Int), (0 : Int))
 else
 L402_0 c404 N q0_1 n0 v2 v3 v4 (iadd .i64 (imul .i64 (64 : Int) v5) r8.1) v6 (iadd .i64 v7 (1 : Int))
 else
 q0_1 v4 v5 v6
/-- euphroe/euphroeref09.sign -/
def p402 (c404 : D404) (N : Nat) (a0 : List UInt8) (a1 : Int) : Option (Int × Int) :=
  match geti a0 a1 with
 | none => none
 | some x1 =>
 bif (decide ((IntKind.wrap .i64 ((UInt8.toNat x1 : Nat) : Int)) < (128 : Int))) then
 some ((IntKind.wrap .i64 ((UInt8.toNat x1 : Nat) : Int)), (1 : Int))
 else
 bif (decide ((IntKind.wrap .i64 ((UInt8.toNat x1 : Nat) : Int)) ≥ (192 : Int))) then
 bif (decide ((IntKind.wrap .i64 ((UInt8.toNat x1 : Nat) : Int)) < (224 : Int))) then
 L402_0 c404 N (fun (y9 : Int) (y10 : Int) (y11 : Int) =>
 bif (decide (y10 < y11)) then
 some ((0 : Int), (0 : Int))
 else
 bif (decide (y10 > (1114111 : Int))) then
 some ((0 : Int), (0 : Int))
 else
 bif (decide (y10 ≥ (55296 : Int))) then
 bif (decide (y10 ≤ (57343 : Int))) then
 some ((0 : Int), (0 : Int))
 else
 some (y10, (iadd .i64 y9 (1 : Int)))
 else
 some (y10, (iadd .i64 y9 (1 : Int)))) N a0 a1 (1 : Int) (isub .i64 (IntKind.wrap .i64 ((UInt8.toNat x1 : Nat) : Int)) (192 : Int)) (128 : Int) (1 : Int)
 else
 bif (decide ((IntKind.wrap .i64 ((UInt8.toNat x1 : Nat) : Int)) ≥ (224 : Int))) then
 bif (decide ((IntKind.wrap .i64 ((UInt8.toNat x1 : Nat) : Int)) < (240 : Int))) then
 L402_0 c404 N (fun (y12 : Int) (y13 : Int) (y14 : Int) =>
 bif (decide (y13 < y14)) then
 some ((0 : Int), (0 : Int))
 else
 bif (decide (y13 > (1114111 : Int))) then
 some ((0 : Int), (0 : Int))
 else
 bif (decide (y13 ≥ (55296 : Int))) then
 bif (decide (y13 ≤ (57343 : Int))) then
 some ((0 : Int), (0 : Int))
 else
 some (y13, (iadd .i64 y12 (1 : Int)))
 else
 some (y13, (iadd .i64 y12 (1 : Int)))) N a0 a1 (2 : Int) (isub .i64 (IntKind.wrap .i64 ((UInt8.toNat x1 : Nat) : Int)) (224 : Int)) (2048 : Int) (1 : Int)
 else
 bif (decide ((IntKind.wrap .i64 ((UInt8.toNat x1 : Nat) : Int)) ≥ (240 : Int))) then
 bif (decide ((IntKind.wrap .i64 ((UInt8.toNat x1 : Nat) : Int)) < (248 : Int))) then
 L402_0 c404 N (fun (y15 : Int) (y16 : Int) (y17 : Int) =>
 bif (decide (y16 < y17)) then
 some ((0 : Int), (0 : Int))
 else
 bif (decide (y16 > (1114111 : Int))) then
 some ((0 : Int), (0 : Int))
 else
 bif (decide (y16 ≥ (55296 : Int))) then
 bif (decide (y16 ≤ (57343 : Int))) then
 some ((0 : Int), (0 : Int))
 else
 some (y16, (iadd .i64 y15 (1 : Int)))
 else
 some (y16, (iadd .i64 y15 (1 : Int)))) N a0 a1 (3 : Int) (isub .i64 (IntKind.wrap .i64 ((UInt8.toNat x1 : Nat) : Int)) (240 : Int)) (65536 : Int) (1 : Int)
 else
 some ((0 : Int), (0 : Int))
 else
 some ((0 : Int), (0 : Int))
 else
 bif (decide ((IntKind.wrap .i64 ((UInt8.toNat x1 : Nat) : Int)) ≥ (240 : Int))) then
 bif (decide ((IntKind.wrap .i64 ((UInt8.toNat x1 : Nat) : Int)) < (248 : Int))) then
 L402_0 c404 N (fun (y18 : Int) (y19 : Int) (y20 : Int) =>
 bif (decide (y19 < y20)) then
 some ((0 : Int), (0 : Int))
 else
 bif (decide (y19 > (1114111 : Int))) then
 some ((0 : Int), (0 : Int))
 else
 bif (decide (y19 ≥ (55296 : Int))) then
 bif (decide (y19 ≤ (57343 : Int))) then
 some ((0 : Int), (0 : Int))
 else
 some (y19, (iadd .i64 y18 (1 : Int)))
 else
 some (y19, (iadd .i64 y18 (1 : Int)))) N a0 a1 (3 : Int) (isub .i64 (IntKind.wrap .i64 ((UInt8.toNat x1 : Nat) : Int)) (240 : Int)) (65536 : Int) (1 : Int)
 else
 some ((0 : Int), (0 : Int))
 else
 some ((0 : Int), (0 : Int))
 else
 bif (decide ((IntKind.wrap .i64 ((UInt8.toNat x1 : Nat) : Int)) ≥ (224 : Int))) then
 bif (decide ((IntKind.wrap .i64 ((UInt8.toNat x1 : Nat) : Int)) < (240 : Int))) then
 L402_0 c404 N (fun (y21 : Int) (y22 : Int) (y23 : Int) =>
 bif (decide (y22 < y23)) then
 some ((0 : Int), (0 : Int))
 else
 bif (decide (y22 > (1114111 : Int))) then
 some ((0 : Int), (0 : Int))
 else
 bif (decide (y22 ≥ (55296 : Int))) then
 bif (decide (y22 ≤ (57343 : Int))) then
 some ((0 : Int), (0 : Int))
 else
 some (y22, (iadd .i64 y21 (1 : Int)))
 else
 some (y22, (iadd .i64 y21 (1 : Int)))) N a0 a1 (2 : Int) (isub .i64 (IntKind.wrap .i64 ((UInt8.toNat x1 : Nat) : Int)) (224 : Int)) (2048 : Int) (1 : Int)
 else
 bif (decide ((IntKind.wrap .i64 ((UInt8.toNat x1 : Nat) : Int)) ≥ (240 : Int))) then
 bif (decide ((IntKind.wrap .i64 ((UInt8.toNat x1 : Nat) : Int)) < (248 : Int))) then
 L402_0 c404 N (fun (y24 : Int) (y25 : Int) (y26 : Int) =>
 bif (decide (y25 < y26)) then
 some ((0 : Int), (0 : Int))
 else
 bif (decide (y25 > (1114111 : Int))) then
 some ((0 : Int), (0 : Int))
 else
 bif (decide (y25 ≥ (55296 : Int))) then
 bif (decide (y25 ≤ (57343 : Int))) then
 some ((0 : Int), (0 : Int))
 else
 some (y25, (iadd .i64 y24 (1 : Int)))
 else
 some (y25, (iadd .i64 y24 (1 : Int)))) N a0 a1 (3 : Int) (isub .i64 (IntKind.wrap .i64 ((UInt8.toNat x1 : Nat) : Int)) (240 : Int)) (65536 : Int) (1 : Int)
 else
 some ((0 : Int), (0 : Int))
 else
 some ((0 : Int), (0 : Int))
 else
 bif (decide ((IntKind.wrap .i64 ((UInt8.toNat x1 : Nat) : Int)) ≥ (240 : Int))) then
 bif (decide ((IntKind.wrap .i64 ((UInt8.toNat x1 : Nat) : Int)) < (248 : Int))) then
 L402_0 c404 N (fun (y27 : Int) (y28 : Int) (y29 : Int) =>
 bif (decide (y28 < y29)) then
 some ((0 : Int), (0 : Int))
 else
 bif (decide (y28 > (1114111 : Int))) then
 some ((0 : Int), (0 : Int))
 else
 bif (decide (y28 ≥ (55296 : Int))) then
 bif (decide (y28 ≤ (57343 : Int))) then
 some ((0 : Int), (0 : Int))
 else
 some (y28, (iadd .i64 y27 (1 : Int)))
 else
 some (y28, (iadd .i64 y27 (1 : Int)))) N a0 a1 (3 : Int) (isub .i64 (IntKind.wrap .i64 ((UInt8.toNat x1 : Nat) : Int)) (240 : Int)) (65536 : Int) (1 : Int)
 else
 some ((0 : Int), (0 : Int))
 else
 some ((0 : Int), (0 : Int))

def L398_0 (c402 : D402) (N : Nat) (q0_0 : Nat → List Int → Option ((List Int) × Bool)) : Nat → List UInt8 → Nat → Int → List Int → Option ((List Int) × Bool)
  | 0, _, _, _, _ => none
  | n0 + 1, v1, v2, v3, v4 =>
    bif (decide (v3 < (((List.length v1) : Nat) : Int))) then
 match c402 v1 v3 with
 | none => none
 | some r5 =>
 bif (r5.2 == (0 : Int)) then
 some (([] : List Int), false)
 else
 bif (((List.length v4) == (v2 * 1)) && ((decide (((v2 + 1) * 8) ≤ 1099511627776)) && (decide ((v2 + 1) ≤ 1099511627776)))) then
 L398_0 c402 N q0_0 n0 v1 (v2 + 1) (iadd .i64 v3 r5.2) (v4 ++ [r5.1])
 else none
 else
 q0_0 v2 v4
/-- euphroe/euphroeref09.Signs -/
def p398 (c402 : D402) (N : Nat) (a0 : List UInt8) : Option ((List Int) × Bool) :=
  L398_0 c402 N (fun (y6 : Nat) (y7 : List Int) =>
 bif (decide ((0 + (y6 * 1)) ≤ (List.length y7))) then
 some ((List.take y6 (List.drop 0 y7)), true)
 else none) N a0 0 (0 : Int) ([] : List Int)

/-- euphroe/euphroeref09.May -/
def p393 (c398 : D398) (N : Nat) (a0 : List UInt8) : Option Int :=
  match c398 a0 with
 | none => none
 | some r1 =>
 bif (!r1.2) then
 some (3 : Int)
 else
 bif (decide ((((List.length r1.1) : Nat) : Int) > (64 : Int))) then
 some (8 : Int)
 else
 some (0 : Int)

def L394_0 (c393 : D393) (c398 : D398) (N : Nat) (q0_0 : Nat → List Int → Option (List Int)) : Nat → List Int → Nat → Int → List Int → Option (List Int)
  | 0, _, _, _, _ => none
  | n0 + 1, v3, v4, v5, v6 =>
    bif (decide (v5 < (((List.length v3) : Nat) : Int))) then
 match geti v3 v5 with
 | none => none
 | some x7 =>
 bif (decide (x7 < (65536 : Int))) then
 match geti v3 v5 with
 | none => none
 | some x8 =>
 bif (((List.length v6) == (v4 * 1)) && ((decide (((v4 + 1) * 2) ≤ 1099511627776)) && (decide ((v4 + 1) ≤ 1099511627776)))) then
 L394_0 c393 c398 N q0_0 n0 v3 (v4 + 1) (iadd .i64 v5 (1 : Int)) (v6 ++ [(IntKind.wrap .u16 x8)])
 else none
 else
 match geti v3 v5 with
 | none => none
 | some x9 =>
 bif (((List.length v6) == (v4 * 1)) && ((decide (((v4 + 2) * 2) ≤ 1099511627776)) && (decide ((v4 + 2) ≤ 1099511627776)))) then
 L394_0 c393 c398 N q0_0 n0 v3 (v4 + 2) (iadd .i64 v5 (1 : Int)) (v6 ++ [(IntKind.wrap .u16 (iadd .i64 (55296 : Int) (iquo .i64 (isub .i64 x9 (65536 : Int)) (1024 : Int)))), (IntKind.wrap .u16 (iadd .i64 (56320 : Int) (irem (isub .i64 x9 (65536 : Int)) (1024 : Int))))])
 else none
 else
 q0_0 v4 v6
/-- euphroe/euphroeref09.Units -/
def p394 (c393 : D393) (c398 : D398) (N : Nat) (a0 : List UInt8) : Option (List Int) :=
  match c393 a0 with
 | none => none
 | some r1 =>
 bif (r1 != (0 : Int)) then
 some ([] : List Int)
 else
 match c398 a0 with
 | none => none
 | some r2 =>
 L394_0 c393 c398 N (fun (y10 : Nat) (y11 : List Int) =>
 bif (decide ((0 + (y10 * 1)) ≤ (List.length y11))) then
 some (List.take y10 (List.drop 0 y11))
 else none) N r2.1 0 (0 : Int) ([] : List Int)

def L388_0 (c393 : D393) (c394 : D394) (N : Nat) (q0_0 : Nat → List Int → Option ((List Int) × Int)) : Nat → Nat → List Int → Int → List Int → Option ((List Int) × Int)
  | 0, _, _, _, _ => none
  | n0 + 1, v3, v4, v5, v6 =>
    bif (decide (v5 < (((List.length v4) : Nat) : Int))) then
 match geti v4 v5 with
 | none => none
 | some x7 =>
 match geti v4 v5 with
 | none => none
 | some x8 =>
 bif (((List.length v6) == (v3 * 1)) && ((decide (((v3 + 2) * 1) ≤ 1099511627776)) && (decide ((v3 + 2) ≤ 1099511627776)))) then
 L388_0 c393 c394 N q0_0 n0 (v3 + 2) v4 (iadd .i64 v5 (1 : Int)) (v6 ++ [(IntKind.wrap .u8 (irem x7 (256 : Int))), (IntKind.wrap .u8 (iquo .u16 x8 (256 : Int)))])
 else none
 else
 q0_0 v3 v6
/-- euphroe/euphroeref09.Lay -/
def p388 (c393 : D393) (c394 : D394) (N : Nat) (a0 : List UInt8) : Option ((List Int) × Int) :=
  match c393 a0 with
 | none => none
 | some r1 =>
 bif (r1 != (0 : Int)) then
 some (([] : List Int), r1)
 else
 match c394 a0 with
 | none => none
 | some r2 =>
 L388_0 c393 c394 N (fun (y9 : Nat) (y10 : List Int) =>
 bif (decide ((0 + (y9 * 1)) ≤ (List.length y10))) then
 some ((List.take y9 (List.drop 0 y10)), (0 : Int))
 else none) N 0 r2 (0 : Int) ([] : List Int)

/-- euphroe/euphroeref10.Of -/
def p371 (c388 : D388) (c182 : D182) (N : Nat) (a0 : List UInt8) : Option ((List Int) × Int) :=
  match c388 a0 with
 | none => none
 | some r1 =>
 bif (r1.2 != (0 : Int)) then
 some (([(0 : Int), 0, 0, 0, 0, 0, 0, 0, 0, 0, 0, 0, 0, 0, 0, 0] : List Int), r1.2)
 else
 match c182 r1.1 with
 | none => none
 | some r2 =>
 bif ((List.length r2) == 16) then
 bif (decide ((0 + (List.length r2)) ≤ 16)) then
 bif (decide (16 ≤ (List.length (([] ++ r2) ++ (List.drop (0 + (List.length r2)) [(0 : Int), 0, 0, 0, 0, 0, 0, 0, 0, 0, 0, 0, 0, 0, 0, 0]))))) then
 some ((List.take 16 (List.drop 0 (([] ++ r2) ++ (List.drop (0 + (List.length r2)) [(0 : Int), 0, 0, 0, 0, 0, 0, 0, 0, 0, 0, 0, 0, 0, 0, 0])))), (0 : Int))
 else none
 else none
 else none

/-- euphroe/euphroeref10.Twice -/
def p373 (c182 : D182) (N : Nat) (a0 : List Int) : Option (List Int) :=
  bif (decide (16 ≤ (List.length a0))) then
 bif (decide (16 ≤ (List.length a0))) then
 match c182 (List.take 16 (List.drop 0 a0)) with
 | none => none
 | some r1 =>
 bif ((List.length r1) == 16) then
 bif (decide ((0 + (List.length r1)) ≤ 16)) then
 bif (decide (16 ≤ (List.length (([] ++ r1) ++ (List.drop (0 + (List.length r1)) [(0 : Int), 0, 0, 0, 0, 0, 0, 0, 0, 0, 0, 0, 0, 0, 0, 0]))))) then
 some (List.take 16 (List.drop 0 (([] ++ r1) ++ (List.drop (0 + (List.length r1)) [(0 : Int), 0, 0, 0, 0, 0, 0, 0, 0, 0, 0, 0, 0, 0, 0, 0]))))
 else none
 else none
 else none
 else none
 else none

/-- euphroe/euphroelaw10.NthashOf -/
def p364 (c369 : D369) (c370 : D370) (c371 : D371) (c372 : D372) (c373 : D373) (N : Nat) (a0 : List UInt8) (a1 : List Int) : Option Bool :=
  bif (decide ((((List.length a0) : Nat) : Int) > (600 : Int))) then
 match c369 with
 | none => none
 | some r1 =>
 some r1
 else
 match c370 a0 with
 | none => none
 | some r2 =>
 bif ((List.length r2.1) == 16) then
 bif (decide ((0 + (List.length r2.1)) ≤ 16)) then
 match c371 a0 with
 | none => none
 | some r3 =>
 bif ((List.length r3.1) == 16) then
 bif (decide ((0 + (List.length r3.1)) ≤ 16)) then
 bif (decide (16 ≤ (List.length (([] ++ r2.1) ++ (List.drop (0 + (List.length r2.1)) [(0 : Int), 0, 0, 0, 0, 0, 0, 0, 0, 0, 0, 0, 0, 0, 0, 0]))))) then
 bif (decide (16 ≤ (List.length (([] ++ r3.1) ++ (List.drop (0 + (List.length r3.1)) [(0 : Int), 0, 0, 0, 0, 0, 0, 0, 0, 0, 0, 0, 0, 0, 0, 0]))))) then
 bif (((List.length (List.take 16 (List.drop 0 (([] ++ r2.1) ++ (List.drop (0 + (List.length r2.1)) [(0 : Int), 0, 0, 0, 0, 0, 0, 0, 0, 0, 0, 0, 0, 0, 0, 0]))))) == 16) && ((List.length (List.take 16 (List.drop 0 (([] ++ r3.1) ++ (List.drop (0 + (List.length r3.1)) [(0 : Int), 0, 0, 0, 0, 0, 0, 0, 0, 0, 0, 0, 0, 0, 0, 0]))))) == 16)) then
 bif ((List.take 16 (List.drop 0 (([] ++ r2.1) ++ (List.drop (0 + (List.length r2.1)) [(0 : Int), 0, 0, 0, 0, 0, 0, 0, 0, 0, 0, 0, 0, 0, 0, 0])))) == (List.take 16 (List.drop 0 (([] ++ r3.1) ++ (List.drop (0 + (List.length r3.1)) [(0 : Int), 0, 0, 0, 0, 0, 0, 0, 0, 0, 0, 0, 0, 0, 0, 0]))))) then
 bif (r2.2 == r3.2) then
 bif (decide (16 ≤ (List.length a1))) then
 match c372 (List.take 16 (List.drop 0 a1)) with
 | none => none
 | some r4 =>
 bif (decide (16 ≤ (List.length a1))) then
 match c373 (List.take 16 (List.drop 0 a1)) with
 | none => none
 | some r5 =>
 bif (((List.length r4) == 16) && ((List.length r5) == 16)) then
 bif (r4 == r5) then
 match c369 with
 | none => none
 | some r6 =>
 some r6
 else
 some false
 else none
 else none
 else none
 else
 some false
 else
 some false
 else none
 else none
 else none
 else none
 else none
 else none
 else none

/-- math/bits.Mul32 -/
def p403 (N : Nat) (a0 : Int) (a1 : Int) : Option (Int × Int) :=
  some ((IntKind.wrap .u32 (ishr .u64 (imul .u64 (IntKind.wrap .u64 a0) (IntKind.wrap .u64 a1)) (32 : Int))), (IntKind.wrap .u32 (imul .u64 (IntKind.wrap .u64 a0) (IntKind.wrap .u64 a1))))
end Go.Proofs.YtdlmhclopdkhcaaDoorE
