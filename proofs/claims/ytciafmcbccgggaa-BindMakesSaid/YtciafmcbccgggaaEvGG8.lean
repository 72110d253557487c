/- The functions as plain ones. -/
import Derived.Test.YtciafmcbccgggaaEvFG8
namespace Go.Proofs.YtciafmcbccgggaaE
open Go
set_option linter.unusedVariables false
set_option linter.unusedSimpArgs false
abbrev zz (n : Nat) : List Int := List.replicate n 0
abbrev D1 : Type := List (List Int) → Option (List Int)
/-- slices.Concat[[]byte,byte] -/
abbrev en1 (f : D1) : Ent := ⟨[(Sh.sl (Sh.sl (Sh.int .u8)))], List Int, fun v => f v.1, ownOut .u8⟩
abbrev O1 (f : D1) : Prop := EntOK FT XT 1 (en1 f)
abbrev D19 : Type := Int → Int → Bool → Option ((List Int) × Int)
/-- euphroe/octs.Put -/
abbrev en19 (f : D19) : Ent := ⟨[(Sh.int .u64), (Sh.int .i64), Sh.bool], ((Sh.tu (Sh.pr (Sh.sl (Sh.int .u8)) (Sh.int .i64)))).T, fun v => f v.1 v.2.1 v.2.2.1, fun r => (((Sh.tu (Sh.pr (Sh.sl (Sh.int .u8)) (Sh.int .i64)))).enc r, [])⟩
abbrev O19 (f : D19) : Prop := EntOK FT XT 19 (en19 f)
abbrev D21 : Type := List Int → Bool → Option (Int × Int)
/-- euphroe/octs.Get -/
abbrev en21 (f : D21) : Ent := ⟨[(Sh.sl (Sh.int .u8)), Sh.bool], ((Sh.tu (Sh.pr (Sh.int .u64) (Sh.int .i64)))).T, fun v => f v.1 v.2.1, fun r => (((Sh.tu (Sh.pr (Sh.int .u64) (Sh.int .i64)))).enc r, [])⟩
abbrev O21 (f : D21) : Prop := EntOK FT XT 21 (en21 f)
abbrev D46 : Type := List (List Int) → Option (List Int)
/-- euphroe/octs.Join -/
abbrev en46 (f : D46) : Ent := ⟨[(Sh.sl (Sh.sl (Sh.int .u8)))], List Int, fun v => f v.1, ownOut .u8⟩
abbrev O46 (f : D46) : Prop := EntOK FT XT 46 (en46 f)
abbrev D47 : Type := List Int → List Int → Option Bool
/-- euphroe/octs.Same -/
abbrev en47 (f : D47) : Ent := ⟨[(Sh.sl (Sh.int .u8)), (Sh.sl (Sh.int .u8))], (Sh.bool).T, fun v => f v.1 v.2.1, fun r => ((Sh.bool).enc r, [])⟩
abbrev O47 (f : D47) : Prop := EntOK FT XT 47 (en47 f)
abbrev D50 : Type := Int → Int → Option (List Int)
/-- euphroe/euphroeref01.Big -/
abbrev en50 (f : D50) : Ent := ⟨[(Sh.int .u64), (Sh.int .i64)], List Int, fun v => f v.1 v.2.1, ownOut .u8⟩
abbrev O50 (f : D50) : Prop := EntOK FT XT 50 (en50 f)
abbrev D75 : Type := Int → Int → Int → Option (Int × Int)
/-- euphroe/roots.Root -/
abbrev en75 (f : D75) : Ent := ⟨[(Sh.int .i64), (Sh.int .i64), (Sh.int .i64)], ((Sh.tu (Sh.pr (Sh.int .u64) (Sh.int .i64)))).T, fun v => f v.1 v.2.1 v.2.2.1, fun r => (((Sh.tu (Sh.pr (Sh.int .u64) (Sh.int .i64)))).enc r, [])⟩
abbrev O75 (f : D75) : Prop := EntOK FT XT 75 (en75 f)
abbrev D78 : Type := Int → Int → Option Int
/-- euphroe/roots.Frac -/
abbrev en78 (f : D78) : Ent := ⟨[(Sh.int .i64), (Sh.int .i64)], ((Sh.int .u32)).T, fun v => f v.1 v.2.1, fun r => (((Sh.int .u32)).enc r, [])⟩
abbrev O78 (f : D78) : Prop := EntOK FT XT 78 (en78 f)
abbrev D81 : Type := Int → Option (List Int)
/-- euphroe/roots.Primes -/
abbrev en81 (f : D81) : Ent := ⟨[(Sh.int .i64)], ((Sh.sl (Sh.int .i64))).T, fun v => f v.1, fun r => (((Sh.sl (Sh.int .i64))).enc r, [])⟩
abbrev O81 (f : D81) : Prop := EntOK FT XT 81 (en81 f)
abbrev D83 : Type := Int → Int → Option (List Int)
/-- euphroe/roots.Fracs -/
abbrev en83 (f : D83) : Ent := ⟨[(Sh.int .i64), (Sh.int .i64)], ((Sh.sl (Sh.int .u32))).T, fun v => f v.1 v.2.1, fun r => (((Sh.sl (Sh.int .u32))).enc r, [])⟩
abbrev O83 (f : D83) : Prop := EntOK FT XT 83 (en83 f)
abbrev D100 : Type := Int → Int → Int → Option Bool
/-- euphroe/roots.may -/
abbrev en100 (f : D100) : Ent := ⟨[(Sh.int .i64), (Sh.int .i64), (Sh.int .i64)], (Sh.bool).T, fun v => f v.1 v.2.1 v.2.2.1, fun r => ((Sh.bool).enc r, [])⟩
abbrev O100 (f : D100) : Prop := EntOK FT XT 100 (en100 f)
abbrev D101 : Type := Int → Int → Option Int
/-- euphroe/roots.full -/
abbrev en101 (f : D101) : Ent := ⟨[(Sh.int .i64), (Sh.int .i64)], ((Sh.int .u64)).T, fun v => f v.1 v.2.1, fun r => (((Sh.int .u64)).enc r, [])⟩
abbrev O101 (f : D101) : Prop := EntOK FT XT 101 (en101 f)
abbrev D116 : Type := Int → Int → Int → Option Bool
/-- euphroe/roots.fits -/
abbrev en116 (f : D116) : Ent := ⟨[(Sh.int .u64), (Sh.int .u64), (Sh.int .i64)], (Sh.bool).T, fun v => f v.1 v.2.1 v.2.2.1, fun r => ((Sh.bool).enc r, [])⟩
abbrev O116 (f : D116) : Prop := EntOK FT XT 116 (en116 f)
abbrev D120 : Type := Int → Int → Option (Int × Int)
/-- math/bits.Mul64 -/
abbrev en120 (f : D120) : Ent := ⟨[(Sh.int .u64), (Sh.int .u64)], ((Sh.tu (Sh.pr (Sh.int .u64) (Sh.int .u64)))).T, fun v => f v.1 v.2.1, fun r => (((Sh.tu (Sh.pr (Sh.int .u64) (Sh.int .u64)))).enc r, [])⟩
abbrev O120 (f : D120) : Prop := EntOK FT XT 120 (en120 f)
abbrev D139 : Type := Int × (List Int) → Option ((List Int) × Int)
/-- euphroe/attr.Lay -/
abbrev en139 (f : D139) : Ent := ⟨[(Sh.st (Sh.pr (Sh.int .u8) (Sh.sl (Sh.int .u8))))], ((Sh.tu (Sh.pr (Sh.sl (Sh.int .u8)) (Sh.int .i64)))).T, fun v => f v.1, fun r => (((Sh.tu (Sh.pr (Sh.sl (Sh.int .u8)) (Sh.int .i64)))).enc r, [])⟩
abbrev O139 (f : D139) : Prop := EntOK FT XT 139 (en139 f)
abbrev D141 : Type := Int × (List Int) → Option ((List Int) × Int)
/-- euphroe/euphroeref17.Lay -/
abbrev en141 (f : D141) : Ent := ⟨[(Sh.st (Sh.pr (Sh.int .u8) (Sh.sl (Sh.int .u8))))], ((Sh.tu (Sh.pr (Sh.sl (Sh.int .u8)) (Sh.int .i64)))).T, fun v => f v.1, fun r => (((Sh.tu (Sh.pr (Sh.sl (Sh.int .u8)) (Sh.int .i64)))).enc r, [])⟩
abbrev O141 (f : D141) : Prop := EntOK FT XT 141 (en141 f)
abbrev D144 : Type := Int × (List Int) → Int × (List Int) → Option Bool
/-- euphroe/attr.Same -/
abbrev en144 (f : D144) : Ent := ⟨[(Sh.st (Sh.pr (Sh.int .u8) (Sh.sl (Sh.int .u8)))), (Sh.st (Sh.pr (Sh.int .u8) (Sh.sl (Sh.int .u8))))], (Sh.bool).T, fun v => f v.1 v.2.1, fun r => ((Sh.bool).enc r, [])⟩
abbrev O144 (f : D144) : Prop := EntOK FT XT 144 (en144 f)
abbrev D145 : Type := Int × (List Int) → Option Int
/-- euphroe/attr.Check -/
abbrev en145 (f : D145) : Ent := ⟨[(Sh.st (Sh.pr (Sh.int .u8) (Sh.sl (Sh.int .u8))))], ((Sh.int .i64)).T, fun v => f v.1, fun r => (((Sh.int .i64)).enc r, [])⟩
abbrev O145 (f : D145) : Prop := EntOK FT XT 145 (en145 f)
abbrev D148 : Type := List Int → Option (Int × (List Int))
/-- euphroe/attr.OfBinding -/
abbrev en148 (f : D148) : Ent := ⟨[(Sh.ar .u8)], ((Sh.st (Sh.pr (Sh.int .u8) (Sh.sl (Sh.int .u8))))).T, fun v => f v.1, fun r => (((Sh.st (Sh.pr (Sh.int .u8) (Sh.sl (Sh.int .u8))))).enc r, [])⟩
abbrev O148 (f : D148) : Prop := EntOK FT XT 148 (en148 f)
abbrev D149 : Type := List Int → Option (Int × (List Int))
/-- euphroe/attr.OfAsk -/
abbrev en149 (f : D149) : Ent := ⟨[(Sh.ar .u8)], ((Sh.st (Sh.pr (Sh.int .u8) (Sh.sl (Sh.int .u8))))).T, fun v => f v.1, fun r => (((Sh.st (Sh.pr (Sh.int .u8) (Sh.sl (Sh.int .u8))))).enc r, [])⟩
abbrev O149 (f : D149) : Prop := EntOK FT XT 149 (en149 f)
abbrev D151 : Type := Int → List Int → List Int → List Int → Option (Int × (List Int))
/-- euphroe/euphroeref17.Binding -/
abbrev en151 (f : D151) : Ent := ⟨[(Sh.int .u8), (Sh.ar .u8), (Sh.ar .u8), (Sh.ar .u8)], ((Sh.st (Sh.pr (Sh.int .u8) (Sh.sl (Sh.int .u8))))).T, fun v => f v.1 v.2.1 v.2.2.1 v.2.2.2.1, fun r => (((Sh.st (Sh.pr (Sh.int .u8) (Sh.sl (Sh.int .u8))))).enc r, [])⟩
abbrev O151 (f : D151) : Prop := EntOK FT XT 151 (en151 f)
abbrev D152 : Type := Int → List Int → Option (Int × (List Int))
/-- euphroe/euphroeref17.Ask -/
abbrev en152 (f : D152) : Ent := ⟨[(Sh.int .u8), (Sh.ar .u8)], ((Sh.st (Sh.pr (Sh.int .u8) (Sh.sl (Sh.int .u8))))).T, fun v => f v.1 v.2.1, fun r => (((Sh.st (Sh.pr (Sh.int .u8) (Sh.sl (Sh.int .u8))))).enc r, [])⟩
abbrev O152 (f : D152) : Prop := EntOK FT XT 152 (en152 f)
abbrev D154 : Type := Int × (List Int) → Option ((List Int) × Int)
/-- euphroe/attr.ToBinding -/
abbrev en154 (f : D154) : Ent := ⟨[(Sh.st (Sh.pr (Sh.int .u8) (Sh.sl (Sh.int .u8))))], ((Sh.tu (Sh.pr (Sh.ar .u8) (Sh.int .i64)))).T, fun v => f v.1, fun r => (((Sh.tu (Sh.pr (Sh.ar .u8) (Sh.int .i64)))).enc r, [])⟩
abbrev O154 (f : D154) : Prop := EntOK FT XT 154 (en154 f)
abbrev D155 : Type := Int × (List Int) → Option ((List Int) × Int)
/-- euphroe/attr.ToAsk -/
abbrev en155 (f : D155) : Ent := ⟨[(Sh.st (Sh.pr (Sh.int .u8) (Sh.sl (Sh.int .u8))))], ((Sh.tu (Sh.pr (Sh.ar .u8) (Sh.int .i64)))).T, fun v => f v.1, fun r => (((Sh.tu (Sh.pr (Sh.ar .u8) (Sh.int .i64)))).enc r, [])⟩
abbrev O155 (f : D155) : Prop := EntOK FT XT 155 (en155 f)
abbrev D160 : Type := List Int → List Int → Option Bool
/-- bytes.Equal -/
abbrev en160 (f : D160) : Ent := ⟨[(Sh.sl (Sh.int .u8)), (Sh.sl (Sh.int .u8))], (Sh.bool).T, fun v => f v.1 v.2.1, fun r => ((Sh.bool).enc r, [])⟩
abbrev O160 (f : D160) : Prop := EntOK FT XT 160 (en160 f)
abbrev D161 : Type := Int → Option Bool
/-- euphroe/attr.isKind -/
abbrev en161 (f : D161) : Ent := ⟨[(Sh.int .u8)], (Sh.bool).T, fun v => f v.1, fun r => ((Sh.bool).enc r, [])⟩
abbrev O161 (f : D161) : Prop := EntOK FT XT 161 (en161 f)
abbrev D162 : Type := Int → Option Bool
/-- euphroe/euphroeref17.kind -/
abbrev en162 (f : D162) : Ent := ⟨[(Sh.int .u8)], (Sh.bool).T, fun v => f v.1, fun r => ((Sh.bool).enc r, [])⟩
abbrev O162 (f : D162) : Prop := EntOK FT XT 162 (en162 f)
abbrev D163 : Type := Int → Option (Int × Int × Int × Int)
/-- euphroe/attr.limits -/
abbrev en163 (f : D163) : Ent := ⟨[(Sh.int .u8)], ((Sh.tu (Sh.pr (Sh.int .i64) (Sh.pr (Sh.int .i64) (Sh.pr (Sh.int .u8) (Sh.int .u8)))))).T, fun v => f v.1, fun r => (((Sh.tu (Sh.pr (Sh.int .i64) (Sh.pr (Sh.int .i64) (Sh.pr (Sh.int .u8) (Sh.int .u8)))))).enc r, [])⟩
abbrev O163 (f : D163) : Prop := EntOK FT XT 163 (en163 f)
abbrev D164 : Type := List Int → List Int → Option Bool
/-- bytes.HasPrefix -/
abbrev en164 (f : D164) : Ent := ⟨[(Sh.sl (Sh.int .u8)), (Sh.sl (Sh.int .u8))], (Sh.bool).T, fun v => f v.1 v.2.1, fun r => ((Sh.bool).enc r, [])⟩
abbrev O164 (f : D164) : Prop := EntOK FT XT 164 (en164 f)
abbrev D166 : Type := Int → Option (List Int)
/-- euphroe/attr.ahead -/
abbrev en166 (f : D166) : Ent := ⟨[(Sh.int .u8)], ((Sh.sl (Sh.int .u8))).T, fun v => f v.1, fun r => (((Sh.sl (Sh.int .u8))).enc r, [])⟩
abbrev O166 (f : D166) : Prop := EntOK FT XT 166 (en166 f)
abbrev D167 : Type := Int × (List Int) → Int → Option Int
/-- euphroe/attr.is -/
abbrev en167 (f : D167) : Ent := ⟨[(Sh.st (Sh.pr (Sh.int .u8) (Sh.sl (Sh.int .u8)))), (Sh.int .u8)], ((Sh.int .i64)).T, fun v => f v.1 v.2.1, fun r => (((Sh.int .i64)).enc r, [])⟩
abbrev O167 (f : D167) : Prop := EntOK FT XT 167 (en167 f)
abbrev D177 : Type := Int → Option (List Int)
/-- euphroe/euphroeref04.Tail -/
abbrev en177 (f : D177) : Ent := ⟨[(Sh.int .u64)], ((Sh.sl (Sh.int .u8))).T, fun v => f v.1, fun r => (((Sh.sl (Sh.int .u8))).enc r, [])⟩
abbrev O177 (f : D177) : Prop := EntOK FT XT 177 (en177 f)
abbrev D186 : Type := Int → Option (List Int)
/-- euphroe/euphroeref05.Tail -/
abbrev en186 (f : D186) : Ent := ⟨[(Sh.int .u64)], ((Sh.sl (Sh.int .u8))).T, fun v => f v.1, fun r => (((Sh.sl (Sh.int .u8))).enc r, [])⟩
abbrev O186 (f : D186) : Prop := EntOK FT XT 186 (en186 f)
abbrev D195 : Type := Int → Int → Option Int
/-- math/bits.RotateLeft32 -/
abbrev en195 (f : D195) : Ent := ⟨[(Sh.int .u32), (Sh.int .i64)], ((Sh.int .u32)).T, fun v => f v.1 v.2.1, fun r => (((Sh.int .u32)).enc r, [])⟩
abbrev O195 (f : D195) : Prop := EntOK FT XT 195 (en195 f)
abbrev D213 : Type := List (List Int) → Option (List Int)
/-- euphroe/sha256.Of -/
abbrev en213 (f : D213) : Ent := ⟨[(Sh.sl (Sh.sl (Sh.int .u8)))], ((Sh.ar .u8)).T, fun v => f v.1, fun r => (((Sh.ar .u8)).enc r, [])⟩
abbrev O213 (f : D213) : Prop := EntOK FT XT 213 (en213 f)
abbrev D214 : Type := List Int → Option (List Int)
/-- euphroe/euphroeref06.Of -/
abbrev en214 (f : D214) : Ent := ⟨[(Sh.sl (Sh.int .u8))], ((Sh.ar .u8)).T, fun v => f v.1, fun r => (((Sh.ar .u8)).enc r, [])⟩
abbrev O214 (f : D214) : Prop := EntOK FT XT 214 (en214 f)
abbrev D216 : Type := List Int → List Int → Option (List Int)
/-- euphroe/euphroeref06.Block -/
abbrev en216 (f : D216) : Ent := ⟨[(Sh.ar .u32), (Sh.ar .u8)], ((Sh.ar .u32)).T, fun v => f v.1 v.2.1, fun r => (((Sh.ar .u32)).enc r, [])⟩
abbrev O216 (f : D216) : Prop := EntOK FT XT 216 (en216 f)
abbrev D217 : Type := Int → Option (List Int)
/-- euphroe/sha256.Tail -/
abbrev en217 (f : D217) : Ent := ⟨[(Sh.int .u64)], ((Sh.sl (Sh.int .u8))).T, fun v => f v.1, fun r => (((Sh.sl (Sh.int .u8))).enc r, [])⟩
abbrev O217 (f : D217) : Prop := EntOK FT XT 217 (en217 f)
abbrev D218 : Type := Int → Option (List Int)
/-- euphroe/euphroeref06.Tail -/
abbrev en218 (f : D218) : Ent := ⟨[(Sh.int .u64)], ((Sh.sl (Sh.int .u8))).T, fun v => f v.1, fun r => (((Sh.sl (Sh.int .u8))).enc r, [])⟩
abbrev O218 (f : D218) : Prop := EntOK FT XT 218 (en218 f)
abbrev D219 : Type := Option (List Int)
/-- euphroe/sha256.First -/
abbrev en219 (f : D219) : Ent := ⟨[], ((Sh.ar .u32)).T, fun v => f, fun r => (((Sh.ar .u32)).enc r, [])⟩
abbrev O219 (f : D219) : Prop := EntOK FT XT 219 (en219 f)
abbrev D220 : Type := Option (List Int)
/-- euphroe/euphroeref06.First -/
abbrev en220 (f : D220) : Ent := ⟨[], ((Sh.ar .u32)).T, fun v => f, fun r => (((Sh.ar .u32)).enc r, [])⟩
abbrev O220 (f : D220) : Prop := EntOK FT XT 220 (en220 f)
abbrev D222 : Type := List Int → List Int → Option (List Int)
/-- euphroe/euphroeref07.Of -/
abbrev en222 (f : D222) : Ent := ⟨[(Sh.sl (Sh.int .u8)), (Sh.sl (Sh.int .u8))], ((Sh.ar .u8)).T, fun v => f v.1 v.2.1, fun r => (((Sh.ar .u8)).enc r, [])⟩
abbrev O222 (f : D222) : Prop := EntOK FT XT 222 (en222 f)
abbrev D223 : Type := List Int → List (List Int) → Option (List Int)
/-- euphroe/hmac.Of -/
abbrev en223 (f : D223) : Ent := ⟨[(Sh.sl (Sh.int .u8)), (Sh.sl (Sh.sl (Sh.int .u8)))], ((Sh.ar .u8)).T, fun v => f v.1 v.2.1, fun r => (((Sh.ar .u8)).enc r, [])⟩
abbrev O223 (f : D223) : Prop := EntOK FT XT 223 (en223 f)
abbrev D224 : Type := List Int → Option (List Int)
/-- euphroe/hmac.Key -/
abbrev en224 (f : D224) : Ent := ⟨[(Sh.sl (Sh.int .u8))], ((Sh.ar .u8)).T, fun v => f v.1, fun r => (((Sh.ar .u8)).enc r, [])⟩
abbrev O224 (f : D224) : Prop := EntOK FT XT 224 (en224 f)
abbrev D225 : Type := List Int → Option (List Int)
/-- euphroe/euphroeref07.Key -/
abbrev en225 (f : D225) : Ent := ⟨[(Sh.sl (Sh.int .u8))], ((Sh.ar .u8)).T, fun v => f v.1, fun r => (((Sh.ar .u8)).enc r, [])⟩
abbrev O225 (f : D225) : Prop := EntOK FT XT 225 (en225 f)
abbrev D229 : Type := List Int → List Int → List Int → Option (List Int)
/-- (euphroe/sha256.State).block -/
abbrev en229 (f : D229) : Ent := ⟨[(Sh.ar .u32), (Sh.ar .u8), (Sh.sl (Sh.int .u32))], ((Sh.ar .u32)).T, fun v => f v.1 v.2.1 v.2.2.1, fun r => (((Sh.ar .u32)).enc r, [])⟩
abbrev O229 (f : D229) : Prop := EntOK FT XT 229 (en229 f)
abbrev D230 : Type := Int → Int → Int → Int → Option Int
/-- euphroe/euphroeref06.small -/
abbrev en230 (f : D230) : Ent := ⟨[(Sh.int .u32), (Sh.int .i64), (Sh.int .i64), (Sh.int .i64)], ((Sh.int .u32)).T, fun v => f v.1 v.2.1 v.2.2.1 v.2.2.2.1, fun r => (((Sh.int .u32)).enc r, [])⟩
abbrev O230 (f : D230) : Prop := EntOK FT XT 230 (en230 f)
abbrev D231 : Type := Option (List Int)
/-- euphroe/euphroeref06.constants -/
abbrev en231 (f : D231) : Ent := ⟨[], ((Sh.sl (Sh.int .u32))).T, fun v => f, fun r => (((Sh.sl (Sh.int .u32))).enc r, [])⟩
abbrev O231 (f : D231) : Prop := EntOK FT XT 231 (en231 f)
abbrev D232 : Type := Int → Int → Int → Int → Option Int
/-- euphroe/euphroeref06.great -/
abbrev en232 (f : D232) : Ent := ⟨[(Sh.int .u32), (Sh.int .i64), (Sh.int .i64), (Sh.int .i64)], ((Sh.int .u32)).T, fun v => f v.1 v.2.1 v.2.2.1 v.2.2.2.1, fun r => (((Sh.int .u32)).enc r, [])⟩
abbrev O232 (f : D232) : Prop := EntOK FT XT 232 (en232 f)
abbrev D233 : Type := List Int → Int → Option (List Int)
/-- euphroe/euphroeref07.turned -/
abbrev en233 (f : D233) : Ent := ⟨[(Sh.ar .u8), (Sh.int .u8)], List Int, fun v => f v.1 v.2.1, ownOut .u8⟩
abbrev O233 (f : D233) : Prop := EntOK FT XT 233 (en233 f)
abbrev D234 : Type := List Int → Int → Option (List Int)
/-- euphroe/hmac.pad -/
abbrev en234 (f : D234) : Ent := ⟨[(Sh.sl (Sh.int .u8)), (Sh.int .u8)], ((Sh.sl (Sh.int .u8))).T, fun v => f v.1 v.2.1, fun r => (((Sh.sl (Sh.int .u8))).enc r, [])⟩
abbrev O234 (f : D234) : Prop := EntOK FT XT 234 (en234 f)
abbrev D235 : Type := List Int → Option (List Int)
/-- euphroe/sha256.spread -/
abbrev en235 (f : D235) : Ent := ⟨[(Sh.ar .u8)], ((Sh.ar .u32)).T, fun v => f v.1, fun r => (((Sh.ar .u32)).enc r, [])⟩
abbrev O235 (f : D235) : Prop := EntOK FT XT 235 (en235 f)
abbrev D236 : Type := List Int → Int → Option (List Int)
/-- (euphroe/sha256.State).step -/
abbrev en236 (f : D236) : Ent := ⟨[(Sh.ar .u32), (Sh.int .u32)], ((Sh.ar .u32)).T, fun v => f v.1 v.2.1, fun r => (((Sh.ar .u32)).enc r, [])⟩
abbrev O236 (f : D236) : Prop := EntOK FT XT 236 (en236 f)
abbrev D237 : Type := Int → Int → Option Int
/-- euphroe/euphroeref06.turn -/
abbrev en237 (f : D237) : Ent := ⟨[(Sh.int .u32), (Sh.int .i64)], ((Sh.int .u32)).T, fun v => f v.1 v.2.1, fun r => (((Sh.int .u32)).enc r, [])⟩
abbrev O237 (f : D237) : Prop := EntOK FT XT 237 (en237 f)
abbrev D238 : Type := List Int → Int → Option Int
/-- (euphroe/sha256.turns).small -/
abbrev en238 (f : D238) : Ent := ⟨[(Sh.ar .i64), (Sh.int .u32)], ((Sh.int .u32)).T, fun v => f v.1 v.2.1, fun r => (((Sh.int .u32)).enc r, [])⟩
abbrev O238 (f : D238) : Prop := EntOK FT XT 238 (en238 f)
abbrev D239 : Type := List Int → Int → Option Int
/-- (euphroe/sha256.turns).great -/
abbrev en239 (f : D239) : Ent := ⟨[(Sh.ar .i64), (Sh.int .u32)], ((Sh.int .u32)).T, fun v => f v.1 v.2.1, fun r => (((Sh.int .u32)).enc r, [])⟩
abbrev O239 (f : D239) : Prop := EntOK FT XT 239 (en239 f)
abbrev D288 : Type := List Int → Option Bool
/-- euphroe/euphroelaw34.BindMakes -/
abbrev en288 (f : D288) : Ent := ⟨[(Sh.ar .u8)], (Sh.bool).T, fun v => f v.1, fun r => ((Sh.bool).enc r, [])⟩
abbrev O288 (f : D288) : Prop := EntOK FT XT 288 (en288 f)
abbrev D290 : Type := List Int → List Int → Int → Option ((List Int) × Int)
/-- euphroe/prf.Derive -/
abbrev en290 (f : D290) : Ent := ⟨[(Sh.sl (Sh.int .u8)), (Sh.sl (Sh.int .u8)), (Sh.int .i64)], ((Sh.tu (Sh.pr (Sh.sl (Sh.int .u8)) (Sh.int .i64)))).T, fun v => f v.1 v.2.1 v.2.2.1, fun r => (((Sh.tu (Sh.pr (Sh.sl (Sh.int .u8)) (Sh.int .i64)))).enc r, [])⟩
abbrev O290 (f : D290) : Prop := EntOK FT XT 290 (en290 f)
abbrev D291 : Type := List Int → List Int → Int → Option ((List Int) × Int × Int)
/-- euphroe/euphroeref13.Derive -/
abbrev en291 (f : D291) : Ent := ⟨[(Sh.sl (Sh.int .u8)), (Sh.sl (Sh.int .u8)), (Sh.int .i64)], ((Sh.tu (Sh.pr (Sh.sl (Sh.int .u8)) (Sh.pr (Sh.int .i64) (Sh.int .i64))))).T, fun v => f v.1 v.2.1 v.2.2.1, fun r => (((Sh.tu (Sh.pr (Sh.sl (Sh.int .u8)) (Sh.pr (Sh.int .i64) (Sh.int .i64))))).enc r, [])⟩
abbrev O291 (f : D291) : Prop := EntOK FT XT 291 (en291 f)
abbrev D292 : Type := List Int → List Int → Int → Option Int
/-- euphroe/prf.Pieces -/
abbrev en292 (f : D292) : Ent := ⟨[(Sh.sl (Sh.int .u8)), (Sh.sl (Sh.int .u8)), (Sh.int .i64)], ((Sh.int .i64)).T, fun v => f v.1 v.2.1 v.2.2.1, fun r => (((Sh.int .i64)).enc r, [])⟩
abbrev O292 (f : D292) : Prop := EntOK FT XT 292 (en292 f)
abbrev D293 : Type := List Int → Option (List Int)
/-- euphroe/prf.Bind -/
abbrev en293 (f : D293) : Ent := ⟨[(Sh.ar .u8)], ((Sh.ar .u8)).T, fun v => f v.1, fun r => (((Sh.ar .u8)).enc r, [])⟩
abbrev O293 (f : D293) : Prop := EntOK FT XT 293 (en293 f)
abbrev D294 : Type := List Int → Option (List Int)
/-- euphroe/euphroeref13.Bind -/
abbrev en294 (f : D294) : Ent := ⟨[(Sh.ar .u8)], ((Sh.ar .u8)).T, fun v => f v.1, fun r => (((Sh.ar .u8)).enc r, [])⟩
abbrev O294 (f : D294) : Prop := EntOK FT XT 294 (en294 f)
abbrev D295 : Type := List Int → List Int → Option (List Int)
/-- euphroe/prf.Seal -/
abbrev en295 (f : D295) : Ent := ⟨[(Sh.ar .u8), (Sh.sl (Sh.int .u8))], ((Sh.ar .u8)).T, fun v => f v.1 v.2.1, fun r => (((Sh.ar .u8)).enc r, [])⟩
abbrev O295 (f : D295) : Prop := EntOK FT XT 295 (en295 f)
abbrev D297 : Type := List Int → List Int → List Int → Option (Bool × Int × (List (Int × (List Int))) × (List Int))
/-- euphroe/bind.Connected -/
abbrev en297 (f : D297) : Ent := ⟨[(Sh.ar .u8), (Sh.ar .u8), (Sh.ar .u8)], ((Sh.st (Sh.pr Sh.bool (Sh.pr (Sh.int .u16) (Sh.pr (Sh.sl (Sh.pr (Sh.int .u8) (Sh.sl (Sh.int .u8)))) (Sh.sl (Sh.int .u8))))))).T, fun v => f v.1 v.2.1 v.2.2.1, fun r => (((Sh.st (Sh.pr Sh.bool (Sh.pr (Sh.int .u16) (Sh.pr (Sh.sl (Sh.pr (Sh.int .u8) (Sh.sl (Sh.int .u8)))) (Sh.sl (Sh.int .u8))))))).enc r, [])⟩
abbrev O297 (f : D297) : Prop := EntOK FT XT 297 (en297 f)
abbrev D298 : Type := Bool × Int × (List (Int × (List Int))) × (List Int) → List Int → List Int → List Int → Option Int
/-- euphroe/bind.Check -/
abbrev en298 (f : D298) : Ent := ⟨[(Sh.st (Sh.pr Sh.bool (Sh.pr (Sh.int .u16) (Sh.pr (Sh.sl (Sh.pr (Sh.int .u8) (Sh.sl (Sh.int .u8)))) (Sh.sl (Sh.int .u8)))))), (Sh.ar .u8), (Sh.ar .u8), (Sh.ar .u8)], ((Sh.int .i64)).T, fun v => f v.1 v.2.1 v.2.2.1 v.2.2.2.1, fun r => (((Sh.int .i64)).enc r, [])⟩
abbrev O298 (f : D298) : Prop := EntOK FT XT 298 (en298 f)
abbrev D301 : Type := Option Bool
/-- euphroe/euphroelaw34.alive -/
abbrev en301 (f : D301) : Ent := ⟨[], (Sh.bool).T, fun v => f, fun r => ((Sh.bool).enc r, [])⟩
abbrev O301 (f : D301) : Prop := EntOK FT XT 301 (en301 f)
abbrev D302 : Type := Bool × Int × (List (Int × (List Int))) × (List Int) → Bool × Int × (List (Int × (List Int))) × (List Int) → Option Bool
/-- euphroe/packet.Same -/
abbrev en302 (f : D302) : Ent := ⟨[(Sh.st (Sh.pr Sh.bool (Sh.pr (Sh.int .u16) (Sh.pr (Sh.sl (Sh.pr (Sh.int .u8) (Sh.sl (Sh.int .u8)))) (Sh.sl (Sh.int .u8)))))), (Sh.st (Sh.pr Sh.bool (Sh.pr (Sh.int .u16) (Sh.pr (Sh.sl (Sh.pr (Sh.int .u8) (Sh.sl (Sh.int .u8)))) (Sh.sl (Sh.int .u8))))))], (Sh.bool).T, fun v => f v.1 v.2.1, fun r => ((Sh.bool).enc r, [])⟩
abbrev O302 (f : D302) : Prop := EntOK FT XT 302 (en302 f)
abbrev D303 : Type := Bool × Int × (List (Int × (List Int))) × (List Int) → Option (Bool × Int × (List (Int × (List Int))) × (List Int))
/-- euphroe/euphroelaw34.theirs -/
abbrev en303 (f : D303) : Ent := ⟨[(Sh.st (Sh.pr Sh.bool (Sh.pr (Sh.int .u16) (Sh.pr (Sh.sl (Sh.pr (Sh.int .u8) (Sh.sl (Sh.int .u8)))) (Sh.sl (Sh.int .u8))))))], ((Sh.st (Sh.pr Sh.bool (Sh.pr (Sh.int .u16) (Sh.pr (Sh.sl (Sh.pr (Sh.int .u8) (Sh.sl (Sh.int .u8)))) (Sh.sl (Sh.int .u8))))))).T, fun v => f v.1, fun r => (((Sh.st (Sh.pr Sh.bool (Sh.pr (Sh.int .u16) (Sh.pr (Sh.sl (Sh.pr (Sh.int .u8) (Sh.sl (Sh.int .u8)))) (Sh.sl (Sh.int .u8))))))).enc r, [])⟩
abbrev O303 (f : D303) : Prop := EntOK FT XT 303 (en303 f)
abbrev D304 : Type := List Int → List Int → List Int → Option (Bool × Int × (List (Int × (List Int))) × (List Int))
/-- euphroe/euphroeref34.Connected -/
abbrev en304 (f : D304) : Ent := ⟨[(Sh.ar .u8), (Sh.ar .u8), (Sh.ar .u8)], ((Sh.st (Sh.pr Sh.bool (Sh.pr (Sh.int .u16) (Sh.pr (Sh.sl (Sh.pr (Sh.int .u8) (Sh.sl (Sh.int .u8)))) (Sh.sl (Sh.int .u8))))))).T, fun v => f v.1 v.2.1 v.2.2.1, fun r => (((Sh.st (Sh.pr Sh.bool (Sh.pr (Sh.int .u16) (Sh.pr (Sh.sl (Sh.pr (Sh.int .u8) (Sh.sl (Sh.int .u8)))) (Sh.sl (Sh.int .u8))))))).enc r, [])⟩
abbrev O304 (f : D304) : Prop := EntOK FT XT 304 (en304 f)
abbrev D305 : Type := List Int → Option (Bool × Int × (List (Int × (List Int))) × (List Int))
/-- euphroe/bind.Ask -/
abbrev en305 (f : D305) : Ent := ⟨[(Sh.ar .u8)], ((Sh.st (Sh.pr Sh.bool (Sh.pr (Sh.int .u16) (Sh.pr (Sh.sl (Sh.pr (Sh.int .u8) (Sh.sl (Sh.int .u8)))) (Sh.sl (Sh.int .u8))))))).T, fun v => f v.1, fun r => (((Sh.st (Sh.pr Sh.bool (Sh.pr (Sh.int .u16) (Sh.pr (Sh.sl (Sh.pr (Sh.int .u8) (Sh.sl (Sh.int .u8)))) (Sh.sl (Sh.int .u8))))))).enc r, [])⟩
abbrev O305 (f : D305) : Prop := EntOK FT XT 305 (en305 f)
abbrev D306 : Type := List Int → Option (Bool × Int × (List (Int × (List Int))) × (List Int))
/-- euphroe/euphroeref34.Ask -/
abbrev en306 (f : D306) : Ent := ⟨[(Sh.ar .u8)], ((Sh.st (Sh.pr Sh.bool (Sh.pr (Sh.int .u16) (Sh.pr (Sh.sl (Sh.pr (Sh.int .u8) (Sh.sl (Sh.int .u8)))) (Sh.sl (Sh.int .u8))))))).T, fun v => f v.1, fun r => (((Sh.st (Sh.pr Sh.bool (Sh.pr (Sh.int .u16) (Sh.pr (Sh.sl (Sh.pr (Sh.int .u8) (Sh.sl (Sh.int .u8)))) (Sh.sl (Sh.int .u8))))))).enc r, [])⟩
abbrev O306 (f : D306) : Prop := EntOK FT XT 306 (en306 f)
abbrev D307 : Type := Int → Option Int
/-- euphroe/prf.may -/
abbrev en307 (f : D307) : Ent := ⟨[(Sh.int .i64)], ((Sh.int .i64)).T, fun v => f v.1, fun r => (((Sh.int .i64)).enc r, [])⟩
abbrev O307 (f : D307) : Prop := EntOK FT XT 307 (en307 f)
abbrev D309 : Type := List Int → List Int → Option (List Int)
/-- euphroe/bind.sealed -/
abbrev en309 (f : D309) : Ent := ⟨[(Sh.ar .u8), (Sh.ar .u8)], ((Sh.ar .u8)).T, fun v => f v.1 v.2.1, fun r => (((Sh.ar .u8)).enc r, [])⟩
abbrev O309 (f : D309) : Prop := EntOK FT XT 309 (en309 f)
abbrev D310 : Type := List Int → Option (Bool × Int × (List (Int × (List Int))) × (List Int))
/-- euphroe/bind.of -/
abbrev en310 (f : D310) : Ent := ⟨[(Sh.ar .u8)], ((Sh.st (Sh.pr Sh.bool (Sh.pr (Sh.int .u16) (Sh.pr (Sh.sl (Sh.pr (Sh.int .u8) (Sh.sl (Sh.int .u8)))) (Sh.sl (Sh.int .u8))))))).T, fun v => f v.1, fun r => (((Sh.st (Sh.pr Sh.bool (Sh.pr (Sh.int .u16) (Sh.pr (Sh.sl (Sh.pr (Sh.int .u8) (Sh.sl (Sh.int .u8)))) (Sh.sl (Sh.int .u8))))))).enc r, [])⟩
abbrev O310 (f : D310) : Prop := EntOK FT XT 310 (en310 f)
abbrev D311 : Type := Bool × Int × (List (Int × (List Int))) × (List Int) → Option ((List Int) × Int)
/-- euphroe/bind.binding -/
abbrev en311 (f : D311) : Ent := ⟨[(Sh.st (Sh.pr Sh.bool (Sh.pr (Sh.int .u16) (Sh.pr (Sh.sl (Sh.pr (Sh.int .u8) (Sh.sl (Sh.int .u8)))) (Sh.sl (Sh.int .u8))))))], ((Sh.tu (Sh.pr (Sh.ar .u8) (Sh.int .i64)))).T, fun v => f v.1, fun r => (((Sh.tu (Sh.pr (Sh.ar .u8) (Sh.int .i64)))).enc r, [])⟩
abbrev O311 (f : D311) : Prop := EntOK FT XT 311 (en311 f)
abbrev D312 : Type := Bool × Int × (List (Int × (List Int))) × (List Int) → Option ((List Int) × Int)
/-- euphroe/bind.Asked -/
abbrev en312 (f : D312) : Ent := ⟨[(Sh.st (Sh.pr Sh.bool (Sh.pr (Sh.int .u16) (Sh.pr (Sh.sl (Sh.pr (Sh.int .u8) (Sh.sl (Sh.int .u8)))) (Sh.sl (Sh.int .u8))))))], ((Sh.tu (Sh.pr (Sh.ar .u8) (Sh.int .i64)))).T, fun v => f v.1, fun r => (((Sh.tu (Sh.pr (Sh.ar .u8) (Sh.int .i64)))).enc r, [])⟩
abbrev O312 (f : D312) : Prop := EntOK FT XT 312 (en312 f)
abbrev D314 : Type := Int → List Int → List Int → List Int → Option (Bool × Int × (List (Int × (List Int))) × (List Int))
/-- euphroe/euphroeref34.packet -/
abbrev en314 (f : D314) : Ent := ⟨[(Sh.int .u8), (Sh.ar .u8), (Sh.ar .u8), (Sh.ar .u8)], ((Sh.st (Sh.pr Sh.bool (Sh.pr (Sh.int .u16) (Sh.pr (Sh.sl (Sh.pr (Sh.int .u8) (Sh.sl (Sh.int .u8)))) (Sh.sl (Sh.int .u8))))))).T, fun v => f v.1 v.2.1 v.2.2.1 v.2.2.2.1, fun r => (((Sh.st (Sh.pr Sh.bool (Sh.pr (Sh.int .u16) (Sh.pr (Sh.sl (Sh.pr (Sh.int .u8) (Sh.sl (Sh.int .u8)))) (Sh.sl (Sh.int .u8))))))).enc r, [])⟩
abbrev O314 (f : D314) : Prop := EntOK FT XT 314 (en314 f)
abbrev D315 : Type := Bool × Int × (List (Int × (List Int))) × (List Int) → List Int → Option (List Int)
/-- euphroe/euphroeref34.sealed -/
abbrev en315 (f : D315) : Ent := ⟨[(Sh.st (Sh.pr Sh.bool (Sh.pr (Sh.int .u16) (Sh.pr (Sh.sl (Sh.pr (Sh.int .u8) (Sh.sl (Sh.int .u8)))) (Sh.sl (Sh.int .u8)))))), (Sh.ar .u8)], ((Sh.ar .u8)).T, fun v => f v.1 v.2.1, fun r => (((Sh.ar .u8)).enc r, [])⟩
abbrev O315 (f : D315) : Prop := EntOK FT XT 315 (en315 f)
abbrev D316 : Type := Int → List (Int × (List Int)) → Option (Bool × Int × (List (Int × (List Int))) × (List Int))
/-- euphroe/packet.Of -/
abbrev en316 (f : D316) : Ent := ⟨[(Sh.int .u16), (Sh.sl (Sh.pr (Sh.int .u8) (Sh.sl (Sh.int .u8))))], ((Sh.st (Sh.pr Sh.bool (Sh.pr (Sh.int .u16) (Sh.pr (Sh.sl (Sh.pr (Sh.int .u8) (Sh.sl (Sh.int .u8)))) (Sh.sl (Sh.int .u8))))))).T, fun v => f v.1 v.2.1, fun r => (((Sh.st (Sh.pr Sh.bool (Sh.pr (Sh.int .u16) (Sh.pr (Sh.sl (Sh.pr (Sh.int .u8) (Sh.sl (Sh.int .u8)))) (Sh.sl (Sh.int .u8))))))).enc r, [])⟩
abbrev O316 (f : D316) : Prop := EntOK FT XT 316 (en316 f)
abbrev D317 : Type := Bool × Int × (List (Int × (List Int))) × (List Int) → Option ((List Int) × Int)
/-- euphroe/packet.Lay -/
abbrev en317 (f : D317) : Ent := ⟨[(Sh.st (Sh.pr Sh.bool (Sh.pr (Sh.int .u16) (Sh.pr (Sh.sl (Sh.pr (Sh.int .u8) (Sh.sl (Sh.int .u8)))) (Sh.sl (Sh.int .u8))))))], ((Sh.tu (Sh.pr (Sh.sl (Sh.int .u8)) (Sh.int .i64)))).T, fun v => f v.1, fun r => (((Sh.tu (Sh.pr (Sh.sl (Sh.int .u8)) (Sh.int .i64)))).enc r, [])⟩
abbrev O317 (f : D317) : Prop := EntOK FT XT 317 (en317 f)
abbrev D318 : Type := Bool × Int × (List (Int × (List Int))) × (List Int) → Int → Option ((Int × (List Int)) × Int)
/-- euphroe/bind.only -/
abbrev en318 (f : D318) : Ent := ⟨[(Sh.st (Sh.pr Sh.bool (Sh.pr (Sh.int .u16) (Sh.pr (Sh.sl (Sh.pr (Sh.int .u8) (Sh.sl (Sh.int .u8)))) (Sh.sl (Sh.int .u8)))))), (Sh.int .u16)], ((Sh.tu (Sh.pr (Sh.st (Sh.pr (Sh.int .u8) (Sh.sl (Sh.int .u8)))) (Sh.int .i64)))).T, fun v => f v.1 v.2.1, fun r => (((Sh.tu (Sh.pr (Sh.st (Sh.pr (Sh.int .u8) (Sh.sl (Sh.int .u8)))) (Sh.int .i64)))).enc r, [])⟩
abbrev O318 (f : D318) : Prop := EntOK FT XT 318 (en318 f)
abbrev D319 : Type := Bool × Int × (List (Int × (List Int))) × (List Int) → Option ((List Int) × Int)
/-- euphroe/euphroeref18.Lay -/
abbrev en319 (f : D319) : Ent := ⟨[(Sh.st (Sh.pr Sh.bool (Sh.pr (Sh.int .u16) (Sh.pr (Sh.sl (Sh.pr (Sh.int .u8) (Sh.sl (Sh.int .u8)))) (Sh.sl (Sh.int .u8))))))], ((Sh.tu (Sh.pr (Sh.sl (Sh.int .u8)) (Sh.int .i64)))).T, fun v => f v.1, fun r => (((Sh.tu (Sh.pr (Sh.sl (Sh.int .u8)) (Sh.int .i64)))).enc r, [])⟩
abbrev O319 (f : D319) : Prop := EntOK FT XT 319 (en319 f)
abbrev D320 : Type := List (Int × (List Int)) → Option (List (Int × (List Int)))
/-- slices.Clone[[]euphroe/api.Attr,euphroe/api.Attr] -/
abbrev en320 (f : D320) : Ent := ⟨[(Sh.sl (Sh.pr (Sh.int .u8) (Sh.sl (Sh.int .u8))))], ((Sh.sl (Sh.pr (Sh.int .u8) (Sh.sl (Sh.int .u8))))).T, fun v => f v.1, fun r => (((Sh.sl (Sh.pr (Sh.int .u8) (Sh.sl (Sh.int .u8))))).enc r, [])⟩
abbrev O320 (f : D320) : Prop := EntOK FT XT 320 (en320 f)
abbrev D321 : Type := Bool × Int × (List (Int × (List Int))) × (List Int) → Option ((List Int) × Int)
/-- euphroe/packet.body -/
abbrev en321 (f : D321) : Ent := ⟨[(Sh.st (Sh.pr Sh.bool (Sh.pr (Sh.int .u16) (Sh.pr (Sh.sl (Sh.pr (Sh.int .u8) (Sh.sl (Sh.int .u8)))) (Sh.sl (Sh.int .u8))))))], ((Sh.tu (Sh.pr (Sh.sl (Sh.int .u8)) (Sh.int .i64)))).T, fun v => f v.1, fun r => (((Sh.tu (Sh.pr (Sh.sl (Sh.int .u8)) (Sh.int .i64)))).enc r, [])⟩
abbrev O321 (f : D321) : Prop := EntOK FT XT 321 (en321 f)
abbrev D322 : Type := Int → Option (List Int)
/-- euphroe/packet.number -/
abbrev en322 (f : D322) : Ent := ⟨[(Sh.int .i64)], ((Sh.sl (Sh.int .u8))).T, fun v => f v.1, fun r => (((Sh.sl (Sh.int .u8))).enc r, [])⟩
abbrev O322 (f : D322) : Prop := EntOK FT XT 322 (en322 f)
abbrev D323 : Type := Bool × Int × (List (Int × (List Int))) × (List Int) → Option Int
/-- euphroe/packet.Check -/
abbrev en323 (f : D323) : Ent := ⟨[(Sh.st (Sh.pr Sh.bool (Sh.pr (Sh.int .u16) (Sh.pr (Sh.sl (Sh.pr (Sh.int .u8) (Sh.sl (Sh.int .u8)))) (Sh.sl (Sh.int .u8))))))], ((Sh.int .i64)).T, fun v => f v.1, fun r => (((Sh.int .i64)).enc r, [])⟩
abbrev O323 (f : D323) : Prop := EntOK FT XT 323 (en323 f)
abbrev D324 : Type := Int → Option (Int × Int × Int)
/-- euphroe/packet.wants -/
abbrev en324 (f : D324) : Ent := ⟨[(Sh.int .u16)], ((Sh.tu (Sh.pr (Sh.int .u8) (Sh.pr (Sh.int .i64) (Sh.int .i64))))).T, fun v => f v.1, fun r => (((Sh.tu (Sh.pr (Sh.int .u8) (Sh.pr (Sh.int .i64) (Sh.int .i64))))).enc r, [])⟩
abbrev O324 (f : D324) : Prop := EntOK FT XT 324 (en324 f)
abbrev R64v0 : Type := (Nat × Unit) × ((List Int) × Unit)
abbrev D64v0 : Type := Int → Option R64v0
def PR64v0 : Pr := ⟨(.cons .nils (.cons (.int .i64) .nil)), []⟩
def QR64v0 : Pr := ⟨(.cons (.sl 0 1) .nil), [(.ints false .u8)]⟩
/-- slices.Grow[[]byte,byte] -/
abbrev rn64v0 (f : D64v0) : REnt := ⟨PR64v0, QR64v0, R64v0, fun v => f v.1.2.1, fun r => r⟩
abbrev O64v0 (f : D64v0) : Prop := REntOK FT XT 64 (rn64v0 f)
abbrev R48v0 : Type := (Unit × Unit) × ((List Int) × Unit)
abbrev D48v0 : Type := Nat → Nat → List Int → Option R48v0
def PR48v0 : Pr := ⟨(.cons (.slc 0 1) .nil), [(.ints false .u8)]⟩
def QR48v0 : Pr := ⟨(.cons .tup0 .nil), [(.ints false .u8)]⟩
/-- slices.Reverse[[]byte,byte] -/
abbrev rn48v0 (f : D48v0) : REnt := ⟨PR48v0, QR48v0, R48v0, fun v => f v.1.1.1 v.1.1.2 v.2.1, fun r => r⟩
abbrev O48v0 (f : D48v0) : Prop := REntOK FT XT 48 (rn48v0 f)
abbrev R115v0 : Type := (Bool × Unit) × ((List Int) × ((List Int) × Unit))
abbrev D115v0 : Type := Int → List Int → List Int → Option R115v0
def PR115v0 : Pr := ⟨(.cons (.int .i64) (.cons (.ptr 0 0) (.cons (.ptr 1 0) .nil))), [(.ints false .i64), (.ints false .i64)]⟩
def QR115v0 : Pr := ⟨(.cons .bool .nil), [(.ints false .i64), (.ints false .i64)]⟩
/-- euphroe/roots.full$1 -/
abbrev rn115v0 (f : D115v0) : REnt := ⟨PR115v0, QR115v0, R115v0, fun v => f v.1.1 v.2.1 v.2.2.1, fun r => r⟩
abbrev O115v0 (f : D115v0) : Prop := REntOK FT XT 115 (rn115v0 f)
abbrev R114v0 : Type := (Int × Unit) × ((List Int) × ((List Int) × Unit))
abbrev D114v0 : Type := Int → List Int → List Int → Option R114v0
def PR114v0 : Pr := ⟨(.cons (.int .i64) (.cons (.fn 115 (.cons (.ptr 0 0) (.cons (.ptr 1 0) .nil))) .nil)), [(.ints false .i64), (.ints false .i64)]⟩
def QR114v0 : Pr := ⟨(.cons (.int .i64) .nil), [(.ints false .i64), (.ints false .i64)]⟩
/-- sort.Search -/
abbrev rn114v0 (f : D114v0) : REnt := ⟨PR114v0, QR114v0, R114v0, fun v => f v.1.1 v.2.1 v.2.2.1, fun r => r⟩
abbrev O114v0 (f : D114v0) : Prop := REntOK FT XT 114 (rn114v0 f)
abbrev R308v0 : Type := (Unit × Unit) × (((List Int) × Unit) × (((Nat × Nat) × Unit) × (((List Int) × Unit) × (((List Int) × Unit) × ((Nat × Unit) × (Unit × ((List Int) × ((List Int) × Unit))))))))
abbrev D308v0 : Type := Int → List Int → List Int → List Int → List Int → Nat → List Int → Option R308v0
def PR308v0 : Pr := ⟨(.cons (.int .i64) (.cons (.ptr 0 0) (.cons (.ptr 1 0) (.cons (.ptr 2 0) (.cons (.ptr 3 0) (.cons (.ptr 4 0) .nil)))))), [(.vals false (.cons (.tb (Sh.int .u8)) .nil)), (.vals false (.cons (.tb (Sh.int .u8)) .nil)), (.vals false (.cons (.tb (Sh.int .u8)) .nil)), (.vals false (.cons (.tb (Sh.int .u8)) .nil)), (.vals false (.cons (.sl 5 1) .nil)), (.ints false .u8)]⟩
def QR308v0 : Pr := ⟨(.cons .tup0 .nil), [(.vals false (.cons (.tb (Sh.int .u8)) .nil)), (.vals false (.cons (.slc 6 1) .nil)), (.vals false (.cons (.tb (Sh.int .u8)) .nil)), (.vals false (.cons (.tb (Sh.int .u8)) .nil)), (.vals false (.cons (.sl 7 1) .nil)), .dead, (.ints false .u8), (.ints false .u8)]⟩
/-- euphroe/prf.Derive$1 -/
abbrev rn308v0 (f : D308v0) : REnt := ⟨PR308v0, QR308v0, R308v0, fun v => f v.1.1 v.2.1.1 v.2.2.1.1 v.2.2.2.1.1 v.2.2.2.2.1.1 v.2.2.2.2.2.1.1 v.2.2.2.2.2.2.1, fun r => r⟩
abbrev O308v0 (f : D308v0) : Prop := REntOK FT XT 308 (rn308v0 f)
abbrev R326v0 : Type := (Bool × Unit) × ((List Int) × Unit)
abbrev D326v0 : Type := Int → List Int → List Int → Option R326v0
def PR326v0 : Pr := ⟨(.cons (.im (.cons (.int .u8) (.cons (.tb (Sh.int .u8)) .nil))) (.cons (.ptr 0 0) .nil)), [(.ints false .u8)]⟩
def QR326v0 : Pr := ⟨(.cons .bool .nil), [(.ints false .u8)]⟩
/-- euphroe/packet.Check$1 -/
abbrev rn326v0 (f : D326v0) : REnt := ⟨PR326v0, QR326v0, R326v0, fun v => f v.1.1.1 v.1.1.2.1 v.2.1, fun r => r⟩
abbrev O326v0 (f : D326v0) : Prop := REntOK FT XT 326 (rn326v0 f)
abbrev R327v0 : Type := (Int × Unit) × ((List Int) × Unit)
abbrev D327v0 : Type := List (Int × (List Int)) → List Int → Option R327v0
def PR327v0 : Pr := ⟨(.cons (.tb (Sh.pr (Sh.int .u8) (Sh.sl (Sh.int .u8)))) (.cons (.fn 326 (.cons (.ptr 0 0) .nil)) .nil)), [(.ints false .u8)]⟩
def QR327v0 : Pr := ⟨(.cons (.int .i64) .nil), [(.ints false .u8)]⟩
/-- slices.IndexFunc[[]euphroe/api.Attr,euphroe/api.Attr] -/
abbrev rn327v0 (f : D327v0) : REnt := ⟨PR327v0, QR327v0, R327v0, fun v => f v.1.1 v.2.1, fun r => r⟩
abbrev O327v0 (f : D327v0) : Prop := REntOK FT XT 327 (rn327v0 f)
abbrev R325v0 : Type := (Bool × Unit) × ((List Int) × Unit)
abbrev D325v0 : Type := List (Int × (List Int)) → List Int → Option R325v0
def PR325v0 : Pr := ⟨(.cons (.tb (Sh.pr (Sh.int .u8) (Sh.sl (Sh.int .u8)))) (.cons (.fn 326 (.cons (.ptr 0 0) .nil)) .nil)), [(.ints false .u8)]⟩
def QR325v0 : Pr := ⟨(.cons .bool .nil), [(.ints false .u8)]⟩
/-- slices.ContainsFunc[[]euphroe/api.Attr,euphroe/api.Attr] -/
abbrev rn325v0 (f : D325v0) : REnt := ⟨PR325v0, QR325v0, R325v0, fun v => f v.1.1 v.2.1, fun r => r⟩
abbrev O325v0 (f : D325v0) : Prop := REntOK FT XT 325 (rn325v0 f)
abbrev R313v0 : Type := (Bool × Unit) × Unit
abbrev D313v0 : Type := List (Int × (List Int)) → List (Int × (List Int)) → Option R313v0
def PR313v0 : Pr := ⟨(.cons (.tb (Sh.pr (Sh.int .u8) (Sh.sl (Sh.int .u8)))) (.cons (.tb (Sh.pr (Sh.int .u8) (Sh.sl (Sh.int .u8)))) (.cons (.fn 144 .nil) .nil))), []⟩
def QR313v0 : Pr := ⟨(.cons .bool .nil), []⟩
/-- slices.EqualFunc[[]euphroe/api.Attr,[]euphroe/api.Attr,euphroe/api.Attr,euphroe/api.Attr] -/
abbrev rn313v0 (f : D313v0) : REnt := ⟨PR313v0, QR313v0, R313v0, fun v => f v.1.1 v.1.2.1, fun r => r⟩
abbrev O313v0 (f : D313v0) : Prop := REntOK FT XT 313 (rn313v0 f)

/-- slices.Grow[[]byte,byte] -/
def p64v0 (N : Nat) (a0 : Int) : Option R64v0 :=
  bif (decide (a0 < (0 : Int))) then
 none
 else
 bif (decide ((isub .i64 a0 (0 : Int)) > (0 : Int))) then
 bif ((decide ((0 : Int) ≤ (isub .i64 a0 (0 : Int)))) && ((decide (((isub .i64 a0 (0 : Int)) * ((1 : Nat) : Int)) ≤ (1099511627776 : Int))) && (decide ((isub .i64 a0 (0 : Int)) ≤ (1099511627776 : Int))))) then
 bif (decide ((0 : Int) ≤ (((Int.toNat (isub .i64 a0 (0 : Int))) : Nat) : Int))) then
 some ((0, ()), (([] : List Int), ()))
 else none
 else none
 else
 some ((0, ()), (([] : List Int), ()))

def L1_0 (d64v0 : D64v0) (N : Nat) (q0_0 : List (List Int) → Int → Option (List Int)) : Nat → List (List Int) → Int → List (List Int) → Int → Int → Option (List Int)
  | 0, _, _, _, _, _ => none
  | n0 + 1, v1, v2, v3, v4, v5 =>
    bif (decide (v5 < v4)) then
 match geti v3 v5 with
 | none => none
 | some x6 =>
 bif (decide ((iadd .i64 v2 (((List.length x6) : Nat) : Int)) < (0 : Int))) then
 none
 else
 L1_0 d64v0 N q0_0 n0 v1 (iadd .i64 v2 (((List.length x6) : Nat) : Int)) v3 v4 (iadd .i64 v5 (1 : Int))
 else
 q0_0 v1 v2
def L1_1 (d64v0 : D64v0) (N : Nat) (q1_2 : Nat → List Int → Option (List Int)) : Nat → Nat → List (List Int) → Int → Int → List Int → Option (List Int)
  | 0, _, _, _, _, _ => none
  | n1 + 1, v10, v11, v12, v13, v14 =>
    bif (decide (v13 < v12)) then
 match geti v11 v13 with
 | none => none
 | some x15 =>
 bif (((List.length v14) == (v10 * 1)) && ((decide (((v10 + (List.length x15)) * 1) ≤ 1099511627776)) && (decide ((v10 + (List.length x15)) ≤ 1099511627776)))) then
 L1_1 d64v0 N q1_2 n1 (v10 + (List.length x15)) v11 v12 (iadd .i64 v13 (1 : Int)) (v14 ++ x15)
 else none
 else
 q1_2 v10 v14
/-- slices.Concat[[]byte,byte] -/
def p1 (d64v0 : D64v0) (N : Nat) (a0 : List (List Int)) : Option (List Int) :=
  L1_0 d64v0 N (fun (y7 : List (List Int)) (y8 : Int) =>
 match d64v0 y8 with
 | none => none
 | some r9 =>
 L1_1 d64v0 N (fun (y16 : Nat) (y17 : List Int) =>
 bif (y16 == (List.length y17)) then
 some y17
 else none) N r9.1.1 y7 (((List.length y7) : Nat) : Int) (0 : Int) r9.2.1) N a0 (0 : Int) a0 (((List.length a0) : Nat) : Int) (0 : Int)

def L48v0_0 (N : Nat) (q0_0 : List Int → Option R48v0) : Nat → Nat → Nat → Int → Int → List Int → Option R48v0
  | 0, _, _, _, _, _ => none
  | n0 + 1, v1, v2, v3, v4, v5 =>
    bif (decide (v3 < v4)) then
 bif ((decide ((0 : Int) ≤ v4)) && (decide (v4 < ((v1 : Nat) : Int)))) then
 match (v5)[(0 + ((Int.toNat v4) * 1))]? with
 | none => none
 | some x6 =>
 bif ((decide ((0 : Int) ≤ v3)) && (decide (v3 < ((v1 : Nat) : Int)))) then
 match (v5)[(0 + ((Int.toNat v3) * 1))]? with
 | none => none
 | some x7 =>
 bif ((decide ((0 : Int) ≤ v3)) && (decide (v3 < ((v1 : Nat) : Int)))) then
 bif (decide ((0 + ((Int.toNat v3) * 1)) < (List.length v5))) then
 bif ((decide ((0 : Int) ≤ v4)) && (decide (v4 < ((v1 : Nat) : Int)))) then
 bif (decide ((0 + ((Int.toNat v4) * 1)) < (List.length (List.set v5 (0 + ((Int.toNat v3) * 1)) x6)))) then
 L48v0_0 N q0_0 n0 v1 v2 (iadd .i64 v3 (1 : Int)) (isub .i64 v4 (1 : Int)) (List.set (List.set v5 (0 + ((Int.toNat v3) * 1)) x6) (0 + ((Int.toNat v4) * 1)) x7)
 else none
 else none
 else none
 else none
 else none
 else none
 else
 q0_0 v5
/-- slices.Reverse[[]byte,byte] -/
def p48v0 (N : Nat) (a0 : Nat) (a1 : Nat) (a2 : List Int) : Option R48v0 :=
  L48v0_0 N (fun (y8 : List Int) =>
 some (((), ()), (y8, ()))) N a0 a1 (0 : Int) (isub .i64 ((a0 : Nat) : Int) (1 : Int)) a2

def L19_0 (d48v0 : D48v0) (N : Nat) (q0_0 : Bool → Nat → Nat → List Int → Option ((List Int) × Int)) : Nat → Int → Bool → Nat → Nat → Int → Int → List Int → Option ((List Int) × Int)
  | 0, _, _, _, _, _, _, _ => none
  | n0 + 1, v1, v2, v3, v4, v5, v6, v7 =>
    bif (decide (v6 < v5)) then
 bif (decide ((imul .i64 (8 : Int) v6) < (0 : Int))) then
 none
 else
 bif ((decide ((0 : Int) ≤ v6)) && (decide (v6 < ((v3 : Nat) : Int)))) then
 bif (decide ((0 + ((Int.toNat v6) * 1)) < (List.length v7))) then
 L19_0 d48v0 N q0_0 n0 v1 v2 v3 v4 v5 (iadd .i64 v6 (1 : Int)) (List.set v7 (0 + ((Int.toNat v6) * 1)) (IntKind.wrap .u8 (ishr .u64 v1 (imul .i64 (8 : Int) v6))))
 else none
 else none
 else
 q0_0 v2 v3 v4 v7
/-- euphroe/octs.Put -/
def p19 (d48v0 : D48v0) (N : Nat) (a0 : Int) (a1 : Int) (a2 : Bool) : Option ((List Int) × Int) :=
  bif (decide (a1 < (1 : Int))) then
 some (([] : List Int), (1 : Int))
 else
 bif (decide (a1 > (8 : Int))) then
 some (([] : List Int), (1 : Int))
 else
 bif ((decide ((0 : Int) ≤ a1)) && ((decide (a1 ≤ a1)) && ((decide ((a1 * ((1 : Nat) : Int)) ≤ (1099511627776 : Int))) && (decide (a1 ≤ (1099511627776 : Int)))))) then
 L19_0 d48v0 N (fun (y8 : Bool) (y9 : Nat) (y10 : Nat) (y11 : List Int) =>
 bif (!y8) then
 match d48v0 y9 y10 y11 with
 | none => none
 | some r12 =>
 bif (decide ((0 + (y9 * 1)) ≤ (List.length r12.2.1))) then
 some ((List.take y9 (List.drop 0 r12.2.1)), (0 : Int))
 else none
 else
 bif (decide ((0 + (y9 * 1)) ≤ (List.length y11))) then
 some ((List.take y9 (List.drop 0 y11)), (0 : Int))
 else none) N a0 a2 (Int.toNat a1) (Int.toNat a1) (((Int.toNat a1) : Nat) : Int) (0 : Int) (List.replicate (Int.toNat a1) (0 : Int))
 else none

def L21_0 (N : Nat) (q0_0 : Int → Option (Int × Int)) : Nat → Bool → Int → List Int → Int → Int → Option (Int × Int)
  | 0, _, _, _, _, _ => none
  | n0 + 1, v1, v2, v3, v4, v5 =>
    bif (decide (v5 < v4)) then
 match geti v3 v5 with
 | none => none
 | some x6 =>
 bif v1 then
 bif (decide ((imul .i64 (8 : Int) v5) < (0 : Int))) then
 none
 else
 L21_0 N q0_0 n0 v1 (ior .u64 v2 (ishl .u64 (IntKind.wrap .u64 x6) (imul .i64 (8 : Int) v5))) v3 v4 (iadd .i64 v5 (1 : Int))
 else
 L21_0 N q0_0 n0 v1 (ior .u64 (ishl .u64 v2 (8 : Int)) (IntKind.wrap .u64 x6)) v3 v4 (iadd .i64 v5 (1 : Int))
 else
 q0_0 v2
/-- euphroe/octs.Get -/
def p21 (N : Nat) (a0 : List Int) (a1 : Bool) : Option (Int × Int) :=
  bif (decide ((((List.length a0) : Nat) : Int) < (1 : Int))) then
 some ((0 : Int), (1 : Int))
 else
 bif (decide ((((List.length a0) : Nat) : Int) > (8 : Int))) then
 some ((0 : Int), (1 : Int))
 else
 L21_0 N (fun (y7 : Int) =>
 some (y7, (0 : Int))) N a1 (0 : Int) a0 (((List.length a0) : Nat) : Int) (0 : Int)

/-- euphroe/octs.Join -/
def p46 (c1 : D1) (N : Nat) (a0 : List (List Int)) : Option (List Int) :=
  match c1 a0 with
 | none => none
 | some r1 =>
 bif ((List.length r1) == (List.length r1)) then
 some r1
 else none

def L47_0 (N : Nat) (q0_0 : Int → Option Bool) : Nat → List Int → Int → List Int → Int → Int → Option Bool
  | 0, _, _, _, _, _ => none
  | n0 + 1, v1, v2, v3, v4, v5 =>
    bif (decide (v5 < v4)) then
 match geti v3 v5 with
 | none => none
 | some x6 =>
 match geti v1 v5 with
 | none => none
 | some x7 =>
 L47_0 N q0_0 n0 v1 (ior .u8 v2 (ixor .u8 x6 x7)) v3 v4 (iadd .i64 v5 (1 : Int))
 else
 q0_0 v2
/-- euphroe/octs.Same -/
def p47 (N : Nat) (a0 : List Int) (a1 : List Int) : Option Bool :=
  bif ((((List.length a0) : Nat) : Int) != (((List.length a1) : Nat) : Int)) then
 some false
 else
 L47_0 N (fun (y8 : Int) =>
 some (y8 == (0 : Int))) N a1 (0 : Int) a0 (((List.length a0) : Nat) : Int) (0 : Int)

def L50_0 (N : Nat) (q0_0 : Nat → Nat → List Int → Option (List Int)) : Nat → Int → Nat → Nat → Int → List Int → Option (List Int)
  | 0, _, _, _, _, _ => none
  | n0 + 1, v1, v2, v3, v4, v5 =>
    bif (decide (v4 ≥ (0 : Int))) then
 bif ((decide ((0 : Int) ≤ v4)) && (decide (v4 < ((v2 : Nat) : Int)))) then
 bif (decide ((0 + ((Int.toNat v4) * 1)) < (List.length v5))) then
 L50_0 N q0_0 n0 (iquo .u64 v1 (256 : Int)) v2 v3 (isub .i64 v4 (1 : Int)) (List.set v5 (0 + ((Int.toNat v4) * 1)) (IntKind.wrap .u8 (irem v1 (256 : Int))))
 else none
 else none
 else
 q0_0 v2 v3 v5
/-- euphroe/euphroeref01.Big -/
def p50 (N : Nat) (a0 : Int) (a1 : Int) : Option (List Int) :=
  bif ((decide ((0 : Int) ≤ a1)) && ((decide (a1 ≤ a1)) && ((decide ((a1 * ((1 : Nat) : Int)) ≤ (1099511627776 : Int))) && (decide (a1 ≤ (1099511627776 : Int)))))) then
 L50_0 N (fun (y6 : Nat) (y7 : Nat) (y8 : List Int) =>
 bif (decide ((y6 * 1) ≤ (List.length y8))) then
 bif (y6 == (List.length (List.take (y6 * 1) (List.drop 0 y8)))) then
 some (List.take (y6 * 1) (List.drop 0 y8))
 else none
 else none) N a0 (Int.toNat a1) (Int.toNat a1) (isub .i64 a1 (1 : Int)) (List.replicate (Int.toNat a1) (0 : Int))
 else none

/-- euphroe/roots.may -/
def p100 (N : Nat) (a0 : Int) (a1 : Int) (a2 : Int) : Option Bool :=
  bif (decide (a0 ≥ (0 : Int))) then
 bif (decide (a0 ≤ (1000 : Int))) then
 bif (a1 == (2 : Int)) then
 bif (decide (a2 ≥ (0 : Int))) then
 some (decide (a2 ≤ (32 : Int)))
 else
 some false
 else
 bif (a1 == (3 : Int)) then
 bif (decide (a2 ≥ (0 : Int))) then
 some (decide (a2 ≤ (32 : Int)))
 else
 some false
 else
 some false
 else
 some false
 else
 some false

/-- math/bits.Mul64 -/
def p120 (N : Nat) (a0 : Int) (a1 : Int) : Option (Int × Int) :=
  some ((iadd .u64 (iadd .u64 (imul .u64 (ishr .u64 a0 (32 : Int)) (ishr .u64 a1 (32 : Int))) (ishr .u64 (iadd .u64 (imul .u64 (ishr .u64 a0 (32 : Int)) (iand .u64 a1 (4294967295 : Int))) (ishr .u64 (imul .u64 (iand .u64 a0 (4294967295 : Int)) (iand .u64 a1 (4294967295 : Int))) (32 : Int))) (32 : Int))) (ishr .u64 (iadd .u64 (iand .u64 (iadd .u64 (imul .u64 (ishr .u64 a0 (32 : Int)) (iand .u64 a1 (4294967295 : Int))) (ishr .u64 (imul .u64 (iand .u64 a0 (4294967295 : Int)) (iand .u64 a1 (4294967295 : Int))) (32 : Int))) (4294967295 : Int)) (imul .u64 (iand .u64 a0 (4294967295 : Int)) (ishr .u64 a1 (32 : Int)))) (32 : Int))), (imul .u64 a0 a1))

/-- euphroe/roots.fits -/
def p116 (c120 : D120) (N : Nat) (a0 : Int) (a1 : Int) (a2 : Int) : Option Bool :=
  match c120 a0 a0 with
 | none => none
 | some r1 =>
 bif (a2 == (2 : Int)) then
 bif (decide (r1.1 < a1)) then
 some true
 else
 bif (r1.1 == a1) then
 some (r1.2 == (0 : Int))
 else
 some false
 else
 match c120 r1.2 a0 with
 | none => none
 | some r2 =>
 bif (decide ((iadd .u64 (imul .u64 r1.1 a0) r2.1) < (ishl .u64 a1 (32 : Int)))) then
 some true
 else
 bif ((iadd .u64 (imul .u64 r1.1 a0) r2.1) == (ishl .u64 a1 (32 : Int))) then
 some (r2.2 == (0 : Int))
 else
 some false

/-- euphroe/roots.full$1 -/
def p115v0 (c116 : D116) (N : Nat) (a0 : Int) (a1 : List Int) (a2 : List Int) : Option R115v0 :=
  match (a1)[0]? with
 | none => none
 | some x1 =>
 match (a2)[0]? with
 | none => none
 | some x2 =>
 match c116 (iadd .u64 (IntKind.wrap .u64 a0) (1 : Int)) (IntKind.wrap .u64 x1) x2 with
 | none => none
 | some r3 =>
 some (((!r3), ()), (a1, (a2, ())))

def L114v0_0 (d115v0 : D115v0) (N : Nat) (q0_0 : Int → List Int → List Int → Option R114v0) : Nat → Int → Int → List Int → List Int → Option R114v0
  | 0, _, _, _, _ => none
  | n0 + 1, v1, v2, v3, v4 =>
    bif (decide (v1 < v2)) then
 match d115v0 (IntKind.wrap .i64 (ishr .u64 (IntKind.wrap .u64 (iadd .i64 v1 v2)) (1 : Int))) v3 v4 with
 | none => none
 | some r5 =>
 bif (!r5.1.1) then
 L114v0_0 d115v0 N q0_0 n0 (iadd .i64 (IntKind.wrap .i64 (ishr .u64 (IntKind.wrap .u64 (iadd .i64 v1 v2)) (1 : Int))) (1 : Int)) v2 r5.2.1 r5.2.2.1
 else
 L114v0_0 d115v0 N q0_0 n0 v1 (IntKind.wrap .i64 (ishr .u64 (IntKind.wrap .u64 (iadd .i64 v1 v2)) (1 : Int))) r5.2.1 r5.2.2.1
 else
 q0_0 v1 v3 v4
/-- sort.Search -/
def p114v0 (d115v0 : D115v0) (N : Nat) (a0 : Int) (a1 : List Int) (a2 : List Int) : Option R114v0 :=
  L114v0_0 d115v0 N (fun (y6 : Int) (y7 : List Int) (y8 : List Int) =>
 some ((y6, ()), (y7, (y8, ())))) N (0 : Int) a0 a1 a2

/-- euphroe/roots.full -/
def p101 (d114v0 : D114v0) (N : Nat) (a0 : Int) (a1 : Int) : Option Int :=
  match d114v0 (274877906944 : Int) ([a0] : List Int) ([a1] : List Int) with
 | none => none
 | some r1 =>
 some (IntKind.wrap .u64 r1.1.1)

/-- euphroe/roots.Root -/
def p75 (c100 : D100) (c101 : D101) (N : Nat) (a0 : Int) (a1 : Int) (a2 : Int) : Option (Int × Int) :=
  match c100 a0 a1 a2 with
 | none => none
 | some r1 =>
 bif (!r1) then
 some ((0 : Int), (1 : Int))
 else
 match c101 a0 a1 with
 | none => none
 | some r2 =>
 bif (decide ((isub .i64 (32 : Int) a2) < (0 : Int))) then
 none
 else
 some ((ishr .u64 r2 (isub .i64 (32 : Int) a2)), (0 : Int))

/-- euphroe/roots.Frac -/
def p78 (c75 : D75) (N : Nat) (a0 : Int) (a1 : Int) : Option Int :=
  match c75 a0 a1 (32 : Int) with
 | none => none
 | some r1 =>
 some (IntKind.wrap .u32 r1.1)

def L81_1 (N : Nat) (q1_1 : Int → Nat → Int → List Int → Option (List Int)) (q1_2 : Int → Nat → Int → List Int → Option (List Int)) : Nat → Int → Nat → Int → Nat → Int → Int → List Int → Option (List Int)
  | 0, _, _, _, _, _, _, _ => none
  | n1 + 1, v5, v6, v7, v8, v9, v10, v11 =>
    bif (decide (v10 < v9)) then
 bif ((decide ((0 : Int) ≤ v10)) && (decide (v10 < ((v8 : Nat) : Int)))) then
 match (v11)[(0 + ((Int.toNat v10) * 1))]? with
 | none => none
 | some x12 =>
 bif (x12 == (0 : Int)) then
 none
 else
 bif ((irem v7 x12) == (0 : Int)) then
 q1_1 v5 v6 v7 v11
 else
 L81_1 N q1_1 q1_2 n1 v5 v6 v7 v8 v9 (iadd .i64 v10 (1 : Int)) v11
 else none
 else
 q1_2 v5 v6 v7 v11
def L81_0 (N : Nat) (q0_0 : Nat → List Int → Option (List Int)) : Nat → Int → Nat → Int → List Int → Option (List Int)
  | 0, _, _, _, _ => none
  | n0 + 1, v1, v2, v3, v4 =>
    bif (decide (v3 < (1000 : Int))) then
 bif (decide (((v2 : Nat) : Int) < v1)) then
 L81_1 N (fun (y13 : Int) (y14 : Nat) (y15 : Int) (y16 : List Int) =>
 L81_0 N q0_0 n0 y13 y14 (iadd .i64 y15 (1 : Int)) y16) (fun (y17 : Int) (y18 : Nat) (y19 : Int) (y20 : List Int) =>
 bif (((List.length y20) == (y18 * 1)) && ((decide (((y18 + 1) * 8) ≤ 1099511627776)) && (decide ((y18 + 1) ≤ 1099511627776)))) then
 L81_0 N q0_0 n0 y17 (y18 + 1) (iadd .i64 y19 (1 : Int)) (y20 ++ [y19])
 else none) N v1 v2 v3 v2 ((v2 : Nat) : Int) (0 : Int) v4
 else
 q0_0 v2 v4
 else
 q0_0 v2 v4
/-- euphroe/roots.Primes -/
def p81 (N : Nat) (a0 : Int) : Option (List Int) :=
  L81_0 N (fun (y21 : Nat) (y22 : List Int) =>
 bif (decide ((0 + (y21 * 1)) ≤ (List.length y22))) then
 some (List.take y21 (List.drop 0 y22))
 else none) N a0 0 (2 : Int) ([] : List Int)

def L83_0 (c81 : D81) (c78 : D78) (N : Nat) (q0_0 : Nat → List Int → Option (List Int)) : Nat → Int → Nat → List Int → Int → Int → List Int → Option (List Int)
  | 0, _, _, _, _, _, _ => none
  | n0 + 1, v2, v3, v4, v5, v6, v7 =>
    bif (decide (v6 < v5)) then
 match geti v4 v6 with
 | none => none
 | some x8 =>
 match c78 x8 v2 with
 | none => none
 | some r9 =>
 bif (((List.length v7) == (v3 * 1)) && ((decide (((v3 + 1) * 4) ≤ 1099511627776)) && (decide ((v3 + 1) ≤ 1099511627776)))) then
 L83_0 c81 c78 N q0_0 n0 v2 (v3 + 1) v4 v5 (iadd .i64 v6 (1 : Int)) (v7 ++ [r9])
 else none
 else
 q0_0 v3 v7
/-- euphroe/roots.Fracs -/
def p83 (c81 : D81) (c78 : D78) (N : Nat) (a0 : Int) (a1 : Int) : Option (List Int) :=
  match c81 a0 with
 | none => none
 | some r1 =>
 L83_0 c81 c78 N (fun (y10 : Nat) (y11 : List Int) =>
 bif (decide ((0 + (y10 * 1)) ≤ (List.length y11))) then
 some (List.take y10 (List.drop 0 y11))
 else none) N a1 0 r1 (((List.length r1) : Nat) : Int) (0 : Int) ([] : List Int)

/-- euphroe/attr.isKind -/
def p161 (N : Nat) (a0 : Int) : Option Bool :=
  bif (decide (a0 ≥ (1 : Int))) then
 some (decide (a0 ≤ (4 : Int)))
 else
 some false

/-- euphroe/attr.Lay -/
def p139 (c161 : D161) (c19 : D19) (c46 : D46) (N : Nat) (a0 : Int × (List Int)) : Option ((List Int) × Int) :=
  match c161 a0.1 with
 | none => none
 | some r1 =>
 bif (!r1) then
 some (([] : List Int), (9 : Int))
 else
 bif (decide ((iadd .i64 (4 : Int) (((List.length a0.2) : Nat) : Int)) > (4095 : Int))) then
 some (([] : List Int), (8 : Int))
 else
 match c19 (IntKind.wrap .u64 (iadd .i64 (4 : Int) (((List.length a0.2) : Nat) : Int))) (2 : Int) false with
 | none => none
 | some r2 =>
 match c46 ([([(0 : Int), a0.1] : List Int), r2.1, a0.2] : List (List Int)) with
 | none => none
 | some r3 =>
 bif (decide ((0 + ((List.length r3) * 1)) ≤ (List.length r3))) then
 some ((List.take (List.length r3) (List.drop 0 r3)), (0 : Int))
 else none

/-- euphroe/euphroeref17.kind -/
def p162 (N : Nat) (a0 : Int) : Option Bool :=
  bif (decide (a0 ≥ (1 : Int))) then
 some (decide (a0 ≤ (4 : Int)))
 else
 some false

/-- euphroe/euphroeref17.Lay -/
def p141 (c162 : D162) (c50 : D50) (N : Nat) (a0 : Int × (List Int)) : Option ((List Int) × Int) :=
  match c162 a0.1 with
 | none => none
 | some r1 =>
 bif (!r1) then
 some (([] : List Int), (9 : Int))
 else
 bif (decide ((((List.length a0.2) : Nat) : Int) > (4091 : Int))) then
 some (([] : List Int), (8 : Int))
 else
 match c50 (IntKind.wrap .u64 (iadd .i64 (4 : Int) (((List.length a0.2) : Nat) : Int))) (2 : Int) with
 | none => none
 | some r2 =>
 bif (decide ((0 + ((List.length r2) * 1)) ≤ (List.length r2))) then
 bif (decide (2 < (2 + (List.length r2)))) then
 bif ((decide (((2 + (List.length r2)) * 1) ≤ 1099511627776)) && (decide ((2 + (List.length r2)) ≤ 1099511627776))) then
 bif (((List.length ([(0 : Int), a0.1] ++ (List.take ((List.length r2) * 1) (List.drop 0 r2)))) == ((2 + (List.length r2)) * 1)) && ((decide ((((2 + (List.length r2)) + (List.length a0.2)) * 1) ≤ 1099511627776)) && (decide (((2 + (List.length r2)) + (List.length a0.2)) ≤ 1099511627776)))) then
 bif (decide ((0 + (((2 + (List.length r2)) + (List.length a0.2)) * 1)) ≤ (List.length (([(0 : Int), a0.1] ++ (List.take ((List.length r2) * 1) (List.drop 0 r2))) ++ a0.2)))) then
 some ((List.take ((2 + (List.length r2)) + (List.length a0.2)) (List.drop 0 (([(0 : Int), a0.1] ++ (List.take ((List.length r2) * 1) (List.drop 0 r2))) ++ a0.2))), (0 : Int))
 else none
 else none
 else none
 else
 bif (decide ((2 + (List.length (List.take ((List.length r2) * 1) (List.drop 0 r2)))) ≤ 2)) then
 bif (decide (2 < ((2 + (List.length r2)) + (List.length a0.2)))) then
 bif ((decide ((((2 + (List.length r2)) + (List.length a0.2)) * 1) ≤ 1099511627776)) && (decide (((2 + (List.length r2)) + (List.length a0.2)) ≤ 1099511627776))) then
 bif (decide ((0 + ((2 + (List.length r2)) * 1)) ≤ (List.length (([(0 : Int), a0.1] ++ (List.take ((List.length r2) * 1) (List.drop 0 r2))) ++ (List.drop (2 + (List.length (List.take ((List.length r2) * 1) (List.drop 0 r2)))) [(0 : Int), a0.1]))))) then
 bif (decide ((0 + (((2 + (List.length r2)) + (List.length a0.2)) * 1)) ≤ (List.length ((List.take ((2 + (List.length r2)) * 1) (List.drop 0 (([(0 : Int), a0.1] ++ (List.take ((List.length r2) * 1) (List.drop 0 r2))) ++ (List.drop (2 + (List.length (List.take ((List.length r2) * 1) (List.drop 0 r2)))) [(0 : Int), a0.1])))) ++ a0.2)))) then
 some ((List.take ((2 + (List.length r2)) + (List.length a0.2)) (List.drop 0 ((List.take ((2 + (List.length r2)) * 1) (List.drop 0 (([(0 : Int), a0.1] ++ (List.take ((List.length r2) * 1) (List.drop 0 r2))) ++ (List.drop (2 + (List.length (List.take ((List.length r2) * 1) (List.drop 0 r2)))) [(0 : Int), a0.1])))) ++ a0.2))), (0 : Int))
 else none
 else none
 else none
 else
 bif (decide (((0 + ((2 + (List.length r2)) * 1)) + (List.length a0.2)) ≤ (List.length (([(0 : Int), a0.1] ++ (List.take ((List.length r2) * 1) (List.drop 0 r2))) ++ (List.drop (2 + (List.length (List.take ((List.length r2) * 1) (List.drop 0 r2)))) [(0 : Int), a0.1]))))) then
 bif (decide ((0 + (((2 + (List.length r2)) + (List.length a0.2)) * 1)) ≤ (List.length (((List.take (0 + ((2 + (List.length r2)) * 1)) (([(0 : Int), a0.1] ++ (List.take ((List.length r2) * 1) (List.drop 0 r2))) ++ (List.drop (2 + (List.length (List.take ((List.length r2) * 1) (List.drop 0 r2)))) [(0 : Int), a0.1]))) ++ a0.2) ++ (List.drop ((0 + ((2 + (List.length r2)) * 1)) + (List.length a0.2)) (([(0 : Int), a0.1] ++ (List.take ((List.length r2) * 1) (List.drop 0 r2))) ++ (List.drop (2 + (List.length (List.take ((List.length r2) * 1) (List.drop 0 r2)))) [(0 : Int), a0.1]))))))) then
 some ((List.take ((2 + (List.length r2)) + (List.length a0.2)) (List.drop 0 (((List.take (0 + ((2 + (List.length r2)) * 1)) (([(0 : Int), a0.1] ++ (List.take ((List.length r2) * 1) (List.drop 0 r2))) ++ (List.drop (2 + (List.length (List.take ((List.length r2) * 1) (List.drop 0 r2)))) [(0 : Int), a0.1]))) ++ a0.2) ++ (List.drop ((0 + ((2 + (List.length r2)) * 1)) + (List.length a0.2)) (([(0 : Int), a0.1] ++ (List.take ((List.length r2) * 1) (List.drop 0 r2))) ++ (List.drop (2 + (List.length (List.take ((List.length r2) * 1) (List.drop 0 r2)))) [(0 : Int), a0.1])))))), (0 : Int))
 else none
 else none
 else none
 else none

/-- bytes.Equal -/
def p160 (N : Nat) (a0 : List Int) (a1 : List Int) : Option Bool :=
  some ((List.map (fun n : Int => UInt8.ofNat n.toNat) a0) == (List.map (fun n : Int => UInt8.ofNat n.toNat) a1))

/-- euphroe/attr.Same -/
def p144 (c160 : D160) (N : Nat) (a0 : Int × (List Int)) (a1 : Int × (List Int)) : Option Bool :=
  bif (a0.1 == a1.1) then
 match c160 a0.2 a1.2 with
 | none => none
 | some r1 =>
 some r1
 else
 some false

/-- euphroe/attr.limits -/
def p163 (N : Nat) (a0 : Int) : Option (Int × Int × Int × Int) :=
  bif (a0 == (2 : Int)) then
 some ((8 : Int), ((72 : Int), ((0 : Int), (4 : Int))))
 else
 bif (a0 == (3 : Int)) then
 some ((100 : Int), ((100 : Int), ((1 : Int), (2 : Int))))
 else
 bif (a0 == (4 : Int)) then
 some ((36 : Int), ((36 : Int), ((1 : Int), (3 : Int))))
 else
 some ((2 : Int), ((2 : Int), ((0 : Int), (0 : Int))))

/-- bytes.HasPrefix -/
def p164 (c160 : D160) (N : Nat) (a0 : List Int) (a1 : List Int) : Option Bool :=
  bif (decide ((((List.length a0) : Nat) : Int) ≥ (((List.length a1) : Nat) : Int))) then
 bif ((decide ((0 : Int) ≤ (((List.length a1) : Nat) : Int))) && (decide ((((List.length a1) : Nat) : Int) ≤ (((List.length a0) : Nat) : Int)))) then
 match c160 (List.take (Int.toNat (((List.length a1) : Nat) : Int)) a0) a1 with
 | none => none
 | some r1 =>
 some r1
 else none
 else
 some false

/-- euphroe/attr.Check -/
def p145 (c163 : D163) (c161 : D161) (c164 : D164) (N : Nat) (a0 : Int × (List Int)) : Option Int :=
  match c163 a0.1 with
 | none => none
 | some r1 =>
 match c161 a0.1 with
 | none => none
 | some r2 =>
 bif (!r2) then
 some (9 : Int)
 else
 bif (decide ((((List.length a0.2) : Nat) : Int) < r1.1)) then
 some (4 : Int)
 else
 bif (decide ((((List.length a0.2) : Nat) : Int) > r1.2.1)) then
 some (3 : Int)
 else
 bif (a0.1 == (1 : Int)) then
 some (0 : Int)
 else
 match geti a0.2 (3 : Int) with
 | none => none
 | some x3 =>
 match c164 a0.2 ([(0 : Int), (0 : Int), (0 : Int)] : List Int) with
 | none => none
 | some r4 =>
 bif (!r4) then
 some (3 : Int)
 else
 bif (decide (x3 < r1.2.2.1)) then
 some (3 : Int)
 else
 bif (decide (x3 > r1.2.2.2)) then
 some (3 : Int)
 else
 some (0 : Int)

/-- euphroe/attr.ahead -/
def p166 (N : Nat) (a0 : Int) : Option (List Int) :=
  some ([(0 : Int), (0 : Int), (0 : Int), a0] : List Int)

/-- euphroe/attr.OfBinding -/
def p148 (c166 : D166) (c46 : D46) (N : Nat) (a0 : List Int) : Option (Int × (List Int)) :=
  match (a0)[0]? with
 | none => none
 | some x1 =>
 match c166 x1 with
 | none => none
 | some r2 =>
 bif (decide (33 ≤ (List.length a0))) then
 bif (decide (65 ≤ (List.length a0))) then
 bif (decide (97 ≤ (List.length a0))) then
 bif (decide (33 ≤ (List.length a0))) then
 bif (decide (65 ≤ (List.length a0))) then
 bif (decide (97 ≤ (List.length a0))) then
 match c46 ([r2, (List.take 32 (List.drop 1 a0)), (List.take 32 (List.drop 33 a0)), (List.take 32 (List.drop 65 a0))] : List (List Int)) with
 | none => none
 | some r3 =>
 bif (decide ((0 + ((List.length r3) * 1)) ≤ (List.length r3))) then
 some ((3 : Int), (List.take (List.length r3) (List.drop 0 r3)))
 else none
 else none
 else none
 else none
 else none
 else none
 else none

/-- euphroe/attr.OfAsk -/
def p149 (c166 : D166) (c46 : D46) (N : Nat) (a0 : List Int) : Option (Int × (List Int)) :=
  match (a0)[0]? with
 | none => none
 | some x1 =>
 match c166 x1 with
 | none => none
 | some r2 =>
 bif (decide (33 ≤ (List.length a0))) then
 bif (decide (33 ≤ (List.length a0))) then
 match c46 ([r2, (List.take 32 (List.drop 1 a0))] : List (List Int)) with
 | none => none
 | some r3 =>
 bif (decide ((0 + ((List.length r3) * 1)) ≤ (List.length r3))) then
 some ((4 : Int), (List.take (List.length r3) (List.drop 0 r3)))
 else none
 else none
 else none

/-- euphroe/euphroeref17.Binding -/
def p151 (N : Nat) (a0 : Int) (a1 : List Int) (a2 : List Int) (a3 : List Int) : Option (Int × (List Int)) :=
  bif (decide (32 ≤ (List.length a1))) then
 bif (decide (32 ≤ (List.length a1))) then
 bif (decide (32 ≤ (List.length a2))) then
 bif (decide (32 ≤ (List.length a2))) then
 bif (((List.length ([(0 : Int), 0, 0, a0] ++ (List.take 32 (List.drop 0 a1)))) == 36) && true) then
 bif (decide (32 ≤ (List.length a3))) then
 bif ((List.length (List.take 32 (List.drop 0 a3))) == 32) then
 bif (((List.length (([(0 : Int), 0, 0, a0] ++ (List.take 32 (List.drop 0 a1))) ++ (List.take 32 (List.drop 0 a2)))) == 68) && true) then
 bif (decide (100 ≤ (List.length ((([(0 : Int), 0, 0, a0] ++ (List.take 32 (List.drop 0 a1))) ++ (List.take 32 (List.drop 0 a2))) ++ (List.take 32 (List.drop 0 a3)))))) then
 some ((3 : Int), (List.take 100 (List.drop 0 ((([(0 : Int), 0, 0, a0] ++ (List.take 32 (List.drop 0 a1))) ++ (List.take 32 (List.drop 0 a2))) ++ (List.take 32 (List.drop 0 a3))))))
 else none
 else none
 else none
 else none
 else none
 else none
 else none
 else none
 else none

/-- euphroe/euphroeref17.Ask -/
def p152 (N : Nat) (a0 : Int) (a1 : List Int) : Option (Int × (List Int)) :=
  bif (decide (32 ≤ (List.length a1))) then
 bif (decide (32 ≤ (List.length a1))) then
 bif (decide (36 ≤ (List.length ([(0 : Int), 0, 0, a0] ++ (List.take 32 (List.drop 0 a1)))))) then
 some ((4 : Int), (List.take 36 (List.drop 0 ([(0 : Int), 0, 0, a0] ++ (List.take 32 (List.drop 0 a1))))))
 else none
 else none
 else none

/-- euphroe/attr.is -/
def p167 (c145 : D145) (N : Nat) (a0 : Int × (List Int)) (a1 : Int) : Option Int :=
  bif (a0.1 != a1) then
 some (9 : Int)
 else
 match c145 (a0.1, a0.2) with
 | none => none
 | some r1 =>
 some r1

/-- euphroe/attr.ToBinding -/
def p154 (c167 : D167) (N : Nat) (a0 : Int × (List Int)) : Option ((List Int) × Int) :=
  match c167 (a0.1, a0.2) (3 : Int) with
 | none => none
 | some r1 =>
 bif (r1 != (0 : Int)) then
 some ((zz 97), r1)
 else
 bif (decide ((4 : Int) ≤ (((List.length a0.2) : Nat) : Int))) then
 match geti a0.2 (3 : Int) with
 | none => none
 | some x2 =>
 bif (decide (32 ≤ (List.length (List.drop 4 a0.2)))) then
 bif (decide (32 ≤ (List.length (List.drop 4 a0.2)))) then
 bif (decide ((32 : Int) ≤ (((List.length (List.drop 4 a0.2)) : Nat) : Int))) then
 bif (decide (32 ≤ (List.length (List.drop 32 (List.drop 4 a0.2))))) then
 bif (decide (32 ≤ (List.length (List.drop 32 (List.drop 4 a0.2))))) then
 bif (decide ((64 : Int) ≤ (((List.length (List.drop 4 a0.2)) : Nat) : Int))) then
 bif (decide (32 ≤ (List.length (List.drop 64 (List.drop 4 a0.2))))) then
 bif (decide (32 ≤ (List.length (List.drop 64 (List.drop 4 a0.2))))) then
 bif ((List.length (List.take 32 (List.drop 0 (List.drop 4 a0.2)))) == 32) then
 bif (decide ((1 + (List.length (List.take 32 (List.drop 0 (List.drop 4 a0.2))))) ≤ 97)) then
 bif ((List.length (List.take 32 (List.drop 0 (List.drop 32 (List.drop 4 a0.2))))) == 32) then
 bif (decide ((33 + (List.length (List.take 32 (List.drop 0 (List.drop 32 (List.drop 4 a0.2)))))) ≤ (List.length (([x2] ++ (List.take 32 (List.drop 0 (List.drop 4 a0.2)))) ++ (List.drop (1 + (List.length (List.take 32 (List.drop 0 (List.drop 4 a0.2))))) ([x2] ++ zz 96)))))) then
 bif ((List.length (List.take 32 (List.drop 0 (List.drop 64 (List.drop 4 a0.2))))) == 32) then
 bif (decide ((65 + (List.length (List.take 32 (List.drop 0 (List.drop 64 (List.drop 4 a0.2)))))) ≤ (List.length (((List.take 33 (([x2] ++ (List.take 32 (List.drop 0 (List.drop 4 a0.2)))) ++ (List.drop (1 + (List.length (List.take 32 (List.drop 0 (List.drop 4 a0.2))))) ([x2] ++ zz 96)))) ++ (List.take 32 (List.drop 0 (List.drop 32 (List.drop 4 a0.2))))) ++ (List.drop (33 + (List.length (List.take 32 (List.drop 0 (List.drop 32 (List.drop 4 a0.2)))))) (([x2] ++ (List.take 32 (List.drop 0 (List.drop 4 a0.2)))) ++ (List.drop (1 + (List.length (List.take 32 (List.drop 0 (List.drop 4 a0.2))))) ([x2] ++ zz 96)))))))) then
 bif ((List.length (((List.take 65 (((List.take 33 (([x2] ++ (List.take 32 (List.drop 0 (List.drop 4 a0.2)))) ++ (List.drop (1 + (List.length (List.take 32 (List.drop 0 (List.drop 4 a0.2))))) ([x2] ++ zz 96)))) ++ (List.take 32 (List.drop 0 (List.drop 32 (List.drop 4 a0.2))))) ++ (List.drop (33 + (List.length (List.take 32 (List.drop 0 (List.drop 32 (List.drop 4 a0.2)))))) (([x2] ++ (List.take 32 (List.drop 0 (List.drop 4 a0.2)))) ++ (List.drop (1 + (List.length (List.take 32 (List.drop 0 (List.drop 4 a0.2))))) ([x2] ++ zz 96)))))) ++ (List.take 32 (List.drop 0 (List.drop 64 (List.drop 4 a0.2))))) ++ (List.drop (65 + (List.length (List.take 32 (List.drop 0 (List.drop 64 (List.drop 4 a0.2)))))) (((List.take 33 (([x2] ++ (List.take 32 (List.drop 0 (List.drop 4 a0.2)))) ++ (List.drop (1 + (List.length (List.take 32 (List.drop 0 (List.drop 4 a0.2))))) ([x2] ++ zz 96)))) ++ (List.take 32 (List.drop 0 (List.drop 32 (List.drop 4 a0.2))))) ++ (List.drop (33 + (List.length (List.take 32 (List.drop 0 (List.drop 32 (List.drop 4 a0.2)))))) (([x2] ++ (List.take 32 (List.drop 0 (List.drop 4 a0.2)))) ++ (List.drop (1 + (List.length (List.take 32 (List.drop 0 (List.drop 4 a0.2))))) ([x2] ++ zz 96)))))))) == 97) then
 bif (decide ((0 + (List.length (((List.take 65 (((List.take 33 (([x2] ++ (List.take 32 (List.drop 0 (List.drop 4 a0.2)))) ++ (List.drop (1 + (List.length (List.take 32 (List.drop 0 (List.drop 4 a0.2))))) ([x2] ++ zz 96)))) ++ (List.take 32 (List.drop 0 (List.drop 32 (List.drop 4 a0.2))))) ++ (List.drop (33 + (List.length (List.take 32 (List.drop 0 (List.drop 32 (List.drop 4 a0.2)))))) (([x2] ++ (List.take 32 (List.drop 0 (List.drop 4 a0.2)))) ++ (List.drop (1 + (List.length (List.take 32 (List.drop 0 (List.drop 4 a0.2))))) ([x2] ++ zz 96)))))) ++ (List.take 32 (List.drop 0 (List.drop 64 (List.drop 4 a0.2))))) ++ (List.drop (65 + (List.length (List.take 32 (List.drop 0 (List.drop 64 (List.drop 4 a0.2)))))) (((List.take 33 (([x2] ++ (List.take 32 (List.drop 0 (List.drop 4 a0.2)))) ++ (List.drop (1 + (List.length (List.take 32 (List.drop 0 (List.drop 4 a0.2))))) ([x2] ++ zz 96)))) ++ (List.take 32 (List.drop 0 (List.drop 32 (List.drop 4 a0.2))))) ++ (List.drop (33 + (List.length (List.take 32 (List.drop 0 (List.drop 32 (List.drop 4 a0.2)))))) (([x2] ++ (List.take 32 (List.drop 0 (List.drop 4 a0.2)))) ++ (List.drop (1 + (List.length (List.take 32 (List.drop 0 (List.drop 4 a0.2))))) ([x2] ++ zz 96))))))))) ≤ 97)) then
 bif (decide (97 ≤ (List.length (([] ++ (((List.take 65 (((List.take 33 (([x2] ++ (List.take 32 (List.drop 0 (List.drop 4 a0.2)))) ++ (List.drop (1 + (List.length (List.take 32 (List.drop 0 (List.drop 4 a0.2))))) ([x2] ++ zz 96)))) ++ (List.take 32 (List.drop 0 (List.drop 32 (List.drop 4 a0.2))))) ++ (List.drop (33 + (List.length (List.take 32 (List.drop 0 (List.drop 32 (List.drop 4 a0.2)))))) (([x2] ++ (List.take 32 (List.drop 0 (List.drop 4 a0.2)))) ++ (List.drop (1 + (List.length (List.take 32 (List.drop 0 (List.drop 4 a0.2))))) ([x2] ++ zz 96)))))) ++ (List.take 32 (List.drop 0 (List.drop 64 (List.drop 4 a0.2))))) ++ (List.drop (65 + (List.length (List.take 32 (List.drop 0 (List.drop 64 (List.drop 4 a0.2)))))) (((List.take 33 (([x2] ++ (List.take 32 (List.drop 0 (List.drop 4 a0.2)))) ++ (List.drop (1 + (List.length (List.take 32 (List.drop 0 (List.drop 4 a0.2))))) ([x2] ++ zz 96)))) ++ (List.take 32 (List.drop 0 (List.drop 32 (List.drop 4 a0.2))))) ++ (List.drop (33 + (List.length (List.take 32 (List.drop 0 (List.drop 32 (List.drop 4 a0.2)))))) (([x2] ++ (List.take 32 (List.drop 0 (List.drop 4 a0.2)))) ++ (List.drop (1 + (List.length (List.take 32 (List.drop 0 (List.drop 4 a0.2))))) ([x2] ++ zz 96)))))))) ++ (List.drop (0 + (List.length (((List.take 65 (((List.take 33 (([x2] ++ (List.take 32 (List.drop 0 (List.drop 4 a0.2)))) ++ (List.drop (1 + (List.length (List.take 32 (List.drop 0 (List.drop 4 a0.2))))) ([x2] ++ zz 96)))) ++ (List.take 32 (List.drop 0 (List.drop 32 (List.drop 4 a0.2))))) ++ (List.drop (33 + (List.length (List.take 32 (List.drop 0 (List.drop 32 (List.drop 4 a0.2)))))) (([x2] ++ (List.take 32 (List.drop 0 (List.drop 4 a0.2)))) ++ (List.drop (1 + (List.length (List.take 32 (List.drop 0 (List.drop 4 a0.2))))) ([x2] ++ zz 96)))))) ++ (List.take 32 (List.drop 0 (List.drop 64 (List.drop 4 a0.2))))) ++ (List.drop (65 + (List.length (List.take 32 (List.drop 0 (List.drop 64 (List.drop 4 a0.2)))))) (((List.take 33 (([x2] ++ (List.take 32 (List.drop 0 (List.drop 4 a0.2)))) ++ (List.drop (1 + (List.length (List.take 32 (List.drop 0 (List.drop 4 a0.2))))) ([x2] ++ zz 96)))) ++ (List.take 32 (List.drop 0 (List.drop 32 (List.drop 4 a0.2))))) ++ (List.drop (33 + (List.length (List.take 32 (List.drop 0 (List.drop 32 (List.drop 4 a0.2)))))) (([x2] ++ (List.take 32 (List.drop 0 (List.drop 4 a0.2)))) ++ (List.drop (1 + (List.length (List.take 32 (List.drop 0 (List.drop 4 a0.2))))) ([x2] ++ zz 96))))))))) (zz 97)))))) then
 some ((List.take 97 (List.drop 0 (([] ++ (((List.take 65 (((List.take 33 (([x2] ++ (List.take 32 (List.drop 0 (List.drop 4 a0.2)))) ++ (List.drop (1 + (List.length (List.take 32 (List.drop 0 (List.drop 4 a0.2))))) ([x2] ++ zz 96)))) ++ (List.take 32 (List.drop 0 (List.drop 32 (List.drop 4 a0.2))))) ++ (List.drop (33 + (List.length (List.take 32 (List.drop 0 (List.drop 32 (List.drop 4 a0.2)))))) (([x2] ++ (List.take 32 (List.drop 0 (List.drop 4 a0.2)))) ++ (List.drop (1 + (List.length (List.take 32 (List.drop 0 (List.drop 4 a0.2))))) ([x2] ++ zz 96)))))) ++ (List.take 32 (List.drop 0 (List.drop 64 (List.drop 4 a0.2))))) ++ (List.drop (65 + (List.length (List.take 32 (List.drop 0 (List.drop 64 (List.drop 4 a0.2)))))) (((List.take 33 (([x2] ++ (List.take 32 (List.drop 0 (List.drop 4 a0.2)))) ++ (List.drop (1 + (List.length (List.take 32 (List.drop 0 (List.drop 4 a0.2))))) ([x2] ++ zz 96)))) ++ (List.take 32 (List.drop 0 (List.drop 32 (List.drop 4 a0.2))))) ++ (List.drop (33 + (List.length (List.take 32 (List.drop 0 (List.drop 32 (List.drop 4 a0.2)))))) (([x2] ++ (List.take 32 (List.drop 0 (List.drop 4 a0.2)))) ++ (List.drop (1 + (List.length (List.take 32 (List.drop 0 (List.drop 4 a0.2))))) ([x2] ++ zz 96)))))))) ++ (List.drop (0 + (List.length (((List.take 65 (((List.take 33 (([x2] ++ (List.take 32 (List.drop 0 (List.drop 4 a0.2)))) ++ (List.drop (1 + (List.length (List.take 32 (List.drop 0 (List.drop 4 a0.2))))) ([x2] ++ zz 96)))) ++ (List.take 32 (List.drop 0 (List.drop 32 (List.drop 4 a0.2))))) ++ (List.drop (33 + (List.length (List.take 32 (List.drop 0 (List.drop 32 (List.drop 4 a0.2)))))) (([x2] ++ (List.take 32 (List.drop 0 (List.drop 4 a0.2)))) ++ (List.drop (1 + (List.length (List.take 32 (List.drop 0 (List.drop 4 a0.2))))) ([x2] ++ zz 96)))))) ++ (List.take 32 (List.drop 0 (List.drop 64 (List.drop 4 a0.2))))) ++ (List.drop (65 + (List.length (List.take 32 (List.drop 0 (List.drop 64 (List.drop 4 a0.2)))))) (((List.take 33 (([x2] ++ (List.take 32 (List.drop 0 (List.drop 4 a0.2)))) ++ (List.drop (1 + (List.length (List.take 32 (List.drop 0 (List.drop 4 a0.2))))) ([x2] ++ zz 96)))) ++ (List.take 32 (List.drop 0 (List.drop 32 (List.drop 4 a0.2))))) ++ (List.drop (33 + (List.length (List.take 32 (List.drop 0 (List.drop 32 (List.drop 4 a0.2)))))) (([x2] ++ (List.take 32 (List.drop 0 (List.drop 4 a0.2)))) ++ (List.drop (1 + (List.length (List.take 32 (List.drop 0 (List.drop 4 a0.2))))) ([x2] ++ zz 96))))))))) (zz 97))))), (0 : Int))
 else none
 else none
 else none
 else none
 else none
 else none
 else none
 else none
 else none
 else none
 else none
 else none
 else none
 else none
 else none
 else none
 else none
 else none

/-- euphroe/attr.ToAsk -/
def p155 (c167 : D167) (N : Nat) (a0 : Int × (List Int)) : Option ((List Int) × Int) :=
  match c167 (a0.1, a0.2) (4 : Int) with
 | none => none
 | some r1 =>
 bif (r1 != (0 : Int)) then
 some (([(0 : Int), 0, 0, 0, 0, 0, 0, 0, 0, 0, 0, 0, 0, 0, 0, 0, 0, 0, 0, 0, 0, 0, 0, 0, 0, 0, 0, 0, 0, 0, 0, 0, 0] : List Int), r1)
 else
 match geti a0.2 (3 : Int) with
 | none => none
 | some x2 =>
 bif (decide ((4 : Int) ≤ (((List.length a0.2) : Nat) : Int))) then
 bif (decide (32 ≤ (List.length (List.drop 4 a0.2)))) then
 bif (decide (32 ≤ (List.length (List.drop 4 a0.2)))) then
 bif ((List.length (List.take 32 (List.drop 0 (List.drop 4 a0.2)))) == 32) then
 bif (decide ((1 + (List.length (List.take 32 (List.drop 0 (List.drop 4 a0.2))))) ≤ 33)) then
 bif ((List.length (([x2] ++ (List.take 32 (List.drop 0 (List.drop 4 a0.2)))) ++ (List.drop (1 + (List.length (List.take 32 (List.drop 0 (List.drop 4 a0.2))))) [x2, 0, 0, 0, 0, 0, 0, 0, 0, 0, 0, 0, 0, 0, 0, 0, 0, 0, 0, 0, 0, 0, 0, 0, 0, 0, 0, 0, 0, 0, 0, 0, 0]))) == 33) then
 bif (decide ((0 + (List.length (([x2] ++ (List.take 32 (List.drop 0 (List.drop 4 a0.2)))) ++ (List.drop (1 + (List.length (List.take 32 (List.drop 0 (List.drop 4 a0.2))))) [x2, 0, 0, 0, 0, 0, 0, 0, 0, 0, 0, 0, 0, 0, 0, 0, 0, 0, 0, 0, 0, 0, 0, 0, 0, 0, 0, 0, 0, 0, 0, 0, 0])))) ≤ 33)) then
 bif (decide (33 ≤ (List.length (([] ++ (([x2] ++ (List.take 32 (List.drop 0 (List.drop 4 a0.2)))) ++ (List.drop (1 + (List.length (List.take 32 (List.drop 0 (List.drop 4 a0.2))))) [x2, 0, 0, 0, 0, 0, 0, 0, 0, 0, 0, 0, 0, 0, 0, 0, 0, 0, 0, 0, 0, 0, 0, 0, 0, 0, 0, 0, 0, 0, 0, 0, 0]))) ++ (List.drop (0 + (List.length (([x2] ++ (List.take 32 (List.drop 0 (List.drop 4 a0.2)))) ++ (List.drop (1 + (List.length (List.take 32 (List.drop 0 (List.drop 4 a0.2))))) [x2, 0, 0, 0, 0, 0, 0, 0, 0, 0, 0, 0, 0, 0, 0, 0, 0, 0, 0, 0, 0, 0, 0, 0, 0, 0, 0, 0, 0, 0, 0, 0, 0])))) [(0 : Int), 0, 0, 0, 0, 0, 0, 0, 0, 0, 0, 0, 0, 0, 0, 0, 0, 0, 0, 0, 0, 0, 0, 0, 0, 0, 0, 0, 0, 0, 0, 0, 0]))))) then
 some ((List.take 33 (List.drop 0 (([] ++ (([x2] ++ (List.take 32 (List.drop 0 (List.drop 4 a0.2)))) ++ (List.drop (1 + (List.length (List.take 32 (List.drop 0 (List.drop 4 a0.2))))) [x2, 0, 0, 0, 0, 0, 0, 0, 0, 0, 0, 0, 0, 0, 0, 0, 0, 0, 0, 0, 0, 0, 0, 0, 0, 0, 0, 0, 0, 0, 0, 0, 0]))) ++ (List.drop (0 + (List.length (([x2] ++ (List.take 32 (List.drop 0 (List.drop 4 a0.2)))) ++ (List.drop (1 + (List.length (List.take 32 (List.drop 0 (List.drop 4 a0.2))))) [x2, 0, 0, 0, 0, 0, 0, 0, 0, 0, 0, 0, 0, 0, 0, 0, 0, 0, 0, 0, 0, 0, 0, 0, 0, 0, 0, 0, 0, 0, 0, 0, 0])))) [(0 : Int), 0, 0, 0, 0, 0, 0, 0, 0, 0, 0, 0, 0, 0, 0, 0, 0, 0, 0, 0, 0, 0, 0, 0, 0, 0, 0, 0, 0, 0, 0, 0, 0])))), (0 : Int))
 else none
 else none
 else none
 else none
 else none
 else none
 else none
 else none

def L177_0 (N : Nat) (q0_0 : Int → Nat → List Int → Option (List Int)) : Nat → Int → Nat → List Int → Option (List Int)
  | 0, _, _, _ => none
  | n0 + 1, v1, v2, v3 =>
    bif ((irem (iadd .u64 v1 (IntKind.wrap .u64 ((v2 : Nat) : Int))) (64 : Int)) != (56 : Int)) then
 bif (((List.length v3) == (v2 * 1)) && ((decide (((v2 + 1) * 1) ≤ 1099511627776)) && (decide ((v2 + 1) ≤ 1099511627776)))) then
 L177_0 N q0_0 n0 v1 (v2 + 1) (v3 ++ [(0 : Int)])
 else none
 else
 q0_0 v1 v2 v3
def L177_1 (N : Nat) (q1_2 : Nat → List Int → Option (List Int)) : Nat → Nat → Int → Int → List Int → Option (List Int)
  | 0, _, _, _, _ => none
  | n1 + 1, v7, v8, v9, v10 =>
    bif (decide (v9 < (8 : Int))) then
 bif (((List.length v10) == (v7 * 1)) && ((decide (((v7 + 1) * 1) ≤ 1099511627776)) && (decide ((v7 + 1) ≤ 1099511627776)))) then
 L177_1 N q1_2 n1 (v7 + 1) (iquo .u64 v8 (256 : Int)) (iadd .i64 v9 (1 : Int)) (v10 ++ [(IntKind.wrap .u8 (irem v8 (256 : Int)))])
 else none
 else
 q1_2 v7 v10
/-- euphroe/euphroeref04.Tail -/
def p177 (N : Nat) (a0 : Int) : Option (List Int) :=
  L177_0 N (fun (y4 : Int) (y5 : Nat) (y6 : List Int) =>
 L177_1 N (fun (y11 : Nat) (y12 : List Int) =>
 bif (decide ((0 + (y11 * 1)) ≤ (List.length y12))) then
 some (List.take y11 (List.drop 0 y12))
 else none) N y5 (imul .u64 (8 : Int) y4) (0 : Int) y6) N a0 1 ([(128 : Int)] : List Int)

def L186_0 (c177 : D177) (N : Nat) (q0_0 : Nat → List Int → Option (List Int)) : Nat → List Int → Int → Nat → Int → List Int → Option (List Int)
  | 0, _, _, _, _, _ => none
  | n0 + 1, v2, v3, v4, v5, v6 =>
    bif (decide (v5 ≥ (0 : Int))) then
 match geti v2 (iadd .i64 v3 v5) with
 | none => none
 | some x7 =>
 bif (((List.length v6) == (v4 * 1)) && ((decide (((v4 + 1) * 1) ≤ 1099511627776)) && (decide ((v4 + 1) ≤ 1099511627776)))) then
 L186_0 c177 N q0_0 n0 v2 v3 (v4 + 1) (isub .i64 v5 (1 : Int)) (v6 ++ [x7])
 else none
 else
 q0_0 v4 v6
/-- euphroe/euphroeref05.Tail -/
def p186 (c177 : D177) (N : Nat) (a0 : Int) : Option (List Int) :=
  match c177 a0 with
 | none => none
 | some r1 =>
 bif ((decide ((0 : Int) ≤ (isub .i64 (((List.length r1) : Nat) : Int) (8 : Int)))) && (decide ((isub .i64 (((List.length r1) : Nat) : Int) (8 : Int)) ≤ (((List.length r1) : Nat) : Int)))) then
 bif ((decide (((List.length (List.take (Int.toNat (isub .i64 (((List.length r1) : Nat) : Int) (8 : Int))) r1)) * 1) ≤ 1099511627776)) && (decide ((List.length (List.take (Int.toNat (isub .i64 (((List.length r1) : Nat) : Int) (8 : Int))) r1)) ≤ 1099511627776))) then
 L186_0 c177 N (fun (y8 : Nat) (y9 : List Int) =>
 bif (decide ((0 + (y8 * 1)) ≤ (List.length y9))) then
 some (List.take y8 (List.drop 0 y9))
 else none) N r1 (isub .i64 (((List.length r1) : Nat) : Int) (8 : Int)) (List.length (List.take (Int.toNat (isub .i64 (((List.length r1) : Nat) : Int) (8 : Int))) r1)) (7 : Int) (List.take (Int.toNat (isub .i64 (((List.length r1) : Nat) : Int) (8 : Int))) r1)
 else none
 else none

/-- math/bits.RotateLeft32 -/
def p195 (N : Nat) (a0 : Int) (a1 : Int) : Option Int :=
  bif (decide ((iand .u64 (IntKind.wrap .u64 a1) (31 : Int)) < (0 : Int))) then
 none
 else
 bif (decide ((isub .u64 (32 : Int) (iand .u64 (IntKind.wrap .u64 a1) (31 : Int))) < (0 : Int))) then
 none
 else
 some (ior .u32 (ishl .u32 a0 (iand .u64 (IntKind.wrap .u64 a1) (31 : Int))) (ishr .u32 a0 (isub .u64 (32 : Int) (iand .u64 (IntKind.wrap .u64 a1) (31 : Int)))))

/-- euphroe/sha256.Tail -/
def p217 (c19 : D19) (N : Nat) (a0 : Int) : Option (List Int) :=
  bif ((decide ((0 : Int) ≤ (irem (isub .u64 (64 : Int) (irem (iadd .u64 (iadd .u64 a0 (1 : Int)) (8 : Int)) (64 : Int))) (64 : Int)))) && ((decide (((irem (isub .u64 (64 : Int) (irem (iadd .u64 (iadd .u64 a0 (1 : Int)) (8 : Int)) (64 : Int))) (64 : Int)) * ((1 : Nat) : Int)) ≤ (1099511627776 : Int))) && (decide ((irem (isub .u64 (64 : Int) (irem (iadd .u64 (iadd .u64 a0 (1 : Int)) (8 : Int)) (64 : Int))) (64 : Int)) ≤ (1099511627776 : Int))))) then
 bif ((List.length (List.replicate (Int.toNat (irem (isub .u64 (64 : Int) (irem (iadd .u64 (iadd .u64 a0 (1 : Int)) (8 : Int)) (64 : Int))) (64 : Int))) (0 : Int))) == ((Int.toNat (irem (isub .u64 (64 : Int) (irem (iadd .u64 (iadd .u64 a0 (1 : Int)) (8 : Int)) (64 : Int))) (64 : Int))) * 1)) then
 bif (decide (1 < (1 + (Int.toNat (irem (isub .u64 (64 : Int) (irem (iadd .u64 (iadd .u64 a0 (1 : Int)) (8 : Int)) (64 : Int))) (64 : Int)))))) then
 bif ((decide (((1 + (Int.toNat (irem (isub .u64 (64 : Int) (irem (iadd .u64 (iadd .u64 a0 (1 : Int)) (8 : Int)) (64 : Int))) (64 : Int)))) * 1) ≤ 1099511627776)) && (decide ((1 + (Int.toNat (irem (isub .u64 (64 : Int) (irem (iadd .u64 (iadd .u64 a0 (1 : Int)) (8 : Int)) (64 : Int))) (64 : Int)))) ≤ 1099511627776))) then
 match c19 (imul .u64 a0 (8 : Int)) (8 : Int) false with
 | none => none
 | some r1 =>
 bif (((List.length ([(128 : Int)] ++ (List.replicate (Int.toNat (irem (isub .u64 (64 : Int) (irem (iadd .u64 (iadd .u64 a0 (1 : Int)) (8 : Int)) (64 : Int))) (64 : Int))) (0 : Int)))) == ((1 + (Int.toNat (irem (isub .u64 (64 : Int) (irem (iadd .u64 (iadd .u64 a0 (1 : Int)) (8 : Int)) (64 : Int))) (64 : Int)))) * 1)) && ((decide ((((1 + (Int.toNat (irem (isub .u64 (64 : Int) (irem (iadd .u64 (iadd .u64 a0 (1 : Int)) (8 : Int)) (64 : Int))) (64 : Int)))) + (List.length r1.1)) * 1) ≤ 1099511627776)) && (decide (((1 + (Int.toNat (irem (isub .u64 (64 : Int) (irem (iadd .u64 (iadd .u64 a0 (1 : Int)) (8 : Int)) (64 : Int))) (64 : Int)))) + (List.length r1.1)) ≤ 1099511627776)))) then
 bif (decide ((0 + (((1 + (Int.toNat (irem (isub .u64 (64 : Int) (irem (iadd .u64 (iadd .u64 a0 (1 : Int)) (8 : Int)) (64 : Int))) (64 : Int)))) + (List.length r1.1)) * 1)) ≤ (List.length (([(128 : Int)] ++ (List.replicate (Int.toNat (irem (isub .u64 (64 : Int) (irem (iadd .u64 (iadd .u64 a0 (1 : Int)) (8 : Int)) (64 : Int))) (64 : Int))) (0 : Int))) ++ r1.1)))) then
 some (List.take ((1 + (Int.toNat (irem (isub .u64 (64 : Int) (irem (iadd .u64 (iadd .u64 a0 (1 : Int)) (8 : Int)) (64 : Int))) (64 : Int)))) + (List.length r1.1)) (List.drop 0 (([(128 : Int)] ++ (List.replicate (Int.toNat (irem (isub .u64 (64 : Int) (irem (iadd .u64 (iadd .u64 a0 (1 : Int)) (8 : Int)) (64 : Int))) (64 : Int))) (0 : Int))) ++ r1.1)))
 else none
 else none
 else none
 else
 bif (decide ((1 + (List.length (List.replicate (Int.toNat (irem (isub .u64 (64 : Int) (irem (iadd .u64 (iadd .u64 a0 (1 : Int)) (8 : Int)) (64 : Int))) (64 : Int))) (0 : Int)))) ≤ 1)) then
 match c19 (imul .u64 a0 (8 : Int)) (8 : Int) false with
 | none => none
 | some r2 =>
 bif (decide (1 < ((1 + (Int.toNat (irem (isub .u64 (64 : Int) (irem (iadd .u64 (iadd .u64 a0 (1 : Int)) (8 : Int)) (64 : Int))) (64 : Int)))) + (List.length r2.1)))) then
 bif ((decide ((((1 + (Int.toNat (irem (isub .u64 (64 : Int) (irem (iadd .u64 (iadd .u64 a0 (1 : Int)) (8 : Int)) (64 : Int))) (64 : Int)))) + (List.length r2.1)) * 1) ≤ 1099511627776)) && (decide (((1 + (Int.toNat (irem (isub .u64 (64 : Int) (irem (iadd .u64 (iadd .u64 a0 (1 : Int)) (8 : Int)) (64 : Int))) (64 : Int)))) + (List.length r2.1)) ≤ 1099511627776))) then
 bif (decide ((0 + ((1 + (Int.toNat (irem (isub .u64 (64 : Int) (irem (iadd .u64 (iadd .u64 a0 (1 : Int)) (8 : Int)) (64 : Int))) (64 : Int)))) * 1)) ≤ (List.length (([(128 : Int)] ++ (List.replicate (Int.toNat (irem (isub .u64 (64 : Int) (irem (iadd .u64 (iadd .u64 a0 (1 : Int)) (8 : Int)) (64 : Int))) (64 : Int))) (0 : Int))) ++ (List.drop (1 + (List.length (List.replicate (Int.toNat (irem (isub .u64 (64 : Int) (irem (iadd .u64 (iadd .u64 a0 (1 : Int)) (8 : Int)) (64 : Int))) (64 : Int))) (0 : Int)))) [(128 : Int)]))))) then
 bif (decide ((0 + (((1 + (Int.toNat (irem (isub .u64 (64 : Int) (irem (iadd .u64 (iadd .u64 a0 (1 : Int)) (8 : Int)) (64 : Int))) (64 : Int)))) + (List.length r2.1)) * 1)) ≤ (List.length ((List.take ((1 + (Int.toNat (irem (isub .u64 (64 : Int) (irem (iadd .u64 (iadd .u64 a0 (1 : Int)) (8 : Int)) (64 : Int))) (64 : Int)))) * 1) (List.drop 0 (([(128 : Int)] ++ (List.replicate (Int.toNat (irem (isub .u64 (64 : Int) (irem (iadd .u64 (iadd .u64 a0 (1 : Int)) (8 : Int)) (64 : Int))) (64 : Int))) (0 : Int))) ++ (List.drop (1 + (List.length (List.replicate (Int.toNat (irem (isub .u64 (64 : Int) (irem (iadd .u64 (iadd .u64 a0 (1 : Int)) (8 : Int)) (64 : Int))) (64 : Int))) (0 : Int)))) [(128 : Int)])))) ++ r2.1)))) then
 some (List.take ((1 + (Int.toNat (irem (isub .u64 (64 : Int) (irem (iadd .u64 (iadd .u64 a0 (1 : Int)) (8 : Int)) (64 : Int))) (64 : Int)))) + (List.length r2.1)) (List.drop 0 ((List.take ((1 + (Int.toNat (irem (isub .u64 (64 : Int) (irem (iadd .u64 (iadd .u64 a0 (1 : Int)) (8 : Int)) (64 : Int))) (64 : Int)))) * 1) (List.drop 0 (([(128 : Int)] ++ (List.replicate (Int.toNat (irem (isub .u64 (64 : Int) (irem (iadd .u64 (iadd .u64 a0 (1 : Int)) (8 : Int)) (64 : Int))) (64 : Int))) (0 : Int))) ++ (List.drop (1 + (List.length (List.replicate (Int.toNat (irem (isub .u64 (64 : Int) (irem (iadd .u64 (iadd .u64 a0 (1 : Int)) (8 : Int)) (64 : Int))) (64 : Int))) (0 : Int)))) [(128 : Int)])))) ++ r2.1)))
 else none
 else none
 else none
 else
 bif (decide (((0 + ((1 + (Int.toNat (irem (isub .u64 (64 : Int) (irem (iadd .u64 (iadd .u64 a0 (1 : Int)) (8 : Int)) (64 : Int))) (64 : Int)))) * 1)) + (List.length r2.1)) ≤ (List.length (([(128 : Int)] ++ (List.replicate (Int.toNat (irem (isub .u64 (64 : Int) (irem (iadd .u64 (iadd .u64 a0 (1 : Int)) (8 : Int)) (64 : Int))) (64 : Int))) (0 : Int))) ++ (List.drop (1 + (List.length (List.replicate (Int.toNat (irem (isub .u64 (64 : Int) (irem (iadd .u64 (iadd .u64 a0 (1 : Int)) (8 : Int)) (64 : Int))) (64 : Int))) (0 : Int)))) [(128 : Int)]))))) then
 bif (decide ((0 + (((1 + (Int.toNat (irem (isub .u64 (64 : Int) (irem (iadd .u64 (iadd .u64 a0 (1 : Int)) (8 : Int)) (64 : Int))) (64 : Int)))) + (List.length r2.1)) * 1)) ≤ (List.length (((List.take (0 + ((1 + (Int.toNat (irem (isub .u64 (64 : Int) (irem (iadd .u64 (iadd .u64 a0 (1 : Int)) (8 : Int)) (64 : Int))) (64 : Int)))) * 1)) (([(128 : Int)] ++ (List.replicate (Int.toNat (irem (isub .u64 (64 : Int) (irem (iadd .u64 (iadd .u64 a0 (1 : Int)) (8 : Int)) (64 : Int))) (64 : Int))) (0 : Int))) ++ (List.drop (1 + (List.length (List.replicate (Int.toNat (irem (isub .u64 (64 : Int) (irem (iadd .u64 (iadd .u64 a0 (1 : Int)) (8 : Int)) (64 : Int))) (64 : Int))) (0 : Int)))) [(128 : Int)]))) ++ r2.1) ++ (List.drop ((0 + ((1 + (Int.toNat (irem (isub .u64 (64 : Int) (irem (iadd .u64 (iadd .u64 a0 (1 : Int)) (8 : Int)) (64 : Int))) (64 : Int)))) * 1)) + (List.length r2.1)) (([(128 : Int)] ++ (List.replicate (Int.toNat (irem (isub .u64 (64 : Int) (irem (iadd .u64 (iadd .u64 a0 (1 : Int)) (8 : Int)) (64 : Int))) (64 : Int))) (0 : Int))) ++ (List.drop (1 + (List.length (List.replicate (Int.toNat (irem (isub .u64 (64 : Int) (irem (iadd .u64 (iadd .u64 a0 (1 : Int)) (8 : Int)) (64 : Int))) (64 : Int))) (0 : Int)))) [(128 : Int)]))))))) then
 some (List.take ((1 + (Int.toNat (irem (isub .u64 (64 : Int) (irem (iadd .u64 (iadd .u64 a0 (1 : Int)) (8 : Int)) (64 : Int))) (64 : Int)))) + (List.length r2.1)) (List.drop 0 (((List.take (0 + ((1 + (Int.toNat (irem (isub .u64 (64 : Int) (irem (iadd .u64 (iadd .u64 a0 (1 : Int)) (8 : Int)) (64 : Int))) (64 : Int)))) * 1)) (([(128 : Int)] ++ (List.replicate (Int.toNat (irem (isub .u64 (64 : Int) (irem (iadd .u64 (iadd .u64 a0 (1 : Int)) (8 : Int)) (64 : Int))) (64 : Int))) (0 : Int))) ++ (List.drop (1 + (List.length (List.replicate (Int.toNat (irem (isub .u64 (64 : Int) (irem (iadd .u64 (iadd .u64 a0 (1 : Int)) (8 : Int)) (64 : Int))) (64 : Int))) (0 : Int)))) [(128 : Int)]))) ++ r2.1) ++ (List.drop ((0 + ((1 + (Int.toNat (irem (isub .u64 (64 : Int) (irem (iadd .u64 (iadd .u64 a0 (1 : Int)) (8 : Int)) (64 : Int))) (64 : Int)))) * 1)) + (List.length r2.1)) (([(128 : Int)] ++ (List.replicate (Int.toNat (irem (isub .u64 (64 : Int) (irem (iadd .u64 (iadd .u64 a0 (1 : Int)) (8 : Int)) (64 : Int))) (64 : Int))) (0 : Int))) ++ (List.drop (1 + (List.length (List.replicate (Int.toNat (irem (isub .u64 (64 : Int) (irem (iadd .u64 (iadd .u64 a0 (1 : Int)) (8 : Int)) (64 : Int))) (64 : Int))) (0 : Int)))) [(128 : Int)]))))))
 else none
 else none
 else none
 else none
 else none

/-- euphroe/sha256.First -/
def p219 (c83 : D83) (N : Nat)  : Option (List Int) :=
  match c83 (8 : Int) (2 : Int) with
 | none => none
 | some r1 =>
 bif (decide (8 ≤ (List.length r1))) then
 bif (decide (8 ≤ (List.length r1))) then
 bif ((List.length (List.take 8 (List.drop 0 r1))) == 8) then
 bif (decide ((0 + (List.length (List.take 8 (List.drop 0 r1)))) ≤ 8)) then
 bif (decide (8 ≤ (List.length (([] ++ (List.take 8 (List.drop 0 r1))) ++ (List.drop (0 + (List.length (List.take 8 (List.drop 0 r1)))) [(0 : Int), 0, 0, 0, 0, 0, 0, 0]))))) then
 some (List.take 8 (List.drop 0 (([] ++ (List.take 8 (List.drop 0 r1))) ++ (List.drop (0 + (List.length (List.take 8 (List.drop 0 r1)))) [(0 : Int), 0, 0, 0, 0, 0, 0, 0]))))
 else none
 else none
 else none
 else none
 else none

/-- (euphroe/sha256.turns).small -/
def p238 (c195 : D195) (N : Nat) (a0 : List Int) (a1 : Int) : Option Int :=
  match (a0)[0]? with
 | none => none
 | some x1 =>
 match c195 a1 (isub .i64 (0 : Int) x1) with
 | none => none
 | some r2 =>
 match (a0)[1]? with
 | none => none
 | some x3 =>
 match c195 a1 (isub .i64 (0 : Int) x3) with
 | none => none
 | some r4 =>
 match (a0)[2]? with
 | none => none
 | some x5 =>
 bif (decide (x5 < (0 : Int))) then
 none
 else
 some (ixor .u32 (ixor .u32 r2 r4) (ishr .u32 a1 x5))

def L235_0 (c21 : D21) (c238 : D238) (N : Nat) (q0_0 : List Int → List Int → Option (List Int)) : Nat → Int → List Int → List Int → List Int → Option (List Int)
  | 0, _, _, _, _ => none
  | n0 + 1, v1, v2, v3, v4 =>
    bif (decide (v1 < (64 : Int))) then
 bif (decide (v1 < (16 : Int))) then
 bif (decide (64 ≤ (List.length v2))) then
 bif ((decide ((0 : Int) ≤ (iadd .i64 (imul .i64 (4 : Int) v1) (4 : Int)))) && (decide ((iadd .i64 (imul .i64 (4 : Int) v1) (4 : Int)) ≤ (64 : Int)))) then
 bif ((decide ((0 : Int) ≤ (imul .i64 (4 : Int) v1))) && (decide ((imul .i64 (4 : Int) v1) ≤ (((Int.toNat (iadd .i64 (imul .i64 (4 : Int) v1) (4 : Int))) : Nat) : Int)))) then
 bif (decide (((0 + ((Int.toNat (imul .i64 (4 : Int) v1)) * 1)) + (((Int.toNat (iadd .i64 (imul .i64 (4 : Int) v1) (4 : Int))) - (Int.toNat (imul .i64 (4 : Int) v1))) * 1)) ≤ (List.length v2))) then
 match c21 (List.take ((Int.toNat (iadd .i64 (imul .i64 (4 : Int) v1) (4 : Int))) - (Int.toNat (imul .i64 (4 : Int) v1))) (List.drop (0 + ((Int.toNat (imul .i64 (4 : Int) v1)) * 1)) v2)) false with
 | none => none
 | some r5 =>
 bif ((decide ((0 : Int) ≤ v1)) && (decide (v1 < (64 : Int)))) then
 bif (decide ((0 + ((Int.toNat v1) * 1)) < (List.length v4))) then
 L235_0 c21 c238 N q0_0 n0 (iadd .i64 v1 (1 : Int)) v2 v3 (List.set v4 (0 + ((Int.toNat v1) * 1)) (IntKind.wrap .u32 r5.1))
 else none
 else none
 else none
 else none
 else none
 else none
 else
 bif ((decide ((0 : Int) ≤ (isub .i64 v1 (16 : Int)))) && (decide ((isub .i64 v1 (16 : Int)) < (64 : Int)))) then
 match (v4)[(0 + ((Int.toNat (isub .i64 v1 (16 : Int))) * 1))]? with
 | none => none
 | some x6 =>
 bif ((decide ((0 : Int) ≤ (isub .i64 v1 (7 : Int)))) && (decide ((isub .i64 v1 (7 : Int)) < (64 : Int)))) then
 match (v4)[(0 + ((Int.toNat (isub .i64 v1 (7 : Int))) * 1))]? with
 | none => none
 | some x7 =>
 bif ((decide ((0 : Int) ≤ (isub .i64 v1 (15 : Int)))) && (decide ((isub .i64 v1 (15 : Int)) < (64 : Int)))) then
 match (v4)[(0 + ((Int.toNat (isub .i64 v1 (15 : Int))) * 1))]? with
 | none => none
 | some x8 =>
 match c238 ([(7 : Int), 18, 3] : List Int) x8 with
 | none => none
 | some r9 =>
 bif ((decide ((0 : Int) ≤ (isub .i64 v1 (2 : Int)))) && (decide ((isub .i64 v1 (2 : Int)) < (64 : Int)))) then
 match (v4)[(0 + ((Int.toNat (isub .i64 v1 (2 : Int))) * 1))]? with
 | none => none
 | some x10 =>
 match c238 ([(17 : Int), 19, 10] : List Int) x10 with
 | none => none
 | some r11 =>
 bif ((decide ((0 : Int) ≤ v1)) && (decide (v1 < (64 : Int)))) then
 bif (decide ((0 + ((Int.toNat v1) * 1)) < (List.length v4))) then
 L235_0 c21 c238 N q0_0 n0 (iadd .i64 v1 (1 : Int)) v2 v3 (List.set v4 (0 + ((Int.toNat v1) * 1)) (iadd .u32 (iadd .u32 (iadd .u32 x6 x7) r9) r11))
 else none
 else none
 else none
 else none
 else none
 else none
 else
 q0_0 v3 v4
/-- euphroe/sha256.spread -/
def p235 (c21 : D21) (c238 : D238) (N : Nat) (a0 : List Int) : Option (List Int) :=
  L235_0 c21 c238 N (fun (y12 : List Int) (y13 : List Int) =>
 bif (decide (64 ≤ (List.length y13))) then
 bif ((List.length (List.take 64 (List.drop 0 y13))) == 64) then
 bif (decide ((0 + (List.length (List.take 64 (List.drop 0 y13)))) ≤ (List.length y12))) then
 bif (decide (64 ≤ (List.length (((List.take 0 y12) ++ (List.take 64 (List.drop 0 y13))) ++ (List.drop (0 + (List.length (List.take 64 (List.drop 0 y13)))) y12))))) then
 some (List.take 64 (List.drop 0 (((List.take 0 y12) ++ (List.take 64 (List.drop 0 y13))) ++ (List.drop (0 + (List.length (List.take 64 (List.drop 0 y13)))) y12))))
 else none
 else none
 else none
 else none) N (0 : Int) a0 ([(0 : Int), 0, 0, 0, 0, 0, 0, 0, 0, 0, 0, 0, 0, 0, 0, 0, 0, 0, 0, 0, 0, 0, 0, 0, 0, 0, 0, 0, 0, 0, 0, 0, 0, 0, 0, 0, 0, 0, 0, 0, 0, 0, 0, 0, 0, 0, 0, 0, 0, 0, 0, 0, 0, 0, 0, 0, 0, 0, 0, 0, 0, 0, 0, 0] : List Int) ([(0 : Int), 0, 0, 0, 0, 0, 0, 0, 0, 0, 0, 0, 0, 0, 0, 0, 0, 0, 0, 0, 0, 0, 0, 0, 0, 0, 0, 0, 0, 0, 0, 0, 0, 0, 0, 0, 0, 0, 0, 0, 0, 0, 0, 0, 0, 0, 0, 0, 0, 0, 0, 0, 0, 0, 0, 0, 0, 0, 0, 0, 0, 0, 0, 0] : List Int)

/-- (euphroe/sha256.turns).great -/
def p239 (c195 : D195) (N : Nat) (a0 : List Int) (a1 : Int) : Option Int :=
  match (a0)[0]? with
 | none => none
 | some x1 =>
 match c195 a1 (isub .i64 (0 : Int) x1) with
 | none => none
 | some r2 =>
 match (a0)[1]? with
 | none => none
 | some x3 =>
 match c195 a1 (isub .i64 (0 : Int) x3) with
 | none => none
 | some r4 =>
 match (a0)[2]? with
 | none => none
 | some x5 =>
 match c195 a1 (isub .i64 (0 : Int) x5) with
 | none => none
 | some r6 =>
 some (ixor .u32 (ixor .u32 r2 r4) r6)

/-- (euphroe/sha256.State).step -/
def p236 (c239 : D239) (N : Nat) (a0 : List Int) (a1 : Int) : Option (List Int) :=
  match (a0)[0]? with
 | none => none
 | some x1 =>
 match (a0)[1]? with
 | none => none
 | some x2 =>
 match (a0)[2]? with
 | none => none
 | some x3 =>
 match (a0)[4]? with
 | none => none
 | some x4 =>
 match (a0)[5]? with
 | none => none
 | some x5 =>
 match (a0)[6]? with
 | none => none
 | some x6 =>
 match (a0)[7]? with
 | none => none
 | some x7 =>
 match c239 ([(6 : Int), 11, 25] : List Int) x4 with
 | none => none
 | some r8 =>
 match c239 ([(2 : Int), 13, 22] : List Int) x1 with
 | none => none
 | some r9 =>
 match (a0)[3]? with
 | none => none
 | some x10 =>
 some ([(iadd .u32 (iadd .u32 (iadd .u32 (iadd .u32 x7 r8) (ixor .u32 x6 (iand .u32 x4 (ixor .u32 x5 x6)))) a1) (iadd .u32 r9 (ior .u32 (iand .u32 x1 x2) (iand .u32 x3 (ior .u32 x1 x2))))), x1, x2, x3, (iadd .u32 x10 (iadd .u32 (iadd .u32 (iadd .u32 x7 r8) (ixor .u32 x6 (iand .u32 x4 (ixor .u32 x5 x6)))) a1)), x4, x5, x6] : List Int)

def L229_0 (c235 : D235) (c236 : D236) (N : Nat) (q0_0 : List Int → List Int → List Int → Option (List Int)) : Nat → List Int → List Int → Int → List Int → List Int → List Int → Option (List Int)
  | 0, _, _, _, _, _, _ => none
  | n0 + 1, v2, v3, v4, v5, v6, v7 =>
    bif (decide (v4 < (64 : Int))) then
 bif ((decide ((0 : Int) ≤ v4)) && (decide (v4 < (64 : Int)))) then
 match (v3)[((Int.toNat v4) * 1)]? with
 | none => none
 | some x8 =>
 bif (decide (8 ≤ (List.length v7))) then
 match geti v2 v4 with
 | none => none
 | some x9 =>
 match c236 (List.take 8 (List.drop 0 v7)) (iadd .u32 x8 x9) with
 | none => none
 | some r10 =>
 bif ((List.length r10) == 8) then
 bif (decide ((0 + (List.length r10)) ≤ (List.length v7))) then
 L229_0 c235 c236 N q0_0 n0 v2 v3 (iadd .i64 v4 (1 : Int)) v5 v6 (((List.take 0 v7) ++ r10) ++ (List.drop (0 + (List.length r10)) v7))
 else none
 else none
 else none
 else none
 else
 q0_0 v5 v6 v7
def L229_1 (c235 : D235) (c236 : D236) (N : Nat) (q1_2 : List Int → List Int → Option (List Int)) : Nat → Int → List Int → List Int → List Int → Option (List Int)
  | 0, _, _, _, _ => none
  | n1 + 1, v14, v15, v16, v17 =>
    bif (decide (v14 < (8 : Int))) then
 bif ((decide ((0 : Int) ≤ v14)) && (decide (v14 < (8 : Int)))) then
 match (v17)[(0 + ((Int.toNat v14) * 1))]? with
 | none => none
 | some x18 =>
 bif ((decide ((0 : Int) ≤ v14)) && (decide (v14 < (8 : Int)))) then
 match (v15)[(0 + ((Int.toNat v14) * 1))]? with
 | none => none
 | some x19 =>
 bif ((decide ((0 : Int) ≤ v14)) && (decide (v14 < (8 : Int)))) then
 bif (decide ((0 + ((Int.toNat v14) * 1)) < (List.length v17))) then
 L229_1 c235 c236 N q1_2 n1 (iadd .i64 v14 (1 : Int)) v15 v16 (List.set v17 (0 + ((Int.toNat v14) * 1)) (iadd .u32 x18 x19))
 else none
 else none
 else none
 else none
 else
 q1_2 v16 v17
/-- (euphroe/sha256.State).block -/
def p229 (c235 : D235) (c236 : D236) (N : Nat) (a0 : List Int) (a1 : List Int) (a2 : List Int) : Option (List Int) :=
  bif (decide (8 ≤ (List.length a0))) then
 bif ((List.length (List.take 8 (List.drop 0 a0))) == 8) then
 bif (decide ((0 + (List.length (List.take 8 (List.drop 0 a0)))) ≤ 8)) then
 bif (decide (64 ≤ (List.length a1))) then
 match c235 (List.take 64 (List.drop 0 a1)) with
 | none => none
 | some r1 =>
 L229_0 c235 c236 N (fun (y11 : List Int) (y12 : List Int) (y13 : List Int) =>
 L229_1 c235 c236 N (fun (y20 : List Int) (y21 : List Int) =>
 bif (decide (8 ≤ (List.length y21))) then
 bif ((List.length (List.take 8 (List.drop 0 y21))) == 8) then
 bif (decide ((0 + (List.length (List.take 8 (List.drop 0 y21)))) ≤ (List.length y20))) then
 bif (decide (8 ≤ (List.length (((List.take 0 y20) ++ (List.take 8 (List.drop 0 y21))) ++ (List.drop (0 + (List.length (List.take 8 (List.drop 0 y21)))) y20))))) then
 some (List.take 8 (List.drop 0 (((List.take 0 y20) ++ (List.take 8 (List.drop 0 y21))) ++ (List.drop (0 + (List.length (List.take 8 (List.drop 0 y21)))) y20))))
 else none
 else none
 else none
 else none) N (0 : Int) y11 y12 y13) N a2 r1 (0 : Int) a0 ([(0 : Int), 0, 0, 0, 0, 0, 0, 0] : List Int) (([] ++ (List.take 8 (List.drop 0 a0))) ++ (List.drop (0 + (List.length (List.take 8 (List.drop 0 a0)))) [(0 : Int), 0, 0, 0, 0, 0, 0, 0]))
 else none
 else none
 else none
 else none

def L213_0 (c46 : D46) (c217 : D217) (c219 : D219) (c83 : D83) (c229 : D229) (N : Nat) (q0_0 : List Int → List Int → Option (List Int)) : Nat → List Int → List Int → List Int → List Int → Option (List Int)
  | 0, _, _, _, _ => none
  | n0 + 1, v5, v6, v7, v8 =>
    bif (decide ((((List.length v5) : Nat) : Int) > (0 : Int))) then
 bif (decide (8 ≤ (List.length v8))) then
 bif (decide ((64 : Int) ≤ (((List.length v5) : Nat) : Int))) then
 bif (decide (64 ≤ (List.length (List.take 64 v5)))) then
 bif (decide (64 ≤ (List.length (List.take 64 v5)))) then
 match c229 (List.take 8 (List.drop 0 v8)) (List.take 64 (List.drop 0 (List.take 64 v5))) v6 with
 | none => none
 | some r9 =>
 bif ((List.length r9) == 8) then
 bif (decide ((0 + (List.length r9)) ≤ (List.length v8))) then
 bif (decide ((64 : Int) ≤ (((List.length v5) : Nat) : Int))) then
 L213_0 c46 c217 c219 c83 c229 N q0_0 n0 (List.drop 64 v5) v6 v7 (((List.take 0 v8) ++ r9) ++ (List.drop (0 + (List.length r9)) v8))
 else none
 else none
 else none
 else none
 else none
 else none
 else none
 else
 q0_0 v7 v8
def L213_1 (c46 : D46) (c217 : D217) (c219 : D219) (c83 : D83) (c229 : D229) (N : Nat) (q1_2 : List Int → List Int → Option (List Int)) : Nat → Int → List Int → List Int → List Int → Option (List Int)
  | 0, _, _, _, _ => none
  | n1 + 1, v12, v13, v14, v15 =>
    bif (decide (v12 < (32 : Int))) then
 bif ((decide ((0 : Int) ≤ (iquo .i64 v12 (4 : Int)))) && (decide ((iquo .i64 v12 (4 : Int)) < (8 : Int)))) then
 match (v14)[(0 + ((Int.toNat (iquo .i64 v12 (4 : Int))) * 1))]? with
 | none => none
 | some x16 =>
 bif (decide ((imul .i64 (8 : Int) (isub .i64 (3 : Int) (irem v12 (4 : Int)))) < (0 : Int))) then
 none
 else
 bif ((decide ((0 : Int) ≤ v12)) && (decide (v12 < (32 : Int)))) then
 bif (decide ((0 + ((Int.toNat v12) * 1)) < (List.length v15))) then
 L213_1 c46 c217 c219 c83 c229 N q1_2 n1 (iadd .i64 v12 (1 : Int)) v13 v14 (List.set v15 (0 + ((Int.toNat v12) * 1)) (IntKind.wrap .u8 (ishr .u32 x16 (imul .i64 (8 : Int) (isub .i64 (3 : Int) (irem v12 (4 : Int)))))))
 else none
 else none
 else none
 else
 q1_2 v13 v15
/-- euphroe/sha256.Of -/
def p213 (c46 : D46) (c217 : D217) (c219 : D219) (c83 : D83) (c229 : D229) (N : Nat) (a0 : List (List Int)) : Option (List Int) :=
  match c46 a0 with
 | none => none
 | some r1 =>
 match c217 (IntKind.wrap .u64 (((List.length r1) : Nat) : Int)) with
 | none => none
 | some r2 =>
 bif (((List.length r1) == ((List.length r1) * 1)) && ((decide ((((List.length r1) + (List.length r2)) * 1) ≤ 1099511627776)) && (decide (((List.length r1) + (List.length r2)) ≤ 1099511627776)))) then
 match c219 with
 | none => none
 | some r3 =>
 match c83 (64 : Int) (3 : Int) with
 | none => none
 | some r4 =>
 bif ((List.length r3) == 8) then
 bif (decide ((0 + (List.length r3)) ≤ 8)) then
 bif (decide ((0 + (((List.length r1) + (List.length r2)) * 1)) ≤ (List.length (r1 ++ r2)))) then
 L213_0 c46 c217 c219 c83 c229 N (fun (y10 : List Int) (y11 : List Int) =>
 L213_1 c46 c217 c219 c83 c229 N (fun (y17 : List Int) (y18 : List Int) =>
 bif (decide (32 ≤ (List.length y18))) then
 bif ((List.length (List.take 32 (List.drop 0 y18))) == 32) then
 bif (decide ((0 + (List.length (List.take 32 (List.drop 0 y18)))) ≤ (List.length y17))) then
 bif (decide (32 ≤ (List.length (((List.take 0 y17) ++ (List.take 32 (List.drop 0 y18))) ++ (List.drop (0 + (List.length (List.take 32 (List.drop 0 y18)))) y17))))) then
 some (List.take 32 (List.drop 0 (((List.take 0 y17) ++ (List.take 32 (List.drop 0 y18))) ++ (List.drop (0 + (List.length (List.take 32 (List.drop 0 y18)))) y17))))
 else none
 else none
 else none
 else none) N (0 : Int) y10 y11 ([(0 : Int), 0, 0, 0, 0, 0, 0, 0, 0, 0, 0, 0, 0, 0, 0, 0, 0, 0, 0, 0, 0, 0, 0, 0, 0, 0, 0, 0, 0, 0, 0, 0] : List Int)) N (List.take ((List.length r1) + (List.length r2)) (List.drop 0 (r1 ++ r2))) r4 ([(0 : Int), 0, 0, 0, 0, 0, 0, 0, 0, 0, 0, 0, 0, 0, 0, 0, 0, 0, 0, 0, 0, 0, 0, 0, 0, 0, 0, 0, 0, 0, 0, 0] : List Int) (([] ++ r3) ++ (List.drop (0 + (List.length r3)) [(0 : Int), 0, 0, 0, 0, 0, 0, 0]))
 else none
 else none
 else none
 else none

/-- euphroe/euphroeref06.Tail -/
def p218 (c186 : D186) (N : Nat) (a0 : Int) : Option (List Int) :=
  match c186 a0 with
 | none => none
 | some r1 =>
 some r1

/-- euphroe/euphroeref06.First -/
def p220 (N : Nat)  : Option (List Int) :=
  some ([(1779033703 : Int), 3144134277, 1013904242, 2773480762, 1359893119, 2600822924, 528734635, 1541459225] : List Int)

/-- euphroe/euphroeref06.turn -/
def p237 (N : Nat) (a0 : Int) (a1 : Int) : Option Int :=
  bif (decide (a1 < (0 : Int))) then
 none
 else
 bif (decide ((isub .i64 (32 : Int) a1) < (0 : Int))) then
 none
 else
 some (ior .u32 (ishr .u32 a0 a1) (ishl .u32 a0 (isub .i64 (32 : Int) a1)))

/-- euphroe/euphroeref06.small -/
def p230 (c237 : D237) (N : Nat) (a0 : Int) (a1 : Int) (a2 : Int) (a3 : Int) : Option Int :=
  match c237 a0 a1 with
 | none => none
 | some r1 =>
 match c237 a0 a2 with
 | none => none
 | some r2 =>
 bif (decide (a3 < (0 : Int))) then
 none
 else
 some (ixor .u32 (ixor .u32 r1 r2) (ishr .u32 a0 a3))

/-- euphroe/euphroeref06.constants -/
def p231 (N : Nat)  : Option (List Int) :=
  some ([(1116352408 : Int), (1899447441 : Int), (3049323471 : Int), (3921009573 : Int), (961987163 : Int), (1508970993 : Int), (2453635748 : Int), (2870763221 : Int), (3624381080 : Int), (310598401 : Int), (607225278 : Int), (1426881987 : Int), (1925078388 : Int), (2162078206 : Int), (2614888103 : Int), (3248222580 : Int), (3835390401 : Int), (4022224774 : Int), (264347078 : Int), (604807628 : Int), (770255983 : Int), (1249150122 : Int), (1555081692 : Int), (1996064986 : Int), (2554220882 : Int), (2821834349 : Int), (2952996808 : Int), (3210313671 : Int), (3336571891 : Int), (3584528711 : Int), (113926993 : Int), (338241895 : Int), (666307205 : Int), (773529912 : Int), (1294757372 : Int), (1396182291 : Int), (1695183700 : Int), (1986661051 : Int), (2177026350 : Int), (2456956037 : Int), (2730485921 : Int), (2820302411 : Int), (3259730800 : Int), (3345764771 : Int), (3516065817 : Int), (3600352804 : Int), (4094571909 : Int), (275423344 : Int), (430227734 : Int), (506948616 : Int), (659060556 : Int), (883997877 : Int), (958139571 : Int), (1322822218 : Int), (1537002063 : Int), (1747873779 : Int), (1955562222 : Int), (2024104815 : Int), (2227730452 : Int), (2361852424 : Int), (2428436474 : Int), (2756734187 : Int), (3204031479 : Int), (3329325298 : Int)] : List Int)

/-- euphroe/euphroeref06.great -/
def p232 (c237 : D237) (N : Nat) (a0 : Int) (a1 : Int) (a2 : Int) (a3 : Int) : Option Int :=
  match c237 a0 a1 with
 | none => none
 | some r1 =>
 match c237 a0 a2 with
 | none => none
 | some r2 =>
 match c237 a0 a3 with
 | none => none
 | some r3 =>
 some (ixor .u32 (ixor .u32 r1 r2) r3)

def L216_0 (c230 : D230) (c231 : D231) (c232 : D232) (N : Nat) (q0_0 : List Int → List Int → List Int → Option (List Int)) : Nat → Int → List Int → List Int → List Int → List Int → Option (List Int)
  | 0, _, _, _, _, _ => none
  | n0 + 1, v1, v2, v3, v4, v5 =>
    bif (decide (v1 < (64 : Int))) then
 bif (decide (v1 < (16 : Int))) then
 bif ((decide ((0 : Int) ≤ (imul .i64 (4 : Int) v1))) && (decide ((imul .i64 (4 : Int) v1) < (64 : Int)))) then
 match (v3)[(0 + ((Int.toNat (imul .i64 (4 : Int) v1)) * 1))]? with
 | none => none
 | some x6 =>
 bif ((decide ((0 : Int) ≤ (iadd .i64 (imul .i64 (4 : Int) v1) (1 : Int)))) && (decide ((iadd .i64 (imul .i64 (4 : Int) v1) (1 : Int)) < (64 : Int)))) then
 match (v3)[(0 + ((Int.toNat (iadd .i64 (imul .i64 (4 : Int) v1) (1 : Int))) * 1))]? with
 | none => none
 | some x7 =>
 bif ((decide ((0 : Int) ≤ (iadd .i64 (imul .i64 (4 : Int) v1) (2 : Int)))) && (decide ((iadd .i64 (imul .i64 (4 : Int) v1) (2 : Int)) < (64 : Int)))) then
 match (v3)[(0 + ((Int.toNat (iadd .i64 (imul .i64 (4 : Int) v1) (2 : Int))) * 1))]? with
 | none => none
 | some x8 =>
 bif ((decide ((0 : Int) ≤ (iadd .i64 (imul .i64 (4 : Int) v1) (3 : Int)))) && (decide ((iadd .i64 (imul .i64 (4 : Int) v1) (3 : Int)) < (64 : Int)))) then
 match (v3)[(0 + ((Int.toNat (iadd .i64 (imul .i64 (4 : Int) v1) (3 : Int))) * 1))]? with
 | none => none
 | some x9 =>
 bif ((decide ((0 : Int) ≤ v1)) && (decide (v1 < (64 : Int)))) then
 bif (decide ((0 + ((Int.toNat v1) * 1)) < (List.length v5))) then
 L216_0 c230 c231 c232 N q0_0 n0 (iadd .i64 v1 (1 : Int)) v2 v3 v4 (List.set v5 (0 + ((Int.toNat v1) * 1)) (iadd .u32 (iadd .u32 (iadd .u32 (imul .u32 (IntKind.wrap .u32 x6) (16777216 : Int)) (imul .u32 (IntKind.wrap .u32 x7) (65536 : Int))) (imul .u32 (IntKind.wrap .u32 x8) (256 : Int))) (IntKind.wrap .u32 x9)))
 else none
 else none
 else none
 else none
 else none
 else none
 else
 bif ((decide ((0 : Int) ≤ (isub .i64 v1 (16 : Int)))) && (decide ((isub .i64 v1 (16 : Int)) < (64 : Int)))) then
 match (v5)[(0 + ((Int.toNat (isub .i64 v1 (16 : Int))) * 1))]? with
 | none => none
 | some x10 =>
 bif ((decide ((0 : Int) ≤ (isub .i64 v1 (7 : Int)))) && (decide ((isub .i64 v1 (7 : Int)) < (64 : Int)))) then
 match (v5)[(0 + ((Int.toNat (isub .i64 v1 (7 : Int))) * 1))]? with
 | none => none
 | some x11 =>
 bif ((decide ((0 : Int) ≤ (isub .i64 v1 (15 : Int)))) && (decide ((isub .i64 v1 (15 : Int)) < (64 : Int)))) then
 match (v5)[(0 + ((Int.toNat (isub .i64 v1 (15 : Int))) * 1))]? with
 | none => none
 | some x12 =>
 match c230 x12 (7 : Int) (18 : Int) (3 : Int) with
 | none => none
 | some r13 =>
 bif ((decide ((0 : Int) ≤ (isub .i64 v1 (2 : Int)))) && (decide ((isub .i64 v1 (2 : Int)) < (64 : Int)))) then
 match (v5)[(0 + ((Int.toNat (isub .i64 v1 (2 : Int))) * 1))]? with
 | none => none
 | some x14 =>
 match c230 x14 (17 : Int) (19 : Int) (10 : Int) with
 | none => none
 | some r15 =>
 bif ((decide ((0 : Int) ≤ v1)) && (decide (v1 < (64 : Int)))) then
 bif (decide ((0 + ((Int.toNat v1) * 1)) < (List.length v5))) then
 L216_0 c230 c231 c232 N q0_0 n0 (iadd .i64 v1 (1 : Int)) v2 v3 v4 (List.set v5 (0 + ((Int.toNat v1) * 1)) (iadd .u32 (iadd .u32 (iadd .u32 x10 x11) r13) r15))
 else none
 else none
 else none
 else none
 else none
 else none
 else
 q0_0 v2 v4 v5
def L216_1 (c230 : D230) (c231 : D231) (c232 : D232) (N : Nat) (q1_2 : List Int → List Int → List Int → Option (List Int)) : Nat → List Int → Int → List Int → List Int → List Int → List Int → Option (List Int)
  | 0, _, _, _, _, _, _ => none
  | n1 + 1, v20, v21, v22, v23, v24, v25 =>
    bif (decide (v21 < (64 : Int))) then
 match (v25)[7]? with
 | none => none
 | some x26 =>
 match (v25)[4]? with
 | none => none
 | some x27 =>
 match c232 x27 (6 : Int) (11 : Int) (25 : Int) with
 | none => none
 | some r28 =>
 match (v25)[4]? with
 | none => none
 | some x29 =>
 match (v25)[5]? with
 | none => none
 | some x30 =>
 match (v25)[4]? with
 | none => none
 | some x31 =>
 match (v25)[6]? with
 | none => none
 | some x32 =>
 match geti v20 v21 with
 | none => none
 | some x33 =>
 bif ((decide ((0 : Int) ≤ v21)) && (decide (v21 < (64 : Int)))) then
 match (v24)[(0 + ((Int.toNat v21) * 1))]? with
 | none => none
 | some x34 =>
 match (v25)[0]? with
 | none => none
 | some x35 =>
 match c232 x35 (2 : Int) (13 : Int) (22 : Int) with
 | none => none
 | some r36 =>
 match (v25)[0]? with
 | none => none
 | some x37 =>
 match (v25)[1]? with
 | none => none
 | some x38 =>
 match (v25)[0]? with
 | none => none
 | some x39 =>
 match (v25)[2]? with
 | none => none
 | some x40 =>
 match (v25)[1]? with
 | none => none
 | some x41 =>
 match (v25)[2]? with
 | none => none
 | some x42 =>
 match (v25)[0]? with
 | none => none
 | some x43 =>
 match (v25)[1]? with
 | none => none
 | some x44 =>
 match (v25)[2]? with
 | none => none
 | some x45 =>
 match (v25)[3]? with
 | none => none
 | some x46 =>
 match (v25)[4]? with
 | none => none
 | some x47 =>
 match (v25)[5]? with
 | none => none
 | some x48 =>
 match (v25)[6]? with
 | none => none
 | some x49 =>
 bif (decide (8 ≤ (List.length v25))) then
 L216_1 c230 c231 c232 N q1_2 n1 v20 (iadd .i64 v21 (1 : Int)) v22 v23 v24 (((List.take 0 v25) ++ [(iadd .u32 (iadd .u32 (iadd .u32 (iadd .u32 (iadd .u32 x26 r28) (ior .u32 (iand .u32 x29 x30) (iand .u32 (isub .u32 (4294967295 : Int) x31) x32))) x33) x34) (iadd .u32 r36 (ior .u32 (ior .u32 (iand .u32 x37 x38) (iand .u32 x39 x40)) (iand .u32 x41 x42)))), x43, x44, x45, (iadd .u32 x46 (iadd .u32 (iadd .u32 (iadd .u32 (iadd .u32 x26 r28) (ior .u32 (iand .u32 x29 x30) (iand .u32 (isub .u32 (4294967295 : Int) x31) x32))) x33) x34)), x47, x48, x49]) ++ (List.drop 8 v25))
 else none
 else none
 else
 q1_2 v22 v23 v25
def L216_2 (c230 : D230) (c231 : D231) (c232 : D232) (N : Nat) (q2_4 : List Int → List Int → Option (List Int)) : Nat → Int → List Int → List Int → List Int → Option (List Int)
  | 0, _, _, _, _ => none
  | n2 + 1, v53, v54, v55, v56 =>
    bif (decide (v53 < (8 : Int))) then
 bif ((decide ((0 : Int) ≤ v53)) && (decide (v53 < (8 : Int)))) then
 match (v56)[(0 + ((Int.toNat v53) * 1))]? with
 | none => none
 | some x57 =>
 bif ((decide ((0 : Int) ≤ v53)) && (decide (v53 < (8 : Int)))) then
 match (v54)[(0 + ((Int.toNat v53) * 1))]? with
 | none => none
 | some x58 =>
 bif ((decide ((0 : Int) ≤ v53)) && (decide (v53 < (8 : Int)))) then
 bif (decide ((0 + ((Int.toNat v53) * 1)) < (List.length v56))) then
 L216_2 c230 c231 c232 N q2_4 n2 (iadd .i64 v53 (1 : Int)) v54 v55 (List.set v56 (0 + ((Int.toNat v53) * 1)) (iadd .u32 x57 x58))
 else none
 else none
 else none
 else none
 else
 q2_4 v55 v56
/-- euphroe/euphroeref06.Block -/
def p216 (c230 : D230) (c231 : D231) (c232 : D232) (N : Nat) (a0 : List Int) (a1 : List Int) : Option (List Int) :=
  L216_0 c230 c231 c232 N (fun (y16 : List Int) (y17 : List Int) (y18 : List Int) =>
 match c231 with
 | none => none
 | some r19 =>
 bif (decide (8 ≤ (List.length y16))) then
 bif ((List.length (List.take 8 (List.drop 0 y16))) == 8) then
 bif (decide ((0 + (List.length (List.take 8 (List.drop 0 y16)))) ≤ 8)) then
 L216_1 c230 c231 c232 N (fun (y50 : List Int) (y51 : List Int) (y52 : List Int) =>
 L216_2 c230 c231 c232 N (fun (y59 : List Int) (y60 : List Int) =>
 bif (decide (8 ≤ (List.length y60))) then
 bif ((List.length (List.take 8 (List.drop 0 y60))) == 8) then
 bif (decide ((0 + (List.length (List.take 8 (List.drop 0 y60)))) ≤ (List.length y59))) then
 bif (decide (8 ≤ (List.length (((List.take 0 y59) ++ (List.take 8 (List.drop 0 y60))) ++ (List.drop (0 + (List.length (List.take 8 (List.drop 0 y60)))) y59))))) then
 some (List.take 8 (List.drop 0 (((List.take 0 y59) ++ (List.take 8 (List.drop 0 y60))) ++ (List.drop (0 + (List.length (List.take 8 (List.drop 0 y60)))) y59))))
 else none
 else none
 else none
 else none) N (0 : Int) y50 y51 y52) N r19 (0 : Int) y16 y17 y18 (([] ++ (List.take 8 (List.drop 0 y16))) ++ (List.drop (0 + (List.length (List.take 8 (List.drop 0 y16)))) [(0 : Int), 0, 0, 0, 0, 0, 0, 0]))
 else none
 else none
 else none) N (0 : Int) a0 a1 ([(0 : Int), 0, 0, 0, 0, 0, 0, 0] : List Int) ([(0 : Int), 0, 0, 0, 0, 0, 0, 0, 0, 0, 0, 0, 0, 0, 0, 0, 0, 0, 0, 0, 0, 0, 0, 0, 0, 0, 0, 0, 0, 0, 0, 0, 0, 0, 0, 0, 0, 0, 0, 0, 0, 0, 0, 0, 0, 0, 0, 0, 0, 0, 0, 0, 0, 0, 0, 0, 0, 0, 0, 0, 0, 0, 0, 0] : List Int)

def L214_1 (c218 : D218) (c220 : D220) (c216 : D216) (N : Nat) (q1_2 : Nat → Int → List Int → List Int → List Int → List Int → Option (List Int)) : Nat → Nat → Int → Int → List Int → List Int → List Int → List Int → Option (List Int)
  | 0, _, _, _, _, _, _, _ => none
  | n1 + 1, v8, v9, v10, v11, v12, v13, v14 =>
    bif (decide (v10 < (64 : Int))) then
 bif ((decide ((0 : Int) ≤ (iadd .i64 v9 v10))) && (decide ((iadd .i64 v9 v10) < ((v8 : Nat) : Int)))) then
 match (v12)[(0 + ((Int.toNat (iadd .i64 v9 v10)) * 1))]? with
 | none => none
 | some x15 =>
 bif ((decide ((0 : Int) ≤ v10)) && (decide (v10 < (64 : Int)))) then
 bif (decide ((0 + ((Int.toNat v10) * 1)) < (List.length v14))) then
 L214_1 c218 c220 c216 N q1_2 n1 v8 v9 (iadd .i64 v10 (1 : Int)) v11 v12 v13 (List.set v14 (0 + ((Int.toNat v10) * 1)) x15)
 else none
 else none
 else none
 else
 q1_2 v8 v9 v11 v12 v13 v14
def L214_0 (c218 : D218) (c220 : D220) (c216 : D216) (N : Nat) (q0_0 : List Int → List Int → Option (List Int)) : Nat → Nat → Int → List Int → List Int → List Int → Option (List Int)
  | 0, _, _, _, _, _ => none
  | n0 + 1, v3, v4, v5, v6, v7 =>
    bif (decide (v4 < ((v3 : Nat) : Int))) then
 L214_1 c218 c220 c216 N (fun (y16 : Nat) (y17 : Int) (y18 : List Int) (y19 : List Int) (y20 : List Int) (y21 : List Int) =>
 bif (decide (8 ≤ (List.length y20))) then
 bif (decide (64 ≤ (List.length y21))) then
 match c216 (List.take 8 (List.drop 0 y20)) (List.take 64 (List.drop 0 y21)) with
 | none => none
 | some r22 =>
 bif ((List.length r22) == 8) then
 bif (decide ((0 + (List.length r22)) ≤ (List.length y20))) then
 L214_0 c218 c220 c216 N q0_0 n0 y16 (iadd .i64 y17 (64 : Int)) y18 y19 (((List.take 0 y20) ++ r22) ++ (List.drop (0 + (List.length r22)) y20))
 else none
 else none
 else none
 else none) N v3 v4 (0 : Int) v5 v6 v7 ([(0 : Int), 0, 0, 0, 0, 0, 0, 0, 0, 0, 0, 0, 0, 0, 0, 0, 0, 0, 0, 0, 0, 0, 0, 0, 0, 0, 0, 0, 0, 0, 0, 0, 0, 0, 0, 0, 0, 0, 0, 0, 0, 0, 0, 0, 0, 0, 0, 0, 0, 0, 0, 0, 0, 0, 0, 0, 0, 0, 0, 0, 0, 0, 0, 0] : List Int)
 else
 q0_0 v5 v7
def L214_2 (c218 : D218) (c220 : D220) (c216 : D216) (N : Nat) (q2_4 : List Int → List Int → Option (List Int)) : Nat → Int → List Int → List Int → List Int → Option (List Int)
  | 0, _, _, _, _ => none
  | n2 + 1, v25, v26, v27, v28 =>
    bif (decide (v25 < (32 : Int))) then
 bif ((decide ((0 : Int) ≤ (iquo .i64 v25 (4 : Int)))) && (decide ((iquo .i64 v25 (4 : Int)) < (8 : Int)))) then
 match (v27)[(0 + ((Int.toNat (iquo .i64 v25 (4 : Int))) * 1))]? with
 | none => none
 | some x29 =>
 bif (decide ((isub .i64 (24 : Int) (imul .i64 (8 : Int) (irem v25 (4 : Int)))) < (0 : Int))) then
 none
 else
 bif ((decide ((0 : Int) ≤ v25)) && (decide (v25 < (32 : Int)))) then
 bif (decide ((0 + ((Int.toNat v25) * 1)) < (List.length v28))) then
 L214_2 c218 c220 c216 N q2_4 n2 (iadd .i64 v25 (1 : Int)) v26 v27 (List.set v28 (0 + ((Int.toNat v25) * 1)) (IntKind.wrap .u8 (ishr .u32 x29 (isub .i64 (24 : Int) (imul .i64 (8 : Int) (irem v25 (4 : Int)))))))
 else none
 else none
 else none
 else
 q2_4 v26 v28
/-- euphroe/euphroeref06.Of -/
def p214 (c218 : D218) (c220 : D220) (c216 : D216) (N : Nat) (a0 : List Int) : Option (List Int) :=
  bif ((decide (((List.length a0) * 1) ≤ 1099511627776)) && (decide ((List.length a0) ≤ 1099511627776))) then
 match c218 (IntKind.wrap .u64 (((List.length a0) : Nat) : Int)) with
 | none => none
 | some r1 =>
 bif (((List.length a0) == ((List.length a0) * 1)) && ((decide ((((List.length a0) + (List.length r1)) * 1) ≤ 1099511627776)) && (decide (((List.length a0) + (List.length r1)) ≤ 1099511627776)))) then
 match c220 with
 | none => none
 | some r2 =>
 bif ((List.length r2) == 8) then
 bif (decide ((0 + (List.length r2)) ≤ 8)) then
 L214_0 c218 c220 c216 N (fun (y23 : List Int) (y24 : List Int) =>
 L214_2 c218 c220 c216 N (fun (y30 : List Int) (y31 : List Int) =>
 bif (decide (32 ≤ (List.length y31))) then
 bif ((List.length (List.take 32 (List.drop 0 y31))) == 32) then
 bif (decide ((0 + (List.length (List.take 32 (List.drop 0 y31)))) ≤ (List.length y30))) then
 bif (decide (32 ≤ (List.length (((List.take 0 y30) ++ (List.take 32 (List.drop 0 y31))) ++ (List.drop (0 + (List.length (List.take 32 (List.drop 0 y31)))) y30))))) then
 some (List.take 32 (List.drop 0 (((List.take 0 y30) ++ (List.take 32 (List.drop 0 y31))) ++ (List.drop (0 + (List.length (List.take 32 (List.drop 0 y31)))) y30))))
 else none
 else none
 else none
 else none) N (0 : Int) y23 y24 ([(0 : Int), 0, 0, 0, 0, 0, 0, 0, 0, 0, 0, 0, 0, 0, 0, 0, 0, 0, 0, 0, 0, 0, 0, 0, 0, 0, 0, 0, 0, 0, 0, 0] : List Int)) N ((List.length a0) + (List.length r1)) (0 : Int) ([(0 : Int), 0, 0, 0, 0, 0, 0, 0, 0, 0, 0, 0, 0, 0, 0, 0, 0, 0, 0, 0, 0, 0, 0, 0, 0, 0, 0, 0, 0, 0, 0, 0] : List Int) (a0 ++ r1) (([] ++ r2) ++ (List.drop (0 + (List.length r2)) [(0 : Int), 0, 0, 0, 0, 0, 0, 0]))
 else none
 else none
 else none
 else none

def L225_0 (c214 : D214) (N : Nat) (q0_0 : List Int → List Int → Option (List Int)) : Nat → List Int → Int → List Int → List Int → Option (List Int)
  | 0, _, _, _, _ => none
  | n0 + 1, v2, v3, v4, v5 =>
    bif (decide (v3 < (((List.length v2) : Nat) : Int))) then
 match geti v2 v3 with
 | none => none
 | some x6 =>
 bif ((decide ((0 : Int) ≤ v3)) && (decide (v3 < (64 : Int)))) then
 bif (decide ((0 + ((Int.toNat v3) * 1)) < (List.length v5))) then
 L225_0 c214 N q0_0 n0 v2 (iadd .i64 v3 (1 : Int)) v4 (List.set v5 (0 + ((Int.toNat v3) * 1)) x6)
 else none
 else none
 else
 q0_0 v4 v5
/-- euphroe/euphroeref07.Key -/
def p225 (c214 : D214) (N : Nat) (a0 : List Int) : Option (List Int) :=
  bif (decide ((((List.length a0) : Nat) : Int) > (64 : Int))) then
 match c214 a0 with
 | none => none
 | some r1 =>
 bif ((List.length r1) == 32) then
 bif (decide ((0 + (List.length r1)) ≤ 32)) then
 bif (decide (32 ≤ (List.length (([] ++ r1) ++ (List.drop (0 + (List.length r1)) [(0 : Int), 0, 0, 0, 0, 0, 0, 0, 0, 0, 0, 0, 0, 0, 0, 0, 0, 0, 0, 0, 0, 0, 0, 0, 0, 0, 0, 0, 0, 0, 0, 0]))))) then
 bif (decide (32 ≤ (List.length (([] ++ r1) ++ (List.drop (0 + (List.length r1)) [(0 : Int), 0, 0, 0, 0, 0, 0, 0, 0, 0, 0, 0, 0, 0, 0, 0, 0, 0, 0, 0, 0, 0, 0, 0, 0, 0, 0, 0, 0, 0, 0, 0]))))) then
 L225_0 c214 N (fun (y7 : List Int) (y8 : List Int) =>
 bif (decide (64 ≤ (List.length y8))) then
 bif ((List.length (List.take 64 (List.drop 0 y8))) == 64) then
 bif (decide ((0 + (List.length (List.take 64 (List.drop 0 y8)))) ≤ (List.length y7))) then
 bif (decide (64 ≤ (List.length (((List.take 0 y7) ++ (List.take 64 (List.drop 0 y8))) ++ (List.drop (0 + (List.length (List.take 64 (List.drop 0 y8)))) y7))))) then
 some (List.take 64 (List.drop 0 (((List.take 0 y7) ++ (List.take 64 (List.drop 0 y8))) ++ (List.drop (0 + (List.length (List.take 64 (List.drop 0 y8)))) y7))))
 else none
 else none
 else none
 else none) N (List.take 32 (List.drop 0 (([] ++ r1) ++ (List.drop (0 + (List.length r1)) [(0 : Int), 0, 0, 0, 0, 0, 0, 0, 0, 0, 0, 0, 0, 0, 0, 0, 0, 0, 0, 0, 0, 0, 0, 0, 0, 0, 0, 0, 0, 0, 0, 0])))) (0 : Int) ([(0 : Int), 0, 0, 0, 0, 0, 0, 0, 0, 0, 0, 0, 0, 0, 0, 0, 0, 0, 0, 0, 0, 0, 0, 0, 0, 0, 0, 0, 0, 0, 0, 0, 0, 0, 0, 0, 0, 0, 0, 0, 0, 0, 0, 0, 0, 0, 0, 0, 0, 0, 0, 0, 0, 0, 0, 0, 0, 0, 0, 0, 0, 0, 0, 0] : List Int) ([(0 : Int), 0, 0, 0, 0, 0, 0, 0, 0, 0, 0, 0, 0, 0, 0, 0, 0, 0, 0, 0, 0, 0, 0, 0, 0, 0, 0, 0, 0, 0, 0, 0, 0, 0, 0, 0, 0, 0, 0, 0, 0, 0, 0, 0, 0, 0, 0, 0, 0, 0, 0, 0, 0, 0, 0, 0, 0, 0, 0, 0, 0, 0, 0, 0] : List Int)
 else none
 else none
 else none
 else none
 else
 L225_0 c214 N (fun (y9 : List Int) (y10 : List Int) =>
 bif (decide (64 ≤ (List.length y10))) then
 bif ((List.length (List.take 64 (List.drop 0 y10))) == 64) then
 bif (decide ((0 + (List.length (List.take 64 (List.drop 0 y10)))) ≤ (List.length y9))) then
 bif (decide (64 ≤ (List.length (((List.take 0 y9) ++ (List.take 64 (List.drop 0 y10))) ++ (List.drop (0 + (List.length (List.take 64 (List.drop 0 y10)))) y9))))) then
 some (List.take 64 (List.drop 0 (((List.take 0 y9) ++ (List.take 64 (List.drop 0 y10))) ++ (List.drop (0 + (List.length (List.take 64 (List.drop 0 y10)))) y9))))
 else none
 else none
 else none
 else none) N a0 (0 : Int) ([(0 : Int), 0, 0, 0, 0, 0, 0, 0, 0, 0, 0, 0, 0, 0, 0, 0, 0, 0, 0, 0, 0, 0, 0, 0, 0, 0, 0, 0, 0, 0, 0, 0, 0, 0, 0, 0, 0, 0, 0, 0, 0, 0, 0, 0, 0, 0, 0, 0, 0, 0, 0, 0, 0, 0, 0, 0, 0, 0, 0, 0, 0, 0, 0, 0] : List Int) ([(0 : Int), 0, 0, 0, 0, 0, 0, 0, 0, 0, 0, 0, 0, 0, 0, 0, 0, 0, 0, 0, 0, 0, 0, 0, 0, 0, 0, 0, 0, 0, 0, 0, 0, 0, 0, 0, 0, 0, 0, 0, 0, 0, 0, 0, 0, 0, 0, 0, 0, 0, 0, 0, 0, 0, 0, 0, 0, 0, 0, 0, 0, 0, 0, 0] : List Int)

def L233_0 (N : Nat) (q0_0 : Nat → List Int → Option (List Int)) : Nat → Int → Nat → Int → List Int → List Int → Option (List Int)
  | 0, _, _, _, _, _ => none
  | n0 + 1, v1, v2, v3, v4, v5 =>
    bif (decide (v3 < (64 : Int))) then
 bif ((decide ((0 : Int) ≤ v3)) && (decide (v3 < (64 : Int)))) then
 match (v4)[(0 + ((Int.toNat v3) * 1))]? with
 | none => none
 | some x6 =>
 bif (((List.length v5) == (v2 * 1)) && ((decide (((v2 + 1) * 1) ≤ 1099511627776)) && (decide ((v2 + 1) ≤ 1099511627776)))) then
 L233_0 N q0_0 n0 v1 (v2 + 1) (iadd .i64 v3 (1 : Int)) v4 (v5 ++ [(ixor .u8 x6 v1)])
 else none
 else none
 else
 q0_0 v2 v5
/-- euphroe/euphroeref07.turned -/
def p233 (N : Nat) (a0 : List Int) (a1 : Int) : Option (List Int) :=
  L233_0 N (fun (y7 : Nat) (y8 : List Int) =>
 bif (y7 == (List.length y8)) then
 some y8
 else none) N a1 0 (0 : Int) a0 ([] : List Int)

/-- euphroe/euphroeref07.Of -/
def p222 (c225 : D225) (c233 : D233) (c214 : D214) (N : Nat) (a0 : List Int) (a1 : List Int) : Option (List Int) :=
  match c225 a0 with
 | none => none
 | some r1 =>
 bif ((List.length r1) == 64) then
 bif (decide ((0 + (List.length r1)) ≤ 64)) then
 bif (decide (64 ≤ (List.length (([] ++ r1) ++ (List.drop (0 + (List.length r1)) [(0 : Int), 0, 0, 0, 0, 0, 0, 0, 0, 0, 0, 0, 0, 0, 0, 0, 0, 0, 0, 0, 0, 0, 0, 0, 0, 0, 0, 0, 0, 0, 0, 0, 0, 0, 0, 0, 0, 0, 0, 0, 0, 0, 0, 0, 0, 0, 0, 0, 0, 0, 0, 0, 0, 0, 0, 0, 0, 0, 0, 0, 0, 0, 0, 0]))))) then
 match c233 (List.take 64 (List.drop 0 (([] ++ r1) ++ (List.drop (0 + (List.length r1)) [(0 : Int), 0, 0, 0, 0, 0, 0, 0, 0, 0, 0, 0, 0, 0, 0, 0, 0, 0, 0, 0, 0, 0, 0, 0, 0, 0, 0, 0, 0, 0, 0, 0, 0, 0, 0, 0, 0, 0, 0, 0, 0, 0, 0, 0, 0, 0, 0, 0, 0, 0, 0, 0, 0, 0, 0, 0, 0, 0, 0, 0, 0, 0, 0, 0])))) (54 : Int) with
 | none => none
 | some r2 =>
 bif (((List.length r2) == ((List.length r2) * 1)) && ((decide ((((List.length r2) + (List.length a1)) * 1) ≤ 1099511627776)) && (decide (((List.length r2) + (List.length a1)) ≤ 1099511627776)))) then
 bif (decide ((0 + (((List.length r2) + (List.length a1)) * 1)) ≤ (List.length (r2 ++ a1)))) then
 match c214 (List.take ((List.length r2) + (List.length a1)) (List.drop 0 (r2 ++ a1))) with
 | none => none
 | some r3 =>
 bif ((List.length r3) == 32) then
 bif (decide ((0 + (List.length r3)) ≤ 32)) then
 bif (decide (64 ≤ (List.length (([] ++ r1) ++ (List.drop (0 + (List.length r1)) [(0 : Int), 0, 0, 0, 0, 0, 0, 0, 0, 0, 0, 0, 0, 0, 0, 0, 0, 0, 0, 0, 0, 0, 0, 0, 0, 0, 0, 0, 0, 0, 0, 0, 0, 0, 0, 0, 0, 0, 0, 0, 0, 0, 0, 0, 0, 0, 0, 0, 0, 0, 0, 0, 0, 0, 0, 0, 0, 0, 0, 0, 0, 0, 0, 0]))))) then
 match c233 (List.take 64 (List.drop 0 (([] ++ r1) ++ (List.drop (0 + (List.length r1)) [(0 : Int), 0, 0, 0, 0, 0, 0, 0, 0, 0, 0, 0, 0, 0, 0, 0, 0, 0, 0, 0, 0, 0, 0, 0, 0, 0, 0, 0, 0, 0, 0, 0, 0, 0, 0, 0, 0, 0, 0, 0, 0, 0, 0, 0, 0, 0, 0, 0, 0, 0, 0, 0, 0, 0, 0, 0, 0, 0, 0, 0, 0, 0, 0, 0])))) (92 : Int) with
 | none => none
 | some r4 =>
 bif (decide (32 ≤ (List.length (([] ++ r3) ++ (List.drop (0 + (List.length r3)) [(0 : Int), 0, 0, 0, 0, 0, 0, 0, 0, 0, 0, 0, 0, 0, 0, 0, 0, 0, 0, 0, 0, 0, 0, 0, 0, 0, 0, 0, 0, 0, 0, 0]))))) then
 bif (decide (32 ≤ (List.length (([] ++ r3) ++ (List.drop (0 + (List.length r3)) [(0 : Int), 0, 0, 0, 0, 0, 0, 0, 0, 0, 0, 0, 0, 0, 0, 0, 0, 0, 0, 0, 0, 0, 0, 0, 0, 0, 0, 0, 0, 0, 0, 0]))))) then
 bif (((List.length r4) == ((List.length r4) * 1)) && ((decide ((((List.length r4) + 32) * 1) ≤ 1099511627776)) && (decide (((List.length r4) + 32) ≤ 1099511627776)))) then
 bif (decide ((0 + (((List.length r4) + 32) * 1)) ≤ (List.length (r4 ++ (List.take 32 (List.drop 0 (([] ++ r3) ++ (List.drop (0 + (List.length r3)) [(0 : Int), 0, 0, 0, 0, 0, 0, 0, 0, 0, 0, 0, 0, 0, 0, 0, 0, 0, 0, 0, 0, 0, 0, 0, 0, 0, 0, 0, 0, 0, 0, 0])))))))) then
 match c214 (List.take ((List.length r4) + 32) (List.drop 0 (r4 ++ (List.take 32 (List.drop 0 (([] ++ r3) ++ (List.drop (0 + (List.length r3)) [(0 : Int), 0, 0, 0, 0, 0, 0, 0, 0, 0, 0, 0, 0, 0, 0, 0, 0, 0, 0, 0, 0, 0, 0, 0, 0, 0, 0, 0, 0, 0, 0, 0]))))))) with
 | none => none
 | some r5 =>
 bif ((List.length r5) == 32) then
 bif (decide ((0 + (List.length r5)) ≤ 32)) then
 bif (decide (32 ≤ (List.length (([] ++ r5) ++ (List.drop (0 + (List.length r5)) [(0 : Int), 0, 0, 0, 0, 0, 0, 0, 0, 0, 0, 0, 0, 0, 0, 0, 0, 0, 0, 0, 0, 0, 0, 0, 0, 0, 0, 0, 0, 0, 0, 0]))))) then
 some (List.take 32 (List.drop 0 (([] ++ r5) ++ (List.drop (0 + (List.length r5)) [(0 : Int), 0, 0, 0, 0, 0, 0, 0, 0, 0, 0, 0, 0, 0, 0, 0, 0, 0, 0, 0, 0, 0, 0, 0, 0, 0, 0, 0, 0, 0, 0, 0]))))
 else none
 else none
 else none
 else none
 else none
 else none
 else none
 else none
 else none
 else none
 else none
 else none
 else none
 else none
 else none

/-- euphroe/hmac.Key -/
def p224 (c213 : D213) (N : Nat) (a0 : List Int) : Option (List Int) :=
  bif (decide ((((List.length a0) : Nat) : Int) > (64 : Int))) then
 match c213 ([a0] : List (List Int)) with
 | none => none
 | some r1 =>
 bif ((List.length r1) == 32) then
 bif (decide ((0 + (List.length r1)) ≤ 32)) then
 bif (decide (32 ≤ (List.length (([] ++ r1) ++ (List.drop (0 + (List.length r1)) [(0 : Int), 0, 0, 0, 0, 0, 0, 0, 0, 0, 0, 0, 0, 0, 0, 0, 0, 0, 0, 0, 0, 0, 0, 0, 0, 0, 0, 0, 0, 0, 0, 0]))))) then
 bif (decide (32 ≤ (List.length (([] ++ r1) ++ (List.drop (0 + (List.length r1)) [(0 : Int), 0, 0, 0, 0, 0, 0, 0, 0, 0, 0, 0, 0, 0, 0, 0, 0, 0, 0, 0, 0, 0, 0, 0, 0, 0, 0, 0, 0, 0, 0, 0]))))) then
 bif (decide ((0 + (List.length (List.take 32 (List.drop 0 (List.take 32 (List.drop 0 (([] ++ r1) ++ (List.drop (0 + (List.length r1)) [(0 : Int), 0, 0, 0, 0, 0, 0, 0, 0, 0, 0, 0, 0, 0, 0, 0, 0, 0, 0, 0, 0, 0, 0, 0, 0, 0, 0, 0, 0, 0, 0, 0])))))))) ≤ 64)) then
 bif (decide (64 ≤ (List.length (([] ++ (List.take 32 (List.drop 0 (List.take 32 (List.drop 0 (([] ++ r1) ++ (List.drop (0 + (List.length r1)) [(0 : Int), 0, 0, 0, 0, 0, 0, 0, 0, 0, 0, 0, 0, 0, 0, 0, 0, 0, 0, 0, 0, 0, 0, 0, 0, 0, 0, 0, 0, 0, 0, 0]))))))) ++ (List.drop (0 + (List.length (List.take 32 (List.drop 0 (List.take 32 (List.drop 0 (([] ++ r1) ++ (List.drop (0 + (List.length r1)) [(0 : Int), 0, 0, 0, 0, 0, 0, 0, 0, 0, 0, 0, 0, 0, 0, 0, 0, 0, 0, 0, 0, 0, 0, 0, 0, 0, 0, 0, 0, 0, 0, 0])))))))) [(0 : Int), 0, 0, 0, 0, 0, 0, 0, 0, 0, 0, 0, 0, 0, 0, 0, 0, 0, 0, 0, 0, 0, 0, 0, 0, 0, 0, 0, 0, 0, 0, 0, 0, 0, 0, 0, 0, 0, 0, 0, 0, 0, 0, 0, 0, 0, 0, 0, 0, 0, 0, 0, 0, 0, 0, 0, 0, 0, 0, 0, 0, 0, 0, 0]))))) then
 bif ((List.length (List.take 64 (List.drop 0 (([] ++ (List.take 32 (List.drop 0 (List.take 32 (List.drop 0 (([] ++ r1) ++ (List.drop (0 + (List.length r1)) [(0 : Int), 0, 0, 0, 0, 0, 0, 0, 0, 0, 0, 0, 0, 0, 0, 0, 0, 0, 0, 0, 0, 0, 0, 0, 0, 0, 0, 0, 0, 0, 0, 0]))))))) ++ (List.drop (0 + (List.length (List.take 32 (List.drop 0 (List.take 32 (List.drop 0 (([] ++ r1) ++ (List.drop (0 + (List.length r1)) [(0 : Int), 0, 0, 0, 0, 0, 0, 0, 0, 0, 0, 0, 0, 0, 0, 0, 0, 0, 0, 0, 0, 0, 0, 0, 0, 0, 0, 0, 0, 0, 0, 0])))))))) [(0 : Int), 0, 0, 0, 0, 0, 0, 0, 0, 0, 0, 0, 0, 0, 0, 0, 0, 0, 0, 0, 0, 0, 0, 0, 0, 0, 0, 0, 0, 0, 0, 0, 0, 0, 0, 0, 0, 0, 0, 0, 0, 0, 0, 0, 0, 0, 0, 0, 0, 0, 0, 0, 0, 0, 0, 0, 0, 0, 0, 0, 0, 0, 0, 0]))))) == 64) then
 bif (decide ((0 + (List.length (List.take 64 (List.drop 0 (([] ++ (List.take 32 (List.drop 0 (List.take 32 (List.drop 0 (([] ++ r1) ++ (List.drop (0 + (List.length r1)) [(0 : Int), 0, 0, 0, 0, 0, 0, 0, 0, 0, 0, 0, 0, 0, 0, 0, 0, 0, 0, 0, 0, 0, 0, 0, 0, 0, 0, 0, 0, 0, 0, 0]))))))) ++ (List.drop (0 + (List.length (List.take 32 (List.drop 0 (List.take 32 (List.drop 0 (([] ++ r1) ++ (List.drop (0 + (List.length r1)) [(0 : Int), 0, 0, 0, 0, 0, 0, 0, 0, 0, 0, 0, 0, 0, 0, 0, 0, 0, 0, 0, 0, 0, 0, 0, 0, 0, 0, 0, 0, 0, 0, 0])))))))) [(0 : Int), 0, 0, 0, 0, 0, 0, 0, 0, 0, 0, 0, 0, 0, 0, 0, 0, 0, 0, 0, 0, 0, 0, 0, 0, 0, 0, 0, 0, 0, 0, 0, 0, 0, 0, 0, 0, 0, 0, 0, 0, 0, 0, 0, 0, 0, 0, 0, 0, 0, 0, 0, 0, 0, 0, 0, 0, 0, 0, 0, 0, 0, 0, 0])))))) ≤ 64)) then
 bif (decide (64 ≤ (List.length (([] ++ (List.take 64 (List.drop 0 (([] ++ (List.take 32 (List.drop 0 (List.take 32 (List.drop 0 (([] ++ r1) ++ (List.drop (0 + (List.length r1)) [(0 : Int), 0, 0, 0, 0, 0, 0, 0, 0, 0, 0, 0, 0, 0, 0, 0, 0, 0, 0, 0, 0, 0, 0, 0, 0, 0, 0, 0, 0, 0, 0, 0]))))))) ++ (List.drop (0 + (List.length (List.take 32 (List.drop 0 (List.take 32 (List.drop 0 (([] ++ r1) ++ (List.drop (0 + (List.length r1)) [(0 : Int), 0, 0, 0, 0, 0, 0, 0, 0, 0, 0, 0, 0, 0, 0, 0, 0, 0, 0, 0, 0, 0, 0, 0, 0, 0, 0, 0, 0, 0, 0, 0])))))))) [(0 : Int), 0, 0, 0, 0, 0, 0, 0, 0, 0, 0, 0, 0, 0, 0, 0, 0, 0, 0, 0, 0, 0, 0, 0, 0, 0, 0, 0, 0, 0, 0, 0, 0, 0, 0, 0, 0, 0, 0, 0, 0, 0, 0, 0, 0, 0, 0, 0, 0, 0, 0, 0, 0, 0, 0, 0, 0, 0, 0, 0, 0, 0, 0, 0]))))) ++ (List.drop (0 + (List.length (List.take 64 (List.drop 0 (([] ++ (List.take 32 (List.drop 0 (List.take 32 (List.drop 0 (([] ++ r1) ++ (List.drop (0 + (List.length r1)) [(0 : Int), 0, 0, 0, 0, 0, 0, 0, 0, 0, 0, 0, 0, 0, 0, 0, 0, 0, 0, 0, 0, 0, 0, 0, 0, 0, 0, 0, 0, 0, 0, 0]))))))) ++ (List.drop (0 + (List.length (List.take 32 (List.drop 0 (List.take 32 (List.drop 0 (([] ++ r1) ++ (List.drop (0 + (List.length r1)) [(0 : Int), 0, 0, 0, 0, 0, 0, 0, 0, 0, 0, 0, 0, 0, 0, 0, 0, 0, 0, 0, 0, 0, 0, 0, 0, 0, 0, 0, 0, 0, 0, 0])))))))) [(0 : Int), 0, 0, 0, 0, 0, 0, 0, 0, 0, 0, 0, 0, 0, 0, 0, 0, 0, 0, 0, 0, 0, 0, 0, 0, 0, 0, 0, 0, 0, 0, 0, 0, 0, 0, 0, 0, 0, 0, 0, 0, 0, 0, 0, 0, 0, 0, 0, 0, 0, 0, 0, 0, 0, 0, 0, 0, 0, 0, 0, 0, 0, 0, 0])))))) [(0 : Int), 0, 0, 0, 0, 0, 0, 0, 0, 0, 0, 0, 0, 0, 0, 0, 0, 0, 0, 0, 0, 0, 0, 0, 0, 0, 0, 0, 0, 0, 0, 0, 0, 0, 0, 0, 0, 0, 0, 0, 0, 0, 0, 0, 0, 0, 0, 0, 0, 0, 0, 0, 0, 0, 0, 0, 0, 0, 0, 0, 0, 0, 0, 0]))))) then
 some (List.take 64 (List.drop 0 (([] ++ (List.take 64 (List.drop 0 (([] ++ (List.take 32 (List.drop 0 (List.take 32 (List.drop 0 (([] ++ r1) ++ (List.drop (0 + (List.length r1)) [(0 : Int), 0, 0, 0, 0, 0, 0, 0, 0, 0, 0, 0, 0, 0, 0, 0, 0, 0, 0, 0, 0, 0, 0, 0, 0, 0, 0, 0, 0, 0, 0, 0]))))))) ++ (List.drop (0 + (List.length (List.take 32 (List.drop 0 (List.take 32 (List.drop 0 (([] ++ r1) ++ (List.drop (0 + (List.length r1)) [(0 : Int), 0, 0, 0, 0, 0, 0, 0, 0, 0, 0, 0, 0, 0, 0, 0, 0, 0, 0, 0, 0, 0, 0, 0, 0, 0, 0, 0, 0, 0, 0, 0])))))))) [(0 : Int), 0, 0, 0, 0, 0, 0, 0, 0, 0, 0, 0, 0, 0, 0, 0, 0, 0, 0, 0, 0, 0, 0, 0, 0, 0, 0, 0, 0, 0, 0, 0, 0, 0, 0, 0, 0, 0, 0, 0, 0, 0, 0, 0, 0, 0, 0, 0, 0, 0, 0, 0, 0, 0, 0, 0, 0, 0, 0, 0, 0, 0, 0, 0]))))) ++ (List.drop (0 + (List.length (List.take 64 (List.drop 0 (([] ++ (List.take 32 (List.drop 0 (List.take 32 (List.drop 0 (([] ++ r1) ++ (List.drop (0 + (List.length r1)) [(0 : Int), 0, 0, 0, 0, 0, 0, 0, 0, 0, 0, 0, 0, 0, 0, 0, 0, 0, 0, 0, 0, 0, 0, 0, 0, 0, 0, 0, 0, 0, 0, 0]))))))) ++ (List.drop (0 + (List.length (List.take 32 (List.drop 0 (List.take 32 (List.drop 0 (([] ++ r1) ++ (List.drop (0 + (List.length r1)) [(0 : Int), 0, 0, 0, 0, 0, 0, 0, 0, 0, 0, 0, 0, 0, 0, 0, 0, 0, 0, 0, 0, 0, 0, 0, 0, 0, 0, 0, 0, 0, 0, 0])))))))) [(0 : Int), 0, 0, 0, 0, 0, 0, 0, 0, 0, 0, 0, 0, 0, 0, 0, 0, 0, 0, 0, 0, 0, 0, 0, 0, 0, 0, 0, 0, 0, 0, 0, 0, 0, 0, 0, 0, 0, 0, 0, 0, 0, 0, 0, 0, 0, 0, 0, 0, 0, 0, 0, 0, 0, 0, 0, 0, 0, 0, 0, 0, 0, 0, 0])))))) [(0 : Int), 0, 0, 0, 0, 0, 0, 0, 0, 0, 0, 0, 0, 0, 0, 0, 0, 0, 0, 0, 0, 0, 0, 0, 0, 0, 0, 0, 0, 0, 0, 0, 0, 0, 0, 0, 0, 0, 0, 0, 0, 0, 0, 0, 0, 0, 0, 0, 0, 0, 0, 0, 0, 0, 0, 0, 0, 0, 0, 0, 0, 0, 0, 0]))))
 else none
 else none
 else none
 else none
 else none
 else none
 else none
 else none
 else none
 else
 bif (decide ((List.length a0) ≤ 64)) then
 bif (decide ((0 + (List.length (List.take ((List.length a0) * 1) (List.drop 0 a0)))) ≤ 64)) then
 bif (decide (64 ≤ (List.length (([] ++ (List.take ((List.length a0) * 1) (List.drop 0 a0))) ++ (List.drop (0 + (List.length (List.take ((List.length a0) * 1) (List.drop 0 a0)))) [(0 : Int), 0, 0, 0, 0, 0, 0, 0, 0, 0, 0, 0, 0, 0, 0, 0, 0, 0, 0, 0, 0, 0, 0, 0, 0, 0, 0, 0, 0, 0, 0, 0, 0, 0, 0, 0, 0, 0, 0, 0, 0, 0, 0, 0, 0, 0, 0, 0, 0, 0, 0, 0, 0, 0, 0, 0, 0, 0, 0, 0, 0, 0, 0, 0]))))) then
 bif ((List.length (List.take 64 (List.drop 0 (([] ++ (List.take ((List.length a0) * 1) (List.drop 0 a0))) ++ (List.drop (0 + (List.length (List.take ((List.length a0) * 1) (List.drop 0 a0)))) [(0 : Int), 0, 0, 0, 0, 0, 0, 0, 0, 0, 0, 0, 0, 0, 0, 0, 0, 0, 0, 0, 0, 0, 0, 0, 0, 0, 0, 0, 0, 0, 0, 0, 0, 0, 0, 0, 0, 0, 0, 0, 0, 0, 0, 0, 0, 0, 0, 0, 0, 0, 0, 0, 0, 0, 0, 0, 0, 0, 0, 0, 0, 0, 0, 0]))))) == 64) then
 bif (decide ((0 + (List.length (List.take 64 (List.drop 0 (([] ++ (List.take ((List.length a0) * 1) (List.drop 0 a0))) ++ (List.drop (0 + (List.length (List.take ((List.length a0) * 1) (List.drop 0 a0)))) [(0 : Int), 0, 0, 0, 0, 0, 0, 0, 0, 0, 0, 0, 0, 0, 0, 0, 0, 0, 0, 0, 0, 0, 0, 0, 0, 0, 0, 0, 0, 0, 0, 0, 0, 0, 0, 0, 0, 0, 0, 0, 0, 0, 0, 0, 0, 0, 0, 0, 0, 0, 0, 0, 0, 0, 0, 0, 0, 0, 0, 0, 0, 0, 0, 0])))))) ≤ 64)) then
 bif (decide (64 ≤ (List.length (([] ++ (List.take 64 (List.drop 0 (([] ++ (List.take ((List.length a0) * 1) (List.drop 0 a0))) ++ (List.drop (0 + (List.length (List.take ((List.length a0) * 1) (List.drop 0 a0)))) [(0 : Int), 0, 0, 0, 0, 0, 0, 0, 0, 0, 0, 0, 0, 0, 0, 0, 0, 0, 0, 0, 0, 0, 0, 0, 0, 0, 0, 0, 0, 0, 0, 0, 0, 0, 0, 0, 0, 0, 0, 0, 0, 0, 0, 0, 0, 0, 0, 0, 0, 0, 0, 0, 0, 0, 0, 0, 0, 0, 0, 0, 0, 0, 0, 0]))))) ++ (List.drop (0 + (List.length (List.take 64 (List.drop 0 (([] ++ (List.take ((List.length a0) * 1) (List.drop 0 a0))) ++ (List.drop (0 + (List.length (List.take ((List.length a0) * 1) (List.drop 0 a0)))) [(0 : Int), 0, 0, 0, 0, 0, 0, 0, 0, 0, 0, 0, 0, 0, 0, 0, 0, 0, 0, 0, 0, 0, 0, 0, 0, 0, 0, 0, 0, 0, 0, 0, 0, 0, 0, 0, 0, 0, 0, 0, 0, 0, 0, 0, 0, 0, 0, 0, 0, 0, 0, 0, 0, 0, 0, 0, 0, 0, 0, 0, 0, 0, 0, 0])))))) [(0 : Int), 0, 0, 0, 0, 0, 0, 0, 0, 0, 0, 0, 0, 0, 0, 0, 0, 0, 0, 0, 0, 0, 0, 0, 0, 0, 0, 0, 0, 0, 0, 0, 0, 0, 0, 0, 0, 0, 0, 0, 0, 0, 0, 0, 0, 0, 0, 0, 0, 0, 0, 0, 0, 0, 0, 0, 0, 0, 0, 0, 0, 0, 0, 0]))))) then
 some (List.take 64 (List.drop 0 (([] ++ (List.take 64 (List.drop 0 (([] ++ (List.take ((List.length a0) * 1) (List.drop 0 a0))) ++ (List.drop (0 + (List.length (List.take ((List.length a0) * 1) (List.drop 0 a0)))) [(0 : Int), 0, 0, 0, 0, 0, 0, 0, 0, 0, 0, 0, 0, 0, 0, 0, 0, 0, 0, 0, 0, 0, 0, 0, 0, 0, 0, 0, 0, 0, 0, 0, 0, 0, 0, 0, 0, 0, 0, 0, 0, 0, 0, 0, 0, 0, 0, 0, 0, 0, 0, 0, 0, 0, 0, 0, 0, 0, 0, 0, 0, 0, 0, 0]))))) ++ (List.drop (0 + (List.length (List.take 64 (List.drop 0 (([] ++ (List.take ((List.length a0) * 1) (List.drop 0 a0))) ++ (List.drop (0 + (List.length (List.take ((List.length a0) * 1) (List.drop 0 a0)))) [(0 : Int), 0, 0, 0, 0, 0, 0, 0, 0, 0, 0, 0, 0, 0, 0, 0, 0, 0, 0, 0, 0, 0, 0, 0, 0, 0, 0, 0, 0, 0, 0, 0, 0, 0, 0, 0, 0, 0, 0, 0, 0, 0, 0, 0, 0, 0, 0, 0, 0, 0, 0, 0, 0, 0, 0, 0, 0, 0, 0, 0, 0, 0, 0, 0])))))) [(0 : Int), 0, 0, 0, 0, 0, 0, 0, 0, 0, 0, 0, 0, 0, 0, 0, 0, 0, 0, 0, 0, 0, 0, 0, 0, 0, 0, 0, 0, 0, 0, 0, 0, 0, 0, 0, 0, 0, 0, 0, 0, 0, 0, 0, 0, 0, 0, 0, 0, 0, 0, 0, 0, 0, 0, 0, 0, 0, 0, 0, 0, 0, 0, 0]))))
 else none
 else none
 else none
 else none
 else none
 else
 bif (decide ((0 + (List.length (List.take 64 (List.drop 0 a0)))) ≤ 64)) then
 bif (decide (64 ≤ (List.length (([] ++ (List.take 64 (List.drop 0 a0))) ++ (List.drop (0 + (List.length (List.take 64 (List.drop 0 a0)))) [(0 : Int), 0, 0, 0, 0, 0, 0, 0, 0, 0, 0, 0, 0, 0, 0, 0, 0, 0, 0, 0, 0, 0, 0, 0, 0, 0, 0, 0, 0, 0, 0, 0, 0, 0, 0, 0, 0, 0, 0, 0, 0, 0, 0, 0, 0, 0, 0, 0, 0, 0, 0, 0, 0, 0, 0, 0, 0, 0, 0, 0, 0, 0, 0, 0]))))) then
 bif ((List.length (List.take 64 (List.drop 0 (([] ++ (List.take 64 (List.drop 0 a0))) ++ (List.drop (0 + (List.length (List.take 64 (List.drop 0 a0)))) [(0 : Int), 0, 0, 0, 0, 0, 0, 0, 0, 0, 0, 0, 0, 0, 0, 0, 0, 0, 0, 0, 0, 0, 0, 0, 0, 0, 0, 0, 0, 0, 0, 0, 0, 0, 0, 0, 0, 0, 0, 0, 0, 0, 0, 0, 0, 0, 0, 0, 0, 0, 0, 0, 0, 0, 0, 0, 0, 0, 0, 0, 0, 0, 0, 0]))))) == 64) then
 bif (decide ((0 + (List.length (List.take 64 (List.drop 0 (([] ++ (List.take 64 (List.drop 0 a0))) ++ (List.drop (0 + (List.length (List.take 64 (List.drop 0 a0)))) [(0 : Int), 0, 0, 0, 0, 0, 0, 0, 0, 0, 0, 0, 0, 0, 0, 0, 0, 0, 0, 0, 0, 0, 0, 0, 0, 0, 0, 0, 0, 0, 0, 0, 0, 0, 0, 0, 0, 0, 0, 0, 0, 0, 0, 0, 0, 0, 0, 0, 0, 0, 0, 0, 0, 0, 0, 0, 0, 0, 0, 0, 0, 0, 0, 0])))))) ≤ 64)) then
 bif (decide (64 ≤ (List.length (([] ++ (List.take 64 (List.drop 0 (([] ++ (List.take 64 (List.drop 0 a0))) ++ (List.drop (0 + (List.length (List.take 64 (List.drop 0 a0)))) [(0 : Int), 0, 0, 0, 0, 0, 0, 0, 0, 0, 0, 0, 0, 0, 0, 0, 0, 0, 0, 0, 0, 0, 0, 0, 0, 0, 0, 0, 0, 0, 0, 0, 0, 0, 0, 0, 0, 0, 0, 0, 0, 0, 0, 0, 0, 0, 0, 0, 0, 0, 0, 0, 0, 0, 0, 0, 0, 0, 0, 0, 0, 0, 0, 0]))))) ++ (List.drop (0 + (List.length (List.take 64 (List.drop 0 (([] ++ (List.take 64 (List.drop 0 a0))) ++ (List.drop (0 + (List.length (List.take 64 (List.drop 0 a0)))) [(0 : Int), 0, 0, 0, 0, 0, 0, 0, 0, 0, 0, 0, 0, 0, 0, 0, 0, 0, 0, 0, 0, 0, 0, 0, 0, 0, 0, 0, 0, 0, 0, 0, 0, 0, 0, 0, 0, 0, 0, 0, 0, 0, 0, 0, 0, 0, 0, 0, 0, 0, 0, 0, 0, 0, 0, 0, 0, 0, 0, 0, 0, 0, 0, 0])))))) [(0 : Int), 0, 0, 0, 0, 0, 0, 0, 0, 0, 0, 0, 0, 0, 0, 0, 0, 0, 0, 0, 0, 0, 0, 0, 0, 0, 0, 0, 0, 0, 0, 0, 0, 0, 0, 0, 0, 0, 0, 0, 0, 0, 0, 0, 0, 0, 0, 0, 0, 0, 0, 0, 0, 0, 0, 0, 0, 0, 0, 0, 0, 0, 0, 0]))))) then
 some (List.take 64 (List.drop 0 (([] ++ (List.take 64 (List.drop 0 (([] ++ (List.take 64 (List.drop 0 a0))) ++ (List.drop (0 + (List.length (List.take 64 (List.drop 0 a0)))) [(0 : Int), 0, 0, 0, 0, 0, 0, 0, 0, 0, 0, 0, 0, 0, 0, 0, 0, 0, 0, 0, 0, 0, 0, 0, 0, 0, 0, 0, 0, 0, 0, 0, 0, 0, 0, 0, 0, 0, 0, 0, 0, 0, 0, 0, 0, 0, 0, 0, 0, 0, 0, 0, 0, 0, 0, 0, 0, 0, 0, 0, 0, 0, 0, 0]))))) ++ (List.drop (0 + (List.length (List.take 64 (List.drop 0 (([] ++ (List.take 64 (List.drop 0 a0))) ++ (List.drop (0 + (List.length (List.take 64 (List.drop 0 a0)))) [(0 : Int), 0, 0, 0, 0, 0, 0, 0, 0, 0, 0, 0, 0, 0, 0, 0, 0, 0, 0, 0, 0, 0, 0, 0, 0, 0, 0, 0, 0, 0, 0, 0, 0, 0, 0, 0, 0, 0, 0, 0, 0, 0, 0, 0, 0, 0, 0, 0, 0, 0, 0, 0, 0, 0, 0, 0, 0, 0, 0, 0, 0, 0, 0, 0])))))) [(0 : Int), 0, 0, 0, 0, 0, 0, 0, 0, 0, 0, 0, 0, 0, 0, 0, 0, 0, 0, 0, 0, 0, 0, 0, 0, 0, 0, 0, 0, 0, 0, 0, 0, 0, 0, 0, 0, 0, 0, 0, 0, 0, 0, 0, 0, 0, 0, 0, 0, 0, 0, 0, 0, 0, 0, 0, 0, 0, 0, 0, 0, 0, 0, 0]))))
 else none
 else none
 else none
 else none
 else none

def L234_0 (c224 : D224) (N : Nat) (q0_0 : List Int → Option (List Int)) : Nat → Int → Int → List Int → Option (List Int)
  | 0, _, _, _ => none
  | n0 + 1, v2, v3, v4 =>
    bif (decide (v3 < (64 : Int))) then
 bif ((decide ((0 : Int) ≤ v3)) && (decide (v3 < (64 : Int)))) then
 match (v4)[(0 + ((Int.toNat v3) * 1))]? with
 | none => none
 | some x5 =>
 bif ((decide ((0 : Int) ≤ v3)) && (decide (v3 < (64 : Int)))) then
 bif (decide ((0 + ((Int.toNat v3) * 1)) < (List.length v4))) then
 L234_0 c224 N q0_0 n0 v2 (iadd .i64 v3 (1 : Int)) (List.set v4 (0 + ((Int.toNat v3) * 1)) (ixor .u8 x5 v2))
 else none
 else none
 else none
 else
 q0_0 v4
/-- euphroe/hmac.pad -/
def p234 (c224 : D224) (N : Nat) (a0 : List Int) (a1 : Int) : Option (List Int) :=
  match c224 a0 with
 | none => none
 | some r1 =>
 bif ((List.length r1) == 64) then
 bif (decide ((0 + (List.length r1)) ≤ 64)) then
 L234_0 c224 N (fun (y6 : List Int) =>
 bif (decide (64 ≤ (List.length y6))) then
 bif (decide (64 ≤ (List.length y6))) then
 some (List.take 64 (List.drop 0 y6))
 else none
 else none) N a1 (0 : Int) (([] ++ r1) ++ (List.drop (0 + (List.length r1)) [(0 : Int), 0, 0, 0, 0, 0, 0, 0, 0, 0, 0, 0, 0, 0, 0, 0, 0, 0, 0, 0, 0, 0, 0, 0, 0, 0, 0, 0, 0, 0, 0, 0, 0, 0, 0, 0, 0, 0, 0, 0, 0, 0, 0, 0, 0, 0, 0, 0, 0, 0, 0, 0, 0, 0, 0, 0, 0, 0, 0, 0, 0, 0, 0, 0]))
 else none
 else none

/-- euphroe/hmac.Of -/
def p223 (c234 : D234) (c46 : D46) (c213 : D213) (N : Nat) (a0 : List Int) (a1 : List (List Int)) : Option (List Int) :=
  match c234 a0 (54 : Int) with
 | none => none
 | some r1 =>
 match c46 a1 with
 | none => none
 | some r2 =>
 bif (decide ((0 + ((List.length r2) * 1)) ≤ (List.length r2))) then
 match c213 ([r1, (List.take (List.length r2) (List.drop 0 r2))] : List (List Int)) with
 | none => none
 | some r3 =>
 bif ((List.length r3) == 32) then
 bif (decide ((0 + (List.length r3)) ≤ 32)) then
 match c234 a0 (92 : Int) with
 | none => none
 | some r4 =>
 bif (decide (32 ≤ (List.length (([] ++ r3) ++ (List.drop (0 + (List.length r3)) [(0 : Int), 0, 0, 0, 0, 0, 0, 0, 0, 0, 0, 0, 0, 0, 0, 0, 0, 0, 0, 0, 0, 0, 0, 0, 0, 0, 0, 0, 0, 0, 0, 0]))))) then
 bif (decide (32 ≤ (List.length (([] ++ r3) ++ (List.drop (0 + (List.length r3)) [(0 : Int), 0, 0, 0, 0, 0, 0, 0, 0, 0, 0, 0, 0, 0, 0, 0, 0, 0, 0, 0, 0, 0, 0, 0, 0, 0, 0, 0, 0, 0, 0, 0]))))) then
 match c213 ([r4, (List.take 32 (List.drop 0 (([] ++ r3) ++ (List.drop (0 + (List.length r3)) [(0 : Int), 0, 0, 0, 0, 0, 0, 0, 0, 0, 0, 0, 0, 0, 0, 0, 0, 0, 0, 0, 0, 0, 0, 0, 0, 0, 0, 0, 0, 0, 0, 0]))))] : List (List Int)) with
 | none => none
 | some r5 =>
 bif ((List.length r5) == 32) then
 bif (decide ((0 + (List.length r5)) ≤ 32)) then
 bif (decide (32 ≤ (List.length (([] ++ r5) ++ (List.drop (0 + (List.length r5)) [(0 : Int), 0, 0, 0, 0, 0, 0, 0, 0, 0, 0, 0, 0, 0, 0, 0, 0, 0, 0, 0, 0, 0, 0, 0, 0, 0, 0, 0, 0, 0, 0, 0]))))) then
 some (List.take 32 (List.drop 0 (([] ++ r5) ++ (List.drop (0 + (List.length r5)) [(0 : Int), 0, 0, 0, 0, 0, 0, 0, 0, 0, 0, 0, 0, 0, 0, 0, 0, 0, 0, 0, 0, 0, 0, 0, 0, 0, 0, 0, 0, 0, 0, 0]))))
 else none
 else none
 else none
 else none
 else none
 else none
 else none
 else none

/-- euphroe/prf.may -/
def p307 (N : Nat) (a0 : Int) : Option Int :=
  bif (decide (a0 < (1 : Int))) then
 some (1 : Int)
 else
 bif (decide (a0 > (8160 : Int))) then
 some (8 : Int)
 else
 some (0 : Int)

/-- euphroe/prf.Pieces -/
def p292 (c307 : D307) (N : Nat) (a0 : List Int) (a1 : List Int) (a2 : Int) : Option Int :=
  match c307 a2 with
 | none => none
 | some r1 =>
 bif (r1 != (0 : Int)) then
 some (0 : Int)
 else
 some (iquo .i64 (isub .i64 (iadd .i64 a2 (32 : Int)) (1 : Int)) (32 : Int))

/-- euphroe/prf.Derive$1 -/
def p308v0 (c223 : D223) (N : Nat) (a0 : Int) (a1 : List Int) (a2 : List Int) (a3 : List Int) (a4 : List Int) (a5 : Nat) (a6 : List Int) : Option R308v0 :=
  match c223 a1 ([a2, a3, a4, ([(IntKind.wrap .u8 a0)] : List Int)] : List (List Int)) with
 | none => none
 | some r1 =>
 bif ((List.length r1) == 32) then
 bif (decide ((0 + (List.length r1)) ≤ 32)) then
 bif (decide (32 ≤ (List.length (([] ++ r1) ++ (List.drop (0 + (List.length r1)) [(0 : Int), 0, 0, 0, 0, 0, 0, 0, 0, 0, 0, 0, 0, 0, 0, 0, 0, 0, 0, 0, 0, 0, 0, 0, 0, 0, 0, 0, 0, 0, 0, 0]))))) then
 bif (decide (32 ≤ (List.length (([] ++ r1) ++ (List.drop (0 + (List.length r1)) [(0 : Int), 0, 0, 0, 0, 0, 0, 0, 0, 0, 0, 0, 0, 0, 0, 0, 0, 0, 0, 0, 0, 0, 0, 0, 0, 0, 0, 0, 0, 0, 0, 0]))))) then
 bif (((List.length a6) == (a5 * 1)) && ((decide (((a5 + 32) * 1) ≤ 1099511627776)) && (decide ((a5 + 32) ≤ 1099511627776)))) then
 some (((), ()), ((a1, ()), (((32, 32), ()), ((a3, ()), ((a4, ()), (((a5 + 32), ()), ((), ((([] ++ r1) ++ (List.drop (0 + (List.length r1)) [(0 : Int), 0, 0, 0, 0, 0, 0, 0, 0, 0, 0, 0, 0, 0, 0, 0, 0, 0, 0, 0, 0, 0, 0, 0, 0, 0, 0, 0, 0, 0, 0, 0])), ((a6 ++ (List.take 32 (List.drop 0 (([] ++ r1) ++ (List.drop (0 + (List.length r1)) [(0 : Int), 0, 0, 0, 0, 0, 0, 0, 0, 0, 0, 0, 0, 0, 0, 0, 0, 0, 0, 0, 0, 0, 0, 0, 0, 0, 0, 0, 0, 0, 0, 0]))))), ())))))))))
 else none
 else none
 else none
 else none
 else none

def L290_0 (c307 : D307) (c19 : D19) (c292 : D292) (d308v0 : D308v0) (N : Nat) (q0_0 : Int → List Int → Nat → List Int → Option ((List Int) × Int)) : Nat → Int → Int → Int → List Int → Nat → List Int → List Int → List Int → List Int → Option ((List Int) × Int)
  | 0, _, _, _, _, _, _, _, _, _ => none
  | n0 + 1, v4, v5, v6, v7, v8, v9, v10, v11, v12 =>
    bif (decide (v6 < v5)) then
 match d308v0 (iadd .i64 v6 (1 : Int)) v10 v7 v11 v12 v8 v9 with
 | none => none
 | some r13 =>
 bif (decide ((0 + (r13.2.2.1.1.1 * 1)) ≤ (List.length r13.2.2.2.2.2.2.2.1))) then
 L290_0 c307 c19 c292 d308v0 N q0_0 n0 v4 v5 (iadd .i64 v6 (1 : Int)) (List.take r13.2.2.1.1.1 (List.drop 0 r13.2.2.2.2.2.2.2.1)) r13.2.2.2.2.2.1.1 r13.2.2.2.2.2.2.2.2.1 r13.2.1.1 r13.2.2.2.1.1 r13.2.2.2.2.1.1
 else none
 else
 q0_0 v4 v7 v8 v9
/-- euphroe/prf.Derive -/
def p290 (c307 : D307) (c19 : D19) (c292 : D292) (d308v0 : D308v0) (N : Nat) (a0 : List Int) (a1 : List Int) (a2 : Int) : Option ((List Int) × Int) :=
  match c307 a2 with
 | none => none
 | some r1 =>
 bif (r1 != (0 : Int)) then
 some (([] : List Int), r1)
 else
 match c19 (IntKind.wrap .u64 a2) (2 : Int) true with
 | none => none
 | some r2 =>
 match c292 a0 a1 a2 with
 | none => none
 | some r3 =>
 L290_0 c307 c19 c292 d308v0 N (fun (y14 : Int) (y15 : List Int) (y16 : Nat) (y17 : List Int) =>
 bif ((decide ((0 : Int) ≤ y14)) && (decide (y14 ≤ ((y16 : Nat) : Int)))) then
 bif (decide ((0 + ((Int.toNat y14) * 1)) ≤ (List.length y17))) then
 some ((List.take (Int.toNat y14) (List.drop 0 y17)), (0 : Int))
 else none
 else none) N a2 r3 (0 : Int) ([] : List Int) 0 ([] : List Int) a0 a1 r2.1

/-- euphroe/prf.Bind -/
def p293 (c290 : D290) (N : Nat) (a0 : List Int) : Option (List Int) :=
  bif (decide (32 ≤ (List.length a0))) then
 bif (decide (32 ≤ (List.length a0))) then
 match c290 (List.take 32 (List.drop 0 a0)) ([(83 : Int), (83 : Int), (84 : Int), (80 : Int), (32 : Int), (105 : Int), (110 : Int), (110 : Int), (101 : Int), (114 : Int), (32 : Int), (109 : Int), (101 : Int), (116 : Int), (104 : Int), (111 : Int), (100 : Int), (32 : Int), (100 : Int), (101 : Int), (114 : Int), (105 : Int), (118 : Int), (101 : Int), (100 : Int), (32 : Int), (67 : Int), (77 : Int), (75 : Int)] : List Int) (32 : Int) with
 | none => none
 | some r1 =>
 bif (decide (32 ≤ (List.length r1.1))) then
 bif (decide (32 ≤ (List.length r1.1))) then
 bif ((List.length (List.take 32 (List.drop 0 r1.1))) == 32) then
 bif (decide ((0 + (List.length (List.take 32 (List.drop 0 r1.1)))) ≤ 32)) then
 bif (decide (32 ≤ (List.length (([] ++ (List.take 32 (List.drop 0 r1.1))) ++ (List.drop (0 + (List.length (List.take 32 (List.drop 0 r1.1)))) [(0 : Int), 0, 0, 0, 0, 0, 0, 0, 0, 0, 0, 0, 0, 0, 0, 0, 0, 0, 0, 0, 0, 0, 0, 0, 0, 0, 0, 0, 0, 0, 0, 0]))))) then
 some (List.take 32 (List.drop 0 (([] ++ (List.take 32 (List.drop 0 r1.1))) ++ (List.drop (0 + (List.length (List.take 32 (List.drop 0 r1.1)))) [(0 : Int), 0, 0, 0, 0, 0, 0, 0, 0, 0, 0, 0, 0, 0, 0, 0, 0, 0, 0, 0, 0, 0, 0, 0, 0, 0, 0, 0, 0, 0, 0, 0]))))
 else none
 else none
 else none
 else none
 else none
 else none
 else none

/-- euphroe/prf.Seal -/
def p295 (c223 : D223) (N : Nat) (a0 : List Int) (a1 : List Int) : Option (List Int) :=
  bif (decide (32 ≤ (List.length a0))) then
 bif (decide (32 ≤ (List.length a0))) then
 match c223 (List.take 32 (List.drop 0 a0)) ([a1] : List (List Int)) with
 | none => none
 | some r1 =>
 bif ((List.length r1) == 32) then
 bif (decide ((0 + (List.length r1)) ≤ 32)) then
 bif (decide (32 ≤ (List.length (([] ++ r1) ++ (List.drop (0 + (List.length r1)) [(0 : Int), 0, 0, 0, 0, 0, 0, 0, 0, 0, 0, 0, 0, 0, 0, 0, 0, 0, 0, 0, 0, 0, 0, 0, 0, 0, 0, 0, 0, 0, 0, 0]))))) then
 some (List.take 32 (List.drop 0 (([] ++ r1) ++ (List.drop (0 + (List.length r1)) [(0 : Int), 0, 0, 0, 0, 0, 0, 0, 0, 0, 0, 0, 0, 0, 0, 0, 0, 0, 0, 0, 0, 0, 0, 0, 0, 0, 0, 0, 0, 0, 0, 0]))))
 else none
 else none
 else none
 else none
 else none

def L291_0 (c222 : D222) (N : Nat) (q0_0 : Int → Nat → Int → List Int → Option ((List Int) × Int × Int)) : Nat → List Int → List Int → Int → Nat → List Int → Int → List Int → Option ((List Int) × Int × Int)
  | 0, _, _, _, _, _, _, _ => none
  | n0 + 1, v1, v2, v3, v4, v5, v6, v7 =>
    bif (decide (((v4 : Nat) : Int) < v3)) then
 bif ((decide (((List.length v5) * 1) ≤ 1099511627776)) && (decide ((List.length v5) ≤ 1099511627776))) then
 bif (((List.length v5) == ((List.length v5) * 1)) && ((decide ((((List.length v5) + (List.length v2)) * 1) ≤ 1099511627776)) && (decide (((List.length v5) + (List.length v2)) ≤ 1099511627776)))) then
 bif (((List.length (v5 ++ v2)) == (((List.length v5) + (List.length v2)) * 1)) && ((decide (((((List.length v5) + (List.length v2)) + 3) * 1) ≤ 1099511627776)) && (decide ((((List.length v5) + (List.length v2)) + 3) ≤ 1099511627776)))) then
 bif (decide ((0 + ((((List.length v5) + (List.length v2)) + 3) * 1)) ≤ (List.length ((v5 ++ v2) ++ [(IntKind.wrap .u8 (irem v3 (256 : Int))), (IntKind.wrap .u8 (iquo .i64 v3 (256 : Int))), (IntKind.wrap .u8 (iadd .i64 v6 (1 : Int)))])))) then
 match c222 v1 (List.take (((List.length v5) + (List.length v2)) + 3) (List.drop 0 ((v5 ++ v2) ++ [(IntKind.wrap .u8 (irem v3 (256 : Int))), (IntKind.wrap .u8 (iquo .i64 v3 (256 : Int))), (IntKind.wrap .u8 (iadd .i64 v6 (1 : Int)))]))) with
 | none => none
 | some r8 =>
 bif ((List.length r8) == 32) then
 bif (decide ((0 + (List.length r8)) ≤ 32)) then
 bif (decide (32 ≤ (List.length (([] ++ r8) ++ (List.drop (0 + (List.length r8)) [(0 : Int), 0, 0, 0, 0, 0, 0, 0, 0, 0, 0, 0, 0, 0, 0, 0, 0, 0, 0, 0, 0, 0, 0, 0, 0, 0, 0, 0, 0, 0, 0, 0]))))) then
 bif (decide (32 ≤ (List.length (([] ++ r8) ++ (List.drop (0 + (List.length r8)) [(0 : Int), 0, 0, 0, 0, 0, 0, 0, 0, 0, 0, 0, 0, 0, 0, 0, 0, 0, 0, 0, 0, 0, 0, 0, 0, 0, 0, 0, 0, 0, 0, 0]))))) then
 bif (((List.length v7) == (v4 * 1)) && ((decide (((v4 + 32) * 1) ≤ 1099511627776)) && (decide ((v4 + 32) ≤ 1099511627776)))) then
 bif (decide (32 ≤ (List.length (([] ++ r8) ++ (List.drop (0 + (List.length r8)) [(0 : Int), 0, 0, 0, 0, 0, 0, 0, 0, 0, 0, 0, 0, 0, 0, 0, 0, 0, 0, 0, 0, 0, 0, 0, 0, 0, 0, 0, 0, 0, 0, 0]))))) then
 L291_0 c222 N q0_0 n0 v1 v2 v3 (v4 + 32) (List.take 32 (List.drop 0 (([] ++ r8) ++ (List.drop (0 + (List.length r8)) [(0 : Int), 0, 0, 0, 0, 0, 0, 0, 0, 0, 0, 0, 0, 0, 0, 0, 0, 0, 0, 0, 0, 0, 0, 0, 0, 0, 0, 0, 0, 0, 0, 0])))) (iadd .i64 v6 (1 : Int)) (v7 ++ (List.take 32 (List.drop 0 (([] ++ r8) ++ (List.drop (0 + (List.length r8)) [(0 : Int), 0, 0, 0, 0, 0, 0, 0, 0, 0, 0, 0, 0, 0, 0, 0, 0, 0, 0, 0, 0, 0, 0, 0, 0, 0, 0, 0, 0, 0, 0, 0])))))
 else none
 else none
 else none
 else none
 else none
 else none
 else none
 else none
 else none
 else none
 else
 q0_0 v3 v4 v6 v7
/-- euphroe/euphroeref13.Derive -/
def p291 (c222 : D222) (N : Nat) (a0 : List Int) (a1 : List Int) (a2 : Int) : Option ((List Int) × Int × Int) :=
  bif (decide (a2 < (1 : Int))) then
 some (([] : List Int), ((0 : Int), (1 : Int)))
 else
 bif (decide (a2 > (8160 : Int))) then
 some (([] : List Int), ((0 : Int), (8 : Int)))
 else
 L291_0 c222 N (fun (y9 : Int) (y10 : Nat) (y11 : Int) (y12 : List Int) =>
 bif ((decide ((0 : Int) ≤ y9)) && (decide (y9 ≤ ((y10 : Nat) : Int)))) then
 bif (decide ((0 + ((Int.toNat y9) * 1)) ≤ (List.length y12))) then
 some ((List.take (Int.toNat y9) (List.drop 0 y12)), (y11, (0 : Int)))
 else none
 else none) N a0 a1 a2 0 ([] : List Int) (0 : Int) ([] : List Int)

def L294_0 (c291 : D291) (N : Nat) (q0_0 : List Int → List Int → Option (List Int)) : Nat → List Int → Int → List Int → List Int → Option (List Int)
  | 0, _, _, _, _ => none
  | n0 + 1, v2, v3, v4, v5 =>
    bif (decide (v3 < (32 : Int))) then
 match geti v2 v3 with
 | none => none
 | some x6 =>
 bif ((decide ((0 : Int) ≤ v3)) && (decide (v3 < (32 : Int)))) then
 bif (decide ((0 + ((Int.toNat v3) * 1)) < (List.length v5))) then
 L294_0 c291 N q0_0 n0 v2 (iadd .i64 v3 (1 : Int)) v4 (List.set v5 (0 + ((Int.toNat v3) * 1)) x6)
 else none
 else none
 else
 q0_0 v4 v5
/-- euphroe/euphroeref13.Bind -/
def p294 (c291 : D291) (N : Nat) (a0 : List Int) : Option (List Int) :=
  bif (decide (32 ≤ (List.length a0))) then
 bif (decide (32 ≤ (List.length a0))) then
 match c291 (List.take 32 (List.drop 0 a0)) ([(83 : Int), (83 : Int), (84 : Int), (80 : Int), (32 : Int), (105 : Int), (110 : Int), (110 : Int), (101 : Int), (114 : Int), (32 : Int), (109 : Int), (101 : Int), (116 : Int), (104 : Int), (111 : Int), (100 : Int), (32 : Int), (100 : Int), (101 : Int), (114 : Int), (105 : Int), (118 : Int), (101 : Int), (100 : Int), (32 : Int), (67 : Int), (77 : Int), (75 : Int)] : List Int) (32 : Int) with
 | none => none
 | some r1 =>
 L294_0 c291 N (fun (y7 : List Int) (y8 : List Int) =>
 bif (decide (32 ≤ (List.length y8))) then
 bif ((List.length (List.take 32 (List.drop 0 y8))) == 32) then
 bif (decide ((0 + (List.length (List.take 32 (List.drop 0 y8)))) ≤ (List.length y7))) then
 bif (decide (32 ≤ (List.length (((List.take 0 y7) ++ (List.take 32 (List.drop 0 y8))) ++ (List.drop (0 + (List.length (List.take 32 (List.drop 0 y8)))) y7))))) then
 some (List.take 32 (List.drop 0 (((List.take 0 y7) ++ (List.take 32 (List.drop 0 y8))) ++ (List.drop (0 + (List.length (List.take 32 (List.drop 0 y8)))) y7))))
 else none
 else none
 else none
 else none) N r1.1 (0 : Int) ([(0 : Int), 0, 0, 0, 0, 0, 0, 0, 0, 0, 0, 0, 0, 0, 0, 0, 0, 0, 0, 0, 0, 0, 0, 0, 0, 0, 0, 0, 0, 0, 0, 0] : List Int) ([(0 : Int), 0, 0, 0, 0, 0, 0, 0, 0, 0, 0, 0, 0, 0, 0, 0, 0, 0, 0, 0, 0, 0, 0, 0, 0, 0, 0, 0, 0, 0, 0, 0] : List Int)
 else none
 else none

/-- euphroe/packet.Of -/
def p316 (c320 : D320) (N : Nat) (a0 : Int) (a1 : List (Int × (List Int))) : Option (Bool × Int × (List (Int × (List Int))) × (List Int)) :=
  match c320 a1 with
 | none => none
 | some r1 =>
 some (true, (a0, (r1, ([] : List Int))))

/-- euphroe/bind.of -/
def p310 (c148 : D148) (c316 : D316) (N : Nat) (a0 : List Int) : Option (Bool × Int × (List (Int × (List Int))) × (List Int)) :=
  bif (decide (97 ≤ (List.length a0))) then
 match c148 (List.take 97 (List.drop 0 a0)) with
 | none => none
 | some r1 =>
 match c316 (4 : Int) ([(r1.1, r1.2)] : List (Int × (List Int))) with
 | none => none
 | some r2 =>
 some (r2.1, (r2.2.1, (r2.2.2.1, r2.2.2.2)))
 else none

/-- euphroe/packet.number -/
def p322 (c19 : D19) (N : Nat) (a0 : Int) : Option (List Int) :=
  match c19 (IntKind.wrap .u64 a0) (2 : Int) false with
 | none => none
 | some r1 =>
 some r1.1

def L321_0 (c322 : D322) (c46 : D46) (c139 : D139) (N : Nat) (q0_1 : Nat → List Int → Option ((List Int) × Int)) : Nat → Nat → List (Int × (List Int)) → Int → Int → List Int → Option ((List Int) × Int)
  | 0, _, _, _, _, _ => none
  | n0 + 1, v4, v5, v6, v7, v8 =>
    bif (decide (v7 < v6)) then
 match geti v5 v7 with
 | none => none
 | some x9 =>
 match c139 (x9.1, x9.2) with
 | none => none
 | some r10 =>
 bif (r10.2 != (0 : Int)) then
 some (([] : List Int), r10.2)
 else
 bif (((List.length v8) == (v4 * 1)) && ((decide (((v4 + (List.length r10.1)) * 1) ≤ 1099511627776)) && (decide ((v4 + (List.length r10.1)) ≤ 1099511627776)))) then
 L321_0 c322 c46 c139 N q0_1 n0 (v4 + (List.length r10.1)) v5 v6 (iadd .i64 v7 (1 : Int)) (v8 ++ r10.1)
 else none
 else
 q0_1 v4 v8
/-- euphroe/packet.body -/
def p321 (c322 : D322) (c46 : D46) (c139 : D139) (N : Nat) (a0 : Bool × Int × (List (Int × (List Int))) × (List Int)) : Option ((List Int) × Int) :=
  bif (!a0.1) then
 bif ((((List.length a0.2.2.2) : Nat) : Int) == (0 : Int)) then
 some (([] : List Int), (4 : Int))
 else
 bif (!a0.1) then
 some (a0.2.2.2, (0 : Int))
 else
 bif (decide ((((List.length a0.2.2.1) : Nat) : Int) > (8 : Int))) then
 some (([] : List Int), (5 : Int))
 else
 match c322 (IntKind.wrap .i64 a0.2.1) with
 | none => none
 | some r1 =>
 match c322 (((List.length a0.2.2.1) : Nat) : Int) with
 | none => none
 | some r2 =>
 match c46 ([r1, r2] : List (List Int)) with
 | none => none
 | some r3 =>
 L321_0 c322 c46 c139 N (fun (y11 : Nat) (y12 : List Int) =>
 bif (decide ((0 + (y11 * 1)) ≤ (List.length y12))) then
 some ((List.take y11 (List.drop 0 y12)), (0 : Int))
 else none) N (List.length r3) a0.2.2.1 (((List.length a0.2.2.1) : Nat) : Int) (0 : Int) r3
 else
 bif (!a0.1) then
 some (a0.2.2.2, (0 : Int))
 else
 bif (decide ((((List.length a0.2.2.1) : Nat) : Int) > (8 : Int))) then
 some (([] : List Int), (5 : Int))
 else
 match c322 (IntKind.wrap .i64 a0.2.1) with
 | none => none
 | some r13 =>
 match c322 (((List.length a0.2.2.1) : Nat) : Int) with
 | none => none
 | some r14 =>
 match c46 ([r13, r14] : List (List Int)) with
 | none => none
 | some r15 =>
 L321_0 c322 c46 c139 N (fun (y16 : Nat) (y17 : List Int) =>
 bif (decide ((0 + (y16 * 1)) ≤ (List.length y17))) then
 some ((List.take y16 (List.drop 0 y17)), (0 : Int))
 else none) N (List.length r15) a0.2.2.1 (((List.length a0.2.2.1) : Nat) : Int) (0 : Int) r15

/-- euphroe/packet.Lay -/
def p317 (c321 : D321) (c322 : D322) (c46 : D46) (N : Nat) (a0 : Bool × Int × (List (Int × (List Int))) × (List Int)) : Option ((List Int) × Int) :=
  match c321 (a0.1, (a0.2.1, (a0.2.2.1, a0.2.2.2))) with
 | none => none
 | some r1 =>
 bif (r1.2 != (0 : Int)) then
 some (([] : List Int), r1.2)
 else
 bif (decide ((iadd .i64 (4 : Int) (((List.length r1.1) : Nat) : Int)) > (4095 : Int))) then
 some (([] : List Int), (8 : Int))
 else
 bif a0.1 then
 match c322 (iadd .i64 (4 : Int) (((List.length r1.1) : Nat) : Int)) with
 | none => none
 | some r2 =>
 match c46 ([([(16 : Int), (1 : Int)] : List Int), r2, r1.1] : List (List Int)) with
 | none => none
 | some r3 =>
 bif (decide ((0 + ((List.length r3) * 1)) ≤ (List.length r3))) then
 some ((List.take (List.length r3) (List.drop 0 r3)), (0 : Int))
 else none
 else
 match c322 (iadd .i64 (4 : Int) (((List.length r1.1) : Nat) : Int)) with
 | none => none
 | some r4 =>
 match c46 ([([(16 : Int), (0 : Int)] : List Int), r4, r1.1] : List (List Int)) with
 | none => none
 | some r5 =>
 bif (decide ((0 + ((List.length r5) * 1)) ≤ (List.length r5))) then
 some ((List.take (List.length r5) (List.drop 0 r5)), (0 : Int))
 else none

/-- euphroe/bind.sealed -/
def p309 (c310 : D310) (c317 : D317) (c293 : D293) (c295 : D295) (N : Nat) (a0 : List Int) (a1 : List Int) : Option (List Int) :=
  bif (decide (97 ≤ (List.length a0))) then
 bif (decide (97 ≤ (List.length (((List.take 65 a0) ++ [(0 : Int), 0, 0, 0, 0, 0, 0, 0, 0, 0, 0, 0, 0, 0, 0, 0, 0, 0, 0, 0, 0, 0, 0, 0, 0, 0, 0, 0, 0, 0, 0, 0]) ++ (List.drop 97 a0))))) then
 match c310 (List.take 97 (List.drop 0 (((List.take 65 a0) ++ [(0 : Int), 0, 0, 0, 0, 0, 0, 0, 0, 0, 0, 0, 0, 0, 0, 0, 0, 0, 0, 0, 0, 0, 0, 0, 0, 0, 0, 0, 0, 0, 0, 0]) ++ (List.drop 97 a0)))) with
 | none => none
 | some r1 =>
 match c317 (r1.1, (r1.2.1, (r1.2.2.1, r1.2.2.2))) with
 | none => none
 | some r2 =>
 bif (decide (32 ≤ (List.length a1))) then
 match c293 (List.take 32 (List.drop 0 a1)) with
 | none => none
 | some r3 =>
 match c295 r3 r2.1 with
 | none => none
 | some r4 =>
 bif ((List.length r4) == 32) then
 bif (decide ((0 + (List.length r4)) ≤ 32)) then
 bif (decide (32 ≤ (List.length (([] ++ r4) ++ (List.drop (0 + (List.length r4)) [(0 : Int), 0, 0, 0, 0, 0, 0, 0, 0, 0, 0, 0, 0, 0, 0, 0, 0, 0, 0, 0, 0, 0, 0, 0, 0, 0, 0, 0, 0, 0, 0, 0]))))) then
 some (List.take 32 (List.drop 0 (([] ++ r4) ++ (List.drop (0 + (List.length r4)) [(0 : Int), 0, 0, 0, 0, 0, 0, 0, 0, 0, 0, 0, 0, 0, 0, 0, 0, 0, 0, 0, 0, 0, 0, 0, 0, 0, 0, 0, 0, 0, 0, 0]))))
 else none
 else none
 else none
 else none
 else none
 else none

/-- euphroe/bind.Connected -/
def p297 (c309 : D309) (c310 : D310) (N : Nat) (a0 : List Int) (a1 : List Int) (a2 : List Int) : Option (Bool × Int × (List (Int × (List Int))) × (List Int)) :=
  bif (decide (32 ≤ (List.length a1))) then
 bif (decide (32 ≤ (List.length a2))) then
 bif ((List.length (List.take 32 (List.drop 0 a1))) == 32) then
 bif (decide ((1 + (List.length (List.take 32 (List.drop 0 a1)))) ≤ 97)) then
 bif ((List.length (List.take 32 (List.drop 0 a2))) == 32) then
 bif (decide ((33 + (List.length (List.take 32 (List.drop 0 a2)))) ≤ (List.length (([(2 : Int)] ++ (List.take 32 (List.drop 0 a1))) ++ (List.drop (1 + (List.length (List.take 32 (List.drop 0 a1)))) ([(2 : Int)] ++ zz 96)))))) then
 bif ((List.length (((List.take 33 (([(2 : Int)] ++ (List.take 32 (List.drop 0 a1))) ++ (List.drop (1 + (List.length (List.take 32 (List.drop 0 a1)))) ([(2 : Int)] ++ zz 96)))) ++ (List.take 32 (List.drop 0 a2))) ++ (List.drop (33 + (List.length (List.take 32 (List.drop 0 a2)))) (([(2 : Int)] ++ (List.take 32 (List.drop 0 a1))) ++ (List.drop (1 + (List.length (List.take 32 (List.drop 0 a1)))) ([(2 : Int)] ++ zz 96)))))) == 97) then
 bif (decide ((0 + (List.length (((List.take 33 (([(2 : Int)] ++ (List.take 32 (List.drop 0 a1))) ++ (List.drop (1 + (List.length (List.take 32 (List.drop 0 a1)))) ([(2 : Int)] ++ zz 96)))) ++ (List.take 32 (List.drop 0 a2))) ++ (List.drop (33 + (List.length (List.take 32 (List.drop 0 a2)))) (([(2 : Int)] ++ (List.take 32 (List.drop 0 a1))) ++ (List.drop (1 + (List.length (List.take 32 (List.drop 0 a1)))) ([(2 : Int)] ++ zz 96))))))) ≤ 97)) then
 bif (decide (97 ≤ (List.length (([] ++ (((List.take 33 (([(2 : Int)] ++ (List.take 32 (List.drop 0 a1))) ++ (List.drop (1 + (List.length (List.take 32 (List.drop 0 a1)))) ([(2 : Int)] ++ zz 96)))) ++ (List.take 32 (List.drop 0 a2))) ++ (List.drop (33 + (List.length (List.take 32 (List.drop 0 a2)))) (([(2 : Int)] ++ (List.take 32 (List.drop 0 a1))) ++ (List.drop (1 + (List.length (List.take 32 (List.drop 0 a1)))) ([(2 : Int)] ++ zz 96)))))) ++ (List.drop (0 + (List.length (((List.take 33 (([(2 : Int)] ++ (List.take 32 (List.drop 0 a1))) ++ (List.drop (1 + (List.length (List.take 32 (List.drop 0 a1)))) ([(2 : Int)] ++ zz 96)))) ++ (List.take 32 (List.drop 0 a2))) ++ (List.drop (33 + (List.length (List.take 32 (List.drop 0 a2)))) (([(2 : Int)] ++ (List.take 32 (List.drop 0 a1))) ++ (List.drop (1 + (List.length (List.take 32 (List.drop 0 a1)))) ([(2 : Int)] ++ zz 96))))))) (zz 97)))))) then
 bif (decide (32 ≤ (List.length a0))) then
 match c309 (List.take 97 (List.drop 0 (([] ++ (((List.take 33 (([(2 : Int)] ++ (List.take 32 (List.drop 0 a1))) ++ (List.drop (1 + (List.length (List.take 32 (List.drop 0 a1)))) ([(2 : Int)] ++ zz 96)))) ++ (List.take 32 (List.drop 0 a2))) ++ (List.drop (33 + (List.length (List.take 32 (List.drop 0 a2)))) (([(2 : Int)] ++ (List.take 32 (List.drop 0 a1))) ++ (List.drop (1 + (List.length (List.take 32 (List.drop 0 a1)))) ([(2 : Int)] ++ zz 96)))))) ++ (List.drop (0 + (List.length (((List.take 33 (([(2 : Int)] ++ (List.take 32 (List.drop 0 a1))) ++ (List.drop (1 + (List.length (List.take 32 (List.drop 0 a1)))) ([(2 : Int)] ++ zz 96)))) ++ (List.take 32 (List.drop 0 a2))) ++ (List.drop (33 + (List.length (List.take 32 (List.drop 0 a2)))) (([(2 : Int)] ++ (List.take 32 (List.drop 0 a1))) ++ (List.drop (1 + (List.length (List.take 32 (List.drop 0 a1)))) ([(2 : Int)] ++ zz 96))))))) (zz 97))))) (List.take 32 (List.drop 0 a0)) with
 | none => none
 | some r1 =>
 bif ((List.length r1) == 32) then
 bif (decide ((65 + (List.length r1)) ≤ (List.length (([] ++ (((List.take 33 (([(2 : Int)] ++ (List.take 32 (List.drop 0 a1))) ++ (List.drop (1 + (List.length (List.take 32 (List.drop 0 a1)))) ([(2 : Int)] ++ zz 96)))) ++ (List.take 32 (List.drop 0 a2))) ++ (List.drop (33 + (List.length (List.take 32 (List.drop 0 a2)))) (([(2 : Int)] ++ (List.take 32 (List.drop 0 a1))) ++ (List.drop (1 + (List.length (List.take 32 (List.drop 0 a1)))) ([(2 : Int)] ++ zz 96)))))) ++ (List.drop (0 + (List.length (((List.take 33 (([(2 : Int)] ++ (List.take 32 (List.drop 0 a1))) ++ (List.drop (1 + (List.length (List.take 32 (List.drop 0 a1)))) ([(2 : Int)] ++ zz 96)))) ++ (List.take 32 (List.drop 0 a2))) ++ (List.drop (33 + (List.length (List.take 32 (List.drop 0 a2)))) (([(2 : Int)] ++ (List.take 32 (List.drop 0 a1))) ++ (List.drop (1 + (List.length (List.take 32 (List.drop 0 a1)))) ([(2 : Int)] ++ zz 96))))))) (zz 97)))))) then
 bif (decide (97 ≤ (List.length (((List.take 65 (([] ++ (((List.take 33 (([(2 : Int)] ++ (List.take 32 (List.drop 0 a1))) ++ (List.drop (1 + (List.length (List.take 32 (List.drop 0 a1)))) ([(2 : Int)] ++ zz 96)))) ++ (List.take 32 (List.drop 0 a2))) ++ (List.drop (33 + (List.length (List.take 32 (List.drop 0 a2)))) (([(2 : Int)] ++ (List.take 32 (List.drop 0 a1))) ++ (List.drop (1 + (List.length (List.take 32 (List.drop 0 a1)))) ([(2 : Int)] ++ zz 96)))))) ++ (List.drop (0 + (List.length (((List.take 33 (([(2 : Int)] ++ (List.take 32 (List.drop 0 a1))) ++ (List.drop (1 + (List.length (List.take 32 (List.drop 0 a1)))) ([(2 : Int)] ++ zz 96)))) ++ (List.take 32 (List.drop 0 a2))) ++ (List.drop (33 + (List.length (List.take 32 (List.drop 0 a2)))) (([(2 : Int)] ++ (List.take 32 (List.drop 0 a1))) ++ (List.drop (1 + (List.length (List.take 32 (List.drop 0 a1)))) ([(2 : Int)] ++ zz 96))))))) (zz 97)))) ++ r1) ++ (List.drop (65 + (List.length r1)) (([] ++ (((List.take 33 (([(2 : Int)] ++ (List.take 32 (List.drop 0 a1))) ++ (List.drop (1 + (List.length (List.take 32 (List.drop 0 a1)))) ([(2 : Int)] ++ zz 96)))) ++ (List.take 32 (List.drop 0 a2))) ++ (List.drop (33 + (List.length (List.take 32 (List.drop 0 a2)))) (([(2 : Int)] ++ (List.take 32 (List.drop 0 a1))) ++ (List.drop (1 + (List.length (List.take 32 (List.drop 0 a1)))) ([(2 : Int)] ++ zz 96)))))) ++ (List.drop (0 + (List.length (((List.take 33 (([(2 : Int)] ++ (List.take 32 (List.drop 0 a1))) ++ (List.drop (1 + (List.length (List.take 32 (List.drop 0 a1)))) ([(2 : Int)] ++ zz 96)))) ++ (List.take 32 (List.drop 0 a2))) ++ (List.drop (33 + (List.length (List.take 32 (List.drop 0 a2)))) (([(2 : Int)] ++ (List.take 32 (List.drop 0 a1))) ++ (List.drop (1 + (List.length (List.take 32 (List.drop 0 a1)))) ([(2 : Int)] ++ zz 96))))))) (zz 97)))))))) then
 match c310 (List.take 97 (List.drop 0 (((List.take 65 (([] ++ (((List.take 33 (([(2 : Int)] ++ (List.take 32 (List.drop 0 a1))) ++ (List.drop (1 + (List.length (List.take 32 (List.drop 0 a1)))) ([(2 : Int)] ++ zz 96)))) ++ (List.take 32 (List.drop 0 a2))) ++ (List.drop (33 + (List.length (List.take 32 (List.drop 0 a2)))) (([(2 : Int)] ++ (List.take 32 (List.drop 0 a1))) ++ (List.drop (1 + (List.length (List.take 32 (List.drop 0 a1)))) ([(2 : Int)] ++ zz 96)))))) ++ (List.drop (0 + (List.length (((List.take 33 (([(2 : Int)] ++ (List.take 32 (List.drop 0 a1))) ++ (List.drop (1 + (List.length (List.take 32 (List.drop 0 a1)))) ([(2 : Int)] ++ zz 96)))) ++ (List.take 32 (List.drop 0 a2))) ++ (List.drop (33 + (List.length (List.take 32 (List.drop 0 a2)))) (([(2 : Int)] ++ (List.take 32 (List.drop 0 a1))) ++ (List.drop (1 + (List.length (List.take 32 (List.drop 0 a1)))) ([(2 : Int)] ++ zz 96))))))) (zz 97)))) ++ r1) ++ (List.drop (65 + (List.length r1)) (([] ++ (((List.take 33 (([(2 : Int)] ++ (List.take 32 (List.drop 0 a1))) ++ (List.drop (1 + (List.length (List.take 32 (List.drop 0 a1)))) ([(2 : Int)] ++ zz 96)))) ++ (List.take 32 (List.drop 0 a2))) ++ (List.drop (33 + (List.length (List.take 32 (List.drop 0 a2)))) (([(2 : Int)] ++ (List.take 32 (List.drop 0 a1))) ++ (List.drop (1 + (List.length (List.take 32 (List.drop 0 a1)))) ([(2 : Int)] ++ zz 96)))))) ++ (List.drop (0 + (List.length (((List.take 33 (([(2 : Int)] ++ (List.take 32 (List.drop 0 a1))) ++ (List.drop (1 + (List.length (List.take 32 (List.drop 0 a1)))) ([(2 : Int)] ++ zz 96)))) ++ (List.take 32 (List.drop 0 a2))) ++ (List.drop (33 + (List.length (List.take 32 (List.drop 0 a2)))) (([(2 : Int)] ++ (List.take 32 (List.drop 0 a1))) ++ (List.drop (1 + (List.length (List.take 32 (List.drop 0 a1)))) ([(2 : Int)] ++ zz 96))))))) (zz 97))))))) with
 | none => none
 | some r2 =>
 some (r2.1, (r2.2.1, (r2.2.2.1, r2.2.2.2)))
 else none
 else none
 else none
 else none
 else none
 else none
 else none
 else none
 else none
 else none
 else none
 else none
 else none

/-- euphroe/packet.wants -/
def p324 (N : Nat) (a0 : Int) : Option (Int × Int × Int) :=
  bif (a0 == (1 : Int)) then
 some ((1 : Int), ((1 : Int), (1 : Int)))
 else
 bif (a0 == (2 : Int)) then
 some ((4 : Int), ((1 : Int), (1 : Int)))
 else
 bif (a0 == (3 : Int)) then
 some ((2 : Int), ((1 : Int), (3 : Int)))
 else
 bif (a0 == (4 : Int)) then
 some ((3 : Int), ((1 : Int), (1 : Int)))
 else
 bif (a0 == (5 : Int)) then
 bif (a0 == (5 : Int)) then
 some ((2 : Int), ((0 : Int), (1 : Int)))
 else
 some ((0 : Int), ((0 : Int), (0 : Int)))
 else
 bif (a0 == (6 : Int)) then
 some ((2 : Int), ((0 : Int), (1 : Int)))
 else
 some ((0 : Int), ((0 : Int), (0 : Int)))

/-- euphroe/packet.Check$1 -/
def p326v0 (N : Nat) (a0 : Int) (a1 : List Int) (a2 : List Int) : Option R326v0 :=
  match (a2)[0]? with
 | none => none
 | some x1 =>
 some (((a0 != x1), ()), (a2, ()))

def L327v0_0 (d326v0 : D326v0) (N : Nat) (q0_0 : List Int → Option R327v0) : Nat → List (Int × (List Int)) → Int → Int → List Int → Option R327v0
  | 0, _, _, _, _ => none
  | n0 + 1, v1, v2, v3, v4 =>
    bif (decide (v3 < v2)) then
 match geti v1 v3 with
 | none => none
 | some x5 =>
 match d326v0 x5.1 x5.2 v4 with
 | none => none
 | some r6 =>
 bif r6.1.1 then
 some ((v3, ()), (r6.2.1, ()))
 else
 L327v0_0 d326v0 N q0_0 n0 v1 v2 (iadd .i64 v3 (1 : Int)) r6.2.1
 else
 q0_0 v4
/-- slices.IndexFunc[[]euphroe/api.Attr,euphroe/api.Attr] -/
def p327v0 (d326v0 : D326v0) (N : Nat) (a0 : List (Int × (List Int))) (a1 : List Int) : Option R327v0 :=
  L327v0_0 d326v0 N (fun (y7 : List Int) =>
 some (((-1 : Int), ()), (y7, ()))) N a0 (((List.length a0) : Nat) : Int) (0 : Int) a1

/-- slices.ContainsFunc[[]euphroe/api.Attr,euphroe/api.Attr] -/
def p325v0 (d327v0 : D327v0) (N : Nat) (a0 : List (Int × (List Int))) (a1 : List Int) : Option R325v0 :=
  match d327v0 a0 a1 with
 | none => none
 | some r1 =>
 some (((decide (r1.1.1 ≥ (0 : Int))), ()), (r1.2.1, ()))

def L323_0 (c324 : D324) (d325v0 : D325v0) (c145 : D145) (N : Nat) (q0_1 : Option Int) : Nat → List (Int × (List Int)) → Int → Int → Option Int
  | 0, _, _, _ => none
  | n0 + 1, v3, v4, v5 =>
    bif (decide (v5 < v4)) then
 match geti v3 v5 with
 | none => none
 | some x6 =>
 match c145 (x6.1, x6.2) with
 | none => none
 | some r7 =>
 bif (r7 != (0 : Int)) then
 some r7
 else
 L323_0 c324 d325v0 c145 N q0_1 n0 v3 v4 (iadd .i64 v5 (1 : Int))
 else
 q0_1
/-- euphroe/packet.Check -/
def p323 (c324 : D324) (d325v0 : D325v0) (c145 : D145) (N : Nat) (a0 : Bool × Int × (List (Int × (List Int))) × (List Int)) : Option Int :=
  match c324 a0.2.1 with
 | none => none
 | some r1 =>
 bif (!a0.1) then
 some (0 : Int)
 else
 bif (decide (a0.2.1 < (1 : Int))) then
 some (9 : Int)
 else
 bif (decide (a0.2.1 > (9 : Int))) then
 some (9 : Int)
 else
 bif (decide ((((List.length a0.2.2.1) : Nat) : Int) < r1.2.1)) then
 some (1 : Int)
 else
 bif (decide ((((List.length a0.2.2.1) : Nat) : Int) > r1.2.2)) then
 some (1 : Int)
 else
 match d325v0 a0.2.2.1 ([r1.1] : List Int) with
 | none => none
 | some r2 =>
 bif r2.1.1 then
 some (1 : Int)
 else
 L323_0 c324 d325v0 c145 N (
 some (0 : Int)) N a0.2.2.1 (((List.length a0.2.2.1) : Nat) : Int) (0 : Int)

/-- euphroe/bind.only -/
def p318 (c323 : D323) (N : Nat) (a0 : Bool × Int × (List (Int × (List Int))) × (List Int)) (a1 : Int) : Option ((Int × (List Int)) × Int) :=
  match c323 (a0.1, (a0.2.1, (a0.2.2.1, a0.2.2.2))) with
 | none => none
 | some r1 =>
 bif (r1 != (0 : Int)) then
 some (((0 : Int), ([] : List Int)), r1)
 else
 bif (!a0.1) then
 some (((0 : Int), ([] : List Int)), (1 : Int))
 else
 bif (a0.2.1 != a1) then
 some (((0 : Int), ([] : List Int)), (1 : Int))
 else
 match geti a0.2.2.1 (0 : Int) with
 | none => none
 | some x2 =>
 some ((x2.1, x2.2), (0 : Int))

/-- euphroe/bind.binding -/
def p311 (c318 : D318) (c154 : D154) (N : Nat) (a0 : Bool × Int × (List (Int × (List Int))) × (List Int)) : Option ((List Int) × Int) :=
  match c318 (a0.1, (a0.2.1, (a0.2.2.1, a0.2.2.2))) (4 : Int) with
 | none => none
 | some r1 =>
 bif (r1.2 != (0 : Int)) then
 some ((zz 97), r1.2)
 else
 match c154 (r1.1.1, r1.1.2) with
 | none => none
 | some r2 =>
 bif ((List.length r2.1) == 97) then
 bif (decide ((0 + (List.length r2.1)) ≤ 97)) then
 bif (decide (97 ≤ (List.length (([] ++ r2.1) ++ (List.drop (0 + (List.length r2.1)) (zz 97)))))) then
 some ((List.take 97 (List.drop 0 (([] ++ r2.1) ++ (List.drop (0 + (List.length r2.1)) (zz 97))))), r2.2)
 else none
 else none
 else none

/-- euphroe/bind.Check -/
def p298 (c311 : D311) (c309 : D309) (c47 : D47) (N : Nat) (a0 : Bool × Int × (List (Int × (List Int))) × (List Int)) (a1 : List Int) (a2 : List Int) (a3 : List Int) : Option Int :=
  match c311 (a0.1, (a0.2.1, (a0.2.2.1, a0.2.2.2))) with
 | none => none
 | some r1 =>
 bif ((List.length r1.1) == 97) then
 bif (decide ((0 + (List.length r1.1)) ≤ 97)) then
 bif (decide (97 ≤ (List.length (([] ++ r1.1) ++ (List.drop (0 + (List.length r1.1)) (zz 97)))))) then
 bif (decide (32 ≤ (List.length a1))) then
 match c309 (List.take 97 (List.drop 0 (([] ++ r1.1) ++ (List.drop (0 + (List.length r1.1)) (zz 97))))) (List.take 32 (List.drop 0 a1)) with
 | none => none
 | some r2 =>
 bif ((List.length r2) == 32) then
 bif (decide ((0 + (List.length r2)) ≤ 32)) then
 bif (r1.2 != (0 : Int)) then
 some r1.2
 else
 match ((([] ++ r1.1) ++ (List.drop (0 + (List.length r1.1)) (zz 97))))[0]? with
 | none => none
 | some x3 =>
 bif (x3 != (2 : Int)) then
 some (1 : Int)
 else
 bif (decide (33 ≤ (List.length (([] ++ r1.1) ++ (List.drop (0 + (List.length r1.1)) (zz 97)))))) then
 bif (decide (32 ≤ (List.length a2))) then
 bif (((List.length (List.take 32 (List.drop 1 (([] ++ r1.1) ++ (List.drop (0 + (List.length r1.1)) (zz 97)))))) == 32) && ((List.length (List.take 32 (List.drop 0 a2))) == 32)) then
 bif (!((List.take 32 (List.drop 1 (([] ++ r1.1) ++ (List.drop (0 + (List.length r1.1)) (zz 97))))) == (List.take 32 (List.drop 0 a2)))) then
 some (10 : Int)
 else
 bif (decide (65 ≤ (List.length (([] ++ r1.1) ++ (List.drop (0 + (List.length r1.1)) (zz 97)))))) then
 bif (decide (32 ≤ (List.length a3))) then
 bif (((List.length (List.take 32 (List.drop 33 (([] ++ r1.1) ++ (List.drop (0 + (List.length r1.1)) (zz 97)))))) == 32) && ((List.length (List.take 32 (List.drop 0 a3))) == 32)) then
 bif (!((List.take 32 (List.drop 33 (([] ++ r1.1) ++ (List.drop (0 + (List.length r1.1)) (zz 97))))) == (List.take 32 (List.drop 0 a3)))) then
 some (14 : Int)
 else
 bif (decide (97 ≤ (List.length (([] ++ r1.1) ++ (List.drop (0 + (List.length r1.1)) (zz 97)))))) then
 bif (decide (32 ≤ (List.length (([] ++ r2) ++ (List.drop (0 + (List.length r2)) [(0 : Int), 0, 0, 0, 0, 0, 0, 0, 0, 0, 0, 0, 0, 0, 0, 0, 0, 0, 0, 0, 0, 0, 0, 0, 0, 0, 0, 0, 0, 0, 0, 0]))))) then
 bif (decide (97 ≤ (List.length (([] ++ r1.1) ++ (List.drop (0 + (List.length r1.1)) (zz 97)))))) then
 bif (decide (32 ≤ (List.length (([] ++ r2) ++ (List.drop (0 + (List.length r2)) [(0 : Int), 0, 0, 0, 0, 0, 0, 0, 0, 0, 0, 0, 0, 0, 0, 0, 0, 0, 0, 0, 0, 0, 0, 0, 0, 0, 0, 0, 0, 0, 0, 0]))))) then
 match c47 (List.take 32 (List.drop 65 (([] ++ r1.1) ++ (List.drop (0 + (List.length r1.1)) (zz 97))))) (List.take 32 (List.drop 0 (([] ++ r2) ++ (List.drop (0 + (List.length r2)) [(0 : Int), 0, 0, 0, 0, 0, 0, 0, 0, 0, 0, 0, 0, 0, 0, 0, 0, 0, 0, 0, 0, 0, 0, 0, 0, 0, 0, 0, 0, 0, 0, 0])))) with
 | none => none
 | some r4 =>
 bif (!r4) then
 some (14 : Int)
 else
 some (0 : Int)
 else none
 else none
 else none
 else none
 else none
 else none
 else none
 else none
 else none
 else none
 else none
 else none
 else none
 else none
 else none
 else none

/-- euphroe/bind.Ask -/
def p305 (c149 : D149) (c316 : D316) (N : Nat) (a0 : List Int) : Option (Bool × Int × (List (Int × (List Int))) × (List Int)) :=
  bif (decide (32 ≤ (List.length a0))) then
 bif ((List.length (List.take 32 (List.drop 0 a0))) == 32) then
 bif (decide ((1 + (List.length (List.take 32 (List.drop 0 a0)))) ≤ 33)) then
 match c149 (([(2 : Int)] ++ (List.take 32 (List.drop 0 a0))) ++ (List.drop (1 + (List.length (List.take 32 (List.drop 0 a0)))) [(2 : Int), 0, 0, 0, 0, 0, 0, 0, 0, 0, 0, 0, 0, 0, 0, 0, 0, 0, 0, 0, 0, 0, 0, 0, 0, 0, 0, 0, 0, 0, 0, 0, 0])) with
 | none => none
 | some r1 =>
 match c316 (2 : Int) ([(r1.1, r1.2)] : List (Int × (List Int))) with
 | none => none
 | some r2 =>
 some (r2.1, (r2.2.1, (r2.2.2.1, r2.2.2.2)))
 else none
 else none
 else none

/-- euphroe/bind.Asked -/
def p312 (c318 : D318) (c155 : D155) (N : Nat) (a0 : Bool × Int × (List (Int × (List Int))) × (List Int)) : Option ((List Int) × Int) :=
  match c318 (a0.1, (a0.2.1, (a0.2.2.1, a0.2.2.2))) (2 : Int) with
 | none => none
 | some r1 =>
 bif (r1.2 != (0 : Int)) then
 some (([(0 : Int), 0, 0, 0, 0, 0, 0, 0, 0, 0, 0, 0, 0, 0, 0, 0, 0, 0, 0, 0, 0, 0, 0, 0, 0, 0, 0, 0, 0, 0, 0, 0] : List Int), r1.2)
 else
 match c155 (r1.1.1, r1.1.2) with
 | none => none
 | some r2 =>
 bif ((List.length r2.1) == 33) then
 bif (decide ((0 + (List.length r2.1)) ≤ 33)) then
 bif (r2.2 != (0 : Int)) then
 some (([(0 : Int), 0, 0, 0, 0, 0, 0, 0, 0, 0, 0, 0, 0, 0, 0, 0, 0, 0, 0, 0, 0, 0, 0, 0, 0, 0, 0, 0, 0, 0, 0, 0] : List Int), r2.2)
 else
 match ((([] ++ r2.1) ++ (List.drop (0 + (List.length r2.1)) [(0 : Int), 0, 0, 0, 0, 0, 0, 0, 0, 0, 0, 0, 0, 0, 0, 0, 0, 0, 0, 0, 0, 0, 0, 0, 0, 0, 0, 0, 0, 0, 0, 0, 0])))[0]? with
 | none => none
 | some x3 =>
 bif ((iand .u8 x3 (2 : Int)) == (0 : Int)) then
 some (([(0 : Int), 0, 0, 0, 0, 0, 0, 0, 0, 0, 0, 0, 0, 0, 0, 0, 0, 0, 0, 0, 0, 0, 0, 0, 0, 0, 0, 0, 0, 0, 0, 0] : List Int), (1 : Int))
 else
 bif (decide (33 ≤ (List.length (([] ++ r2.1) ++ (List.drop (0 + (List.length r2.1)) [(0 : Int), 0, 0, 0, 0, 0, 0, 0, 0, 0, 0, 0, 0, 0, 0, 0, 0, 0, 0, 0, 0, 0, 0, 0, 0, 0, 0, 0, 0, 0, 0, 0, 0]))))) then
 bif ((List.length (List.take 32 (List.drop 1 (([] ++ r2.1) ++ (List.drop (0 + (List.length r2.1)) [(0 : Int), 0, 0, 0, 0, 0, 0, 0, 0, 0, 0, 0, 0, 0, 0, 0, 0, 0, 0, 0, 0, 0, 0, 0, 0, 0, 0, 0, 0, 0, 0, 0, 0]))))) == 32) then
 bif (decide ((0 + (List.length (List.take 32 (List.drop 1 (([] ++ r2.1) ++ (List.drop (0 + (List.length r2.1)) [(0 : Int), 0, 0, 0, 0, 0, 0, 0, 0, 0, 0, 0, 0, 0, 0, 0, 0, 0, 0, 0, 0, 0, 0, 0, 0, 0, 0, 0, 0, 0, 0, 0, 0])))))) ≤ 32)) then
 bif (decide (32 ≤ (List.length (([] ++ (List.take 32 (List.drop 1 (([] ++ r2.1) ++ (List.drop (0 + (List.length r2.1)) [(0 : Int), 0, 0, 0, 0, 0, 0, 0, 0, 0, 0, 0, 0, 0, 0, 0, 0, 0, 0, 0, 0, 0, 0, 0, 0, 0, 0, 0, 0, 0, 0, 0, 0]))))) ++ (List.drop (0 + (List.length (List.take 32 (List.drop 1 (([] ++ r2.1) ++ (List.drop (0 + (List.length r2.1)) [(0 : Int), 0, 0, 0, 0, 0, 0, 0, 0, 0, 0, 0, 0, 0, 0, 0, 0, 0, 0, 0, 0, 0, 0, 0, 0, 0, 0, 0, 0, 0, 0, 0, 0])))))) [(0 : Int), 0, 0, 0, 0, 0, 0, 0, 0, 0, 0, 0, 0, 0, 0, 0, 0, 0, 0, 0, 0, 0, 0, 0, 0, 0, 0, 0, 0, 0, 0, 0]))))) then
 some ((List.take 32 (List.drop 0 (([] ++ (List.take 32 (List.drop 1 (([] ++ r2.1) ++ (List.drop (0 + (List.length r2.1)) [(0 : Int), 0, 0, 0, 0, 0, 0, 0, 0, 0, 0, 0, 0, 0, 0, 0, 0, 0, 0, 0, 0, 0, 0, 0, 0, 0, 0, 0, 0, 0, 0, 0, 0]))))) ++ (List.drop (0 + (List.length (List.take 32 (List.drop 1 (([] ++ r2.1) ++ (List.drop (0 + (List.length r2.1)) [(0 : Int), 0, 0, 0, 0, 0, 0, 0, 0, 0, 0, 0, 0, 0, 0, 0, 0, 0, 0, 0, 0, 0, 0, 0, 0, 0, 0, 0, 0, 0, 0, 0, 0])))))) [(0 : Int), 0, 0, 0, 0, 0, 0, 0, 0, 0, 0, 0, 0, 0, 0, 0, 0, 0, 0, 0, 0, 0, 0, 0, 0, 0, 0, 0, 0, 0, 0, 0])))), (0 : Int))
 else none
 else none
 else none
 else none
 else none
 else none

/-- euphroe/euphroelaw34.alive -/
def p301 (c297 : D297) (c305 : D305) (c312 : D312) (c298 : D298) (N : Nat)  : Option Bool :=
  match c297 ([(1 : Int), 0, 0, 0, 0, 0, 0, 0, 0, 0, 0, 0, 0, 0, 0, 0, 0, 0, 0, 0, 0, 0, 0, 0, 0, 0, 0, 0, 0, 0, 0, 0] : List Int) ([(2 : Int), 0, 0, 0, 0, 0, 0, 0, 0, 0, 0, 0, 0, 0, 0, 0, 0, 0, 0, 0, 0, 0, 0, 0, 0, 0, 0, 0, 0, 0, 0, 0] : List Int) ([(3 : Int), 0, 0, 0, 0, 0, 0, 0, 0, 0, 0, 0, 0, 0, 0, 0, 0, 0, 0, 0, 0, 0, 0, 0, 0, 0, 0, 0, 0, 0, 0, 0] : List Int) with
 | none => none
 | some r1 =>
 match c305 ([(4 : Int), 0, 0, 0, 0, 0, 0, 0, 0, 0, 0, 0, 0, 0, 0, 0, 0, 0, 0, 0, 0, 0, 0, 0, 0, 0, 0, 0, 0, 0, 0, 0] : List Int) with
 | none => none
 | some r2 =>
 match c312 (r2.1, (r2.2.1, (r2.2.2.1, r2.2.2.2))) with
 | none => none
 | some r3 =>
 bif ((List.length r3.1) == 32) then
 bif (decide ((0 + (List.length r3.1)) ≤ 32)) then
 match c298 (r1.1, (r1.2.1, (r1.2.2.1, r1.2.2.2))) ([(1 : Int), 0, 0, 0, 0, 0, 0, 0, 0, 0, 0, 0, 0, 0, 0, 0, 0, 0, 0, 0, 0, 0, 0, 0, 0, 0, 0, 0, 0, 0, 0, 0] : List Int) ([(2 : Int), 0, 0, 0, 0, 0, 0, 0, 0, 0, 0, 0, 0, 0, 0, 0, 0, 0, 0, 0, 0, 0, 0, 0, 0, 0, 0, 0, 0, 0, 0, 0] : List Int) ([(3 : Int), 0, 0, 0, 0, 0, 0, 0, 0, 0, 0, 0, 0, 0, 0, 0, 0, 0, 0, 0, 0, 0, 0, 0, 0, 0, 0, 0, 0, 0, 0, 0] : List Int) with
 | none => none
 | some r4 =>
 bif (r4 == (0 : Int)) then
 match c298 (r1.1, (r1.2.1, (r1.2.2.1, r1.2.2.2))) ([(1 : Int), 0, 0, 0, 0, 0, 0, 0, 0, 0, 0, 0, 0, 0, 0, 0, 0, 0, 0, 0, 0, 0, 0, 0, 0, 0, 0, 0, 0, 0, 0, 0] : List Int) ([(5 : Int), 0, 0, 0, 0, 0, 0, 0, 0, 0, 0, 0, 0, 0, 0, 0, 0, 0, 0, 0, 0, 0, 0, 0, 0, 0, 0, 0, 0, 0, 0, 0] : List Int) ([(3 : Int), 0, 0, 0, 0, 0, 0, 0, 0, 0, 0, 0, 0, 0, 0, 0, 0, 0, 0, 0, 0, 0, 0, 0, 0, 0, 0, 0, 0, 0, 0, 0] : List Int) with
 | none => none
 | some r5 =>
 bif (r5 == (10 : Int)) then
 bif (decide (32 ≤ (List.length (([] ++ r3.1) ++ (List.drop (0 + (List.length r3.1)) [(0 : Int), 0, 0, 0, 0, 0, 0, 0, 0, 0, 0, 0, 0, 0, 0, 0, 0, 0, 0, 0, 0, 0, 0, 0, 0, 0, 0, 0, 0, 0, 0, 0]))))) then
 bif (((List.length (List.take 32 (List.drop 0 (([] ++ r3.1) ++ (List.drop (0 + (List.length r3.1)) [(0 : Int), 0, 0, 0, 0, 0, 0, 0, 0, 0, 0, 0, 0, 0, 0, 0, 0, 0, 0, 0, 0, 0, 0, 0, 0, 0, 0, 0, 0, 0, 0, 0]))))) == 32) && true) then
 bif ((List.take 32 (List.drop 0 (([] ++ r3.1) ++ (List.drop (0 + (List.length r3.1)) [(0 : Int), 0, 0, 0, 0, 0, 0, 0, 0, 0, 0, 0, 0, 0, 0, 0, 0, 0, 0, 0, 0, 0, 0, 0, 0, 0, 0, 0, 0, 0, 0, 0])))) == ([(4 : Int), 0, 0, 0, 0, 0, 0, 0, 0, 0, 0, 0, 0, 0, 0, 0, 0, 0, 0, 0, 0, 0, 0, 0, 0, 0, 0, 0, 0, 0, 0, 0] : List Int)) then
 bif (r3.2 == (0 : Int)) then
 some ((((List.length r1.2.2.1) : Nat) : Int) == (1 : Int))
 else
 some false
 else
 some false
 else none
 else none
 else
 some false
 else
 some false
 else none
 else none

/-- euphroe/euphroeref34.packet -/
def p314 (c151 : D151) (N : Nat) (a0 : Int) (a1 : List Int) (a2 : List Int) (a3 : List Int) : Option (Bool × Int × (List (Int × (List Int))) × (List Int)) :=
  bif (decide (32 ≤ (List.length a1))) then
 bif (decide (32 ≤ (List.length a2))) then
 bif (decide (32 ≤ (List.length a3))) then
 match c151 a0 (List.take 32 (List.drop 0 a1)) (List.take 32 (List.drop 0 a2)) (List.take 32 (List.drop 0 a3)) with
 | none => none
 | some r1 =>
 some (true, ((4 : Int), (([(r1.1, r1.2)] : List (Int × (List Int))), ([] : List Int))))
 else none
 else none
 else none

def L319_0 (c50 : D50) (c141 : D141) (N : Nat) (q0_0 : Nat → Int → List Int → Option ((List Int) × Int)) : Nat → Nat → Int → Int → Bool → Int → List (Int × (List Int)) → List Int → List Int → Option ((List Int) × Int)
  | 0, _, _, _, _, _, _, _, _ => none
  | n0 + 1, v3, v4, v5, v6, v7, v8, v9, v10 =>
    bif (decide (v5 < (((List.length v8) : Nat) : Int))) then
 match geti v8 v5 with
 | none => none
 | some x11 =>
 match c141 (x11.1, x11.2) with
 | none => none
 | some r12 =>
 bif (r12.2 != (0 : Int)) then
 some (([] : List Int), r12.2)
 else
 bif (((List.length v10) == (v3 * 1)) && ((decide (((v3 + (List.length r12.1)) * 1) ≤ 1099511627776)) && (decide ((v3 + (List.length r12.1)) ≤ 1099511627776)))) then
 L319_0 c50 c141 N q0_0 n0 (v3 + (List.length r12.1)) v4 (iadd .i64 v5 (1 : Int)) v6 v7 v8 v9 (v10 ++ r12.1)
 else none
 else
 q0_0 v3 v4 v10
/-- euphroe/euphroeref18.Lay -/
def p319 (c50 : D50) (c141 : D141) (N : Nat) (a0 : Bool × Int × (List (Int × (List Int))) × (List Int)) : Option ((List Int) × Int) :=
  bif a0.1 then
 bif (decide ((((List.length a0.2.2.1) : Nat) : Int) > (8 : Int))) then
 some (([] : List Int), (5 : Int))
 else
 match c50 (IntKind.wrap .u64 a0.2.1) (2 : Int) with
 | none => none
 | some r1 =>
 match c50 (IntKind.wrap .u64 (((List.length a0.2.2.1) : Nat) : Int)) (2 : Int) with
 | none => none
 | some r2 =>
 bif (decide ((0 + ((List.length r2) * 1)) ≤ (List.length r2))) then
 bif (((List.length r1) == ((List.length r1) * 1)) && ((decide ((((List.length r1) + (List.length r2)) * 1) ≤ 1099511627776)) && (decide (((List.length r1) + (List.length r2)) ≤ 1099511627776)))) then
 L319_0 c50 c141 N (fun (y13 : Nat) (y14 : Int) (y15 : List Int) =>
 bif (((y13 : Nat) : Int) == (0 : Int)) then
 some (([] : List Int), (4 : Int))
 else
 bif (decide ((iadd .i64 (4 : Int) ((y13 : Nat) : Int)) > (4095 : Int))) then
 some (([] : List Int), (8 : Int))
 else
 match c50 (IntKind.wrap .u64 (iadd .i64 (4 : Int) ((y13 : Nat) : Int))) (2 : Int) with
 | none => none
 | some r16 =>
 bif (decide ((0 + ((List.length r16) * 1)) ≤ (List.length r16))) then
 bif (decide (2 < (2 + (List.length r16)))) then
 bif ((decide (((2 + (List.length r16)) * 1) ≤ 1099511627776)) && (decide ((2 + (List.length r16)) ≤ 1099511627776))) then
 bif (decide ((0 + (y13 * 1)) ≤ (List.length y15))) then
 bif (((List.length ([(16 : Int), y14] ++ (List.take ((List.length r16) * 1) (List.drop 0 r16)))) == ((2 + (List.length r16)) * 1)) && ((decide ((((2 + (List.length r16)) + y13) * 1) ≤ 1099511627776)) && (decide (((2 + (List.length r16)) + y13) ≤ 1099511627776)))) then
 bif (decide ((0 + (((2 + (List.length r16)) + y13) * 1)) ≤ (List.length (([(16 : Int), y14] ++ (List.take ((List.length r16) * 1) (List.drop 0 r16))) ++ (List.take (y13 * 1) (List.drop 0 y15)))))) then
 some ((List.take ((2 + (List.length r16)) + y13) (List.drop 0 (([(16 : Int), y14] ++ (List.take ((List.length r16) * 1) (List.drop 0 r16))) ++ (List.take (y13 * 1) (List.drop 0 y15))))), (0 : Int))
 else none
 else none
 else none
 else none
 else
 bif (decide ((2 + (List.length (List.take ((List.length r16) * 1) (List.drop 0 r16)))) ≤ 2)) then
 bif (decide ((0 + (y13 * 1)) ≤ (List.length y15))) then
 bif (decide (2 < ((2 + (List.length r16)) + y13))) then
 bif ((decide ((((2 + (List.length r16)) + y13) * 1) ≤ 1099511627776)) && (decide (((2 + (List.length r16)) + y13) ≤ 1099511627776))) then
 bif (decide ((0 + ((2 + (List.length r16)) * 1)) ≤ (List.length (([(16 : Int), y14] ++ (List.take ((List.length r16) * 1) (List.drop 0 r16))) ++ (List.drop (2 + (List.length (List.take ((List.length r16) * 1) (List.drop 0 r16)))) [(16 : Int), y14]))))) then
 bif (decide ((0 + (((2 + (List.length r16)) + y13) * 1)) ≤ (List.length ((List.take ((2 + (List.length r16)) * 1) (List.drop 0 (([(16 : Int), y14] ++ (List.take ((List.length r16) * 1) (List.drop 0 r16))) ++ (List.drop (2 + (List.length (List.take ((List.length r16) * 1) (List.drop 0 r16)))) [(16 : Int), y14])))) ++ (List.take (y13 * 1) (List.drop 0 y15)))))) then
 some ((List.take ((2 + (List.length r16)) + y13) (List.drop 0 ((List.take ((2 + (List.length r16)) * 1) (List.drop 0 (([(16 : Int), y14] ++ (List.take ((List.length r16) * 1) (List.drop 0 r16))) ++ (List.drop (2 + (List.length (List.take ((List.length r16) * 1) (List.drop 0 r16)))) [(16 : Int), y14])))) ++ (List.take (y13 * 1) (List.drop 0 y15))))), (0 : Int))
 else none
 else none
 else none
 else
 bif (decide (((0 + ((2 + (List.length r16)) * 1)) + (List.length (List.take (y13 * 1) (List.drop 0 y15)))) ≤ (List.length (([(16 : Int), y14] ++ (List.take ((List.length r16) * 1) (List.drop 0 r16))) ++ (List.drop (2 + (List.length (List.take ((List.length r16) * 1) (List.drop 0 r16)))) [(16 : Int), y14]))))) then
 bif (decide ((0 + (((2 + (List.length r16)) + y13) * 1)) ≤ (List.length (((List.take (0 + ((2 + (List.length r16)) * 1)) (([(16 : Int), y14] ++ (List.take ((List.length r16) * 1) (List.drop 0 r16))) ++ (List.drop (2 + (List.length (List.take ((List.length r16) * 1) (List.drop 0 r16)))) [(16 : Int), y14]))) ++ (List.take (y13 * 1) (List.drop 0 y15))) ++ (List.drop ((0 + ((2 + (List.length r16)) * 1)) + (List.length (List.take (y13 * 1) (List.drop 0 y15)))) (([(16 : Int), y14] ++ (List.take ((List.length r16) * 1) (List.drop 0 r16))) ++ (List.drop (2 + (List.length (List.take ((List.length r16) * 1) (List.drop 0 r16)))) [(16 : Int), y14]))))))) then
 some ((List.take ((2 + (List.length r16)) + y13) (List.drop 0 (((List.take (0 + ((2 + (List.length r16)) * 1)) (([(16 : Int), y14] ++ (List.take ((List.length r16) * 1) (List.drop 0 r16))) ++ (List.drop (2 + (List.length (List.take ((List.length r16) * 1) (List.drop 0 r16)))) [(16 : Int), y14]))) ++ (List.take (y13 * 1) (List.drop 0 y15))) ++ (List.drop ((0 + ((2 + (List.length r16)) * 1)) + (List.length (List.take (y13 * 1) (List.drop 0 y15)))) (([(16 : Int), y14] ++ (List.take ((List.length r16) * 1) (List.drop 0 r16))) ++ (List.drop (2 + (List.length (List.take ((List.length r16) * 1) (List.drop 0 r16)))) [(16 : Int), y14])))))), (0 : Int))
 else none
 else none
 else none
 else none
 else none) N ((List.length r1) + (List.length r2)) (1 : Int) (0 : Int) a0.1 a0.2.1 a0.2.2.1 a0.2.2.2 (r1 ++ (List.take ((List.length r2) * 1) (List.drop 0 r2)))
 else none
 else none
 else
 bif ((((List.length a0.2.2.2) : Nat) : Int) == (0 : Int)) then
 some (([] : List Int), (4 : Int))
 else
 bif (decide ((iadd .i64 (4 : Int) (((List.length a0.2.2.2) : Nat) : Int)) > (4095 : Int))) then
 some (([] : List Int), (8 : Int))
 else
 match c50 (IntKind.wrap .u64 (iadd .i64 (4 : Int) (((List.length a0.2.2.2) : Nat) : Int))) (2 : Int) with
 | none => none
 | some r17 =>
 bif (decide ((0 + ((List.length r17) * 1)) ≤ (List.length r17))) then
 bif (decide (2 < (2 + (List.length r17)))) then
 bif ((decide (((2 + (List.length r17)) * 1) ≤ 1099511627776)) && (decide ((2 + (List.length r17)) ≤ 1099511627776))) then
 bif (((List.length ([(16 : Int), 0] ++ (List.take ((List.length r17) * 1) (List.drop 0 r17)))) == ((2 + (List.length r17)) * 1)) && ((decide ((((2 + (List.length r17)) + (List.length a0.2.2.2)) * 1) ≤ 1099511627776)) && (decide (((2 + (List.length r17)) + (List.length a0.2.2.2)) ≤ 1099511627776)))) then
 bif (decide ((0 + (((2 + (List.length r17)) + (List.length a0.2.2.2)) * 1)) ≤ (List.length (([(16 : Int), 0] ++ (List.take ((List.length r17) * 1) (List.drop 0 r17))) ++ a0.2.2.2)))) then
 some ((List.take ((2 + (List.length r17)) + (List.length a0.2.2.2)) (List.drop 0 (([(16 : Int), 0] ++ (List.take ((List.length r17) * 1) (List.drop 0 r17))) ++ a0.2.2.2))), (0 : Int))
 else none
 else none
 else none
 else
 bif (decide ((2 + (List.length (List.take ((List.length r17) * 1) (List.drop 0 r17)))) ≤ 2)) then
 bif (decide (2 < ((2 + (List.length r17)) + (List.length a0.2.2.2)))) then
 bif ((decide ((((2 + (List.length r17)) + (List.length a0.2.2.2)) * 1) ≤ 1099511627776)) && (decide (((2 + (List.length r17)) + (List.length a0.2.2.2)) ≤ 1099511627776))) then
 bif (decide ((0 + ((2 + (List.length r17)) * 1)) ≤ (List.length (([(16 : Int), 0] ++ (List.take ((List.length r17) * 1) (List.drop 0 r17))) ++ (List.drop (2 + (List.length (List.take ((List.length r17) * 1) (List.drop 0 r17)))) [(16 : Int), 0]))))) then
 bif (decide ((0 + (((2 + (List.length r17)) + (List.length a0.2.2.2)) * 1)) ≤ (List.length ((List.take ((2 + (List.length r17)) * 1) (List.drop 0 (([(16 : Int), 0] ++ (List.take ((List.length r17) * 1) (List.drop 0 r17))) ++ (List.drop (2 + (List.length (List.take ((List.length r17) * 1) (List.drop 0 r17)))) [(16 : Int), 0])))) ++ a0.2.2.2)))) then
 some ((List.take ((2 + (List.length r17)) + (List.length a0.2.2.2)) (List.drop 0 ((List.take ((2 + (List.length r17)) * 1) (List.drop 0 (([(16 : Int), 0] ++ (List.take ((List.length r17) * 1) (List.drop 0 r17))) ++ (List.drop (2 + (List.length (List.take ((List.length r17) * 1) (List.drop 0 r17)))) [(16 : Int), 0])))) ++ a0.2.2.2))), (0 : Int))
 else none
 else none
 else none
 else
 bif (decide (((0 + ((2 + (List.length r17)) * 1)) + (List.length a0.2.2.2)) ≤ (List.length (([(16 : Int), 0] ++ (List.take ((List.length r17) * 1) (List.drop 0 r17))) ++ (List.drop (2 + (List.length (List.take ((List.length r17) * 1) (List.drop 0 r17)))) [(16 : Int), 0]))))) then
 bif (decide ((0 + (((2 + (List.length r17)) + (List.length a0.2.2.2)) * 1)) ≤ (List.length (((List.take (0 + ((2 + (List.length r17)) * 1)) (([(16 : Int), 0] ++ (List.take ((List.length r17) * 1) (List.drop 0 r17))) ++ (List.drop (2 + (List.length (List.take ((List.length r17) * 1) (List.drop 0 r17)))) [(16 : Int), 0]))) ++ a0.2.2.2) ++ (List.drop ((0 + ((2 + (List.length r17)) * 1)) + (List.length a0.2.2.2)) (([(16 : Int), 0] ++ (List.take ((List.length r17) * 1) (List.drop 0 r17))) ++ (List.drop (2 + (List.length (List.take ((List.length r17) * 1) (List.drop 0 r17)))) [(16 : Int), 0]))))))) then
 some ((List.take ((2 + (List.length r17)) + (List.length a0.2.2.2)) (List.drop 0 (((List.take (0 + ((2 + (List.length r17)) * 1)) (([(16 : Int), 0] ++ (List.take ((List.length r17) * 1) (List.drop 0 r17))) ++ (List.drop (2 + (List.length (List.take ((List.length r17) * 1) (List.drop 0 r17)))) [(16 : Int), 0]))) ++ a0.2.2.2) ++ (List.drop ((0 + ((2 + (List.length r17)) * 1)) + (List.length a0.2.2.2)) (([(16 : Int), 0] ++ (List.take ((List.length r17) * 1) (List.drop 0 r17))) ++ (List.drop (2 + (List.length (List.take ((List.length r17) * 1) (List.drop 0 r17)))) [(16 : Int), 0])))))), (0 : Int))
 else none
 else none
 else none
 else none

/-- euphroe/euphroeref34.sealed -/
def p315 (c319 : D319) (c294 : D294) (c222 : D222) (N : Nat) (a0 : Bool × Int × (List (Int × (List Int))) × (List Int)) (a1 : List Int) : Option (List Int) :=
  match c319 (a0.1, (a0.2.1, (a0.2.2.1, a0.2.2.2))) with
 | none => none
 | some r1 =>
 bif (decide (32 ≤ (List.length a1))) then
 match c294 (List.take 32 (List.drop 0 a1)) with
 | none => none
 | some r2 =>
 bif ((List.length r2) == 32) then
 bif (decide ((0 + (List.length r2)) ≤ 32)) then
 bif (decide (32 ≤ (List.length (([] ++ r2) ++ (List.drop (0 + (List.length r2)) [(0 : Int), 0, 0, 0, 0, 0, 0, 0, 0, 0, 0, 0, 0, 0, 0, 0, 0, 0, 0, 0, 0, 0, 0, 0, 0, 0, 0, 0, 0, 0, 0, 0]))))) then
 bif (decide (32 ≤ (List.length (([] ++ r2) ++ (List.drop (0 + (List.length r2)) [(0 : Int), 0, 0, 0, 0, 0, 0, 0, 0, 0, 0, 0, 0, 0, 0, 0, 0, 0, 0, 0, 0, 0, 0, 0, 0, 0, 0, 0, 0, 0, 0, 0]))))) then
 match c222 (List.take 32 (List.drop 0 (([] ++ r2) ++ (List.drop (0 + (List.length r2)) [(0 : Int), 0, 0, 0, 0, 0, 0, 0, 0, 0, 0, 0, 0, 0, 0, 0, 0, 0, 0, 0, 0, 0, 0, 0, 0, 0, 0, 0, 0, 0, 0, 0])))) r1.1 with
 | none => none
 | some r3 =>
 bif ((List.length r3) == 32) then
 bif (decide ((0 + (List.length r3)) ≤ 32)) then
 bif (decide (32 ≤ (List.length (([] ++ r3) ++ (List.drop (0 + (List.length r3)) [(0 : Int), 0, 0, 0, 0, 0, 0, 0, 0, 0, 0, 0, 0, 0, 0, 0, 0, 0, 0, 0, 0, 0, 0, 0, 0, 0, 0, 0, 0, 0, 0, 0]))))) then
 some (List.take 32 (List.drop 0 (([] ++ r3) ++ (List.drop (0 + (List.length r3)) [(0 : Int), 0, 0, 0, 0, 0, 0, 0, 0, 0, 0, 0, 0, 0, 0, 0, 0, 0, 0, 0, 0, 0, 0, 0, 0, 0, 0, 0, 0, 0, 0, 0]))))
 else none
 else none
 else none
 else none
 else none
 else none
 else none
 else none

/-- euphroe/euphroeref34.Connected -/
def p304 (c314 : D314) (c315 : D315) (N : Nat) (a0 : List Int) (a1 : List Int) (a2 : List Int) : Option (Bool × Int × (List (Int × (List Int))) × (List Int)) :=
  bif (decide (32 ≤ (List.length a1))) then
 bif (decide (32 ≤ (List.length a2))) then
 bif (decide (32 ≤ (List.length a1))) then
 bif (decide (32 ≤ (List.length a2))) then
 match c314 (2 : Int) (List.take 32 (List.drop 0 a1)) (List.take 32 (List.drop 0 a2)) ([(0 : Int), 0, 0, 0, 0, 0, 0, 0, 0, 0, 0, 0, 0, 0, 0, 0, 0, 0, 0, 0, 0, 0, 0, 0, 0, 0, 0, 0, 0, 0, 0, 0] : List Int) with
 | none => none
 | some r1 =>
 bif (decide (32 ≤ (List.length a0))) then
 match c315 (r1.1, (r1.2.1, (r1.2.2.1, r1.2.2.2))) (List.take 32 (List.drop 0 a0)) with
 | none => none
 | some r2 =>
 match c314 (2 : Int) (List.take 32 (List.drop 0 a1)) (List.take 32 (List.drop 0 a2)) r2 with
 | none => none
 | some r3 =>
 some (r3.1, (r3.2.1, (r3.2.2.1, r3.2.2.2)))
 else none
 else none
 else none
 else none
 else none

def L303_0 (N : Nat) (q0_0 : Bool → Int → Bool → Int → Nat → List Int → List V → Option (Bool × Int × (List (Int × (List Int))) × (List Int))) : Nat → List (Int × (List Int)) → Int → Int → Bool → Int → Bool → Int → Nat → List Int → List V → Option (Bool × Int × (List (Int × (List Int))) × (List Int))
  | 0, _, _, _, _, _, _, _, _, _, _ => none
  | n0 + 1, v1, v2, v3, v4, v5, v6, v7, v8, v9, v10 =>
    bif (decide (v3 < v2)) then
 match geti v1 v3 with
 | none => none
 | some x11 =>
 bif (((List.length v10) == (v8 * 2)) && ((decide (((v8 + 1) * 32) ≤ 1099511627776)) && (decide ((v8 + 1) ≤ 1099511627776)))) then
 L303_0 N q0_0 n0 v1 v2 (iadd .i64 v3 (1 : Int)) v4 v5 v6 v7 (v8 + 1) v9 ((v10 ++ [(V.int .u8 x11.1), (V.tb (Sh.int .u8) x11.2)]) : List V)
 else none
 else
 q0_0 v4 v5 v6 v7 v8 v9 (v10 : List V)
/-- euphroe/euphroelaw34.theirs -/
def p303 (N : Nat) (a0 : Bool × Int × (List (Int × (List Int))) × (List Int)) : Option (Bool × Int × (List (Int × (List Int))) × (List Int)) :=
  L303_0 N (fun (y12 : Bool) (y13 : Int) (y14 : Bool) (y15 : Int) (y16 : Nat) (y17 : List Int) (y18 : List V) =>
 bif (decide ((0 + (y16 * 2)) ≤ (List.length y18))) then
 match rowsOf (Sh.pr (Sh.int .u8) (Sh.sl (Sh.int .u8))) y16 (List.take (y16 * 2) (List.drop 0 y18)) with
 | none => none
 | some x19 =>
 some (y14, (y15, (x19, y17)))
 else none) N a0.2.2.1 (((List.length a0.2.2.1) : Nat) : Int) (0 : Int) false (0 : Int) a0.1 a0.2.1 0 a0.2.2.2 ([] : List V)

def L313v0_0 (c144 : D144) (N : Nat) (q0_0 : Option R313v0) : Nat → List (Int × (List Int)) → List (Int × (List Int)) → Int → Int → Option R313v0
  | 0, _, _, _, _ => none
  | n0 + 1, v1, v2, v3, v4 =>
    bif (decide (v4 < v3)) then
 match geti v2 v4 with
 | none => none
 | some x5 =>
 match geti v1 v4 with
 | none => none
 | some x6 =>
 match c144 (x5.1, x5.2) (x6.1, x6.2) with
 | none => none
 | some r7 =>
 bif (!r7) then
 some ((false, ()), ())
 else
 L313v0_0 c144 N q0_0 n0 v1 v2 v3 (iadd .i64 v4 (1 : Int))
 else
 q0_0
/-- slices.EqualFunc[[]euphroe/api.Attr,[]euphroe/api.Attr,euphroe/api.Attr,euphroe/api.Attr] -/
def p313v0 (c144 : D144) (N : Nat) (a0 : List (Int × (List Int))) (a1 : List (Int × (List Int))) : Option R313v0 :=
  bif ((((List.length a0) : Nat) : Int) != (((List.length a1) : Nat) : Int)) then
 some ((false, ()), ())
 else
 L313v0_0 c144 N (
 some ((true, ()), ())) N a1 a0 (((List.length a0) : Nat) : Int) (0 : Int)

/-- euphroe/packet.Same -/
def p302 (d313v0 : D313v0) (c160 : D160) (N : Nat) (a0 : Bool × Int × (List (Int × (List Int))) × (List Int)) (a1 : Bool × Int × (List (Int × (List Int))) × (List Int)) : Option Bool :=
  bif (a0.1 == a1.1) then
 bif (a0.2.1 == a1.2.1) then
 match d313v0 a0.2.2.1 a1.2.2.1 with
 | none => none
 | some r1 =>
 bif r1.1.1 then
 match c160 a0.2.2.2 a1.2.2.2 with
 | none => none
 | some r2 =>
 some r2
 else
 some false
 else
 some false
 else
 some false

/-- euphroe/euphroeref34.Ask -/
def p306 (c152 : D152) (N : Nat) (a0 : List Int) : Option (Bool × Int × (List (Int × (List Int))) × (List Int)) :=
  bif (decide (32 ≤ (List.length a0))) then
 match c152 (2 : Int) (List.take 32 (List.drop 0 a0)) with
 | none => none
 | some r1 =>
 some (true, ((2 : Int), (([(r1.1, r1.2)] : List (Int × (List Int))), ([] : List Int))))
 else none

/-- euphroe/euphroelaw34.BindMakes -/
def p288 (c297 : D297) (c304 : D304) (c303 : D303) (c302 : D302) (c305 : D305) (c306 : D306) (c301 : D301) (N : Nat) (a0 : List Int) : Option Bool :=
  bif (decide (32 ≤ (List.length a0))) then
 bif (decide (64 ≤ (List.length a0))) then
 bif (decide (96 ≤ (List.length a0))) then
 match c297 (List.take 32 (List.drop 0 a0)) (List.take 32 (List.drop 32 a0)) (List.take 32 (List.drop 64 a0)) with
 | none => none
 | some r1 =>
 bif (decide (32 ≤ (List.length a0))) then
 bif (decide (64 ≤ (List.length a0))) then
 bif (decide (96 ≤ (List.length a0))) then
 match c304 (List.take 32 (List.drop 0 a0)) (List.take 32 (List.drop 32 a0)) (List.take 32 (List.drop 64 a0)) with
 | none => none
 | some r2 =>
 match c303 (r2.1, (r2.2.1, (r2.2.2.1, r2.2.2.2))) with
 | none => none
 | some r3 =>
 match c302 (r1.1, (r1.2.1, (r1.2.2.1, r1.2.2.2))) (r3.1, (r3.2.1, (r3.2.2.1, r3.2.2.2))) with
 | none => none
 | some r4 =>
 bif r4 then
 bif (decide (64 ≤ (List.length a0))) then
 match c305 (List.take 32 (List.drop 32 a0)) with
 | none => none
 | some r5 =>
 bif (decide (64 ≤ (List.length a0))) then
 match c306 (List.take 32 (List.drop 32 a0)) with
 | none => none
 | some r6 =>
 match c303 (r6.1, (r6.2.1, (r6.2.2.1, r6.2.2.2))) with
 | none => none
 | some r7 =>
 match c302 (r5.1, (r5.2.1, (r5.2.2.1, r5.2.2.2))) (r7.1, (r7.2.1, (r7.2.2.1, r7.2.2.2))) with
 | none => none
 | some r8 =>
 bif r8 then
 match c301 with
 | none => none
 | some r9 =>
 some r9
 else
 some false
 else none
 else none
 else
 some false
 else none
 else none
 else none
 else none
 else none
 else none
end Go.Proofs.YtciafmcbccgggaaE
