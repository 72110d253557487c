/- The functions as plain ones. -/
import Derived.Test.YtcnkihdjenjdgaaEvFK3
namespace Go.Proofs.YtcnkihdjenjdgaaE
open Go
set_option linter.unusedVariables false
set_option linter.unusedSimpArgs false
abbrev U33 (α : Type) : Type := Unit × (Unit × (Unit × (Unit × (Unit × (Unit × (Unit × (Unit × (Unit × (Unit × (Unit × (Unit × (Unit × (Unit × (Unit × (Unit × (Unit × (Unit × (Unit × (Unit × (Unit × (Unit × (Unit × (Unit × (Unit × (Unit × (Unit × (Unit × (Unit × (Unit × (Unit × (Unit × (Unit × (α)))))))))))))))))))))))))))))))))
abbrev u33 {α : Type} (x : α) : U33 α := ((), ((), ((), ((), ((), ((), ((), ((), ((), ((), ((), ((), ((), ((), ((), ((), ((), ((), ((), ((), ((), ((), ((), ((), ((), ((), ((), ((), ((), ((), ((), ((), ((), x)))))))))))))))))))))))))))))))))
abbrev t33 {α : Type} (x : U33 α) : α := x.2.2.2.2.2.2.2.2.2.2.2.2.2.2.2.2.2.2.2.2.2.2.2.2.2.2.2.2.2.2.2.2.2
def h33 (n : Int) (l : Pvs) : Pvs := (.cons .tru (.cons (.ik .u8 n) (.cons (.ik .u8 0) (.cons (.ik .u8 0) (.cons (.ik .u8 0) (.cons (.ik .u8 0) (.cons (.ik .u8 0) (.cons (.ik .u8 0) (.cons (.ik .u8 0) (.cons (.ik .u8 0) (.cons (.ik .u8 0) (.cons (.ik .u8 0) (.cons (.ik .u8 0) (.cons (.ik .u8 0) (.cons (.ik .u8 0) (.cons (.ik .u8 0) (.cons (.ik .u8 0) (.cons (.ik .u8 0) (.cons (.ik .u8 0) (.cons (.ik .u8 0) (.cons (.ik .u8 0) (.cons (.ik .u8 0) (.cons (.ik .u8 0) (.cons (.ik .u8 0) (.cons (.ik .u8 0) (.cons (.ik .u8 0) (.cons (.ik .u8 0) (.cons (.ik .u8 0) (.cons (.ik .u8 0) (.cons (.ik .u8 0) (.cons (.ik .u8 0) (.cons (.ik .u8 0) (.cons (.ik .u8 0) l)))))))))))))))))))))))))))))))))
abbrev D23 : Type := List Int → List Int → Option Bool
/-- euphroe/euphroeref01.Same -/
abbrev en23 (f : D23) : Ent := ⟨[(Sh.sl (Sh.int .u8)), (Sh.sl (Sh.int .u8))], Bool, fun v => f v.1 v.2.1, fun r => ((Sh.bool).enc r, [])⟩
abbrev D73 : Type := List (Int × Bool × Bool × Int × Int × Int × (List Int)) → Option Bool
/-- euphroe/euphroelaw38.ChansPlay -/
abbrev en73 (f : D73) : Ent := ⟨[(Sh.sl (Sh.pr (Sh.int .u8) (Sh.pr Sh.bool (Sh.pr Sh.bool (Sh.pr (Sh.int .i64) (Sh.pr (Sh.int .i64) (Sh.pr (Sh.int .i64) (Sh.sl (Sh.int .u8)))))))))], Bool, fun v => f v.1, fun r => ((Sh.bool).enc r, [])⟩
abbrev D84 : Type := Option Bool
/-- euphroe/euphroelaw38.alive -/
abbrev en84 (f : D84) : Ent := ⟨[], Bool, fun v => f, fun r => ((Sh.bool).enc r, [])⟩
abbrev D93 : Type := (List Int) × Int × Int × Int × (List Int) × Int × Int × Int × Bool → Int → List Int → Option (((List Int) × Int × Int × Int × (List Int) × Int × Int × Int × Bool) × Int)
/-- euphroe/euphroeref38.Put -/
abbrev en93 (f : D93) : Ent := ⟨[(Sh.st (Sh.pr (Sh.sl (Sh.int .u8)) (Sh.pr (Sh.int .i64) (Sh.pr (Sh.int .i64) (Sh.pr (Sh.int .i64) (Sh.pr (Sh.sl (Sh.int .u8)) (Sh.pr (Sh.int .i64) (Sh.pr (Sh.int .i64) (Sh.pr (Sh.int .i64) Sh.bool))))))))), (Sh.int .i64), (Sh.sl (Sh.int .u8))], ((List Int) × Int × Int × Int × (List Int) × Int × Int × Int × Bool) × Int, fun v => f v.1 v.2.1 v.2.2.1, fun r => (((Sh.tu (Sh.pr (Sh.st (Sh.pr (Sh.sl (Sh.int .u8)) (Sh.pr (Sh.int .i64) (Sh.pr (Sh.int .i64) (Sh.pr (Sh.int .i64) (Sh.pr (Sh.sl (Sh.int .u8)) (Sh.pr (Sh.int .i64) (Sh.pr (Sh.int .i64) (Sh.pr (Sh.int .i64) Sh.bool))))))))) (Sh.int .i64)))).enc r, [])⟩
abbrev D94 : Type := (List Int) × Int × Int × Int × (List Int) × Int × Int × Int × Bool → Int → Int → Option (((List Int) × Int × Int × Int × (List Int) × Int × Int × Int × Bool) × (List Int) × Int)
/-- euphroe/euphroeref38.Take -/
abbrev en94 (f : D94) : Ent := ⟨[(Sh.st (Sh.pr (Sh.sl (Sh.int .u8)) (Sh.pr (Sh.int .i64) (Sh.pr (Sh.int .i64) (Sh.pr (Sh.int .i64) (Sh.pr (Sh.sl (Sh.int .u8)) (Sh.pr (Sh.int .i64) (Sh.pr (Sh.int .i64) (Sh.pr (Sh.int .i64) Sh.bool))))))))), (Sh.int .i64), (Sh.int .i64)], ((List Int) × Int × Int × Int × (List Int) × Int × Int × Int × Bool) × (List Int) × Int, fun v => f v.1 v.2.1 v.2.2.1, fun r => (((Sh.tu (Sh.pr (Sh.st (Sh.pr (Sh.sl (Sh.int .u8)) (Sh.pr (Sh.int .i64) (Sh.pr (Sh.int .i64) (Sh.pr (Sh.int .i64) (Sh.pr (Sh.sl (Sh.int .u8)) (Sh.pr (Sh.int .i64) (Sh.pr (Sh.int .i64) (Sh.pr (Sh.int .i64) Sh.bool))))))))) (Sh.pr (Sh.sl (Sh.int .u8)) (Sh.int .i64))))).enc r, [])⟩
abbrev D95 : Type := (List Int) × Int × Int × Int × (List Int) × Int × Int × Int × Bool → Int → Int → Option (((List Int) × Int × Int × Int × (List Int) × Int × Int × Int × Bool) × Int × Int)
/-- euphroe/euphroeref38.Lose -/
abbrev en95 (f : D95) : Ent := ⟨[(Sh.st (Sh.pr (Sh.sl (Sh.int .u8)) (Sh.pr (Sh.int .i64) (Sh.pr (Sh.int .i64) (Sh.pr (Sh.int .i64) (Sh.pr (Sh.sl (Sh.int .u8)) (Sh.pr (Sh.int .i64) (Sh.pr (Sh.int .i64) (Sh.pr (Sh.int .i64) Sh.bool))))))))), (Sh.int .i64), (Sh.int .i64)], ((List Int) × Int × Int × Int × (List Int) × Int × Int × Int × Bool) × Int × Int, fun v => f v.1 v.2.1 v.2.2.1, fun r => (((Sh.tu (Sh.pr (Sh.st (Sh.pr (Sh.sl (Sh.int .u8)) (Sh.pr (Sh.int .i64) (Sh.pr (Sh.int .i64) (Sh.pr (Sh.int .i64) (Sh.pr (Sh.sl (Sh.int .u8)) (Sh.pr (Sh.int .i64) (Sh.pr (Sh.int .i64) (Sh.pr (Sh.int .i64) Sh.bool))))))))) (Sh.pr (Sh.int .i64) (Sh.int .i64))))).enc r, [])⟩
abbrev D108 : Type := List Int → Option (List Int)
/-- bytes.Clone -/
abbrev en108 (f : D108) : Ent := ⟨[(Sh.sl (Sh.int .u8))], List Int, fun v => f v.1, ownOut .u8⟩
abbrev D112 : Type := Int → Option Bool
/-- euphroe/euphroeref38.way -/
abbrev en112 (f : D112) : Ent := ⟨[(Sh.int .i64)], Bool, fun v => f v.1, fun r => ((Sh.bool).enc r, [])⟩
abbrev D113 : Type := (List Int) × Int × Int × Int × (List Int) × Int × Int × Int × Bool → Int → Int → Option (((List Int) × Int × Int × Int × (List Int) × Int × Int × Int × Bool) × (List Int))
/-- euphroe/euphroeref38.cut -/
abbrev en113 (f : D113) : Ent := ⟨[(Sh.st (Sh.pr (Sh.sl (Sh.int .u8)) (Sh.pr (Sh.int .i64) (Sh.pr (Sh.int .i64) (Sh.pr (Sh.int .i64) (Sh.pr (Sh.sl (Sh.int .u8)) (Sh.pr (Sh.int .i64) (Sh.pr (Sh.int .i64) (Sh.pr (Sh.int .i64) Sh.bool))))))))), (Sh.int .i64), (Sh.int .i64)], ((List Int) × Int × Int × Int × (List Int) × Int × Int × Int × Bool) × (List Int), fun v => f v.1 v.2.1 v.2.2.1, fun r => (((Sh.tu (Sh.pr (Sh.st (Sh.pr (Sh.sl (Sh.int .u8)) (Sh.pr (Sh.int .i64) (Sh.pr (Sh.int .i64) (Sh.pr (Sh.int .i64) (Sh.pr (Sh.sl (Sh.int .u8)) (Sh.pr (Sh.int .i64) (Sh.pr (Sh.int .i64) (Sh.pr (Sh.int .i64) Sh.bool))))))))) (Sh.sl (Sh.int .u8))))).enc r, [])⟩
abbrev R111v0 : Type := (Bool × Unit) × Unit
abbrev D111v0 : Type := Int → Option R111v0
def PR111v0 : Pr := ⟨(.cons (.int .i64) .nil), []⟩
def QR111v0 : Pr := ⟨(.cons .bool .nil), []⟩
/-- euphroe/chans.isWay -/
abbrev rn111v0 (f : D111v0) : REnt := ⟨PR111v0, QR111v0, R111v0, fun v => f v.1.1, fun r => r⟩
abbrev R86v6 : Type := (Int × Unit) × ((U33 ((List Int) × (Int × (Int × (Int × ((List Int) × (Int × (Int × (Int × (Bool × Unit)))))))))) × Unit)
abbrev D86v6 : Type := Int → List Int → List Int → Int → Int → Int → List Int → Int → Int → Int → Bool → Option R86v6
def PR86v6 : Pr := ⟨(.cons (.ptr 0 0) (.cons (.int .i64) (.cons (.tb (Sh.int .u8)) .nil))), [(.vals false (h33 7 (.cons (.tb (Sh.int .u8)) (.cons (.int .i64) (.cons (.int .i64) (.cons (.int .i64) (.cons (.tb (Sh.int .u8)) (.cons (.int .i64) (.cons (.int .i64) (.cons (.int .i64) (.cons .bool .nil)))))))))))]⟩
def QR86v6 : Pr := ⟨(.cons (.int .i64) .nil), [(.vals false (h33 7 (.cons (.tb (Sh.int .u8)) (.cons (.int .i64) (.cons (.int .i64) (.cons (.int .i64) (.cons (.tb (Sh.int .u8)) (.cons (.int .i64) (.cons (.int .i64) (.cons (.int .i64) (.cons .bool .nil)))))))))))]⟩
/-- (*euphroe/chans.Chan).Put -/
abbrev rn86v6 (f : D86v6) : REnt := ⟨PR86v6, QR86v6, R86v6, fun v => f v.1.2.1 v.1.2.2.1 (t33 v.2.1).1 (t33 v.2.1).2.1 (t33 v.2.1).2.2.1 (t33 v.2.1).2.2.2.1 (t33 v.2.1).2.2.2.2.1 (t33 v.2.1).2.2.2.2.2.1 (t33 v.2.1).2.2.2.2.2.2.1 (t33 v.2.1).2.2.2.2.2.2.2.1 (t33 v.2.1).2.2.2.2.2.2.2.2.1, fun r => r⟩
abbrev R88v5 : Type := (((List Int) × (Int × Unit)) × Unit) × ((U33 ((List Int) × (Int × (Int × (Int × ((List Int) × (Int × (Int × (Int × (Bool × Unit)))))))))) × Unit)
abbrev D88v5 : Type := Int → Int → List Int → Int → Int → Int → List Int → Int → Int → Int → Bool → Option R88v5
def PR88v5 : Pr := ⟨(.cons (.ptr 0 0) (.cons (.int .i64) (.cons (.int .i64) .nil))), [(.vals false (h33 7 (.cons (.tb (Sh.int .u8)) (.cons (.int .i64) (.cons (.int .i64) (.cons (.int .i64) (.cons (.tb (Sh.int .u8)) (.cons (.int .i64) (.cons (.int .i64) (.cons (.int .i64) (.cons .bool .nil)))))))))))]⟩
def QR88v5 : Pr := ⟨(.cons (.tp (.cons (.tb (Sh.int .u8)) (.cons (.int .i64) .nil))) .nil), [(.vals false (h33 7 (.cons (.tb (Sh.int .u8)) (.cons (.int .i64) (.cons (.int .i64) (.cons (.int .i64) (.cons (.tb (Sh.int .u8)) (.cons (.int .i64) (.cons (.int .i64) (.cons (.int .i64) (.cons .bool .nil)))))))))))]⟩
/-- (*euphroe/chans.Chan).Take -/
abbrev rn88v5 (f : D88v5) : REnt := ⟨PR88v5, QR88v5, R88v5, fun v => f v.1.2.1 v.1.2.2.1 (t33 v.2.1).1 (t33 v.2.1).2.1 (t33 v.2.1).2.2.1 (t33 v.2.1).2.2.2.1 (t33 v.2.1).2.2.2.2.1 (t33 v.2.1).2.2.2.2.2.1 (t33 v.2.1).2.2.2.2.2.2.1 (t33 v.2.1).2.2.2.2.2.2.2.1 (t33 v.2.1).2.2.2.2.2.2.2.2.1, fun r => r⟩
abbrev R99v2 : Type := ((List Int) × Unit) × ((U33 ((List Int) × (Int × (Int × (Int × ((List Int) × (Int × (Int × (Int × (Bool × Unit)))))))))) × Unit)
abbrev D99v2 : Type := List Int → Int → Int → Int → List Int → Int → Int → Int → Bool → Option R99v2
def PR99v2 : Pr := ⟨(.cons (.ptr 0 0) .nil), [(.vals false (h33 7 (.cons (.tb (Sh.int .u8)) (.cons (.int .i64) (.cons (.int .i64) (.cons (.int .i64) (.cons (.tb (Sh.int .u8)) (.cons (.int .i64) (.cons (.int .i64) (.cons (.int .i64) (.cons .bool .nil)))))))))))]⟩
def QR99v2 : Pr := ⟨(.cons (.ar .u8) .nil), [(.vals false (h33 7 (.cons (.tb (Sh.int .u8)) (.cons (.int .i64) (.cons (.int .i64) (.cons (.int .i64) (.cons (.tb (Sh.int .u8)) (.cons (.int .i64) (.cons (.int .i64) (.cons (.int .i64) (.cons .bool .nil)))))))))))]⟩
/-- (*euphroe/chans.Chan).Hash -/
abbrev rn99v2 (f : D99v2) : REnt := ⟨PR99v2, QR99v2, R99v2, fun v => f (t33 v.2.1).1 (t33 v.2.1).2.1 (t33 v.2.1).2.2.1 (t33 v.2.1).2.2.2.1 (t33 v.2.1).2.2.2.2.1 (t33 v.2.1).2.2.2.2.2.1 (t33 v.2.1).2.2.2.2.2.2.1 (t33 v.2.1).2.2.2.2.2.2.2.1 (t33 v.2.1).2.2.2.2.2.2.2.2.1, fun r => r⟩
abbrev R86v1 : Type := (Int × Unit) × ((U33 ((List Int) × (Int × (Int × (Int × ((List Int) × (Int × (Int × (Int × (Bool × Unit)))))))))) × Unit)
abbrev D86v1 : Type := Int → List Int → List Int → Int → Int → Int → List Int → Int → Int → Int → Bool → Option R86v1
def PR86v1 : Pr := ⟨(.cons (.ptr 0 0) (.cons (.int .i64) (.cons (.tb (Sh.int .u8)) .nil))), [(.vals false (h33 1 (.cons (.tb (Sh.int .u8)) (.cons (.int .i64) (.cons (.int .i64) (.cons (.int .i64) (.cons (.tb (Sh.int .u8)) (.cons (.int .i64) (.cons (.int .i64) (.cons (.int .i64) (.cons .bool .nil)))))))))))]⟩
def QR86v1 : Pr := ⟨(.cons (.int .i64) .nil), [(.vals false (h33 1 (.cons (.tb (Sh.int .u8)) (.cons (.int .i64) (.cons (.int .i64) (.cons (.int .i64) (.cons (.tb (Sh.int .u8)) (.cons (.int .i64) (.cons (.int .i64) (.cons (.int .i64) (.cons .bool .nil)))))))))))]⟩
/-- (*euphroe/chans.Chan).Put -/
abbrev rn86v1 (f : D86v1) : REnt := ⟨PR86v1, QR86v1, R86v1, fun v => f v.1.2.1 v.1.2.2.1 (t33 v.2.1).1 (t33 v.2.1).2.1 (t33 v.2.1).2.2.1 (t33 v.2.1).2.2.2.1 (t33 v.2.1).2.2.2.2.1 (t33 v.2.1).2.2.2.2.2.1 (t33 v.2.1).2.2.2.2.2.2.1 (t33 v.2.1).2.2.2.2.2.2.2.1 (t33 v.2.1).2.2.2.2.2.2.2.2.1, fun r => r⟩
abbrev R86v2 : Type := (Int × Unit) × ((U33 ((List Int) × (Int × (Int × (Int × ((List Int) × (Int × (Int × (Int × (Bool × Unit)))))))))) × Unit)
abbrev D86v2 : Type := Int → List Int → List Int → Int → Int → Int → List Int → Int → Int → Int → Bool → Option R86v2
def PR86v2 : Pr := ⟨(.cons (.ptr 0 0) (.cons (.int .i64) (.cons (.tb (Sh.int .u8)) .nil))), [(.vals false (h33 2 (.cons (.tb (Sh.int .u8)) (.cons (.int .i64) (.cons (.int .i64) (.cons (.int .i64) (.cons (.tb (Sh.int .u8)) (.cons (.int .i64) (.cons (.int .i64) (.cons (.int .i64) (.cons .bool .nil)))))))))))]⟩
def QR86v2 : Pr := ⟨(.cons (.int .i64) .nil), [(.vals false (h33 2 (.cons (.tb (Sh.int .u8)) (.cons (.int .i64) (.cons (.int .i64) (.cons (.int .i64) (.cons (.tb (Sh.int .u8)) (.cons (.int .i64) (.cons (.int .i64) (.cons (.int .i64) (.cons .bool .nil)))))))))))]⟩
/-- (*euphroe/chans.Chan).Put -/
abbrev rn86v2 (f : D86v2) : REnt := ⟨PR86v2, QR86v2, R86v2, fun v => f v.1.2.1 v.1.2.2.1 (t33 v.2.1).1 (t33 v.2.1).2.1 (t33 v.2.1).2.2.1 (t33 v.2.1).2.2.2.1 (t33 v.2.1).2.2.2.2.1 (t33 v.2.1).2.2.2.2.2.1 (t33 v.2.1).2.2.2.2.2.2.1 (t33 v.2.1).2.2.2.2.2.2.2.1 (t33 v.2.1).2.2.2.2.2.2.2.2.1, fun r => r⟩
abbrev R90v0 : Type := ((List Int) × Unit) × ((U33 ((List Int) × (Int × (Int × (Int × ((List Int) × (Int × (Int × (Int × (Bool × Unit)))))))))) × Unit)
abbrev D90v0 : Type := Int → List Int → Int → Int → Int → List Int → Int → Int → Int → Bool → Option R90v0
def PR90v0 : Pr := ⟨(.cons (.ptr 0 0) (.cons (.int .i64) .nil)), [(.vals false (h33 1 (.cons (.tb (Sh.int .u8)) (.cons (.int .i64) (.cons (.int .i64) (.cons (.int .i64) (.cons (.tb (Sh.int .u8)) (.cons (.int .i64) (.cons (.int .i64) (.cons (.int .i64) (.cons .bool .nil)))))))))))]⟩
def QR90v0 : Pr := ⟨(.cons (.tb (Sh.int .u8)) .nil), [(.vals false (h33 1 (.cons (.tb (Sh.int .u8)) (.cons (.int .i64) (.cons (.int .i64) (.cons (.int .i64) (.cons (.tb (Sh.int .u8)) (.cons (.int .i64) (.cons (.int .i64) (.cons (.int .i64) (.cons .bool .nil)))))))))))]⟩
/-- (*euphroe/chans.Chan).Peek -/
abbrev rn90v0 (f : D90v0) : REnt := ⟨PR90v0, QR90v0, R90v0, fun v => f v.1.2.1 (t33 v.2.1).1 (t33 v.2.1).2.1 (t33 v.2.1).2.2.1 (t33 v.2.1).2.2.2.1 (t33 v.2.1).2.2.2.2.1 (t33 v.2.1).2.2.2.2.2.1 (t33 v.2.1).2.2.2.2.2.2.1 (t33 v.2.1).2.2.2.2.2.2.2.1 (t33 v.2.1).2.2.2.2.2.2.2.2.1, fun r => r⟩
abbrev R91v0 : Type := (Int × Unit) × ((U33 ((List Int) × (Int × (Int × (Int × ((List Int) × (Int × (Int × (Int × (Bool × Unit)))))))))) × Unit)
abbrev D91v0 : Type := Int → List Int → Int → Int → Int → List Int → Int → Int → Int → Bool → Option R91v0
def PR91v0 : Pr := ⟨(.cons (.ptr 0 0) (.cons (.int .i64) .nil)), [(.vals false (h33 1 (.cons (.tb (Sh.int .u8)) (.cons (.int .i64) (.cons (.int .i64) (.cons (.int .i64) (.cons (.tb (Sh.int .u8)) (.cons (.int .i64) (.cons (.int .i64) (.cons (.int .i64) (.cons .bool .nil)))))))))))]⟩
def QR91v0 : Pr := ⟨(.cons (.int .i64) .nil), [(.vals false (h33 1 (.cons (.tb (Sh.int .u8)) (.cons (.int .i64) (.cons (.int .i64) (.cons (.int .i64) (.cons (.tb (Sh.int .u8)) (.cons (.int .i64) (.cons (.int .i64) (.cons (.int .i64) (.cons .bool .nil)))))))))))]⟩
/-- (*euphroe/chans.Chan).Len -/
abbrev rn91v0 (f : D91v0) : REnt := ⟨PR91v0, QR91v0, R91v0, fun v => f v.1.2.1 (t33 v.2.1).1 (t33 v.2.1).2.1 (t33 v.2.1).2.2.1 (t33 v.2.1).2.2.2.1 (t33 v.2.1).2.2.2.2.1 (t33 v.2.1).2.2.2.2.2.1 (t33 v.2.1).2.2.2.2.2.2.1 (t33 v.2.1).2.2.2.2.2.2.2.1 (t33 v.2.1).2.2.2.2.2.2.2.2.1, fun r => r⟩
abbrev R88v1 : Type := (((List Int) × (Int × Unit)) × Unit) × ((U33 ((List Int) × (Int × (Int × (Int × ((List Int) × (Int × (Int × (Int × (Bool × Unit)))))))))) × Unit)
abbrev D88v1 : Type := Int → Int → List Int → Int → Int → Int → List Int → Int → Int → Int → Bool → Option R88v1
def PR88v1 : Pr := ⟨(.cons (.ptr 0 0) (.cons (.int .i64) (.cons (.int .i64) .nil))), [(.vals false (h33 1 (.cons (.tb (Sh.int .u8)) (.cons (.int .i64) (.cons (.int .i64) (.cons (.int .i64) (.cons (.tb (Sh.int .u8)) (.cons (.int .i64) (.cons (.int .i64) (.cons (.int .i64) (.cons .bool .nil)))))))))))]⟩
def QR88v1 : Pr := ⟨(.cons (.tp (.cons (.tb (Sh.int .u8)) (.cons (.int .i64) .nil))) .nil), [(.vals false (h33 1 (.cons (.tb (Sh.int .u8)) (.cons (.int .i64) (.cons (.int .i64) (.cons (.int .i64) (.cons (.tb (Sh.int .u8)) (.cons (.int .i64) (.cons (.int .i64) (.cons (.int .i64) (.cons .bool .nil)))))))))))]⟩
/-- (*euphroe/chans.Chan).Take -/
abbrev rn88v1 (f : D88v1) : REnt := ⟨PR88v1, QR88v1, R88v1, fun v => f v.1.2.1 v.1.2.2.1 (t33 v.2.1).1 (t33 v.2.1).2.1 (t33 v.2.1).2.2.1 (t33 v.2.1).2.2.2.1 (t33 v.2.1).2.2.2.2.1 (t33 v.2.1).2.2.2.2.2.1 (t33 v.2.1).2.2.2.2.2.2.1 (t33 v.2.1).2.2.2.2.2.2.2.1 (t33 v.2.1).2.2.2.2.2.2.2.2.1, fun r => r⟩
abbrev R92v0 : Type := ((Int × (Int × Unit)) × Unit) × ((U33 ((List Int) × (Int × (Int × (Int × ((List Int) × (Int × (Int × (Int × (Bool × Unit)))))))))) × ((U33 ((List Int) × (Int × (Int × (Int × ((List Int) × (Int × (Int × (Int × (Bool × Unit)))))))))) × Unit))
abbrev D92v0 : Type := Int → Int → Int → List Int → Int → Int → Int → List Int → Int → Int → Int → Bool → List Int → Int → Int → Int → List Int → Int → Int → Int → Bool → Option R92v0
def PR92v0 : Pr := ⟨(.cons (.ptr 0 0) (.cons (.int .i64) (.cons (.ptr 1 0) (.cons (.int .i64) (.cons (.int .i64) .nil))))), [(.vals false (h33 1 (.cons (.tb (Sh.int .u8)) (.cons (.int .i64) (.cons (.int .i64) (.cons (.int .i64) (.cons (.tb (Sh.int .u8)) (.cons (.int .i64) (.cons (.int .i64) (.cons (.int .i64) (.cons .bool .nil))))))))))), (.vals false (h33 2 (.cons (.tb (Sh.int .u8)) (.cons (.int .i64) (.cons (.int .i64) (.cons (.int .i64) (.cons (.tb (Sh.int .u8)) (.cons (.int .i64) (.cons (.int .i64) (.cons (.int .i64) (.cons .bool .nil)))))))))))]⟩
def QR92v0 : Pr := ⟨(.cons (.tp (.cons (.int .i64) (.cons (.int .i64) .nil))) .nil), [(.vals false (h33 1 (.cons (.tb (Sh.int .u8)) (.cons (.int .i64) (.cons (.int .i64) (.cons (.int .i64) (.cons (.tb (Sh.int .u8)) (.cons (.int .i64) (.cons (.int .i64) (.cons (.int .i64) (.cons .bool .nil))))))))))), (.vals false (h33 2 (.cons (.tb (Sh.int .u8)) (.cons (.int .i64) (.cons (.int .i64) (.cons (.int .i64) (.cons (.tb (Sh.int .u8)) (.cons (.int .i64) (.cons (.int .i64) (.cons (.int .i64) (.cons .bool .nil)))))))))))]⟩
/-- euphroe/chans.Relay -/
abbrev rn92v0 (f : D92v0) : REnt := ⟨PR92v0, QR92v0, R92v0, fun v => f v.1.2.1 v.1.2.2.2.1 v.1.2.2.2.2.1 (t33 v.2.1).1 (t33 v.2.1).2.1 (t33 v.2.1).2.2.1 (t33 v.2.1).2.2.2.1 (t33 v.2.1).2.2.2.2.1 (t33 v.2.1).2.2.2.2.2.1 (t33 v.2.1).2.2.2.2.2.2.1 (t33 v.2.1).2.2.2.2.2.2.2.1 (t33 v.2.1).2.2.2.2.2.2.2.2.1 (t33 v.2.2.1).1 (t33 v.2.2.1).2.1 (t33 v.2.2.1).2.2.1 (t33 v.2.2.1).2.2.2.1 (t33 v.2.2.1).2.2.2.2.1 (t33 v.2.2.1).2.2.2.2.2.1 (t33 v.2.2.1).2.2.2.2.2.2.1 (t33 v.2.2.1).2.2.2.2.2.2.2.1 (t33 v.2.2.1).2.2.2.2.2.2.2.2.1, fun r => r⟩
abbrev R88v2 : Type := (((List Int) × (Int × Unit)) × Unit) × ((U33 ((List Int) × (Int × (Int × (Int × ((List Int) × (Int × (Int × (Int × (Bool × Unit)))))))))) × Unit)
abbrev D88v2 : Type := Int → Int → List Int → Int → Int → Int → List Int → Int → Int → Int → Bool → Option R88v2
def PR88v2 : Pr := ⟨(.cons (.ptr 0 0) (.cons (.int .i64) (.cons (.int .i64) .nil))), [(.vals false (h33 2 (.cons (.tb (Sh.int .u8)) (.cons (.int .i64) (.cons (.int .i64) (.cons (.int .i64) (.cons (.tb (Sh.int .u8)) (.cons (.int .i64) (.cons (.int .i64) (.cons (.int .i64) (.cons .bool .nil)))))))))))]⟩
def QR88v2 : Pr := ⟨(.cons (.tp (.cons (.tb (Sh.int .u8)) (.cons (.int .i64) .nil))) .nil), [(.vals false (h33 2 (.cons (.tb (Sh.int .u8)) (.cons (.int .i64) (.cons (.int .i64) (.cons (.int .i64) (.cons (.tb (Sh.int .u8)) (.cons (.int .i64) (.cons (.int .i64) (.cons (.int .i64) (.cons .bool .nil)))))))))))]⟩
/-- (*euphroe/chans.Chan).Take -/
abbrev rn88v2 (f : D88v2) : REnt := ⟨PR88v2, QR88v2, R88v2, fun v => f v.1.2.1 v.1.2.2.1 (t33 v.2.1).1 (t33 v.2.1).2.1 (t33 v.2.1).2.2.1 (t33 v.2.1).2.2.2.1 (t33 v.2.1).2.2.2.2.1 (t33 v.2.1).2.2.2.2.2.1 (t33 v.2.1).2.2.2.2.2.2.1 (t33 v.2.1).2.2.2.2.2.2.2.1 (t33 v.2.1).2.2.2.2.2.2.2.2.1, fun r => r⟩
abbrev R87v1 : Type := ((Int × (Int × Unit)) × Unit) × ((U33 ((List Int) × (Int × (Int × (Int × ((List Int) × (Int × (Int × (Int × (Bool × Unit)))))))))) × Unit)
abbrev D87v1 : Type := Int → Int → List Int → Int → Int → Int → List Int → Int → Int → Int → Bool → Option R87v1
def PR87v1 : Pr := ⟨(.cons (.ptr 0 0) (.cons (.int .i64) (.cons (.int .i64) .nil))), [(.vals false (h33 2 (.cons (.tb (Sh.int .u8)) (.cons (.int .i64) (.cons (.int .i64) (.cons (.int .i64) (.cons (.tb (Sh.int .u8)) (.cons (.int .i64) (.cons (.int .i64) (.cons (.int .i64) (.cons .bool .nil)))))))))))]⟩
def QR87v1 : Pr := ⟨(.cons (.tp (.cons (.int .i64) (.cons (.int .i64) .nil))) .nil), [(.vals false (h33 2 (.cons (.tb (Sh.int .u8)) (.cons (.int .i64) (.cons (.int .i64) (.cons (.int .i64) (.cons (.tb (Sh.int .u8)) (.cons (.int .i64) (.cons (.int .i64) (.cons (.int .i64) (.cons .bool .nil)))))))))))]⟩
/-- (*euphroe/chans.Chan).Lose -/
abbrev rn87v1 (f : D87v1) : REnt := ⟨PR87v1, QR87v1, R87v1, fun v => f v.1.2.1 v.1.2.2.1 (t33 v.2.1).1 (t33 v.2.1).2.1 (t33 v.2.1).2.2.1 (t33 v.2.1).2.2.2.1 (t33 v.2.1).2.2.2.2.1 (t33 v.2.1).2.2.2.2.2.1 (t33 v.2.1).2.2.2.2.2.2.1 (t33 v.2.1).2.2.2.2.2.2.2.1 (t33 v.2.1).2.2.2.2.2.2.2.2.1, fun r => r⟩
abbrev R90v1 : Type := ((List Int) × Unit) × ((U33 ((List Int) × (Int × (Int × (Int × ((List Int) × (Int × (Int × (Int × (Bool × Unit)))))))))) × Unit)
abbrev D90v1 : Type := Int → List Int → Int → Int → Int → List Int → Int → Int → Int → Bool → Option R90v1
def PR90v1 : Pr := ⟨(.cons (.ptr 0 0) (.cons (.int .i64) .nil)), [(.vals false (h33 2 (.cons (.tb (Sh.int .u8)) (.cons (.int .i64) (.cons (.int .i64) (.cons (.int .i64) (.cons (.tb (Sh.int .u8)) (.cons (.int .i64) (.cons (.int .i64) (.cons (.int .i64) (.cons .bool .nil)))))))))))]⟩
def QR90v1 : Pr := ⟨(.cons (.tb (Sh.int .u8)) .nil), [(.vals false (h33 2 (.cons (.tb (Sh.int .u8)) (.cons (.int .i64) (.cons (.int .i64) (.cons (.int .i64) (.cons (.tb (Sh.int .u8)) (.cons (.int .i64) (.cons (.int .i64) (.cons (.int .i64) (.cons .bool .nil)))))))))))]⟩
/-- (*euphroe/chans.Chan).Peek -/
abbrev rn90v1 (f : D90v1) : REnt := ⟨PR90v1, QR90v1, R90v1, fun v => f v.1.2.1 (t33 v.2.1).1 (t33 v.2.1).2.1 (t33 v.2.1).2.2.1 (t33 v.2.1).2.2.2.1 (t33 v.2.1).2.2.2.2.1 (t33 v.2.1).2.2.2.2.2.1 (t33 v.2.1).2.2.2.2.2.2.1 (t33 v.2.1).2.2.2.2.2.2.2.1 (t33 v.2.1).2.2.2.2.2.2.2.2.1, fun r => r⟩
abbrev R91v1 : Type := (Int × Unit) × ((U33 ((List Int) × (Int × (Int × (Int × ((List Int) × (Int × (Int × (Int × (Bool × Unit)))))))))) × Unit)
abbrev D91v1 : Type := Int → List Int → Int → Int → Int → List Int → Int → Int → Int → Bool → Option R91v1
def PR91v1 : Pr := ⟨(.cons (.ptr 0 0) (.cons (.int .i64) .nil)), [(.vals false (h33 2 (.cons (.tb (Sh.int .u8)) (.cons (.int .i64) (.cons (.int .i64) (.cons (.int .i64) (.cons (.tb (Sh.int .u8)) (.cons (.int .i64) (.cons (.int .i64) (.cons (.int .i64) (.cons .bool .nil)))))))))))]⟩
def QR91v1 : Pr := ⟨(.cons (.int .i64) .nil), [(.vals false (h33 2 (.cons (.tb (Sh.int .u8)) (.cons (.int .i64) (.cons (.int .i64) (.cons (.int .i64) (.cons (.tb (Sh.int .u8)) (.cons (.int .i64) (.cons (.int .i64) (.cons (.int .i64) (.cons .bool .nil)))))))))))]⟩
/-- (*euphroe/chans.Chan).Len -/
abbrev rn91v1 (f : D91v1) : REnt := ⟨PR91v1, QR91v1, R91v1, fun v => f v.1.2.1 (t33 v.2.1).1 (t33 v.2.1).2.1 (t33 v.2.1).2.2.1 (t33 v.2.1).2.2.2.1 (t33 v.2.1).2.2.2.2.1 (t33 v.2.1).2.2.2.2.2.1 (t33 v.2.1).2.2.2.2.2.2.1 (t33 v.2.1).2.2.2.2.2.2.2.1 (t33 v.2.1).2.2.2.2.2.2.2.2.1, fun r => r⟩
abbrev R92v1 : Type := ((Int × (Int × Unit)) × Unit) × ((U33 ((List Int) × (Int × (Int × (Int × ((List Int) × (Int × (Int × (Int × (Bool × Unit)))))))))) × Unit)
abbrev D92v1 : Type := Int → Int → Int → List Int → Int → Int → Int → List Int → Int → Int → Int → Bool → Option R92v1
def PR92v1 : Pr := ⟨(.cons (.ptr 0 0) (.cons (.int .i64) (.cons (.ptr 0 0) (.cons (.int .i64) (.cons (.int .i64) .nil))))), [(.vals false (h33 2 (.cons (.tb (Sh.int .u8)) (.cons (.int .i64) (.cons (.int .i64) (.cons (.int .i64) (.cons (.tb (Sh.int .u8)) (.cons (.int .i64) (.cons (.int .i64) (.cons (.int .i64) (.cons .bool .nil)))))))))))]⟩
def QR92v1 : Pr := ⟨(.cons (.tp (.cons (.int .i64) (.cons (.int .i64) .nil))) .nil), [(.vals false (h33 2 (.cons (.tb (Sh.int .u8)) (.cons (.int .i64) (.cons (.int .i64) (.cons (.int .i64) (.cons (.tb (Sh.int .u8)) (.cons (.int .i64) (.cons (.int .i64) (.cons (.int .i64) (.cons .bool .nil)))))))))))]⟩
/-- euphroe/chans.Relay -/
abbrev rn92v1 (f : D92v1) : REnt := ⟨PR92v1, QR92v1, R92v1, fun v => f v.1.2.1 v.1.2.2.2.1 v.1.2.2.2.2.1 (t33 v.2.1).1 (t33 v.2.1).2.1 (t33 v.2.1).2.2.1 (t33 v.2.1).2.2.2.1 (t33 v.2.1).2.2.2.2.1 (t33 v.2.1).2.2.2.2.2.1 (t33 v.2.1).2.2.2.2.2.2.1 (t33 v.2.1).2.2.2.2.2.2.2.1 (t33 v.2.1).2.2.2.2.2.2.2.2.1, fun r => r⟩
abbrev R97v0 : Type := (Unit × Unit) × ((U33 ((List Int) × (Int × (Int × (Int × ((List Int) × (Int × (Int × (Int × (Bool × Unit)))))))))) × Unit)
abbrev D97v0 : Type := List Int → Int → Int → Int → List Int → Int → Int → Int → Bool → Option R97v0
def PR97v0 : Pr := ⟨(.cons (.ptr 0 0) .nil), [(.vals false (h33 2 (.cons (.tb (Sh.int .u8)) (.cons (.int .i64) (.cons (.int .i64) (.cons (.int .i64) (.cons (.tb (Sh.int .u8)) (.cons (.int .i64) (.cons (.int .i64) (.cons (.int .i64) (.cons .bool .nil)))))))))))]⟩
def QR97v0 : Pr := ⟨(.cons .tup0 .nil), [(.vals false (h33 2 (.cons (.tb (Sh.int .u8)) (.cons (.int .i64) (.cons (.int .i64) (.cons (.int .i64) (.cons (.tb (Sh.int .u8)) (.cons (.int .i64) (.cons (.int .i64) (.cons (.int .i64) (.cons .bool .nil)))))))))))]⟩
/-- (*euphroe/chans.Chan).Shut -/
abbrev rn97v0 (f : D97v0) : REnt := ⟨PR97v0, QR97v0, R97v0, fun v => f (t33 v.2.1).1 (t33 v.2.1).2.1 (t33 v.2.1).2.2.1 (t33 v.2.1).2.2.2.1 (t33 v.2.1).2.2.2.2.1 (t33 v.2.1).2.2.2.2.2.1 (t33 v.2.1).2.2.2.2.2.2.1 (t33 v.2.1).2.2.2.2.2.2.2.1 (t33 v.2.1).2.2.2.2.2.2.2.2.1, fun r => r⟩
abbrev R92v2 : Type := ((Int × (Int × Unit)) × Unit) × ((U33 ((List Int) × (Int × (Int × (Int × ((List Int) × (Int × (Int × (Int × (Bool × Unit)))))))))) × ((U33 ((List Int) × (Int × (Int × (Int × ((List Int) × (Int × (Int × (Int × (Bool × Unit)))))))))) × Unit))
abbrev D92v2 : Type := Int → Int → Int → List Int → Int → Int → Int → List Int → Int → Int → Int → Bool → List Int → Int → Int → Int → List Int → Int → Int → Int → Bool → Option R92v2
def PR92v2 : Pr := ⟨(.cons (.ptr 0 0) (.cons (.int .i64) (.cons (.ptr 1 0) (.cons (.int .i64) (.cons (.int .i64) .nil))))), [(.vals false (h33 2 (.cons (.tb (Sh.int .u8)) (.cons (.int .i64) (.cons (.int .i64) (.cons (.int .i64) (.cons (.tb (Sh.int .u8)) (.cons (.int .i64) (.cons (.int .i64) (.cons (.int .i64) (.cons .bool .nil))))))))))), (.vals false (h33 1 (.cons (.tb (Sh.int .u8)) (.cons (.int .i64) (.cons (.int .i64) (.cons (.int .i64) (.cons (.tb (Sh.int .u8)) (.cons (.int .i64) (.cons (.int .i64) (.cons (.int .i64) (.cons .bool .nil)))))))))))]⟩
def QR92v2 : Pr := ⟨(.cons (.tp (.cons (.int .i64) (.cons (.int .i64) .nil))) .nil), [(.vals false (h33 2 (.cons (.tb (Sh.int .u8)) (.cons (.int .i64) (.cons (.int .i64) (.cons (.int .i64) (.cons (.tb (Sh.int .u8)) (.cons (.int .i64) (.cons (.int .i64) (.cons (.int .i64) (.cons .bool .nil))))))))))), (.vals false (h33 1 (.cons (.tb (Sh.int .u8)) (.cons (.int .i64) (.cons (.int .i64) (.cons (.int .i64) (.cons (.tb (Sh.int .u8)) (.cons (.int .i64) (.cons (.int .i64) (.cons (.int .i64) (.cons .bool .nil)))))))))))]⟩
/-- euphroe/chans.Relay -/
abbrev rn92v2 (f : D92v2) : REnt := ⟨PR92v2, QR92v2, R92v2, fun v => f v.1.2.1 v.1.2.2.2.1 v.1.2.2.2.2.1 (t33 v.2.1).1 (t33 v.2.1).2.1 (t33 v.2.1).2.2.1 (t33 v.2.1).2.2.2.1 (t33 v.2.1).2.2.2.2.1 (t33 v.2.1).2.2.2.2.2.1 (t33 v.2.1).2.2.2.2.2.2.1 (t33 v.2.1).2.2.2.2.2.2.2.1 (t33 v.2.1).2.2.2.2.2.2.2.2.1 (t33 v.2.2.1).1 (t33 v.2.2.1).2.1 (t33 v.2.2.1).2.2.1 (t33 v.2.2.1).2.2.2.1 (t33 v.2.2.1).2.2.2.2.1 (t33 v.2.2.1).2.2.2.2.2.1 (t33 v.2.2.1).2.2.2.2.2.2.1 (t33 v.2.2.1).2.2.2.2.2.2.2.1 (t33 v.2.2.1).2.2.2.2.2.2.2.2.1, fun r => r⟩
abbrev R87v2 : Type := ((Int × (Int × Unit)) × Unit) × ((U33 ((List Int) × (Int × (Int × (Int × ((List Int) × (Int × (Int × (Int × (Bool × Unit)))))))))) × Unit)
abbrev D87v2 : Type := Int → Int → List Int → Int → Int → Int → List Int → Int → Int → Int → Bool → Option R87v2
def PR87v2 : Pr := ⟨(.cons (.ptr 0 0) (.cons (.int .i64) (.cons (.int .i64) .nil))), [(.vals false (h33 1 (.cons (.tb (Sh.int .u8)) (.cons (.int .i64) (.cons (.int .i64) (.cons (.int .i64) (.cons (.tb (Sh.int .u8)) (.cons (.int .i64) (.cons (.int .i64) (.cons (.int .i64) (.cons .bool .nil)))))))))))]⟩
def QR87v2 : Pr := ⟨(.cons (.tp (.cons (.int .i64) (.cons (.int .i64) .nil))) .nil), [(.vals false (h33 1 (.cons (.tb (Sh.int .u8)) (.cons (.int .i64) (.cons (.int .i64) (.cons (.int .i64) (.cons (.tb (Sh.int .u8)) (.cons (.int .i64) (.cons (.int .i64) (.cons (.int .i64) (.cons .bool .nil)))))))))))]⟩
/-- (*euphroe/chans.Chan).Lose -/
abbrev rn87v2 (f : D87v2) : REnt := ⟨PR87v2, QR87v2, R87v2, fun v => f v.1.2.1 v.1.2.2.1 (t33 v.2.1).1 (t33 v.2.1).2.1 (t33 v.2.1).2.2.1 (t33 v.2.1).2.2.2.1 (t33 v.2.1).2.2.2.2.1 (t33 v.2.1).2.2.2.2.2.1 (t33 v.2.1).2.2.2.2.2.2.1 (t33 v.2.1).2.2.2.2.2.2.2.1 (t33 v.2.1).2.2.2.2.2.2.2.2.1, fun r => r⟩
abbrev R92v3 : Type := ((Int × (Int × Unit)) × Unit) × ((U33 ((List Int) × (Int × (Int × (Int × ((List Int) × (Int × (Int × (Int × (Bool × Unit)))))))))) × Unit)
abbrev D92v3 : Type := Int → Int → Int → List Int → Int → Int → Int → List Int → Int → Int → Int → Bool → Option R92v3
def PR92v3 : Pr := ⟨(.cons (.ptr 0 0) (.cons (.int .i64) (.cons (.ptr 0 0) (.cons (.int .i64) (.cons (.int .i64) .nil))))), [(.vals false (h33 1 (.cons (.tb (Sh.int .u8)) (.cons (.int .i64) (.cons (.int .i64) (.cons (.int .i64) (.cons (.tb (Sh.int .u8)) (.cons (.int .i64) (.cons (.int .i64) (.cons (.int .i64) (.cons .bool .nil)))))))))))]⟩
def QR92v3 : Pr := ⟨(.cons (.tp (.cons (.int .i64) (.cons (.int .i64) .nil))) .nil), [(.vals false (h33 1 (.cons (.tb (Sh.int .u8)) (.cons (.int .i64) (.cons (.int .i64) (.cons (.int .i64) (.cons (.tb (Sh.int .u8)) (.cons (.int .i64) (.cons (.int .i64) (.cons (.int .i64) (.cons .bool .nil)))))))))))]⟩
/-- euphroe/chans.Relay -/
abbrev rn92v3 (f : D92v3) : REnt := ⟨PR92v3, QR92v3, R92v3, fun v => f v.1.2.1 v.1.2.2.2.1 v.1.2.2.2.2.1 (t33 v.2.1).1 (t33 v.2.1).2.1 (t33 v.2.1).2.2.1 (t33 v.2.1).2.2.2.1 (t33 v.2.1).2.2.2.2.1 (t33 v.2.1).2.2.2.2.2.1 (t33 v.2.1).2.2.2.2.2.2.1 (t33 v.2.1).2.2.2.2.2.2.2.1 (t33 v.2.1).2.2.2.2.2.2.2.2.1, fun r => r⟩
abbrev R97v1 : Type := (Unit × Unit) × ((U33 ((List Int) × (Int × (Int × (Int × ((List Int) × (Int × (Int × (Int × (Bool × Unit)))))))))) × Unit)
abbrev D97v1 : Type := List Int → Int → Int → Int → List Int → Int → Int → Int → Bool → Option R97v1
def PR97v1 : Pr := ⟨(.cons (.ptr 0 0) .nil), [(.vals false (h33 1 (.cons (.tb (Sh.int .u8)) (.cons (.int .i64) (.cons (.int .i64) (.cons (.int .i64) (.cons (.tb (Sh.int .u8)) (.cons (.int .i64) (.cons (.int .i64) (.cons (.int .i64) (.cons .bool .nil)))))))))))]⟩
def QR97v1 : Pr := ⟨(.cons .tup0 .nil), [(.vals false (h33 1 (.cons (.tb (Sh.int .u8)) (.cons (.int .i64) (.cons (.int .i64) (.cons (.int .i64) (.cons (.tb (Sh.int .u8)) (.cons (.int .i64) (.cons (.int .i64) (.cons (.int .i64) (.cons .bool .nil)))))))))))]⟩
/-- (*euphroe/chans.Chan).Shut -/
abbrev rn97v1 (f : D97v1) : REnt := ⟨PR97v1, QR97v1, R97v1, fun v => f (t33 v.2.1).1 (t33 v.2.1).2.1 (t33 v.2.1).2.2.1 (t33 v.2.1).2.2.2.1 (t33 v.2.1).2.2.2.2.1 (t33 v.2.1).2.2.2.2.2.1 (t33 v.2.1).2.2.2.2.2.2.1 (t33 v.2.1).2.2.2.2.2.2.2.1 (t33 v.2.1).2.2.2.2.2.2.2.2.1, fun r => r⟩

def L23_0 (N : Nat) (q0_0 : Option Bool) : Nat → List Int → List Int → Int → Option Bool
  | 0, _, _, _ => none
  | n0 + 1, v1, v2, v3 =>
    bif (decide (v3 < (((List.length v1) : Nat) : Int))) then
 match geti v1 v3 with
 | none => none
 | some x4 =>
 match geti v2 v3 with
 | none => none
 | some x5 =>
 bif (x4 != x5) then
 some false
 else
 L23_0 N q0_0 n0 v1 v2 (iadd .i64 v3 (1 : Int))
 else
 q0_0
/-- euphroe/euphroeref01.Same -/
def p23 (N : Nat) (a0 : List Int) (a1 : List Int) : Option Bool :=
  bif ((((List.length a0) : Nat) : Int) != (((List.length a1) : Nat) : Int)) then
 some false
 else
 L23_0 N (
 some true) N a0 a1 (0 : Int)

/-- euphroe/chans.isWay -/
def p111v0 (N : Nat) (a0 : Int) : Option R111v0 :=
  bif (a0 == (0 : Int)) then
 some ((true, ()), ())
 else
 some (((a0 == (1 : Int)), ()), ())

/-- (*euphroe/chans.Chan).Put -/
def p86v6 (d111v0 : D111v0) (c108 : D108) (N : Nat) (a0 : Int) (a1 : List Int) (a2 : List Int) (a3 : Int) (a4 : Int) (a5 : Int) (a6 : List Int) (a7 : Int) (a8 : Int) (a9 : Int) (a10 : Bool) : Option R86v6 :=
  match d111v0 a0 with
 | none => none
 | some r1 =>
 bif (!r1.1.1) then
 some (((1 : Int), ()), ((u33 (a2, (a3, (a4, (a5, (a6, (a7, (a8, (a9, (a10, ())))))))))), ()))
 else
 bif a10 then
 some (((11 : Int), ()), ((u33 (a2, (a3, (a4, (a5, (a6, (a7, (a8, (a9, (a10, ())))))))))), ()))
 else
 bif ((decide ((0 : Int) ≤ a0)) && (decide (a0 < (2 : Int)))) then
 bif (Nat.beq (Int.toNat a0) 0) then
 bif (decide ((iadd .i64 (((List.length a2) : Nat) : Int) (((List.length a1) : Nat) : Int)) > (65536 : Int))) then
 some (((12 : Int), ()), ((u33 (a2, (a3, (a4, (a5, (a6, (a7, (a8, (a9, (a10, ())))))))))), ()))
 else
 bif ((decide ((0 : Int) ≤ a0)) && (decide (a0 < (2 : Int)))) then
 bif (Nat.beq (Int.toNat a0) 0) then
 match c108 a2 with
 | none => none
 | some r2 =>
 bif (((List.length r2) == ((List.length r2) * 1)) && ((decide ((((List.length r2) + (List.length a1)) * 1) ≤ 1099511627776)) && (decide (((List.length r2) + (List.length a1)) ≤ 1099511627776)))) then
 bif (decide ((0 + (((List.length r2) + (List.length a1)) * 1)) ≤ (List.length (r2 ++ a1)))) then
 some (((0 : Int), ()), ((u33 ((List.take ((List.length r2) + (List.length a1)) (List.drop 0 (r2 ++ a1))), ((iadd .i64 a3 (((List.length a1) : Nat) : Int)), (a4, (a5, (a6, (a7, (a8, (a9, (a10, ())))))))))), ()))
 else none
 else none
 else
 bif (Nat.beq (Int.toNat a0) 1) then
 match c108 a6 with
 | none => none
 | some r3 =>
 bif (((List.length r3) == ((List.length r3) * 1)) && ((decide ((((List.length r3) + (List.length a1)) * 1) ≤ 1099511627776)) && (decide (((List.length r3) + (List.length a1)) ≤ 1099511627776)))) then
 bif (decide ((0 + (((List.length r3) + (List.length a1)) * 1)) ≤ (List.length (r3 ++ a1)))) then
 some (((0 : Int), ()), ((u33 (a2, (a3, (a4, (a5, ((List.take ((List.length r3) + (List.length a1)) (List.drop 0 (r3 ++ a1))), ((iadd .i64 a7 (((List.length a1) : Nat) : Int)), (a8, (a9, (a10, ())))))))))), ()))
 else none
 else none
 else none
 else none
 else
 bif (Nat.beq (Int.toNat a0) 1) then
 bif (decide ((iadd .i64 (((List.length a6) : Nat) : Int) (((List.length a1) : Nat) : Int)) > (65536 : Int))) then
 some (((12 : Int), ()), ((u33 (a2, (a3, (a4, (a5, (a6, (a7, (a8, (a9, (a10, ())))))))))), ()))
 else
 bif ((decide ((0 : Int) ≤ a0)) && (decide (a0 < (2 : Int)))) then
 bif (Nat.beq (Int.toNat a0) 0) then
 match c108 a2 with
 | none => none
 | some r4 =>
 bif (((List.length r4) == ((List.length r4) * 1)) && ((decide ((((List.length r4) + (List.length a1)) * 1) ≤ 1099511627776)) && (decide (((List.length r4) + (List.length a1)) ≤ 1099511627776)))) then
 bif (decide ((0 + (((List.length r4) + (List.length a1)) * 1)) ≤ (List.length (r4 ++ a1)))) then
 some (((0 : Int), ()), ((u33 ((List.take ((List.length r4) + (List.length a1)) (List.drop 0 (r4 ++ a1))), ((iadd .i64 a3 (((List.length a1) : Nat) : Int)), (a4, (a5, (a6, (a7, (a8, (a9, (a10, ())))))))))), ()))
 else none
 else none
 else
 bif (Nat.beq (Int.toNat a0) 1) then
 match c108 a6 with
 | none => none
 | some r5 =>
 bif (((List.length r5) == ((List.length r5) * 1)) && ((decide ((((List.length r5) + (List.length a1)) * 1) ≤ 1099511627776)) && (decide (((List.length r5) + (List.length a1)) ≤ 1099511627776)))) then
 bif (decide ((0 + (((List.length r5) + (List.length a1)) * 1)) ≤ (List.length (r5 ++ a1)))) then
 some (((0 : Int), ()), ((u33 (a2, (a3, (a4, (a5, ((List.take ((List.length r5) + (List.length a1)) (List.drop 0 (r5 ++ a1))), ((iadd .i64 a7 (((List.length a1) : Nat) : Int)), (a8, (a9, (a10, ())))))))))), ()))
 else none
 else none
 else none
 else none
 else none
 else none

/-- (*euphroe/chans.Chan).Take -/
def p88v5 (d111v0 : D111v0) (c108 : D108) (N : Nat) (a0 : Int) (a1 : Int) (a2 : List Int) (a3 : Int) (a4 : Int) (a5 : Int) (a6 : List Int) (a7 : Int) (a8 : Int) (a9 : Int) (a10 : Bool) : Option R88v5 :=
  match d111v0 a0 with
 | none => none
 | some r1 =>
 bif (!r1.1.1) then
 some (((([] : List Int), ((1 : Int), ())), ()), ((u33 (a2, (a3, (a4, (a5, (a6, (a7, (a8, (a9, (a10, ())))))))))), ()))
 else
 bif (decide (a1 < (0 : Int))) then
 some (((([] : List Int), ((1 : Int), ())), ()), ((u33 (a2, (a3, (a4, (a5, (a6, (a7, (a8, (a9, (a10, ())))))))))), ()))
 else
 bif ((decide ((0 : Int) ≤ a0)) && (decide (a0 < (2 : Int)))) then
 bif (Nat.beq (Int.toNat a0) 0) then
 bif ((decide ((0 : Int) ≤ (if (((List.length a2) : Nat) : Int) < a1 then (((List.length a2) : Nat) : Int) else a1))) && (decide ((if (((List.length a2) : Nat) : Int) < a1 then (((List.length a2) : Nat) : Int) else a1) ≤ (((List.length a2) : Nat) : Int)))) then
 match c108 (List.take (Int.toNat (if (((List.length a2) : Nat) : Int) < a1 then (((List.length a2) : Nat) : Int) else a1)) a2) with
 | none => none
 | some r2 =>
 bif ((decide ((0 : Int) ≤ (if (((List.length a2) : Nat) : Int) < a1 then (((List.length a2) : Nat) : Int) else a1))) && (decide ((if (((List.length a2) : Nat) : Int) < a1 then (((List.length a2) : Nat) : Int) else a1) ≤ (((List.length a2) : Nat) : Int)))) then
 bif ((decide ((0 : Int) ≤ a0)) && (decide (a0 < (2 : Int)))) then
 bif (Nat.beq (Int.toNat a0) 0) then
 bif ((decide ((0 : Int) ≤ a0)) && (decide (a0 < (2 : Int)))) then
 bif (Nat.beq (Int.toNat a0) 0) then
 bif (decide ((0 + ((List.length r2) * 1)) ≤ (List.length r2))) then
 some ((((List.take (List.length r2) (List.drop 0 r2)), ((0 : Int), ())), ()), ((u33 ((List.drop (Int.toNat (if (((List.length a2) : Nat) : Int) < a1 then (((List.length a2) : Nat) : Int) else a1)) a2), (a3, ((iadd .i64 a4 (((List.length r2) : Nat) : Int)), (a5, (a6, (a7, (a8, (a9, (a10, ())))))))))), ()))
 else none
 else
 bif (Nat.beq (Int.toNat a0) 1) then
 bif (decide ((0 + ((List.length r2) * 1)) ≤ (List.length r2))) then
 some ((((List.take (List.length r2) (List.drop 0 r2)), ((0 : Int), ())), ()), ((u33 ((List.drop (Int.toNat (if (((List.length a2) : Nat) : Int) < a1 then (((List.length a2) : Nat) : Int) else a1)) a2), (a3, (a4, (a5, (a6, (a7, ((iadd .i64 a4 (((List.length r2) : Nat) : Int)), (a9, (a10, ())))))))))), ()))
 else none
 else none
 else none
 else
 bif (Nat.beq (Int.toNat a0) 1) then
 bif ((decide ((0 : Int) ≤ a0)) && (decide (a0 < (2 : Int)))) then
 bif (Nat.beq (Int.toNat a0) 0) then
 bif (decide ((0 + ((List.length r2) * 1)) ≤ (List.length r2))) then
 some ((((List.take (List.length r2) (List.drop 0 r2)), ((0 : Int), ())), ()), ((u33 ((List.drop (Int.toNat (if (((List.length a2) : Nat) : Int) < a1 then (((List.length a2) : Nat) : Int) else a1)) a2), (a3, ((iadd .i64 a8 (((List.length r2) : Nat) : Int)), (a5, (a6, (a7, (a8, (a9, (a10, ())))))))))), ()))
 else none
 else
 bif (Nat.beq (Int.toNat a0) 1) then
 bif (decide ((0 + ((List.length r2) * 1)) ≤ (List.length r2))) then
 some ((((List.take (List.length r2) (List.drop 0 r2)), ((0 : Int), ())), ()), ((u33 ((List.drop (Int.toNat (if (((List.length a2) : Nat) : Int) < a1 then (((List.length a2) : Nat) : Int) else a1)) a2), (a3, (a4, (a5, (a6, (a7, ((iadd .i64 a8 (((List.length r2) : Nat) : Int)), (a9, (a10, ())))))))))), ()))
 else none
 else none
 else none
 else none
 else none
 else none
 else none
 else
 bif (Nat.beq (Int.toNat a0) 1) then
 bif ((decide ((0 : Int) ≤ (if (((List.length a6) : Nat) : Int) < a1 then (((List.length a6) : Nat) : Int) else a1))) && (decide ((if (((List.length a6) : Nat) : Int) < a1 then (((List.length a6) : Nat) : Int) else a1) ≤ (((List.length a6) : Nat) : Int)))) then
 match c108 (List.take (Int.toNat (if (((List.length a6) : Nat) : Int) < a1 then (((List.length a6) : Nat) : Int) else a1)) a6) with
 | none => none
 | some r3 =>
 bif ((decide ((0 : Int) ≤ (if (((List.length a6) : Nat) : Int) < a1 then (((List.length a6) : Nat) : Int) else a1))) && (decide ((if (((List.length a6) : Nat) : Int) < a1 then (((List.length a6) : Nat) : Int) else a1) ≤ (((List.length a6) : Nat) : Int)))) then
 bif ((decide ((0 : Int) ≤ a0)) && (decide (a0 < (2 : Int)))) then
 bif (Nat.beq (Int.toNat a0) 0) then
 bif ((decide ((0 : Int) ≤ a0)) && (decide (a0 < (2 : Int)))) then
 bif (Nat.beq (Int.toNat a0) 0) then
 bif (decide ((0 + ((List.length r3) * 1)) ≤ (List.length r3))) then
 some ((((List.take (List.length r3) (List.drop 0 r3)), ((0 : Int), ())), ()), ((u33 (a2, (a3, ((iadd .i64 a4 (((List.length r3) : Nat) : Int)), (a5, ((List.drop (Int.toNat (if (((List.length a6) : Nat) : Int) < a1 then (((List.length a6) : Nat) : Int) else a1)) a6), (a7, (a8, (a9, (a10, ())))))))))), ()))
 else none
 else
 bif (Nat.beq (Int.toNat a0) 1) then
 bif (decide ((0 + ((List.length r3) * 1)) ≤ (List.length r3))) then
 some ((((List.take (List.length r3) (List.drop 0 r3)), ((0 : Int), ())), ()), ((u33 (a2, (a3, (a4, (a5, ((List.drop (Int.toNat (if (((List.length a6) : Nat) : Int) < a1 then (((List.length a6) : Nat) : Int) else a1)) a6), (a7, ((iadd .i64 a4 (((List.length r3) : Nat) : Int)), (a9, (a10, ())))))))))), ()))
 else none
 else none
 else none
 else
 bif (Nat.beq (Int.toNat a0) 1) then
 bif ((decide ((0 : Int) ≤ a0)) && (decide (a0 < (2 : Int)))) then
 bif (Nat.beq (Int.toNat a0) 0) then
 bif (decide ((0 + ((List.length r3) * 1)) ≤ (List.length r3))) then
 some ((((List.take (List.length r3) (List.drop 0 r3)), ((0 : Int), ())), ()), ((u33 (a2, (a3, ((iadd .i64 a8 (((List.length r3) : Nat) : Int)), (a5, ((List.drop (Int.toNat (if (((List.length a6) : Nat) : Int) < a1 then (((List.length a6) : Nat) : Int) else a1)) a6), (a7, (a8, (a9, (a10, ())))))))))), ()))
 else none
 else
 bif (Nat.beq (Int.toNat a0) 1) then
 bif (decide ((0 + ((List.length r3) * 1)) ≤ (List.length r3))) then
 some ((((List.take (List.length r3) (List.drop 0 r3)), ((0 : Int), ())), ()), ((u33 (a2, (a3, (a4, (a5, ((List.drop (Int.toNat (if (((List.length a6) : Nat) : Int) < a1 then (((List.length a6) : Nat) : Int) else a1)) a6), (a7, ((iadd .i64 a8 (((List.length r3) : Nat) : Int)), (a9, (a10, ())))))))))), ()))
 else none
 else none
 else none
 else none
 else none
 else none
 else none
 else none
 else none

/-- (*euphroe/chans.Chan).Hash -/
def p99v2 (N : Nat) (a0 : List Int) (a1 : Int) (a2 : Int) (a3 : Int) (a4 : List Int) (a5 : Int) (a6 : Int) (a7 : Int) (a8 : Bool) : Option R99v2 :=
  some ((([(7 : Int), 0, 0, 0, 0, 0, 0, 0, 0, 0, 0, 0, 0, 0, 0, 0, 0, 0, 0, 0, 0, 0, 0, 0, 0, 0, 0, 0, 0, 0, 0, 0] : List Int), ()), ((u33 (a0, (a1, (a2, (a3, (a4, (a5, (a6, (a7, (a8, ())))))))))), ()))

/-- euphroe/euphroelaw38.alive -/
def p84 (d86v6 : D86v6) (d88v5 : D88v5) (c108 : D108) (d99v2 : D99v2) (N : Nat)  : Option Bool :=
  match d86v6 (0 : Int) ([(97 : Int), (98 : Int), (99 : Int)] : List Int) ([] : List Int) (0 : Int) (0 : Int) (0 : Int) ([] : List Int) (0 : Int) (0 : Int) (0 : Int) false with
 | none => none
 | some r1 =>
 bif (r1.1.1 != (0 : Int)) then
 some false
 else
 match d88v5 (0 : Int) (2 : Int) (t33 r1.2.1).1 (t33 r1.2.1).2.1 (t33 r1.2.1).2.2.1 (t33 r1.2.1).2.2.2.1 (t33 r1.2.1).2.2.2.2.1 (t33 r1.2.1).2.2.2.2.2.1 (t33 r1.2.1).2.2.2.2.2.2.1 (t33 r1.2.1).2.2.2.2.2.2.2.1 (t33 r1.2.1).2.2.2.2.2.2.2.2.1 with
 | none => none
 | some r2 =>
 bif ((List.map (fun n : Int => UInt8.ofNat n.toNat) r2.1.1.1) == ([(97 : UInt8), (98 : UInt8)] : List UInt8)) then
 bif (r2.1.1.2.1 == (0 : Int)) then
 match c108 (t33 r2.2.1).1 with
 | none => none
 | some r3 =>
 bif (decide ((0 + ((List.length r3) * 1)) ≤ (List.length r3))) then
 bif ((((List.length (List.take (List.length r3) (List.drop 0 r3))) : Nat) : Int) == (1 : Int)) then
 match d99v2 (t33 r2.2.1).1 (t33 r2.2.1).2.1 (t33 r2.2.1).2.2.1 (t33 r2.2.1).2.2.2.1 (t33 r2.2.1).2.2.2.2.1 (t33 r2.2.1).2.2.2.2.2.1 (t33 r2.2.1).2.2.2.2.2.2.1 (t33 r2.2.1).2.2.2.2.2.2.2.1 (t33 r2.2.1).2.2.2.2.2.2.2.2.1 with
 | none => none
 | some r4 =>
 bif (((List.length r4.1.1) == 32) && true) then
 bif (r4.1.1 == ([(7 : Int), 0, 0, 0, 0, 0, 0, 0, 0, 0, 0, 0, 0, 0, 0, 0, 0, 0, 0, 0, 0, 0, 0, 0, 0, 0, 0, 0, 0, 0, 0, 0] : List Int)) then
 bif (!(t33 r4.2.1).2.2.2.2.2.2.2.2.1) then
 some true
 else
 some false
 else
 some false
 else none
 else
 some false
 else none
 else
 some false
 else
 some false

/-- (*euphroe/chans.Chan).Put -/
def p86v1 (d111v0 : D111v0) (c108 : D108) (N : Nat) (a0 : Int) (a1 : List Int) (a2 : List Int) (a3 : Int) (a4 : Int) (a5 : Int) (a6 : List Int) (a7 : Int) (a8 : Int) (a9 : Int) (a10 : Bool) : Option R86v1 :=
  match d111v0 a0 with
 | none => none
 | some r1 =>
 bif (!r1.1.1) then
 some (((1 : Int), ()), ((u33 (a2, (a3, (a4, (a5, (a6, (a7, (a8, (a9, (a10, ())))))))))), ()))
 else
 bif a10 then
 some (((11 : Int), ()), ((u33 (a2, (a3, (a4, (a5, (a6, (a7, (a8, (a9, (a10, ())))))))))), ()))
 else
 bif ((decide ((0 : Int) ≤ a0)) && (decide (a0 < (2 : Int)))) then
 bif (Nat.beq (Int.toNat a0) 0) then
 bif (decide ((iadd .i64 (((List.length a2) : Nat) : Int) (((List.length a1) : Nat) : Int)) > (65536 : Int))) then
 some (((12 : Int), ()), ((u33 (a2, (a3, (a4, (a5, (a6, (a7, (a8, (a9, (a10, ())))))))))), ()))
 else
 bif ((decide ((0 : Int) ≤ a0)) && (decide (a0 < (2 : Int)))) then
 bif (Nat.beq (Int.toNat a0) 0) then
 match c108 a2 with
 | none => none
 | some r2 =>
 bif (((List.length r2) == ((List.length r2) * 1)) && ((decide ((((List.length r2) + (List.length a1)) * 1) ≤ 1099511627776)) && (decide (((List.length r2) + (List.length a1)) ≤ 1099511627776)))) then
 bif (decide ((0 + (((List.length r2) + (List.length a1)) * 1)) ≤ (List.length (r2 ++ a1)))) then
 some (((0 : Int), ()), ((u33 ((List.take ((List.length r2) + (List.length a1)) (List.drop 0 (r2 ++ a1))), ((iadd .i64 a3 (((List.length a1) : Nat) : Int)), (a4, (a5, (a6, (a7, (a8, (a9, (a10, ())))))))))), ()))
 else none
 else none
 else
 bif (Nat.beq (Int.toNat a0) 1) then
 match c108 a6 with
 | none => none
 | some r3 =>
 bif (((List.length r3) == ((List.length r3) * 1)) && ((decide ((((List.length r3) + (List.length a1)) * 1) ≤ 1099511627776)) && (decide (((List.length r3) + (List.length a1)) ≤ 1099511627776)))) then
 bif (decide ((0 + (((List.length r3) + (List.length a1)) * 1)) ≤ (List.length (r3 ++ a1)))) then
 some (((0 : Int), ()), ((u33 (a2, (a3, (a4, (a5, ((List.take ((List.length r3) + (List.length a1)) (List.drop 0 (r3 ++ a1))), ((iadd .i64 a7 (((List.length a1) : Nat) : Int)), (a8, (a9, (a10, ())))))))))), ()))
 else none
 else none
 else none
 else none
 else
 bif (Nat.beq (Int.toNat a0) 1) then
 bif (decide ((iadd .i64 (((List.length a6) : Nat) : Int) (((List.length a1) : Nat) : Int)) > (65536 : Int))) then
 some (((12 : Int), ()), ((u33 (a2, (a3, (a4, (a5, (a6, (a7, (a8, (a9, (a10, ())))))))))), ()))
 else
 bif ((decide ((0 : Int) ≤ a0)) && (decide (a0 < (2 : Int)))) then
 bif (Nat.beq (Int.toNat a0) 0) then
 match c108 a2 with
 | none => none
 | some r4 =>
 bif (((List.length r4) == ((List.length r4) * 1)) && ((decide ((((List.length r4) + (List.length a1)) * 1) ≤ 1099511627776)) && (decide (((List.length r4) + (List.length a1)) ≤ 1099511627776)))) then
 bif (decide ((0 + (((List.length r4) + (List.length a1)) * 1)) ≤ (List.length (r4 ++ a1)))) then
 some (((0 : Int), ()), ((u33 ((List.take ((List.length r4) + (List.length a1)) (List.drop 0 (r4 ++ a1))), ((iadd .i64 a3 (((List.length a1) : Nat) : Int)), (a4, (a5, (a6, (a7, (a8, (a9, (a10, ())))))))))), ()))
 else none
 else none
 else
 bif (Nat.beq (Int.toNat a0) 1) then
 match c108 a6 with
 | none => none
 | some r5 =>
 bif (((List.length r5) == ((List.length r5) * 1)) && ((decide ((((List.length r5) + (List.length a1)) * 1) ≤ 1099511627776)) && (decide (((List.length r5) + (List.length a1)) ≤ 1099511627776)))) then
 bif (decide ((0 + (((List.length r5) + (List.length a1)) * 1)) ≤ (List.length (r5 ++ a1)))) then
 some (((0 : Int), ()), ((u33 (a2, (a3, (a4, (a5, ((List.take ((List.length r5) + (List.length a1)) (List.drop 0 (r5 ++ a1))), ((iadd .i64 a7 (((List.length a1) : Nat) : Int)), (a8, (a9, (a10, ())))))))))), ()))
 else none
 else none
 else none
 else none
 else none
 else none

/-- (*euphroe/chans.Chan).Put -/
def p86v2 (d111v0 : D111v0) (c108 : D108) (N : Nat) (a0 : Int) (a1 : List Int) (a2 : List Int) (a3 : Int) (a4 : Int) (a5 : Int) (a6 : List Int) (a7 : Int) (a8 : Int) (a9 : Int) (a10 : Bool) : Option R86v2 :=
  match d111v0 a0 with
 | none => none
 | some r1 =>
 bif (!r1.1.1) then
 some (((1 : Int), ()), ((u33 (a2, (a3, (a4, (a5, (a6, (a7, (a8, (a9, (a10, ())))))))))), ()))
 else
 bif a10 then
 some (((11 : Int), ()), ((u33 (a2, (a3, (a4, (a5, (a6, (a7, (a8, (a9, (a10, ())))))))))), ()))
 else
 bif ((decide ((0 : Int) ≤ a0)) && (decide (a0 < (2 : Int)))) then
 bif (Nat.beq (Int.toNat a0) 0) then
 bif (decide ((iadd .i64 (((List.length a2) : Nat) : Int) (((List.length a1) : Nat) : Int)) > (65536 : Int))) then
 some (((12 : Int), ()), ((u33 (a2, (a3, (a4, (a5, (a6, (a7, (a8, (a9, (a10, ())))))))))), ()))
 else
 bif ((decide ((0 : Int) ≤ a0)) && (decide (a0 < (2 : Int)))) then
 bif (Nat.beq (Int.toNat a0) 0) then
 match c108 a2 with
 | none => none
 | some r2 =>
 bif (((List.length r2) == ((List.length r2) * 1)) && ((decide ((((List.length r2) + (List.length a1)) * 1) ≤ 1099511627776)) && (decide (((List.length r2) + (List.length a1)) ≤ 1099511627776)))) then
 bif (decide ((0 + (((List.length r2) + (List.length a1)) * 1)) ≤ (List.length (r2 ++ a1)))) then
 some (((0 : Int), ()), ((u33 ((List.take ((List.length r2) + (List.length a1)) (List.drop 0 (r2 ++ a1))), ((iadd .i64 a3 (((List.length a1) : Nat) : Int)), (a4, (a5, (a6, (a7, (a8, (a9, (a10, ())))))))))), ()))
 else none
 else none
 else
 bif (Nat.beq (Int.toNat a0) 1) then
 match c108 a6 with
 | none => none
 | some r3 =>
 bif (((List.length r3) == ((List.length r3) * 1)) && ((decide ((((List.length r3) + (List.length a1)) * 1) ≤ 1099511627776)) && (decide (((List.length r3) + (List.length a1)) ≤ 1099511627776)))) then
 bif (decide ((0 + (((List.length r3) + (List.length a1)) * 1)) ≤ (List.length (r3 ++ a1)))) then
 some (((0 : Int), ()), ((u33 (a2, (a3, (a4, (a5, ((List.take ((List.length r3) + (List.length a1)) (List.drop 0 (r3 ++ a1))), ((iadd .i64 a7 (((List.length a1) : Nat) : Int)), (a8, (a9, (a10, ())))))))))), ()))
 else none
 else none
 else none
 else none
 else
 bif (Nat.beq (Int.toNat a0) 1) then
 bif (decide ((iadd .i64 (((List.length a6) : Nat) : Int) (((List.length a1) : Nat) : Int)) > (65536 : Int))) then
 some (((12 : Int), ()), ((u33 (a2, (a3, (a4, (a5, (a6, (a7, (a8, (a9, (a10, ())))))))))), ()))
 else
 bif ((decide ((0 : Int) ≤ a0)) && (decide (a0 < (2 : Int)))) then
 bif (Nat.beq (Int.toNat a0) 0) then
 match c108 a2 with
 | none => none
 | some r4 =>
 bif (((List.length r4) == ((List.length r4) * 1)) && ((decide ((((List.length r4) + (List.length a1)) * 1) ≤ 1099511627776)) && (decide (((List.length r4) + (List.length a1)) ≤ 1099511627776)))) then
 bif (decide ((0 + (((List.length r4) + (List.length a1)) * 1)) ≤ (List.length (r4 ++ a1)))) then
 some (((0 : Int), ()), ((u33 ((List.take ((List.length r4) + (List.length a1)) (List.drop 0 (r4 ++ a1))), ((iadd .i64 a3 (((List.length a1) : Nat) : Int)), (a4, (a5, (a6, (a7, (a8, (a9, (a10, ())))))))))), ()))
 else none
 else none
 else
 bif (Nat.beq (Int.toNat a0) 1) then
 match c108 a6 with
 | none => none
 | some r5 =>
 bif (((List.length r5) == ((List.length r5) * 1)) && ((decide ((((List.length r5) + (List.length a1)) * 1) ≤ 1099511627776)) && (decide (((List.length r5) + (List.length a1)) ≤ 1099511627776)))) then
 bif (decide ((0 + (((List.length r5) + (List.length a1)) * 1)) ≤ (List.length (r5 ++ a1)))) then
 some (((0 : Int), ()), ((u33 (a2, (a3, (a4, (a5, ((List.take ((List.length r5) + (List.length a1)) (List.drop 0 (r5 ++ a1))), ((iadd .i64 a7 (((List.length a1) : Nat) : Int)), (a8, (a9, (a10, ())))))))))), ()))
 else none
 else none
 else none
 else none
 else none
 else none

/-- (*euphroe/chans.Chan).Peek -/
def p90v0 (d111v0 : D111v0) (c108 : D108) (N : Nat) (a0 : Int) (a1 : List Int) (a2 : Int) (a3 : Int) (a4 : Int) (a5 : List Int) (a6 : Int) (a7 : Int) (a8 : Int) (a9 : Bool) : Option R90v0 :=
  match d111v0 a0 with
 | none => none
 | some r1 =>
 bif (!r1.1.1) then
 some ((([] : List Int), ()), ((u33 (a1, (a2, (a3, (a4, (a5, (a6, (a7, (a8, (a9, ())))))))))), ()))
 else
 bif ((decide ((0 : Int) ≤ a0)) && (decide (a0 < (2 : Int)))) then
 bif (Nat.beq (Int.toNat a0) 0) then
 match c108 a1 with
 | none => none
 | some r2 =>
 bif (decide ((0 + ((List.length r2) * 1)) ≤ (List.length r2))) then
 some (((List.take (List.length r2) (List.drop 0 r2)), ()), ((u33 (a1, (a2, (a3, (a4, (a5, (a6, (a7, (a8, (a9, ())))))))))), ()))
 else none
 else
 bif (Nat.beq (Int.toNat a0) 1) then
 match c108 a5 with
 | none => none
 | some r3 =>
 bif (decide ((0 + ((List.length r3) * 1)) ≤ (List.length r3))) then
 some (((List.take (List.length r3) (List.drop 0 r3)), ()), ((u33 (a1, (a2, (a3, (a4, (a5, (a6, (a7, (a8, (a9, ())))))))))), ()))
 else none
 else none
 else none

/-- (*euphroe/chans.Chan).Len -/
def p91v0 (d90v0 : D90v0) (N : Nat) (a0 : Int) (a1 : List Int) (a2 : Int) (a3 : Int) (a4 : Int) (a5 : List Int) (a6 : Int) (a7 : Int) (a8 : Int) (a9 : Bool) : Option R91v0 :=
  match d90v0 a0 a1 a2 a3 a4 a5 a6 a7 a8 a9 with
 | none => none
 | some r1 =>
 some (((((List.length r1.1.1) : Nat) : Int), ()), ((u33 ((t33 r1.2.1).1, ((t33 r1.2.1).2.1, ((t33 r1.2.1).2.2.1, ((t33 r1.2.1).2.2.2.1, ((t33 r1.2.1).2.2.2.2.1, ((t33 r1.2.1).2.2.2.2.2.1, ((t33 r1.2.1).2.2.2.2.2.2.1, ((t33 r1.2.1).2.2.2.2.2.2.2.1, ((t33 r1.2.1).2.2.2.2.2.2.2.2.1, ())))))))))), ()))

/-- (*euphroe/chans.Chan).Take -/
def p88v1 (d111v0 : D111v0) (c108 : D108) (N : Nat) (a0 : Int) (a1 : Int) (a2 : List Int) (a3 : Int) (a4 : Int) (a5 : Int) (a6 : List Int) (a7 : Int) (a8 : Int) (a9 : Int) (a10 : Bool) : Option R88v1 :=
  match d111v0 a0 with
 | none => none
 | some r1 =>
 bif (!r1.1.1) then
 some (((([] : List Int), ((1 : Int), ())), ()), ((u33 (a2, (a3, (a4, (a5, (a6, (a7, (a8, (a9, (a10, ())))))))))), ()))
 else
 bif (decide (a1 < (0 : Int))) then
 some (((([] : List Int), ((1 : Int), ())), ()), ((u33 (a2, (a3, (a4, (a5, (a6, (a7, (a8, (a9, (a10, ())))))))))), ()))
 else
 bif ((decide ((0 : Int) ≤ a0)) && (decide (a0 < (2 : Int)))) then
 bif (Nat.beq (Int.toNat a0) 0) then
 bif ((decide ((0 : Int) ≤ (if (((List.length a2) : Nat) : Int) < a1 then (((List.length a2) : Nat) : Int) else a1))) && (decide ((if (((List.length a2) : Nat) : Int) < a1 then (((List.length a2) : Nat) : Int) else a1) ≤ (((List.length a2) : Nat) : Int)))) then
 match c108 (List.take (Int.toNat (if (((List.length a2) : Nat) : Int) < a1 then (((List.length a2) : Nat) : Int) else a1)) a2) with
 | none => none
 | some r2 =>
 bif ((decide ((0 : Int) ≤ (if (((List.length a2) : Nat) : Int) < a1 then (((List.length a2) : Nat) : Int) else a1))) && (decide ((if (((List.length a2) : Nat) : Int) < a1 then (((List.length a2) : Nat) : Int) else a1) ≤ (((List.length a2) : Nat) : Int)))) then
 bif ((decide ((0 : Int) ≤ a0)) && (decide (a0 < (2 : Int)))) then
 bif (Nat.beq (Int.toNat a0) 0) then
 bif ((decide ((0 : Int) ≤ a0)) && (decide (a0 < (2 : Int)))) then
 bif (Nat.beq (Int.toNat a0) 0) then
 bif (decide ((0 + ((List.length r2) * 1)) ≤ (List.length r2))) then
 some ((((List.take (List.length r2) (List.drop 0 r2)), ((0 : Int), ())), ()), ((u33 ((List.drop (Int.toNat (if (((List.length a2) : Nat) : Int) < a1 then (((List.length a2) : Nat) : Int) else a1)) a2), (a3, ((iadd .i64 a4 (((List.length r2) : Nat) : Int)), (a5, (a6, (a7, (a8, (a9, (a10, ())))))))))), ()))
 else none
 else
 bif (Nat.beq (Int.toNat a0) 1) then
 bif (decide ((0 + ((List.length r2) * 1)) ≤ (List.length r2))) then
 some ((((List.take (List.length r2) (List.drop 0 r2)), ((0 : Int), ())), ()), ((u33 ((List.drop (Int.toNat (if (((List.length a2) : Nat) : Int) < a1 then (((List.length a2) : Nat) : Int) else a1)) a2), (a3, (a4, (a5, (a6, (a7, ((iadd .i64 a4 (((List.length r2) : Nat) : Int)), (a9, (a10, ())))))))))), ()))
 else none
 else none
 else none
 else
 bif (Nat.beq (Int.toNat a0) 1) then
 bif ((decide ((0 : Int) ≤ a0)) && (decide (a0 < (2 : Int)))) then
 bif (Nat.beq (Int.toNat a0) 0) then
 bif (decide ((0 + ((List.length r2) * 1)) ≤ (List.length r2))) then
 some ((((List.take (List.length r2) (List.drop 0 r2)), ((0 : Int), ())), ()), ((u33 ((List.drop (Int.toNat (if (((List.length a2) : Nat) : Int) < a1 then (((List.length a2) : Nat) : Int) else a1)) a2), (a3, ((iadd .i64 a8 (((List.length r2) : Nat) : Int)), (a5, (a6, (a7, (a8, (a9, (a10, ())))))))))), ()))
 else none
 else
 bif (Nat.beq (Int.toNat a0) 1) then
 bif (decide ((0 + ((List.length r2) * 1)) ≤ (List.length r2))) then
 some ((((List.take (List.length r2) (List.drop 0 r2)), ((0 : Int), ())), ()), ((u33 ((List.drop (Int.toNat (if (((List.length a2) : Nat) : Int) < a1 then (((List.length a2) : Nat) : Int) else a1)) a2), (a3, (a4, (a5, (a6, (a7, ((iadd .i64 a8 (((List.length r2) : Nat) : Int)), (a9, (a10, ())))))))))), ()))
 else none
 else none
 else none
 else none
 else none
 else none
 else none
 else
 bif (Nat.beq (Int.toNat a0) 1) then
 bif ((decide ((0 : Int) ≤ (if (((List.length a6) : Nat) : Int) < a1 then (((List.length a6) : Nat) : Int) else a1))) && (decide ((if (((List.length a6) : Nat) : Int) < a1 then (((List.length a6) : Nat) : Int) else a1) ≤ (((List.length a6) : Nat) : Int)))) then
 match c108 (List.take (Int.toNat (if (((List.length a6) : Nat) : Int) < a1 then (((List.length a6) : Nat) : Int) else a1)) a6) with
 | none => none
 | some r3 =>
 bif ((decide ((0 : Int) ≤ (if (((List.length a6) : Nat) : Int) < a1 then (((List.length a6) : Nat) : Int) else a1))) && (decide ((if (((List.length a6) : Nat) : Int) < a1 then (((List.length a6) : Nat) : Int) else a1) ≤ (((List.length a6) : Nat) : Int)))) then
 bif ((decide ((0 : Int) ≤ a0)) && (decide (a0 < (2 : Int)))) then
 bif (Nat.beq (Int.toNat a0) 0) then
 bif ((decide ((0 : Int) ≤ a0)) && (decide (a0 < (2 : Int)))) then
 bif (Nat.beq (Int.toNat a0) 0) then
 bif (decide ((0 + ((List.length r3) * 1)) ≤ (List.length r3))) then
 some ((((List.take (List.length r3) (List.drop 0 r3)), ((0 : Int), ())), ()), ((u33 (a2, (a3, ((iadd .i64 a4 (((List.length r3) : Nat) : Int)), (a5, ((List.drop (Int.toNat (if (((List.length a6) : Nat) : Int) < a1 then (((List.length a6) : Nat) : Int) else a1)) a6), (a7, (a8, (a9, (a10, ())))))))))), ()))
 else none
 else
 bif (Nat.beq (Int.toNat a0) 1) then
 bif (decide ((0 + ((List.length r3) * 1)) ≤ (List.length r3))) then
 some ((((List.take (List.length r3) (List.drop 0 r3)), ((0 : Int), ())), ()), ((u33 (a2, (a3, (a4, (a5, ((List.drop (Int.toNat (if (((List.length a6) : Nat) : Int) < a1 then (((List.length a6) : Nat) : Int) else a1)) a6), (a7, ((iadd .i64 a4 (((List.length r3) : Nat) : Int)), (a9, (a10, ())))))))))), ()))
 else none
 else none
 else none
 else
 bif (Nat.beq (Int.toNat a0) 1) then
 bif ((decide ((0 : Int) ≤ a0)) && (decide (a0 < (2 : Int)))) then
 bif (Nat.beq (Int.toNat a0) 0) then
 bif (decide ((0 + ((List.length r3) * 1)) ≤ (List.length r3))) then
 some ((((List.take (List.length r3) (List.drop 0 r3)), ((0 : Int), ())), ()), ((u33 (a2, (a3, ((iadd .i64 a8 (((List.length r3) : Nat) : Int)), (a5, ((List.drop (Int.toNat (if (((List.length a6) : Nat) : Int) < a1 then (((List.length a6) : Nat) : Int) else a1)) a6), (a7, (a8, (a9, (a10, ())))))))))), ()))
 else none
 else
 bif (Nat.beq (Int.toNat a0) 1) then
 bif (decide ((0 + ((List.length r3) * 1)) ≤ (List.length r3))) then
 some ((((List.take (List.length r3) (List.drop 0 r3)), ((0 : Int), ())), ()), ((u33 (a2, (a3, (a4, (a5, ((List.drop (Int.toNat (if (((List.length a6) : Nat) : Int) < a1 then (((List.length a6) : Nat) : Int) else a1)) a6), (a7, ((iadd .i64 a8 (((List.length r3) : Nat) : Int)), (a9, (a10, ())))))))))), ()))
 else none
 else none
 else none
 else none
 else none
 else none
 else none
 else none
 else none

/-- euphroe/chans.Relay -/
def p92v0 (d111v0 : D111v0) (d91v0 : D91v0) (d88v1 : D88v1) (d86v2 : D86v2) (N : Nat) (a0 : Int) (a1 : Int) (a2 : Int) (a3 : List Int) (a4 : Int) (a5 : Int) (a6 : Int) (a7 : List Int) (a8 : Int) (a9 : Int) (a10 : Int) (a11 : Bool) (a12 : List Int) (a13 : Int) (a14 : Int) (a15 : Int) (a16 : List Int) (a17 : Int) (a18 : Int) (a19 : Int) (a20 : Bool) : Option R92v0 :=
  match d111v0 a0 with
 | none => none
 | some r1 =>
 bif (!r1.1.1) then
 some ((((0 : Int), ((1 : Int), ())), ()), ((u33 (a3, (a4, (a5, (a6, (a7, (a8, (a9, (a10, (a11, ())))))))))), ((u33 (a12, (a13, (a14, (a15, (a16, (a17, (a18, (a19, (a20, ())))))))))), ())))
 else
 match d111v0 a1 with
 | none => none
 | some r2 =>
 bif (!r2.1.1) then
 some ((((0 : Int), ((1 : Int), ())), ()), ((u33 (a3, (a4, (a5, (a6, (a7, (a8, (a9, (a10, (a11, ())))))))))), ((u33 (a12, (a13, (a14, (a15, (a16, (a17, (a18, (a19, (a20, ())))))))))), ())))
 else
 bif (decide (a2 < (0 : Int))) then
 some ((((0 : Int), ((1 : Int), ())), ()), ((u33 (a3, (a4, (a5, (a6, (a7, (a8, (a9, (a10, (a11, ())))))))))), ((u33 (a12, (a13, (a14, (a15, (a16, (a17, (a18, (a19, (a20, ())))))))))), ())))
 else
 match d91v0 a0 a3 a4 a5 a6 a7 a8 a9 a10 a11 with
 | none => none
 | some r3 =>
 bif a20 then
 some ((((0 : Int), ((11 : Int), ())), ()), ((u33 ((t33 r3.2.1).1, ((t33 r3.2.1).2.1, ((t33 r3.2.1).2.2.1, ((t33 r3.2.1).2.2.2.1, ((t33 r3.2.1).2.2.2.2.1, ((t33 r3.2.1).2.2.2.2.2.1, ((t33 r3.2.1).2.2.2.2.2.2.1, ((t33 r3.2.1).2.2.2.2.2.2.2.1, ((t33 r3.2.1).2.2.2.2.2.2.2.2.1, ())))))))))), ((u33 (a12, (a13, (a14, (a15, (a16, (a17, (a18, (a19, (a20, ())))))))))), ())))
 else
 bif ((decide ((0 : Int) ≤ a1)) && (decide (a1 < (2 : Int)))) then
 bif (Nat.beq (Int.toNat a1) 0) then
 bif (decide ((iadd .i64 (((List.length a12) : Nat) : Int) (if r3.1.1 < a2 then r3.1.1 else a2)) > (65536 : Int))) then
 some ((((0 : Int), ((12 : Int), ())), ()), ((u33 ((t33 r3.2.1).1, ((t33 r3.2.1).2.1, ((t33 r3.2.1).2.2.1, ((t33 r3.2.1).2.2.2.1, ((t33 r3.2.1).2.2.2.2.1, ((t33 r3.2.1).2.2.2.2.2.1, ((t33 r3.2.1).2.2.2.2.2.2.1, ((t33 r3.2.1).2.2.2.2.2.2.2.1, ((t33 r3.2.1).2.2.2.2.2.2.2.2.1, ())))))))))), ((u33 (a12, (a13, (a14, (a15, (a16, (a17, (a18, (a19, (a20, ())))))))))), ())))
 else
 match d88v1 a0 a2 (t33 r3.2.1).1 (t33 r3.2.1).2.1 (t33 r3.2.1).2.2.1 (t33 r3.2.1).2.2.2.1 (t33 r3.2.1).2.2.2.2.1 (t33 r3.2.1).2.2.2.2.2.1 (t33 r3.2.1).2.2.2.2.2.2.1 (t33 r3.2.1).2.2.2.2.2.2.2.1 (t33 r3.2.1).2.2.2.2.2.2.2.2.1 with
 | none => none
 | some r4 =>
 bif (r4.1.1.2.1 != (0 : Int)) then
 some ((((0 : Int), (r4.1.1.2.1, ())), ()), ((u33 ((t33 r4.2.1).1, ((t33 r4.2.1).2.1, ((t33 r4.2.1).2.2.1, ((t33 r4.2.1).2.2.2.1, ((t33 r4.2.1).2.2.2.2.1, ((t33 r4.2.1).2.2.2.2.2.1, ((t33 r4.2.1).2.2.2.2.2.2.1, ((t33 r4.2.1).2.2.2.2.2.2.2.1, ((t33 r4.2.1).2.2.2.2.2.2.2.2.1, ())))))))))), ((u33 (a12, (a13, (a14, (a15, (a16, (a17, (a18, (a19, (a20, ())))))))))), ())))
 else
 match d86v2 a1 r4.1.1.1 a12 a13 a14 a15 a16 a17 a18 a19 a20 with
 | none => none
 | some r5 =>
 some ((((((List.length r4.1.1.1) : Nat) : Int), (r5.1.1, ())), ()), ((u33 ((t33 r4.2.1).1, ((t33 r4.2.1).2.1, ((t33 r4.2.1).2.2.1, ((t33 r4.2.1).2.2.2.1, ((t33 r4.2.1).2.2.2.2.1, ((t33 r4.2.1).2.2.2.2.2.1, ((t33 r4.2.1).2.2.2.2.2.2.1, ((t33 r4.2.1).2.2.2.2.2.2.2.1, ((t33 r4.2.1).2.2.2.2.2.2.2.2.1, ())))))))))), ((u33 ((t33 r5.2.1).1, ((t33 r5.2.1).2.1, ((t33 r5.2.1).2.2.1, ((t33 r5.2.1).2.2.2.1, ((t33 r5.2.1).2.2.2.2.1, ((t33 r5.2.1).2.2.2.2.2.1, ((t33 r5.2.1).2.2.2.2.2.2.1, ((t33 r5.2.1).2.2.2.2.2.2.2.1, ((t33 r5.2.1).2.2.2.2.2.2.2.2.1, ())))))))))), ())))
 else
 bif (Nat.beq (Int.toNat a1) 1) then
 bif (decide ((iadd .i64 (((List.length a16) : Nat) : Int) (if r3.1.1 < a2 then r3.1.1 else a2)) > (65536 : Int))) then
 some ((((0 : Int), ((12 : Int), ())), ()), ((u33 ((t33 r3.2.1).1, ((t33 r3.2.1).2.1, ((t33 r3.2.1).2.2.1, ((t33 r3.2.1).2.2.2.1, ((t33 r3.2.1).2.2.2.2.1, ((t33 r3.2.1).2.2.2.2.2.1, ((t33 r3.2.1).2.2.2.2.2.2.1, ((t33 r3.2.1).2.2.2.2.2.2.2.1, ((t33 r3.2.1).2.2.2.2.2.2.2.2.1, ())))))))))), ((u33 (a12, (a13, (a14, (a15, (a16, (a17, (a18, (a19, (a20, ())))))))))), ())))
 else
 match d88v1 a0 a2 (t33 r3.2.1).1 (t33 r3.2.1).2.1 (t33 r3.2.1).2.2.1 (t33 r3.2.1).2.2.2.1 (t33 r3.2.1).2.2.2.2.1 (t33 r3.2.1).2.2.2.2.2.1 (t33 r3.2.1).2.2.2.2.2.2.1 (t33 r3.2.1).2.2.2.2.2.2.2.1 (t33 r3.2.1).2.2.2.2.2.2.2.2.1 with
 | none => none
 | some r6 =>
 bif (r6.1.1.2.1 != (0 : Int)) then
 some ((((0 : Int), (r6.1.1.2.1, ())), ()), ((u33 ((t33 r6.2.1).1, ((t33 r6.2.1).2.1, ((t33 r6.2.1).2.2.1, ((t33 r6.2.1).2.2.2.1, ((t33 r6.2.1).2.2.2.2.1, ((t33 r6.2.1).2.2.2.2.2.1, ((t33 r6.2.1).2.2.2.2.2.2.1, ((t33 r6.2.1).2.2.2.2.2.2.2.1, ((t33 r6.2.1).2.2.2.2.2.2.2.2.1, ())))))))))), ((u33 (a12, (a13, (a14, (a15, (a16, (a17, (a18, (a19, (a20, ())))))))))), ())))
 else
 match d86v2 a1 r6.1.1.1 a12 a13 a14 a15 a16 a17 a18 a19 a20 with
 | none => none
 | some r7 =>
 some ((((((List.length r6.1.1.1) : Nat) : Int), (r7.1.1, ())), ()), ((u33 ((t33 r6.2.1).1, ((t33 r6.2.1).2.1, ((t33 r6.2.1).2.2.1, ((t33 r6.2.1).2.2.2.1, ((t33 r6.2.1).2.2.2.2.1, ((t33 r6.2.1).2.2.2.2.2.1, ((t33 r6.2.1).2.2.2.2.2.2.1, ((t33 r6.2.1).2.2.2.2.2.2.2.1, ((t33 r6.2.1).2.2.2.2.2.2.2.2.1, ())))))))))), ((u33 ((t33 r7.2.1).1, ((t33 r7.2.1).2.1, ((t33 r7.2.1).2.2.1, ((t33 r7.2.1).2.2.2.1, ((t33 r7.2.1).2.2.2.2.1, ((t33 r7.2.1).2.2.2.2.2.1, ((t33 r7.2.1).2.2.2.2.2.2.1, ((t33 r7.2.1).2.2.2.2.2.2.2.1, ((t33 r7.2.1).2.2.2.2.2.2.2.2.1, ())))))))))), ())))
 else none
 else none

/-- euphroe/euphroeref38.way -/
def p112 (N : Nat) (a0 : Int) : Option Bool :=
  bif (a0 == (0 : Int)) then
 some true
 else
 some (a0 == (1 : Int))

/-- euphroe/euphroeref38.Put -/
def p93 (c112 : D112) (N : Nat) (a0 : (List Int) × Int × Int × Int × (List Int) × Int × Int × Int × Bool) (a1 : Int) (a2 : List Int) : Option (((List Int) × Int × Int × Int × (List Int) × Int × Int × Int × Bool) × Int) :=
  match c112 a1 with
 | none => none
 | some r1 =>
 bif (!r1) then
 some ((a0.1, (a0.2.1, (a0.2.2.1, (a0.2.2.2.1, (a0.2.2.2.2.1, (a0.2.2.2.2.2.1, (a0.2.2.2.2.2.2.1, (a0.2.2.2.2.2.2.2.1, a0.2.2.2.2.2.2.2.2)))))))), (1 : Int))
 else
 bif a0.2.2.2.2.2.2.2.2 then
 some ((a0.1, (a0.2.1, (a0.2.2.1, (a0.2.2.2.1, (a0.2.2.2.2.1, (a0.2.2.2.2.2.1, (a0.2.2.2.2.2.2.1, (a0.2.2.2.2.2.2.2.1, a0.2.2.2.2.2.2.2.2)))))))), (11 : Int))
 else
 bif ((decide ((0 : Int) ≤ a1)) && (decide (a1 < (2 : Int)))) then
 bif (Nat.beq (Int.toNat a1) 0) then
 bif (decide ((iadd .i64 (((List.length a0.1) : Nat) : Int) (((List.length a2) : Nat) : Int)) > (65536 : Int))) then
 some ((a0.1, (a0.2.1, (a0.2.2.1, (a0.2.2.2.1, (a0.2.2.2.2.1, (a0.2.2.2.2.2.1, (a0.2.2.2.2.2.2.1, (a0.2.2.2.2.2.2.2.1, a0.2.2.2.2.2.2.2.2)))))))), (12 : Int))
 else
 bif ((decide ((0 : Int) ≤ a1)) && (decide (a1 < (2 : Int)))) then
 bif (Nat.beq (Int.toNat a1) 0) then
 bif ((decide (((List.length a0.1) * 1) ≤ 1099511627776)) && (decide ((List.length a0.1) ≤ 1099511627776))) then
 bif (((List.length a0.1) == ((List.length a0.1) * 1)) && ((decide ((((List.length a0.1) + (List.length a2)) * 1) ≤ 1099511627776)) && (decide (((List.length a0.1) + (List.length a2)) ≤ 1099511627776)))) then
 bif ((decide ((0 : Int) ≤ a1)) && (decide (a1 < (2 : Int)))) then
 bif (Nat.beq (Int.toNat a1) 0) then
 bif ((decide ((0 : Int) ≤ a1)) && (decide (a1 < (2 : Int)))) then
 bif (Nat.beq (Int.toNat a1) 0) then
 bif ((decide ((0 : Int) ≤ a1)) && (decide (a1 < (2 : Int)))) then
 bif (Nat.beq (Int.toNat a1) 0) then
 bif (decide ((0 + (((List.length a0.1) + (List.length a2)) * 1)) ≤ (List.length (a0.1 ++ a2)))) then
 some (((List.take ((List.length a0.1) + (List.length a2)) (List.drop 0 (a0.1 ++ a2))), ((iadd .i64 a0.2.1 (((List.length a2) : Nat) : Int)), (a0.2.2.1, (a0.2.2.2.1, (a0.2.2.2.2.1, (a0.2.2.2.2.2.1, (a0.2.2.2.2.2.2.1, (a0.2.2.2.2.2.2.2.1, a0.2.2.2.2.2.2.2.2)))))))), (0 : Int))
 else none
 else
 bif (Nat.beq (Int.toNat a1) 1) then
 bif (decide ((0 + (((List.length a0.1) + (List.length a2)) * 1)) ≤ (List.length (a0.1 ++ a2)))) then
 some (((List.take ((List.length a0.1) + (List.length a2)) (List.drop 0 (a0.1 ++ a2))), (a0.2.1, (a0.2.2.1, (a0.2.2.2.1, (a0.2.2.2.2.1, ((iadd .i64 a0.2.1 (((List.length a2) : Nat) : Int)), (a0.2.2.2.2.2.2.1, (a0.2.2.2.2.2.2.2.1, a0.2.2.2.2.2.2.2.2)))))))), (0 : Int))
 else none
 else none
 else none
 else
 bif (Nat.beq (Int.toNat a1) 1) then
 bif ((decide ((0 : Int) ≤ a1)) && (decide (a1 < (2 : Int)))) then
 bif (Nat.beq (Int.toNat a1) 0) then
 bif (decide ((0 + (((List.length a0.1) + (List.length a2)) * 1)) ≤ (List.length (a0.1 ++ a2)))) then
 some (((List.take ((List.length a0.1) + (List.length a2)) (List.drop 0 (a0.1 ++ a2))), ((iadd .i64 a0.2.2.2.2.2.1 (((List.length a2) : Nat) : Int)), (a0.2.2.1, (a0.2.2.2.1, (a0.2.2.2.2.1, (a0.2.2.2.2.2.1, (a0.2.2.2.2.2.2.1, (a0.2.2.2.2.2.2.2.1, a0.2.2.2.2.2.2.2.2)))))))), (0 : Int))
 else none
 else
 bif (Nat.beq (Int.toNat a1) 1) then
 bif (decide ((0 + (((List.length a0.1) + (List.length a2)) * 1)) ≤ (List.length (a0.1 ++ a2)))) then
 some (((List.take ((List.length a0.1) + (List.length a2)) (List.drop 0 (a0.1 ++ a2))), (a0.2.1, (a0.2.2.1, (a0.2.2.2.1, (a0.2.2.2.2.1, ((iadd .i64 a0.2.2.2.2.2.1 (((List.length a2) : Nat) : Int)), (a0.2.2.2.2.2.2.1, (a0.2.2.2.2.2.2.2.1, a0.2.2.2.2.2.2.2.2)))))))), (0 : Int))
 else none
 else none
 else none
 else none
 else none
 else
 bif (Nat.beq (Int.toNat a1) 1) then
 bif ((decide ((0 : Int) ≤ a1)) && (decide (a1 < (2 : Int)))) then
 bif (Nat.beq (Int.toNat a1) 0) then
 bif ((decide ((0 : Int) ≤ a1)) && (decide (a1 < (2 : Int)))) then
 bif (Nat.beq (Int.toNat a1) 0) then
 bif (decide ((0 + (((List.length a0.1) + (List.length a2)) * 1)) ≤ (List.length (a0.1 ++ a2)))) then
 some ((a0.1, ((iadd .i64 a0.2.1 (((List.length a2) : Nat) : Int)), (a0.2.2.1, (a0.2.2.2.1, ((List.take ((List.length a0.1) + (List.length a2)) (List.drop 0 (a0.1 ++ a2))), (a0.2.2.2.2.2.1, (a0.2.2.2.2.2.2.1, (a0.2.2.2.2.2.2.2.1, a0.2.2.2.2.2.2.2.2)))))))), (0 : Int))
 else none
 else
 bif (Nat.beq (Int.toNat a1) 1) then
 bif (decide ((0 + (((List.length a0.1) + (List.length a2)) * 1)) ≤ (List.length (a0.1 ++ a2)))) then
 some ((a0.1, (a0.2.1, (a0.2.2.1, (a0.2.2.2.1, ((List.take ((List.length a0.1) + (List.length a2)) (List.drop 0 (a0.1 ++ a2))), ((iadd .i64 a0.2.1 (((List.length a2) : Nat) : Int)), (a0.2.2.2.2.2.2.1, (a0.2.2.2.2.2.2.2.1, a0.2.2.2.2.2.2.2.2)))))))), (0 : Int))
 else none
 else none
 else none
 else
 bif (Nat.beq (Int.toNat a1) 1) then
 bif ((decide ((0 : Int) ≤ a1)) && (decide (a1 < (2 : Int)))) then
 bif (Nat.beq (Int.toNat a1) 0) then
 bif (decide ((0 + (((List.length a0.1) + (List.length a2)) * 1)) ≤ (List.length (a0.1 ++ a2)))) then
 some ((a0.1, ((iadd .i64 a0.2.2.2.2.2.1 (((List.length a2) : Nat) : Int)), (a0.2.2.1, (a0.2.2.2.1, ((List.take ((List.length a0.1) + (List.length a2)) (List.drop 0 (a0.1 ++ a2))), (a0.2.2.2.2.2.1, (a0.2.2.2.2.2.2.1, (a0.2.2.2.2.2.2.2.1, a0.2.2.2.2.2.2.2.2)))))))), (0 : Int))
 else none
 else
 bif (Nat.beq (Int.toNat a1) 1) then
 bif (decide ((0 + (((List.length a0.1) + (List.length a2)) * 1)) ≤ (List.length (a0.1 ++ a2)))) then
 some ((a0.1, (a0.2.1, (a0.2.2.1, (a0.2.2.2.1, ((List.take ((List.length a0.1) + (List.length a2)) (List.drop 0 (a0.1 ++ a2))), ((iadd .i64 a0.2.2.2.2.2.1 (((List.length a2) : Nat) : Int)), (a0.2.2.2.2.2.2.1, (a0.2.2.2.2.2.2.2.1, a0.2.2.2.2.2.2.2.2)))))))), (0 : Int))
 else none
 else none
 else none
 else none
 else none
 else none
 else none
 else none
 else none
 else
 bif (Nat.beq (Int.toNat a1) 1) then
 bif ((decide (((List.length a0.2.2.2.2.1) * 1) ≤ 1099511627776)) && (decide ((List.length a0.2.2.2.2.1) ≤ 1099511627776))) then
 bif (((List.length a0.2.2.2.2.1) == ((List.length a0.2.2.2.2.1) * 1)) && ((decide ((((List.length a0.2.2.2.2.1) + (List.length a2)) * 1) ≤ 1099511627776)) && (decide (((List.length a0.2.2.2.2.1) + (List.length a2)) ≤ 1099511627776)))) then
 bif ((decide ((0 : Int) ≤ a1)) && (decide (a1 < (2 : Int)))) then
 bif (Nat.beq (Int.toNat a1) 0) then
 bif ((decide ((0 : Int) ≤ a1)) && (decide (a1 < (2 : Int)))) then
 bif (Nat.beq (Int.toNat a1) 0) then
 bif ((decide ((0 : Int) ≤ a1)) && (decide (a1 < (2 : Int)))) then
 bif (Nat.beq (Int.toNat a1) 0) then
 bif (decide ((0 + (((List.length a0.2.2.2.2.1) + (List.length a2)) * 1)) ≤ (List.length (a0.2.2.2.2.1 ++ a2)))) then
 some (((List.take ((List.length a0.2.2.2.2.1) + (List.length a2)) (List.drop 0 (a0.2.2.2.2.1 ++ a2))), ((iadd .i64 a0.2.1 (((List.length a2) : Nat) : Int)), (a0.2.2.1, (a0.2.2.2.1, (a0.2.2.2.2.1, (a0.2.2.2.2.2.1, (a0.2.2.2.2.2.2.1, (a0.2.2.2.2.2.2.2.1, a0.2.2.2.2.2.2.2.2)))))))), (0 : Int))
 else none
 else
 bif (Nat.beq (Int.toNat a1) 1) then
 bif (decide ((0 + (((List.length a0.2.2.2.2.1) + (List.length a2)) * 1)) ≤ (List.length (a0.2.2.2.2.1 ++ a2)))) then
 some (((List.take ((List.length a0.2.2.2.2.1) + (List.length a2)) (List.drop 0 (a0.2.2.2.2.1 ++ a2))), (a0.2.1, (a0.2.2.1, (a0.2.2.2.1, (a0.2.2.2.2.1, ((iadd .i64 a0.2.1 (((List.length a2) : Nat) : Int)), (a0.2.2.2.2.2.2.1, (a0.2.2.2.2.2.2.2.1, a0.2.2.2.2.2.2.2.2)))))))), (0 : Int))
 else none
 else none
 else none
 else
 bif (Nat.beq (Int.toNat a1) 1) then
 bif ((decide ((0 : Int) ≤ a1)) && (decide (a1 < (2 : Int)))) then
 bif (Nat.beq (Int.toNat a1) 0) then
 bif (decide ((0 + (((List.length a0.2.2.2.2.1) + (List.length a2)) * 1)) ≤ (List.length (a0.2.2.2.2.1 ++ a2)))) then
 some (((List.take ((List.length a0.2.2.2.2.1) + (List.length a2)) (List.drop 0 (a0.2.2.2.2.1 ++ a2))), ((iadd .i64 a0.2.2.2.2.2.1 (((List.length a2) : Nat) : Int)), (a0.2.2.1, (a0.2.2.2.1, (a0.2.2.2.2.1, (a0.2.2.2.2.2.1, (a0.2.2.2.2.2.2.1, (a0.2.2.2.2.2.2.2.1, a0.2.2.2.2.2.2.2.2)))))))), (0 : Int))
 else none
 else
 bif (Nat.beq (Int.toNat a1) 1) then
 bif (decide ((0 + (((List.length a0.2.2.2.2.1) + (List.length a2)) * 1)) ≤ (List.length (a0.2.2.2.2.1 ++ a2)))) then
 some (((List.take ((List.length a0.2.2.2.2.1) + (List.length a2)) (List.drop 0 (a0.2.2.2.2.1 ++ a2))), (a0.2.1, (a0.2.2.1, (a0.2.2.2.1, (a0.2.2.2.2.1, ((iadd .i64 a0.2.2.2.2.2.1 (((List.length a2) : Nat) : Int)), (a0.2.2.2.2.2.2.1, (a0.2.2.2.2.2.2.2.1, a0.2.2.2.2.2.2.2.2)))))))), (0 : Int))
 else none
 else none
 else none
 else none
 else none
 else
 bif (Nat.beq (Int.toNat a1) 1) then
 bif ((decide ((0 : Int) ≤ a1)) && (decide (a1 < (2 : Int)))) then
 bif (Nat.beq (Int.toNat a1) 0) then
 bif ((decide ((0 : Int) ≤ a1)) && (decide (a1 < (2 : Int)))) then
 bif (Nat.beq (Int.toNat a1) 0) then
 bif (decide ((0 + (((List.length a0.2.2.2.2.1) + (List.length a2)) * 1)) ≤ (List.length (a0.2.2.2.2.1 ++ a2)))) then
 some ((a0.1, ((iadd .i64 a0.2.1 (((List.length a2) : Nat) : Int)), (a0.2.2.1, (a0.2.2.2.1, ((List.take ((List.length a0.2.2.2.2.1) + (List.length a2)) (List.drop 0 (a0.2.2.2.2.1 ++ a2))), (a0.2.2.2.2.2.1, (a0.2.2.2.2.2.2.1, (a0.2.2.2.2.2.2.2.1, a0.2.2.2.2.2.2.2.2)))))))), (0 : Int))
 else none
 else
 bif (Nat.beq (Int.toNat a1) 1) then
 bif (decide ((0 + (((List.length a0.2.2.2.2.1) + (List.length a2)) * 1)) ≤ (List.length (a0.2.2.2.2.1 ++ a2)))) then
 some ((a0.1, (a0.2.1, (a0.2.2.1, (a0.2.2.2.1, ((List.take ((List.length a0.2.2.2.2.1) + (List.length a2)) (List.drop 0 (a0.2.2.2.2.1 ++ a2))), ((iadd .i64 a0.2.1 (((List.length a2) : Nat) : Int)), (a0.2.2.2.2.2.2.1, (a0.2.2.2.2.2.2.2.1, a0.2.2.2.2.2.2.2.2)))))))), (0 : Int))
 else none
 else none
 else none
 else
 bif (Nat.beq (Int.toNat a1) 1) then
 bif ((decide ((0 : Int) ≤ a1)) && (decide (a1 < (2 : Int)))) then
 bif (Nat.beq (Int.toNat a1) 0) then
 bif (decide ((0 + (((List.length a0.2.2.2.2.1) + (List.length a2)) * 1)) ≤ (List.length (a0.2.2.2.2.1 ++ a2)))) then
 some ((a0.1, ((iadd .i64 a0.2.2.2.2.2.1 (((List.length a2) : Nat) : Int)), (a0.2.2.1, (a0.2.2.2.1, ((List.take ((List.length a0.2.2.2.2.1) + (List.length a2)) (List.drop 0 (a0.2.2.2.2.1 ++ a2))), (a0.2.2.2.2.2.1, (a0.2.2.2.2.2.2.1, (a0.2.2.2.2.2.2.2.1, a0.2.2.2.2.2.2.2.2)))))))), (0 : Int))
 else none
 else
 bif (Nat.beq (Int.toNat a1) 1) then
 bif (decide ((0 + (((List.length a0.2.2.2.2.1) + (List.length a2)) * 1)) ≤ (List.length (a0.2.2.2.2.1 ++ a2)))) then
 some ((a0.1, (a0.2.1, (a0.2.2.1, (a0.2.2.2.1, ((List.take ((List.length a0.2.2.2.2.1) + (List.length a2)) (List.drop 0 (a0.2.2.2.2.1 ++ a2))), ((iadd .i64 a0.2.2.2.2.2.1 (((List.length a2) : Nat) : Int)), (a0.2.2.2.2.2.2.1, (a0.2.2.2.2.2.2.2.1, a0.2.2.2.2.2.2.2.2)))))))), (0 : Int))
 else none
 else none
 else none
 else none
 else none
 else none
 else none
 else none
 else none
 else none
 else none
 else
 bif (Nat.beq (Int.toNat a1) 1) then
 bif (decide ((iadd .i64 (((List.length a0.2.2.2.2.1) : Nat) : Int) (((List.length a2) : Nat) : Int)) > (65536 : Int))) then
 some ((a0.1, (a0.2.1, (a0.2.2.1, (a0.2.2.2.1, (a0.2.2.2.2.1, (a0.2.2.2.2.2.1, (a0.2.2.2.2.2.2.1, (a0.2.2.2.2.2.2.2.1, a0.2.2.2.2.2.2.2.2)))))))), (12 : Int))
 else
 bif ((decide ((0 : Int) ≤ a1)) && (decide (a1 < (2 : Int)))) then
 bif (Nat.beq (Int.toNat a1) 0) then
 bif ((decide (((List.length a0.1) * 1) ≤ 1099511627776)) && (decide ((List.length a0.1) ≤ 1099511627776))) then
 bif (((List.length a0.1) == ((List.length a0.1) * 1)) && ((decide ((((List.length a0.1) + (List.length a2)) * 1) ≤ 1099511627776)) && (decide (((List.length a0.1) + (List.length a2)) ≤ 1099511627776)))) then
 bif ((decide ((0 : Int) ≤ a1)) && (decide (a1 < (2 : Int)))) then
 bif (Nat.beq (Int.toNat a1) 0) then
 bif ((decide ((0 : Int) ≤ a1)) && (decide (a1 < (2 : Int)))) then
 bif (Nat.beq (Int.toNat a1) 0) then
 bif ((decide ((0 : Int) ≤ a1)) && (decide (a1 < (2 : Int)))) then
 bif (Nat.beq (Int.toNat a1) 0) then
 bif (decide ((0 + (((List.length a0.1) + (List.length a2)) * 1)) ≤ (List.length (a0.1 ++ a2)))) then
 some (((List.take ((List.length a0.1) + (List.length a2)) (List.drop 0 (a0.1 ++ a2))), ((iadd .i64 a0.2.1 (((List.length a2) : Nat) : Int)), (a0.2.2.1, (a0.2.2.2.1, (a0.2.2.2.2.1, (a0.2.2.2.2.2.1, (a0.2.2.2.2.2.2.1, (a0.2.2.2.2.2.2.2.1, a0.2.2.2.2.2.2.2.2)))))))), (0 : Int))
 else none
 else
 bif (Nat.beq (Int.toNat a1) 1) then
 bif (decide ((0 + (((List.length a0.1) + (List.length a2)) * 1)) ≤ (List.length (a0.1 ++ a2)))) then
 some (((List.take ((List.length a0.1) + (List.length a2)) (List.drop 0 (a0.1 ++ a2))), (a0.2.1, (a0.2.2.1, (a0.2.2.2.1, (a0.2.2.2.2.1, ((iadd .i64 a0.2.1 (((List.length a2) : Nat) : Int)), (a0.2.2.2.2.2.2.1, (a0.2.2.2.2.2.2.2.1, a0.2.2.2.2.2.2.2.2)))))))), (0 : Int))
 else none
 else none
 else none
 else
 bif (Nat.beq (Int.toNat a1) 1) then
 bif ((decide ((0 : Int) ≤ a1)) && (decide (a1 < (2 : Int)))) then
 bif (Nat.beq (Int.toNat a1) 0) then
 bif (decide ((0 + (((List.length a0.1) + (List.length a2)) * 1)) ≤ (List.length (a0.1 ++ a2)))) then
 some (((List.take ((List.length a0.1) + (List.length a2)) (List.drop 0 (a0.1 ++ a2))), ((iadd .i64 a0.2.2.2.2.2.1 (((List.length a2) : Nat) : Int)), (a0.2.2.1, (a0.2.2.2.1, (a0.2.2.2.2.1, (a0.2.2.2.2.2.1, (a0.2.2.2.2.2.2.1, (a0.2.2.2.2.2.2.2.1, a0.2.2.2.2.2.2.2.2)))))))), (0 : Int))
 else none
 else
 bif (Nat.beq (Int.toNat a1) 1) then
 bif (decide ((0 + (((List.length a0.1) + (List.length a2)) * 1)) ≤ (List.length (a0.1 ++ a2)))) then
 some (((List.take ((List.length a0.1) + (List.length a2)) (List.drop 0 (a0.1 ++ a2))), (a0.2.1, (a0.2.2.1, (a0.2.2.2.1, (a0.2.2.2.2.1, ((iadd .i64 a0.2.2.2.2.2.1 (((List.length a2) : Nat) : Int)), (a0.2.2.2.2.2.2.1, (a0.2.2.2.2.2.2.2.1, a0.2.2.2.2.2.2.2.2)))))))), (0 : Int))
 else none
 else none
 else none
 else none
 else none
 else
 bif (Nat.beq (Int.toNat a1) 1) then
 bif ((decide ((0 : Int) ≤ a1)) && (decide (a1 < (2 : Int)))) then
 bif (Nat.beq (Int.toNat a1) 0) then
 bif ((decide ((0 : Int) ≤ a1)) && (decide (a1 < (2 : Int)))) then
 bif (Nat.beq (Int.toNat a1) 0) then
 bif (decide ((0 + (((List.length a0.1) + (List.length a2)) * 1)) ≤ (List.length (a0.1 ++ a2)))) then
 some ((a0.1, ((iadd .i64 a0.2.1 (((List.length a2) : Nat) : Int)), (a0.2.2.1, (a0.2.2.2.1, ((List.take ((List.length a0.1) + (List.length a2)) (List.drop 0 (a0.1 ++ a2))), (a0.2.2.2.2.2.1, (a0.2.2.2.2.2.2.1, (a0.2.2.2.2.2.2.2.1, a0.2.2.2.2.2.2.2.2)))))))), (0 : Int))
 else none
 else
 bif (Nat.beq (Int.toNat a1) 1) then
 bif (decide ((0 + (((List.length a0.1) + (List.length a2)) * 1)) ≤ (List.length (a0.1 ++ a2)))) then
 some ((a0.1, (a0.2.1, (a0.2.2.1, (a0.2.2.2.1, ((List.take ((List.length a0.1) + (List.length a2)) (List.drop 0 (a0.1 ++ a2))), ((iadd .i64 a0.2.1 (((List.length a2) : Nat) : Int)), (a0.2.2.2.2.2.2.1, (a0.2.2.2.2.2.2.2.1, a0.2.2.2.2.2.2.2.2)))))))), (0 : Int))
 else none
 else none
 else none
 else
 bif (Nat.beq (Int.toNat a1) 1) then
 bif ((decide ((0 : Int) ≤ a1)) && (decide (a1 < (2 : Int)))) then
 bif (Nat.beq (Int.toNat a1) 0) then
 bif (decide ((0 + (((List.length a0.1) + (List.length a2)) * 1)) ≤ (List.length (a0.1 ++ a2)))) then
 some ((a0.1, ((iadd .i64 a0.2.2.2.2.2.1 (((List.length a2) : Nat) : Int)), (a0.2.2.1, (a0.2.2.2.1, ((List.take ((List.length a0.1) + (List.length a2)) (List.drop 0 (a0.1 ++ a2))), (a0.2.2.2.2.2.1, (a0.2.2.2.2.2.2.1, (a0.2.2.2.2.2.2.2.1, a0.2.2.2.2.2.2.2.2)))))))), (0 : Int))
 else none
 else
 bif (Nat.beq (Int.toNat a1) 1) then
 bif (decide ((0 + (((List.length a0.1) + (List.length a2)) * 1)) ≤ (List.length (a0.1 ++ a2)))) then
 some ((a0.1, (a0.2.1, (a0.2.2.1, (a0.2.2.2.1, ((List.take ((List.length a0.1) + (List.length a2)) (List.drop 0 (a0.1 ++ a2))), ((iadd .i64 a0.2.2.2.2.2.1 (((List.length a2) : Nat) : Int)), (a0.2.2.2.2.2.2.1, (a0.2.2.2.2.2.2.2.1, a0.2.2.2.2.2.2.2.2)))))))), (0 : Int))
 else none
 else none
 else none
 else none
 else none
 else none
 else none
 else none
 else none
 else
 bif (Nat.beq (Int.toNat a1) 1) then
 bif ((decide (((List.length a0.2.2.2.2.1) * 1) ≤ 1099511627776)) && (decide ((List.length a0.2.2.2.2.1) ≤ 1099511627776))) then
 bif (((List.length a0.2.2.2.2.1) == ((List.length a0.2.2.2.2.1) * 1)) && ((decide ((((List.length a0.2.2.2.2.1) + (List.length a2)) * 1) ≤ 1099511627776)) && (decide (((List.length a0.2.2.2.2.1) + (List.length a2)) ≤ 1099511627776)))) then
 bif ((decide ((0 : Int) ≤ a1)) && (decide (a1 < (2 : Int)))) then
 bif (Nat.beq (Int.toNat a1) 0) then
 bif ((decide ((0 : Int) ≤ a1)) && (decide (a1 < (2 : Int)))) then
 bif (Nat.beq (Int.toNat a1) 0) then
 bif ((decide ((0 : Int) ≤ a1)) && (decide (a1 < (2 : Int)))) then
 bif (Nat.beq (Int.toNat a1) 0) then
 bif (decide ((0 + (((List.length a0.2.2.2.2.1) + (List.length a2)) * 1)) ≤ (List.length (a0.2.2.2.2.1 ++ a2)))) then
 some (((List.take ((List.length a0.2.2.2.2.1) + (List.length a2)) (List.drop 0 (a0.2.2.2.2.1 ++ a2))), ((iadd .i64 a0.2.1 (((List.length a2) : Nat) : Int)), (a0.2.2.1, (a0.2.2.2.1, (a0.2.2.2.2.1, (a0.2.2.2.2.2.1, (a0.2.2.2.2.2.2.1, (a0.2.2.2.2.2.2.2.1, a0.2.2.2.2.2.2.2.2)))))))), (0 : Int))
 else none
 else
 bif (Nat.beq (Int.toNat a1) 1) then
 bif (decide ((0 + (((List.length a0.2.2.2.2.1) + (List.length a2)) * 1)) ≤ (List.length (a0.2.2.2.2.1 ++ a2)))) then
 some (((List.take ((List.length a0.2.2.2.2.1) + (List.length a2)) (List.drop 0 (a0.2.2.2.2.1 ++ a2))), (a0.2.1, (a0.2.2.1, (a0.2.2.2.1, (a0.2.2.2.2.1, ((iadd .i64 a0.2.1 (((List.length a2) : Nat) : Int)), (a0.2.2.2.2.2.2.1, (a0.2.2.2.2.2.2.2.1, a0.2.2.2.2.2.2.2.2)))))))), (0 : Int))
 else none
 else none
 else none
 else
 bif (Nat.beq (Int.toNat a1) 1) then
 bif ((decide ((0 : Int) ≤ a1)) && (decide (a1 < (2 : Int)))) then
 bif (Nat.beq (Int.toNat a1) 0) then
 bif (decide ((0 + (((List.length a0.2.2.2.2.1) + (List.length a2)) * 1)) ≤ (List.length (a0.2.2.2.2.1 ++ a2)))) then
 some (((List.take ((List.length a0.2.2.2.2.1) + (List.length a2)) (List.drop 0 (a0.2.2.2.2.1 ++ a2))), ((iadd .i64 a0.2.2.2.2.2.1 (((List.length a2) : Nat) : Int)), (a0.2.2.1, (a0.2.2.2.1, (a0.2.2.2.2.1, (a0.2.2.2.2.2.1, (a0.2.2.2.2.2.2.1, (a0.2.2.2.2.2.2.2.1, a0.2.2.2.2.2.2.2.2)))))))), (0 : Int))
 else none
 else
 bif (Nat.beq (Int.toNat a1) 1) then
 bif (decide ((0 + (((List.length a0.2.2.2.2.1) + (List.length a2)) * 1)) ≤ (List.length (a0.2.2.2.2.1 ++ a2)))) then
 some (((List.take ((List.length a0.2.2.2.2.1) + (List.length a2)) (List.drop 0 (a0.2.2.2.2.1 ++ a2))), (a0.2.1, (a0.2.2.1, (a0.2.2.2.1, (a0.2.2.2.2.1, ((iadd .i64 a0.2.2.2.2.2.1 (((List.length a2) : Nat) : Int)), (a0.2.2.2.2.2.2.1, (a0.2.2.2.2.2.2.2.1, a0.2.2.2.2.2.2.2.2)))))))), (0 : Int))
 else none
 else none
 else none
 else none
 else none
 else
 bif (Nat.beq (Int.toNat a1) 1) then
 bif ((decide ((0 : Int) ≤ a1)) && (decide (a1 < (2 : Int)))) then
 bif (Nat.beq (Int.toNat a1) 0) then
 bif ((decide ((0 : Int) ≤ a1)) && (decide (a1 < (2 : Int)))) then
 bif (Nat.beq (Int.toNat a1) 0) then
 bif (decide ((0 + (((List.length a0.2.2.2.2.1) + (List.length a2)) * 1)) ≤ (List.length (a0.2.2.2.2.1 ++ a2)))) then
 some ((a0.1, ((iadd .i64 a0.2.1 (((List.length a2) : Nat) : Int)), (a0.2.2.1, (a0.2.2.2.1, ((List.take ((List.length a0.2.2.2.2.1) + (List.length a2)) (List.drop 0 (a0.2.2.2.2.1 ++ a2))), (a0.2.2.2.2.2.1, (a0.2.2.2.2.2.2.1, (a0.2.2.2.2.2.2.2.1, a0.2.2.2.2.2.2.2.2)))))))), (0 : Int))
 else none
 else
 bif (Nat.beq (Int.toNat a1) 1) then
 bif (decide ((0 + (((List.length a0.2.2.2.2.1) + (List.length a2)) * 1)) ≤ (List.length (a0.2.2.2.2.1 ++ a2)))) then
 some ((a0.1, (a0.2.1, (a0.2.2.1, (a0.2.2.2.1, ((List.take ((List.length a0.2.2.2.2.1) + (List.length a2)) (List.drop 0 (a0.2.2.2.2.1 ++ a2))), ((iadd .i64 a0.2.1 (((List.length a2) : Nat) : Int)), (a0.2.2.2.2.2.2.1, (a0.2.2.2.2.2.2.2.1, a0.2.2.2.2.2.2.2.2)))))))), (0 : Int))
 else none
 else none
 else none
 else
 bif (Nat.beq (Int.toNat a1) 1) then
 bif ((decide ((0 : Int) ≤ a1)) && (decide (a1 < (2 : Int)))) then
 bif (Nat.beq (Int.toNat a1) 0) then
 bif (decide ((0 + (((List.length a0.2.2.2.2.1) + (List.length a2)) * 1)) ≤ (List.length (a0.2.2.2.2.1 ++ a2)))) then
 some ((a0.1, ((iadd .i64 a0.2.2.2.2.2.1 (((List.length a2) : Nat) : Int)), (a0.2.2.1, (a0.2.2.2.1, ((List.take ((List.length a0.2.2.2.2.1) + (List.length a2)) (List.drop 0 (a0.2.2.2.2.1 ++ a2))), (a0.2.2.2.2.2.1, (a0.2.2.2.2.2.2.1, (a0.2.2.2.2.2.2.2.1, a0.2.2.2.2.2.2.2.2)))))))), (0 : Int))
 else none
 else
 bif (Nat.beq (Int.toNat a1) 1) then
 bif (decide ((0 + (((List.length a0.2.2.2.2.1) + (List.length a2)) * 1)) ≤ (List.length (a0.2.2.2.2.1 ++ a2)))) then
 some ((a0.1, (a0.2.1, (a0.2.2.1, (a0.2.2.2.1, ((List.take ((List.length a0.2.2.2.2.1) + (List.length a2)) (List.drop 0 (a0.2.2.2.2.1 ++ a2))), ((iadd .i64 a0.2.2.2.2.2.1 (((List.length a2) : Nat) : Int)), (a0.2.2.2.2.2.2.1, (a0.2.2.2.2.2.2.2.1, a0.2.2.2.2.2.2.2.2)))))))), (0 : Int))
 else none
 else none
 else none
 else none
 else none
 else none
 else none
 else none
 else none
 else none
 else none
 else none
 else none

/-- (*euphroe/chans.Chan).Take -/
def p88v2 (d111v0 : D111v0) (c108 : D108) (N : Nat) (a0 : Int) (a1 : Int) (a2 : List Int) (a3 : Int) (a4 : Int) (a5 : Int) (a6 : List Int) (a7 : Int) (a8 : Int) (a9 : Int) (a10 : Bool) : Option R88v2 :=
  match d111v0 a0 with
 | none => none
 | some r1 =>
 bif (!r1.1.1) then
 some (((([] : List Int), ((1 : Int), ())), ()), ((u33 (a2, (a3, (a4, (a5, (a6, (a7, (a8, (a9, (a10, ())))))))))), ()))
 else
 bif (decide (a1 < (0 : Int))) then
 some (((([] : List Int), ((1 : Int), ())), ()), ((u33 (a2, (a3, (a4, (a5, (a6, (a7, (a8, (a9, (a10, ())))))))))), ()))
 else
 bif ((decide ((0 : Int) ≤ a0)) && (decide (a0 < (2 : Int)))) then
 bif (Nat.beq (Int.toNat a0) 0) then
 bif ((decide ((0 : Int) ≤ (if (((List.length a2) : Nat) : Int) < a1 then (((List.length a2) : Nat) : Int) else a1))) && (decide ((if (((List.length a2) : Nat) : Int) < a1 then (((List.length a2) : Nat) : Int) else a1) ≤ (((List.length a2) : Nat) : Int)))) then
 match c108 (List.take (Int.toNat (if (((List.length a2) : Nat) : Int) < a1 then (((List.length a2) : Nat) : Int) else a1)) a2) with
 | none => none
 | some r2 =>
 bif ((decide ((0 : Int) ≤ (if (((List.length a2) : Nat) : Int) < a1 then (((List.length a2) : Nat) : Int) else a1))) && (decide ((if (((List.length a2) : Nat) : Int) < a1 then (((List.length a2) : Nat) : Int) else a1) ≤ (((List.length a2) : Nat) : Int)))) then
 bif ((decide ((0 : Int) ≤ a0)) && (decide (a0 < (2 : Int)))) then
 bif (Nat.beq (Int.toNat a0) 0) then
 bif ((decide ((0 : Int) ≤ a0)) && (decide (a0 < (2 : Int)))) then
 bif (Nat.beq (Int.toNat a0) 0) then
 bif (decide ((0 + ((List.length r2) * 1)) ≤ (List.length r2))) then
 some ((((List.take (List.length r2) (List.drop 0 r2)), ((0 : Int), ())), ()), ((u33 ((List.drop (Int.toNat (if (((List.length a2) : Nat) : Int) < a1 then (((List.length a2) : Nat) : Int) else a1)) a2), (a3, ((iadd .i64 a4 (((List.length r2) : Nat) : Int)), (a5, (a6, (a7, (a8, (a9, (a10, ())))))))))), ()))
 else none
 else
 bif (Nat.beq (Int.toNat a0) 1) then
 bif (decide ((0 + ((List.length r2) * 1)) ≤ (List.length r2))) then
 some ((((List.take (List.length r2) (List.drop 0 r2)), ((0 : Int), ())), ()), ((u33 ((List.drop (Int.toNat (if (((List.length a2) : Nat) : Int) < a1 then (((List.length a2) : Nat) : Int) else a1)) a2), (a3, (a4, (a5, (a6, (a7, ((iadd .i64 a4 (((List.length r2) : Nat) : Int)), (a9, (a10, ())))))))))), ()))
 else none
 else none
 else none
 else
 bif (Nat.beq (Int.toNat a0) 1) then
 bif ((decide ((0 : Int) ≤ a0)) && (decide (a0 < (2 : Int)))) then
 bif (Nat.beq (Int.toNat a0) 0) then
 bif (decide ((0 + ((List.length r2) * 1)) ≤ (List.length r2))) then
 some ((((List.take (List.length r2) (List.drop 0 r2)), ((0 : Int), ())), ()), ((u33 ((List.drop (Int.toNat (if (((List.length a2) : Nat) : Int) < a1 then (((List.length a2) : Nat) : Int) else a1)) a2), (a3, ((iadd .i64 a8 (((List.length r2) : Nat) : Int)), (a5, (a6, (a7, (a8, (a9, (a10, ())))))))))), ()))
 else none
 else
 bif (Nat.beq (Int.toNat a0) 1) then
 bif (decide ((0 + ((List.length r2) * 1)) ≤ (List.length r2))) then
 some ((((List.take (List.length r2) (List.drop 0 r2)), ((0 : Int), ())), ()), ((u33 ((List.drop (Int.toNat (if (((List.length a2) : Nat) : Int) < a1 then (((List.length a2) : Nat) : Int) else a1)) a2), (a3, (a4, (a5, (a6, (a7, ((iadd .i64 a8 (((List.length r2) : Nat) : Int)), (a9, (a10, ())))))))))), ()))
 else none
 else none
 else none
 else none
 else none
 else none
 else none
 else
 bif (Nat.beq (Int.toNat a0) 1) then
 bif ((decide ((0 : Int) ≤ (if (((List.length a6) : Nat) : Int) < a1 then (((List.length a6) : Nat) : Int) else a1))) && (decide ((if (((List.length a6) : Nat) : Int) < a1 then (((List.length a6) : Nat) : Int) else a1) ≤ (((List.length a6) : Nat) : Int)))) then
 match c108 (List.take (Int.toNat (if (((List.length a6) : Nat) : Int) < a1 then (((List.length a6) : Nat) : Int) else a1)) a6) with
 | none => none
 | some r3 =>
 bif ((decide ((0 : Int) ≤ (if (((List.length a6) : Nat) : Int) < a1 then (((List.length a6) : Nat) : Int) else a1))) && (decide ((if (((List.length a6) : Nat) : Int) < a1 then (((List.length a6) : Nat) : Int) else a1) ≤ (((List.length a6) : Nat) : Int)))) then
 bif ((decide ((0 : Int) ≤ a0)) && (decide (a0 < (2 : Int)))) then
 bif (Nat.beq (Int.toNat a0) 0) then
 bif ((decide ((0 : Int) ≤ a0)) && (decide (a0 < (2 : Int)))) then
 bif (Nat.beq (Int.toNat a0) 0) then
 bif (decide ((0 + ((List.length r3) * 1)) ≤ (List.length r3))) then
 some ((((List.take (List.length r3) (List.drop 0 r3)), ((0 : Int), ())), ()), ((u33 (a2, (a3, ((iadd .i64 a4 (((List.length r3) : Nat) : Int)), (a5, ((List.drop (Int.toNat (if (((List.length a6) : Nat) : Int) < a1 then (((List.length a6) : Nat) : Int) else a1)) a6), (a7, (a8, (a9, (a10, ())))))))))), ()))
 else none
 else
 bif (Nat.beq (Int.toNat a0) 1) then
 bif (decide ((0 + ((List.length r3) * 1)) ≤ (List.length r3))) then
 some ((((List.take (List.length r3) (List.drop 0 r3)), ((0 : Int), ())), ()), ((u33 (a2, (a3, (a4, (a5, ((List.drop (Int.toNat (if (((List.length a6) : Nat) : Int) < a1 then (((List.length a6) : Nat) : Int) else a1)) a6), (a7, ((iadd .i64 a4 (((List.length r3) : Nat) : Int)), (a9, (a10, ())))))))))), ()))
 else none
 else none
 else none
 else
 bif (Nat.beq (Int.toNat a0) 1) then
 bif ((decide ((0 : Int) ≤ a0)) && (decide (a0 < (2 : Int)))) then
 bif (Nat.beq (Int.toNat a0) 0) then
 bif (decide ((0 + ((List.length r3) * 1)) ≤ (List.length r3))) then
 some ((((List.take (List.length r3) (List.drop 0 r3)), ((0 : Int), ())), ()), ((u33 (a2, (a3, ((iadd .i64 a8 (((List.length r3) : Nat) : Int)), (a5, ((List.drop (Int.toNat (if (((List.length a6) : Nat) : Int) < a1 then (((List.length a6) : Nat) : Int) else a1)) a6), (a7, (a8, (a9, (a10, ())))))))))), ()))
 else none
 else
 bif (Nat.beq (Int.toNat a0) 1) then
 bif (decide ((0 + ((List.length r3) * 1)) ≤ (List.length r3))) then
 some ((((List.take (List.length r3) (List.drop 0 r3)), ((0 : Int), ())), ()), ((u33 (a2, (a3, (a4, (a5, ((List.drop (Int.toNat (if (((List.length a6) : Nat) : Int) < a1 then (((List.length a6) : Nat) : Int) else a1)) a6), (a7, ((iadd .i64 a8 (((List.length r3) : Nat) : Int)), (a9, (a10, ())))))))))), ()))
 else none
 else none
 else none
 else none
 else none
 else none
 else none
 else none
 else none

/-- euphroe/euphroeref38.cut -/
def p113 (N : Nat) (a0 : (List Int) × Int × Int × Int × (List Int) × Int × Int × Int × Bool) (a1 : Int) (a2 : Int) : Option (((List Int) × Int × Int × Int × (List Int) × Int × Int × Int × Bool) × (List Int)) :=
  bif ((decide ((0 : Int) ≤ a1)) && (decide (a1 < (2 : Int)))) then
 bif (Nat.beq (Int.toNat a1) 0) then
 bif ((decide ((0 : Int) ≤ (if (((List.length a0.1) : Nat) : Int) < a2 then (((List.length a0.1) : Nat) : Int) else a2))) && (decide ((if (((List.length a0.1) : Nat) : Int) < a2 then (((List.length a0.1) : Nat) : Int) else a2) ≤ (((List.length a0.1) : Nat) : Int)))) then
 bif ((decide (((List.length (List.drop (Int.toNat (if (((List.length a0.1) : Nat) : Int) < a2 then (((List.length a0.1) : Nat) : Int) else a2)) a0.1)) * 1) ≤ 1099511627776)) && (decide ((List.length (List.drop (Int.toNat (if (((List.length a0.1) : Nat) : Int) < a2 then (((List.length a0.1) : Nat) : Int) else a2)) a0.1)) ≤ 1099511627776))) then
 bif ((decide ((0 : Int) ≤ a1)) && (decide (a1 < (2 : Int)))) then
 bif (Nat.beq (Int.toNat a1) 0) then
 bif ((decide ((0 : Int) ≤ (if (((List.length a0.1) : Nat) : Int) < a2 then (((List.length a0.1) : Nat) : Int) else a2))) && (decide ((if (((List.length a0.1) : Nat) : Int) < a2 then (((List.length a0.1) : Nat) : Int) else a2) ≤ (((List.length a0.1) : Nat) : Int)))) then
 bif ((decide (((List.length (List.take (Int.toNat (if (((List.length a0.1) : Nat) : Int) < a2 then (((List.length a0.1) : Nat) : Int) else a2)) a0.1)) * 1) ≤ 1099511627776)) && (decide ((List.length (List.take (Int.toNat (if (((List.length a0.1) : Nat) : Int) < a2 then (((List.length a0.1) : Nat) : Int) else a2)) a0.1)) ≤ 1099511627776))) then
 bif (decide ((0 + ((List.length (List.drop (Int.toNat (if (((List.length a0.1) : Nat) : Int) < a2 then (((List.length a0.1) : Nat) : Int) else a2)) a0.1)) * 1)) ≤ (List.length (List.drop (Int.toNat (if (((List.length a0.1) : Nat) : Int) < a2 then (((List.length a0.1) : Nat) : Int) else a2)) a0.1)))) then
 bif (decide ((0 + ((List.length (List.take (Int.toNat (if (((List.length a0.1) : Nat) : Int) < a2 then (((List.length a0.1) : Nat) : Int) else a2)) a0.1)) * 1)) ≤ (List.length (List.take (Int.toNat (if (((List.length a0.1) : Nat) : Int) < a2 then (((List.length a0.1) : Nat) : Int) else a2)) a0.1)))) then
 some (((List.take (List.length (List.drop (Int.toNat (if (((List.length a0.1) : Nat) : Int) < a2 then (((List.length a0.1) : Nat) : Int) else a2)) a0.1)) (List.drop 0 (List.drop (Int.toNat (if (((List.length a0.1) : Nat) : Int) < a2 then (((List.length a0.1) : Nat) : Int) else a2)) a0.1))), (a0.2.1, (a0.2.2.1, (a0.2.2.2.1, (a0.2.2.2.2.1, (a0.2.2.2.2.2.1, (a0.2.2.2.2.2.2.1, (a0.2.2.2.2.2.2.2.1, a0.2.2.2.2.2.2.2.2)))))))), (List.take (List.length (List.take (Int.toNat (if (((List.length a0.1) : Nat) : Int) < a2 then (((List.length a0.1) : Nat) : Int) else a2)) a0.1)) (List.drop 0 (List.take (Int.toNat (if (((List.length a0.1) : Nat) : Int) < a2 then (((List.length a0.1) : Nat) : Int) else a2)) a0.1))))
 else none
 else none
 else none
 else none
 else
 bif (Nat.beq (Int.toNat a1) 1) then
 bif ((decide ((0 : Int) ≤ (if (((List.length a0.1) : Nat) : Int) < a2 then (((List.length a0.1) : Nat) : Int) else a2))) && (decide ((if (((List.length a0.1) : Nat) : Int) < a2 then (((List.length a0.1) : Nat) : Int) else a2) ≤ (((List.length a0.1) : Nat) : Int)))) then
 bif ((decide (((List.length (List.take (Int.toNat (if (((List.length a0.1) : Nat) : Int) < a2 then (((List.length a0.1) : Nat) : Int) else a2)) a0.1)) * 1) ≤ 1099511627776)) && (decide ((List.length (List.take (Int.toNat (if (((List.length a0.1) : Nat) : Int) < a2 then (((List.length a0.1) : Nat) : Int) else a2)) a0.1)) ≤ 1099511627776))) then
 bif (decide ((0 + ((List.length (List.drop (Int.toNat (if (((List.length a0.1) : Nat) : Int) < a2 then (((List.length a0.1) : Nat) : Int) else a2)) a0.1)) * 1)) ≤ (List.length (List.drop (Int.toNat (if (((List.length a0.1) : Nat) : Int) < a2 then (((List.length a0.1) : Nat) : Int) else a2)) a0.1)))) then
 bif (decide ((0 + ((List.length (List.take (Int.toNat (if (((List.length a0.1) : Nat) : Int) < a2 then (((List.length a0.1) : Nat) : Int) else a2)) a0.1)) * 1)) ≤ (List.length (List.take (Int.toNat (if (((List.length a0.1) : Nat) : Int) < a2 then (((List.length a0.1) : Nat) : Int) else a2)) a0.1)))) then
 some ((a0.1, (a0.2.1, (a0.2.2.1, (a0.2.2.2.1, ((List.take (List.length (List.drop (Int.toNat (if (((List.length a0.1) : Nat) : Int) < a2 then (((List.length a0.1) : Nat) : Int) else a2)) a0.1)) (List.drop 0 (List.drop (Int.toNat (if (((List.length a0.1) : Nat) : Int) < a2 then (((List.length a0.1) : Nat) : Int) else a2)) a0.1))), (a0.2.2.2.2.2.1, (a0.2.2.2.2.2.2.1, (a0.2.2.2.2.2.2.2.1, a0.2.2.2.2.2.2.2.2)))))))), (List.take (List.length (List.take (Int.toNat (if (((List.length a0.1) : Nat) : Int) < a2 then (((List.length a0.1) : Nat) : Int) else a2)) a0.1)) (List.drop 0 (List.take (Int.toNat (if (((List.length a0.1) : Nat) : Int) < a2 then (((List.length a0.1) : Nat) : Int) else a2)) a0.1))))
 else none
 else none
 else none
 else none
 else none
 else none
 else none
 else none
 else
 bif (Nat.beq (Int.toNat a1) 1) then
 bif ((decide ((0 : Int) ≤ (if (((List.length a0.2.2.2.2.1) : Nat) : Int) < a2 then (((List.length a0.2.2.2.2.1) : Nat) : Int) else a2))) && (decide ((if (((List.length a0.2.2.2.2.1) : Nat) : Int) < a2 then (((List.length a0.2.2.2.2.1) : Nat) : Int) else a2) ≤ (((List.length a0.2.2.2.2.1) : Nat) : Int)))) then
 bif ((decide (((List.length (List.drop (Int.toNat (if (((List.length a0.2.2.2.2.1) : Nat) : Int) < a2 then (((List.length a0.2.2.2.2.1) : Nat) : Int) else a2)) a0.2.2.2.2.1)) * 1) ≤ 1099511627776)) && (decide ((List.length (List.drop (Int.toNat (if (((List.length a0.2.2.2.2.1) : Nat) : Int) < a2 then (((List.length a0.2.2.2.2.1) : Nat) : Int) else a2)) a0.2.2.2.2.1)) ≤ 1099511627776))) then
 bif ((decide ((0 : Int) ≤ a1)) && (decide (a1 < (2 : Int)))) then
 bif (Nat.beq (Int.toNat a1) 0) then
 bif ((decide ((0 : Int) ≤ (if (((List.length a0.2.2.2.2.1) : Nat) : Int) < a2 then (((List.length a0.2.2.2.2.1) : Nat) : Int) else a2))) && (decide ((if (((List.length a0.2.2.2.2.1) : Nat) : Int) < a2 then (((List.length a0.2.2.2.2.1) : Nat) : Int) else a2) ≤ (((List.length a0.2.2.2.2.1) : Nat) : Int)))) then
 bif ((decide (((List.length (List.take (Int.toNat (if (((List.length a0.2.2.2.2.1) : Nat) : Int) < a2 then (((List.length a0.2.2.2.2.1) : Nat) : Int) else a2)) a0.2.2.2.2.1)) * 1) ≤ 1099511627776)) && (decide ((List.length (List.take (Int.toNat (if (((List.length a0.2.2.2.2.1) : Nat) : Int) < a2 then (((List.length a0.2.2.2.2.1) : Nat) : Int) else a2)) a0.2.2.2.2.1)) ≤ 1099511627776))) then
 bif (decide ((0 + ((List.length (List.drop (Int.toNat (if (((List.length a0.2.2.2.2.1) : Nat) : Int) < a2 then (((List.length a0.2.2.2.2.1) : Nat) : Int) else a2)) a0.2.2.2.2.1)) * 1)) ≤ (List.length (List.drop (Int.toNat (if (((List.length a0.2.2.2.2.1) : Nat) : Int) < a2 then (((List.length a0.2.2.2.2.1) : Nat) : Int) else a2)) a0.2.2.2.2.1)))) then
 bif (decide ((0 + ((List.length (List.take (Int.toNat (if (((List.length a0.2.2.2.2.1) : Nat) : Int) < a2 then (((List.length a0.2.2.2.2.1) : Nat) : Int) else a2)) a0.2.2.2.2.1)) * 1)) ≤ (List.length (List.take (Int.toNat (if (((List.length a0.2.2.2.2.1) : Nat) : Int) < a2 then (((List.length a0.2.2.2.2.1) : Nat) : Int) else a2)) a0.2.2.2.2.1)))) then
 some (((List.take (List.length (List.drop (Int.toNat (if (((List.length a0.2.2.2.2.1) : Nat) : Int) < a2 then (((List.length a0.2.2.2.2.1) : Nat) : Int) else a2)) a0.2.2.2.2.1)) (List.drop 0 (List.drop (Int.toNat (if (((List.length a0.2.2.2.2.1) : Nat) : Int) < a2 then (((List.length a0.2.2.2.2.1) : Nat) : Int) else a2)) a0.2.2.2.2.1))), (a0.2.1, (a0.2.2.1, (a0.2.2.2.1, (a0.2.2.2.2.1, (a0.2.2.2.2.2.1, (a0.2.2.2.2.2.2.1, (a0.2.2.2.2.2.2.2.1, a0.2.2.2.2.2.2.2.2)))))))), (List.take (List.length (List.take (Int.toNat (if (((List.length a0.2.2.2.2.1) : Nat) : Int) < a2 then (((List.length a0.2.2.2.2.1) : Nat) : Int) else a2)) a0.2.2.2.2.1)) (List.drop 0 (List.take (Int.toNat (if (((List.length a0.2.2.2.2.1) : Nat) : Int) < a2 then (((List.length a0.2.2.2.2.1) : Nat) : Int) else a2)) a0.2.2.2.2.1))))
 else none
 else none
 else none
 else none
 else
 bif (Nat.beq (Int.toNat a1) 1) then
 bif ((decide ((0 : Int) ≤ (if (((List.length a0.2.2.2.2.1) : Nat) : Int) < a2 then (((List.length a0.2.2.2.2.1) : Nat) : Int) else a2))) && (decide ((if (((List.length a0.2.2.2.2.1) : Nat) : Int) < a2 then (((List.length a0.2.2.2.2.1) : Nat) : Int) else a2) ≤ (((List.length a0.2.2.2.2.1) : Nat) : Int)))) then
 bif ((decide (((List.length (List.take (Int.toNat (if (((List.length a0.2.2.2.2.1) : Nat) : Int) < a2 then (((List.length a0.2.2.2.2.1) : Nat) : Int) else a2)) a0.2.2.2.2.1)) * 1) ≤ 1099511627776)) && (decide ((List.length (List.take (Int.toNat (if (((List.length a0.2.2.2.2.1) : Nat) : Int) < a2 then (((List.length a0.2.2.2.2.1) : Nat) : Int) else a2)) a0.2.2.2.2.1)) ≤ 1099511627776))) then
 bif (decide ((0 + ((List.length (List.drop (Int.toNat (if (((List.length a0.2.2.2.2.1) : Nat) : Int) < a2 then (((List.length a0.2.2.2.2.1) : Nat) : Int) else a2)) a0.2.2.2.2.1)) * 1)) ≤ (List.length (List.drop (Int.toNat (if (((List.length a0.2.2.2.2.1) : Nat) : Int) < a2 then (((List.length a0.2.2.2.2.1) : Nat) : Int) else a2)) a0.2.2.2.2.1)))) then
 bif (decide ((0 + ((List.length (List.take (Int.toNat (if (((List.length a0.2.2.2.2.1) : Nat) : Int) < a2 then (((List.length a0.2.2.2.2.1) : Nat) : Int) else a2)) a0.2.2.2.2.1)) * 1)) ≤ (List.length (List.take (Int.toNat (if (((List.length a0.2.2.2.2.1) : Nat) : Int) < a2 then (((List.length a0.2.2.2.2.1) : Nat) : Int) else a2)) a0.2.2.2.2.1)))) then
 some ((a0.1, (a0.2.1, (a0.2.2.1, (a0.2.2.2.1, ((List.take (List.length (List.drop (Int.toNat (if (((List.length a0.2.2.2.2.1) : Nat) : Int) < a2 then (((List.length a0.2.2.2.2.1) : Nat) : Int) else a2)) a0.2.2.2.2.1)) (List.drop 0 (List.drop (Int.toNat (if (((List.length a0.2.2.2.2.1) : Nat) : Int) < a2 then (((List.length a0.2.2.2.2.1) : Nat) : Int) else a2)) a0.2.2.2.2.1))), (a0.2.2.2.2.2.1, (a0.2.2.2.2.2.2.1, (a0.2.2.2.2.2.2.2.1, a0.2.2.2.2.2.2.2.2)))))))), (List.take (List.length (List.take (Int.toNat (if (((List.length a0.2.2.2.2.1) : Nat) : Int) < a2 then (((List.length a0.2.2.2.2.1) : Nat) : Int) else a2)) a0.2.2.2.2.1)) (List.drop 0 (List.take (Int.toNat (if (((List.length a0.2.2.2.2.1) : Nat) : Int) < a2 then (((List.length a0.2.2.2.2.1) : Nat) : Int) else a2)) a0.2.2.2.2.1))))
 else none
 else none
 else none
 else none
 else none
 else none
 else none
 else none
 else none
 else none

/-- euphroe/euphroeref38.Take -/
def p94 (c112 : D112) (c113 : D113) (N : Nat) (a0 : (List Int) × Int × Int × Int × (List Int) × Int × Int × Int × Bool) (a1 : Int) (a2 : Int) : Option (((List Int) × Int × Int × Int × (List Int) × Int × Int × Int × Bool) × (List Int) × Int) :=
  match c112 a1 with
 | none => none
 | some r1 =>
 bif (!r1) then
 some ((a0.1, (a0.2.1, (a0.2.2.1, (a0.2.2.2.1, (a0.2.2.2.2.1, (a0.2.2.2.2.2.1, (a0.2.2.2.2.2.2.1, (a0.2.2.2.2.2.2.2.1, a0.2.2.2.2.2.2.2.2)))))))), (([] : List Int), (1 : Int)))
 else
 bif (decide (a2 < (0 : Int))) then
 some ((a0.1, (a0.2.1, (a0.2.2.1, (a0.2.2.2.1, (a0.2.2.2.2.1, (a0.2.2.2.2.2.1, (a0.2.2.2.2.2.2.1, (a0.2.2.2.2.2.2.2.1, a0.2.2.2.2.2.2.2.2)))))))), (([] : List Int), (1 : Int)))
 else
 match c113 (a0.1, (a0.2.1, (a0.2.2.1, (a0.2.2.2.1, (a0.2.2.2.2.1, (a0.2.2.2.2.2.1, (a0.2.2.2.2.2.2.1, (a0.2.2.2.2.2.2.2.1, a0.2.2.2.2.2.2.2.2)))))))) a1 a2 with
 | none => none
 | some r2 =>
 bif ((decide ((0 : Int) ≤ a1)) && (decide (a1 < (2 : Int)))) then
 bif (Nat.beq (Int.toNat a1) 0) then
 bif ((decide ((0 : Int) ≤ a1)) && (decide (a1 < (2 : Int)))) then
 bif (Nat.beq (Int.toNat a1) 0) then
 some ((r2.1.1, (r2.1.2.1, ((iadd .i64 r2.1.2.2.1 (((List.length r2.2) : Nat) : Int)), (r2.1.2.2.2.1, (r2.1.2.2.2.2.1, (r2.1.2.2.2.2.2.1, (r2.1.2.2.2.2.2.2.1, (r2.1.2.2.2.2.2.2.2.1, r2.1.2.2.2.2.2.2.2.2)))))))), (r2.2, (0 : Int)))
 else
 bif (Nat.beq (Int.toNat a1) 1) then
 some ((r2.1.1, (r2.1.2.1, (r2.1.2.2.1, (r2.1.2.2.2.1, (r2.1.2.2.2.2.1, (r2.1.2.2.2.2.2.1, ((iadd .i64 r2.1.2.2.1 (((List.length r2.2) : Nat) : Int)), (r2.1.2.2.2.2.2.2.2.1, r2.1.2.2.2.2.2.2.2.2)))))))), (r2.2, (0 : Int)))
 else none
 else none
 else
 bif (Nat.beq (Int.toNat a1) 1) then
 bif ((decide ((0 : Int) ≤ a1)) && (decide (a1 < (2 : Int)))) then
 bif (Nat.beq (Int.toNat a1) 0) then
 some ((r2.1.1, (r2.1.2.1, ((iadd .i64 r2.1.2.2.2.2.2.2.1 (((List.length r2.2) : Nat) : Int)), (r2.1.2.2.2.1, (r2.1.2.2.2.2.1, (r2.1.2.2.2.2.2.1, (r2.1.2.2.2.2.2.2.1, (r2.1.2.2.2.2.2.2.2.1, r2.1.2.2.2.2.2.2.2.2)))))))), (r2.2, (0 : Int)))
 else
 bif (Nat.beq (Int.toNat a1) 1) then
 some ((r2.1.1, (r2.1.2.1, (r2.1.2.2.1, (r2.1.2.2.2.1, (r2.1.2.2.2.2.1, (r2.1.2.2.2.2.2.1, ((iadd .i64 r2.1.2.2.2.2.2.2.1 (((List.length r2.2) : Nat) : Int)), (r2.1.2.2.2.2.2.2.2.1, r2.1.2.2.2.2.2.2.2.2)))))))), (r2.2, (0 : Int)))
 else none
 else none
 else none
 else none

/-- (*euphroe/chans.Chan).Lose -/
def p87v1 (d111v0 : D111v0) (c108 : D108) (N : Nat) (a0 : Int) (a1 : Int) (a2 : List Int) (a3 : Int) (a4 : Int) (a5 : Int) (a6 : List Int) (a7 : Int) (a8 : Int) (a9 : Int) (a10 : Bool) : Option R87v1 :=
  match d111v0 a0 with
 | none => none
 | some r1 =>
 bif (!r1.1.1) then
 some ((((0 : Int), ((1 : Int), ())), ()), ((u33 (a2, (a3, (a4, (a5, (a6, (a7, (a8, (a9, (a10, ())))))))))), ()))
 else
 bif (decide (a1 < (0 : Int))) then
 some ((((0 : Int), ((1 : Int), ())), ()), ((u33 (a2, (a3, (a4, (a5, (a6, (a7, (a8, (a9, (a10, ())))))))))), ()))
 else
 bif ((decide ((0 : Int) ≤ a0)) && (decide (a0 < (2 : Int)))) then
 bif (Nat.beq (Int.toNat a0) 0) then
 bif ((decide ((0 : Int) ≤ (if (((List.length a2) : Nat) : Int) < a1 then (((List.length a2) : Nat) : Int) else a1))) && (decide ((if (((List.length a2) : Nat) : Int) < a1 then (((List.length a2) : Nat) : Int) else a1) ≤ (((List.length a2) : Nat) : Int)))) then
 match c108 (List.take (Int.toNat (if (((List.length a2) : Nat) : Int) < a1 then (((List.length a2) : Nat) : Int) else a1)) a2) with
 | none => none
 | some r2 =>
 bif ((decide ((0 : Int) ≤ (if (((List.length a2) : Nat) : Int) < a1 then (((List.length a2) : Nat) : Int) else a1))) && (decide ((if (((List.length a2) : Nat) : Int) < a1 then (((List.length a2) : Nat) : Int) else a1) ≤ (((List.length a2) : Nat) : Int)))) then
 bif ((decide ((0 : Int) ≤ a0)) && (decide (a0 < (2 : Int)))) then
 bif (Nat.beq (Int.toNat a0) 0) then
 bif ((decide ((0 : Int) ≤ a0)) && (decide (a0 < (2 : Int)))) then
 bif (Nat.beq (Int.toNat a0) 0) then
 some ((((((List.length r2) : Nat) : Int), ((0 : Int), ())), ()), ((u33 ((List.drop (Int.toNat (if (((List.length a2) : Nat) : Int) < a1 then (((List.length a2) : Nat) : Int) else a1)) a2), (a3, (a4, ((iadd .i64 a5 (((List.length r2) : Nat) : Int)), (a6, (a7, (a8, (a9, (a10, ())))))))))), ()))
 else
 bif (Nat.beq (Int.toNat a0) 1) then
 some ((((((List.length r2) : Nat) : Int), ((0 : Int), ())), ()), ((u33 ((List.drop (Int.toNat (if (((List.length a2) : Nat) : Int) < a1 then (((List.length a2) : Nat) : Int) else a1)) a2), (a3, (a4, (a5, (a6, (a7, (a8, ((iadd .i64 a5 (((List.length r2) : Nat) : Int)), (a10, ())))))))))), ()))
 else none
 else none
 else
 bif (Nat.beq (Int.toNat a0) 1) then
 bif ((decide ((0 : Int) ≤ a0)) && (decide (a0 < (2 : Int)))) then
 bif (Nat.beq (Int.toNat a0) 0) then
 some ((((((List.length r2) : Nat) : Int), ((0 : Int), ())), ()), ((u33 ((List.drop (Int.toNat (if (((List.length a2) : Nat) : Int) < a1 then (((List.length a2) : Nat) : Int) else a1)) a2), (a3, (a4, ((iadd .i64 a9 (((List.length r2) : Nat) : Int)), (a6, (a7, (a8, (a9, (a10, ())))))))))), ()))
 else
 bif (Nat.beq (Int.toNat a0) 1) then
 some ((((((List.length r2) : Nat) : Int), ((0 : Int), ())), ()), ((u33 ((List.drop (Int.toNat (if (((List.length a2) : Nat) : Int) < a1 then (((List.length a2) : Nat) : Int) else a1)) a2), (a3, (a4, (a5, (a6, (a7, (a8, ((iadd .i64 a9 (((List.length r2) : Nat) : Int)), (a10, ())))))))))), ()))
 else none
 else none
 else none
 else none
 else none
 else none
 else
 bif (Nat.beq (Int.toNat a0) 1) then
 bif ((decide ((0 : Int) ≤ (if (((List.length a6) : Nat) : Int) < a1 then (((List.length a6) : Nat) : Int) else a1))) && (decide ((if (((List.length a6) : Nat) : Int) < a1 then (((List.length a6) : Nat) : Int) else a1) ≤ (((List.length a6) : Nat) : Int)))) then
 match c108 (List.take (Int.toNat (if (((List.length a6) : Nat) : Int) < a1 then (((List.length a6) : Nat) : Int) else a1)) a6) with
 | none => none
 | some r3 =>
 bif ((decide ((0 : Int) ≤ (if (((List.length a6) : Nat) : Int) < a1 then (((List.length a6) : Nat) : Int) else a1))) && (decide ((if (((List.length a6) : Nat) : Int) < a1 then (((List.length a6) : Nat) : Int) else a1) ≤ (((List.length a6) : Nat) : Int)))) then
 bif ((decide ((0 : Int) ≤ a0)) && (decide (a0 < (2 : Int)))) then
 bif (Nat.beq (Int.toNat a0) 0) then
 bif ((decide ((0 : Int) ≤ a0)) && (decide (a0 < (2 : Int)))) then
 bif (Nat.beq (Int.toNat a0) 0) then
 some ((((((List.length r3) : Nat) : Int), ((0 : Int), ())), ()), ((u33 (a2, (a3, (a4, ((iadd .i64 a5 (((List.length r3) : Nat) : Int)), ((List.drop (Int.toNat (if (((List.length a6) : Nat) : Int) < a1 then (((List.length a6) : Nat) : Int) else a1)) a6), (a7, (a8, (a9, (a10, ())))))))))), ()))
 else
 bif (Nat.beq (Int.toNat a0) 1) then
 some ((((((List.length r3) : Nat) : Int), ((0 : Int), ())), ()), ((u33 (a2, (a3, (a4, (a5, ((List.drop (Int.toNat (if (((List.length a6) : Nat) : Int) < a1 then (((List.length a6) : Nat) : Int) else a1)) a6), (a7, (a8, ((iadd .i64 a5 (((List.length r3) : Nat) : Int)), (a10, ())))))))))), ()))
 else none
 else none
 else
 bif (Nat.beq (Int.toNat a0) 1) then
 bif ((decide ((0 : Int) ≤ a0)) && (decide (a0 < (2 : Int)))) then
 bif (Nat.beq (Int.toNat a0) 0) then
 some ((((((List.length r3) : Nat) : Int), ((0 : Int), ())), ()), ((u33 (a2, (a3, (a4, ((iadd .i64 a9 (((List.length r3) : Nat) : Int)), ((List.drop (Int.toNat (if (((List.length a6) : Nat) : Int) < a1 then (((List.length a6) : Nat) : Int) else a1)) a6), (a7, (a8, (a9, (a10, ())))))))))), ()))
 else
 bif (Nat.beq (Int.toNat a0) 1) then
 some ((((((List.length r3) : Nat) : Int), ((0 : Int), ())), ()), ((u33 (a2, (a3, (a4, (a5, ((List.drop (Int.toNat (if (((List.length a6) : Nat) : Int) < a1 then (((List.length a6) : Nat) : Int) else a1)) a6), (a7, (a8, ((iadd .i64 a9 (((List.length r3) : Nat) : Int)), (a10, ())))))))))), ()))
 else none
 else none
 else none
 else none
 else none
 else none
 else none
 else none

/-- euphroe/euphroeref38.Lose -/
def p95 (c112 : D112) (c113 : D113) (N : Nat) (a0 : (List Int) × Int × Int × Int × (List Int) × Int × Int × Int × Bool) (a1 : Int) (a2 : Int) : Option (((List Int) × Int × Int × Int × (List Int) × Int × Int × Int × Bool) × Int × Int) :=
  match c112 a1 with
 | none => none
 | some r1 =>
 bif (!r1) then
 some ((a0.1, (a0.2.1, (a0.2.2.1, (a0.2.2.2.1, (a0.2.2.2.2.1, (a0.2.2.2.2.2.1, (a0.2.2.2.2.2.2.1, (a0.2.2.2.2.2.2.2.1, a0.2.2.2.2.2.2.2.2)))))))), ((0 : Int), (1 : Int)))
 else
 bif (decide (a2 < (0 : Int))) then
 some ((a0.1, (a0.2.1, (a0.2.2.1, (a0.2.2.2.1, (a0.2.2.2.2.1, (a0.2.2.2.2.2.1, (a0.2.2.2.2.2.2.1, (a0.2.2.2.2.2.2.2.1, a0.2.2.2.2.2.2.2.2)))))))), ((0 : Int), (1 : Int)))
 else
 match c113 (a0.1, (a0.2.1, (a0.2.2.1, (a0.2.2.2.1, (a0.2.2.2.2.1, (a0.2.2.2.2.2.1, (a0.2.2.2.2.2.2.1, (a0.2.2.2.2.2.2.2.1, a0.2.2.2.2.2.2.2.2)))))))) a1 a2 with
 | none => none
 | some r2 =>
 bif ((decide ((0 : Int) ≤ a1)) && (decide (a1 < (2 : Int)))) then
 bif (Nat.beq (Int.toNat a1) 0) then
 bif ((decide ((0 : Int) ≤ a1)) && (decide (a1 < (2 : Int)))) then
 bif (Nat.beq (Int.toNat a1) 0) then
 some ((r2.1.1, (r2.1.2.1, (r2.1.2.2.1, ((iadd .i64 r2.1.2.2.2.1 (((List.length r2.2) : Nat) : Int)), (r2.1.2.2.2.2.1, (r2.1.2.2.2.2.2.1, (r2.1.2.2.2.2.2.2.1, (r2.1.2.2.2.2.2.2.2.1, r2.1.2.2.2.2.2.2.2.2)))))))), ((((List.length r2.2) : Nat) : Int), (0 : Int)))
 else
 bif (Nat.beq (Int.toNat a1) 1) then
 some ((r2.1.1, (r2.1.2.1, (r2.1.2.2.1, (r2.1.2.2.2.1, (r2.1.2.2.2.2.1, (r2.1.2.2.2.2.2.1, (r2.1.2.2.2.2.2.2.1, ((iadd .i64 r2.1.2.2.2.1 (((List.length r2.2) : Nat) : Int)), r2.1.2.2.2.2.2.2.2.2)))))))), ((((List.length r2.2) : Nat) : Int), (0 : Int)))
 else none
 else none
 else
 bif (Nat.beq (Int.toNat a1) 1) then
 bif ((decide ((0 : Int) ≤ a1)) && (decide (a1 < (2 : Int)))) then
 bif (Nat.beq (Int.toNat a1) 0) then
 some ((r2.1.1, (r2.1.2.1, (r2.1.2.2.1, ((iadd .i64 r2.1.2.2.2.2.2.2.2.1 (((List.length r2.2) : Nat) : Int)), (r2.1.2.2.2.2.1, (r2.1.2.2.2.2.2.1, (r2.1.2.2.2.2.2.2.1, (r2.1.2.2.2.2.2.2.2.1, r2.1.2.2.2.2.2.2.2.2)))))))), ((((List.length r2.2) : Nat) : Int), (0 : Int)))
 else
 bif (Nat.beq (Int.toNat a1) 1) then
 some ((r2.1.1, (r2.1.2.1, (r2.1.2.2.1, (r2.1.2.2.2.1, (r2.1.2.2.2.2.1, (r2.1.2.2.2.2.2.1, (r2.1.2.2.2.2.2.2.1, ((iadd .i64 r2.1.2.2.2.2.2.2.2.1 (((List.length r2.2) : Nat) : Int)), r2.1.2.2.2.2.2.2.2.2)))))))), ((((List.length r2.2) : Nat) : Int), (0 : Int)))
 else none
 else none
 else none
 else none

/-- (*euphroe/chans.Chan).Peek -/
def p90v1 (d111v0 : D111v0) (c108 : D108) (N : Nat) (a0 : Int) (a1 : List Int) (a2 : Int) (a3 : Int) (a4 : Int) (a5 : List Int) (a6 : Int) (a7 : Int) (a8 : Int) (a9 : Bool) : Option R90v1 :=
  match d111v0 a0 with
 | none => none
 | some r1 =>
 bif (!r1.1.1) then
 some ((([] : List Int), ()), ((u33 (a1, (a2, (a3, (a4, (a5, (a6, (a7, (a8, (a9, ())))))))))), ()))
 else
 bif ((decide ((0 : Int) ≤ a0)) && (decide (a0 < (2 : Int)))) then
 bif (Nat.beq (Int.toNat a0) 0) then
 match c108 a1 with
 | none => none
 | some r2 =>
 bif (decide ((0 + ((List.length r2) * 1)) ≤ (List.length r2))) then
 some (((List.take (List.length r2) (List.drop 0 r2)), ()), ((u33 (a1, (a2, (a3, (a4, (a5, (a6, (a7, (a8, (a9, ())))))))))), ()))
 else none
 else
 bif (Nat.beq (Int.toNat a0) 1) then
 match c108 a5 with
 | none => none
 | some r3 =>
 bif (decide ((0 + ((List.length r3) * 1)) ≤ (List.length r3))) then
 some (((List.take (List.length r3) (List.drop 0 r3)), ()), ((u33 (a1, (a2, (a3, (a4, (a5, (a6, (a7, (a8, (a9, ())))))))))), ()))
 else none
 else none
 else none

/-- (*euphroe/chans.Chan).Len -/
def p91v1 (d90v1 : D90v1) (N : Nat) (a0 : Int) (a1 : List Int) (a2 : Int) (a3 : Int) (a4 : Int) (a5 : List Int) (a6 : Int) (a7 : Int) (a8 : Int) (a9 : Bool) : Option R91v1 :=
  match d90v1 a0 a1 a2 a3 a4 a5 a6 a7 a8 a9 with
 | none => none
 | some r1 =>
 some (((((List.length r1.1.1) : Nat) : Int), ()), ((u33 ((t33 r1.2.1).1, ((t33 r1.2.1).2.1, ((t33 r1.2.1).2.2.1, ((t33 r1.2.1).2.2.2.1, ((t33 r1.2.1).2.2.2.2.1, ((t33 r1.2.1).2.2.2.2.2.1, ((t33 r1.2.1).2.2.2.2.2.2.1, ((t33 r1.2.1).2.2.2.2.2.2.2.1, ((t33 r1.2.1).2.2.2.2.2.2.2.2.1, ())))))))))), ()))

/-- euphroe/chans.Relay -/
def p92v1 (d111v0 : D111v0) (d91v1 : D91v1) (d88v2 : D88v2) (d86v2 : D86v2) (N : Nat) (a0 : Int) (a1 : Int) (a2 : Int) (a3 : List Int) (a4 : Int) (a5 : Int) (a6 : Int) (a7 : List Int) (a8 : Int) (a9 : Int) (a10 : Int) (a11 : Bool) : Option R92v1 :=
  match d111v0 a0 with
 | none => none
 | some r1 =>
 bif (!r1.1.1) then
 some ((((0 : Int), ((1 : Int), ())), ()), ((u33 (a3, (a4, (a5, (a6, (a7, (a8, (a9, (a10, (a11, ())))))))))), ()))
 else
 match d111v0 a1 with
 | none => none
 | some r2 =>
 bif (!r2.1.1) then
 some ((((0 : Int), ((1 : Int), ())), ()), ((u33 (a3, (a4, (a5, (a6, (a7, (a8, (a9, (a10, (a11, ())))))))))), ()))
 else
 bif (decide (a2 < (0 : Int))) then
 some ((((0 : Int), ((1 : Int), ())), ()), ((u33 (a3, (a4, (a5, (a6, (a7, (a8, (a9, (a10, (a11, ())))))))))), ()))
 else
 bif (a0 == a1) then
 some ((((0 : Int), ((1 : Int), ())), ()), ((u33 (a3, (a4, (a5, (a6, (a7, (a8, (a9, (a10, (a11, ())))))))))), ()))
 else
 match d91v1 a0 a3 a4 a5 a6 a7 a8 a9 a10 a11 with
 | none => none
 | some r3 =>
 bif (t33 r3.2.1).2.2.2.2.2.2.2.2.1 then
 some ((((0 : Int), ((11 : Int), ())), ()), ((u33 ((t33 r3.2.1).1, ((t33 r3.2.1).2.1, ((t33 r3.2.1).2.2.1, ((t33 r3.2.1).2.2.2.1, ((t33 r3.2.1).2.2.2.2.1, ((t33 r3.2.1).2.2.2.2.2.1, ((t33 r3.2.1).2.2.2.2.2.2.1, ((t33 r3.2.1).2.2.2.2.2.2.2.1, ((t33 r3.2.1).2.2.2.2.2.2.2.2.1, ())))))))))), ()))
 else
 bif ((decide ((0 : Int) ≤ a1)) && (decide (a1 < (2 : Int)))) then
 bif (Nat.beq (Int.toNat a1) 0) then
 bif (decide ((iadd .i64 (((List.length (t33 r3.2.1).1) : Nat) : Int) (if r3.1.1 < a2 then r3.1.1 else a2)) > (65536 : Int))) then
 some ((((0 : Int), ((12 : Int), ())), ()), ((u33 ((t33 r3.2.1).1, ((t33 r3.2.1).2.1, ((t33 r3.2.1).2.2.1, ((t33 r3.2.1).2.2.2.1, ((t33 r3.2.1).2.2.2.2.1, ((t33 r3.2.1).2.2.2.2.2.1, ((t33 r3.2.1).2.2.2.2.2.2.1, ((t33 r3.2.1).2.2.2.2.2.2.2.1, ((t33 r3.2.1).2.2.2.2.2.2.2.2.1, ())))))))))), ()))
 else
 match d88v2 a0 a2 (t33 r3.2.1).1 (t33 r3.2.1).2.1 (t33 r3.2.1).2.2.1 (t33 r3.2.1).2.2.2.1 (t33 r3.2.1).2.2.2.2.1 (t33 r3.2.1).2.2.2.2.2.1 (t33 r3.2.1).2.2.2.2.2.2.1 (t33 r3.2.1).2.2.2.2.2.2.2.1 (t33 r3.2.1).2.2.2.2.2.2.2.2.1 with
 | none => none
 | some r4 =>
 bif (r4.1.1.2.1 != (0 : Int)) then
 some ((((0 : Int), (r4.1.1.2.1, ())), ()), ((u33 ((t33 r4.2.1).1, ((t33 r4.2.1).2.1, ((t33 r4.2.1).2.2.1, ((t33 r4.2.1).2.2.2.1, ((t33 r4.2.1).2.2.2.2.1, ((t33 r4.2.1).2.2.2.2.2.1, ((t33 r4.2.1).2.2.2.2.2.2.1, ((t33 r4.2.1).2.2.2.2.2.2.2.1, ((t33 r4.2.1).2.2.2.2.2.2.2.2.1, ())))))))))), ()))
 else
 match d86v2 a1 r4.1.1.1 (t33 r4.2.1).1 (t33 r4.2.1).2.1 (t33 r4.2.1).2.2.1 (t33 r4.2.1).2.2.2.1 (t33 r4.2.1).2.2.2.2.1 (t33 r4.2.1).2.2.2.2.2.1 (t33 r4.2.1).2.2.2.2.2.2.1 (t33 r4.2.1).2.2.2.2.2.2.2.1 (t33 r4.2.1).2.2.2.2.2.2.2.2.1 with
 | none => none
 | some r5 =>
 some ((((((List.length r4.1.1.1) : Nat) : Int), (r5.1.1, ())), ()), ((u33 ((t33 r5.2.1).1, ((t33 r5.2.1).2.1, ((t33 r5.2.1).2.2.1, ((t33 r5.2.1).2.2.2.1, ((t33 r5.2.1).2.2.2.2.1, ((t33 r5.2.1).2.2.2.2.2.1, ((t33 r5.2.1).2.2.2.2.2.2.1, ((t33 r5.2.1).2.2.2.2.2.2.2.1, ((t33 r5.2.1).2.2.2.2.2.2.2.2.1, ())))))))))), ()))
 else
 bif (Nat.beq (Int.toNat a1) 1) then
 bif (decide ((iadd .i64 (((List.length (t33 r3.2.1).2.2.2.2.1) : Nat) : Int) (if r3.1.1 < a2 then r3.1.1 else a2)) > (65536 : Int))) then
 some ((((0 : Int), ((12 : Int), ())), ()), ((u33 ((t33 r3.2.1).1, ((t33 r3.2.1).2.1, ((t33 r3.2.1).2.2.1, ((t33 r3.2.1).2.2.2.1, ((t33 r3.2.1).2.2.2.2.1, ((t33 r3.2.1).2.2.2.2.2.1, ((t33 r3.2.1).2.2.2.2.2.2.1, ((t33 r3.2.1).2.2.2.2.2.2.2.1, ((t33 r3.2.1).2.2.2.2.2.2.2.2.1, ())))))))))), ()))
 else
 match d88v2 a0 a2 (t33 r3.2.1).1 (t33 r3.2.1).2.1 (t33 r3.2.1).2.2.1 (t33 r3.2.1).2.2.2.1 (t33 r3.2.1).2.2.2.2.1 (t33 r3.2.1).2.2.2.2.2.1 (t33 r3.2.1).2.2.2.2.2.2.1 (t33 r3.2.1).2.2.2.2.2.2.2.1 (t33 r3.2.1).2.2.2.2.2.2.2.2.1 with
 | none => none
 | some r6 =>
 bif (r6.1.1.2.1 != (0 : Int)) then
 some ((((0 : Int), (r6.1.1.2.1, ())), ()), ((u33 ((t33 r6.2.1).1, ((t33 r6.2.1).2.1, ((t33 r6.2.1).2.2.1, ((t33 r6.2.1).2.2.2.1, ((t33 r6.2.1).2.2.2.2.1, ((t33 r6.2.1).2.2.2.2.2.1, ((t33 r6.2.1).2.2.2.2.2.2.1, ((t33 r6.2.1).2.2.2.2.2.2.2.1, ((t33 r6.2.1).2.2.2.2.2.2.2.2.1, ())))))))))), ()))
 else
 match d86v2 a1 r6.1.1.1 (t33 r6.2.1).1 (t33 r6.2.1).2.1 (t33 r6.2.1).2.2.1 (t33 r6.2.1).2.2.2.1 (t33 r6.2.1).2.2.2.2.1 (t33 r6.2.1).2.2.2.2.2.1 (t33 r6.2.1).2.2.2.2.2.2.1 (t33 r6.2.1).2.2.2.2.2.2.2.1 (t33 r6.2.1).2.2.2.2.2.2.2.2.1 with
 | none => none
 | some r7 =>
 some ((((((List.length r6.1.1.1) : Nat) : Int), (r7.1.1, ())), ()), ((u33 ((t33 r7.2.1).1, ((t33 r7.2.1).2.1, ((t33 r7.2.1).2.2.1, ((t33 r7.2.1).2.2.2.1, ((t33 r7.2.1).2.2.2.2.1, ((t33 r7.2.1).2.2.2.2.2.1, ((t33 r7.2.1).2.2.2.2.2.2.1, ((t33 r7.2.1).2.2.2.2.2.2.2.1, ((t33 r7.2.1).2.2.2.2.2.2.2.2.1, ())))))))))), ()))
 else none
 else none

/-- (*euphroe/chans.Chan).Shut -/
def p97v0 (N : Nat) (a0 : List Int) (a1 : Int) (a2 : Int) (a3 : Int) (a4 : List Int) (a5 : Int) (a6 : Int) (a7 : Int) (a8 : Bool) : Option R97v0 :=
  some (((), ()), ((u33 (a0, (a1, (a2, (a3, (a4, (a5, (a6, (a7, (true, ())))))))))), ()))

/-- euphroe/chans.Relay -/
def p92v2 (d111v0 : D111v0) (d91v1 : D91v1) (d88v2 : D88v2) (d86v1 : D86v1) (N : Nat) (a0 : Int) (a1 : Int) (a2 : Int) (a3 : List Int) (a4 : Int) (a5 : Int) (a6 : Int) (a7 : List Int) (a8 : Int) (a9 : Int) (a10 : Int) (a11 : Bool) (a12 : List Int) (a13 : Int) (a14 : Int) (a15 : Int) (a16 : List Int) (a17 : Int) (a18 : Int) (a19 : Int) (a20 : Bool) : Option R92v2 :=
  match d111v0 a0 with
 | none => none
 | some r1 =>
 bif (!r1.1.1) then
 some ((((0 : Int), ((1 : Int), ())), ()), ((u33 (a3, (a4, (a5, (a6, (a7, (a8, (a9, (a10, (a11, ())))))))))), ((u33 (a12, (a13, (a14, (a15, (a16, (a17, (a18, (a19, (a20, ())))))))))), ())))
 else
 match d111v0 a1 with
 | none => none
 | some r2 =>
 bif (!r2.1.1) then
 some ((((0 : Int), ((1 : Int), ())), ()), ((u33 (a3, (a4, (a5, (a6, (a7, (a8, (a9, (a10, (a11, ())))))))))), ((u33 (a12, (a13, (a14, (a15, (a16, (a17, (a18, (a19, (a20, ())))))))))), ())))
 else
 bif (decide (a2 < (0 : Int))) then
 some ((((0 : Int), ((1 : Int), ())), ()), ((u33 (a3, (a4, (a5, (a6, (a7, (a8, (a9, (a10, (a11, ())))))))))), ((u33 (a12, (a13, (a14, (a15, (a16, (a17, (a18, (a19, (a20, ())))))))))), ())))
 else
 match d91v1 a0 a3 a4 a5 a6 a7 a8 a9 a10 a11 with
 | none => none
 | some r3 =>
 bif a20 then
 some ((((0 : Int), ((11 : Int), ())), ()), ((u33 ((t33 r3.2.1).1, ((t33 r3.2.1).2.1, ((t33 r3.2.1).2.2.1, ((t33 r3.2.1).2.2.2.1, ((t33 r3.2.1).2.2.2.2.1, ((t33 r3.2.1).2.2.2.2.2.1, ((t33 r3.2.1).2.2.2.2.2.2.1, ((t33 r3.2.1).2.2.2.2.2.2.2.1, ((t33 r3.2.1).2.2.2.2.2.2.2.2.1, ())))))))))), ((u33 (a12, (a13, (a14, (a15, (a16, (a17, (a18, (a19, (a20, ())))))))))), ())))
 else
 bif ((decide ((0 : Int) ≤ a1)) && (decide (a1 < (2 : Int)))) then
 bif (Nat.beq (Int.toNat a1) 0) then
 bif (decide ((iadd .i64 (((List.length a12) : Nat) : Int) (if r3.1.1 < a2 then r3.1.1 else a2)) > (65536 : Int))) then
 some ((((0 : Int), ((12 : Int), ())), ()), ((u33 ((t33 r3.2.1).1, ((t33 r3.2.1).2.1, ((t33 r3.2.1).2.2.1, ((t33 r3.2.1).2.2.2.1, ((t33 r3.2.1).2.2.2.2.1, ((t33 r3.2.1).2.2.2.2.2.1, ((t33 r3.2.1).2.2.2.2.2.2.1, ((t33 r3.2.1).2.2.2.2.2.2.2.1, ((t33 r3.2.1).2.2.2.2.2.2.2.2.1, ())))))))))), ((u33 (a12, (a13, (a14, (a15, (a16, (a17, (a18, (a19, (a20, ())))))))))), ())))
 else
 match d88v2 a0 a2 (t33 r3.2.1).1 (t33 r3.2.1).2.1 (t33 r3.2.1).2.2.1 (t33 r3.2.1).2.2.2.1 (t33 r3.2.1).2.2.2.2.1 (t33 r3.2.1).2.2.2.2.2.1 (t33 r3.2.1).2.2.2.2.2.2.1 (t33 r3.2.1).2.2.2.2.2.2.2.1 (t33 r3.2.1).2.2.2.2.2.2.2.2.1 with
 | none => none
 | some r4 =>
 bif (r4.1.1.2.1 != (0 : Int)) then
 some ((((0 : Int), (r4.1.1.2.1, ())), ()), ((u33 ((t33 r4.2.1).1, ((t33 r4.2.1).2.1, ((t33 r4.2.1).2.2.1, ((t33 r4.2.1).2.2.2.1, ((t33 r4.2.1).2.2.2.2.1, ((t33 r4.2.1).2.2.2.2.2.1, ((t33 r4.2.1).2.2.2.2.2.2.1, ((t33 r4.2.1).2.2.2.2.2.2.2.1, ((t33 r4.2.1).2.2.2.2.2.2.2.2.1, ())))))))))), ((u33 (a12, (a13, (a14, (a15, (a16, (a17, (a18, (a19, (a20, ())))))))))), ())))
 else
 match d86v1 a1 r4.1.1.1 a12 a13 a14 a15 a16 a17 a18 a19 a20 with
 | none => none
 | some r5 =>
 some ((((((List.length r4.1.1.1) : Nat) : Int), (r5.1.1, ())), ()), ((u33 ((t33 r4.2.1).1, ((t33 r4.2.1).2.1, ((t33 r4.2.1).2.2.1, ((t33 r4.2.1).2.2.2.1, ((t33 r4.2.1).2.2.2.2.1, ((t33 r4.2.1).2.2.2.2.2.1, ((t33 r4.2.1).2.2.2.2.2.2.1, ((t33 r4.2.1).2.2.2.2.2.2.2.1, ((t33 r4.2.1).2.2.2.2.2.2.2.2.1, ())))))))))), ((u33 ((t33 r5.2.1).1, ((t33 r5.2.1).2.1, ((t33 r5.2.1).2.2.1, ((t33 r5.2.1).2.2.2.1, ((t33 r5.2.1).2.2.2.2.1, ((t33 r5.2.1).2.2.2.2.2.1, ((t33 r5.2.1).2.2.2.2.2.2.1, ((t33 r5.2.1).2.2.2.2.2.2.2.1, ((t33 r5.2.1).2.2.2.2.2.2.2.2.1, ())))))))))), ())))
 else
 bif (Nat.beq (Int.toNat a1) 1) then
 bif (decide ((iadd .i64 (((List.length a16) : Nat) : Int) (if r3.1.1 < a2 then r3.1.1 else a2)) > (65536 : Int))) then
 some ((((0 : Int), ((12 : Int), ())), ()), ((u33 ((t33 r3.2.1).1, ((t33 r3.2.1).2.1, ((t33 r3.2.1).2.2.1, ((t33 r3.2.1).2.2.2.1, ((t33 r3.2.1).2.2.2.2.1, ((t33 r3.2.1).2.2.2.2.2.1, ((t33 r3.2.1).2.2.2.2.2.2.1, ((t33 r3.2.1).2.2.2.2.2.2.2.1, ((t33 r3.2.1).2.2.2.2.2.2.2.2.1, ())))))))))), ((u33 (a12, (a13, (a14, (a15, (a16, (a17, (a18, (a19, (a20, ())))))))))), ())))
 else
 match d88v2 a0 a2 (t33 r3.2.1).1 (t33 r3.2.1).2.1 (t33 r3.2.1).2.2.1 (t33 r3.2.1).2.2.2.1 (t33 r3.2.1).2.2.2.2.1 (t33 r3.2.1).2.2.2.2.2.1 (t33 r3.2.1).2.2.2.2.2.2.1 (t33 r3.2.1).2.2.2.2.2.2.2.1 (t33 r3.2.1).2.2.2.2.2.2.2.2.1 with
 | none => none
 | some r6 =>
 bif (r6.1.1.2.1 != (0 : Int)) then
 some ((((0 : Int), (r6.1.1.2.1, ())), ()), ((u33 ((t33 r6.2.1).1, ((t33 r6.2.1).2.1, ((t33 r6.2.1).2.2.1, ((t33 r6.2.1).2.2.2.1, ((t33 r6.2.1).2.2.2.2.1, ((t33 r6.2.1).2.2.2.2.2.1, ((t33 r6.2.1).2.2.2.2.2.2.1, ((t33 r6.2.1).2.2.2.2.2.2.2.1, ((t33 r6.2.1).2.2.2.2.2.2.2.2.1, ())))))))))), ((u33 (a12, (a13, (a14, (a15, (a16, (a17, (a18, (a19, (a20, ())))))))))), ())))
 else
 match d86v1 a1 r6.1.1.1 a12 a13 a14 a15 a16 a17 a18 a19 a20 with
 | none => none
 | some r7 =>
 some ((((((List.length r6.1.1.1) : Nat) : Int), (r7.1.1, ())), ()), ((u33 ((t33 r6.2.1).1, ((t33 r6.2.1).2.1, ((t33 r6.2.1).2.2.1, ((t33 r6.2.1).2.2.2.1, ((t33 r6.2.1).2.2.2.2.1, ((t33 r6.2.1).2.2.2.2.2.1, ((t33 r6.2.1).2.2.2.2.2.2.1, ((t33 r6.2.1).2.2.2.2.2.2.2.1, ((t33 r6.2.1).2.2.2.2.2.2.2.2.1, ())))))))))), ((u33 ((t33 r7.2.1).1, ((t33 r7.2.1).2.1, ((t33 r7.2.1).2.2.1, ((t33 r7.2.1).2.2.2.1, ((t33 r7.2.1).2.2.2.2.1, ((t33 r7.2.1).2.2.2.2.2.1, ((t33 r7.2.1).2.2.2.2.2.2.1, ((t33 r7.2.1).2.2.2.2.2.2.2.1, ((t33 r7.2.1).2.2.2.2.2.2.2.2.1, ())))))))))), ())))
 else none
 else none

/-- (*euphroe/chans.Chan).Lose -/
def p87v2 (d111v0 : D111v0) (c108 : D108) (N : Nat) (a0 : Int) (a1 : Int) (a2 : List Int) (a3 : Int) (a4 : Int) (a5 : Int) (a6 : List Int) (a7 : Int) (a8 : Int) (a9 : Int) (a10 : Bool) : Option R87v2 :=
  match d111v0 a0 with
 | none => none
 | some r1 =>
 bif (!r1.1.1) then
 some ((((0 : Int), ((1 : Int), ())), ()), ((u33 (a2, (a3, (a4, (a5, (a6, (a7, (a8, (a9, (a10, ())))))))))), ()))
 else
 bif (decide (a1 < (0 : Int))) then
 some ((((0 : Int), ((1 : Int), ())), ()), ((u33 (a2, (a3, (a4, (a5, (a6, (a7, (a8, (a9, (a10, ())))))))))), ()))
 else
 bif ((decide ((0 : Int) ≤ a0)) && (decide (a0 < (2 : Int)))) then
 bif (Nat.beq (Int.toNat a0) 0) then
 bif ((decide ((0 : Int) ≤ (if (((List.length a2) : Nat) : Int) < a1 then (((List.length a2) : Nat) : Int) else a1))) && (decide ((if (((List.length a2) : Nat) : Int) < a1 then (((List.length a2) : Nat) : Int) else a1) ≤ (((List.length a2) : Nat) : Int)))) then
 match c108 (List.take (Int.toNat (if (((List.length a2) : Nat) : Int) < a1 then (((List.length a2) : Nat) : Int) else a1)) a2) with
 | none => none
 | some r2 =>
 bif ((decide ((0 : Int) ≤ (if (((List.length a2) : Nat) : Int) < a1 then (((List.length a2) : Nat) : Int) else a1))) && (decide ((if (((List.length a2) : Nat) : Int) < a1 then (((List.length a2) : Nat) : Int) else a1) ≤ (((List.length a2) : Nat) : Int)))) then
 bif ((decide ((0 : Int) ≤ a0)) && (decide (a0 < (2 : Int)))) then
 bif (Nat.beq (Int.toNat a0) 0) then
 bif ((decide ((0 : Int) ≤ a0)) && (decide (a0 < (2 : Int)))) then
 bif (Nat.beq (Int.toNat a0) 0) then
 some ((((((List.length r2) : Nat) : Int), ((0 : Int), ())), ()), ((u33 ((List.drop (Int.toNat (if (((List.length a2) : Nat) : Int) < a1 then (((List.length a2) : Nat) : Int) else a1)) a2), (a3, (a4, ((iadd .i64 a5 (((List.length r2) : Nat) : Int)), (a6, (a7, (a8, (a9, (a10, ())))))))))), ()))
 else
 bif (Nat.beq (Int.toNat a0) 1) then
 some ((((((List.length r2) : Nat) : Int), ((0 : Int), ())), ()), ((u33 ((List.drop (Int.toNat (if (((List.length a2) : Nat) : Int) < a1 then (((List.length a2) : Nat) : Int) else a1)) a2), (a3, (a4, (a5, (a6, (a7, (a8, ((iadd .i64 a5 (((List.length r2) : Nat) : Int)), (a10, ())))))))))), ()))
 else none
 else none
 else
 bif (Nat.beq (Int.toNat a0) 1) then
 bif ((decide ((0 : Int) ≤ a0)) && (decide (a0 < (2 : Int)))) then
 bif (Nat.beq (Int.toNat a0) 0) then
 some ((((((List.length r2) : Nat) : Int), ((0 : Int), ())), ()), ((u33 ((List.drop (Int.toNat (if (((List.length a2) : Nat) : Int) < a1 then (((List.length a2) : Nat) : Int) else a1)) a2), (a3, (a4, ((iadd .i64 a9 (((List.length r2) : Nat) : Int)), (a6, (a7, (a8, (a9, (a10, ())))))))))), ()))
 else
 bif (Nat.beq (Int.toNat a0) 1) then
 some ((((((List.length r2) : Nat) : Int), ((0 : Int), ())), ()), ((u33 ((List.drop (Int.toNat (if (((List.length a2) : Nat) : Int) < a1 then (((List.length a2) : Nat) : Int) else a1)) a2), (a3, (a4, (a5, (a6, (a7, (a8, ((iadd .i64 a9 (((List.length r2) : Nat) : Int)), (a10, ())))))))))), ()))
 else none
 else none
 else none
 else none
 else none
 else none
 else
 bif (Nat.beq (Int.toNat a0) 1) then
 bif ((decide ((0 : Int) ≤ (if (((List.length a6) : Nat) : Int) < a1 then (((List.length a6) : Nat) : Int) else a1))) && (decide ((if (((List.length a6) : Nat) : Int) < a1 then (((List.length a6) : Nat) : Int) else a1) ≤ (((List.length a6) : Nat) : Int)))) then
 match c108 (List.take (Int.toNat (if (((List.length a6) : Nat) : Int) < a1 then (((List.length a6) : Nat) : Int) else a1)) a6) with
 | none => none
 | some r3 =>
 bif ((decide ((0 : Int) ≤ (if (((List.length a6) : Nat) : Int) < a1 then (((List.length a6) : Nat) : Int) else a1))) && (decide ((if (((List.length a6) : Nat) : Int) < a1 then (((List.length a6) : Nat) : Int) else a1) ≤ (((List.length a6) : Nat) : Int)))) then
 bif ((decide ((0 : Int) ≤ a0)) && (decide (a0 < (2 : Int)))) then
 bif (Nat.beq (Int.toNat a0) 0) then
 bif ((decide ((0 : Int) ≤ a0)) && (decide (a0 < (2 : Int)))) then
 bif (Nat.beq (Int.toNat a0) 0) then
 some ((((((List.length r3) : Nat) : Int), ((0 : Int), ())), ()), ((u33 (a2, (a3, (a4, ((iadd .i64 a5 (((List.length r3) : Nat) : Int)), ((List.drop (Int.toNat (if (((List.length a6) : Nat) : Int) < a1 then (((List.length a6) : Nat) : Int) else a1)) a6), (a7, (a8, (a9, (a10, ())))))))))), ()))
 else
 bif (Nat.beq (Int.toNat a0) 1) then
 some ((((((List.length r3) : Nat) : Int), ((0 : Int), ())), ()), ((u33 (a2, (a3, (a4, (a5, ((List.drop (Int.toNat (if (((List.length a6) : Nat) : Int) < a1 then (((List.length a6) : Nat) : Int) else a1)) a6), (a7, (a8, ((iadd .i64 a5 (((List.length r3) : Nat) : Int)), (a10, ())))))))))), ()))
 else none
 else none
 else
 bif (Nat.beq (Int.toNat a0) 1) then
 bif ((decide ((0 : Int) ≤ a0)) && (decide (a0 < (2 : Int)))) then
 bif (Nat.beq (Int.toNat a0) 0) then
 some ((((((List.length r3) : Nat) : Int), ((0 : Int), ())), ()), ((u33 (a2, (a3, (a4, ((iadd .i64 a9 (((List.length r3) : Nat) : Int)), ((List.drop (Int.toNat (if (((List.length a6) : Nat) : Int) < a1 then (((List.length a6) : Nat) : Int) else a1)) a6), (a7, (a8, (a9, (a10, ())))))))))), ()))
 else
 bif (Nat.beq (Int.toNat a0) 1) then
 some ((((((List.length r3) : Nat) : Int), ((0 : Int), ())), ()), ((u33 (a2, (a3, (a4, (a5, ((List.drop (Int.toNat (if (((List.length a6) : Nat) : Int) < a1 then (((List.length a6) : Nat) : Int) else a1)) a6), (a7, (a8, ((iadd .i64 a9 (((List.length r3) : Nat) : Int)), (a10, ())))))))))), ()))
 else none
 else none
 else none
 else none
 else none
 else none
 else none
 else none

/-- euphroe/chans.Relay -/
def p92v3 (d111v0 : D111v0) (d91v0 : D91v0) (d88v1 : D88v1) (d86v1 : D86v1) (N : Nat) (a0 : Int) (a1 : Int) (a2 : Int) (a3 : List Int) (a4 : Int) (a5 : Int) (a6 : Int) (a7 : List Int) (a8 : Int) (a9 : Int) (a10 : Int) (a11 : Bool) : Option R92v3 :=
  match d111v0 a0 with
 | none => none
 | some r1 =>
 bif (!r1.1.1) then
 some ((((0 : Int), ((1 : Int), ())), ()), ((u33 (a3, (a4, (a5, (a6, (a7, (a8, (a9, (a10, (a11, ())))))))))), ()))
 else
 match d111v0 a1 with
 | none => none
 | some r2 =>
 bif (!r2.1.1) then
 some ((((0 : Int), ((1 : Int), ())), ()), ((u33 (a3, (a4, (a5, (a6, (a7, (a8, (a9, (a10, (a11, ())))))))))), ()))
 else
 bif (decide (a2 < (0 : Int))) then
 some ((((0 : Int), ((1 : Int), ())), ()), ((u33 (a3, (a4, (a5, (a6, (a7, (a8, (a9, (a10, (a11, ())))))))))), ()))
 else
 bif (a0 == a1) then
 some ((((0 : Int), ((1 : Int), ())), ()), ((u33 (a3, (a4, (a5, (a6, (a7, (a8, (a9, (a10, (a11, ())))))))))), ()))
 else
 match d91v0 a0 a3 a4 a5 a6 a7 a8 a9 a10 a11 with
 | none => none
 | some r3 =>
 bif (t33 r3.2.1).2.2.2.2.2.2.2.2.1 then
 some ((((0 : Int), ((11 : Int), ())), ()), ((u33 ((t33 r3.2.1).1, ((t33 r3.2.1).2.1, ((t33 r3.2.1).2.2.1, ((t33 r3.2.1).2.2.2.1, ((t33 r3.2.1).2.2.2.2.1, ((t33 r3.2.1).2.2.2.2.2.1, ((t33 r3.2.1).2.2.2.2.2.2.1, ((t33 r3.2.1).2.2.2.2.2.2.2.1, ((t33 r3.2.1).2.2.2.2.2.2.2.2.1, ())))))))))), ()))
 else
 bif ((decide ((0 : Int) ≤ a1)) && (decide (a1 < (2 : Int)))) then
 bif (Nat.beq (Int.toNat a1) 0) then
 bif (decide ((iadd .i64 (((List.length (t33 r3.2.1).1) : Nat) : Int) (if r3.1.1 < a2 then r3.1.1 else a2)) > (65536 : Int))) then
 some ((((0 : Int), ((12 : Int), ())), ()), ((u33 ((t33 r3.2.1).1, ((t33 r3.2.1).2.1, ((t33 r3.2.1).2.2.1, ((t33 r3.2.1).2.2.2.1, ((t33 r3.2.1).2.2.2.2.1, ((t33 r3.2.1).2.2.2.2.2.1, ((t33 r3.2.1).2.2.2.2.2.2.1, ((t33 r3.2.1).2.2.2.2.2.2.2.1, ((t33 r3.2.1).2.2.2.2.2.2.2.2.1, ())))))))))), ()))
 else
 match d88v1 a0 a2 (t33 r3.2.1).1 (t33 r3.2.1).2.1 (t33 r3.2.1).2.2.1 (t33 r3.2.1).2.2.2.1 (t33 r3.2.1).2.2.2.2.1 (t33 r3.2.1).2.2.2.2.2.1 (t33 r3.2.1).2.2.2.2.2.2.1 (t33 r3.2.1).2.2.2.2.2.2.2.1 (t33 r3.2.1).2.2.2.2.2.2.2.2.1 with
 | none => none
 | some r4 =>
 bif (r4.1.1.2.1 != (0 : Int)) then
 some ((((0 : Int), (r4.1.1.2.1, ())), ()), ((u33 ((t33 r4.2.1).1, ((t33 r4.2.1).2.1, ((t33 r4.2.1).2.2.1, ((t33 r4.2.1).2.2.2.1, ((t33 r4.2.1).2.2.2.2.1, ((t33 r4.2.1).2.2.2.2.2.1, ((t33 r4.2.1).2.2.2.2.2.2.1, ((t33 r4.2.1).2.2.2.2.2.2.2.1, ((t33 r4.2.1).2.2.2.2.2.2.2.2.1, ())))))))))), ()))
 else
 match d86v1 a1 r4.1.1.1 (t33 r4.2.1).1 (t33 r4.2.1).2.1 (t33 r4.2.1).2.2.1 (t33 r4.2.1).2.2.2.1 (t33 r4.2.1).2.2.2.2.1 (t33 r4.2.1).2.2.2.2.2.1 (t33 r4.2.1).2.2.2.2.2.2.1 (t33 r4.2.1).2.2.2.2.2.2.2.1 (t33 r4.2.1).2.2.2.2.2.2.2.2.1 with
 | none => none
 | some r5 =>
 some ((((((List.length r4.1.1.1) : Nat) : Int), (r5.1.1, ())), ()), ((u33 ((t33 r5.2.1).1, ((t33 r5.2.1).2.1, ((t33 r5.2.1).2.2.1, ((t33 r5.2.1).2.2.2.1, ((t33 r5.2.1).2.2.2.2.1, ((t33 r5.2.1).2.2.2.2.2.1, ((t33 r5.2.1).2.2.2.2.2.2.1, ((t33 r5.2.1).2.2.2.2.2.2.2.1, ((t33 r5.2.1).2.2.2.2.2.2.2.2.1, ())))))))))), ()))
 else
 bif (Nat.beq (Int.toNat a1) 1) then
 bif (decide ((iadd .i64 (((List.length (t33 r3.2.1).2.2.2.2.1) : Nat) : Int) (if r3.1.1 < a2 then r3.1.1 else a2)) > (65536 : Int))) then
 some ((((0 : Int), ((12 : Int), ())), ()), ((u33 ((t33 r3.2.1).1, ((t33 r3.2.1).2.1, ((t33 r3.2.1).2.2.1, ((t33 r3.2.1).2.2.2.1, ((t33 r3.2.1).2.2.2.2.1, ((t33 r3.2.1).2.2.2.2.2.1, ((t33 r3.2.1).2.2.2.2.2.2.1, ((t33 r3.2.1).2.2.2.2.2.2.2.1, ((t33 r3.2.1).2.2.2.2.2.2.2.2.1, ())))))))))), ()))
 else
 match d88v1 a0 a2 (t33 r3.2.1).1 (t33 r3.2.1).2.1 (t33 r3.2.1).2.2.1 (t33 r3.2.1).2.2.2.1 (t33 r3.2.1).2.2.2.2.1 (t33 r3.2.1).2.2.2.2.2.1 (t33 r3.2.1).2.2.2.2.2.2.1 (t33 r3.2.1).2.2.2.2.2.2.2.1 (t33 r3.2.1).2.2.2.2.2.2.2.2.1 with
 | none => none
 | some r6 =>
 bif (r6.1.1.2.1 != (0 : Int)) then
 some ((((0 : Int), (r6.1.1.2.1, ())), ()), ((u33 ((t33 r6.2.1).1, ((t33 r6.2.1).2.1, ((t33 r6.2.1).2.2.1, ((t33 r6.2.1).2.2.2.1, ((t33 r6.2.1).2.2.2.2.1, ((t33 r6.2.1).2.2.2.2.2.1, ((t33 r6.2.1).2.2.2.2.2.2.1, ((t33 r6.2.1).2.2.2.2.2.2.2.1, ((t33 r6.2.1).2.2.2.2.2.2.2.2.1, ())))))))))), ()))
 else
 match d86v1 a1 r6.1.1.1 (t33 r6.2.1).1 (t33 r6.2.1).2.1 (t33 r6.2.1).2.2.1 (t33 r6.2.1).2.2.2.1 (t33 r6.2.1).2.2.2.2.1 (t33 r6.2.1).2.2.2.2.2.1 (t33 r6.2.1).2.2.2.2.2.2.1 (t33 r6.2.1).2.2.2.2.2.2.2.1 (t33 r6.2.1).2.2.2.2.2.2.2.2.1 with
 | none => none
 | some r7 =>
 some ((((((List.length r6.1.1.1) : Nat) : Int), (r7.1.1, ())), ()), ((u33 ((t33 r7.2.1).1, ((t33 r7.2.1).2.1, ((t33 r7.2.1).2.2.1, ((t33 r7.2.1).2.2.2.1, ((t33 r7.2.1).2.2.2.2.1, ((t33 r7.2.1).2.2.2.2.2.1, ((t33 r7.2.1).2.2.2.2.2.2.1, ((t33 r7.2.1).2.2.2.2.2.2.2.1, ((t33 r7.2.1).2.2.2.2.2.2.2.2.1, ())))))))))), ()))
 else none
 else none

/-- (*euphroe/chans.Chan).Shut -/
def p97v1 (N : Nat) (a0 : List Int) (a1 : Int) (a2 : Int) (a3 : Int) (a4 : List Int) (a5 : Int) (a6 : Int) (a7 : Int) (a8 : Bool) : Option R97v1 :=
  some (((), ()), ((u33 (a0, (a1, (a2, (a3, (a4, (a5, (a6, (a7, (true, ())))))))))), ()))

end Go.Proofs.YtcnkihdjenjdgaaE
