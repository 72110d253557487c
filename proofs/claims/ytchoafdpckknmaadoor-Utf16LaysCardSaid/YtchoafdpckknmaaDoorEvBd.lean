/- A strings.Builder of one's own: what WriteRune and String do (contracts of the library, at this program's numbers). -/
import Derived.Shelf.Strings.BuilderRune
import Derived.Test.YtchoafdpckknmaaDoorProg
import Derived.KernelRfl
namespace Go.Proofs.YtchoafdpckknmaaDoorE.U0
open Go Go.Proofs
def rn : Go.Shelf.Ren := ⟨fun | 168 => 24 | 240 => 31 | 242 => 32 | 276 => 36 | 278 => 37 | 169 => 25 | n => n, fun | 37 => 23 | 46 => 45 | 51 => 75 | 70 => 48 | 72 => 50 | 75 => 54 | 80 => 57 | 127 => 69 | 164 => 73 | n => n, fun n => n⟩
theorem ly168 : Lays.n168 Tryd.prog rn := {
  mixed := by kernel_rfl,
  f168 := Tryd.func24.trans (congrArg some (by kernel_rfl)),
  f240 := Tryd.func31.trans (congrArg some (by kernel_rfl)),
  f242 := Tryd.func32.trans (congrArg some (by kernel_rfl)),
  f276 := Tryd.func36.trans (congrArg some (by kernel_rfl)),
  f278 := Tryd.func37.trans (congrArg some (by kernel_rfl)),
  t0 := Tryd.underlying0, a0 := Tryd.isAgg0, z0 := Tryd.sizeOf0, v0 := Tryd.zeroValue0,
  t3 := Tryd.underlying3, a3 := Tryd.isAgg3, z3 := Tryd.sizeOf3, v3 := Tryd.zeroValue3,
  t4 := Tryd.underlying4, a4 := Tryd.isAgg4, z4 := Tryd.sizeOf4, v4 := Tryd.zeroValue4,
  t5 := Tryd.underlying5, a5 := Tryd.isAgg5, z5 := Tryd.sizeOf5, v5 := Tryd.zeroValue5,
  t9 := Tryd.underlying9, a9 := Tryd.isAgg9, z9 := Tryd.sizeOf9, v9 := Tryd.zeroValue9,
  t20 := Tryd.underlying20, a20 := Tryd.isAgg20, z20 := Tryd.sizeOf20, v20 := Tryd.zeroValue20,
  t21 := Tryd.underlying21, a21 := Tryd.isAgg21, z21 := Tryd.sizeOf21, v21 := Tryd.zeroValue21,
  t37 := Tryd.underlying23, a37 := Tryd.isAgg23, z37 := Tryd.sizeOf23, v37 := Tryd.zeroValue23,
  t46 := Tryd.underlying45, a46 := Tryd.isAgg45, z46 := Tryd.sizeOf45, v46 := Tryd.zeroValue45,
  t51 := Tryd.underlying75, a51 := Tryd.isAgg75, z51 := Tryd.sizeOf75, v51 := Tryd.zeroValue75,
  t70 := Tryd.underlying48, a70 := Tryd.isAgg48, z70 := Tryd.sizeOf48, v70 := Tryd.zeroValue48,
  t72 := Tryd.underlying50, a72 := Tryd.isAgg50, z72 := Tryd.sizeOf50, v72 := Tryd.zeroValue50,
  t75 := Tryd.underlying54, a75 := Tryd.isAgg54, z75 := Tryd.sizeOf54, v75 := Tryd.zeroValue54,
  t164 := Tryd.underlying73, a164 := Tryd.isAgg73, z164 := Tryd.sizeOf73, v164 := Tryd.zeroValue73 }
theorem ly169 : Lays.n169 Tryd.prog rn := {
  mixed := by kernel_rfl,
  f169 := Tryd.func25.trans (congrArg some (by kernel_rfl)),
  t0 := Tryd.underlying0, a0 := Tryd.isAgg0, z0 := Tryd.sizeOf0, v0 := Tryd.zeroValue0,
  t3 := Tryd.underlying3, a3 := Tryd.isAgg3, z3 := Tryd.sizeOf3, v3 := Tryd.zeroValue3,
  t9 := Tryd.underlying9, a9 := Tryd.isAgg9, z9 := Tryd.sizeOf9, v9 := Tryd.zeroValue9,
  t37 := Tryd.underlying23, a37 := Tryd.isAgg23, z37 := Tryd.sizeOf23, v37 := Tryd.zeroValue23,
  t70 := Tryd.underlying48, a70 := Tryd.isAgg48, z70 := Tryd.sizeOf48, v70 := Tryd.zeroValue48,
  t72 := Tryd.underlying50, a72 := Tryd.isAgg50, z72 := Tryd.sizeOf50, v72 := Tryd.zeroValue50,
  t127 := Tryd.underlying69, a127 := Tryd.isAgg69, z127 := Tryd.sizeOf69, v127 := Tryd.zeroValue69 }
theorem bx : Builder.Extra Tryd.prog rn := {
  sizeBuilder := by kernel_rfl,
  liesBuilder := by kernel_rfl,
  t5 := Tryd.underlying5, a5 := Tryd.isAgg5, z5 := Tryd.sizeOf5, v5 := Tryd.zeroValue5,
  infoByte := by kernel_rfl,
  cellsByte := by kernel_rfl,
  sizeByte := by kernel_rfl,
  neB5 := by decide }
theorem writeRune (B b : Nat) (bs : List Value) (r : Int) (hr0 : -2147483648 ≤ r) (hr1 : r ≤ 2147483647) (w : World) (h : Lib.IsBuilderF 50 5 B b bs w) (hlen : bs.length + 4 ≤ 140737488355328) (hBw : B ≤ w.heap.size) :
    Calls Tryd.prog 24 #[.pointer (some ⟨b, 0, none⟩), .int .i32 r] w fun e w' => e = .returned (.tuple #[.int .i64 (Lib.runeCells r).length, .nilIface]) ∧ (Lib.BuilderAtF 50 5 B b (.pointer (some ⟨b, 0, none⟩)) (bs ++ Lib.runeCells r) w' ∧ RowKit.Below B w w' ∧ Lib.OthersKept 5 (some b) w w') :=
  Any.Builder_WriteRune_k ly168 bx B b bs r hr0 hr1 w h hlen hBw
theorem stringOf (B b : Nat) (l : List UInt8) (w : World) (h : Lib.IsBuilderF 50 5 B b (Lib.byteCells l) w) (hBw : B ≤ w.heap.size) :
    Calls Tryd.prog 25 #[.pointer (some ⟨b, 0, none⟩)] w fun e w' => e = .returned (.string ⟨l.toArray⟩) ∧ (Lib.IsBuilderF 50 5 B b (Lib.byteCells l) w' ∧ RowKit.Below B w w' ∧ Lib.OthersKept 5 (some b) w w') :=
  Any.Builder_String_any_k ly169 bx B b l w h hBw
end Go.Proofs.YtchoafdpckknmaaDoorE.U0
