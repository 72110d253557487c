/- Text, Size, Kind: what only reads. -/
import Derived.Test.YthigfakjiknhcaaDoorTa
import Derived.Deep.QuietTactic
import Derived.Deep.TreeCalls
import Derived.Deep.RegionWith
import Derived.BigCall
import Derived.KernelRfl
namespace Go.Proofs.YthigfakjiknhcaaDoorT
open Go Go.Proofs Go.RowKit
set_option linter.unusedSimpArgs false
set_option linter.unusedVariables false
/-! ### what an interface holds -/
@[go_sem] theorem ta62_62 (v : Value) (w : World) : (Instr.typeAssert (.iface 62 v) 47 62 true).run Tryd.prog w = .ok (.tuple #[v, .bool true]) w := by kernel_rfl
@[go_sem] theorem tb62_62 (v : Value) (w : World) : (Instr.typeAssert (.iface 62 v) 47 62 false).run Tryd.prog w = .ok v w := by kernel_rfl
@[go_sem] theorem ta62_95 (v : Value) (w : World) : (Instr.typeAssert (.iface 62 v) 47 95 true).run Tryd.prog w = .ok (.tuple #[.pointer none, .bool false]) w := by kernel_rfl
@[go_sem] theorem ta62_98 (v : Value) (w : World) : (Instr.typeAssert (.iface 62 v) 47 98 true).run Tryd.prog w = .ok (.tuple #[.pointer none, .bool false]) w := by kernel_rfl
@[go_sem] theorem ta62_101 (v : Value) (w : World) : (Instr.typeAssert (.iface 62 v) 47 101 true).run Tryd.prog w = .ok (.tuple #[.pointer none, .bool false]) w := by kernel_rfl
@[go_sem] theorem ta95_62 (v : Value) (w : World) : (Instr.typeAssert (.iface 95 v) 47 62 true).run Tryd.prog w = .ok (.tuple #[.string ⟨#[]⟩, .bool false]) w := by kernel_rfl
@[go_sem] theorem ta95_95 (v : Value) (w : World) : (Instr.typeAssert (.iface 95 v) 47 95 true).run Tryd.prog w = .ok (.tuple #[v, .bool true]) w := by kernel_rfl
@[go_sem] theorem tb95_95 (v : Value) (w : World) : (Instr.typeAssert (.iface 95 v) 47 95 false).run Tryd.prog w = .ok v w := by kernel_rfl
@[go_sem] theorem ta95_98 (v : Value) (w : World) : (Instr.typeAssert (.iface 95 v) 47 98 true).run Tryd.prog w = .ok (.tuple #[.pointer none, .bool false]) w := by kernel_rfl
@[go_sem] theorem ta95_101 (v : Value) (w : World) : (Instr.typeAssert (.iface 95 v) 47 101 true).run Tryd.prog w = .ok (.tuple #[.pointer none, .bool false]) w := by kernel_rfl
@[go_sem] theorem ta98_62 (v : Value) (w : World) : (Instr.typeAssert (.iface 98 v) 47 62 true).run Tryd.prog w = .ok (.tuple #[.string ⟨#[]⟩, .bool false]) w := by kernel_rfl
@[go_sem] theorem ta98_95 (v : Value) (w : World) : (Instr.typeAssert (.iface 98 v) 47 95 true).run Tryd.prog w = .ok (.tuple #[.pointer none, .bool false]) w := by kernel_rfl
@[go_sem] theorem ta98_98 (v : Value) (w : World) : (Instr.typeAssert (.iface 98 v) 47 98 true).run Tryd.prog w = .ok (.tuple #[v, .bool true]) w := by kernel_rfl
@[go_sem] theorem tb98_98 (v : Value) (w : World) : (Instr.typeAssert (.iface 98 v) 47 98 false).run Tryd.prog w = .ok v w := by kernel_rfl
@[go_sem] theorem ta98_101 (v : Value) (w : World) : (Instr.typeAssert (.iface 98 v) 47 101 true).run Tryd.prog w = .ok (.tuple #[.pointer none, .bool false]) w := by kernel_rfl
@[go_sem] theorem ta101_62 (v : Value) (w : World) : (Instr.typeAssert (.iface 101 v) 47 62 true).run Tryd.prog w = .ok (.tuple #[.string ⟨#[]⟩, .bool false]) w := by kernel_rfl
@[go_sem] theorem ta101_95 (v : Value) (w : World) : (Instr.typeAssert (.iface 101 v) 47 95 true).run Tryd.prog w = .ok (.tuple #[.pointer none, .bool false]) w := by kernel_rfl
@[go_sem] theorem ta101_98 (v : Value) (w : World) : (Instr.typeAssert (.iface 101 v) 47 98 true).run Tryd.prog w = .ok (.tuple #[.pointer none, .bool false]) w := by kernel_rfl
@[go_sem] theorem ta101_101 (v : Value) (w : World) : (Instr.typeAssert (.iface 101 v) 47 101 true).run Tryd.prog w = .ok (.tuple #[v, .bool true]) w := by kernel_rfl
@[go_sem] theorem tb101_101 (v : Value) (w : World) : (Instr.typeAssert (.iface 101 v) 47 101 false).run Tryd.prog w = .ok v w := by kernel_rfl
@[go_sem] theorem tn_62 (w : World) : (Instr.typeAssert .nilIface 47 62 true).run Tryd.prog w = .ok (.tuple #[.string ⟨#[]⟩, .bool false]) w := by kernel_rfl
@[go_sem] theorem tn_95 (w : World) : (Instr.typeAssert .nilIface 47 95 true).run Tryd.prog w = .ok (.tuple #[.pointer none, .bool false]) w := by kernel_rfl
@[go_sem] theorem tn_98 (w : World) : (Instr.typeAssert .nilIface 47 98 true).run Tryd.prog w = .ok (.tuple #[.pointer none, .bool false]) w := by kernel_rfl
@[go_sem] theorem tn_101 (w : World) : (Instr.typeAssert .nilIface 47 101 true).run Tryd.prog w = .ok (.tuple #[.pointer none, .bool false]) w := by kernel_rfl
theorem str_app (a b : List UInt8) : (⟨a.toArray⟩ : ByteArray) ++ ⟨b.toArray⟩ = ⟨(a ++ b).toArray⟩ := by
  apply ByteArray.ext
  simp
set_option maxHeartbeats 4000000 in
set_option maxRecDepth 1000000 in
theorem size_any {w : World} {t : Tm} {v : Value} (h : RT w t v) : Calls Tryd.prog 77 #[v] w fun e w' => e = .returned (.int .i64 (t.size : Nat)) ∧ w' = w := by
  cases h with
  | atom s =>
    go_enter Tryd.func77, Tryd.ntmps77
    go_wp2
    go_ret
    exact ⟨rfl, rfl⟩
  | pair a b x y r h ha hb =>
    have c2 := cell_at h 2
    simp at c2
    go_enter Tryd.func77, Tryd.ntmps77
    go_wp2
    go_ret
    exact ⟨rfl, rfl⟩
  | hash a x r h ha =>
    have c1 := cell_at h 1
    simp at c1
    go_enter Tryd.func77, Tryd.ntmps77
    go_wp2
    go_ret
    exact ⟨rfl, rfl⟩
  | lock k a x y r h ha hb =>
    have c2 := cell_at h 2
    simp at c2
    go_enter Tryd.func77, Tryd.ntmps77
    go_wp2
    go_ret
    exact ⟨rfl, rfl⟩
end Go.Proofs.YthigfakjiknhcaaDoorT
