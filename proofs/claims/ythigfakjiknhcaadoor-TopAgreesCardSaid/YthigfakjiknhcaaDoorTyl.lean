/- strings.SplitSeq's parts. -/
import Derived.Test.YthigfakjiknhcaaDoorTyk
import Derived.Lib.Bytealg
import Derived.Laws.Externs
namespace Go.Proofs.YthigfakjiknhcaaDoorT
open Go Go.Proofs Go.RowKit
set_option linter.unusedSimpArgs false
set_option linter.unusedVariables false
set_option maxHeartbeats 4000000 in
set_option maxRecDepth 100000 in
theorem ib_any (s : List UInt8) (c : UInt8) (w : World) : Calls Tryd.prog 71 #[str s, .int .u8 (c.toNat : Nat)] w fun e w' => e = .returned (.int .i64 (Lib.indexByte s c)) ∧ w' = w := by
  have hx : ∀ w, (callFunc 79 #[str s, .int .u8 (c.toNat : Nat)]).run Tryd.prog w = .ok (.value (.int .i64 (Lib.indexByte s c))) w := fun w => by
    rw [run_callFunc_extern Tryd.func79 (by kernel_rfl) (by kernel_rfl) (by kernel_rfl) (e := Extern.BytealgIndexByte.indexByte) (by kernel_rfl), Lib.run_indexByteString]
    simp only [Result.andThen, Int.toNat_natCast, UInt8.ofNat_toNat, Nat.toUInt8]
  go_enter Tryd.func71, Tryd.ntmps71
  go_wp2
  go_ret
  exact ⟨rfl, rfl⟩
set_option maxHeartbeats 4000000 in
set_option maxRecDepth 100000 in
theorem idx63_any (s : List UInt8) (hs : s ≠ [32]) (w : World) : Calls Tryd.prog 63 #[str s, .string ⟨#[32]⟩] w fun e w' => e = .returned (.int .i64 (Lib.indexByte s 32)) ∧ w' = w := by
  have h71 := ib_any s 32 w
  have hne : (([32] : List UInt8) == s) = false := by
    rw [beq_eq_false_iff_ne]
    exact fun h => hs h.symm
  generalize Lib.indexByte s 32 = R at *
  go_enter Tryd.func63, Tryd.ntmps63
  go_wp2_with (first | (go_at_call 71; refine Calls.mono h71 (fun e w1 hp => ?_); obtain ⟨rfl, rfl⟩ := hp) | fail)
  go_ret
  exact ⟨rfl, rfl⟩
set_option maxHeartbeats 4000000 in
set_option maxRecDepth 100000 in
theorem idx_any (s : List UInt8) (hs : s ≠ [32]) (w : World) : Calls Tryd.prog 48 #[str s, .string ⟨#[32]⟩] w fun e w' => e = .returned (.int .i64 (Lib.indexByte s 32)) ∧ w' = w := by
  have h63 := idx63_any s hs w
  generalize Lib.indexByte s 32 = R at *
  go_enter Tryd.func48, Tryd.ntmps48
  go_wp2_with (first | (go_at_call 63; refine Calls.mono h63 (fun e w1 hp => ?_); obtain ⟨rfl, rfl⟩ := hp) | fail)
  go_ret
  exact ⟨rfl, rfl⟩
/-- the iterator's three boxes -/
def SQ (w : World) (b : Nat) (s : List UInt8) : Prop := w.heap[b]? = some (.cells #[str s] 9 (0, 0)) ∧ w.heap[b + 1]? = some (.cells #[.string ⟨#[32]⟩] 9 (0, 0)) ∧ w.heap[b + 2]? = some (.cells #[.int .i64 0] 3 (0, 0))
set_option maxHeartbeats 4000000 in
set_option maxRecDepth 100000 in
theorem split27_any (s : List UInt8) (w : World) : Calls Tryd.prog 27 #[str s, .string ⟨#[32]⟩, .int .i64 0] w fun e w' => e = .returned (.func (.func 46) #[] #[.pointer (some ⟨w.heap.size + 1, 0, none⟩), .pointer (some ⟨w.heap.size, 0, none⟩), .pointer (some ⟨w.heap.size + 2, 0, none⟩)]) ∧ SQ w' w.heap.size s ∧ Below w.heap.size w w' ∧ w'.heap.size = w.heap.size + 3 := by
  go_enter Tryd.func27, Tryd.ntmps27
  go_wp2
  go_ret
  have hb : Below w.heap.size w (((w.alloc (.cells #[str s] 9)).alloc (.cells #[.string ⟨#[32]⟩] 9)).alloc (.cells #[.int .i64 0] 3)) := ((al_below w _).trans ((al_below _ _).mono (by simp))).trans ((al_below _ _).mono (by simp; omega))
  have h0 := new_blk w #[str s] 9
  have h1 := new_blk (w.alloc (.cells #[str s] 9)) #[.string ⟨#[32]⟩] 9
  have h2 := new_blk ((w.alloc (.cells #[str s] 9)).alloc (.cells #[.string ⟨#[32]⟩] 9)) #[.int .i64 0] 3
  have s1 : (w.alloc (.cells #[str s] 9)).heap.size = w.heap.size + 1 := World.size_alloc _ _
  have s2 : ((w.alloc (.cells #[str s] 9)).alloc (.cells #[.string ⟨#[32]⟩] 9)).heap.size = w.heap.size + 2 := by rw [World.size_alloc, s1]
  rw [s1] at h1
  rw [s2] at h2
  refine ⟨rfl, ⟨?_, ?_, h2⟩, hb, by rw [World.size_alloc, s2]⟩
  · rw [(al_below _ _).block _ (by rw [s2]; omega), (al_below _ _).block _ (by rw [s1]; omega)]; exact h0
  · rw [(al_below _ _).block _ (by rw [s2]; omega)]; exact h1
set_option maxHeartbeats 4000000 in
set_option maxRecDepth 100000 in
theorem split11_any (s : List UInt8) (w : World) : Calls Tryd.prog 11 #[str s, .string ⟨#[32]⟩] w fun e w' => e = .returned (.func (.func 46) #[] #[.pointer (some ⟨w.heap.size + 1, 0, none⟩), .pointer (some ⟨w.heap.size, 0, none⟩), .pointer (some ⟨w.heap.size + 2, 0, none⟩)]) ∧ SQ w' w.heap.size s ∧ Below w.heap.size w w' ∧ w'.heap.size = w.heap.size + 3 := by
  have h27 := split27_any s w
  go_enter Tryd.func11, Tryd.ntmps11
  go_wp2_with (first | (go_at_call 27; refine Calls.mono h27 (fun e w1 hp => ?_); obtain ⟨rfl, q1, q2, q3⟩ := hp) | fail)
  go_ret
  exact ⟨rfl, q1, q2, q3⟩
end Go.Proofs.YthigfakjiknhcaaDoorT
