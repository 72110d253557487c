/- The document's texts. -/
import Derived.Test.YthigfakjiknhcaaDoorTyo
import Derived.Laws.IdiomStrings
namespace Go.Proofs.YthigfakjiknhcaaDoorT
open Go Go.Proofs Go.RowKit
set_option linter.unusedSimpArgs false
set_option linter.unusedVariables false
def twoT (o c : UInt8) (x y : List UInt8) : List UInt8 := o :: (x ++ (32 :: (y ++ [c])))
set_option maxHeartbeats 8000000 in
set_option maxRecDepth 1000000 in
theorem rseal_any (x y : List UInt8) (h : x.length + y.length ≤ 90000) (w : World) : Calls Tryd.prog 15 #[str x, str y] w fun e w' => e = .returned (str (twoT 91 93 x y)) ∧ w' = w := by
  obtain ⟨z1, z2, z3, g1, g2, g3, g4⟩ := cat4 91 93 x y h
  unfold twoT
  go_enter Tryd.func15, Tryd.ntmps15
  go_wp2
  go_ret
  exact ⟨rfl, rfl⟩
set_option maxHeartbeats 8000000 in
set_option maxRecDepth 1000000 in
theorem rpair_any (x y : List UInt8) (h : x.length + y.length ≤ 90000) (w : World) : Calls Tryd.prog 33 #[str x, str y] w fun e w' => e = .returned (str (twoT 40 41 x y)) ∧ w' = w := by
  obtain ⟨z1, z2, z3, g1, g2, g3, g4⟩ := cat4 40 41 x y h
  unfold twoT
  go_enter Tryd.func33, Tryd.ntmps33
  go_wp2
  go_ret
  exact ⟨rfl, rfl⟩
set_option maxHeartbeats 8000000 in
set_option maxRecDepth 1000000 in
theorem rdig_any (w : World) : Calls Tryd.prog 32 #[.int .i64 0] w fun e w' => e = .returned (str [48]) ∧ Below w.heap.size w w' := by
  have hc : (convert 90 9 (.slice (some ⟨w.heap.size, 0, none⟩) 1 1)).run Tryd.prog (w.alloc (.cells #[.int .u8 48] 5)) = .ok (.string ⟨#[48]⟩) (w.alloc (.cells #[.int .u8 48] 5)) :=
    run_convert_bytes_back (P := Tryd.prog) (w.alloc (.cells #[.int .u8 48] 5)) 90 9 5 ⟨w.heap.size, 0, none⟩ 1 [48] (by kernel_rfl) (by kernel_rfl) (by kernel_rfl) (fun j hj => by
      obtain rfl : j = 0 := by simp at hj; omega
      exact new_cell w #[.int .u8 48] 5 0)
  go_enter Tryd.func32, Tryd.ntmps32
  go_wp2
  go_ret
  exact ⟨rfl, al_below _ _⟩
set_option maxHeartbeats 8000000 in
set_option maxRecDepth 1000000 in
theorem rpw_any (w : World) : Calls Tryd.prog 14 #[.int .i64 0] w fun e w' => e = .returned (str [112, 48]) ∧ Below w.heap.size w w' := by
  have h32 := rdig_any w
  have hc : ∀ w : World, (Op.stringOp .add ⟨[112].toArray⟩ ⟨[48].toArray⟩).run Tryd.prog w = .ok (str [112, 48]) w := cat_run [112] [48] (by simp)
  go_enter Tryd.func14, Tryd.ntmps14
  go_wp2_with (first | (go_at_call 32; refine Calls.mono h32 (fun e w1 hp => ?_); obtain ⟨rfl, b1⟩ := hp) | fail)
  go_ret
  exact ⟨rfl, b1⟩
def boundT (r n h : List UInt8) : List UInt8 := twoT 91 93 ([35, 35] ++ twoT 40 41 [112, 48] r) (twoT 40 41 n h)
theorem twoT_len (o c : UInt8) (x y : List UInt8) : (twoT o c x y).length = x.length + y.length + 3 := by simp [twoT]; omega
set_option maxHeartbeats 8000000 in
set_option maxRecDepth 1000000 in
theorem rbound_any (r n h : List UInt8) (hl : r.length + n.length + h.length ≤ 10000) (w : World) : Calls Tryd.prog 16 #[.int .i64 0, str r, str n, str h] w fun e w' => e = .returned (str (boundT r n h)) ∧ Below w.heap.size w w' := by
  have h14 := rpw_any w
  have hp1 := rpair_any [112, 48] r (by simp; omega)
  have hp2 := rpair_any n h (by omega)
  have l1 := twoT_len 40 41 [112, 48] r
  have l2 := twoT_len 40 41 n h
  have hs := rseal_any ([35, 35] ++ twoT 40 41 [112, 48] r) (twoT 40 41 n h) (by simp at l1 ⊢; omega)
  have hc : ∀ w : World, (Op.stringOp .add ⟨[35, 35].toArray⟩ ⟨(twoT 40 41 [112, 48] r).toArray⟩).run Tryd.prog w = .ok (str ([35, 35] ++ twoT 40 41 [112, 48] r)) w := cat_run [35, 35] _ (by simp at l1 ⊢; omega)
  unfold boundT
  clear l1 l2
  generalize twoT 91 93 ([35, 35] ++ twoT 40 41 [112, 48] r) (twoT 40 41 n h) = R at *
  generalize [35, 35] ++ twoT 40 41 [112, 48] r = K at *
  generalize twoT 40 41 [112, 48] r = P1 at *
  generalize twoT 40 41 n h = P2 at *
  go_enter Tryd.func16, Tryd.ntmps16
  go_wp2_with (first | (go_at_call 14; refine Calls.mono h14 (fun e w1 hp => ?_); obtain ⟨rfl, b1⟩ := hp) | (go_at_call_of 33 (str [112, 48]); refine Calls.mono (hp1 _) (fun e w1 hp => ?_); obtain ⟨rfl, rfl⟩ := hp) | (go_at_call_of 33 (str n); refine Calls.mono (hp2 _) (fun e w1 hp => ?_); obtain ⟨rfl, rfl⟩ := hp) | (go_at_call 15; refine Calls.mono (hs _) (fun e w1 hp => ?_); obtain ⟨rfl, rfl⟩ := hp) | fail)
  go_ret
  exact ⟨rfl, b1⟩
end Go.Proofs.YthigfakjiknhcaaDoorT
