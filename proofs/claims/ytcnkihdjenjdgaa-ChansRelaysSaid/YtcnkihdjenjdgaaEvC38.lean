/- Chapter 38: channels. Printed by gen/c38.py. -/
import Derived.Test.YtcnkihdjenjdgaaEvN
import Derived.Test.YtcnkihdjenjdgaaEvOp
import Derived.Test.YtcnkihdjenjdgaaEvHK2
namespace Go.Proofs.YtcnkihdjenjdgaaE
open Go
set_option linter.unusedSimpArgs false
set_option linter.unusedVariables false
set_option maxRecDepth 4000

abbrev RetC := Bool × (Int × (Int × (Int × (Int × (Int × (Int × (Int × (Int × (Int × (Int × (Int × (Int × (Int × (Int × (Int × (Int × (Int × (Int × (Int × (Int × (Int × (Int × (Int × (Int × (Int × (Int × (Int × (Int × (Int × (Int × (Int × (Int × ((List Int) × (Int × (Int × (Int × ((List Int) × (Int × (Int × (Int × (Bool × Unit)))))))))))))))))))))))))))))))))))))))))
abbrev st (m : Bool) (x1 x2 x3 x4 x5 x6 x7 x8 x9 x10 x11 x12 x13 x14 x15 x16 x17 x18 x19 x20 x21 x22 x23 x24 x25 x26 x27 x28 x29 x30 x31 x32 : Int) (b0 : List Int) (p0 t0 l0 : Int) (b1 : List Int) (p1 t1 l1 : Int) (s : Bool) : RetC := (m, (x1, (x2, (x3, (x4, (x5, (x6, (x7, (x8, (x9, (x10, (x11, (x12, (x13, (x14, (x15, (x16, (x17, (x18, (x19, (x20, (x21, (x22, (x23, (x24, (x25, (x26, (x27, (x28, (x29, (x30, (x31, (x32, (b0, (p0, (t0, (l0, (b1, (p1, (t1, (l1, (s, ()))))))))))))))))))))))))))))))))))))))))))
def f108 (l : List Int) : Option (List Int) := if l.length ≤ 1099511627776 then some l else none
theorem f108_is {l : List Int} (h : l.length ≤ 1099511627776) : f108 l = some l := if_pos h
theorem clone_ans {g : Nat} (hF : FT g = none) (hX : ∀ l : List Int, XT g [.tb (.int .u8) l] = cloneX (.int .u8) l) {l r : List Int} (h : f108 l = some r) : Ans FT XT g [.tb (.int .u8) l] [] (ownOut .u8 r).1 (ownOut .u8 r).2 := by
  refine ⟨1, ?_⟩
  unfold f108 at h
  split at h <;> try (cases h; done)
  rename_i hl
  injection h with h; subst h
  simp only [evF, hF, List.isEmpty_nil, if_true, hX]
  show (if l.length ≤ 1099511627776 then some (ownOut .u8 l) else none) = some ((ownOut .u8 l).1, (ownOut .u8 l).2)
  rw [if_pos hl]
theorem E108 : EntOK FT XT 108 (en108 f108) := ⟨rfl, fun v r h => clone_ans (g := 108) rfl (fun _ => rfl) h⟩
def h111 (w : Int) := p111 0 w
theorem E111 : EntOK FT XT 111 (en111 h111) := ok111 fun _ _ h => ⟨0, h⟩
/-! ### put -/
def h86 (w : Int) (b : List Int) (m : Bool) (x1 x2 x3 x4 x5 x6 x7 x8 x9 x10 x11 x12 x13 x14 x15 x16 x17 x18 x19 x20 x21 x22 x23 x24 x25 x26 x27 x28 x29 x30 x31 x32 : Int) (b0 : List Int) (p0 t0 l0 : Int) (b1 : List Int) (p1 t1 l1 : Int) (s : Bool) := p86v0 h111 f108 0 w b m x1 x2 x3 x4 x5 x6 x7 x8 x9 x10 x11 x12 x13 x14 x15 x16 x17 x18 x19 x20 x21 x22 x23 x24 x25 x26 x27 x28 x29 x30 x31 x32 b0 p0 t0 l0 b1 p1 t1 l1 s
theorem R86 : REntOK FT XT 86 (rn86v0 h86) := ok86v0 h111 f108 E111 E108 fun _ _ _ _ _ _ _ _ _ _ _ _ _ _ _ _ _ _ _ _ _ _ _ _ _ _ _ _ _ _ _ _ _ _ _ _ _ _ _ _ _ _ _ _ _ h => ⟨0, h⟩
/-! ### taken -/
def h88 (w n : Int) (m : Bool) (x1 x2 x3 x4 x5 x6 x7 x8 x9 x10 x11 x12 x13 x14 x15 x16 x17 x18 x19 x20 x21 x22 x23 x24 x25 x26 x27 x28 x29 x30 x31 x32 : Int) (b0 : List Int) (p0 t0 l0 : Int) (b1 : List Int) (p1 t1 l1 : Int) (s : Bool) := p88v0 h111 f108 0 w n m x1 x2 x3 x4 x5 x6 x7 x8 x9 x10 x11 x12 x13 x14 x15 x16 x17 x18 x19 x20 x21 x22 x23 x24 x25 x26 x27 x28 x29 x30 x31 x32 b0 p0 t0 l0 b1 p1 t1 l1 s
theorem R88 : REntOK FT XT 88 (rn88v0 h88) := ok88v0 h111 f108 E111 E108 fun _ _ _ _ _ _ _ _ _ _ _ _ _ _ _ _ _ _ _ _ _ _ _ _ _ _ _ _ _ _ _ _ _ _ _ _ _ _ _ _ _ _ _ _ _ h => ⟨0, h⟩
def h90 (w : Int) (m : Bool) (x1 x2 x3 x4 x5 x6 x7 x8 x9 x10 x11 x12 x13 x14 x15 x16 x17 x18 x19 x20 x21 x22 x23 x24 x25 x26 x27 x28 x29 x30 x31 x32 : Int) (b0 : List Int) (p0 t0 l0 : Int) (b1 : List Int) (p1 t1 l1 : Int) (s : Bool) := p90v0 h111 f108 0 w m x1 x2 x3 x4 x5 x6 x7 x8 x9 x10 x11 x12 x13 x14 x15 x16 x17 x18 x19 x20 x21 x22 x23 x24 x25 x26 x27 x28 x29 x30 x31 x32 b0 p0 t0 l0 b1 p1 t1 l1 s
theorem R90 : REntOK FT XT 90 (rn90v0 h90) := ok90v0 h111 f108 E111 E108 fun _ _ _ _ _ _ _ _ _ _ _ _ _ _ _ _ _ _ _ _ _ _ _ _ _ _ _ _ _ _ _ _ _ _ _ _ _ _ _ _ _ _ _ _ h => ⟨0, h⟩
def h91 (w : Int) (m : Bool) (x1 x2 x3 x4 x5 x6 x7 x8 x9 x10 x11 x12 x13 x14 x15 x16 x17 x18 x19 x20 x21 x22 x23 x24 x25 x26 x27 x28 x29 x30 x31 x32 : Int) (b0 : List Int) (p0 t0 l0 : Int) (b1 : List Int) (p1 t1 l1 : Int) (s : Bool) := p91v0 h90 0 w m x1 x2 x3 x4 x5 x6 x7 x8 x9 x10 x11 x12 x13 x14 x15 x16 x17 x18 x19 x20 x21 x22 x23 x24 x25 x26 x27 x28 x29 x30 x31 x32 b0 p0 t0 l0 b1 p1 t1 l1 s
theorem R91 : REntOK FT XT 91 (rn91v0 h91) := ok91v0 h90 R90 fun _ _ _ _ _ _ _ _ _ _ _ _ _ _ _ _ _ _ _ _ _ _ _ _ _ _ _ _ _ _ _ _ _ _ _ _ _ _ _ _ _ _ _ _ h => ⟨0, h⟩
def h99 (m : Bool) (x1 x2 x3 x4 x5 x6 x7 x8 x9 x10 x11 x12 x13 x14 x15 x16 x17 x18 x19 x20 x21 x22 x23 x24 x25 x26 x27 x28 x29 x30 x31 x32 : Int) (b0 : List Int) (p0 t0 l0 : Int) (b1 : List Int) (p1 t1 l1 : Int) (s : Bool) := p99v1 0 m x1 x2 x3 x4 x5 x6 x7 x8 x9 x10 x11 x12 x13 x14 x15 x16 x17 x18 x19 x20 x21 x22 x23 x24 x25 x26 x27 x28 x29 x30 x31 x32 b0 p0 t0 l0 b1 p1 t1 l1 s
theorem R99 : REntOK FT XT 99 (rn99v1 h99) := ok99v1 fun _ _ _ _ _ _ _ _ _ _ _ _ _ _ _ _ _ _ _ _ _ _ _ _ _ _ _ _ _ _ _ _ _ _ _ _ _ _ _ _ _ _ _ h => ⟨0, h⟩
def f84 : Option Bool := some true
theorem E84 : EntOK FT XT 84 (en84 f84) := ok84 h86 h88 h91 h99 R86 R88 R91 R99 fun r h => ⟨0, by rw [← h]; kernel_rfl⟩
theorem e86_0 {x1 x2 x3 x4 x5 x6 x7 x8 x9 x10 x11 x12 x13 x14 x15 x16 x17 x18 x19 x20 x21 x22 x23 x24 x25 x26 x27 x28 x29 x30 x31 x32 : Int} {b0 b1 : List Int} {p0 t0 l0 p1 t1 l1 : Int} (b : List Int) : h86 0 b true x1 x2 x3 x4 x5 x6 x7 x8 x9 x10 x11 x12 x13 x14 x15 x16 x17 x18 x19 x20 x21 x22 x23 x24 x25 x26 x27 x28 x29 x30 x31 x32 b0 p0 t0 l0 b1 p1 t1 l1 false = bif decide (iadd .i64 ((b0.length : Nat) : Int) ((b.length : Nat) : Int) > 65536) then some (((12 : Int), ()), (st true x1 x2 x3 x4 x5 x6 x7 x8 x9 x10 x11 x12 x13 x14 x15 x16 x17 x18 x19 x20 x21 x22 x23 x24 x25 x26 x27 x28 x29 x30 x31 x32 b0 p0 t0 l0 b1 p1 t1 l1 false, ())) else match f108 b0 with
      | none => none
      | some r => bif ((List.length r == List.length r * 1) && (decide ((List.length r + List.length b) * 1 ≤ 1099511627776) && decide (List.length r + List.length b ≤ 1099511627776))) then bif decide (0 + (List.length r + List.length b) * 1 ≤ (r ++ b).length) then some (((0 : Int), ()), (st true x1 x2 x3 x4 x5 x6 x7 x8 x9 x10 x11 x12 x13 x14 x15 x16 x17 x18 x19 x20 x21 x22 x23 x24 x25 x26 x27 x28 x29 x30 x31 x32 (List.take (List.length r + List.length b) (List.drop 0 (r ++ b))) (iadd .i64 p0 ((b.length : Nat) : Int)) t0 l0 b1 p1 t1 l1 false, ())) else none else none := by kernel_rfl
theorem h86_0 {x1 x2 x3 x4 x5 x6 x7 x8 x9 x10 x11 x12 x13 x14 x15 x16 x17 x18 x19 x20 x21 x22 x23 x24 x25 x26 x27 x28 x29 x30 x31 x32 : Int} {b0 b1 b : List Int} {p0 t0 l0 p1 t1 l1 : Int} (h : b0.length + b.length ≤ 65536) : h86 0 b true x1 x2 x3 x4 x5 x6 x7 x8 x9 x10 x11 x12 x13 x14 x15 x16 x17 x18 x19 x20 x21 x22 x23 x24 x25 x26 x27 x28 x29 x30 x31 x32 b0 p0 t0 l0 b1 p1 t1 l1 false = some (((0 : Int), ()), (st true x1 x2 x3 x4 x5 x6 x7 x8 x9 x10 x11 x12 x13 x14 x15 x16 x17 x18 x19 x20 x21 x22 x23 x24 x25 x26 x27 x28 x29 x30 x31 x32 (b0 ++ b) (iadd .i64 p0 ((b.length : Nat) : Int)) t0 l0 b1 p1 t1 l1 false, ())) := by
  have e : iadd .i64 ((b0.length : Nat) : Int) ((b.length : Nat) : Int) = ((b0.length + b.length : Nat) : Int) := addn (by omega)
  rw [e86_0, e, decide_eq_false (by omega), cond_false, f108_is (by omega)]
  simp only [List.drop_zero]
  rw [show (List.length b0 == List.length b0 * 1) = true from beq_iff_eq.2 (by omega), decide_eq_true (by omega), decide_eq_true (by omega), Bool.and_self, Bool.and_self, cond_true, decide_eq_true (by rw [List.length_append]; omega), cond_true, List.take_of_length_le (by rw [List.length_append]; exact Nat.le_refl _)]
theorem e88_0 {x1 x2 x3 x4 x5 x6 x7 x8 x9 x10 x11 x12 x13 x14 x15 x16 x17 x18 x19 x20 x21 x22 x23 x24 x25 x26 x27 x28 x29 x30 x31 x32 : Int} {b0 b1 : List Int} {p0 t0 l0 p1 t1 l1 : Int} (n : Int) : h88 0 n true x1 x2 x3 x4 x5 x6 x7 x8 x9 x10 x11 x12 x13 x14 x15 x16 x17 x18 x19 x20 x21 x22 x23 x24 x25 x26 x27 x28 x29 x30 x31 x32 b0 p0 t0 l0 b1 p1 t1 l1 false = bif decide (n < 0) then some ((((([] : List Int), ((1 : Int), ())), ()), (st true x1 x2 x3 x4 x5 x6 x7 x8 x9 x10 x11 x12 x13 x14 x15 x16 x17 x18 x19 x20 x21 x22 x23 x24 x25 x26 x27 x28 x29 x30 x31 x32 b0 p0 t0 l0 b1 p1 t1 l1 false, ()))) else bif (decide ((0 : Int) ≤ (if ((b0.length : Nat) : Int) < n then ((b0.length : Nat) : Int) else n)) && decide ((if ((b0.length : Nat) : Int) < n then ((b0.length : Nat) : Int) else n) ≤ ((b0.length : Nat) : Int))) then match f108 (List.take (Int.toNat (if ((b0.length : Nat) : Int) < n then ((b0.length : Nat) : Int) else n)) b0) with
      | none => none
      | some r => bif (decide ((0 : Int) ≤ (if ((b0.length : Nat) : Int) < n then ((b0.length : Nat) : Int) else n)) && decide ((if ((b0.length : Nat) : Int) < n then ((b0.length : Nat) : Int) else n) ≤ ((b0.length : Nat) : Int))) then bif decide (0 + List.length r * 1 ≤ List.length r) then some (((List.take (List.length r) (List.drop 0 r), ((0 : Int), ())), ()), (st true x1 x2 x3 x4 x5 x6 x7 x8 x9 x10 x11 x12 x13 x14 x15 x16 x17 x18 x19 x20 x21 x22 x23 x24 x25 x26 x27 x28 x29 x30 x31 x32 (List.drop (Int.toNat (if ((b0.length : Nat) : Int) < n then ((b0.length : Nat) : Int) else n)) b0) p0 (iadd .i64 t0 ((List.length r : Nat) : Int)) l0 b1 p1 t1 l1 false, ())) else none else none else none := by kernel_rfl
theorem h88_0 {x1 x2 x3 x4 x5 x6 x7 x8 x9 x10 x11 x12 x13 x14 x15 x16 x17 x18 x19 x20 x21 x22 x23 x24 x25 x26 x27 x28 x29 x30 x31 x32 : Int} {b0 b1 : List Int} {p0 t0 l0 p1 t1 l1 : Int} {n k : Nat} (hk : min b0.length n = k) (hl : b0.length ≤ 1000000) : h88 0 (n : Int) true x1 x2 x3 x4 x5 x6 x7 x8 x9 x10 x11 x12 x13 x14 x15 x16 x17 x18 x19 x20 x21 x22 x23 x24 x25 x26 x27 x28 x29 x30 x31 x32 b0 p0 t0 l0 b1 p1 t1 l1 false = some (((b0.take k, ((0 : Int), ())), ()), (st true x1 x2 x3 x4 x5 x6 x7 x8 x9 x10 x11 x12 x13 x14 x15 x16 x17 x18 x19 x20 x21 x22 x23 x24 x25 x26 x27 x28 x29 x30 x31 x32 (b0.drop k) p0 (iadd .i64 t0 ((k : Nat) : Int)) l0 b1 p1 t1 l1 false, ())) := by
  have e : (if ((b0.length : Nat) : Int) < ((n : Nat) : Int) then ((b0.length : Nat) : Int) else ((n : Nat) : Int)) = ((k : Nat) : Int) := by split <;> omega
  rw [e88_0]
  simp only [e, Int.toNat_natCast]
  rw [decide_eq_false (by omega), cond_false, decide_eq_true (show (0 : Int) ≤ ((k : Nat) : Int) by omega), decide_eq_true (show ((k : Nat) : Int) ≤ ((b0.length : Nat) : Int) by omega), Bool.and_self, cond_true, f108_is (by rw [List.length_take]; omega)]
  have hlen : (b0.take k).length = k := by rw [List.length_take]; omega
  simp only [hlen, cond_true, List.drop_zero, show 0 + k * 1 ≤ k from by omega, decide_true, List.take_of_length_le (Nat.le_of_eq hlen)]
theorem h90_0 {x1 x2 x3 x4 x5 x6 x7 x8 x9 x10 x11 x12 x13 x14 x15 x16 x17 x18 x19 x20 x21 x22 x23 x24 x25 x26 x27 x28 x29 x30 x31 x32 : Int} {b0 b1 : List Int} {p0 t0 l0 p1 t1 l1 : Int} {s : Bool} (hl : b0.length ≤ 1000000) : h90 0 true x1 x2 x3 x4 x5 x6 x7 x8 x9 x10 x11 x12 x13 x14 x15 x16 x17 x18 x19 x20 x21 x22 x23 x24 x25 x26 x27 x28 x29 x30 x31 x32 b0 p0 t0 l0 b1 p1 t1 l1 s = some ((b0, ()), (st true x1 x2 x3 x4 x5 x6 x7 x8 x9 x10 x11 x12 x13 x14 x15 x16 x17 x18 x19 x20 x21 x22 x23 x24 x25 x26 x27 x28 x29 x30 x31 x32 b0 p0 t0 l0 b1 p1 t1 l1 s, ())) := by
  have e : h90 0 true x1 x2 x3 x4 x5 x6 x7 x8 x9 x10 x11 x12 x13 x14 x15 x16 x17 x18 x19 x20 x21 x22 x23 x24 x25 x26 x27 x28 x29 x30 x31 x32 b0 p0 t0 l0 b1 p1 t1 l1 s = match f108 b0 with
      | none => none
      | some r => bif decide (0 + List.length r * 1 ≤ List.length r) then some ((List.take (List.length r) (List.drop 0 r), ()), (st true x1 x2 x3 x4 x5 x6 x7 x8 x9 x10 x11 x12 x13 x14 x15 x16 x17 x18 x19 x20 x21 x22 x23 x24 x25 x26 x27 x28 x29 x30 x31 x32 b0 p0 t0 l0 b1 p1 t1 l1 s, ())) else none := by kernel_rfl
  rw [e, f108_is (by omega)]
  simp only [List.drop_zero, List.take_length]
  rw [decide_eq_true (by omega), cond_true]
theorem h91_0 {x1 x2 x3 x4 x5 x6 x7 x8 x9 x10 x11 x12 x13 x14 x15 x16 x17 x18 x19 x20 x21 x22 x23 x24 x25 x26 x27 x28 x29 x30 x31 x32 : Int} {b0 b1 : List Int} {p0 t0 l0 p1 t1 l1 : Int} {s : Bool} (hl : b0.length ≤ 1000000) : h91 0 true x1 x2 x3 x4 x5 x6 x7 x8 x9 x10 x11 x12 x13 x14 x15 x16 x17 x18 x19 x20 x21 x22 x23 x24 x25 x26 x27 x28 x29 x30 x31 x32 b0 p0 t0 l0 b1 p1 t1 l1 s = some ((((b0.length : Nat) : Int), ()), (st true x1 x2 x3 x4 x5 x6 x7 x8 x9 x10 x11 x12 x13 x14 x15 x16 x17 x18 x19 x20 x21 x22 x23 x24 x25 x26 x27 x28 x29 x30 x31 x32 b0 p0 t0 l0 b1 p1 t1 l1 s, ())) := by
  unfold h91 p91v0
  rw [h90_0 hl]
theorem e86_1 {x1 x2 x3 x4 x5 x6 x7 x8 x9 x10 x11 x12 x13 x14 x15 x16 x17 x18 x19 x20 x21 x22 x23 x24 x25 x26 x27 x28 x29 x30 x31 x32 : Int} {b0 b1 : List Int} {p0 t0 l0 p1 t1 l1 : Int} (b : List Int) : h86 1 b true x1 x2 x3 x4 x5 x6 x7 x8 x9 x10 x11 x12 x13 x14 x15 x16 x17 x18 x19 x20 x21 x22 x23 x24 x25 x26 x27 x28 x29 x30 x31 x32 b0 p0 t0 l0 b1 p1 t1 l1 false = bif decide (iadd .i64 ((b1.length : Nat) : Int) ((b.length : Nat) : Int) > 65536) then some (((12 : Int), ()), (st true x1 x2 x3 x4 x5 x6 x7 x8 x9 x10 x11 x12 x13 x14 x15 x16 x17 x18 x19 x20 x21 x22 x23 x24 x25 x26 x27 x28 x29 x30 x31 x32 b0 p0 t0 l0 b1 p1 t1 l1 false, ())) else match f108 b1 with
      | none => none
      | some r => bif ((List.length r == List.length r * 1) && (decide ((List.length r + List.length b) * 1 ≤ 1099511627776) && decide (List.length r + List.length b ≤ 1099511627776))) then bif decide (0 + (List.length r + List.length b) * 1 ≤ (r ++ b).length) then some (((0 : Int), ()), (st true x1 x2 x3 x4 x5 x6 x7 x8 x9 x10 x11 x12 x13 x14 x15 x16 x17 x18 x19 x20 x21 x22 x23 x24 x25 x26 x27 x28 x29 x30 x31 x32 b0 p0 t0 l0 (List.take (List.length r + List.length b) (List.drop 0 (r ++ b))) (iadd .i64 p1 ((b.length : Nat) : Int)) t1 l1 false, ())) else none else none := by kernel_rfl
theorem h86_1 {x1 x2 x3 x4 x5 x6 x7 x8 x9 x10 x11 x12 x13 x14 x15 x16 x17 x18 x19 x20 x21 x22 x23 x24 x25 x26 x27 x28 x29 x30 x31 x32 : Int} {b0 b1 b : List Int} {p0 t0 l0 p1 t1 l1 : Int} (h : b1.length + b.length ≤ 65536) : h86 1 b true x1 x2 x3 x4 x5 x6 x7 x8 x9 x10 x11 x12 x13 x14 x15 x16 x17 x18 x19 x20 x21 x22 x23 x24 x25 x26 x27 x28 x29 x30 x31 x32 b0 p0 t0 l0 b1 p1 t1 l1 false = some (((0 : Int), ()), (st true x1 x2 x3 x4 x5 x6 x7 x8 x9 x10 x11 x12 x13 x14 x15 x16 x17 x18 x19 x20 x21 x22 x23 x24 x25 x26 x27 x28 x29 x30 x31 x32 b0 p0 t0 l0 (b1 ++ b) (iadd .i64 p1 ((b.length : Nat) : Int)) t1 l1 false, ())) := by
  have e : iadd .i64 ((b1.length : Nat) : Int) ((b.length : Nat) : Int) = ((b1.length + b.length : Nat) : Int) := addn (by omega)
  rw [e86_1, e, decide_eq_false (by omega), cond_false, f108_is (by omega)]
  simp only [List.drop_zero]
  rw [show (List.length b1 == List.length b1 * 1) = true from beq_iff_eq.2 (by omega), decide_eq_true (by omega), decide_eq_true (by omega), Bool.and_self, Bool.and_self, cond_true, decide_eq_true (by rw [List.length_append]; omega), cond_true, List.take_of_length_le (by rw [List.length_append]; exact Nat.le_refl _)]
theorem e88_1 {x1 x2 x3 x4 x5 x6 x7 x8 x9 x10 x11 x12 x13 x14 x15 x16 x17 x18 x19 x20 x21 x22 x23 x24 x25 x26 x27 x28 x29 x30 x31 x32 : Int} {b0 b1 : List Int} {p0 t0 l0 p1 t1 l1 : Int} (n : Int) : h88 1 n true x1 x2 x3 x4 x5 x6 x7 x8 x9 x10 x11 x12 x13 x14 x15 x16 x17 x18 x19 x20 x21 x22 x23 x24 x25 x26 x27 x28 x29 x30 x31 x32 b0 p0 t0 l0 b1 p1 t1 l1 false = bif decide (n < 0) then some ((((([] : List Int), ((1 : Int), ())), ()), (st true x1 x2 x3 x4 x5 x6 x7 x8 x9 x10 x11 x12 x13 x14 x15 x16 x17 x18 x19 x20 x21 x22 x23 x24 x25 x26 x27 x28 x29 x30 x31 x32 b0 p0 t0 l0 b1 p1 t1 l1 false, ()))) else bif (decide ((0 : Int) ≤ (if ((b1.length : Nat) : Int) < n then ((b1.length : Nat) : Int) else n)) && decide ((if ((b1.length : Nat) : Int) < n then ((b1.length : Nat) : Int) else n) ≤ ((b1.length : Nat) : Int))) then match f108 (List.take (Int.toNat (if ((b1.length : Nat) : Int) < n then ((b1.length : Nat) : Int) else n)) b1) with
      | none => none
      | some r => bif (decide ((0 : Int) ≤ (if ((b1.length : Nat) : Int) < n then ((b1.length : Nat) : Int) else n)) && decide ((if ((b1.length : Nat) : Int) < n then ((b1.length : Nat) : Int) else n) ≤ ((b1.length : Nat) : Int))) then bif decide (0 + List.length r * 1 ≤ List.length r) then some (((List.take (List.length r) (List.drop 0 r), ((0 : Int), ())), ()), (st true x1 x2 x3 x4 x5 x6 x7 x8 x9 x10 x11 x12 x13 x14 x15 x16 x17 x18 x19 x20 x21 x22 x23 x24 x25 x26 x27 x28 x29 x30 x31 x32 b0 p0 t0 l0 (List.drop (Int.toNat (if ((b1.length : Nat) : Int) < n then ((b1.length : Nat) : Int) else n)) b1) p1 (iadd .i64 t1 ((List.length r : Nat) : Int)) l1 false, ())) else none else none else none := by kernel_rfl
theorem h88_1 {x1 x2 x3 x4 x5 x6 x7 x8 x9 x10 x11 x12 x13 x14 x15 x16 x17 x18 x19 x20 x21 x22 x23 x24 x25 x26 x27 x28 x29 x30 x31 x32 : Int} {b0 b1 : List Int} {p0 t0 l0 p1 t1 l1 : Int} {n k : Nat} (hk : min b1.length n = k) (hl : b1.length ≤ 1000000) : h88 1 (n : Int) true x1 x2 x3 x4 x5 x6 x7 x8 x9 x10 x11 x12 x13 x14 x15 x16 x17 x18 x19 x20 x21 x22 x23 x24 x25 x26 x27 x28 x29 x30 x31 x32 b0 p0 t0 l0 b1 p1 t1 l1 false = some (((b1.take k, ((0 : Int), ())), ()), (st true x1 x2 x3 x4 x5 x6 x7 x8 x9 x10 x11 x12 x13 x14 x15 x16 x17 x18 x19 x20 x21 x22 x23 x24 x25 x26 x27 x28 x29 x30 x31 x32 b0 p0 t0 l0 (b1.drop k) p1 (iadd .i64 t1 ((k : Nat) : Int)) l1 false, ())) := by
  have e : (if ((b1.length : Nat) : Int) < ((n : Nat) : Int) then ((b1.length : Nat) : Int) else ((n : Nat) : Int)) = ((k : Nat) : Int) := by split <;> omega
  rw [e88_1]
  simp only [e, Int.toNat_natCast]
  rw [decide_eq_false (by omega), cond_false, decide_eq_true (show (0 : Int) ≤ ((k : Nat) : Int) by omega), decide_eq_true (show ((k : Nat) : Int) ≤ ((b1.length : Nat) : Int) by omega), Bool.and_self, cond_true, f108_is (by rw [List.length_take]; omega)]
  have hlen : (b1.take k).length = k := by rw [List.length_take]; omega
  simp only [hlen, cond_true, List.drop_zero, show 0 + k * 1 ≤ k from by omega, decide_true, List.take_of_length_le (Nat.le_of_eq hlen)]
theorem h90_1 {x1 x2 x3 x4 x5 x6 x7 x8 x9 x10 x11 x12 x13 x14 x15 x16 x17 x18 x19 x20 x21 x22 x23 x24 x25 x26 x27 x28 x29 x30 x31 x32 : Int} {b0 b1 : List Int} {p0 t0 l0 p1 t1 l1 : Int} {s : Bool} (hl : b1.length ≤ 1000000) : h90 1 true x1 x2 x3 x4 x5 x6 x7 x8 x9 x10 x11 x12 x13 x14 x15 x16 x17 x18 x19 x20 x21 x22 x23 x24 x25 x26 x27 x28 x29 x30 x31 x32 b0 p0 t0 l0 b1 p1 t1 l1 s = some ((b1, ()), (st true x1 x2 x3 x4 x5 x6 x7 x8 x9 x10 x11 x12 x13 x14 x15 x16 x17 x18 x19 x20 x21 x22 x23 x24 x25 x26 x27 x28 x29 x30 x31 x32 b0 p0 t0 l0 b1 p1 t1 l1 s, ())) := by
  have e : h90 1 true x1 x2 x3 x4 x5 x6 x7 x8 x9 x10 x11 x12 x13 x14 x15 x16 x17 x18 x19 x20 x21 x22 x23 x24 x25 x26 x27 x28 x29 x30 x31 x32 b0 p0 t0 l0 b1 p1 t1 l1 s = match f108 b1 with
      | none => none
      | some r => bif decide (0 + List.length r * 1 ≤ List.length r) then some ((List.take (List.length r) (List.drop 0 r), ()), (st true x1 x2 x3 x4 x5 x6 x7 x8 x9 x10 x11 x12 x13 x14 x15 x16 x17 x18 x19 x20 x21 x22 x23 x24 x25 x26 x27 x28 x29 x30 x31 x32 b0 p0 t0 l0 b1 p1 t1 l1 s, ())) else none := by kernel_rfl
  rw [e, f108_is (by omega)]
  simp only [List.drop_zero, List.take_length]
  rw [decide_eq_true (by omega), cond_true]
theorem h91_1 {x1 x2 x3 x4 x5 x6 x7 x8 x9 x10 x11 x12 x13 x14 x15 x16 x17 x18 x19 x20 x21 x22 x23 x24 x25 x26 x27 x28 x29 x30 x31 x32 : Int} {b0 b1 : List Int} {p0 t0 l0 p1 t1 l1 : Int} {s : Bool} (hl : b1.length ≤ 1000000) : h91 1 true x1 x2 x3 x4 x5 x6 x7 x8 x9 x10 x11 x12 x13 x14 x15 x16 x17 x18 x19 x20 x21 x22 x23 x24 x25 x26 x27 x28 x29 x30 x31 x32 b0 p0 t0 l0 b1 p1 t1 l1 s = some ((((b1.length : Nat) : Int), ()), (st true x1 x2 x3 x4 x5 x6 x7 x8 x9 x10 x11 x12 x13 x14 x15 x16 x17 x18 x19 x20 x21 x22 x23 x24 x25 x26 x27 x28 x29 x30 x31 x32 b0 p0 t0 l0 b1 p1 t1 l1 s, ())) := by
  unfold h91 p91v0
  rw [h90_1 hl]
theorem L23_is (N : Nat) (a b : List Int) (hl : a.length = b.length) (hb : a.length < 2 ^ 40) : ∀ d i fuel, i + d = a.length → d < fuel → L23_0 N (some true) fuel a b (i : Int) = some (a.drop i == b.drop i) := by
  intro d
  induction d with
  | zero =>
    intro i fuel hd hf
    obtain ⟨m, rfl⟩ : ∃ m, fuel = m + 1 := ⟨fuel - 1, by omega⟩
    simp only [L23_0, show ¬ ((i : Int) < ((a.length : Nat) : Int)) by omega, decide_false, cond_false]
    rw [List.drop_of_length_le (by omega), List.drop_of_length_le (by omega)]
    rfl
  | succ d ih =>
    intro i fuel hd hf
    obtain ⟨m, rfl⟩ : ∃ m, fuel = m + 1 := ⟨fuel - 1, by omega⟩
    have hi : i < a.length := by omega
    have hi2 : i < b.length := by omega
    rw [List.drop_eq_getElem_cons hi, List.drop_eq_getElem_cons hi2]
    simp only [L23_0, show ((i : Int) < ((a.length : Nat) : Int)) by omega, decide_true, cond_true, geti_nat, List.getElem?_eq_getElem hi, List.getElem?_eq_getElem hi2]
    by_cases e : a[i] = b[i]
    · rw [e]
      simp only [bne_self_eq_false, cond_false]
      rw [up1 (by omega), ih (i + 1) m (by omega) (by omega)]
      rw [List.cons_beq_cons, beq_self_eq_true, Bool.true_and]
    · simp only [show (a[i] != b[i]) = true from bne_iff_ne.2 e, cond_true]
      congr 1
      symm
      rw [beq_eq_false_iff_ne]
      intro h; injection h with h1 h2; exact e h1
def f23 (a b : List Int) : Option Bool := if a.length < 1099511627776 then some (a == b) else none
theorem E23 : EntOK FT XT 23 (en23 f23) := ok23 fun a b r h => ⟨a.length + 1, by
  unfold f23 at h
  split at h <;> try (cases h; done)
  rename_i hb
  unfold p23
  by_cases hl : a.length = b.length
  · simp only [hl, bne_self_eq_false, cond_false]
    rw [← hl]
    have := L23_is (a.length + 1) a b hl hb a.length 0 (a.length + 1) (by omega) (by omega)
    rw [List.drop_zero, List.drop_zero] at this
    exact this.trans h
  · simp only [show ((((a.length : Nat) : Int)) != ((b.length : Nat) : Int)) = true from bne_iff_ne.2 (by omega), cond_true]
    rw [← h]
    congr 1
    symm
    rw [beq_eq_false_iff_ne]
    intro e; exact hl (by rw [e])⟩
theorem f23_same {a : List Int} (h : a.length < 1099511627776) : f23 a a = some true := by unfold f23; rw [if_pos h, beq_self_eq_true]

end Go.Proofs.YtcnkihdjenjdgaaE
