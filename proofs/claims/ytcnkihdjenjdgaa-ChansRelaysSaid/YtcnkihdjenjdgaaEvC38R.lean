/- Chapter 38: what is relayed. -/
import Derived.Test.YtcnkihdjenjdgaaEvC38
namespace Go.Proofs.YtcnkihdjenjdgaaE
open Go
set_option linter.unusedSimpArgs false
set_option linter.unusedVariables false
set_option maxRecDepth 4000

def h92 (w o n : Int) (m : Bool) (x1 x2 x3 x4 x5 x6 x7 x8 x9 x10 x11 x12 x13 x14 x15 x16 x17 x18 x19 x20 x21 x22 x23 x24 x25 x26 x27 x28 x29 x30 x31 x32 : Int) (b0 : List Int) (p0 t0 l0 : Int) (b1 : List Int) (p1 t1 l1 : Int) (s : Bool) (m' : Bool) (y1 y2 y3 y4 y5 y6 y7 y8 y9 y10 y11 y12 y13 y14 y15 y16 y17 y18 y19 y20 y21 y22 y23 y24 y25 y26 y27 y28 y29 y30 y31 y32 : Int) (b0' : List Int) (p0' t0' l0' : Int) (b1' : List Int) (p1' t1' l1' : Int) (s' : Bool) := p92v0 h111 h91 h88 h86 0 w o n m x1 x2 x3 x4 x5 x6 x7 x8 x9 x10 x11 x12 x13 x14 x15 x16 x17 x18 x19 x20 x21 x22 x23 x24 x25 x26 x27 x28 x29 x30 x31 x32 b0 p0 t0 l0 b1 p1 t1 l1 s m' y1 y2 y3 y4 y5 y6 y7 y8 y9 y10 y11 y12 y13 y14 y15 y16 y17 y18 y19 y20 y21 y22 y23 y24 y25 y26 y27 y28 y29 y30 y31 y32 b0' p0' t0' l0' b1' p1' t1' l1' s'
theorem R92 : REntOK FT XT 92 (rn92v0 h92) := ok92v0 h111 h91 h88 h86 E111 R91 R88 R86 fun _ _ _ _ _ _ _ _ _ _ _ _ _ _ _ _ _ _ _ _ _ _ _ _ _ _ _ _ _ _ _ _ _ _ _ _ _ _ _ _ _ _ _ _ _ _ _ _ _ _ _ _ _ _ _ _ _ _ _ _ _ _ _ _ _ _ _ _ _ _ _ _ _ _ _ _ _ _ _ _ _ _ _ _ _ _ _ _ h => ⟨0, h⟩
theorem h92_00 {x1 x2 x3 x4 x5 x6 x7 x8 x9 x10 x11 x12 x13 x14 x15 x16 x17 x18 x19 x20 x21 x22 x23 x24 x25 x26 x27 x28 x29 x30 x31 x32 y1 y2 y3 y4 y5 y6 y7 y8 y9 y10 y11 y12 y13 y14 y15 y16 y17 y18 y19 y20 y21 y22 y23 y24 y25 y26 y27 y28 y29 y30 y31 y32 : Int} {b0 b1 c0 c1 : List Int} {p0 t0 l0 p1 t1 l1 q0 u0 n0 q1 u1 n1 : Int} {n k : Nat} (hk : min b0.length n = k) (hb : b0.length ≤ 10000) (hc : c0.length ≤ 10000) :
    h92 0 0 (n : Int) true x1 x2 x3 x4 x5 x6 x7 x8 x9 x10 x11 x12 x13 x14 x15 x16 x17 x18 x19 x20 x21 x22 x23 x24 x25 x26 x27 x28 x29 x30 x31 x32 b0 p0 t0 l0 b1 p1 t1 l1 false true y1 y2 y3 y4 y5 y6 y7 y8 y9 y10 y11 y12 y13 y14 y15 y16 y17 y18 y19 y20 y21 y22 y23 y24 y25 y26 y27 y28 y29 y30 y31 y32 c0 q0 u0 n0 c1 q1 u1 n1 false = some ((((k : Int), ((0 : Int), ())), ()), (st true x1 x2 x3 x4 x5 x6 x7 x8 x9 x10 x11 x12 x13 x14 x15 x16 x17 x18 x19 x20 x21 x22 x23 x24 x25 x26 x27 x28 x29 x30 x31 x32 (b0.drop k) p0 (iadd .i64 t0 (k : Int)) l0 b1 p1 t1 l1 false, (st true y1 y2 y3 y4 y5 y6 y7 y8 y9 y10 y11 y12 y13 y14 y15 y16 y17 y18 y19 y20 y21 y22 y23 y24 y25 y26 y27 y28 y29 y30 y31 y32 (c0 ++ b0.take k) (iadd .i64 q0 (k : Int)) u0 n0 c1 q1 u1 n1 false, ()))) := by
  have w1 := h91_0 (s := false) (x1 := x1) (x2 := x2) (x3 := x3) (x4 := x4) (x5 := x5) (x6 := x6) (x7 := x7) (x8 := x8) (x9 := x9) (x10 := x10) (x11 := x11) (x12 := x12) (x13 := x13) (x14 := x14) (x15 := x15) (x16 := x16) (x17 := x17) (x18 := x18) (x19 := x19) (x20 := x20) (x21 := x21) (x22 := x22) (x23 := x23) (x24 := x24) (x25 := x25) (x26 := x26) (x27 := x27) (x28 := x28) (x29 := x29) (x30 := x30) (x31 := x31) (x32 := x32) (b0 := b0) (b1 := b1) (p0 := p0) (t0 := t0) (l0 := l0) (p1 := p1) (t1 := t1) (l1 := l1) (by omega)
  have w2 := h88_0 (x1 := x1) (x2 := x2) (x3 := x3) (x4 := x4) (x5 := x5) (x6 := x6) (x7 := x7) (x8 := x8) (x9 := x9) (x10 := x10) (x11 := x11) (x12 := x12) (x13 := x13) (x14 := x14) (x15 := x15) (x16 := x16) (x17 := x17) (x18 := x18) (x19 := x19) (x20 := x20) (x21 := x21) (x22 := x22) (x23 := x23) (x24 := x24) (x25 := x25) (x26 := x26) (x27 := x27) (x28 := x28) (x29 := x29) (x30 := x30) (x31 := x31) (x32 := x32) (b0 := b0) (b1 := b1) (p0 := p0) (t0 := t0) (l0 := l0) (p1 := p1) (t1 := t1) (l1 := l1) (n := n) hk (by omega)
  have hkl : (b0.take k).length = k := by rw [List.length_take]; omega
  have w3 := h86_0 (x1 := y1) (x2 := y2) (x3 := y3) (x4 := y4) (x5 := y5) (x6 := y6) (x7 := y7) (x8 := y8) (x9 := y9) (x10 := y10) (x11 := y11) (x12 := y12) (x13 := y13) (x14 := y14) (x15 := y15) (x16 := y16) (x17 := y17) (x18 := y18) (x19 := y19) (x20 := y20) (x21 := y21) (x22 := y22) (x23 := y23) (x24 := y24) (x25 := y25) (x26 := y26) (x27 := y27) (x28 := y28) (x29 := y29) (x30 := y30) (x31 := y31) (x32 := y32) (b0 := c0) (b1 := c1) (p0 := q0) (t0 := u0) (l0 := n0) (p1 := q1) (t1 := u1) (l1 := n1) (b := b0.take k) (by omega)
  have e1 : (if ((b0.length : Nat) : Int) < ((n : Nat) : Int) then ((b0.length : Nat) : Int) else ((n : Nat) : Int)) = ((k : Nat) : Int) := by split <;> omega
  have e2 : iadd .i64 ((c0.length : Nat) : Int) ((k : Nat) : Int) = ((c0.length + k : Nat) : Int) := addn (by omega)
  have d1 : decide (((n : Nat) : Int) < 0) = false := decide_eq_false (by omega)
  have d2 : decide (((c0.length + k : Nat) : Int) > 65536) = false := decide_eq_false (by omega)
  unfold h92 p92v0
  simp only [Bool.not_true, cond_false, cond_true, show h111 0 = some true from rfl, d1, w1, st, show decide ((0 : Int) ≤ 0) = true from rfl, show decide ((0 : Int) < 2) = true from rfl, Bool.and_self, show Nat.beq (Int.toNat 0) 0 = true from rfl, e1, e2, d2, w2, show ((0 : Int) != 0) = false from rfl, w3, hkl]
def f72 (a b : List Int) (n : Int) := p72 f84 h86 h92 h90 f23 0 a b n
theorem f72_is {a b : List Int} {n : Nat} (hn : n < 256) : f72 a b (n : Int) = some true := by
  unfold f72 p72
  by_cases h1 : 500 < a.length
  · rw [decide_eq_true (by omega), cond_true]; rfl
  rw [decide_eq_false (by omega), cond_false]
  by_cases h2 : 500 < b.length
  · rw [decide_eq_true (by omega), cond_true]; rfl
  rw [decide_eq_false (by omega), cond_false]
  obtain ⟨k, hk⟩ : ∃ k, min a.length n = k := ⟨_, rfl⟩
  have hkl : (a.take k).length = k := by rw [List.length_take]; omega
  have w1 := h86_0 (x1 := 1) (x2 := 0) (x3 := 0) (x4 := 0) (x5 := 0) (x6 := 0) (x7 := 0) (x8 := 0) (x9 := 0) (x10 := 0) (x11 := 0) (x12 := 0) (x13 := 0) (x14 := 0) (x15 := 0) (x16 := 0) (x17 := 0) (x18 := 0) (x19 := 0) (x20 := 0) (x21 := 0) (x22 := 0) (x23 := 0) (x24 := 0) (x25 := 0) (x26 := 0) (x27 := 0) (x28 := 0) (x29 := 0) (x30 := 0) (x31 := 0) (x32 := 0) (b0 := []) (p0 := 0) (t0 := 0) (l0 := 0) (b1 := []) (p1 := 0) (t1 := 0) (l1 := 0) (b := a) (by simp; omega)
  have w2 := h86_0 (x1 := 2) (x2 := 0) (x3 := 0) (x4 := 0) (x5 := 0) (x6 := 0) (x7 := 0) (x8 := 0) (x9 := 0) (x10 := 0) (x11 := 0) (x12 := 0) (x13 := 0) (x14 := 0) (x15 := 0) (x16 := 0) (x17 := 0) (x18 := 0) (x19 := 0) (x20 := 0) (x21 := 0) (x22 := 0) (x23 := 0) (x24 := 0) (x25 := 0) (x26 := 0) (x27 := 0) (x28 := 0) (x29 := 0) (x30 := 0) (x31 := 0) (x32 := 0) (b0 := []) (p0 := 0) (t0 := 0) (l0 := 0) (b1 := []) (p1 := 0) (t1 := 0) (l1 := 0) (b := b) (by simp; omega)
  rw [List.nil_append] at w1 w2
  have w3 := h86_1 (x1 := 1) (x2 := 0) (x3 := 0) (x4 := 0) (x5 := 0) (x6 := 0) (x7 := 0) (x8 := 0) (x9 := 0) (x10 := 0) (x11 := 0) (x12 := 0) (x13 := 0) (x14 := 0) (x15 := 0) (x16 := 0) (x17 := 0) (x18 := 0) (x19 := 0) (x20 := 0) (x21 := 0) (x22 := 0) (x23 := 0) (x24 := 0) (x25 := 0) (x26 := 0) (x27 := 0) (x28 := 0) (x29 := 0) (x30 := 0) (x31 := 0) (x32 := 0) (b0 := a) (p0 := iadd .i64 0 ((a.length : Nat) : Int)) (t0 := 0) (l0 := 0) (b1 := []) (p1 := 0) (t1 := 0) (l1 := 0) (b := b) (by simp; omega)
  have w4 := h86_1 (x1 := 2) (x2 := 0) (x3 := 0) (x4 := 0) (x5 := 0) (x6 := 0) (x7 := 0) (x8 := 0) (x9 := 0) (x10 := 0) (x11 := 0) (x12 := 0) (x13 := 0) (x14 := 0) (x15 := 0) (x16 := 0) (x17 := 0) (x18 := 0) (x19 := 0) (x20 := 0) (x21 := 0) (x22 := 0) (x23 := 0) (x24 := 0) (x25 := 0) (x26 := 0) (x27 := 0) (x28 := 0) (x29 := 0) (x30 := 0) (x31 := 0) (x32 := 0) (b0 := b) (p0 := iadd .i64 0 ((b.length : Nat) : Int)) (t0 := 0) (l0 := 0) (b1 := []) (p1 := 0) (t1 := 0) (l1 := 0) (b := a) (by simp; omega)
  rw [List.nil_append] at w3 w4
  have w5 := h92_00 (x1 := 1) (x2 := 0) (x3 := 0) (x4 := 0) (x5 := 0) (x6 := 0) (x7 := 0) (x8 := 0) (x9 := 0) (x10 := 0) (x11 := 0) (x12 := 0) (x13 := 0) (x14 := 0) (x15 := 0) (x16 := 0) (x17 := 0) (x18 := 0) (x19 := 0) (x20 := 0) (x21 := 0) (x22 := 0) (x23 := 0) (x24 := 0) (x25 := 0) (x26 := 0) (x27 := 0) (x28 := 0) (x29 := 0) (x30 := 0) (x31 := 0) (x32 := 0) (y1 := 2) (y2 := 0) (y3 := 0) (y4 := 0) (y5 := 0) (y6 := 0) (y7 := 0) (y8 := 0) (y9 := 0) (y10 := 0) (y11 := 0) (y12 := 0) (y13 := 0) (y14 := 0) (y15 := 0) (y16 := 0) (y17 := 0) (y18 := 0) (y19 := 0) (y20 := 0) (y21 := 0) (y22 := 0) (y23 := 0) (y24 := 0) (y25 := 0) (y26 := 0) (y27 := 0) (y28 := 0) (y29 := 0) (y30 := 0) (y31 := 0) (y32 := 0) (b0 := a) (b1 := b) (c0 := b) (c1 := a) (p0 := iadd .i64 0 ((a.length : Nat) : Int)) (t0 := 0) (l0 := 0) (p1 := iadd .i64 0 ((b.length : Nat) : Int)) (t1 := 0) (l1 := 0) (q0 := iadd .i64 0 ((b.length : Nat) : Int)) (u0 := 0) (n0 := 0) (q1 := iadd .i64 0 ((a.length : Nat) : Int)) (u1 := 0) (n1 := 0) (n := n) hk (by omega) (by omega)
  have w6 := h90_0 (s := false) (x1 := 1) (x2 := 0) (x3 := 0) (x4 := 0) (x5 := 0) (x6 := 0) (x7 := 0) (x8 := 0) (x9 := 0) (x10 := 0) (x11 := 0) (x12 := 0) (x13 := 0) (x14 := 0) (x15 := 0) (x16 := 0) (x17 := 0) (x18 := 0) (x19 := 0) (x20 := 0) (x21 := 0) (x22 := 0) (x23 := 0) (x24 := 0) (x25 := 0) (x26 := 0) (x27 := 0) (x28 := 0) (x29 := 0) (x30 := 0) (x31 := 0) (x32 := 0) (b0 := a.drop k) (p0 := iadd .i64 0 ((a.length : Nat) : Int)) (t0 := iadd .i64 0 (k : Int)) (l0 := 0) (b1 := b) (p1 := iadd .i64 0 ((b.length : Nat) : Int)) (t1 := 0) (l1 := 0) (by rw [List.length_drop]; omega)
  have w7 := h90_0 (s := false) (x1 := 2) (x2 := 0) (x3 := 0) (x4 := 0) (x5 := 0) (x6 := 0) (x7 := 0) (x8 := 0) (x9 := 0) (x10 := 0) (x11 := 0) (x12 := 0) (x13 := 0) (x14 := 0) (x15 := 0) (x16 := 0) (x17 := 0) (x18 := 0) (x19 := 0) (x20 := 0) (x21 := 0) (x22 := 0) (x23 := 0) (x24 := 0) (x25 := 0) (x26 := 0) (x27 := 0) (x28 := 0) (x29 := 0) (x30 := 0) (x31 := 0) (x32 := 0) (b0 := b ++ a.take k) (p0 := iadd .i64 (iadd .i64 0 ((b.length : Nat) : Int)) (k : Int)) (t0 := 0) (l0 := 0) (b1 := a) (p1 := iadd .i64 0 ((a.length : Nat) : Int)) (t1 := 0) (l1 := 0) (by rw [List.length_append, hkl]; omega)
  have w8 := h90_1 (s := false) (x1 := 1) (x2 := 0) (x3 := 0) (x4 := 0) (x5 := 0) (x6 := 0) (x7 := 0) (x8 := 0) (x9 := 0) (x10 := 0) (x11 := 0) (x12 := 0) (x13 := 0) (x14 := 0) (x15 := 0) (x16 := 0) (x17 := 0) (x18 := 0) (x19 := 0) (x20 := 0) (x21 := 0) (x22 := 0) (x23 := 0) (x24 := 0) (x25 := 0) (x26 := 0) (x27 := 0) (x28 := 0) (x29 := 0) (x30 := 0) (x31 := 0) (x32 := 0) (b0 := a.drop k) (p0 := iadd .i64 0 ((a.length : Nat) : Int)) (t0 := iadd .i64 0 (k : Int)) (l0 := 0) (b1 := b) (p1 := iadd .i64 0 ((b.length : Nat) : Int)) (t1 := 0) (l1 := 0) (by omega)
  have w9 := h90_1 (s := false) (x1 := 2) (x2 := 0) (x3 := 0) (x4 := 0) (x5 := 0) (x6 := 0) (x7 := 0) (x8 := 0) (x9 := 0) (x10 := 0) (x11 := 0) (x12 := 0) (x13 := 0) (x14 := 0) (x15 := 0) (x16 := 0) (x17 := 0) (x18 := 0) (x19 := 0) (x20 := 0) (x21 := 0) (x22 := 0) (x23 := 0) (x24 := 0) (x25 := 0) (x26 := 0) (x27 := 0) (x28 := 0) (x29 := 0) (x30 := 0) (x31 := 0) (x32 := 0) (b0 := b ++ a.take k) (p0 := iadd .i64 (iadd .i64 0 ((b.length : Nat) : Int)) (k : Int)) (t0 := 0) (l0 := 0) (b1 := a) (p1 := iadd .i64 0 ((a.length : Nat) : Int)) (t1 := 0) (l1 := 0) (by omega)
  have e1 : (if ((a.length : Nat) : Int) < ((n : Nat) : Int) then ((a.length : Nat) : Int) else ((n : Nat) : Int)) = ((k : Nat) : Int) := by split <;> omega
  have f1 : f23 (a.drop k) (a.drop k) = some true := f23_same (by rw [List.length_drop]; omega)
  have f2 : f23 (b ++ a.take k) (b ++ a.take k) = some true := f23_same (by rw [List.length_append, hkl]; omega)
  have f3 : f23 b b = some true := f23_same (by omega)
  have f4 : f23 a a = some true := f23_same (by omega)
  have d1 : decide ((0 : Int) ≤ ((k : Nat) : Int)) = true := decide_eq_true (by omega)
  have d2 : decide (((k : Nat) : Int) ≤ ((a.length : Nat) : Int)) = true := decide_eq_true (by omega)
  have d3 : decide (b.length * 1 ≤ 1099511627776) = true := decide_eq_true (by omega)
  have d4 : decide (b.length ≤ 1099511627776) = true := decide_eq_true (by omega)
  have d5 : decide ((b.length + k) * 1 ≤ 1099511627776) = true := decide_eq_true (by omega)
  have d6 : decide (b.length + k ≤ 1099511627776) = true := decide_eq_true (by omega)
  have d7 : (b.length == b.length * 1) = true := beq_iff_eq.2 (by omega)
  have hl : (b ++ a.take k).length = b.length + k := by rw [List.length_append, hkl]
  have d8 : decide (0 + (b.length + k) * 1 ≤ b.length + k) = true := decide_eq_true (by omega)
  have t1 : List.take (b.length + k) (b ++ a.take k) = b ++ a.take k := List.take_of_length_le (by omega)
  simp only [w1, w2, w3, w4, st, wrap_i64 (x := ((n : Nat) : Int)) (by omega) (by omega), w5, beq_self_eq_true, cond_true, cond_false, e1, w6, d1, d2, Bool.and_self, Int.toNat_natCast, f1, w7, d3, d4, d5, d6, d7, hkl, hl, d8, List.drop_zero, t1, f2, w8, f3, w9, f4, f84]
theorem E72 : EntOK FT XT 72 (en72 f72) := ok72 f84 h86 h92 h90 f23 E84 E23 R86 R92 R90 fun _ _ _ _ h => ⟨0, h⟩
theorem law72 (z0 z1 : List Int) (z2 : Int) (h0 : okD (Sh.sl (Sh.int .u8)) z0) (h1 : okD (Sh.sl (Sh.int .u8)) z1) (h2 : okD (Sh.int .u8) z2) : Ans FT XT 72 (encL [Sh.sl (Sh.int .u8), Sh.sl (Sh.int .u8), Sh.int .u8] (z0, (z1, (z2, ())))) [] (.bool true) [] := by
  obtain ⟨k1, k2⟩ := wf_u (k := .u8) rfl h2
  obtain ⟨n, rfl⟩ : ∃ n : Nat, z2 = (n : Int) := ⟨z2.toNat, by omega⟩
  have : (n : Int) < 256 := k2
  exact E72.2 (z0, (z1, ((n : Int), ()))) true (f72_is (by omega))
end Go.Proofs.YtcnkihdjenjdgaaE
