/- The law OctsPuts. -/
import Derived.Test.YtgjbkgajkcgdfaaEvM2
namespace Go.Proofs.YtgjbkgajkcgdfaaE
open Go
set_option linter.unusedVariables false
set_option linter.unusedSimpArgs false
variable {X : Nat → List V → Option (V × List Blk)}
theorem own19 : ownOf FT 19 = false := rfl
theorem own20 : ownOf FT 20 = false := rfl
theorem own21 : ownOf FT 21 = false := rfl
theorem own22 : ownOf FT 22 = false := rfl
theorem own23 : ownOf FT 23 = false := rfl
theorem own18 : ownOf FT 18 = false := rfl
def arr10 : Blk := .cells false (.imm [.bool false, .bool true])
abbrev e10 (n w : Int) (l : List Int) (i : Nat) (v : List V) : Env :=
  [(0, .int .u64 n), (1, .int .i64 w), (2, .rs l.length (.ints .u8 l)), (6, v.getD 0 .undef), (8, v.getD 1 .undef), (9, v.getD 2 .undef), (10, v.getD 3 .undef), (11, v.getD 4 .undef), (12, v.getD 5 .undef), (13, v.getD 6 .undef), (14, v.getD 7 .undef), (15, v.getD 8 .undef), (16, v.getD 9 .undef), (19, v.getD 10 .undef), (21, .sl 0 0 2 (some 2) 1), (22, .int .i64 2), (23, .int .i64 i), (24, v.getD 11 .undef), (71, v.getD 12 .undef)]
theorem headX (n w : Int) (l : List Int) (i : Nat) (t : Bool) (a b c d : V) (g : Int) (E1 E2 E3 E4 : Int) (N1 N2 : Int) : atHead 0 [0, 1, 2, 21, 22, 23] (e10 n w l i [.undef, .bool t, .nils, .int .i64 E1, .nils, .int .i64 E2, .int .u64 N1, .int .i64 E3, .int .u64 N2, .int .i64 E4, .undef, .bool true, .bool false], [arr10]) = some (e10 n w l i [], [arr10]) := by kernel_rfl
theorem headB (n w : Int) (l : List Int) (i : Nat) (t : Bool) (q : Nat) (La Lb : List Int) (E1 E2 E3 E4 : Int) (N1 N2 : Int) : atHead 0 [0, 1, 2, 21, 22, 23] (e10 n w l i [.undef, .bool t, .sl 1 0 q (some q) 1, .int .i64 E1, .sl 2 0 q (some q) 1, .int .i64 E2, .int .u64 N1, .int .i64 E3, .int .u64 N2, .int .i64 E4, .undef, .bool true, .bool false], [arr10, .cells false (.ints .u8 La), .cells false (.ints .u8 Lb)]) = some (e10 n w l i [], [arr10]) := by kernel_rfl
theorem roundX (n w : Int) (l : List Int) (i : Nat) (t : Bool) (ht : i = (if t then 1 else 0)) (c : Nat) (N E : Int)
    (h19 : evF FT X c 19 [.int .u64 n, .int .i64 w, .bool t] [] = some (oX, [])) (h20 : evF FT X c 20 [.int .u64 n, .int .i64 w, .bool t] [] = some (oX, []))
    (h21 : evF FT X c 21 [.rs l.length (.ints .u8 l), .bool t] [] = some (.tup [.int .u64 N, .int .i64 E], [])) (h22 : evF FT X c 22 [.rs l.length (.ints .u8 l), .bool t] [] = some (.tup [.int .u64 N, .int .i64 E], []))
    (h23 : evF FT X c 23 [.nils, .nils] [] = some (.bool true, [])) :
    ev (evF FT X c) (ownOf FT) 0 30 (bodyOf (loopN k10 0)) (e10 n w l i [], [arr10]) =
      some (.norm, e10 n w l (i + 1) [.undef, .bool t, .nils, .int .i64 1, .nils, .int .i64 1, .int .u64 N, .int .i64 E, .int .u64 N, .int .i64 E, .undef, .bool true, .bool false], [arr10]) := by
  have hN : (N != N) = false := by simp
  have hE : (E != E) = false := by simp
  have w1 : IntKind.i64.wrap 1 = 1 := rfl
  have w2 : IntKind.i64.wrap 2 = 2 := rfl
  cases t with
  | false =>
    simp only [Bool.false_eq_true, if_false] at ht
    subst ht
    simp [loopN, loopsOf, k10, bodyOf, ev, evOps, wants, evOp, evQ, R.ev, look, push, vbin, vun, vint, isShift, C.len, C.get, C.drop, commit, arr10, callEv, own19, own20, own21, own22, own23, lend, ren, reach, far, deep, blockOf, held, inside, byId, hasRs, h19, h20, h21, h22, h23, oX, hN, hE, w1]
  | true =>
    simp only [if_true] at ht
    subst ht
    simp [loopN, loopsOf, k10, bodyOf, ev, evOps, wants, evOp, evQ, R.ev, look, push, vbin, vun, vint, isShift, C.len, C.get, C.drop, commit, arr10, callEv, own19, own20, own21, own22, own23, lend, ren, reach, far, deep, blockOf, held, inside, byId, hasRs, h19, h20, h21, h22, h23, oX, hN, hE, w2]
theorem roundB (n w : Int) (l : List Int) (i : Nat) (t : Bool) (ht : i = (if t then 1 else 0)) (c : Nat) (N E : Int) (q : Nat) (L : List Int) (hL : L.length = q)
    (h19 : evF FT X c 19 [.int .u64 n, .int .i64 w, .bool t] [] = some (.tup [.sl 0 0 q (some q) 1, .int .i64 0], [.cells false (.ints .u8 L)])) (h20 : evF FT X c 20 [.int .u64 n, .int .i64 w, .bool t] [] = some (.tup [.sl 0 0 q (some q) 1, .int .i64 0], [.cells false (.ints .u8 L)]))
    (h21 : evF FT X c 21 [.rs l.length (.ints .u8 l), .bool t] [] = some (.tup [.int .u64 N, .int .i64 E], [])) (h22 : evF FT X c 22 [.rs l.length (.ints .u8 l), .bool t] [] = some (.tup [.int .u64 N, .int .i64 E], []))
    (h23 : evF FT X c 23 [.rs q (.ints .u8 L), .rs q (.ints .u8 L)] [] = some (.bool true, [])) :
    ev (evF FT X c) (ownOf FT) 0 30 (bodyOf (loopN k10 0)) (e10 n w l i [], [arr10]) =
      some (.norm, e10 n w l (i + 1) [.undef, .bool t, .sl 1 0 q (some q) 1, .int .i64 0, .sl 2 0 q (some q) 1, .int .i64 0, .int .u64 N, .int .i64 E, .int .u64 N, .int .i64 E, .undef, .bool true, .bool false], [arr10, .cells false (.ints .u8 L), .cells false (.ints .u8 L)]) := by
  have hN : (N != N) = false := by simp
  have hE : (E != E) = false := by simp
  have w1 : IntKind.i64.wrap 1 = 1 := rfl
  have w2 : IntKind.i64.wrap 2 = 2 := rfl
  have hT : L.take q = L := by rw [← hL]; exact List.take_length
  cases t with
  | false =>
    simp only [Bool.false_eq_true, if_false] at ht
    subst ht
    simp [loopN, loopsOf, k10, bodyOf, ev, evOps, wants, evOp, evQ, R.ev, look, push, vbin, vun, vint, isShift, C.len, C.get, C.drop, C.sub, commit, arr10, callEv, own19, own20, own21, own22, own23, lend, ren, renB, hasRsB, reach, far, deep, blockOf, held, inside, byId, hasRs, h19, h20, h21, h22, h23, hN, hE, w1, hL, hT]
  | true =>
    simp only [if_true] at ht
    subst ht
    simp [loopN, loopsOf, k10, bodyOf, ev, evOps, wants, evOp, evQ, R.ev, look, push, vbin, vun, vint, isShift, C.len, C.get, C.drop, C.sub, commit, arr10, callEv, own19, own20, own21, own22, own23, lend, ren, renB, hasRsB, reach, far, deep, blockOf, held, inside, byId, hasRs, h19, h20, h21, h22, h23, hN, hE, w2, hL, hT]
theorem end10 (n w : Int) (l : List Int) (c : Nat) : ev (evF FT X c) (ownOf FT) 0 30 (bodyOf (loopN k10 0)) (e10 n w l 2 [], [arr10]) = some (.exit 0, e10 n w l 2 [.undef, .undef, .undef, .undef, .undef, .undef, .undef, .undef, .undef, .undef, .undef, .bool false], [arr10]) := by kernel_rfl
/-- a round, whatever Put answers -/
theorem round10 (n w : Int) (l : List Int) (i : Nat) (t : Bool) (ht : i = (if t then 1 else 0)) (h0 : 0 ≤ n) (h1 : n < 2 ^ 64) (hb : bytes l) :
    ∃ s1, Runs FT X 0 (bodyOf (loopN k10 0)) (e10 n w l i [], [arr10]) .norm s1 ∧ atHead 0 [0, 1, 2, 21, 22, 23] s1 = some (e10 n w l (i + 1) [], [arr10]) := by
  obtain ⟨N, E, hg⟩ : ∃ N E, Ans FT X 21 [.rs l.length (.ints .u8 l), .bool t] [] (.tup [.int .u64 N, .int .i64 E]) [] ∧ Ans FT X 22 [.rs l.length (.ints .u8 l), .bool t] [] (.tup [.int .u64 N, .int .i64 E]) [] := by
    by_cases hl : 1 ≤ l.length ∧ l.length ≤ 8
    · refine ⟨gR l t, 0, ?_, a22 l t hl.1 hl.2⟩
      have := a21 (X := X) l t hl.1 hl.2
      rw [gO_eq l t hb hl.2] at this
      exact this
    · exact ⟨0, 1, x21 l t (by omega), x22 l t (by omega)⟩
  obtain ⟨N21, h21⟩ := ans_at hg.1
  obtain ⟨N22, h22⟩ := ans_at hg.2
  by_cases hw : w < 1 ∨ 8 < w
  · obtain ⟨N19, h19⟩ := ans_at (x19 (X := X) n w t hw)
    obtain ⟨N20, h20⟩ := ans_at (x20 (X := X) n w t hw)
    obtain ⟨N23, h23⟩ := ans_at (show Ans FT X 23 [.nils, .nils] [] (.bool true) [] from ⟨40, by kernel_rfl⟩)
    refine ⟨_, runs_ev (c := N21 + N22 + N19 + N20 + N23) (roundX n w l i t ht _ N E (h19 _ (by omega)) (h20 _ (by omega)) (h21 _ (by omega)) (h22 _ (by omega)) (h23 _ (by omega))), ?_⟩
    exact headX n w l (i + 1) t .undef .undef .undef .undef 0 1 1 E E N N
  · obtain ⟨q, rfl⟩ : ∃ q : Nat, w = q := ⟨w.toNat, by omega⟩
    have hL := pO_len n q t
    obtain ⟨N19, h19⟩ := ans_at (a19 (X := X) n q t (by omega) (by omega))
    obtain ⟨N20, h20⟩ := ans_at (a20 (X := X) n q t (by omega) (by omega))
    rw [pO_eq h0 h1] at h20
    obtain ⟨N23, h23⟩ := ans_at (ans23 (X := X) (pO n q t) (pO n q t) (by omega))
    simp only [oP, oB, hL, decide_true] at h19 h20 h23
    refine ⟨_, runs_ev (c := N21 + N22 + N19 + N20 + N23) (roundB n q l i t ht _ N E q (pO n q t) hL (h19 _ (by omega)) (h20 _ (by omega)) (h21 _ (by omega)) (h22 _ (by omega)) (h23 _ (by omega))), ?_⟩
    exact headB n q l (i + 1) t q _ _ 0 0 E E N N
theorem runs_loop' {F : Nat → Option Fun} {n0 : Nat} {kp : List Nat} {b : K} {s s0 s1 s2 : St} {r : Ex} (h0 : atHead n0 kp s = some s0) (h1 : Runs F X n0 b s0 .norm s1) (h2 : Runs F X n0 (.loop kp b) s1 r s2) : Runs F X n0 (.loop kp b) s r s2 := runs_loop h0 h1 h2
theorem loop10 (n w : Int) (l : List Int) (h0 : 0 ≤ n) (h1 : n < 2 ^ 64) (hb : bytes l) (s : St) (hs : atHead 0 [0, 1, 2, 21, 22, 23] s = some (e10 n w l 0 [], [arr10])) :
    Runs FT X 0 (loopN k10 0) s (.exit 0) (e10 n w l 2 [.undef, .undef, .undef, .undef, .undef, .undef, .undef, .undef, .undef, .undef, .undef, .bool false], [arr10]) := by
  have hloop : loopN k10 0 = .loop [0, 1, 2, 21, 22, 23] (bodyOf (loopN k10 0)) := rfl
  obtain ⟨s1, r1, a1⟩ := round10 (X := X) n w l 0 false rfl h0 h1 hb
  obtain ⟨s2, r2, a2⟩ := round10 (X := X) n w l 1 true rfl h0 h1 hb
  rw [hloop]
  refine runs_loop hs r1 (runs_loop a1 r2 (runs_loop_out a2 ?_ (by simp)))
  exact runs_ev (end10 n w l 0)
end Go.Proofs.YtgjbkgajkcgdfaaE
