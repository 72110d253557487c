/- Chapter 1: numbers laid and read. -/
import Derived.Test.YtgjbkgajkcgdfaaEvC1
namespace Go.Proofs.YtgjbkgajkcgdfaaE
open Go
set_option linter.unusedVariables false
set_option linter.unusedSimpArgs false
variable {X : Nat → List V → Option (V × List Blk)}
def rev (t : Bool) (l : List Int) : List Int := if t then l else l.reverse
def pO (n : Int) (w : Nat) (t : Bool) : List Int := rev t ((List.range w).map fun i => IntKind.u8.wrap (n.fdiv (2 ^ (8 * i))))
def dig (n : Int) : Nat → List Int
  | 0 => []
  | w + 1 => IntKind.u8.wrap (n.tmod 256) :: dig (IntKind.u64.wrap (n.tdiv 256)) w
def pD (n : Int) (w : Nat) (t : Bool) : List Int := rev t (dig n w)
def oP (l : List Int) : V := .tup [.sl 0 0 l.length (some l.length) 1, .int .i64 0]
def oB (l : List Int) : List Blk := [.cells false (.ints .u8 l)]
theorem a19 (n : Int) (w : Nat) (t : Bool) (h1 : 1 ≤ w) (h8 : w ≤ 8) : Ans FT X 19 [.int .u64 n, .int .i64 w, .bool t] [] (oP (pO n w t)) (oB (pO n w t)) := by
  have : w = 1 ∨ w = 2 ∨ w = 3 ∨ w = 4 ∨ w = 5 ∨ w = 6 ∨ w = 7 ∨ w = 8 := by omega
  rcases this with rfl | rfl | rfl | rfl | rfl | rfl | rfl | rfl <;> cases t <;> exact ⟨60, by kernel_rfl⟩
theorem a20 (n : Int) (w : Nat) (t : Bool) (h1 : 1 ≤ w) (h8 : w ≤ 8) : Ans FT X 20 [.int .u64 n, .int .i64 w, .bool t] [] (oP (pD n w t)) (oB (pD n w t)) := by
  have : w = 1 ∨ w = 2 ∨ w = 3 ∨ w = 4 ∨ w = 5 ∨ w = 6 ∨ w = 7 ∨ w = 8 := by omega
  rcases this with rfl | rfl | rfl | rfl | rfl | rfl | rfl | rfl <;> cases t <;> exact ⟨60, by kernel_rfl⟩
def gB : Int → List Int → Int
  | n, [] => n
  | n, c :: l => gB (IntKind.u64.wrap ((BitVec.ofInt 64 (IntKind.u64.wrap (n * 2 ^ 8)) ||| BitVec.ofInt 64 (IntKind.u64.wrap c)).toNat)) l
def gL : Nat → Int → List Int → Int
  | _, n, [] => n
  | i, n, c :: l => gL (i + 1) (IntKind.u64.wrap ((BitVec.ofInt 64 n ||| BitVec.ofInt 64 (IntKind.u64.wrap (IntKind.u64.wrap c * 2 ^ (8 * i)))).toNat)) l
def nD : Int → List Int → Int
  | n, [] => n
  | n, c :: l => nD (IntKind.u64.wrap (IntKind.u64.wrap (n * 256) + IntKind.u64.wrap c)) l
def gO (l : List Int) (t : Bool) : Int := if t then gL 0 0 l else gB 0 l
def gR (l : List Int) (t : Bool) : Int := nD 0 (if t then l.reverse else l)
def oG (n : Int) : V := .tup [.int .u64 n, .int .i64 0]
theorem split8 {l : List Int} (h1 : 1 ≤ l.length) (h8 : l.length ≤ 8) : (∃ a, l = [a]) ∨ (∃ a b, l = [a, b]) ∨ (∃ a b c, l = [a, b, c]) ∨ (∃ a b c d, l = [a, b, c, d]) ∨ (∃ a b c d e, l = [a, b, c, d, e]) ∨ (∃ a b c d e f, l = [a, b, c, d, e, f]) ∨ (∃ a b c d e f g, l = [a, b, c, d, e, f, g]) ∨ (∃ a b c d e f g h, l = [a, b, c, d, e, f, g, h]) := by
  match l, h1, h8 with
  | [a], _, _ => exact .inl ⟨a, rfl⟩
  | [a, b], _, _ => exact .inr (.inl ⟨a, b, rfl⟩)
  | [a, b, c], _, _ => exact .inr (.inr (.inl ⟨a, b, c, rfl⟩))
  | [a, b, c, d], _, _ => exact .inr (.inr (.inr (.inl ⟨a, b, c, d, rfl⟩)))
  | [a, b, c, d, e], _, _ => exact .inr (.inr (.inr (.inr (.inl ⟨a, b, c, d, e, rfl⟩))))
  | [a, b, c, d, e, f], _, _ => exact .inr (.inr (.inr (.inr (.inr (.inl ⟨a, b, c, d, e, f, rfl⟩)))))
  | [a, b, c, d, e, f, g], _, _ => exact .inr (.inr (.inr (.inr (.inr (.inr (.inl ⟨a, b, c, d, e, f, g, rfl⟩))))))
  | [a, b, c, d, e, f, g, h], _, _ => exact .inr (.inr (.inr (.inr (.inr (.inr (.inr ⟨a, b, c, d, e, f, g, h, rfl⟩))))))
  | _ :: _ :: _ :: _ :: _ :: _ :: _ :: _ :: _ :: _, _, h => simp at h
theorem a21 (l : List Int) (t : Bool) (h1 : 1 ≤ l.length) (h8 : l.length ≤ 8) : Ans FT X 21 [.rs l.length (.ints .u8 l), .bool t] [] (oG (gO l t)) [] := by
  rcases split8 h1 h8 with ⟨a, rfl⟩ | ⟨a, b, rfl⟩ | ⟨a, b, c, rfl⟩ | ⟨a, b, c, d, rfl⟩ | ⟨a, b, c, d, e, rfl⟩ | ⟨a, b, c, d, e, f, rfl⟩ | ⟨a, b, c, d, e, f, g, rfl⟩ | ⟨a, b, c, d, e, f, g, h, rfl⟩ <;> cases t <;> exact ⟨60, by kernel_rfl⟩
theorem a22 (l : List Int) (t : Bool) (h1 : 1 ≤ l.length) (h8 : l.length ≤ 8) : Ans FT X 22 [.rs l.length (.ints .u8 l), .bool t] [] (oG (gR l t)) [] := by
  rcases split8 h1 h8 with ⟨a, rfl⟩ | ⟨a, b, rfl⟩ | ⟨a, b, c, rfl⟩ | ⟨a, b, c, d, rfl⟩ | ⟨a, b, c, d, e, rfl⟩ | ⟨a, b, c, d, e, f, rfl⟩ | ⟨a, b, c, d, e, f, g, rfl⟩ | ⟨a, b, c, d, e, f, g, h, rfl⟩ <;> cases t <;> exact ⟨60, by kernel_rfl⟩
/-! refused -/
def oX : V := .tup [.nils, .int .i64 1]
def oY : V := .tup [.int .u64 0, .int .i64 1]
theorem x19 (n w : Int) (t : Bool) (h : w < 1 ∨ 8 < w) : Ans FT X 19 [.int .u64 n, .int .i64 w, .bool t] [] oX [] := by
  refine ans_of (fn := k19) rfl (by simp [k19]) (e1 := [(0, .int .u64 n), (1, .int .i64 w), (2, .bool t), (6, .nils), (7, .int .i64 1), (8, .tup []), (9, .tup []), (15, .bool true), (19, .tup []), (20, .tup []), (21, .tup []), (33, .tup [])]) (H1 := []) (r := .ret) (runs_ev (n := 20) (c := 0) ?_) (.inr rfl) (rs := [.nils, .int .i64 1]) rfl (by kernel_rfl)
  by_cases h1 : w < 1
  · simp [env0, k19, ev, evOps, wants, evOp, evQ, R.ev, look, push, commit, vbin, vint, isShift, h1]
  · have h8 : 8 < w := by omega
    simp [env0, k19, ev, evOps, wants, evOp, evQ, R.ev, look, push, commit, vbin, vint, isShift, h1, h8]
theorem x20 (n w : Int) (t : Bool) (h : w < 1 ∨ 8 < w) : Ans FT X 20 [.int .u64 n, .int .i64 w, .bool t] [] oX [] := by
  refine ans_of (fn := k20) rfl (by simp [k20]) (e1 := [(0, .int .u64 n), (1, .int .i64 w), (2, .bool t), (6, .nils), (7, .int .i64 1), (13, .bool true), (14, .tup [])]) (H1 := []) (r := .ret) (runs_ev (n := 20) (c := 0) ?_) (.inr rfl) (rs := [.nils, .int .i64 1]) rfl (by kernel_rfl)
  by_cases h1 : w < 1
  · simp [env0, k20, ev, evOps, wants, evOp, evQ, R.ev, look, push, commit, vbin, vint, isShift, h1]
  · have h8 : 8 < w := by omega
    simp [env0, k20, ev, evOps, wants, evOp, evQ, R.ev, look, push, commit, vbin, vint, isShift, h1, h8]
theorem x21 (l : List Int) (t : Bool) (h : l.length < 1 ∨ 8 < l.length) : Ans FT X 21 [.rs l.length (.ints .u8 l), .bool t] [] oY [] := by
  refine ans_of (fn := k21) rfl (by simp [k21]) (e1 := [(0, .rs l.length (.ints .u8 l)), (1, .bool t), (4, .int .u64 0), (5, .int .i64 1), (6, .tup []), (7, .tup []), (8, .tup []), (16, .bool true), (17, .tup []), (18, .tup []), (19, .tup []), (20, .tup []), (24, .tup [])]) (H1 := []) (r := .ret) (runs_ev (n := 20) (c := 0) ?_) (.inr rfl) (rs := [.int .u64 0, .int .i64 1]) rfl (by kernel_rfl)
  generalize l.length = q at h ⊢
  by_cases h1 : q = 0
  · subst h1
    simp [env0, k21, ev, evOps, wants, evOp, evQ, R.ev, look, push, commit, vbin, vint, isShift]
  · have h8 : 8 < (q : Int) := by omega
    have h9 : ¬ (q : Int) < 1 := by omega
    simp [env0, k21, ev, evOps, wants, evOp, evQ, R.ev, look, push, commit, vbin, vint, isShift, h9, h8]
theorem x22 (l : List Int) (t : Bool) (h : l.length < 1 ∨ 8 < l.length) : Ans FT X 22 [.rs l.length (.ints .u8 l), .bool t] [] oY [] := by
  refine ans_of (fn := k22) rfl (by simp [k22]) (e1 := [(0, .rs l.length (.ints .u8 l)), (1, .bool t), (4, .int .u64 0), (5, .int .i64 1), (13, .bool true), (14, .tup [])]) (H1 := []) (r := .ret) (runs_ev (n := 20) (c := 0) ?_) (.inr rfl) (rs := [.int .u64 0, .int .i64 1]) rfl (by kernel_rfl)
  generalize l.length = q at h ⊢
  by_cases h1 : q = 0
  · subst h1
    simp [env0, k22, ev, evOps, wants, evOp, evQ, R.ev, look, push, commit, vbin, vint, isShift]
  · have h8 : 8 < (q : Int) := by omega
    have h9 : ¬ (q : Int) < 1 := by omega
    simp [env0, k22, ev, evOps, wants, evOp, evQ, R.ev, look, push, commit, vbin, vint, isShift, h9, h8]
theorem a18 : Ans FT X 18 [] [] (.bool true) [] := ⟨200, by kernel_rfl⟩
end Go.Proofs.YtgjbkgajkcgdfaaE
