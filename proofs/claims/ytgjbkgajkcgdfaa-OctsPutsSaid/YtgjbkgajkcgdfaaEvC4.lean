/- The law OctsPuts answers true. -/
import Derived.Test.YtgjbkgajkcgdfaaEvC3
namespace Go.Proofs.YtgjbkgajkcgdfaaE
open Go
set_option linter.unusedVariables false
set_option linter.unusedSimpArgs false
variable {X : Nat → List V → Option (V × List Blk)}
abbrev f10 (n w : Int) (l : List Int) (x6 x19 x21 x22 x23 x24 : V) : Env :=
  [(0, .int .u64 n), (1, .int .i64 w), (2, .rs l.length (.ints .u8 l)), (6, x6), (8, .tup []), (9, .tup []), (10, .tup []), (11, .tup []), (12, .tup []), (13, .tup []), (14, .tup []), (15, .tup []), (16, .tup []), (19, x19), (21, x21), (22, x22), (23, x23), (24, x24), (71, .tup [])]
theorem ans10 (n w : Int) (l : List Int) (h0 : 0 ≤ n) (h1 : n < 2 ^ 64) (hb : bytes l) : Ans FT X 10 [.int .u64 n, .int .i64 w, .rs l.length (.ints .u8 l)] [] (.bool true) [] := by
  obtain ⟨N, h18⟩ := ans_at (a18 (X := X))
  have h18 := h18 N (Nat.le_refl _)
  by_cases hl : 100 < (l.length : Int)
  · refine ans_of (fn := k10) rfl (by simp [k10]) (e1 := f10 n w l (.bool true) (.bool true) (.tup []) (.tup []) (.tup []) (.tup [])) (H1 := []) (r := .ret) (runs_ev (n := 30) (c := N) ?_) (.inr rfl) (rs := [.bool true]) rfl (by kernel_rfl)
    simp [env0, k10, ev, evOps, wants, evOp, evQ, R.ev, look, push, commit, vbin, vint, isShift, hl, callEv, own18, reach, far, deep, ren, hasRs, h18]
  · have s0 : Runs FT X 0 (.region [⟨some 6, .mv (.c (.bool false)), none, []⟩] false) (env0 k10 [.int .u64 n, .int .i64 w, .rs l.length (.ints .u8 l)], []) .norm (f10 n w l (.bool false) (.tup []) (.tup []) (.tup []) (.tup []) (.tup []), []) :=
      runs_ev (n := 5) (c := 0) (by simp [env0, k10, ev, evOps, wants, evOp, evQ, R.ev, look, push, commit])
    refine ans_of (fn := k10) rfl (by simp [k10]) (e1 := e10 n w l 2 [.bool true, .undef, .undef, .undef, .undef, .undef, .undef, .undef, .undef, .undef, .undef, .bool false]) (H1 := [arr10]) (r := .ret) ?_ (.inr rfl) (rs := [.bool true]) rfl (by kernel_rfl)
    show Runs FT X 0 (.seq _ (.seq _ (.seq (.seq _ (.block 0 (loopN k10 0))) (.seq _ .ret)))) _ _ _
    refine runs_seq s0 (runs_seq (s1 := (f10 n w l (.bool false) (.bool false) (.tup []) (.tup []) (.tup []) (.tup []), [])) (runs_ev (n := 30) (c := 0) ?_) (runs_seq (runs_seq (s1 := (f10 n w l (.bool false) (.bool false) (.sl 0 0 2 (some 2) 1) (.int .i64 2) (.int .i64 0) (.tup []), [arr10])) (runs_ev (n := 5) (c := 0) ?_) (runs_block_exit (loop10 n w l h0 h1 hb _ (by kernel_rfl)))) (runs_seq (runs_ev (n := 5) (c := N) ?_) runs_ret)))
    · simp [ev, evOps, wants, evOp, evQ, R.ev, look, push, commit, vbin, vint, isShift, hl]
    · simp [ev, evOps, wants, evOp, evQ, R.ev, look, push, commit, putAll, C.put, V.cellsC, C.one, C.len, C.toL, tidy, V.idf, arr10]
    · simp [ev, evOps, wants, evOp, evQ, R.ev, look, push, commit, callEv, own18, reach, far, deep, ren, hasRs, h18]
end Go.Proofs.YtgjbkgajkcgdfaaE
