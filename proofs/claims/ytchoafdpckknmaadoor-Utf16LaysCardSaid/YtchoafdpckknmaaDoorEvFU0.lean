/- The evaluator's functions. -/
import Derived.Test.YtchoafdpckknmaaDoorEvXT
namespace Go.Proofs.YtchoafdpckknmaaDoorE.U0
open Go
set_option linter.unusedVariables false
set_option linter.unusedSimpArgs false
abbrev i0 (d : Nat) (o : O) : Op := ⟨some d, o, none, []⟩
abbrev i1 (d : Nat) (o : O) (w : List Nat) : Op := ⟨some d, o, none, w⟩
abbrev rf (l : List Op) : K := .region l false
abbrev rt (l : List Op) : K := .region l true
abbrev mv (n : Nat) : O := .mv (.s n)
abbrev ci (n : Int) : R := .c (.int .i64 n)

/-- euphroe/octs.Get -/
def k21 : Fun := ⟨2, 39, [0, 1, 4, 5, 6, 7, 8, 16, 17, 18, 19, 20, 24], [(.tmp 4), (.tmp 5)],
  (.seq (rf [i0 4 (.mv (.c (.int .u64 0))),
 i1 5 (.mv (ci 0)) [0]])
 (.seq (.seq (rf [i0 9 (mv 0),
 i1 10 (.len false (.s 9)) [0],
 i1 11 (.bin .lss (.s 10) (ci 1)) [1],
 i1 12 (mv 11) [2],
 ⟨(some 13), (mv 0), (some (12, false)), [3]⟩,
 ⟨(some 14), (.len false (.s 13)), (some (12, false)), [4, 3]⟩,
 ⟨(some 15), (.bin .gtr (.s 14) (ci 8)), (some (12, false)), [5, 3]⟩,
 i1 16 (.pick (.s 12) (.c (.bool true)) (.s 15)) [3, 6]])
 (.cond (.s 16)
 (.seq (rf [i0 4 (.mv (.c (.int .u64 0))),
 i1 5 (.mv (ci 1)) [0, 0]])
 .ret)
 .skip))
 (.seq (rf [i0 6 (.mv (.c (.int .u64 0)))])
 (.seq (.seq (rf [i0 17 (mv 0),
 i1 18 (.len false (.s 17)) [0],
 i0 19 (.mv (ci 0))])
 (.block 0
 (.loop ⟨0, [], false, [1, 6, 17, 18, 19], []⟩
 (.seq (rf [i0 20 (.bin .lss (.s 19) (.s 18))])
 (.seq (.cond (.s 20)
 .skip
 (.pre ⟨0, [], false, [6], []⟩ (.exit 0)))
 (.seq (.block 1
 (.seq (rf [i0 21 (mv 19),
 i0 22 (.iad 1 (.s 17) (.s 19)),
 i1 23 (.ldc (.s 22)) [1],
 i1 7 (mv 21) [0, 0, 1, 2],
 i1 8 (mv 23) [2, 3, 0, 1, 2, 3]])
 (.seq (rf [i0 24 (mv 1)])
 (.cond (.s 24)
 (rf [i0 25 (mv 6),
 i0 26 (mv 8),
 i1 27 (.cvi .u64 (.s 26)) [1],
 i0 28 (mv 7),
 i1 29 (.bin .mul (ci 8) (.s 28)) [3],
 i1 30 (.bin .shl (.s 27) (.s 29)) [2, 4],
 i1 31 (.bin .or (.s 25) (.s 30)) [0, 5],
 i1 6 (mv 31) [6, 0, 1, 2, 3, 4, 5, 6]])
 (rf [i0 32 (mv 6),
 i1 33 (.bin .shl (.s 32) (.c (.int .u64 8))) [0],
 i0 34 (mv 8),
 i1 35 (.cvi .u64 (.s 34)) [2],
 i1 36 (.bin .or (.s 33) (.s 35)) [1, 3],
 i1 6 (mv 36) [4, 0, 1, 2, 3, 4]])))))
 (rf [i0 37 (.bin .add (.s 19) (ci 1)),
 i1 19 (mv 37) [0]])))))))
 (.seq (rf [i0 38 (mv 6),
 i1 4 (mv 38) [0, 0],
 i1 5 (.mv (ci 0)) [1, 0, 1]])
 .ret))))), false, (some [(Sh.sl (Sh.int .u8)), Sh.bool]), (some (Sh.tu (Sh.pr (Sh.int .u64) (Sh.int .i64)))), false⟩

/-- unicode/utf8.RuneCountInString -/
def k397 : Fun := ⟨1, 10, [0, 2, 4, 6], [(.tmp 2)],
  (.seq (rf [i0 2 (.mv (ci 0))])
 (.seq (.seq (rf [i0 3 (mv 0),
 i1 4 (.rng (.s 3)) [0]])
 (.block 0
 (.loop ⟨0, [], false, [2, 4], []⟩
 (.seq (rf [i0 5 (.nxt (.s 4)),
 i1 6 (.ext (.s 5) 0) [0]])
 (.seq (.cond (.s 6)
 .skip
 (.pre ⟨0, [], false, [2], []⟩ (.exit 0)))
 (.block 1
 (rf [i0 7 (mv 2),
 i1 8 (.bin .add (.s 7) (ci 1)) [0],
 i1 2 (mv 8) [1, 0, 1]])))))))
 (.seq (rf [i0 9 (mv 2),
 i1 2 (mv 9) [0, 0]])
 .ret))), false, (some [Sh.str]), (some (Sh.int .i64)), false⟩

/-- euphroe/utf16.sign -/
def k413 : Fun := ⟨1, 35, [0, 2, 3, 4, 5, 13, 27], [(.tmp 2), (.tmp 3)],
  (.seq (rf [i0 2 (.mv (.c (.int .i32 0))),
 i1 3 (.mv (ci 0)) [0]])
 (.seq (rf [i0 6 (mv 0),
 i1 7 (.call (.c (.fn 417 [])) [(.s 6)]) [0],
 i1 4 (mv 7) [1, 1, 0, 1]])
 (.seq (.seq (rf [i0 8 (mv 4),
 i1 9 (.bin .lss (.s 8) (.c (.int .i32 55296))) [0],
 i1 10 (mv 9) [1],
 ⟨(some 11), (mv 4), (some (10, false)), [2]⟩,
 ⟨(some 12), (.bin .geq (.s 11) (.c (.int .i32 57344))), (some (10, false)), [3, 2]⟩,
 i1 13 (.pick (.s 10) (.c (.bool true)) (.s 12)) [2, 4]])
 (.cond (.s 13)
 (.seq (rf [i0 14 (mv 4),
 i1 2 (mv 14) [0, 0],
 i1 3 (.mv (ci 2)) [1, 0, 1]])
 .ret)
 .skip))
 (.seq (rf [i0 15 (mv 0),
 i1 16 (.sls 1 (.s 15) (some (ci 2)) none none) [0],
 i1 17 (.call (.c (.fn 417 [])) [(.s 16)]) [1],
 i1 5 (mv 17) [2, 2, 0, 1, 2]])
 (.seq (.seq (rf [i0 18 (mv 4),
 i1 19 (.bin .geq (.s 18) (.c (.int .i32 56320))) [0],
 i1 20 (mv 19) [1],
 ⟨(some 21), (mv 5), (some (20, false)), [2]⟩,
 ⟨(some 22), (.bin .lss (.s 21) (.c (.int .i32 56320))), (some (20, false)), [3, 2]⟩,
 i1 23 (.pick (.s 20) (.c (.bool true)) (.s 22)) [2, 4],
 i1 24 (mv 23) [5, 2],
 ⟨(some 25), (mv 5), (some (24, false)), [6]⟩,
 ⟨(some 26), (.bin .geq (.s 25) (.c (.int .i32 57344))), (some (24, false)), [7, 6]⟩,
 i1 27 (.pick (.s 24) (.c (.bool true)) (.s 26)) [6, 8]])
 (.cond (.s 27)
 (.seq (rf [i0 2 (.mv (.c (.int .i32 0))),
 i1 3 (.mv (ci 0)) [0, 0]])
 .ret)
 .skip))
 (.seq (rf [i0 28 (mv 4),
 i1 29 (.bin .sub (.s 28) (.c (.int .i32 55296))) [0],
 i1 30 (.bin .shl (.s 29) (.c (.int .u64 10))) [1],
 i1 31 (.bin .add (.c (.int .i32 65536)) (.s 30)) [2],
 i0 32 (mv 5),
 i1 33 (.bin .add (.s 31) (.s 32)) [3, 4],
 i1 34 (.bin .sub (.s 33) (.c (.int .i32 56320))) [5],
 i1 2 (mv 34) [6, 0, 1, 2, 3, 4, 5, 6],
 i1 3 (.mv (ci 4)) [7, 0, 1, 2, 3, 4, 5, 6, 7]])
 .ret)))))), false, (some [(Sh.sl (Sh.int .u8))]), (some (Sh.tu (Sh.pr (Sh.int .i32) (Sh.int .i64)))), false⟩

/-- euphroe/utf16.unit -/
def k417 : Fun := ⟨1, 16, [0, 2, 3, 7], [(.tmp 2)],
  (.seq (rf [i0 2 (.mv (.c (.int .i32 0)))])
 (.seq (.seq (rf [i0 5 (mv 0),
 i1 6 (.len false (.s 5)) [0],
 i1 7 (.bin .lss (.s 6) (ci 2)) [1]])
 (.cond (.s 7)
 (.seq (rf [i0 2 (.mv (.c (.int .i32 (-1))))])
 .ret)
 .skip))
 (.seq (rf [i0 9 (mv 0),
 i1 10 (.sls 1 (.s 9) none (some (ci 2)) none) [0],
 i1 11 (.call (.c (.fn 21 [])) [(.s 10), (.c (.bool true))]) [1],
 i1 8 (mv 11) [2],
 i1 12 (.ext (.s 8) 0) [3],
 i1 13 (.ext (.s 8) 1) [3],
 i1 3 (mv 12) [4, 2, 0, 1, 2, 3, 4],
 i1 4 (mv 13) [5, 6, 0, 1, 2, 3, 4, 5, 6]])
 (.seq (rf [i0 14 (mv 3),
 i1 15 (.cvi .i32 (.s 14)) [0],
 i1 2 (mv 15) [1, 0, 1]])
 .ret)))), false, (some [(Sh.sl (Sh.int .u8))]), (some (Sh.int .i32)), false⟩

def FT : Nat → Option Fun
  | 21 => some k21
  | 397 => some k397
  | 413 => some k413
  | 417 => some k417
  | _ => none
end Go.Proofs.YtchoafdpckknmaaDoorE.U0
