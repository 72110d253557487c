/- The evaluator's functions. -/
import Derived.Test.YtchoafdpckknmaaDoorEvPx
namespace Go.Proofs.YtchoafdpckknmaaDoorE
open Go
set_option linter.unusedVariables false
set_option linter.unusedSimpArgs false
abbrev i0 (d : Nat) (o : O) : Op := ⟨some d, o, none, []⟩
abbrev i1 (d : Nat) (o : O) (w : List Nat) : Op := ⟨some d, o, none, w⟩
abbrev rf (l : List Op) : K := .region l false
abbrev rt (l : List Op) : K := .region l true
abbrev mv (n : Nat) : O := .mv (.s n)
abbrev ci (n : Int) : R := .c (.int .i64 n)

/-- euphroe/octs.Put -/
def k19 : Fun := ⟨3, 37, [0, 1, 2, 6, 7, 8, 9, 15, 19, 20, 21, 33], [(.tmp 6), (.tmp 7)],
  (.seq (rf [i0 6 (.mv (.c .nils)),
 i1 7 (.mv (ci 0)) [0]])
 (.seq (.seq (rf [i0 10 (mv 1),
 i1 11 (.bin .lss (.s 10) (ci 1)) [0],
 i1 12 (mv 11) [1],
 ⟨(some 13), (mv 1), (some (12, false)), [2]⟩,
 ⟨(some 14), (.bin .gtr (.s 13) (ci 8)), (some (12, false)), [3, 2]⟩,
 i1 15 (.pick (.s 12) (.c (.bool true)) (.s 14)) [2, 4]])
 (.cond (.s 15)
 (.seq (rf [i0 6 (.mv (.c .nils)),
 i1 7 (.mv (ci 1)) [0, 0]])
 .ret)
 .skip))
 (.seq (rf [i0 16 (mv 1),
 i1 17 (.mks (.ints .u8 [0]) 1 1 (.s 16) (.s 16)) [0, 0],
 i1 8 (mv 17) [1, 0, 1]])
 (.seq (.seq (rf [i0 18 (mv 8),
 i1 19 (.len false (.s 18)) [0],
 i0 20 (.mv (ci 0))])
 (.block 0
 (.loop ⟨0, [], false, [0, 2, 8, 19, 20], []⟩
 (.seq (rf [i0 21 (.bin .lss (.s 20) (.s 19))])
 (.seq (.cond (.s 21)
 .skip
 (.pre ⟨0, [], false, [2, 8], []⟩ (.exit 0)))
 (.seq (.block 1
 (.seq (rf [i0 22 (mv 20),
 i1 9 (mv 22) [0, 0]])
 (rf [i0 23 (mv 8),
 i0 24 (mv 9),
 i0 25 (mv 0),
 i0 26 (mv 9),
 i1 27 (.bin .mul (ci 8) (.s 26)) [3],
 i1 28 (.bin .shr (.s 25) (.s 27)) [2, 4],
 i1 29 (.cvi .u8 (.s 28)) [5],
 i1 30 (.iad 1 (.s 23) (.s 24)) [0, 1, 0, 1, 2, 3, 4, 5, 6],
 ⟨none, (.stc 1 (.s 30) (.s 29)), none, [7, 6, 0, 1, 2, 3, 4, 5, 6]⟩])))
 (rf [i0 31 (.bin .add (.s 20) (ci 1)),
 i1 20 (mv 31) [0]])))))))
 (.seq (.seq (rf [i0 32 (mv 2),
 i1 33 (.un .not (.s 32)) [0]])
 (.cond (.s 33)
 (rf [i0 34 (mv 8),
 i1 35 (.call (.c (.fn 48 [])) [(.s 34)]) [0]])
 .skip))
 (.seq (rf [i0 36 (mv 8),
 i1 6 (mv 36) [0, 0],
 i1 7 (.mv (ci 0)) [1, 0, 1]])
 .ret)))))), false, (some [(Sh.int .u64), (Sh.int .i64), Sh.bool]), (some (Sh.tu (Sh.pr (Sh.sl (Sh.int .u8)) (Sh.int .i64)))), false⟩

/-- euphroe/euphroeref01.Same -/
def k23 : Fun := ⟨2, 26, [0, 1, 4, 5, 10, 14, 25], [(.tmp 4)],
  (.seq (rf [i0 4 (.mv (.c (.bool false)))])
 (.seq (.seq (rf [i0 6 (mv 0),
 i1 7 (.len false (.s 6)) [0],
 i0 8 (mv 1),
 i1 9 (.len false (.s 8)) [2],
 i1 10 (.bin .neq (.s 7) (.s 9)) [1, 3]])
 (.cond (.s 10)
 (.seq (rf [i0 4 (.mv (.c (.bool false)))])
 .ret)
 .skip))
 (.seq (.seq (rf [i0 5 (.mv (ci 0))])
 (.block 0
 (.loop ⟨0, [], false, [0, 1, 5], []⟩
 (.seq (.seq (rf [i0 11 (mv 5),
 i0 12 (mv 0),
 i1 13 (.len false (.s 12)) [1],
 i1 14 (.bin .lss (.s 11) (.s 13)) [0, 2]])
 (.cond (.s 14)
 .skip
 (.pre ⟨0, [], false, [], []⟩ (.exit 0))))
 (.seq (.block 1
 (.seq (rt [i0 17 (mv 0),
 i0 18 (mv 5),
 i1 19 (.iad 1 (.s 17) (.s 18)) [0, 1],
 i1 20 (.ldc (.s 19)) [2],
 i0 21 (mv 1),
 i0 22 (mv 5),
 i1 23 (.iad 1 (.s 21) (.s 22)) [4, 5],
 i1 24 (.ldc (.s 23)) [6],
 i1 25 (.bin .neq (.s 20) (.s 24)) [3, 7]])
 (.cond (.s 25)
 (.seq (rf [i0 4 (.mv (.c (.bool false)))])
 .ret)
 .skip)))
 (rf [i0 15 (mv 5),
 i1 16 (.bin .add (.s 15) (ci 1)) [0],
 i1 5 (mv 16) [1, 0, 1]]))))))
 (.seq (rf [i0 4 (.mv (.c (.bool true)))])
 .ret)))), false, (some [(Sh.sl (Sh.int .u8)), (Sh.sl (Sh.int .u8))]), (some Sh.bool), false⟩

/-- slices.Reverse[[]byte,byte] -/
def k48 : Fun := ⟨1, 28, [0, 2, 3, 9], [],
  (.seq (rf [i0 4 (mv 0),
 i1 5 (.len false (.s 4)) [0],
 i1 6 (.bin .sub (.s 5) (ci 1)) [1],
 i0 2 (.mv (ci 0)),
 i1 3 (mv 6) [2, 3, 0, 1, 2, 3]])
 (.block 0
 (.loop ⟨0, [], false, [0, 2, 3], []⟩
 (.seq (.seq (rf [i0 7 (mv 2),
 i0 8 (mv 3),
 i1 9 (.bin .lss (.s 7) (.s 8)) [0, 1]])
 (.cond (.s 9)
 .skip
 (.pre ⟨0, [], false, [], []⟩ (.exit 0))))
 (.seq (.block 1
 (rt [i0 14 (mv 0),
 i0 15 (mv 2),
 i0 16 (mv 0),
 i0 17 (mv 3),
 i0 18 (mv 0),
 i0 19 (mv 3),
 i1 20 (.iad 1 (.s 18) (.s 19)) [4, 5],
 i1 21 (.ldc (.s 20)) [6],
 i0 22 (mv 0),
 i0 23 (mv 2),
 i1 24 (.iad 1 (.s 22) (.s 23)) [8, 9],
 i1 25 (.ldc (.s 24)) [10],
 i1 26 (.iad 1 (.s 14) (.s 15)) [0, 1, 0, 1, 4, 5, 6, 7, 11],
 ⟨none, (.stc 1 (.s 26) (.s 21)), none, [12, 7, 0, 1, 4, 5, 6, 7, 11]⟩,
 i1 27 (.iad 1 (.s 16) (.s 17)) [2, 3, 0, 1, 2, 3, 4, 5, 6, 7, 8, 9, 10, 11, 12, 13],
 ⟨none, (.stc 1 (.s 27) (.s 25)), none, [14, 11, 13, 0, 1, 2, 3, 4, 5, 6, 7, 8, 9, 10, 11, 12, 13]⟩]))
 (rf [i0 10 (mv 2),
 i1 11 (.bin .add (.s 10) (ci 1)) [0],
 i0 12 (mv 3),
 i1 13 (.bin .sub (.s 12) (ci 1)) [2],
 i1 2 (mv 11) [1, 0, 1],
 i1 3 (mv 13) [3, 4, 0, 1, 2, 3, 4]])))))), true, none, none, false⟩

/-- euphroe/utf16.Lay -/
def k387 : Fun := ⟨1, 33, [0, 2, 3, 4, 5, 7, 8, 13, 16, 17, 18, 19], [(.tmp 2), (.tmp 3)],
  (.seq (rf [i0 2 (.mv (.c .nils)),
 i1 3 (.mv (ci 0)) [0]])
 (.seq (.seq (rf [i0 10 (mv 0),
 i1 11 (.call (.c (.fn 391 [])) [(.s 10)]) [0],
 i1 4 (mv 11) [1, 1, 0, 1]])
 (.seq (rf [i0 12 (mv 4),
 i1 13 (.bin .neq (.s 12) (ci 0)) [0]])
 (.cond (.s 13)
 (.seq (rf [i0 14 (mv 4),
 i0 2 (.mv (.c .nils)),
 i1 3 (mv 14) [0, 1, 0, 1]])
 .ret)
 .skip)))
 (.seq (rf [i0 5 (.mv (.c .nils))])
 (.seq (.seq (rf [i0 15 (mv 0),
 i1 16 (.call (.c (.fn 392 [])) [(.s 15)]) [0],
 i1 17 (.len false (.s 16)) [1],
 i0 18 (.mv (ci 0))])
 (.block 0
 (.loop ⟨0, [], false, [5, 16, 17, 18], [(5, (.ints .u8 []), 1)]⟩
 (.seq (rf [i0 19 (.bin .lss (.s 18) (.s 17))])
 (.seq (.cond (.s 19)
 .skip
 (.pre ⟨0, [], false, [5], []⟩ (.exit 0)))
 (.seq (.block 1
 (.seq (rf [i0 20 (.iad 1 (.s 16) (.s 18)),
 i1 21 (.ldc (.s 20)) [0],
 i1 7 (mv 21) [1, 0, 1]])
 (.seq (rf [i0 23 (mv 7),
 i1 24 (.cvi .u64 (.s 23)) [0],
 i1 25 (.call (.c (.fn 19 [])) [(.s 24), (ci 2), (.c (.bool true))]) [1],
 i1 22 (mv 25) [2],
 i1 26 (.ext (.s 22) 0) [3],
 i1 27 (.ext (.s 22) 1) [3],
 i1 8 (mv 26) [4, 2, 0, 1, 2, 3, 4],
 i1 9 (mv 27) [5, 6, 0, 1, 2, 3, 4, 5, 6]])
 (rf [i0 28 (mv 5),
 i0 29 (mv 8),
 i1 30 (.app 1 1 (.s 28) (.s 29)) [0, 1],
 i1 5 (mv 30) [2, 2, 0, 1, 2]]))))
 (rf [i0 31 (.bin .add (.s 18) (ci 1)),
 i1 18 (mv 31) [0]])))))))
 (.seq (rf [i0 32 (mv 5),
 i1 2 (mv 32) [0, 0],
 i1 3 (.mv (ci 0)) [1, 0, 1]])
 .ret))))), false, (some [Sh.str]), (some (Sh.tu (Sh.pr (Sh.sl (Sh.int .u8)) (Sh.int .i64)))), false⟩

/-- euphroe/euphroeref09.Lay -/
def k388 : Fun := ⟨1, 37, [0, 2, 3, 4, 5, 6, 7, 11, 18], [(.tmp 2), (.tmp 3)],
  (.seq (rf [i0 2 (.mv (.c .nils)),
 i1 3 (.mv (ci 0)) [0]])
 (.seq (.seq (rf [i0 8 (mv 0),
 i1 9 (.call (.c (.fn 393 [])) [(.s 8)]) [0],
 i1 4 (mv 9) [1, 1, 0, 1]])
 (.seq (rf [i0 10 (mv 4),
 i1 11 (.bin .neq (.s 10) (ci 0)) [0]])
 (.cond (.s 11)
 (.seq (rf [i0 12 (mv 4),
 i0 2 (.mv (.c .nils)),
 i1 3 (mv 12) [0, 1, 0, 1]])
 .ret)
 .skip)))
 (.seq (rf [i0 5 (.mv (.c .nils))])
 (.seq (rf [i0 13 (mv 0),
 i1 14 (.call (.c (.fn 394 [])) [(.s 13)]) [0],
 i1 6 (mv 14) [1, 1, 0, 1]])
 (.seq (.seq (rf [i0 7 (.mv (ci 0))])
 (.block 0
 (.loop ⟨0, [], false, [5, 6, 7], [(5, (.ints .u8 []), 1)]⟩
 (.seq (.seq (rf [i0 15 (mv 7),
 i0 16 (mv 6),
 i1 17 (.len false (.s 16)) [1],
 i1 18 (.bin .lss (.s 15) (.s 17)) [0, 2]])
 (.cond (.s 18)
 .skip
 (.pre ⟨0, [], false, [5], []⟩ (.exit 0))))
 (.seq (.block 1
 (rt [i0 21 (mv 5),
 i0 22 (mv 6),
 i0 23 (mv 7),
 i1 24 (.iad 1 (.s 22) (.s 23)) [1, 2],
 i1 25 (.ldc (.s 24)) [3],
 i1 26 (.bin .rem (.s 25) (.c (.int .u16 256))) [4],
 i1 27 (.cvi .u8 (.s 26)) [5],
 i0 28 (mv 6),
 i0 29 (mv 7),
 i1 30 (.iad 1 (.s 28) (.s 29)) [7, 8],
 i1 31 (.ldc (.s 30)) [9],
 i1 32 (.bin .quo (.s 31) (.c (.int .u16 256))) [10],
 i1 33 (.cvi .u8 (.s 32)) [11],
 i1 34 (.bsl 2 1 (.ints .u8 [0, 0]) [(0, 1, (.s 27)), (1, 1, (.s 33))]) [6, 12],
 i1 35 (.app 1 1 (.s 21) (.s 34)) [0, 13],
 i1 5 (mv 35) [14, 14, 0, 1, 2, 3, 4, 5, 6, 7, 8, 9, 10, 11, 12, 13, 14]]))
 (rf [i0 19 (mv 7),
 i1 20 (.bin .add (.s 19) (ci 1)) [0],
 i1 7 (mv 20) [1, 0, 1]]))))))
 (.seq (rf [i0 36 (mv 5),
 i1 2 (mv 36) [0, 0],
 i1 3 (.mv (ci 0)) [1, 0, 1]])
 .ret)))))), false, (some [Sh.str]), (some (Sh.tu (Sh.pr (Sh.sl (Sh.int .u8)) (Sh.int .i64)))), false⟩

/-- euphroe/utf16.May -/
def k391 : Fun := ⟨1, 11, [0, 2, 3, 7], [(.tmp 2)],
  (.seq (rf [i0 2 (.mv (ci 0))])
 (.seq (.block 0
 (.seq (rf [i0 4 (mv 0),
 i1 5 (.call (.c (.fn 396 [])) [(.s 4)]) [0],
 i1 6 (.un .not (.s 5)) [1],
 i1 3 (mv 6) [2, 1]])
 (.cond (.s 3)
 (.seq (rf [i0 2 (.mv (ci 3))])
 .ret)
 (.seq (rf [i0 8 (mv 0),
 i1 9 (.call (.c (.fn 397 [])) [(.s 8)]) [0],
 i1 10 (.bin .gtr (.s 9) (ci 64)) [1],
 i1 7 (mv 10) [2, 1]])
 (.cond (.s 7)
 (.seq (rf [i0 2 (.mv (ci 8))])
 .ret)
 .skip)))))
 (.seq (rf [i0 2 (.mv (ci 0))])
 .ret))), false, (some [Sh.str]), (some (Sh.int .i64)), false⟩

/-- euphroe/utf16.Units -/
def k392 : Fun := ⟨1, 35, [0, 2, 3, 5, 8, 10, 11, 12, 15], [(.tmp 2)],
  (.seq (rf [i0 2 (.mv (.c .nils))])
 (.seq (.seq (rf [i0 6 (mv 0),
 i1 7 (.call (.c (.fn 391 [])) [(.s 6)]) [0],
 i1 8 (.bin .neq (.s 7) (ci 0)) [1]])
 (.cond (.s 8)
 (.seq (rf [i0 2 (.mv (.c .nils))])
 .ret)
 .skip))
 (.seq (rf [i0 3 (.mv (.c .nils))])
 (.seq (.seq (rf [i0 9 (mv 0),
 i1 10 (.rng (.s 9)) [0]])
 (.block 0
 (.loop ⟨0, [], false, [3, 10], [(3, (.ints .u16 []), 1)]⟩
 (.seq (rf [i0 11 (.nxt (.s 10)),
 i1 12 (.ext (.s 11) 0) [0]])
 (.seq (.cond (.s 12)
 .skip
 (.pre ⟨0, [], false, [3], []⟩ (.exit 0)))
 (.block 1
 (.seq (rf [i0 13 (.ext (.s 11) 2),
 i1 5 (mv 13) [0, 0]])
 (.seq (.seq (rf [i0 14 (mv 5),
 i1 15 (.bin .lss (.s 14) (.c (.int .i32 65536))) [0]])
 (.cond (.s 15)
 (.seq (rf [i0 16 (mv 3),
 i0 17 (mv 5),
 i1 18 (.cvi .u16 (.s 17)) [1],
 i1 19 (.bsl 1 1 (.ints .u16 [0]) [(0, 1, (.s 18))]) [2],
 i1 20 (.app 1 2 (.s 16) (.s 19)) [0, 3],
 i1 3 (mv 20) [4, 4, 0, 1, 2, 3, 4]])
 (.pre ⟨0, [], false, [3, 10], []⟩ (.exit 1)))
 .skip))
 (.seq (rf [i0 21 (mv 5),
 i1 22 (.bin .sub (.s 21) (.c (.int .i32 65536))) [0],
 i1 5 (mv 22) [1, 0, 1]])
 (rf [i0 23 (mv 3),
 i0 24 (mv 5),
 i1 25 (.bin .shr (.s 24) (.c (.int .u64 10))) [1],
 i1 26 (.bin .or (.c (.int .i32 55296)) (.s 25)) [2],
 i1 27 (.cvi .u16 (.s 26)) [3],
 i0 28 (mv 5),
 i1 29 (.bin .and (.s 28) (.c (.int .i32 1023))) [5],
 i1 30 (.bin .or (.c (.int .i32 56320)) (.s 29)) [6],
 i1 31 (.cvi .u16 (.s 30)) [7],
 i1 32 (.bsl 2 1 (.ints .u16 [0, 0]) [(0, 1, (.s 27)), (1, 1, (.s 31))]) [4, 8],
 i1 33 (.app 1 2 (.s 23) (.s 32)) [0, 9],
 i1 3 (mv 33) [10, 10, 0, 1, 2, 3, 4, 5, 6, 7, 8, 9, 10]]))))))))))
 (.seq (rf [i0 34 (mv 3),
 i1 2 (mv 34) [0, 0]])
 .ret))))), false, (some [Sh.str]), (some (Sh.sl (Sh.int .u16))), false⟩

/-- euphroe/euphroeref09.May -/
def k393 : Fun := ⟨1, 15, [0, 2, 3, 4, 11, 14], [(.tmp 2)],
  (.seq (rf [i0 2 (.mv (ci 0))])
 (.seq (rf [i0 6 (mv 0),
 i1 7 (.call (.c (.fn 398 [])) [(.s 6)]) [0],
 i1 5 (mv 7) [1],
 i1 8 (.ext (.s 5) 0) [2],
 i1 9 (.ext (.s 5) 1) [2],
 i1 3 (mv 8) [3, 1, 0, 1, 2, 3],
 i1 4 (mv 9) [4, 5, 0, 1, 2, 3, 4, 5]])
 (.seq (.seq (rf [i0 10 (mv 4),
 i1 11 (.un .not (.s 10)) [0]])
 (.cond (.s 11)
 (.seq (rf [i0 2 (.mv (ci 3))])
 .ret)
 .skip))
 (.seq (.seq (rf [i0 12 (mv 3),
 i1 13 (.len false (.s 12)) [0],
 i1 14 (.bin .gtr (.s 13) (ci 64)) [1]])
 (.cond (.s 14)
 (.seq (rf [i0 2 (.mv (ci 8))])
 .ret)
 .skip))
 (.seq (rf [i0 2 (.mv (ci 0))])
 .ret))))), false, (some [Sh.str]), (some (Sh.int .i64)), false⟩

/-- euphroe/euphroeref09.Units -/
def k394 : Fun := ⟨1, 52, [0, 2, 3, 5, 6, 7, 10, 19, 26], [(.tmp 2)],
  (.seq (rf [i0 2 (.mv (.c .nils))])
 (.seq (.seq (rf [i0 8 (mv 0),
 i1 9 (.call (.c (.fn 393 [])) [(.s 8)]) [0],
 i1 10 (.bin .neq (.s 9) (ci 0)) [1]])
 (.cond (.s 10)
 (.seq (rf [i0 2 (.mv (.c .nils))])
 .ret)
 .skip))
 (.seq (rf [i0 12 (mv 0),
 i1 13 (.call (.c (.fn 398 [])) [(.s 12)]) [0],
 i1 11 (mv 13) [1],
 i1 14 (.ext (.s 11) 0) [2],
 i1 15 (.ext (.s 11) 1) [2],
 i1 3 (mv 14) [3, 1, 0, 1, 2, 3],
 i1 4 (mv 15) [4, 5, 0, 1, 2, 3, 4, 5]])
 (.seq (rf [i0 5 (.mv (.c .nils))])
 (.seq (.seq (rf [i0 6 (.mv (ci 0))])
 (.block 0
 (.loop ⟨0, [], false, [3, 5, 6], [(5, (.ints .u16 []), 1)]⟩
 (.seq (.seq (rf [i0 16 (mv 6),
 i0 17 (mv 3),
 i1 18 (.len false (.s 17)) [1],
 i1 19 (.bin .lss (.s 16) (.s 18)) [0, 2]])
 (.cond (.s 19)
 .skip
 (.pre ⟨0, [], false, [5], []⟩ (.exit 0))))
 (.seq (.block 1
 (.seq (rf [i0 22 (mv 3),
 i0 23 (mv 6),
 i1 24 (.iad 1 (.s 22) (.s 23)) [0, 1],
 i1 25 (.ldc (.s 24)) [2],
 i1 26 (.bin .lss (.s 25) (ci 65536)) [3]])
 (.cond (.s 26)
 (rf [i0 27 (mv 5),
 i0 28 (mv 3),
 i0 29 (mv 6),
 i1 30 (.iad 1 (.s 28) (.s 29)) [1, 2],
 i1 31 (.ldc (.s 30)) [3],
 i1 32 (.cvi .u16 (.s 31)) [4],
 i1 33 (.bsl 1 1 (.ints .u16 [0]) [(0, 1, (.s 32))]) [5],
 i1 34 (.app 1 2 (.s 27) (.s 33)) [0, 6],
 i1 5 (mv 34) [7, 7, 0, 1, 2, 3, 4, 5, 6, 7]])
 (.seq (rf [i0 35 (mv 3),
 i0 36 (mv 6),
 i1 37 (.iad 1 (.s 35) (.s 36)) [0, 1],
 i1 38 (.ldc (.s 37)) [2],
 i1 39 (.bin .sub (.s 38) (ci 65536)) [3],
 i1 7 (mv 39) [4, 0, 1, 2, 3, 4]])
 (rf [i0 40 (mv 5),
 i0 41 (mv 7),
 i1 42 (.bin .quo (.s 41) (ci 1024)) [1],
 i1 43 (.bin .add (ci 55296) (.s 42)) [2],
 i1 44 (.cvi .u16 (.s 43)) [3],
 i0 45 (mv 7),
 i1 46 (.bin .rem (.s 45) (ci 1024)) [5],
 i1 47 (.bin .add (ci 56320) (.s 46)) [6],
 i1 48 (.cvi .u16 (.s 47)) [7],
 i1 49 (.bsl 2 1 (.ints .u16 [0, 0]) [(0, 1, (.s 44)), (1, 1, (.s 48))]) [4, 8],
 i1 50 (.app 1 2 (.s 40) (.s 49)) [0, 9],
 i1 5 (mv 50) [10, 10, 0, 1, 2, 3, 4, 5, 6, 7, 8, 9, 10]])))))
 (rf [i0 20 (mv 6),
 i1 21 (.bin .add (.s 20) (ci 1)) [0],
 i1 6 (mv 21) [1, 0, 1]]))))))
 (.seq (rf [i0 51 (mv 5),
 i1 2 (mv 51) [0, 0]])
 .ret)))))), false, (some [Sh.str]), (some (Sh.sl (Sh.int .u16))), false⟩

/-- unicode/utf8.ValidString -/
def k396 : Fun := ⟨1, 169, [0, 2, 3, 4, 5, 6, 9, 13, 24, 39, 62, 75, 76, 94, 97, 125, 128, 166], [(.tmp 2)],
  (.seq (rf [i0 2 (.mv (.c (.bool false)))])
 (.seq (.block 0
 (.loop ⟨0, [], false, [0], []⟩
 (.seq (.seq (rf [i0 7 (mv 0),
 i1 8 (.len true (.s 7)) [0],
 i1 9 (.bin .gtr (.s 8) (ci 0)) [1]])
 (.cond (.s 9)
 .skip
 (.pre ⟨0, [], false, [], []⟩ (.exit 0))))
 (.block 1
 (.seq (rf [i0 10 (mv 0),
 i1 11 (.ixs (.s 10) (ci 0)) [0],
 i1 3 (mv 11) [1, 0, 1]])
 (.seq (.seq (rf [i0 12 (mv 3),
 i1 13 (.bin .lss (.s 12) (.c (.int .u8 128))) [0]])
 (.cond (.s 13)
 (.seq (rf [i0 14 (mv 0),
 i1 15 (.ssl (.s 14) (some (ci 1)) none) [0],
 i1 0 (mv 15) [1, 0, 1]])
 (.seq (.seq (rf [i0 16 (mv 0),
 i1 17 (.len true (.s 16)) [0],
 i1 18 (.bin .gtr (.s 17) (ci 8)) [1],
 i1 19 (mv 18) [2],
 ⟨(some 20), (mv 0), (some (19, true)), [3]⟩,
 ⟨(some 21), (.call (.c (.fn 401 [])) [(.s 20)]), (some (19, true)), [4, 3, 3]⟩,
 ⟨(some 22), (.bin .and (.s 21) (.c (.int .u64 9259542123273814144))), (some (19, true)), [5, 3]⟩,
 ⟨(some 23), (.bin .eql (.s 22) (.c (.int .u64 0))), (some (19, true)), [6, 3]⟩,
 i1 24 (.pick (.s 19) (.s 23) (.c (.bool false))) [3, 7]])
 (.cond (.s 24)
 (.seq (rf [i0 25 (mv 0),
 i1 26 (.ssl (.s 25) (some (ci 8)) none) [0],
 i1 0 (mv 26) [1, 0, 1]])
 (.seq (rt [i0 27 (mv 0),
 i1 28 (.len true (.s 27)) [0],
 i1 29 (.bin .gtr (.s 28) (ci 16)) [1],
 i1 30 (mv 29) [2],
 ⟨(some 31), (mv 0), (some (30, true)), [3]⟩,
 ⟨(some 32), (.call (.c (.fn 401 [])) [(.s 31)]), (some (30, true)), [4, 3, 3]⟩,
 ⟨(some 33), (mv 0), (some (30, true)), [3]⟩,
 ⟨(some 34), (.ssl (.s 33) (some (ci 8)) none), (some (30, true)), [6, 3]⟩,
 ⟨(some 35), (.call (.c (.fn 401 [])) [(.s 34)]), (some (30, true)), [7, 5, 3]⟩,
 ⟨(some 36), (.bin .or (.s 32) (.s 35)), (some (30, true)), [5, 8, 3]⟩,
 ⟨(some 37), (.bin .and (.s 36) (.c (.int .u64 9259542123273814144))), (some (30, true)), [9, 3]⟩,
 ⟨(some 38), (.bin .eql (.s 37) (.c (.int .u64 0))), (some (30, true)), [10, 3]⟩,
 i1 39 (.pick (.s 30) (.s 38) (.c (.bool false))) [3, 11]])
 (.cond (.s 39)
 (.seq (rf [i0 40 (mv 0),
 i1 41 (.ssl (.s 40) (some (ci 16)) none) [0],
 i1 0 (mv 41) [1, 0, 1]])
 (.block 2
 (.loop ⟨1, [], false, [0], []⟩
 (.seq (.seq (rt [i0 42 (mv 0),
 i1 43 (.len true (.s 42)) [0],
 i1 44 (.bin .gtr (.s 43) (ci 32)) [1],
 i1 45 (mv 44) [2],
 ⟨(some 46), (mv 0), (some (45, true)), [3]⟩,
 ⟨(some 47), (.call (.c (.fn 401 [])) [(.s 46)]), (some (45, true)), [4, 3, 3]⟩,
 ⟨(some 48), (mv 0), (some (45, true)), [3]⟩,
 ⟨(some 49), (.ssl (.s 48) (some (ci 8)) none), (some (45, true)), [6, 3]⟩,
 ⟨(some 50), (.call (.c (.fn 401 [])) [(.s 49)]), (some (45, true)), [7, 5, 3]⟩,
 ⟨(some 51), (.bin .or (.s 47) (.s 50)), (some (45, true)), [5, 8, 3]⟩,
 ⟨(some 52), (mv 0), (some (45, true)), [3]⟩,
 ⟨(some 53), (.ssl (.s 52) (some (ci 16)) none), (some (45, true)), [10, 3]⟩,
 ⟨(some 54), (.call (.c (.fn 401 [])) [(.s 53)]), (some (45, true)), [11, 8, 3]⟩,
 ⟨(some 55), (mv 0), (some (45, true)), [3]⟩,
 ⟨(some 56), (.ssl (.s 55) (some (ci 24)) none), (some (45, true)), [13, 3]⟩,
 ⟨(some 57), (.call (.c (.fn 401 [])) [(.s 56)]), (some (45, true)), [14, 12, 3]⟩,
 ⟨(some 58), (.bin .or (.s 54) (.s 57)), (some (45, true)), [12, 15, 3]⟩,
 ⟨(some 59), (.bin .or (.s 51) (.s 58)), (some (45, true)), [9, 16, 3]⟩,
 ⟨(some 60), (.bin .and (.s 59) (.c (.int .u64 9259542123273814144))), (some (45, true)), [17, 3]⟩,
 ⟨(some 61), (.bin .eql (.s 60) (.c (.int .u64 0))), (some (45, true)), [18, 3]⟩,
 i1 62 (.pick (.s 45) (.s 61) (.c (.bool false))) [3, 19]])
 (.cond (.s 62)
 .skip
 (.pre ⟨0, [], false, [0], []⟩ (.exit 2))))
 (.block 3
 (rf [i0 63 (mv 0),
 i1 64 (.ssl (.s 63) (some (ci 32)) none) [0],
 i1 0 (mv 64) [1, 0, 1]]))))))
 .skip)))
 .skip))
 (.pre ⟨0, [], false, [0], []⟩ (.exit 1))))
 .skip))
 (.seq (rf [i0 65 (mv 3),
 i1 66 (.iaa 256 1 (.c (.rptr (.ints .u8 vt0))) (.s 65)) [0],
 i1 67 (.ldc (.s 66)) [1],
 i1 4 (mv 67) [2, 0, 1, 2]])
 (.seq (rf [i0 68 (mv 4),
 i1 69 (.bin .and (.s 68) (.c (.int .u8 7))) [0],
 i1 70 (.cvi .i64 (.s 69)) [1],
 i1 5 (mv 70) [2, 0, 1, 2]])
 (.seq (rf [i0 71 (mv 4),
 i1 72 (.bin .shr (.s 71) (.c (.int .u64 4))) [0],
 i1 73 (.iaa 16 2 (.c (.rptr (.ints .u8 vt1))) (.s 72)) [1],
 i1 74 (.lda 2 (some .u8) (.s 73)) [2],
 i0 6 (.new (.ints .u8 [0, 0])),
 ⟨none, (.stc 2 (.s 6) (.s 74)), none, [4, 3, 0, 1, 2, 3, 4]⟩])
 (.seq (rf [i0 75 (mv 5)])
 (.block 4
 (.seq (rf [i0 77 (.bin .eql (.s 75) (ci 2)),
 i1 76 (mv 77) [0]])
 (.cond (.s 76)
 (.seq (.seq (rt [i0 78 (mv 0),
 i1 79 (.len true (.s 78)) [0],
 i1 80 (.bin .lss (.s 79) (ci 2)) [1],
 i1 81 (mv 80) [2],
 ⟨(some 82), (mv 0), (some (81, false)), [3]⟩,
 ⟨(some 83), (.ixs (.s 82) (ci 1)), (some (81, false)), [4, 3]⟩,
 ⟨(some 84), (.fad 0 (.s 6)), (some (81, false)), [3]⟩,
 ⟨(some 85), (.ldc (.s 84)), (some (81, false)), [6, 3]⟩,
 ⟨(some 86), (.bin .lss (.s 83) (.s 85)), (some (81, false)), [5, 7, 3]⟩,
 i1 87 (.pick (.s 81) (.c (.bool true)) (.s 86)) [3, 8],
 i1 88 (mv 87) [9, 3],
 ⟨(some 89), (.fad 1 (.s 6)), (some (88, false)), [10]⟩,
 ⟨(some 90), (.ldc (.s 89)), (some (88, false)), [11, 10]⟩,
 ⟨(some 91), (mv 0), (some (88, false)), [10]⟩,
 ⟨(some 92), (.ixs (.s 91) (ci 1)), (some (88, false)), [13, 10]⟩,
 ⟨(some 93), (.bin .lss (.s 90) (.s 92)), (some (88, false)), [12, 14, 10]⟩,
 i1 94 (.pick (.s 88) (.c (.bool true)) (.s 93)) [10, 15]])
 (.cond (.s 94)
 (.seq (rf [i0 2 (.mv (.c (.bool false)))])
 .ret)
 .skip))
 (rf [i0 95 (mv 0),
 i1 96 (.ssl (.s 95) (some (ci 2)) none) [0],
 i1 0 (mv 96) [1, 0, 1]]))
 (.seq (rf [i0 98 (.bin .eql (.s 75) (ci 3)),
 i1 97 (mv 98) [0]])
 (.cond (.s 97)
 (.seq (.seq (rt [i0 99 (mv 0),
 i1 100 (.len true (.s 99)) [0],
 i1 101 (.bin .lss (.s 100) (ci 3)) [1],
 i1 102 (mv 101) [2],
 ⟨(some 103), (mv 0), (some (102, false)), [3]⟩,
 ⟨(some 104), (.ixs (.s 103) (ci 1)), (some (102, false)), [4, 3]⟩,
 ⟨(some 105), (.fad 0 (.s 6)), (some (102, false)), [3]⟩,
 ⟨(some 106), (.ldc (.s 105)), (some (102, false)), [6, 3]⟩,
 ⟨(some 107), (.bin .lss (.s 104) (.s 106)), (some (102, false)), [5, 7, 3]⟩,
 i1 108 (.pick (.s 102) (.c (.bool true)) (.s 107)) [3, 8],
 i1 109 (mv 108) [9, 3],
 ⟨(some 110), (.fad 1 (.s 6)), (some (109, false)), [10]⟩,
 ⟨(some 111), (.ldc (.s 110)), (some (109, false)), [11, 10]⟩,
 ⟨(some 112), (mv 0), (some (109, false)), [10]⟩,
 ⟨(some 113), (.ixs (.s 112) (ci 1)), (some (109, false)), [13, 10]⟩,
 ⟨(some 114), (.bin .lss (.s 111) (.s 113)), (some (109, false)), [12, 14, 10]⟩,
 i1 115 (.pick (.s 109) (.c (.bool true)) (.s 114)) [10, 15],
 i1 116 (mv 115) [16, 10],
 ⟨(some 117), (mv 0), (some (116, false)), [17]⟩,
 ⟨(some 118), (.ixs (.s 117) (ci 2)), (some (116, false)), [18, 17]⟩,
 ⟨(some 119), (.bin .lss (.s 118) (.c (.int .u8 128))), (some (116, false)), [19, 17]⟩,
 i1 120 (.pick (.s 116) (.c (.bool true)) (.s 119)) [17, 20],
 i1 121 (mv 120) [21, 17],
 ⟨(some 122), (mv 0), (some (121, false)), [22]⟩,
 ⟨(some 123), (.ixs (.s 122) (ci 2)), (some (121, false)), [23, 22]⟩,
 ⟨(some 124), (.bin .lss (.c (.int .u8 191)) (.s 123)), (some (121, false)), [24, 22]⟩,
 i1 125 (.pick (.s 121) (.c (.bool true)) (.s 124)) [22, 25]])
 (.cond (.s 125)
 (.seq (rf [i0 2 (.mv (.c (.bool false)))])
 .ret)
 .skip))
 (rf [i0 126 (mv 0),
 i1 127 (.ssl (.s 126) (some (ci 3)) none) [0],
 i1 0 (mv 127) [1, 0, 1]]))
 (.seq (rf [i0 129 (.bin .eql (.s 75) (ci 4)),
 i1 128 (mv 129) [0]])
 (.cond (.s 128)
 (.seq (.seq (rt [i0 130 (mv 0),
 i1 131 (.len true (.s 130)) [0],
 i1 132 (.bin .lss (.s 131) (ci 4)) [1],
 i1 133 (mv 132) [2],
 ⟨(some 134), (mv 0), (some (133, false)), [3]⟩,
 ⟨(some 135), (.ixs (.s 134) (ci 1)), (some (133, false)), [4, 3]⟩,
 ⟨(some 136), (.fad 0 (.s 6)), (some (133, false)), [3]⟩,
 ⟨(some 137), (.ldc (.s 136)), (some (133, false)), [6, 3]⟩,
 ⟨(some 138), (.bin .lss (.s 135) (.s 137)), (some (133, false)), [5, 7, 3]⟩,
 i1 139 (.pick (.s 133) (.c (.bool true)) (.s 138)) [3, 8],
 i1 140 (mv 139) [9, 3],
 ⟨(some 141), (.fad 1 (.s 6)), (some (140, false)), [10]⟩,
 ⟨(some 142), (.ldc (.s 141)), (some (140, false)), [11, 10]⟩,
 ⟨(some 143), (mv 0), (some (140, false)), [10]⟩,
 ⟨(some 144), (.ixs (.s 143) (ci 1)), (some (140, false)), [13, 10]⟩,
 ⟨(some 145), (.bin .lss (.s 142) (.s 144)), (some (140, false)), [12, 14, 10]⟩,
 i1 146 (.pick (.s 140) (.c (.bool true)) (.s 145)) [10, 15],
 i1 147 (mv 146) [16, 10],
 ⟨(some 148), (mv 0), (some (147, false)), [17]⟩,
 ⟨(some 149), (.ixs (.s 148) (ci 2)), (some (147, false)), [18, 17]⟩,
 ⟨(some 150), (.bin .lss (.s 149) (.c (.int .u8 128))), (some (147, false)), [19, 17]⟩,
 i1 151 (.pick (.s 147) (.c (.bool true)) (.s 150)) [17, 20],
 i1 152 (mv 151) [21, 17],
 ⟨(some 153), (mv 0), (some (152, false)), [22]⟩,
 ⟨(some 154), (.ixs (.s 153) (ci 2)), (some (152, false)), [23, 22]⟩,
 ⟨(some 155), (.bin .lss (.c (.int .u8 191)) (.s 154)), (some (152, false)), [24, 22]⟩,
 i1 156 (.pick (.s 152) (.c (.bool true)) (.s 155)) [22, 25],
 i1 157 (mv 156) [26, 22],
 ⟨(some 158), (mv 0), (some (157, false)), [27]⟩,
 ⟨(some 159), (.ixs (.s 158) (ci 3)), (some (157, false)), [28, 27]⟩,
 ⟨(some 160), (.bin .lss (.s 159) (.c (.int .u8 128))), (some (157, false)), [29, 27]⟩,
 i1 161 (.pick (.s 157) (.c (.bool true)) (.s 160)) [27, 30],
 i1 162 (mv 161) [31, 27],
 ⟨(some 163), (mv 0), (some (162, false)), [32]⟩,
 ⟨(some 164), (.ixs (.s 163) (ci 3)), (some (162, false)), [33, 32]⟩,
 ⟨(some 165), (.bin .lss (.c (.int .u8 191)) (.s 164)), (some (162, false)), [34, 32]⟩,
 i1 166 (.pick (.s 162) (.c (.bool true)) (.s 165)) [32, 35]])
 (.cond (.s 166)
 (.seq (rf [i0 2 (.mv (.c (.bool false)))])
 .ret)
 .skip))
 (rf [i0 167 (mv 0),
 i1 168 (.ssl (.s 167) (some (ci 4)) none) [0],
 i1 0 (mv 168) [1, 0, 1]]))
 (.seq (rf [i0 2 (.mv (.c (.bool false)))])
 .ret))))))))))))))))))
 (.seq (rf [i0 2 (.mv (.c (.bool true)))])
 .ret))), false, (some [Sh.str]), (some Sh.bool), false⟩

/-- unicode/utf8.RuneCountInString -/
def k397 : Fun := ⟨1, 10, [0, 2, 4, 6], [(.tmp 2)],
  (.seq (rf [i0 2 (.mv (ci 0))])
 (.seq (.seq (rf [i0 3 (mv 0),
 i1 4 (.rng (.s 3)) [0]])
 (.block 0
 (.loop ⟨0, [], false, [2, 4], []⟩
 (.seq (rf [i0 5 (.nxt (.s 4)),
 i1 6 (.ext (.s 5) 0) [0]])
 (.seq (.cond (.s 6)
 .skip
 (.pre ⟨0, [], false, [2], []⟩ (.exit 0)))
 (.block 1
 (rf [i0 7 (mv 2),
 i1 8 (.bin .add (.s 7) (ci 1)) [0],
 i1 2 (mv 8) [1, 0, 1]])))))))
 (.seq (rf [i0 9 (mv 2),
 i1 2 (mv 9) [0, 0]])
 .ret))), false, (some [Sh.str]), (some (Sh.int .i64)), false⟩

/-- euphroe/euphroeref09.Signs -/
def k398 : Fun := ⟨1, 28, [0, 2, 3, 4, 5, 6, 7, 11, 19], [(.tmp 2), (.tmp 3)],
  (.seq (rf [i0 2 (.mv (.c .nils)),
 i1 3 (.mv (.c (.bool false))) [0]])
 (.seq (rf [i0 4 (.mv (.c .nils))])
 (.seq (.seq (rf [i0 5 (.mv (ci 0))])
 (.block 0
 (.loop ⟨0, [], false, [0, 4, 5], [(4, (.ints .i64 []), 1)]⟩
 (.seq (.seq (rf [i0 8 (mv 5),
 i0 9 (mv 0),
 i1 10 (.len true (.s 9)) [1],
 i1 11 (.bin .lss (.s 8) (.s 10)) [0, 2]])
 (.cond (.s 11)
 .skip
 (.pre ⟨0, [], false, [4], []⟩ (.exit 0))))
 (.block 1
 (.seq (rf [i0 13 (mv 0),
 i0 14 (mv 5),
 i1 15 (.call (.c (.fn 402 [])) [(.s 13), (.s 14)]) [0, 1],
 i1 12 (mv 15) [2],
 i1 16 (.ext (.s 12) 0) [3],
 i1 17 (.ext (.s 12) 1) [3],
 i1 6 (mv 16) [4, 2, 0, 1, 2, 3, 4],
 i1 7 (mv 17) [5, 6, 0, 1, 2, 3, 4, 5, 6]])
 (.seq (.seq (rf [i0 18 (mv 7),
 i1 19 (.bin .eql (.s 18) (ci 0)) [0]])
 (.cond (.s 19)
 (.seq (rf [i0 2 (.mv (.c .nils)),
 i1 3 (.mv (.c (.bool false))) [0, 0]])
 .ret)
 .skip))
 (.seq (rf [i0 20 (mv 4),
 i0 21 (mv 6),
 i1 22 (.bsl 1 1 (.ints .i64 [0]) [(0, 1, (.s 21))]) [1],
 i1 23 (.app 1 8 (.s 20) (.s 22)) [0, 2],
 i1 4 (mv 23) [3, 3, 0, 1, 2, 3]])
 (rf [i0 24 (mv 5),
 i0 25 (mv 7),
 i1 26 (.bin .add (.s 24) (.s 25)) [0, 1],
 i1 5 (mv 26) [2, 0, 1, 2]])))))))))
 (.seq (rf [i0 27 (mv 4),
 i1 2 (mv 27) [0, 0],
 i1 3 (.mv (.c (.bool true))) [1, 0, 1]])
 .ret)))), false, (some [Sh.str]), (some (Sh.tu (Sh.pr (Sh.sl (Sh.int .i64)) Sh.bool))), false⟩

/-- unicode/utf8.word[string] -/
def k401 : Fun := ⟨1, 59, [0, 2], [(.tmp 2)],
  (.seq (rf [i0 2 (.mv (.c (.int .u64 0)))])
 (.seq (.cond (.c (.bool false))
 (.seq (rt [i0 3 (mv 0),
 i1 4 (.ixs (.s 3) (ci 0)) [0],
 i1 5 (.cvi .u64 (.s 4)) [1],
 i0 6 (mv 0),
 i1 7 (.ixs (.s 6) (ci 1)) [3],
 i1 8 (.cvi .u64 (.s 7)) [4],
 i1 9 (.bin .shl (.s 8) (.c (.int .u64 8))) [5],
 i1 10 (.bin .or (.s 5) (.s 9)) [2, 6],
 i0 11 (mv 0),
 i1 12 (.ixs (.s 11) (ci 2)) [8],
 i1 13 (.cvi .u64 (.s 12)) [9],
 i1 14 (.bin .shl (.s 13) (.c (.int .u64 16))) [10],
 i1 15 (.bin .or (.s 10) (.s 14)) [7, 11],
 i0 16 (mv 0),
 i1 17 (.ixs (.s 16) (ci 3)) [13],
 i1 18 (.cvi .u64 (.s 17)) [14],
 i1 19 (.bin .shl (.s 18) (.c (.int .u64 24))) [15],
 i1 20 (.bin .or (.s 15) (.s 19)) [12, 16],
 i1 2 (mv 20) [17, 0, 1, 2, 3, 4, 5, 6, 7, 8, 9, 10, 11, 12, 13, 14, 15, 16, 17]])
 .ret)
 .skip)
 (.seq (rt [i0 21 (mv 0),
 i1 22 (.ixs (.s 21) (ci 0)) [0],
 i1 23 (.cvi .u64 (.s 22)) [1],
 i0 24 (mv 0),
 i1 25 (.ixs (.s 24) (ci 1)) [3],
 i1 26 (.cvi .u64 (.s 25)) [4],
 i1 27 (.bin .shl (.s 26) (.c (.int .u64 8))) [5],
 i1 28 (.bin .or (.s 23) (.s 27)) [2, 6],
 i0 29 (mv 0),
 i1 30 (.ixs (.s 29) (ci 2)) [8],
 i1 31 (.cvi .u64 (.s 30)) [9],
 i1 32 (.bin .shl (.s 31) (.c (.int .u64 16))) [10],
 i1 33 (.bin .or (.s 28) (.s 32)) [7, 11],
 i0 34 (mv 0),
 i1 35 (.ixs (.s 34) (ci 3)) [13],
 i1 36 (.cvi .u64 (.s 35)) [14],
 i1 37 (.bin .shl (.s 36) (.c (.int .u64 24))) [15],
 i1 38 (.bin .or (.s 33) (.s 37)) [12, 16],
 i0 39 (mv 0),
 i1 40 (.ixs (.s 39) (ci 4)) [18],
 i1 41 (.cvi .u64 (.s 40)) [19],
 i1 42 (.bin .shl (.s 41) (.c (.int .u64 32))) [20],
 i1 43 (.bin .or (.s 38) (.s 42)) [17, 21],
 i0 44 (mv 0),
 i1 45 (.ixs (.s 44) (ci 5)) [23],
 i1 46 (.cvi .u64 (.s 45)) [24],
 i1 47 (.bin .shl (.s 46) (.c (.int .u64 40))) [25],
 i1 48 (.bin .or (.s 43) (.s 47)) [22, 26],
 i0 49 (mv 0),
 i1 50 (.ixs (.s 49) (ci 6)) [28],
 i1 51 (.cvi .u64 (.s 50)) [29],
 i1 52 (.bin .shl (.s 51) (.c (.int .u64 48))) [30],
 i1 53 (.bin .or (.s 48) (.s 52)) [27, 31],
 i0 54 (mv 0),
 i1 55 (.ixs (.s 54) (ci 7)) [33],
 i1 56 (.cvi .u64 (.s 55)) [34],
 i1 57 (.bin .shl (.s 56) (.c (.int .u64 56))) [35],
 i1 58 (.bin .or (.s 53) (.s 57)) [32, 36],
 i1 2 (mv 58) [37, 0, 1, 2, 3, 4, 5, 6, 7, 8, 9, 10, 11, 12, 13, 14, 15, 16, 17, 18, 19, 20, 21, 22, 23, 24, 25, 26, 27, 28, 29, 30, 31, 32, 33, 34, 35, 36, 37]])
 .ret))), false, (some [Sh.str]), (some (Sh.int .u64)), false⟩

/-- euphroe/euphroeref09.sign -/
def k402 : Fun := ⟨2, 85, [0, 1, 4, 5, 6, 7, 8, 9, 10, 11, 12, 17, 21, 30, 39, 50, 62, 81], [(.tmp 4), (.tmp 5)],
  (.seq (rf [i0 4 (.mv (ci 0)),
 i1 5 (.mv (ci 0)) [0]])
 (.seq (rf [i0 13 (mv 0),
 i0 14 (mv 1),
 i1 15 (.ixs (.s 13) (.s 14)) [0, 1],
 i1 16 (.cvi .i64 (.s 15)) [2],
 i1 6 (mv 16) [3, 0, 1, 2, 3]])
 (.seq (rf [i0 7 (.mv (ci 0)),
 i1 8 (.mv (ci 0)) [0, 0],
 i1 9 (.mv (ci 0)) [1, 0, 1]])
 (.seq (.block 0
 (.seq (rf [i0 18 (mv 6),
 i1 19 (.bin .lss (.s 18) (ci 128)) [0],
 i1 17 (mv 19) [1]])
 (.cond (.s 17)
 (.seq (rf [i0 20 (mv 6),
 i1 4 (mv 20) [0, 0],
 i1 5 (.mv (ci 1)) [1, 0, 1]])
 .ret)
 (.seq (rf [i0 22 (mv 6),
 i1 23 (.bin .geq (.s 22) (ci 192)) [0],
 i1 24 (mv 23) [1],
 ⟨(some 25), (mv 6), (some (24, true)), [2]⟩,
 ⟨(some 26), (.bin .lss (.s 25) (ci 224)), (some (24, true)), [3, 2]⟩,
 i1 27 (.pick (.s 24) (.s 26) (.c (.bool false))) [2, 4],
 i1 21 (mv 27) [5, 2]])
 (.cond (.s 21)
 (rf [i0 28 (mv 6),
 i1 29 (.bin .sub (.s 28) (ci 192)) [0],
 i0 7 (.mv (ci 1)),
 i1 8 (mv 29) [1, 2, 0, 1, 2],
 i1 9 (.mv (ci 128)) [3, 0, 1, 2, 3]])
 (.seq (rf [i0 31 (mv 6),
 i1 32 (.bin .geq (.s 31) (ci 224)) [0],
 i1 33 (mv 32) [1],
 ⟨(some 34), (mv 6), (some (33, true)), [2]⟩,
 ⟨(some 35), (.bin .lss (.s 34) (ci 240)), (some (33, true)), [3, 2]⟩,
 i1 36 (.pick (.s 33) (.s 35) (.c (.bool false))) [2, 4],
 i1 30 (mv 36) [5, 2]])
 (.cond (.s 30)
 (rf [i0 37 (mv 6),
 i1 38 (.bin .sub (.s 37) (ci 224)) [0],
 i0 7 (.mv (ci 2)),
 i1 8 (mv 38) [1, 2, 0, 1, 2],
 i1 9 (.mv (ci 2048)) [3, 0, 1, 2, 3]])
 (.seq (rf [i0 40 (mv 6),
 i1 41 (.bin .geq (.s 40) (ci 240)) [0],
 i1 42 (mv 41) [1],
 ⟨(some 43), (mv 6), (some (42, true)), [2]⟩,
 ⟨(some 44), (.bin .lss (.s 43) (ci 248)), (some (42, true)), [3, 2]⟩,
 i1 45 (.pick (.s 42) (.s 44) (.c (.bool false))) [2, 4],
 i1 39 (mv 45) [5, 2]])
 (.cond (.s 39)
 (rf [i0 46 (mv 6),
 i1 47 (.bin .sub (.s 46) (ci 240)) [0],
 i0 7 (.mv (ci 3)),
 i1 8 (mv 47) [1, 2, 0, 1, 2],
 i1 9 (.mv (ci 65536)) [3, 0, 1, 2, 3]])
 (.seq (rf [i0 4 (.mv (ci 0)),
 i1 5 (.mv (ci 0)) [0, 0]])
 .ret))))))))))
 (.seq (.seq (rf [i0 10 (.mv (ci 1))])
 (.block 1
 (.loop ⟨0, [], false, [0, 1, 7, 8, 9, 10], []⟩
 (.seq (.seq (rf [i0 48 (mv 10),
 i0 49 (mv 7),
 i1 50 (.bin .leq (.s 48) (.s 49)) [0, 1]])
 (.cond (.s 50)
 .skip
 (.pre ⟨0, [], false, [7, 8, 9], []⟩ (.exit 1))))
 (.seq (.block 2
 (.seq (rf [i0 54 (mv 0),
 i0 55 (mv 1),
 i0 56 (mv 10),
 i1 57 (.bin .add (.s 55) (.s 56)) [1, 2],
 i1 58 (.call (.c (.fn 404 [])) [(.s 54), (.s 57)]) [0, 3],
 i1 53 (mv 58) [4],
 i1 59 (.ext (.s 53) 0) [5],
 i1 60 (.ext (.s 53) 1) [5],
 i1 11 (mv 59) [6, 4, 0, 1, 2, 3, 4, 5, 6],
 i1 12 (mv 60) [7, 8, 0, 1, 2, 3, 4, 5, 6, 7, 8]])
 (.seq (.seq (rf [i0 61 (mv 12),
 i1 62 (.un .not (.s 61)) [0]])
 (.cond (.s 62)
 (.seq (rf [i0 4 (.mv (ci 0)),
 i1 5 (.mv (ci 0)) [0, 0]])
 .ret)
 .skip))
 (rf [i0 63 (mv 8),
 i1 64 (.bin .mul (ci 64) (.s 63)) [0],
 i0 65 (mv 11),
 i1 66 (.bin .add (.s 64) (.s 65)) [1, 2],
 i1 8 (mv 66) [3, 0, 1, 2, 3]]))))
 (rf [i0 51 (mv 10),
 i1 52 (.bin .add (.s 51) (ci 1)) [0],
 i1 10 (mv 52) [1, 0, 1]]))))))
 (.seq (.seq (rf [i0 67 (mv 8),
 i0 68 (mv 9),
 i1 69 (.bin .lss (.s 67) (.s 68)) [0, 1],
 i1 70 (mv 69) [2],
 ⟨(some 71), (mv 8), (some (70, false)), [3]⟩,
 ⟨(some 72), (.bin .gtr (.s 71) (ci 1114111)), (some (70, false)), [4, 3]⟩,
 i1 73 (.pick (.s 70) (.c (.bool true)) (.s 72)) [3, 5],
 i1 74 (mv 73) [6, 3],
 ⟨(some 75), (mv 8), (some (74, false)), [7]⟩,
 ⟨(some 76), (.bin .geq (.s 75) (ci 55296)), (some (74, false)), [8, 7]⟩,
 ⟨(some 77), (mv 76), (some (74, false)), [9, 7, 7]⟩,
 ⟨(some 78), (mv 8), (some (77, true)), [10]⟩,
 ⟨(some 79), (.bin .leq (.s 78) (ci 57343)), (some (77, true)), [11, 10]⟩,
 ⟨(some 80), (.pick (.s 77) (.s 79) (.c (.bool false))), (some (74, false)), [10, 12, 7]⟩,
 i1 81 (.pick (.s 74) (.c (.bool true)) (.s 80)) [7, 13]])
 (.cond (.s 81)
 (.seq (rf [i0 4 (.mv (ci 0)),
 i1 5 (.mv (ci 0)) [0, 0]])
 .ret)
 .skip))
 (.seq (rf [i0 82 (mv 8),
 i0 83 (mv 7),
 i1 84 (.bin .add (.s 83) (ci 1)) [1],
 i1 4 (mv 82) [0, 0],
 i1 5 (mv 84) [2, 3, 0, 1, 2, 3]])
 .ret))))))), false, (some [Sh.str, (Sh.int .i64)]), (some (Sh.tu (Sh.pr (Sh.int .i64) (Sh.int .i64)))), false⟩

/-- euphroe/euphroeref09.more -/
def k404 : Fun := ⟨2, 27, [0, 1, 4, 5, 21], [(.tmp 4), (.tmp 5)],
  (.seq (rf [i0 4 (.mv (ci 0)),
 i1 5 (.mv (.c (.bool false))) [0]])
 (.seq (.seq (rf [i0 6 (mv 1),
 i0 7 (mv 0),
 i1 8 (.len true (.s 7)) [1],
 i1 9 (.bin .geq (.s 6) (.s 8)) [0, 2],
 i1 10 (mv 9) [3],
 ⟨(some 11), (mv 0), (some (10, false)), [4]⟩,
 ⟨(some 12), (mv 1), (some (10, false)), [4]⟩,
 ⟨(some 13), (.ixs (.s 11) (.s 12)), (some (10, false)), [5, 6, 4]⟩,
 ⟨(some 14), (.bin .lss (.s 13) (.c (.int .u8 128))), (some (10, false)), [7, 4]⟩,
 i1 15 (.pick (.s 10) (.c (.bool true)) (.s 14)) [4, 8],
 i1 16 (mv 15) [9, 4],
 ⟨(some 17), (mv 0), (some (16, false)), [10]⟩,
 ⟨(some 18), (mv 1), (some (16, false)), [10]⟩,
 ⟨(some 19), (.ixs (.s 17) (.s 18)), (some (16, false)), [11, 12, 10]⟩,
 ⟨(some 20), (.bin .gtr (.s 19) (.c (.int .u8 191))), (some (16, false)), [13, 10]⟩,
 i1 21 (.pick (.s 16) (.c (.bool true)) (.s 20)) [10, 14]])
 (.cond (.s 21)
 (.seq (rf [i0 4 (.mv (ci 0)),
 i1 5 (.mv (.c (.bool false))) [0, 0]])
 .ret)
 .skip))
 (.seq (rf [i0 22 (mv 0),
 i0 23 (mv 1),
 i1 24 (.ixs (.s 22) (.s 23)) [0, 1],
 i1 25 (.cvi .i64 (.s 24)) [2],
 i1 26 (.bin .sub (.s 25) (ci 128)) [3],
 i1 4 (mv 26) [4, 0, 1, 2, 3, 4],
 i1 5 (.mv (.c (.bool true))) [5, 0, 1, 2, 3, 4, 5]])
 .ret))), false, (some [Sh.str, (Sh.int .i64)]), (some (Sh.tu (Sh.pr (Sh.int .i64) Sh.bool))), false⟩

/-- euphroe/euphroelaw09.Utf16Lays -/
def k405 : Fun := ⟨1, 92, [0, 2, 3, 4, 5, 6, 7, 8, 9, 10, 11, 14, 58, 60, 61, 62, 72], [(.tmp 2)],
  (.seq (rf [i0 2 (.mv (.c (.bool false)))])
 (.seq (.seq (rf [i0 12 (mv 0),
 i1 13 (.len true (.s 12)) [0],
 i1 14 (.bin .gtr (.s 13) (ci 600)) [1]])
 (.cond (.s 14)
 (.seq (rf [i0 15 (.call (.c (.fn 408 [])) []),
 i1 2 (mv 15) [0, 0, 0]])
 .ret)
 .skip))
 (.seq (rf [i0 17 (mv 0),
 i1 18 (.call (.c (.fn 387 [])) [(.s 17)]) [0],
 i1 16 (mv 18) [1],
 i1 19 (.ext (.s 16) 0) [2],
 i1 20 (.ext (.s 16) 1) [2],
 i1 3 (mv 19) [3, 1, 0, 1, 2, 3],
 i1 4 (mv 20) [4, 5, 0, 1, 2, 3, 4, 5]])
 (.seq (rf [i0 22 (mv 0),
 i1 23 (.call (.c (.fn 388 [])) [(.s 22)]) [0],
 i1 21 (mv 23) [1],
 i1 24 (.ext (.s 21) 0) [2],
 i1 25 (.ext (.s 21) 1) [2],
 i1 5 (mv 24) [3, 1, 0, 1, 2, 3],
 i1 6 (mv 25) [4, 5, 0, 1, 2, 3, 4, 5]])
 (.seq (rf [i0 26 (mv 0),
 i1 27 (.call (.c (.fn 392 [])) [(.s 26)]) [0],
 i0 28 (mv 0),
 i1 29 (.call (.c (.fn 394 [])) [(.s 28)]) [2, 1],
 i1 7 (mv 27) [1, 3, 0, 1],
 i1 8 (mv 29) [3, 4, 0, 1, 2, 3, 4]])
 (.seq (rf [i0 31 (mv 0),
 i1 32 (.call (.c (.fn 398 [])) [(.s 31)]) [0],
 i1 30 (mv 32) [1],
 i1 33 (.ext (.s 30) 0) [2],
 i1 34 (.ext (.s 30) 1) [2],
 i1 9 (mv 33) [3, 1, 0, 1, 2, 3],
 i1 10 (mv 34) [4, 5, 0, 1, 2, 3, 4, 5]])
 (.seq (.seq (rf [i0 35 (mv 7),
 i1 36 (.len false (.s 35)) [0],
 i0 37 (mv 8),
 i1 38 (.len false (.s 37)) [2],
 i1 39 (.bin .neq (.s 36) (.s 38)) [1, 3],
 i1 40 (mv 39) [4],
 ⟨(some 41), (mv 10), (some (40, false)), [5]⟩,
 ⟨(some 42), (.un .not (.s 41)), (some (40, false)), [6, 5]⟩,
 ⟨(some 43), (mv 42), (some (40, false)), [7, 5, 5]⟩,
 ⟨(some 44), (mv 0), (some (43, true)), [8]⟩,
 ⟨(some 45), (.call (.c (.fn 409 [])) [(.s 44)]), (some (43, true)), [9, 8, 8]⟩,
 ⟨(some 46), (.bin .neq (.s 45) (ci 0)), (some (43, true)), [10, 8]⟩,
 ⟨(some 47), (.pick (.s 43) (.s 46) (.c (.bool false))), (some (40, false)), [8, 11, 5]⟩,
 i1 48 (.pick (.s 40) (.c (.bool true)) (.s 47)) [5, 12],
 i1 49 (mv 48) [13, 10],
 ⟨(some 50), (mv 10), (some (49, false)), [14]⟩,
 ⟨(some 51), (mv 50), (some (49, false)), [15, 14, 14]⟩,
 ⟨(some 52), (mv 0), (some (51, true)), [16]⟩,
 ⟨(some 53), (.call (.c (.fn 409 [])) [(.s 52)]), (some (51, true)), [17, 16, 16]⟩,
 ⟨(some 54), (mv 9), (some (51, true)), [16]⟩,
 ⟨(some 55), (.len false (.s 54)), (some (51, true)), [19, 16]⟩,
 ⟨(some 56), (.bin .neq (.s 53) (.s 55)), (some (51, true)), [18, 20, 16]⟩,
 ⟨(some 57), (.pick (.s 51) (.s 56) (.c (.bool false))), (some (49, false)), [16, 21, 14]⟩,
 i1 58 (.pick (.s 49) (.c (.bool true)) (.s 57)) [14, 22]])
 (.cond (.s 58)
 (.seq (rf [i0 2 (.mv (.c (.bool false)))])
 .ret)
 .skip))
 (.seq (.seq (rf [i0 59 (mv 7),
 i1 60 (.len false (.s 59)) [0],
 i0 61 (.mv (ci 0))])
 (.block 0
 (.loop ⟨0, [], false, [0, 3, 4, 5, 6, 7, 8, 60, 61], []⟩
 (.seq (rf [i0 62 (.bin .lss (.s 61) (.s 60))])
 (.seq (.cond (.s 62)
 .skip
 (.pre ⟨0, [], false, [0, 3, 4, 5, 6], []⟩ (.exit 0)))
 (.seq (.block 1
 (.seq (rf [i0 63 (mv 61),
 i1 11 (mv 63) [0, 0]])
 (.seq (rt [i0 64 (mv 7),
 i0 65 (mv 11),
 i1 66 (.iad 1 (.s 64) (.s 65)) [0, 1],
 i1 67 (.ldc (.s 66)) [2],
 i0 68 (mv 8),
 i0 69 (mv 11),
 i1 70 (.iad 1 (.s 68) (.s 69)) [4, 5],
 i1 71 (.ldc (.s 70)) [6],
 i1 72 (.bin .neq (.s 67) (.s 71)) [3, 7]])
 (.cond (.s 72)
 (.seq (rf [i0 2 (.mv (.c (.bool false)))])
 .ret)
 .skip))))
 (rf [i0 73 (.bin .add (.s 61) (ci 1)),
 i1 61 (mv 73) [0]])))))))
 (.seq (rf [i0 74 (mv 3),
 i0 75 (mv 5),
 i1 76 (.call (.c (.fn 23 [])) [(.s 74), (.s 75)]) [0, 1],
 i1 77 (mv 76) [2, 2],
 ⟨(some 78), (mv 4), (some (77, true)), [3]⟩,
 ⟨(some 79), (mv 6), (some (77, true)), [3]⟩,
 ⟨(some 80), (.bin .eql (.s 78) (.s 79)), (some (77, true)), [4, 5, 3]⟩,
 i1 81 (.pick (.s 77) (.s 80) (.c (.bool false))) [3, 6],
 i1 82 (mv 81) [7, 3],
 ⟨(some 83), (mv 0), (some (82, true)), [8]⟩,
 ⟨(some 84), (.call (.c (.fn 391 [])) [(.s 83)]), (some (82, true)), [9, 8, 8]⟩,
 ⟨(some 85), (mv 0), (some (82, true)), [8]⟩,
 ⟨(some 86), (.call (.c (.fn 393 [])) [(.s 85)]), (some (82, true)), [11, 10, 8]⟩,
 ⟨(some 87), (.bin .eql (.s 84) (.s 86)), (some (82, true)), [10, 12, 8]⟩,
 i1 88 (.pick (.s 82) (.s 87) (.c (.bool false))) [8, 13],
 i1 89 (mv 88) [14, 12],
 ⟨(some 90), (.call (.c (.fn 408 [])) []), (some (89, true)), [15, 15]⟩,
 i1 91 (.pick (.s 89) (.s 90) (.c (.bool false))) [15, 16],
 i1 2 (mv 91) [17, 16, 0, 1, 2, 3, 4, 5, 6, 7, 8, 9, 10, 11, 12, 13, 14, 15, 16, 17]])
 .ret))))))))), false, (some [Sh.str]), (some Sh.bool), false⟩

/-- euphroe/euphroelaw09.Utf16Back -/
def k406 : Fun := ⟨2, 68, [0, 1, 4, 5, 6, 7, 8, 9, 10, 11, 12, 20, 28, 40, 47], [(.tmp 4)],
  (.seq (rf [i0 4 (.mv (.c (.bool false)))])
 (.seq (.seq (rf [i0 13 (mv 0),
 i1 14 (.len true (.s 13)) [0],
 i1 15 (.bin .gtr (.s 14) (ci 600)) [1],
 i1 16 (mv 15) [2],
 ⟨(some 17), (mv 1), (some (16, false)), [3]⟩,
 ⟨(some 18), (.len false (.s 17)), (some (16, false)), [4, 3]⟩,
 ⟨(some 19), (.bin .gtr (.s 18) (ci 600)), (some (16, false)), [5, 3]⟩,
 i1 20 (.pick (.s 16) (.c (.bool true)) (.s 19)) [3, 6]])
 (.cond (.s 20)
 (.seq (rf [i0 21 (.call (.c (.fn 408 [])) []),
 i1 4 (mv 21) [0, 0, 0]])
 .ret)
 .skip))
 (.seq (.seq (rf [i0 23 (mv 0),
 i1 24 (.call (.c (.fn 387 [])) [(.s 23)]) [0],
 i1 22 (mv 24) [1],
 i1 25 (.ext (.s 22) 0) [2],
 i1 26 (.ext (.s 22) 1) [2],
 i1 5 (mv 25) [3, 1, 0, 1, 2, 3],
 i1 6 (mv 26) [4, 5, 0, 1, 2, 3, 4, 5]])
 (.seq (rf [i0 27 (mv 6),
 i1 28 (.bin .eql (.s 27) (ci 0)) [0]])
 (.cond (.s 28)
 (.seq (rf [i0 30 (mv 5),
 i1 31 (.call (.c (.fn 410 [])) [(.s 30)]) [0],
 i1 29 (mv 31) [1],
 i1 32 (.ext (.s 29) 0) [2],
 i1 33 (.ext (.s 29) 1) [2],
 i1 7 (mv 32) [3, 1, 0, 1, 2, 3],
 i1 8 (mv 33) [4, 5, 0, 1, 2, 3, 4, 5]])
 (.seq (rf [i0 34 (mv 7),
 i0 35 (mv 0),
 i1 36 (.bin .neq (.s 34) (.s 35)) [0, 1],
 i1 37 (mv 36) [2],
 ⟨(some 38), (mv 8), (some (37, false)), [3]⟩,
 ⟨(some 39), (.bin .neq (.s 38) (ci 0)), (some (37, false)), [4, 3]⟩,
 i1 40 (.pick (.s 37) (.c (.bool true)) (.s 39)) [3, 5]])
 (.cond (.s 40)
 (.seq (rf [i0 4 (.mv (.c (.bool false)))])
 .ret)
 .skip)))
 .skip)))
 (.seq (rf [i0 42 (mv 1),
 i1 43 (.call (.c (.fn 410 [])) [(.s 42)]) [0],
 i1 41 (mv 43) [1],
 i1 44 (.ext (.s 41) 0) [2],
 i1 45 (.ext (.s 41) 1) [2],
 i1 9 (mv 44) [3, 1, 0, 1, 2, 3],
 i1 10 (mv 45) [4, 5, 0, 1, 2, 3, 4, 5]])
 (.seq (.seq (rf [i0 46 (mv 10),
 i1 47 (.bin .neq (.s 46) (ci 0)) [0]])
 (.cond (.s 47)
 (.seq (rf [i0 48 (mv 9),
 i1 49 (.bin .eql (.s 48) (.c (.str []))) [0],
 i1 50 (mv 49) [1],
 ⟨(some 51), (.call (.c (.fn 408 [])) []), (some (50, true)), [2, 2]⟩,
 i1 52 (.pick (.s 50) (.s 51) (.c (.bool false))) [2, 3],
 i1 4 (mv 52) [4, 3, 0, 1, 2, 3, 4]])
 .ret)
 .skip))
 (.seq (rf [i0 54 (mv 9),
 i1 55 (.call (.c (.fn 387 [])) [(.s 54)]) [0],
 i1 53 (mv 55) [1],
 i1 56 (.ext (.s 53) 0) [2],
 i1 57 (.ext (.s 53) 1) [2],
 i1 11 (mv 56) [3, 1, 0, 1, 2, 3],
 i1 12 (mv 57) [4, 5, 0, 1, 2, 3, 4, 5]])
 (.seq (rf [i0 58 (mv 12),
 i1 59 (.bin .eql (.s 58) (ci 0)) [0],
 i1 60 (mv 59) [1],
 ⟨(some 61), (mv 11), (some (60, true)), [2]⟩,
 ⟨(some 62), (mv 1), (some (60, true)), [2]⟩,
 ⟨(some 63), (.call (.c (.fn 23 [])) [(.s 61), (.s 62)]), (some (60, true)), [3, 4, 2, 2]⟩,
 i1 64 (.pick (.s 60) (.s 63) (.c (.bool false))) [2, 5],
 i1 65 (mv 64) [6, 5],
 ⟨(some 66), (.call (.c (.fn 408 [])) []), (some (65, true)), [7, 7]⟩,
 i1 67 (.pick (.s 65) (.s 66) (.c (.bool false))) [7, 8],
 i1 4 (mv 67) [9, 8, 0, 1, 2, 3, 4, 5, 6, 7, 8, 9]])
 .ret))))))), false, (some [Sh.str, (Sh.sl (Sh.int .u8))]), (some Sh.bool), false⟩

/-- euphroe/euphroelaw09.Utf16Units -/
def k407 : Fun := ⟨1, 91, [0, 2, 3, 4, 5, 6, 7, 8, 11, 23, 46, 47, 48, 49, 50, 71], [(.tmp 2)],
  (.seq (rf [i0 2 (.mv (.c (.bool false)))])
 (.seq (.seq (rf [i0 9 (mv 0),
 i1 10 (.len true (.s 9)) [0],
 i1 11 (.bin .gtr (.s 10) (ci 600)) [1]])
 (.cond (.s 11)
 (.seq (rf [i0 12 (.call (.c (.fn 408 [])) []),
 i1 2 (mv 12) [0, 0, 0]])
 .ret)
 .skip))
 (.seq (rf [i0 13 (mv 0),
 i1 14 (.call (.c (.fn 392 [])) [(.s 13)]) [0],
 i0 15 (mv 0),
 i1 16 (.call (.c (.fn 409 [])) [(.s 15)]) [2, 1],
 i1 3 (mv 14) [1, 3, 0, 1],
 i1 4 (mv 16) [3, 4, 0, 1, 2, 3, 4]])
 (.seq (rf [i0 18 (mv 0),
 i1 19 (.call (.c (.fn 387 [])) [(.s 18)]) [0],
 i1 17 (mv 19) [1],
 i1 20 (.ext (.s 17) 0) [2],
 i1 21 (.ext (.s 17) 1) [2],
 i1 5 (mv 20) [3, 1, 0, 1, 2, 3],
 i1 6 (mv 21) [4, 5, 0, 1, 2, 3, 4, 5]])
 (.seq (.seq (rf [i0 22 (mv 6),
 i1 23 (.bin .neq (.s 22) (ci 0)) [0]])
 (.cond (.s 23)
 (.seq (rf [i0 24 (mv 3),
 i1 25 (.len false (.s 24)) [0],
 i1 26 (.bin .eql (.s 25) (ci 0)) [1],
 i1 27 (mv 26) [2],
 ⟨(some 28), (mv 5), (some (27, true)), [3]⟩,
 ⟨(some 29), (.len false (.s 28)), (some (27, true)), [4, 3]⟩,
 ⟨(some 30), (.bin .eql (.s 29) (ci 0)), (some (27, true)), [5, 3]⟩,
 i1 31 (.pick (.s 27) (.s 30) (.c (.bool false))) [3, 6],
 i1 32 (mv 31) [7, 3],
 ⟨(some 33), (mv 0), (some (32, true)), [8]⟩,
 ⟨(some 34), (.call (.c (.fn 391 [])) [(.s 33)]), (some (32, true)), [9, 8, 8]⟩,
 ⟨(some 35), (mv 6), (some (32, true)), [8]⟩,
 ⟨(some 36), (.bin .eql (.s 34) (.s 35)), (some (32, true)), [10, 11, 8]⟩,
 i1 37 (.pick (.s 32) (.s 36) (.c (.bool false))) [8, 12],
 i1 38 (mv 37) [13, 10],
 ⟨(some 39), (.call (.c (.fn 408 [])) []), (some (38, true)), [14, 14]⟩,
 i1 40 (.pick (.s 38) (.s 39) (.c (.bool false))) [14, 15],
 i1 2 (mv 40) [16, 15, 0, 1, 2, 3, 4, 5, 6, 7, 8, 9, 10, 11, 12, 13, 14, 15, 16]])
 .ret)
 .skip))
 (.seq (.seq (rf [i0 41 (mv 5),
 i1 42 (.len false (.s 41)) [0],
 i0 43 (mv 3),
 i1 44 (.len false (.s 43)) [2],
 i1 45 (.bin .mul (ci 2) (.s 44)) [3],
 i1 46 (.bin .neq (.s 42) (.s 45)) [1, 4]])
 (.cond (.s 46)
 (.seq (rf [i0 2 (.mv (.c (.bool false)))])
 .ret)
 .skip))
 (.seq (.seq (rf [i0 47 (mv 3),
 i1 48 (.len false (.s 47)) [0],
 i0 49 (.mv (ci 0))])
 (.block 0
 (.loop ⟨0, [], false, [3, 4, 5, 47, 48, 49], []⟩
 (.seq (rf [i0 50 (.bin .lss (.s 49) (.s 48))])
 (.seq (.cond (.s 50)
 .skip
 (.pre ⟨0, [], false, [3, 4], []⟩ (.exit 0)))
 (.seq (.block 1
 (.seq (rf [i0 51 (mv 49),
 i0 52 (.iad 1 (.s 47) (.s 49)),
 i1 53 (.ldc (.s 52)) [1],
 i1 7 (mv 51) [0, 0, 1, 2],
 i1 8 (mv 53) [2, 3, 0, 1, 2, 3]])
 (.seq (rt [i0 54 (mv 5),
 i0 55 (mv 7),
 i1 56 (.bin .mul (ci 2) (.s 55)) [1],
 i1 57 (.iad 1 (.s 54) (.s 56)) [0, 2],
 i1 58 (.ldc (.s 57)) [3],
 i1 59 (.cvi .i64 (.s 58)) [4],
 i0 60 (mv 5),
 i0 61 (mv 7),
 i1 62 (.bin .mul (ci 2) (.s 61)) [7],
 i1 63 (.bin .add (.s 62) (ci 1)) [8],
 i1 64 (.iad 1 (.s 60) (.s 63)) [6, 9],
 i1 65 (.ldc (.s 64)) [10],
 i1 66 (.cvi .i64 (.s 65)) [11],
 i1 67 (.bin .mul (ci 256) (.s 66)) [12],
 i1 68 (.bin .add (.s 59) (.s 67)) [5, 13],
 i0 69 (mv 8),
 i1 70 (.cvi .i64 (.s 69)) [15],
 i1 71 (.bin .neq (.s 68) (.s 70)) [14, 16]])
 (.cond (.s 71)
 (.seq (rf [i0 2 (.mv (.c (.bool false)))])
 .ret)
 .skip))))
 (rf [i0 72 (.bin .add (.s 49) (ci 1)),
 i1 49 (mv 72) [0]])))))))
 (.seq (rf [i0 73 (mv 3),
 i1 74 (.len false (.s 73)) [0],
 i0 75 (mv 4),
 i1 76 (.bin .geq (.s 74) (.s 75)) [1, 2],
 i1 77 (mv 76) [3],
 ⟨(some 78), (mv 3), (some (77, true)), [4]⟩,
 ⟨(some 79), (.len false (.s 78)), (some (77, true)), [5, 4]⟩,
 ⟨(some 80), (mv 4), (some (77, true)), [4]⟩,
 ⟨(some 81), (.bin .mul (ci 2) (.s 80)), (some (77, true)), [7, 4]⟩,
 ⟨(some 82), (.bin .leq (.s 79) (.s 81)), (some (77, true)), [6, 8, 4]⟩,
 i1 83 (.pick (.s 77) (.s 82) (.c (.bool false))) [4, 9],
 i1 84 (mv 83) [10, 4],
 ⟨(some 85), (mv 4), (some (84, true)), [11]⟩,
 ⟨(some 86), (.bin .leq (.s 85) (ci 64)), (some (84, true)), [12, 11]⟩,
 i1 87 (.pick (.s 84) (.s 86) (.c (.bool false))) [11, 13],
 i1 88 (mv 87) [14, 11],
 ⟨(some 89), (.call (.c (.fn 408 [])) []), (some (88, true)), [15, 15]⟩,
 i1 90 (.pick (.s 88) (.s 89) (.c (.bool false))) [15, 16],
 i1 2 (mv 90) [17, 16, 0, 1, 2, 3, 4, 5, 6, 7, 8, 9, 10, 11, 12, 13, 14, 15, 16, 17]])
 .ret)))))))), false, (some [Sh.str]), (some Sh.bool), false⟩

/-- euphroe/euphroelaw09.alive -/
def k408 : Fun := ⟨0, 44, [0, 1, 2, 3, 4], [(.tmp 0)],
  (.seq (rf [i0 0 (.mv (.c (.bool false)))])
 (.seq (rf [i0 6 (.call (.c (.fn 387 [])) [(.c (.str [97]))]),
 i1 5 (mv 6) [0],
 i1 7 (.ext (.s 5) 0) [1],
 i1 8 (.ext (.s 5) 1) [1],
 i1 1 (mv 7) [2, 0, 0, 1, 2],
 i1 2 (mv 8) [3, 4, 0, 1, 2, 3, 4]])
 (.seq (rf [i0 10 (mv 1),
 i1 11 (.call (.c (.fn 410 [])) [(.s 10)]) [0],
 i1 9 (mv 11) [1],
 i1 12 (.ext (.s 9) 0) [2],
 i1 13 (.ext (.s 9) 1) [2],
 i1 3 (mv 12) [3, 1, 0, 1, 2, 3],
 i1 4 (mv 13) [4, 5, 0, 1, 2, 3, 4, 5]])
 (.seq (rf [i0 14 (mv 1),
 i1 15 (.b2s (.s 14)) [0],
 i1 16 (.bin .eql (.s 15) (.c (.str [97, 0]))) [1],
 i1 17 (mv 16) [2],
 ⟨(some 18), (mv 2), (some (17, true)), [3]⟩,
 ⟨(some 19), (.bin .eql (.s 18) (ci 0)), (some (17, true)), [4, 3]⟩,
 i1 20 (.pick (.s 17) (.s 19) (.c (.bool false))) [3, 5],
 i1 21 (mv 20) [6, 3],
 ⟨(some 22), (mv 3), (some (21, true)), [7]⟩,
 ⟨(some 23), (.bin .eql (.s 22) (.c (.str [97]))), (some (21, true)), [8, 7]⟩,
 i1 24 (.pick (.s 21) (.s 23) (.c (.bool false))) [7, 9],
 i1 25 (mv 24) [10, 7],
 ⟨(some 26), (mv 4), (some (25, true)), [11]⟩,
 ⟨(some 27), (.bin .eql (.s 26) (ci 0)), (some (25, true)), [12, 11]⟩,
 i1 28 (.pick (.s 25) (.s 27) (.c (.bool false))) [11, 13],
 i1 29 (mv 28) [14, 11],
 ⟨(some 30), (.call (.c (.fn 411 [])) [(.c (.str [100, 92, 117]))]), (some (29, true)), [15, 15]⟩,
 ⟨(some 31), (.bin .eql (.s 30) (.c (.str [117]))), (some (29, true)), [16, 15]⟩,
 i1 32 (.pick (.s 29) (.s 31) (.c (.bool false))) [15, 17],
 i1 33 (mv 32) [18, 16],
 ⟨(some 34), (.call (.c (.fn 409 [])) [(.c (.str [97, 98]))]), (some (33, true)), [19, 19]⟩,
 ⟨(some 35), (.bin .eql (.s 34) (ci 2)), (some (33, true)), [20, 19]⟩,
 i1 36 (.pick (.s 33) (.s 35) (.c (.bool false))) [19, 21],
 i1 37 (mv 36) [22, 20],
 ⟨(some 38), (.call (.c (.fn 412 [])) [(.c (.str [126]))]), (some (37, true)), [23, 23]⟩,
 i1 39 (.pick (.s 37) (.s 38) (.c (.bool false))) [23, 24],
 i1 40 (mv 39) [25, 24],
 ⟨(some 41), (.call (.c (.fn 391 [])) [(.c (.str [255]))]), (some (40, true)), [26, 26]⟩,
 ⟨(some 42), (.bin .eql (.s 41) (ci 3)), (some (40, true)), [27, 26]⟩,
 i1 43 (.pick (.s 40) (.s 42) (.c (.bool false))) [26, 28],
 i1 0 (mv 43) [29, 27, 0, 1, 2, 3, 4, 5, 6, 7, 8, 9, 10, 11, 12, 13, 14, 15, 16, 17, 18, 19, 20, 21, 22, 23, 24, 25, 26, 27, 28, 29]])
 .ret)))), false, (some []), (some Sh.bool), false⟩

/-- euphroe/utf16.Count -/
def k409 : Fun := ⟨1, 8, [0, 2, 5], [(.tmp 2)],
  (.seq (rf [i0 2 (.mv (ci 0))])
 (.seq (.seq (rf [i0 3 (mv 0),
 i1 4 (.call (.c (.fn 396 [])) [(.s 3)]) [0],
 i1 5 (.un .not (.s 4)) [1]])
 (.cond (.s 5)
 (.seq (rf [i0 2 (.mv (ci 0))])
 .ret)
 .skip))
 (.seq (rf [i0 6 (mv 0),
 i1 7 (.call (.c (.fn 397 [])) [(.s 6)]) [0],
 i1 2 (mv 7) [1, 1, 0, 1]])
 .ret))), false, (some [Sh.str]), (some (Sh.int .i64)), false⟩

/-- euphroe/utf16.Bare -/
def k411 : Fun := ⟨1, 8, [0, 2], [(.tmp 2)],
  (.seq (rf [i0 2 (.mv (.c (.str [])))])
 (.seq (rf [i0 3 (mv 0),
 i0 4 (mv 0),
 i1 5 (.call (.c (.fn 416 [])) [(.s 4), (.c (.str [92]))]) [1],
 i1 6 (.bin .add (.s 5) (ci 1)) [2],
 i1 7 (.ssl (.s 3) (some (.s 6)) none) [0, 3],
 i1 2 (mv 7) [4, 2, 0, 1, 2, 3, 4]])
 .ret)), false, (some [Sh.str]), (some Sh.str), false⟩

/-- euphroe/utf16.Ascii -/
def k412 : Fun := ⟨1, 16, [0, 2, 4, 6, 7, 8, 15], [(.tmp 2)],
  (.seq (rf [i0 2 (.mv (.c (.bool false)))])
 (.seq (.seq (rf [i0 5 (mv 0),
 i1 6 (.rng (.s 5)) [0]])
 (.block 0
 (.loop ⟨0, [], false, [6], []⟩
 (.seq (rf [i0 7 (.nxt (.s 6)),
 i1 8 (.ext (.s 7) 0) [0]])
 (.seq (.cond (.s 8)
 .skip
 (.pre ⟨0, [], false, [], []⟩ (.exit 0)))
 (.block 1
 (.seq (rf [i0 9 (.ext (.s 7) 2),
 i1 4 (mv 9) [0, 0]])
 (.seq (rf [i0 10 (mv 4),
 i1 11 (.bin .lss (.s 10) (.c (.int .i32 32))) [0],
 i1 12 (mv 11) [1],
 ⟨(some 13), (mv 4), (some (12, false)), [2]⟩,
 ⟨(some 14), (.bin .gtr (.s 13) (.c (.int .i32 126))), (some (12, false)), [3, 2]⟩,
 i1 15 (.pick (.s 12) (.c (.bool true)) (.s 14)) [2, 4]])
 (.cond (.s 15)
 (.seq (rf [i0 2 (.mv (.c (.bool false)))])
 .ret)
 .skip)))))))))
 (.seq (rf [i0 2 (.mv (.c (.bool true)))])
 .ret))), false, (some [Sh.str]), (some Sh.bool), false⟩

/-- strings.LastIndex -/
def k416 : Fun := ⟨2, 36, [0, 1, 4, 5, 8, 13, 20, 27, 28], [(.tmp 4)],
  (.seq (rf [i0 4 (.mv (ci 0))])
 (.seq (rf [i0 6 (mv 1),
 i1 7 (.len true (.s 6)) [0],
 i1 5 (mv 7) [1, 0, 1]])
 (.seq (.block 0
 (.seq (rf [i0 9 (mv 5),
 i1 10 (.bin .eql (.s 9) (ci 0)) [0],
 i1 8 (mv 10) [1]])
 (.cond (.s 8)
 (.seq (rf [i0 11 (mv 0),
 i1 12 (.len true (.s 11)) [0],
 i1 4 (mv 12) [1, 0, 1]])
 .ret)
 (.seq (rf [i0 14 (mv 5),
 i1 15 (.bin .eql (.s 14) (ci 1)) [0],
 i1 13 (mv 15) [1]])
 (.cond (.s 13)
 (.seq (rf [i0 16 (mv 0),
 i0 17 (mv 1),
 i1 18 (.ixs (.s 17) (ci 0)) [1],
 i1 19 (.call (.c (.fn 420 [])) [(.s 16), (.s 18)]) [0, 2],
 i1 4 (mv 19) [3, 3, 0, 1, 2, 3]])
 .ret)
 (.seq (rf [i0 21 (mv 5),
 i0 22 (mv 0),
 i1 23 (.len true (.s 22)) [1],
 i1 24 (.bin .eql (.s 21) (.s 23)) [0, 2],
 i1 20 (mv 24) [3]])
 (.cond (.s 20)
 (.seq (.seq (rf [i0 25 (mv 1),
 i0 26 (mv 0),
 i1 27 (.bin .eql (.s 25) (.s 26)) [0, 1]])
 (.cond (.s 27)
 (.seq (rf [i0 4 (.mv (ci 0))])
 .ret)
 .skip))
 (.seq (rf [i0 4 (.mv (ci (-1)))])
 .ret))
 (.seq (rf [i0 29 (mv 5),
 i0 30 (mv 0),
 i1 31 (.len true (.s 30)) [1],
 i1 32 (.bin .gtr (.s 29) (.s 31)) [0, 2],
 i1 28 (mv 32) [3]])
 (.cond (.s 28)
 (.seq (rf [i0 4 (.mv (ci (-1)))])
 .ret)
 .skip)))))))))
 (.seq (rf [i0 33 (mv 0),
 i0 34 (mv 1),
 i1 35 (.call (.c (.fn 421 [])) [(.s 33), (.s 34)]) [0, 1],
 i1 4 (mv 35) [2, 2, 0, 1, 2]])
 .ret)))), false, (some [Sh.str, Sh.str]), (some (Sh.int .i64)), false⟩

/-- internal/bytealg.LastIndexByteString -/
def k420 : Fun := ⟨2, 19, [0, 1, 4, 5, 10, 17], [(.tmp 4)],
  (.seq (rf [i0 4 (.mv (ci 0))])
 (.seq (.seq (rf [i0 6 (mv 0),
 i1 7 (.len true (.s 6)) [0],
 i1 8 (.bin .sub (.s 7) (ci 1)) [1],
 i1 5 (mv 8) [2, 0, 1, 2]])
 (.block 0
 (.loop ⟨0, [], false, [0, 1, 5], []⟩
 (.seq (.seq (rf [i0 9 (mv 5),
 i1 10 (.bin .geq (.s 9) (ci 0)) [0]])
 (.cond (.s 10)
 .skip
 (.pre ⟨0, [], false, [], []⟩ (.exit 0))))
 (.seq (.block 1
 (.seq (rf [i0 13 (mv 0),
 i0 14 (mv 5),
 i1 15 (.ixs (.s 13) (.s 14)) [0, 1],
 i0 16 (mv 1),
 i1 17 (.bin .eql (.s 15) (.s 16)) [2, 3]])
 (.cond (.s 17)
 (.seq (rf [i0 18 (mv 5),
 i1 4 (mv 18) [0, 0]])
 .ret)
 .skip)))
 (rf [i0 11 (mv 5),
 i1 12 (.bin .sub (.s 11) (ci 1)) [0],
 i1 5 (mv 12) [1, 0, 1]]))))))
 (.seq (rf [i0 4 (.mv (ci (-1)))])
 .ret))), false, (some [Sh.str, (Sh.int .u8)]), (some (Sh.int .i64)), false⟩

/-- internal/bytealg.LastIndexRabinKarp[string] -/
def k421 : Fun := ⟨2, 87, [0, 1, 4, 5, 6, 7, 8, 9, 10, 11, 28, 47, 52, 85], [(.tmp 4)],
  (.seq (rf [i0 4 (.mv (ci 0))])
 (.seq (rf [i0 13 (mv 1),
 i1 14 (.call (.c (.fn 424 [])) [(.s 13)]) [0],
 i1 12 (mv 14) [1],
 i1 15 (.ext (.s 12) 0) [2],
 i1 16 (.ext (.s 12) 1) [2],
 i1 5 (mv 15) [3, 1, 0, 1, 2, 3],
 i1 6 (mv 16) [4, 5, 0, 1, 2, 3, 4, 5]])
 (.seq (rf [i0 17 (mv 1),
 i1 18 (.len true (.s 17)) [0],
 i1 7 (mv 18) [1, 0, 1]])
 (.seq (rf [i0 19 (mv 0),
 i1 20 (.len true (.s 19)) [0],
 i0 21 (mv 7),
 i1 22 (.bin .sub (.s 20) (.s 21)) [1, 2],
 i1 8 (mv 22) [3, 0, 1, 2, 3]])
 (.seq (rf [i0 9 (.mv (.c (.int .u32 0)))])
 (.seq (.seq (rf [i0 23 (mv 0),
 i1 24 (.len true (.s 23)) [0],
 i1 25 (.bin .sub (.s 24) (ci 1)) [1],
 i1 10 (mv 25) [2, 0, 1, 2]])
 (.block 0
 (.loop ⟨0, [], false, [0, 1, 5, 6, 7, 8, 9, 10], []⟩
 (.seq (.seq (rf [i0 26 (mv 10),
 i0 27 (mv 8),
 i1 28 (.bin .geq (.s 26) (.s 27)) [0, 1]])
 (.cond (.s 28)
 .skip
 (.pre ⟨0, [], false, [0, 1, 5, 6, 7, 8, 9], []⟩ (.exit 0))))
 (.seq (.block 1
 (rf [i0 31 (mv 9),
 i1 32 (.bin .mul (.s 31) (.c (.int .u32 16777619))) [0],
 i0 33 (mv 0),
 i0 34 (mv 10),
 i1 35 (.ixs (.s 33) (.s 34)) [2, 3],
 i1 36 (.cvi .u32 (.s 35)) [4],
 i1 37 (.bin .add (.s 32) (.s 36)) [1, 5],
 i1 9 (mv 37) [6, 0, 1, 2, 3, 4, 5, 6]]))
 (rf [i0 29 (mv 10),
 i1 30 (.bin .sub (.s 29) (ci 1)) [0],
 i1 10 (mv 30) [1, 0, 1]]))))))
 (.seq (.seq (rf [i0 38 (mv 9),
 i0 39 (mv 5),
 i1 40 (.bin .eql (.s 38) (.s 39)) [0, 1],
 i1 41 (mv 40) [2],
 ⟨(some 42), (mv 0), (some (41, true)), [3]⟩,
 ⟨(some 43), (mv 8), (some (41, true)), [3]⟩,
 ⟨(some 44), (.ssl (.s 42) (some (.s 43)) none), (some (41, true)), [4, 5, 3]⟩,
 ⟨(some 45), (mv 1), (some (41, true)), [3]⟩,
 ⟨(some 46), (.bin .eql (.s 44) (.s 45)), (some (41, true)), [6, 7, 3]⟩,
 i1 47 (.pick (.s 41) (.s 46) (.c (.bool false))) [3, 8]])
 (.cond (.s 47)
 (.seq (rf [i0 48 (mv 8),
 i1 4 (mv 48) [0, 0]])
 .ret)
 .skip))
 (.seq (.seq (rf [i0 49 (mv 8),
 i1 50 (.bin .sub (.s 49) (ci 1)) [0],
 i1 11 (mv 50) [1, 0, 1]])
 (.block 2
 (.loop ⟨1, [], false, [0, 1, 5, 6, 7, 9, 11], []⟩
 (.seq (.seq (rf [i0 51 (mv 11),
 i1 52 (.bin .geq (.s 51) (ci 0)) [0]])
 (.cond (.s 52)
 .skip
 (.pre ⟨0, [], false, [], []⟩ (.exit 2))))
 (.seq (.block 3
 (.seq (rf [i0 55 (mv 9),
 i1 56 (.bin .mul (.s 55) (.c (.int .u32 16777619))) [0],
 i1 9 (mv 56) [1, 0, 1]])
 (.seq (rf [i0 57 (mv 9),
 i0 58 (mv 0),
 i0 59 (mv 11),
 i1 60 (.ixs (.s 58) (.s 59)) [1, 2],
 i1 61 (.cvi .u32 (.s 60)) [3],
 i1 62 (.bin .add (.s 57) (.s 61)) [0, 4],
 i1 9 (mv 62) [5, 0, 1, 2, 3, 4, 5]])
 (.seq (rf [i0 63 (mv 9),
 i0 64 (mv 6),
 i0 65 (mv 0),
 i0 66 (mv 11),
 i0 67 (mv 7),
 i1 68 (.bin .add (.s 66) (.s 67)) [3, 4],
 i1 69 (.ixs (.s 65) (.s 68)) [2, 5],
 i1 70 (.cvi .u32 (.s 69)) [6],
 i1 71 (.bin .mul (.s 64) (.s 70)) [1, 7],
 i1 72 (.bin .sub (.s 63) (.s 71)) [0, 8],
 i1 9 (mv 72) [9, 0, 1, 2, 3, 4, 5, 6, 7, 8, 9]])
 (.seq (rf [i0 73 (mv 9),
 i0 74 (mv 5),
 i1 75 (.bin .eql (.s 73) (.s 74)) [0, 1],
 i1 76 (mv 75) [2],
 ⟨(some 77), (mv 0), (some (76, true)), [3]⟩,
 ⟨(some 78), (mv 11), (some (76, true)), [3]⟩,
 ⟨(some 79), (mv 11), (some (76, true)), [3]⟩,
 ⟨(some 80), (mv 7), (some (76, true)), [3]⟩,
 ⟨(some 81), (.bin .add (.s 79) (.s 80)), (some (76, true)), [6, 7, 3]⟩,
 ⟨(some 82), (.ssl (.s 77) (some (.s 78)) (some (.s 81))), (some (76, true)), [4, 5, 8, 3]⟩,
 ⟨(some 83), (mv 1), (some (76, true)), [3]⟩,
 ⟨(some 84), (.bin .eql (.s 82) (.s 83)), (some (76, true)), [9, 10, 3]⟩,
 i1 85 (.pick (.s 76) (.s 84) (.c (.bool false))) [3, 11]])
 (.cond (.s 85)
 (.seq (rf [i0 86 (mv 11),
 i1 4 (mv 86) [0, 0]])
 .ret)
 .skip))))))
 (rf [i0 53 (mv 11),
 i1 54 (.bin .sub (.s 53) (ci 1)) [0],
 i1 11 (mv 54) [1, 0, 1]]))))))
 (.seq (rf [i0 4 (.mv (ci (-1)))])
 .ret))))))))), false, (some [Sh.str, Sh.str]), (some (Sh.int .i64)), false⟩

/-- internal/bytealg.hashStrRev[string] -/
def k424 : Fun := ⟨1, 40, [0, 2, 3, 4, 5, 6, 7, 8, 13, 26, 31], [(.tmp 2), (.tmp 3)],
  (.seq (rf [i0 2 (.mv (.c (.int .u32 0))),
 i1 3 (.mv (.c (.int .u32 0))) [0]])
 (.seq (rf [i0 4 (.mv (.c (.int .u32 0)))])
 (.seq (.seq (rf [i0 9 (mv 0),
 i1 10 (.len true (.s 9)) [0],
 i1 11 (.bin .sub (.s 10) (ci 1)) [1],
 i1 5 (mv 11) [2, 0, 1, 2]])
 (.block 0
 (.loop ⟨0, [], false, [0, 4, 5], []⟩
 (.seq (.seq (rf [i0 12 (mv 5),
 i1 13 (.bin .geq (.s 12) (ci 0)) [0]])
 (.cond (.s 13)
 .skip
 (.pre ⟨0, [], false, [0, 4], []⟩ (.exit 0))))
 (.seq (.block 1
 (rf [i0 16 (mv 4),
 i1 17 (.bin .mul (.s 16) (.c (.int .u32 16777619))) [0],
 i0 18 (mv 0),
 i0 19 (mv 5),
 i1 20 (.ixs (.s 18) (.s 19)) [2, 3],
 i1 21 (.cvi .u32 (.s 20)) [4],
 i1 22 (.bin .add (.s 17) (.s 21)) [1, 5],
 i1 4 (mv 22) [6, 0, 1, 2, 3, 4, 5, 6]]))
 (rf [i0 14 (mv 5),
 i1 15 (.bin .sub (.s 14) (ci 1)) [0],
 i1 5 (mv 15) [1, 0, 1]]))))))
 (.seq (rf [i0 6 (.mv (.c (.int .u32 1))),
 i1 7 (.mv (.c (.int .u32 16777619))) [0, 0]])
 (.seq (.seq (rf [i0 23 (mv 0),
 i1 24 (.len true (.s 23)) [0],
 i1 8 (mv 24) [1, 0, 1]])
 (.block 2
 (.loop ⟨1, [], false, [4, 6, 7, 8], []⟩
 (.seq (.seq (rf [i0 25 (mv 8),
 i1 26 (.bin .gtr (.s 25) (ci 0)) [0]])
 (.cond (.s 26)
 .skip
 (.pre ⟨0, [], false, [4, 6], []⟩ (.exit 2))))
 (.seq (.block 3
 (.seq (.seq (rf [i0 29 (mv 8),
 i1 30 (.bin .and (.s 29) (ci 1)) [0],
 i1 31 (.bin .neq (.s 30) (ci 0)) [1]])
 (.cond (.s 31)
 (rf [i0 32 (mv 6),
 i0 33 (mv 7),
 i1 34 (.bin .mul (.s 32) (.s 33)) [0, 1],
 i1 6 (mv 34) [2, 0, 1, 2]])
 .skip))
 (rf [i0 35 (mv 7),
 i0 36 (mv 7),
 i1 37 (.bin .mul (.s 35) (.s 36)) [0, 1],
 i1 7 (mv 37) [2, 0, 1, 2]])))
 (rf [i0 27 (mv 8),
 i1 28 (.bin .shr (.s 27) (.c (.int .u64 1))) [0],
 i1 8 (mv 28) [1, 0, 1]]))))))
 (.seq (rf [i0 38 (mv 4),
 i0 39 (mv 6),
 i1 2 (mv 38) [0, 0],
 i1 3 (mv 39) [1, 2, 0, 1, 2]])
 .ret)))))), false, (some [Sh.str]), (some (Sh.tu (Sh.pr (Sh.int .u32) (Sh.int .u32)))), false⟩

def FT : Nat → Option Fun
  | 19 => some k19
  | 23 => some k23
  | 48 => some k48
  | 387 => some k387
  | 388 => some k388
  | 391 => some k391
  | 392 => some k392
  | 393 => some k393
  | 394 => some k394
  | 396 => some k396
  | 397 => some k397
  | 398 => some k398
  | 401 => some k401
  | 402 => some k402
  | 404 => some k404
  | 405 => some k405
  | 406 => some k406
  | 407 => some k407
  | 408 => some k408
  | 409 => some k409
  | 411 => some k411
  | 412 => some k412
  | 416 => some k416
  | 420 => some k420
  | 421 => some k421
  | 424 => some k424
  | _ => none
end Go.Proofs.YtchoafdpckknmaaDoorE
