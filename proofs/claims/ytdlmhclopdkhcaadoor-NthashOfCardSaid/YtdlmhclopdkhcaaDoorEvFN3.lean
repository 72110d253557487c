/- The evaluator's functions. -/
import Derived.Test.YtdlmhclopdkhcaaDoorEvXT
namespace Go.Proofs.YtdlmhclopdkhcaaDoorE
open Go
set_option linter.unusedVariables false
set_option linter.unusedSimpArgs false
abbrev i0 (d : Nat) (o : O) : Op := ⟨some d, o, none, []⟩
abbrev i1 (d : Nat) (o : O) (w : List Nat) : Op := ⟨some d, o, none, w⟩
abbrev rf (l : List Op) : K := .region l false
abbrev rt (l : List Op) : K := .region l true
abbrev mv (n : Nat) : O := .mv (.s n)
abbrev ci (n : Int) : R := .c (.int .i64 n)

/-- slices.Concat[[]byte,byte] -/
def k1 : Fun := ⟨1, 36, [0, 2, 3, 5, 6, 8, 9, 10, 11, 12, 20, 25, 26, 27, 28], [(.tmp 2)],
  (.seq (rf [i0 2 (.mv (.c .nils))])
 (.seq (rf [i0 3 (.mv (ci 0))])
 (.seq (.seq (rf [i0 9 (mv 0),
 i1 10 (.len false (.s 9)) [0],
 i0 11 (.mv (ci 0))])
 (.block 0
 (.loop ⟨0, [], false, [0, 3, 9, 10, 11], []⟩
 (.seq (rf [i0 12 (.bin .lss (.s 11) (.s 10))])
 (.seq (.cond (.s 12)
 .skip
 (.pre ⟨0, [], false, [0, 3], []⟩ (.exit 0)))
 (.seq (.block 1
 (.seq (rf [i0 13 (.iad 1 (.s 9) (.s 11)),
 i1 14 (.ldc (.s 13)) [0],
 i1 5 (mv 14) [1, 0, 1]])
 (.seq (rf [i0 15 (mv 3),
 i0 16 (mv 5),
 i1 17 (.len false (.s 16)) [1],
 i1 18 (.bin .add (.s 15) (.s 17)) [0, 2],
 i1 3 (mv 18) [3, 0, 1, 2, 3]])
 (.seq (rf [i0 19 (mv 3),
 i1 20 (.bin .lss (.s 19) (ci 0)) [0]])
 (.cond (.s 20)
 (rf [i0 21 .bad,
 ⟨none, .bad, none, [0]⟩])
 .skip)))))
 (rf [i0 22 (.bin .add (.s 11) (ci 1)),
 i1 11 (mv 22) [0]])))))))
 (.seq (rf [i0 23 (mv 3),
 i1 24 (.call (.c (.fn 64 [])) [(.c .nils), (.s 23)]) [0],
 i1 6 (mv 24) [1, 1, 0, 1]])
 (.seq (.seq (rf [i0 25 (mv 0),
 i1 26 (.len false (.s 25)) [0],
 i0 27 (.mv (ci 0))])
 (.block 2
 (.loop ⟨1, [], false, [6, 25, 26, 27], []⟩
 (.seq (rf [i0 28 (.bin .lss (.s 27) (.s 26))])
 (.seq (.cond (.s 28)
 .skip
 (.pre ⟨0, [], false, [6], []⟩ (.exit 2)))
 (.seq (.block 3
 (.seq (rf [i0 29 (.iad 1 (.s 25) (.s 27)),
 i1 30 (.ldc (.s 29)) [0],
 i1 8 (mv 30) [1, 0, 1]])
 (rf [i0 31 (mv 6),
 i0 32 (mv 8),
 i1 33 (.app 1 1 (.s 31) (.s 32)) [0, 1],
 i1 6 (mv 33) [2, 2, 0, 1, 2]])))
 (rf [i0 34 (.bin .add (.s 27) (ci 1)),
 i1 27 (mv 34) [0]])))))))
 (.seq (rf [i0 35 (mv 6),
 i1 2 (mv 35) [0, 0]])
 .ret)))))), false, (some [(Sh.sl (Sh.sl (Sh.int .u8)))]), none, false⟩

/-- euphroe/octs.Put -/
def k19 : Fun := ⟨3, 37, [0, 1, 2, 6, 7, 8, 9, 15, 19, 20, 21, 33], [(.tmp 6), (.tmp 7)],
  (.seq (rf [i0 6 (.mv (.c .nils)),
 i1 7 (.mv (ci 0)) [0]])
 (.seq (.seq (rf [i0 10 (mv 1),
 i1 11 (.bin .lss (.s 10) (ci 1)) [0],
 i1 12 (mv 11) [1],
 ⟨(some 13), (mv 1), (some (12, false)), [2]⟩,
 ⟨(some 14), (.bin .gtr (.s 13) (ci 8)), (some (12, false)), [3, 2]⟩,
 i1 15 (.pick (.s 12) (.c (.bool true)) (.s 14)) [2, 4]])
 (.cond (.s 15)
 (.seq (rf [i0 6 (.mv (.c .nils)),
 i1 7 (.mv (ci 1)) [0, 0]])
 .ret)
 .skip))
 (.seq (rf [i0 16 (mv 1),
 i1 17 (.mks (.ints .u8 [0]) 1 1 (.s 16) (.s 16)) [0, 0],
 i1 8 (mv 17) [1, 0, 1]])
 (.seq (.seq (rf [i0 18 (mv 8),
 i1 19 (.len false (.s 18)) [0],
 i0 20 (.mv (ci 0))])
 (.block 0
 (.loop ⟨0, [], false, [0, 2, 8, 19, 20], []⟩
 (.seq (rf [i0 21 (.bin .lss (.s 20) (.s 19))])
 (.seq (.cond (.s 21)
 .skip
 (.pre ⟨0, [], false, [2, 8], []⟩ (.exit 0)))
 (.seq (.block 1
 (.seq (rf [i0 22 (mv 20),
 i1 9 (mv 22) [0, 0]])
 (rf [i0 23 (mv 8),
 i0 24 (mv 9),
 i0 25 (mv 0),
 i0 26 (mv 9),
 i1 27 (.bin .mul (ci 8) (.s 26)) [3],
 i1 28 (.bin .shr (.s 25) (.s 27)) [2, 4],
 i1 29 (.cvi .u8 (.s 28)) [5],
 i1 30 (.iad 1 (.s 23) (.s 24)) [0, 1, 0, 1, 2, 3, 4, 5, 6],
 ⟨none, (.stc 1 (.s 30) (.s 29)), none, [7, 6, 0, 1, 2, 3, 4, 5, 6]⟩])))
 (rf [i0 31 (.bin .add (.s 20) (ci 1)),
 i1 20 (mv 31) [0]])))))))
 (.seq (.seq (rf [i0 32 (mv 2),
 i1 33 (.un .not (.s 32)) [0]])
 (.cond (.s 33)
 (rf [i0 34 (mv 8),
 i1 35 (.call (.c (.fn 48 [])) [(.s 34)]) [0]])
 .skip))
 (.seq (rf [i0 36 (mv 8),
 i1 6 (mv 36) [0, 0],
 i1 7 (.mv (ci 0)) [1, 0, 1]])
 .ret)))))), false, (some [(Sh.int .u64), (Sh.int .i64), Sh.bool]), (some (Sh.tu (Sh.pr (Sh.sl (Sh.int .u8)) (Sh.int .i64)))), false⟩

/-- euphroe/octs.Get -/
def k21 : Fun := ⟨2, 39, [0, 1, 4, 5, 6, 7, 8, 16, 17, 18, 19, 20, 24], [(.tmp 4), (.tmp 5)],
  (.seq (rf [i0 4 (.mv (.c (.int .u64 0))),
 i1 5 (.mv (ci 0)) [0]])
 (.seq (.seq (rf [i0 9 (mv 0),
 i1 10 (.len false (.s 9)) [0],
 i1 11 (.bin .lss (.s 10) (ci 1)) [1],
 i1 12 (mv 11) [2],
 ⟨(some 13), (mv 0), (some (12, false)), [3]⟩,
 ⟨(some 14), (.len false (.s 13)), (some (12, false)), [4, 3]⟩,
 ⟨(some 15), (.bin .gtr (.s 14) (ci 8)), (some (12, false)), [5, 3]⟩,
 i1 16 (.pick (.s 12) (.c (.bool true)) (.s 15)) [3, 6]])
 (.cond (.s 16)
 (.seq (rf [i0 4 (.mv (.c (.int .u64 0))),
 i1 5 (.mv (ci 1)) [0, 0]])
 .ret)
 .skip))
 (.seq (rf [i0 6 (.mv (.c (.int .u64 0)))])
 (.seq (.seq (rf [i0 17 (mv 0),
 i1 18 (.len false (.s 17)) [0],
 i0 19 (.mv (ci 0))])
 (.block 0
 (.loop ⟨0, [], false, [1, 6, 17, 18, 19], []⟩
 (.seq (rf [i0 20 (.bin .lss (.s 19) (.s 18))])
 (.seq (.cond (.s 20)
 .skip
 (.pre ⟨0, [], false, [6], []⟩ (.exit 0)))
 (.seq (.block 1
 (.seq (rf [i0 21 (mv 19),
 i0 22 (.iad 1 (.s 17) (.s 19)),
 i1 23 (.ldc (.s 22)) [1],
 i1 7 (mv 21) [0, 0, 1, 2],
 i1 8 (mv 23) [2, 3, 0, 1, 2, 3]])
 (.seq (rf [i0 24 (mv 1)])
 (.cond (.s 24)
 (rf [i0 25 (mv 6),
 i0 26 (mv 8),
 i1 27 (.cvi .u64 (.s 26)) [1],
 i0 28 (mv 7),
 i1 29 (.bin .mul (ci 8) (.s 28)) [3],
 i1 30 (.bin .shl (.s 27) (.s 29)) [2, 4],
 i1 31 (.bin .or (.s 25) (.s 30)) [0, 5],
 i1 6 (mv 31) [6, 0, 1, 2, 3, 4, 5, 6]])
 (rf [i0 32 (mv 6),
 i1 33 (.bin .shl (.s 32) (.c (.int .u64 8))) [0],
 i0 34 (mv 8),
 i1 35 (.cvi .u64 (.s 34)) [2],
 i1 36 (.bin .or (.s 33) (.s 35)) [1, 3],
 i1 6 (mv 36) [4, 0, 1, 2, 3, 4]])))))
 (rf [i0 37 (.bin .add (.s 19) (ci 1)),
 i1 19 (mv 37) [0]])))))))
 (.seq (rf [i0 38 (mv 6),
 i1 4 (mv 38) [0, 0],
 i1 5 (.mv (ci 0)) [1, 0, 1]])
 .ret))))), false, (some [(Sh.sl (Sh.int .u8)), Sh.bool]), (some (Sh.tu (Sh.pr (Sh.int .u64) (Sh.int .i64)))), false⟩

/-- euphroe/octs.Join -/
def k46 : Fun := ⟨1, 5, [0, 2], [(.tmp 2)],
  (.seq (rf [i0 2 (.mv (.c .nils))])
 (.seq (rf [i0 3 (mv 0),
 i1 4 (.call (.c (.fn 1 [])) [(.s 3)]) [0],
 i1 2 (mv 4) [1, 1, 0, 1]])
 .ret)), false, (some [(Sh.sl (Sh.sl (Sh.int .u8)))]), none, false⟩

/-- slices.Reverse[[]byte,byte] -/
def k48 : Fun := ⟨1, 28, [0, 2, 3, 9], [],
  (.seq (rf [i0 4 (mv 0),
 i1 5 (.len false (.s 4)) [0],
 i1 6 (.bin .sub (.s 5) (ci 1)) [1],
 i0 2 (.mv (ci 0)),
 i1 3 (mv 6) [2, 3, 0, 1, 2, 3]])
 (.block 0
 (.loop ⟨0, [], false, [0, 2, 3], []⟩
 (.seq (.seq (rf [i0 7 (mv 2),
 i0 8 (mv 3),
 i1 9 (.bin .lss (.s 7) (.s 8)) [0, 1]])
 (.cond (.s 9)
 .skip
 (.pre ⟨0, [], false, [], []⟩ (.exit 0))))
 (.seq (.block 1
 (rt [i0 14 (mv 0),
 i0 15 (mv 2),
 i0 16 (mv 0),
 i0 17 (mv 3),
 i0 18 (mv 0),
 i0 19 (mv 3),
 i1 20 (.iad 1 (.s 18) (.s 19)) [4, 5],
 i1 21 (.ldc (.s 20)) [6],
 i0 22 (mv 0),
 i0 23 (mv 2),
 i1 24 (.iad 1 (.s 22) (.s 23)) [8, 9],
 i1 25 (.ldc (.s 24)) [10],
 i1 26 (.iad 1 (.s 14) (.s 15)) [0, 1, 0, 1, 4, 5, 6, 7, 11],
 ⟨none, (.stc 1 (.s 26) (.s 21)), none, [12, 7, 0, 1, 4, 5, 6, 7, 11]⟩,
 i1 27 (.iad 1 (.s 16) (.s 17)) [2, 3, 0, 1, 2, 3, 4, 5, 6, 7, 8, 9, 10, 11, 12, 13],
 ⟨none, (.stc 1 (.s 27) (.s 25)), none, [14, 11, 13, 0, 1, 2, 3, 4, 5, 6, 7, 8, 9, 10, 11, 12, 13]⟩]))
 (rf [i0 10 (mv 2),
 i1 11 (.bin .add (.s 10) (ci 1)) [0],
 i0 12 (mv 3),
 i1 13 (.bin .sub (.s 12) (ci 1)) [2],
 i1 2 (mv 11) [1, 0, 1],
 i1 3 (mv 13) [3, 4, 0, 1, 2, 3, 4]])))))), true, none, none, false⟩

/-- slices.Grow[[]byte,byte] -/
def k64 : Fun := ⟨2, 27, [0, 1, 4, 6, 16], [(.tmp 4)],
  (.seq (rf [i0 4 (.mv (.c .nils))])
 (.seq (.seq (rf [i0 5 (mv 1),
 i1 6 (.bin .lss (.s 5) (ci 0)) [0]])
 (.cond (.s 6)
 (rf [i0 7 .bad,
 ⟨none, .bad, none, [0]⟩])
 .skip))
 (.seq (.seq (rf [i0 8 (mv 1),
 i0 9 (mv 0),
 i1 10 (.cap (.s 9)) [1],
 i0 11 (mv 0),
 i1 12 (.len false (.s 11)) [3],
 i1 13 (.bin .sub (.s 10) (.s 12)) [2, 4],
 i1 14 (.bin .sub (.s 8) (.s 13)) [0, 5],
 i1 1 (mv 14) [6, 0, 1, 2, 3, 4, 5, 6]])
 (.seq (rf [i0 15 (mv 1),
 i1 16 (.bin .gtr (.s 15) (ci 0)) [0]])
 (.cond (.s 16)
 (rf [i0 17 (mv 0),
 i0 18 (mv 0),
 i1 19 (.cap (.s 18)) [1],
 i1 20 (.sls 1 (.s 17) none (some (.s 19)) none) [0, 2],
 i0 21 (mv 1),
 i1 22 (.apz 1 1 (.ints .u8 [0]) (.s 20) (.s 21)) [3, 4],
 i0 23 (mv 0),
 i1 24 (.len false (.s 23)) [6],
 i1 25 (.sls 1 (.s 22) none (some (.s 24)) none) [5, 7],
 i1 0 (mv 25) [8, 5, 0, 1, 2, 3, 4, 5, 6, 7, 8]])
 .skip)))
 (.seq (rf [i0 26 (mv 0),
 i1 4 (mv 26) [0, 0]])
 (.pre ⟨0, [], true, [], [(4, (.ints .u8 []), 1)]⟩ .ret))))), false, none, none, false⟩

/-- euphroe/roots.Root -/
def k75 : Fun := ⟨3, 19, [0, 1, 2, 6, 7, 12], [(.tmp 6), (.tmp 7)],
  (.seq (rf [i0 6 (.mv (.c (.int .u64 0))),
 i1 7 (.mv (ci 0)) [0]])
 (.seq (.seq (rf [i0 8 (mv 0),
 i0 9 (mv 1),
 i0 10 (mv 2),
 i1 11 (.call (.c (.fn 100 [])) [(.s 8), (.s 9), (.s 10)]) [0, 1, 2],
 i1 12 (.un .not (.s 11)) [3]])
 (.cond (.s 12)
 (.seq (rf [i0 6 (.mv (.c (.int .u64 0))),
 i1 7 (.mv (ci 1)) [0, 0]])
 .ret)
 .skip))
 (.seq (rf [i0 13 (mv 0),
 i0 14 (mv 1),
 i1 15 (.call (.c (.fn 101 [])) [(.s 13), (.s 14)]) [0, 1],
 i0 16 (mv 2),
 i1 17 (.bin .sub (ci 32) (.s 16)) [3],
 i1 18 (.bin .shr (.s 15) (.s 17)) [2, 4],
 i1 6 (mv 18) [5, 2, 0, 1, 2, 3, 4, 5],
 i1 7 (.mv (ci 0)) [6, 0, 1, 2, 3, 4, 5, 6]])
 .ret))), false, (some [(Sh.int .i64), (Sh.int .i64), (Sh.int .i64)]), (some (Sh.tu (Sh.pr (Sh.int .u64) (Sh.int .i64)))), false⟩

/-- euphroe/roots.may -/
def k100 : Fun := ⟨3, 29, [0, 1, 2, 6], [(.tmp 6)],
  (.seq (rf [i0 6 (.mv (.c (.bool false)))])
 (.seq (rf [i0 7 (mv 0),
 i1 8 (.bin .geq (.s 7) (ci 0)) [0],
 i1 9 (mv 8) [1],
 ⟨(some 10), (mv 0), (some (9, true)), [2]⟩,
 ⟨(some 11), (.bin .leq (.s 10) (ci 1000)), (some (9, true)), [3, 2]⟩,
 i1 12 (.pick (.s 9) (.s 11) (.c (.bool false))) [2, 4],
 i1 13 (mv 12) [5, 2],
 ⟨(some 14), (mv 1), (some (13, true)), [6]⟩,
 ⟨(some 15), (.bin .eql (.s 14) (ci 2)), (some (13, true)), [7, 6]⟩,
 ⟨(some 16), (mv 15), (some (13, true)), [8, 6, 6]⟩,
 ⟨(some 17), (mv 1), (some (16, false)), [9]⟩,
 ⟨(some 18), (.bin .eql (.s 17) (ci 3)), (some (16, false)), [10, 9]⟩,
 ⟨(some 19), (.pick (.s 16) (.c (.bool true)) (.s 18)), (some (13, true)), [9, 11, 6]⟩,
 i1 20 (.pick (.s 13) (.s 19) (.c (.bool false))) [6, 12],
 i1 21 (mv 20) [13, 9],
 ⟨(some 22), (mv 2), (some (21, true)), [14]⟩,
 ⟨(some 23), (.bin .geq (.s 22) (ci 0)), (some (21, true)), [15, 14]⟩,
 i1 24 (.pick (.s 21) (.s 23) (.c (.bool false))) [14, 16],
 i1 25 (mv 24) [17, 14],
 ⟨(some 26), (mv 2), (some (25, true)), [18]⟩,
 ⟨(some 27), (.bin .leq (.s 26) (ci 32)), (some (25, true)), [19, 18]⟩,
 i1 28 (.pick (.s 25) (.s 27) (.c (.bool false))) [18, 20],
 i1 6 (mv 28) [21, 18, 0, 1, 2, 3, 4, 5, 6, 7, 8, 9, 10, 11, 12, 13, 14, 15, 16, 17, 18, 19, 20, 21]])
 .ret)), false, (some [(Sh.int .i64), (Sh.int .i64), (Sh.int .i64)]), (some Sh.bool), false⟩

/-- euphroe/roots.full -/
def k101 : Fun := ⟨2, 8, [0, 1, 2, 3, 4], [(.tmp 4)],
  (.seq (rf [i0 2 (.box (.s 0)),
 i0 3 (.box (.s 1)),
 i0 4 (.mv (.c (.int .u64 0)))])
 (.seq (rf [i0 5 (.mkf 115 [(.s 2), (.s 3)]),
 i1 6 (.call (.c (.fn 114 [])) [(ci 274877906944), (.s 5)]) [0],
 i1 7 (.cvi .u64 (.s 6)) [1],
 i1 4 (mv 7) [2, 1, 0, 1, 2]])
 .ret)), false, (some [(Sh.int .i64), (Sh.int .i64)]), (some (Sh.int .u64)), false⟩

/-- sort.Search -/
def k114 : Fun := ⟨2, 26, [0, 1, 4, 5, 6, 7, 11, 21], [(.tmp 4)],
  (.seq (rf [i0 4 (.mv (ci 0))])
 (.seq (rf [i0 8 (mv 0),
 i0 5 (.mv (ci 0)),
 i1 6 (mv 8) [0, 1, 0, 1]])
 (.seq (.block 0
 (.loop ⟨0, [], false, [1, 5, 6], []⟩
 (.seq (.seq (rf [i0 9 (mv 5),
 i0 10 (mv 6),
 i1 11 (.bin .lss (.s 9) (.s 10)) [0, 1]])
 (.cond (.s 11)
 .skip
 (.pre ⟨0, [], false, [5], []⟩ (.exit 0))))
 (.block 1
 (.seq (rf [i0 12 (mv 5),
 i0 13 (mv 6),
 i1 14 (.bin .add (.s 12) (.s 13)) [0, 1],
 i1 15 (.cvi .u64 (.s 14)) [2],
 i1 16 (.bin .shr (.s 15) (.c (.int .u64 1))) [3],
 i1 17 (.cvi .i64 (.s 16)) [4],
 i1 7 (mv 17) [5, 0, 1, 2, 3, 4, 5]])
 (.seq (rf [i0 18 (mv 1),
 i0 19 (mv 7),
 i1 20 (.call (.s 18) [(.s 19)]) [0, 1],
 i1 21 (.un .not (.s 20)) [2]])
 (.cond (.s 21)
 (rf [i0 22 (mv 7),
 i1 23 (.bin .add (.s 22) (ci 1)) [0],
 i1 5 (mv 23) [1, 0, 1]])
 (rf [i0 24 (mv 7),
 i1 6 (mv 24) [0, 0]]))))))))
 (.seq (rf [i0 25 (mv 5),
 i1 4 (mv 25) [0, 0]])
 .ret)))), false, none, none, false⟩

/-- euphroe/roots.full$1 -/
def k115 : Fun := ⟨3, 13, [0, 1, 2, 4], [(.tmp 4)],
  (.seq (rf [i0 4 (.mv (.c (.bool false)))])
 (.seq (rf [i0 5 (mv 0),
 i1 6 (.cvi .u64 (.s 5)) [0],
 i1 7 (.bin .add (.s 6) (.c (.int .u64 1))) [1],
 i0 8 (.ldc (.s 1)),
 i1 9 (.cvi .u64 (.s 8)) [3],
 i0 10 (.ldc (.s 2)),
 i1 11 (.call (.c (.fn 116 [])) [(.s 7), (.s 9), (.s 10)]) [2, 4, 5],
 i1 12 (.un .not (.s 11)) [6],
 i1 4 (mv 12) [7, 6, 0, 1, 2, 3, 4, 5, 6, 7]])
 .ret)), false, none, none, false⟩

/-- euphroe/roots.fits -/
def k116 : Fun := ⟨3, 57, [0, 1, 2, 6, 7, 8, 9, 10, 11, 19], [(.tmp 6)],
  (.seq (rf [i0 6 (.mv (.c (.bool false)))])
 (.seq (rf [i0 13 (mv 0),
 i0 14 (mv 0),
 i1 15 (.call (.c (.fn 120 [])) [(.s 13), (.s 14)]) [0, 1],
 i1 12 (mv 15) [2],
 i1 16 (.ext (.s 12) 0) [3],
 i1 17 (.ext (.s 12) 1) [3],
 i1 7 (mv 16) [4, 2, 0, 1, 2, 3, 4],
 i1 8 (mv 17) [5, 6, 0, 1, 2, 3, 4, 5, 6]])
 (.seq (.seq (rf [i0 18 (mv 2),
 i1 19 (.bin .eql (.s 18) (ci 2)) [0]])
 (.cond (.s 19)
 (.seq (rf [i0 20 (mv 7),
 i0 21 (mv 1),
 i1 22 (.bin .lss (.s 20) (.s 21)) [0, 1],
 i1 23 (mv 22) [2],
 ⟨(some 24), (mv 7), (some (23, false)), [3]⟩,
 ⟨(some 25), (mv 1), (some (23, false)), [3]⟩,
 ⟨(some 26), (.bin .eql (.s 24) (.s 25)), (some (23, false)), [4, 5, 3]⟩,
 ⟨(some 27), (mv 26), (some (23, false)), [6, 3, 3]⟩,
 ⟨(some 28), (mv 8), (some (27, true)), [7]⟩,
 ⟨(some 29), (.bin .eql (.s 28) (.c (.int .u64 0))), (some (27, true)), [8, 7]⟩,
 ⟨(some 30), (.pick (.s 27) (.s 29) (.c (.bool false))), (some (23, false)), [7, 9, 3]⟩,
 i1 31 (.pick (.s 23) (.c (.bool true)) (.s 30)) [3, 10],
 i1 6 (mv 31) [11, 7, 0, 1, 2, 3, 4, 5, 6, 7, 8, 9, 10, 11]])
 .ret)
 .skip))
 (.seq (rf [i0 33 (mv 8),
 i0 34 (mv 0),
 i1 35 (.call (.c (.fn 120 [])) [(.s 33), (.s 34)]) [0, 1],
 i1 32 (mv 35) [2],
 i1 36 (.ext (.s 32) 0) [3],
 i1 37 (.ext (.s 32) 1) [3],
 i1 9 (mv 36) [4, 2, 0, 1, 2, 3, 4],
 i1 10 (mv 37) [5, 6, 0, 1, 2, 3, 4, 5, 6]])
 (.seq (rf [i0 38 (mv 7),
 i0 39 (mv 0),
 i1 40 (.bin .mul (.s 38) (.s 39)) [0, 1],
 i0 41 (mv 9),
 i1 42 (.bin .add (.s 40) (.s 41)) [2, 3],
 i1 11 (mv 42) [4, 0, 1, 2, 3, 4]])
 (.seq (rf [i0 43 (mv 11),
 i0 44 (mv 1),
 i1 45 (.bin .shl (.s 44) (.c (.int .u64 32))) [1],
 i1 46 (.bin .lss (.s 43) (.s 45)) [0, 2],
 i1 47 (mv 46) [3],
 ⟨(some 48), (mv 11), (some (47, false)), [4]⟩,
 ⟨(some 49), (mv 1), (some (47, false)), [4]⟩,
 ⟨(some 50), (.bin .shl (.s 49) (.c (.int .u64 32))), (some (47, false)), [6, 4]⟩,
 ⟨(some 51), (.bin .eql (.s 48) (.s 50)), (some (47, false)), [5, 7, 4]⟩,
 ⟨(some 52), (mv 51), (some (47, false)), [8, 4, 4]⟩,
 ⟨(some 53), (mv 10), (some (52, true)), [9]⟩,
 ⟨(some 54), (.bin .eql (.s 53) (.c (.int .u64 0))), (some (52, true)), [10, 9]⟩,
 ⟨(some 55), (.pick (.s 52) (.s 54) (.c (.bool false))), (some (47, false)), [9, 11, 4]⟩,
 i1 56 (.pick (.s 47) (.c (.bool true)) (.s 55)) [4, 12],
 i1 6 (mv 56) [13, 9, 0, 1, 2, 3, 4, 5, 6, 7, 8, 9, 10, 11, 12, 13]])
 .ret)))))), false, (some [(Sh.int .u64), (Sh.int .u64), (Sh.int .i64)]), (some Sh.bool), false⟩

/-- math/bits.Mul64 -/
def k120 : Fun := ⟨2, 51, [0, 1, 4, 5, 6, 7, 8, 9, 10, 11, 12, 13], [(.tmp 4), (.tmp 5)],
  (.seq (rf [i0 4 (.mv (.c (.int .u64 0))),
 i1 5 (.mv (.c (.int .u64 0))) [0]])
 (.seq (rf [i0 14 (mv 0),
 i1 15 (.bin .and (.s 14) (.c (.int .u64 4294967295))) [0],
 i1 6 (mv 15) [1, 0, 1]])
 (.seq (rf [i0 16 (mv 0),
 i1 17 (.bin .shr (.s 16) (.c (.int .u64 32))) [0],
 i1 7 (mv 17) [1, 0, 1]])
 (.seq (rf [i0 18 (mv 1),
 i1 19 (.bin .and (.s 18) (.c (.int .u64 4294967295))) [0],
 i1 8 (mv 19) [1, 0, 1]])
 (.seq (rf [i0 20 (mv 1),
 i1 21 (.bin .shr (.s 20) (.c (.int .u64 32))) [0],
 i1 9 (mv 21) [1, 0, 1]])
 (.seq (rf [i0 22 (mv 6),
 i0 23 (mv 8),
 i1 24 (.bin .mul (.s 22) (.s 23)) [0, 1],
 i1 10 (mv 24) [2, 0, 1, 2]])
 (.seq (rf [i0 25 (mv 7),
 i0 26 (mv 8),
 i1 27 (.bin .mul (.s 25) (.s 26)) [0, 1],
 i0 28 (mv 10),
 i1 29 (.bin .shr (.s 28) (.c (.int .u64 32))) [3],
 i1 30 (.bin .add (.s 27) (.s 29)) [2, 4],
 i1 11 (mv 30) [5, 0, 1, 2, 3, 4, 5]])
 (.seq (rf [i0 31 (mv 11),
 i1 32 (.bin .and (.s 31) (.c (.int .u64 4294967295))) [0],
 i1 12 (mv 32) [1, 0, 1]])
 (.seq (rf [i0 33 (mv 11),
 i1 34 (.bin .shr (.s 33) (.c (.int .u64 32))) [0],
 i1 13 (mv 34) [1, 0, 1]])
 (.seq (rf [i0 35 (mv 12),
 i0 36 (mv 6),
 i0 37 (mv 9),
 i1 38 (.bin .mul (.s 36) (.s 37)) [1, 2],
 i1 39 (.bin .add (.s 35) (.s 38)) [0, 3],
 i1 12 (mv 39) [4, 0, 1, 2, 3, 4]])
 (.seq (rf [i0 40 (mv 7),
 i0 41 (mv 9),
 i1 42 (.bin .mul (.s 40) (.s 41)) [0, 1],
 i0 43 (mv 13),
 i1 44 (.bin .add (.s 42) (.s 43)) [2, 3],
 i0 45 (mv 12),
 i1 46 (.bin .shr (.s 45) (.c (.int .u64 32))) [5],
 i1 47 (.bin .add (.s 44) (.s 46)) [4, 6],
 i1 4 (mv 47) [7, 0, 1, 2, 3, 4, 5, 6, 7]])
 (.seq (rf [i0 48 (mv 0),
 i0 49 (mv 1),
 i1 50 (.bin .mul (.s 48) (.s 49)) [0, 1],
 i1 5 (mv 50) [2, 0, 1, 2]])
 .ret)))))))))))), false, (some [(Sh.int .u64), (Sh.int .u64)]), (some (Sh.tu (Sh.pr (Sh.int .u64) (Sh.int .u64)))), false⟩

/-- euphroe/md4.Block -/
def k174 : Fun := ⟨2, 74, [0, 1, 2, 3, 4, 5, 6, 7, 8, 9, 10, 11, 12, 16, 17, 18, 22, 23, 24, 61, 62], [(.cell 4 4 true (some .u32))],
  (.seq (rf [i0 2 (.box (.s 0)),
 i0 3 (.box (.s 1)),
 i0 4 (.new (.ints .u32 [0, 0, 0, 0]))])
 (.seq (rf [i0 13 (.lda 64 (some .u8) (.s 3)),
 i1 14 (.call (.c (.fn 192 [])) [(.s 13)]) [0],
 i0 5 (.new (.ints .u32 [0, 0, 0, 0, 0, 0, 0, 0, 0, 0, 0, 0, 0, 0, 0, 0])),
 ⟨none, (.stc 16 (.s 5) (.s 14)), none, [2, 1, 1, 0, 1, 2]⟩])
 (.seq (rf [i0 15 (.lda 4 (some .u32) (.s 2)),
 i0 6 (.new (.ints .u32 [0, 0, 0, 0])),
 ⟨none, (.stc 4 (.s 6) (.s 15)), none, [1, 0, 0, 1]⟩])
 (.seq (.seq (rf [i0 16 (.call (.c (.fn 193 [])) []),
 i0 17 (.mv (ci 0))])
 (.block 0
 (.loop ⟨0, [], false, [2, 4, 5, 6, 16, 17], []⟩
 (.seq (rf [i0 18 (.bin .lss (.s 17) (ci 3))])
 (.seq (.cond (.s 18)
 .skip
 (.pre ⟨0, [], false, [2, 4, 6], []⟩ (.exit 0)))
 (.seq (.block 1
 (.seq (rf [i0 19 (mv 17),
 i0 20 (.ixa 3 21 true none (.s 16) (.s 17)),
 i0 8 (.new (.vals [(.int .u32 0), (.int .i64 0), (.int .i64 0), (.int .i64 0), (.int .i64 0), (.int .i64 0), (.int .i64 0), (.int .i64 0), (.int .i64 0), (.int .i64 0), (.int .i64 0), (.int .i64 0), (.int .i64 0), (.int .i64 0), (.int .i64 0), (.int .i64 0), (.int .i64 0), (.int .i64 0), (.int .i64 0), (.int .i64 0), (.int .i64 0)])),
 i1 7 (mv 19) [0, 0, 1, 2],
 ⟨none, (.stc 21 (.s 8) (.s 20)), none, [2, 1, 3, 0, 1, 2, 3]⟩])
 (.seq (rf [i0 21 (.fad 5 (.s 8)),
 i1 22 (.lda 16 (some .i64) (.s 21)) [0],
 i0 23 (.mv (ci 0))])
 (.block 2
 (.loop ⟨1, [], false, [2, 4, 5, 6, 7, 8, 16, 17, 22, 23], []⟩
 (.seq (rf [i0 24 (.bin .lss (.s 23) (ci 16))])
 (.seq (.cond (.s 24)
 .skip
 (.pre ⟨0, [], false, [2, 4, 5, 6, 16, 17], []⟩ (.exit 2)))
 (.seq (.block 3
 (.seq (rf [i0 25 (mv 23),
 i0 26 (.ixa 16 1 false (some .i64) (.s 22) (.s 23)),
 i1 9 (mv 25) [0, 0, 1],
 i1 10 (mv 26) [1, 2, 0, 1, 2]])
 (.seq (rt [i0 27 (.iaa 4 1 (.s 6) (ci 0)),
 i1 28 (.ldc (.s 27)) [0],
 i0 29 (mv 7),
 i0 30 (.iaa 4 1 (.s 6) (ci 1)),
 i1 31 (.ldc (.s 30)) [3],
 i0 32 (.iaa 4 1 (.s 6) (ci 2)),
 i1 33 (.ldc (.s 32)) [5],
 i0 34 (.iaa 4 1 (.s 6) (ci 3)),
 i1 35 (.ldc (.s 34)) [7],
 i1 36 (.call (.c (.fn 194 [])) [(.s 29), (.s 31), (.s 33), (.s 35)]) [2, 4, 6, 8],
 i1 37 (.bin .add (.s 28) (.s 36)) [1, 9],
 i0 38 (mv 10),
 i1 39 (.iaa 16 1 (.s 5) (.s 38)) [11],
 i1 40 (.ldc (.s 39)) [12],
 i1 41 (.bin .add (.s 37) (.s 40)) [10, 13],
 i0 42 (.fad 0 (.s 8)),
 i1 43 (.ldc (.s 42)) [15],
 i1 44 (.bin .add (.s 41) (.s 43)) [14, 16],
 i1 11 (mv 44) [17, 9, 0, 1, 2, 3, 4, 5, 6, 7, 8, 9, 10, 11, 12, 13, 14, 15, 16, 17]])
 (rt [i0 45 (.iaa 4 1 (.s 6) (ci 3)),
 i1 46 (.ldc (.s 45)) [0],
 i0 47 (mv 11),
 i0 48 (mv 9),
 i1 49 (.bin .rem (.s 48) (ci 4)) [3],
 i0 50 (.fad 1 (.s 8)),
 i1 51 (.iaa 4 1 (.s 50) (.s 49)) [5, 4],
 i1 52 (.ldc (.s 51)) [6],
 i1 53 (.call (.c (.fn 195 [])) [(.s 47), (.s 52)]) [2, 7],
 i0 54 (.iaa 4 1 (.s 6) (ci 1)),
 i1 55 (.ldc (.s 54)) [9],
 i0 56 (.iaa 4 1 (.s 6) (ci 2)),
 i1 57 (.ldc (.s 56)) [11],
 i1 58 (.build (.ints .u32 [0, 0, 0, 0]) [(0, 1, (.s 46)), (1, 1, (.s 53)), (2, 1, (.s 55)), (3, 1, (.s 57))]) [1, 8, 10, 12],
 ⟨none, (.stc 4 (.s 6) (.s 58)), none, [13, 8, 0, 1, 2, 3, 4, 5, 6, 7, 8, 9, 10, 11, 12, 13]⟩]))))
 (rf [i0 59 (.bin .add (.s 23) (ci 1)),
 i1 23 (mv 59) [0]])))))))))
 (rf [i0 60 (.bin .add (.s 17) (ci 1)),
 i1 17 (mv 60) [0]])))))))
 (.seq (.seq (rf [i0 61 (.mv (ci 0))])
 (.block 4
 (.loop ⟨2, [], false, [2, 4, 6, 61], []⟩
 (.seq (rf [i0 62 (.bin .lss (.s 61) (ci 4))])
 (.seq (.cond (.s 62)
 .skip
 (.pre ⟨0, [], false, [4, 6], []⟩ (.exit 4)))
 (.seq (.block 5
 (.seq (rf [i0 63 (mv 61),
 i1 12 (mv 63) [0, 0]])
 (rt [i0 64 (mv 12),
 i1 65 (.iaa 4 1 (.s 6) (.s 64)) [0],
 i1 66 (.ldc (.s 65)) [1],
 i0 67 (mv 12),
 i1 68 (.iaa 4 1 (.s 2) (.s 67)) [3],
 i1 69 (.ldc (.s 68)) [4],
 i1 70 (.bin .add (.s 66) (.s 69)) [2, 5],
 i1 71 (.iaa 4 1 (.s 6) (.s 64)) [0, 0, 1, 2, 3, 4, 5, 6],
 ⟨none, (.stc 1 (.s 71) (.s 70)), none, [7, 6, 0, 1, 2, 3, 4, 5, 6]⟩])))
 (rf [i0 72 (.bin .add (.s 61) (ci 1)),
 i1 61 (mv 72) [0]])))))))
 (.seq (rf [i0 73 (.lda 4 (some .u32) (.s 6)),
 ⟨none, (.stc 4 (.s 4) (.s 73)), none, [0, 0]⟩])
 .ret)))))), false, (some [(Sh.ar .u32), (Sh.ar .u8)]), (some (Sh.ar .u32)), false⟩

/-- euphroe/euphroeref04.Block -/
def k175 : Fun := ⟨2, 94, [0, 1, 2, 3, 4, 5, 6, 7, 8, 9, 10, 11, 18, 82], [(.cell 4 4 true (some .u32))],
  (.seq (rf [i0 2 (.box (.s 0)),
 i0 3 (.box (.s 1)),
 i0 4 (.new (.ints .u32 [0, 0, 0, 0]))])
 (.seq (rf [i0 12 (.bsl 4 1 (.ints .i64 [0, 0, 0, 0]) [(0, 1, (ci 3)), (1, 1, (ci 7)), (2, 1, (ci 11)), (3, 1, (ci 19))]),
 i0 13 (.bsl 4 1 (.ints .i64 [0, 0, 0, 0]) [(0, 1, (ci 3)), (1, 1, (ci 5)), (2, 1, (ci 9)), (3, 1, (ci 13))]),
 i0 14 (.bsl 4 1 (.ints .i64 [0, 0, 0, 0]) [(0, 1, (ci 3)), (1, 1, (ci 9)), (2, 1, (ci 11)), (3, 1, (ci 15))]),
 i1 15 (.bsl 3 1 (.vals [.nils, .nils, .nils]) [(0, 1, (.s 12)), (1, 1, (.s 13)), (2, 1, (.s 14))]) [0, 1, 2],
 i1 5 (mv 15) [3, 0, 1, 2, 3]])
 (.seq (rf [i0 16 (.lda 4 (some .u32) (.s 2)),
 i0 6 (.new (.ints .u32 [0, 0, 0, 0])),
 ⟨none, (.stc 4 (.s 6) (.s 16)), none, [1, 0, 0, 1]⟩])
 (.seq (.seq (rf [i0 7 (.mv (ci 0))])
 (.block 0
 (.loop ⟨0, [(5, (Sh.sl (Sh.sl (Sh.int .i64))))], false, [2, 3, 4, 5, 6, 7], []⟩
 (.seq (.seq (rf [i0 17 (mv 7),
 i1 18 (.bin .lss (.s 17) (ci 48)) [0]])
 (.cond (.s 18)
 .skip
 (.pre ⟨0, [], false, [2, 4, 6], []⟩ (.exit 0))))
 (.seq (.block 1
 (.seq (rf [i0 21 (mv 7),
 i1 22 (.call (.c (.fn 196 [])) [(.s 21)]) [0],
 i1 23 (.bin .mul (ci 4) (.s 22)) [1],
 i1 8 (mv 23) [2, 1, 0, 1, 2]])
 (.seq (rt [i0 24 (mv 8),
 i1 25 (.iaa 64 1 (.s 3) (.s 24)) [0],
 i1 26 (.ldc (.s 25)) [1],
 i1 27 (.cvi .u32 (.s 26)) [2],
 i0 28 (mv 8),
 i1 29 (.bin .add (.s 28) (ci 1)) [4],
 i1 30 (.iaa 64 1 (.s 3) (.s 29)) [5],
 i1 31 (.ldc (.s 30)) [6],
 i1 32 (.cvi .u32 (.s 31)) [7],
 i1 33 (.bin .mul (.s 32) (.c (.int .u32 256))) [8],
 i1 34 (.bin .add (.s 27) (.s 33)) [3, 9],
 i0 35 (mv 8),
 i1 36 (.bin .add (.s 35) (ci 2)) [11],
 i1 37 (.iaa 64 1 (.s 3) (.s 36)) [12],
 i1 38 (.ldc (.s 37)) [13],
 i1 39 (.cvi .u32 (.s 38)) [14],
 i1 40 (.bin .mul (.s 39) (.c (.int .u32 65536))) [15],
 i1 41 (.bin .add (.s 34) (.s 40)) [10, 16],
 i0 42 (mv 8),
 i1 43 (.bin .add (.s 42) (ci 3)) [18],
 i1 44 (.iaa 64 1 (.s 3) (.s 43)) [19],
 i1 45 (.ldc (.s 44)) [20],
 i1 46 (.cvi .u32 (.s 45)) [21],
 i1 47 (.bin .mul (.s 46) (.c (.int .u32 16777216))) [22],
 i1 48 (.bin .add (.s 41) (.s 47)) [17, 23],
 i1 9 (mv 48) [24, 0, 1, 2, 3, 4, 5, 6, 7, 8, 9, 10, 11, 12, 13, 14, 15, 16, 17, 18, 19, 20, 21, 22, 23, 24]])
 (.seq (rt [i0 49 (.iaa 4 1 (.s 6) (ci 0)),
 i1 50 (.ldc (.s 49)) [0],
 i0 51 (mv 7),
 i1 52 (.bin .quo (.s 51) (ci 16)) [2],
 i0 53 (.iaa 4 1 (.s 6) (ci 1)),
 i1 54 (.ldc (.s 53)) [4],
 i0 55 (.iaa 4 1 (.s 6) (ci 2)),
 i1 56 (.ldc (.s 55)) [6],
 i0 57 (.iaa 4 1 (.s 6) (ci 3)),
 i1 58 (.ldc (.s 57)) [8],
 i1 59 (.call (.c (.fn 198 [])) [(.s 52), (.s 54), (.s 56), (.s 58)]) [3, 5, 7, 9],
 i1 60 (.bin .add (.s 50) (.s 59)) [1, 10],
 i0 61 (mv 9),
 i1 62 (.bin .add (.s 60) (.s 61)) [11, 12],
 i0 63 (mv 5),
 i0 64 (mv 7),
 i1 65 (.bin .quo (.s 64) (ci 16)) [15],
 i1 66 (.iad 1 (.s 63) (.s 65)) [14, 16],
 i1 67 (.ldc (.s 66)) [17],
 i0 68 (mv 7),
 i1 69 (.bin .rem (.s 68) (ci 4)) [19],
 i1 70 (.iad 1 (.s 67) (.s 69)) [18, 20],
 i1 71 (.ldc (.s 70)) [21],
 i1 72 (.call (.c (.fn 197 [])) [(.s 62), (.s 71)]) [13, 22, 10],
 i1 10 (mv 72) [23, 23, 0, 1, 2, 3, 4, 5, 6, 7, 8, 9, 10, 11, 12, 13, 14, 15, 16, 17, 18, 19, 20, 21, 22, 23]])
 (rf [i0 73 (.iaa 4 1 (.s 6) (ci 3)),
 i1 74 (.ldc (.s 73)) [0],
 i0 75 (mv 10),
 i0 76 (.iaa 4 1 (.s 6) (ci 1)),
 i1 77 (.ldc (.s 76)) [3],
 i0 78 (.iaa 4 1 (.s 6) (ci 2)),
 i1 79 (.ldc (.s 78)) [5],
 i1 80 (.build (.ints .u32 [0, 0, 0, 0]) [(0, 1, (.s 74)), (1, 1, (.s 75)), (2, 1, (.s 77)), (3, 1, (.s 79))]) [1, 2, 4, 6],
 ⟨none, (.stc 4 (.s 6) (.s 80)), none, [7, 0, 1, 2, 3, 4, 5, 6, 7]⟩])))))
 (rf [i0 19 (mv 7),
 i1 20 (.bin .add (.s 19) (ci 1)) [0],
 i1 7 (mv 20) [1, 0, 1]]))))))
 (.seq (.seq (rf [i0 11 (.mv (ci 0))])
 (.block 2
 (.loop ⟨1, [], false, [2, 4, 6, 11], []⟩
 (.seq (.seq (rf [i0 81 (mv 11),
 i1 82 (.bin .lss (.s 81) (ci 4)) [0]])
 (.cond (.s 82)
 .skip
 (.pre ⟨0, [], false, [4, 6], []⟩ (.exit 2))))
 (.seq (.block 3
 (rt [i0 85 (mv 11),
 i1 86 (.iaa 4 1 (.s 6) (.s 85)) [0],
 i1 87 (.ldc (.s 86)) [1],
 i0 88 (mv 11),
 i1 89 (.iaa 4 1 (.s 2) (.s 88)) [3],
 i1 90 (.ldc (.s 89)) [4],
 i1 91 (.bin .add (.s 87) (.s 90)) [2, 5],
 i1 92 (.iaa 4 1 (.s 6) (.s 85)) [0, 0, 1, 2, 3, 4, 5, 6],
 ⟨none, (.stc 1 (.s 92) (.s 91)), none, [7, 6, 0, 1, 2, 3, 4, 5, 6]⟩]))
 (rf [i0 83 (mv 11),
 i1 84 (.bin .add (.s 83) (ci 1)) [0],
 i1 11 (mv 84) [1, 0, 1]]))))))
 (.seq (rf [i0 93 (.lda 4 (some .u32) (.s 6)),
 ⟨none, (.stc 4 (.s 4) (.s 93)), none, [0, 0]⟩])
 .ret)))))), false, (some [(Sh.ar .u32), (Sh.ar .u8)]), (some (Sh.ar .u32)), false⟩

/-- euphroe/md4.Tail -/
def k176 : Fun := ⟨1, 25, [0, 2, 3, 4, 5], [(.tmp 2)],
  (.seq (rf [i0 2 (.mv (.c .nils))])
 (.seq (rf [i0 7 (mv 0),
 i1 8 (.bin .add (.s 7) (.c (.int .u64 1))) [0],
 i1 9 (.bin .add (.s 8) (.c (.int .u64 8))) [1],
 i1 10 (.bin .rem (.s 9) (.c (.int .u64 64))) [2],
 i1 11 (.bin .sub (.c (.int .u64 64)) (.s 10)) [3],
 i1 12 (.bin .rem (.s 11) (.c (.int .u64 64))) [4],
 i1 3 (mv 12) [5, 0, 1, 2, 3, 4, 5]])
 (.seq (rf [i0 13 (.bsl 1 1 (.ints .u8 [0]) [(0, 1, (.c (.int .u8 128)))]),
 i0 14 (mv 3),
 i1 15 (.apz 1 1 (.ints .u8 [0]) (.s 13) (.s 14)) [0, 1],
 i1 4 (mv 15) [2, 2, 0, 1, 2]])
 (.seq (rf [i0 17 (mv 0),
 i1 18 (.bin .mul (.s 17) (.c (.int .u64 8))) [0],
 i1 19 (.call (.c (.fn 19 [])) [(.s 18), (ci 8), (.c (.bool true))]) [1],
 i1 16 (mv 19) [2],
 i1 20 (.ext (.s 16) 0) [3],
 i1 21 (.ext (.s 16) 1) [3],
 i1 5 (mv 20) [4, 2, 0, 1, 2, 3, 4],
 i1 6 (mv 21) [5, 6, 0, 1, 2, 3, 4, 5, 6]])
 (.seq (rf [i0 22 (mv 4),
 i0 23 (mv 5),
 i1 24 (.app 1 1 (.s 22) (.s 23)) [0, 1],
 i1 2 (mv 24) [2, 2, 0, 1, 2]])
 .ret))))), false, (some [(Sh.int .u64)]), (some (Sh.sl (Sh.int .u8))), false⟩

/-- euphroe/euphroeref04.Tail -/
def k177 : Fun := ⟨1, 32, [0, 2, 3, 4, 5, 13, 20], [(.tmp 2)],
  (.seq (rf [i0 2 (.mv (.c .nils))])
 (.seq (rf [i0 6 (.bsl 1 1 (.ints .u8 [0]) [(0, 1, (.c (.int .u8 128)))]),
 i1 3 (mv 6) [0, 0]])
 (.seq (.block 0
 (.loop ⟨0, [], false, [0, 3], [(3, (.imm []), 1)]⟩
 (.seq (.seq (rf [i0 7 (mv 0),
 i0 8 (mv 3),
 i1 9 (.len false (.s 8)) [1],
 i1 10 (.cvi .u64 (.s 9)) [2],
 i1 11 (.bin .add (.s 7) (.s 10)) [0, 3],
 i1 12 (.bin .rem (.s 11) (.c (.int .u64 64))) [4],
 i1 13 (.bin .neq (.s 12) (.c (.int .u64 56))) [5]])
 (.cond (.s 13)
 .skip
 (.pre ⟨0, [], false, [0, 3], []⟩ (.exit 0))))
 (.block 1
 (rf [i0 14 (mv 3),
 i0 15 (.bsl 1 1 (.ints .u8 [0]) [(0, 1, (.c (.int .u8 0)))]),
 i1 16 (.app 1 1 (.s 14) (.s 15)) [0, 1],
 i1 3 (mv 16) [2, 2, 0, 1, 2]])))))
 (.seq (rf [i0 17 (mv 0),
 i1 18 (.bin .mul (.c (.int .u64 8)) (.s 17)) [0],
 i1 4 (mv 18) [1, 0, 1]])
 (.seq (.seq (rf [i0 5 (.mv (ci 0))])
 (.block 2
 (.loop ⟨1, [], false, [3, 4, 5], []⟩
 (.seq (.seq (rf [i0 19 (mv 5),
 i1 20 (.bin .lss (.s 19) (ci 8)) [0]])
 (.cond (.s 20)
 .skip
 (.pre ⟨0, [], false, [3], []⟩ (.exit 2))))
 (.seq (.block 3
 (.seq (rf [i0 23 (mv 3),
 i0 24 (mv 4),
 i1 25 (.bin .rem (.s 24) (.c (.int .u64 256))) [1],
 i1 26 (.cvi .u8 (.s 25)) [2],
 i1 27 (.bsl 1 1 (.ints .u8 [0]) [(0, 1, (.s 26))]) [3],
 i1 28 (.app 1 1 (.s 23) (.s 27)) [0, 4],
 i1 3 (mv 28) [5, 5, 0, 1, 2, 3, 4, 5]])
 (rf [i0 29 (mv 4),
 i1 30 (.bin .quo (.s 29) (.c (.int .u64 256))) [0],
 i1 4 (mv 30) [1, 0, 1]])))
 (rf [i0 21 (mv 5),
 i1 22 (.bin .add (.s 21) (ci 1)) [0],
 i1 5 (mv 22) [1, 0, 1]]))))))
 (.seq (rf [i0 31 (mv 3),
 i1 2 (mv 31) [0, 0]])
 .ret)))))), false, (some [(Sh.int .u64)]), (some (Sh.sl (Sh.int .u8))), false⟩

/-- euphroe/md4.First -/
def k178 : Fun := ⟨0, 2, [0], [(.cell 0 4 true (some .u32))],
  (.seq (rf [i0 0 (.new (.ints .u32 [0, 0, 0, 0]))])
 (.seq (rf [i0 1 (.build (.ints .u32 [0, 0, 0, 0]) [(0, 1, (.c (.int .u32 1732584193))), (1, 1, (.c (.int .u32 4023233417))), (2, 1, (.c (.int .u32 2562383102))), (3, 1, (.c (.int .u32 271733878)))]),
 ⟨none, (.stc 4 (.s 0) (.s 1)), none, [0, 0]⟩])
 .ret)), false, (some []), (some (Sh.ar .u32)), false⟩

/-- euphroe/euphroeref04.First -/
def k179 : Fun := ⟨0, 2, [0], [(.cell 0 4 true (some .u32))],
  (.seq (rf [i0 0 (.new (.ints .u32 [0, 0, 0, 0]))])
 (.seq (rf [i0 1 (.build (.ints .u32 [0, 0, 0, 0]) [(0, 1, (.c (.int .u32 1732584193))), (1, 1, (.c (.int .u32 4023233417))), (2, 1, (.c (.int .u32 2562383102))), (3, 1, (.c (.int .u32 271733878)))]),
 ⟨none, (.stc 4 (.s 0) (.s 1)), none, [0, 0]⟩])
 .ret)), false, (some []), (some (Sh.ar .u32)), false⟩

/-- euphroe/md4.Of -/
def k181 : Fun := ⟨1, 43, [0, 2, 3, 4, 5, 6, 18, 27, 28], [(.cell 2 16 true (some .u8))],
  (.seq (rf [i0 2 (.new (.ints .u8 [0, 0, 0, 0, 0, 0, 0, 0, 0, 0, 0, 0, 0, 0, 0, 0]))])
 (.seq (rf [i0 7 (mv 0),
 i1 8 (.call (.c (.fn 46 [])) [(.s 7)]) [0],
 i1 3 (mv 8) [1, 1, 0, 1]])
 (.seq (rf [i0 9 (mv 3),
 i0 10 (mv 3),
 i1 11 (.len false (.s 10)) [1],
 i1 12 (.cvi .u64 (.s 11)) [2],
 i1 13 (.call (.c (.fn 176 [])) [(.s 12)]) [3],
 i1 14 (.app 1 1 (.s 9) (.s 13)) [0, 4, 4],
 i1 3 (mv 14) [5, 5, 0, 1, 2, 3, 4, 5]])
 (.seq (rf [i0 15 (.call (.c (.fn 178 [])) []),
 i0 4 (.new (.ints .u32 [0, 0, 0, 0])),
 ⟨none, (.stc 4 (.s 4) (.s 15)), none, [1, 0, 0, 0, 1]⟩])
 (.seq (.block 0
 (.loop ⟨0, [(3, (Sh.sl (Sh.int .u8)))], false, [2, 3, 4], []⟩
 (.seq (.seq (rf [i0 16 (mv 3),
 i1 17 (.len false (.s 16)) [0],
 i1 18 (.bin .gtr (.s 17) (ci 0)) [1]])
 (.cond (.s 18)
 .skip
 (.pre ⟨0, [], false, [2, 4], []⟩ (.exit 0))))
 (.seq (.block 1
 (rt [i0 21 (.lda 4 (some .u32) (.s 4)),
 i0 22 (mv 3),
 i1 23 (.sls 1 (.s 22) none (some (ci 64)) none) [1],
 i1 24 (.s2a 64 (.s 23)) [2],
 i1 25 (.lda 64 (some .u8) (.s 24)) [3],
 i1 26 (.call (.c (.fn 174 [])) [(.s 21), (.s 25)]) [0, 4],
 ⟨none, (.stc 4 (.s 4) (.s 26)), none, [5, 5, 0, 1, 2, 3, 4, 5]⟩]))
 (rf [i0 19 (mv 3),
 i1 20 (.sls 1 (.s 19) (some (ci 64)) none none) [0],
 i1 3 (mv 20) [1, 0, 1]])))))
 (.seq (rf [i0 5 (.new (.ints .u8 [0, 0, 0, 0, 0, 0, 0, 0, 0, 0, 0, 0, 0, 0, 0, 0]))])
 (.seq (.seq (rf [i0 27 (.mv (ci 0))])
 (.block 2
 (.loop ⟨1, [], false, [2, 4, 5, 27], []⟩
 (.seq (rf [i0 28 (.bin .lss (.s 27) (ci 16))])
 (.seq (.cond (.s 28)
 .skip
 (.pre ⟨0, [], false, [2, 5], []⟩ (.exit 2)))
 (.seq (.block 3
 (.seq (rf [i0 29 (mv 27),
 i1 6 (mv 29) [0, 0]])
 (rf [i0 30 (mv 6),
 i0 31 (mv 6),
 i1 32 (.bin .quo (.s 31) (ci 4)) [1],
 i1 33 (.iaa 4 1 (.s 4) (.s 32)) [2],
 i1 34 (.ldc (.s 33)) [3],
 i0 35 (mv 6),
 i1 36 (.bin .rem (.s 35) (ci 4)) [5],
 i1 37 (.bin .mul (ci 8) (.s 36)) [6],
 i1 38 (.bin .shr (.s 34) (.s 37)) [4, 7],
 i1 39 (.cvi .u8 (.s 38)) [8],
 i1 40 (.iaa 16 1 (.s 5) (.s 30)) [0, 0, 1, 2, 3, 4, 5, 6, 7, 8, 9],
 ⟨none, (.stc 1 (.s 40) (.s 39)), none, [10, 9, 0, 1, 2, 3, 4, 5, 6, 7, 8, 9]⟩])))
 (rf [i0 41 (.bin .add (.s 27) (ci 1)),
 i1 27 (mv 41) [0]])))))))
 (.seq (rf [i0 42 (.lda 16 (some .u8) (.s 5)),
 ⟨none, (.stc 16 (.s 2) (.s 42)), none, [0, 0]⟩])
 .ret)))))))), false, (some [(Sh.sl (Sh.sl (Sh.int .u8)))]), (some (Sh.ar .u8)), false⟩

/-- euphroe/euphroeref04.Of -/
def k182 : Fun := ⟨1, 55, [0, 2, 3, 4, 5, 6, 7, 8, 9, 21, 25, 40], [(.cell 2 16 true (some .u8))],
  (.seq (rf [i0 2 (.new (.ints .u8 [0, 0, 0, 0, 0, 0, 0, 0, 0, 0, 0, 0, 0, 0, 0, 0]))])
 (.seq (rf [i0 10 (mv 0),
 i1 11 (.app 1 1 (.c .nils) (.s 10)) [0],
 i0 12 (mv 0),
 i1 13 (.len false (.s 12)) [2],
 i1 14 (.cvi .u64 (.s 13)) [3],
 i1 15 (.call (.c (.fn 177 [])) [(.s 14)]) [4, 1],
 i1 16 (.app 1 1 (.s 11) (.s 15)) [1, 5, 5],
 i1 3 (mv 16) [6, 6, 0, 1, 2, 3, 4, 5, 6]])
 (.seq (rf [i0 17 (.call (.c (.fn 179 [])) []),
 i0 4 (.new (.ints .u32 [0, 0, 0, 0])),
 ⟨none, (.stc 4 (.s 4) (.s 17)), none, [1, 0, 0, 0, 1]⟩])
 (.seq (.seq (rf [i0 5 (.mv (ci 0))])
 (.block 0
 (.loop ⟨0, [], false, [2, 3, 4, 5], []⟩
 (.seq (.seq (rf [i0 18 (mv 5),
 i0 19 (mv 3),
 i1 20 (.len false (.s 19)) [1],
 i1 21 (.bin .lss (.s 18) (.s 20)) [0, 2]])
 (.cond (.s 21)
 .skip
 (.pre ⟨0, [], false, [2, 4], []⟩ (.exit 0))))
 (.seq (.block 1
 (.seq (rf [i0 6 (.new (.ints .u8 [0, 0, 0, 0, 0, 0, 0, 0, 0, 0, 0, 0, 0, 0, 0, 0, 0, 0, 0, 0, 0, 0, 0, 0, 0, 0, 0, 0, 0, 0, 0, 0, 0, 0, 0, 0, 0, 0, 0, 0, 0, 0, 0, 0, 0, 0, 0, 0, 0, 0, 0, 0, 0, 0, 0, 0, 0, 0, 0, 0, 0, 0, 0, 0]))])
 (.seq (.seq (rf [i0 7 (.mv (ci 0))])
 (.block 2
 (.loop ⟨1, [], false, [2, 3, 4, 5, 6, 7], []⟩
 (.seq (.seq (rf [i0 24 (mv 7),
 i1 25 (.bin .lss (.s 24) (ci 64)) [0]])
 (.cond (.s 25)
 .skip
 (.pre ⟨0, [], false, [2, 3, 4, 5, 6], []⟩ (.exit 2))))
 (.seq (.block 3
 (rf [i0 28 (mv 7),
 i0 29 (mv 3),
 i0 30 (mv 5),
 i0 31 (mv 7),
 i1 32 (.bin .add (.s 30) (.s 31)) [2, 3],
 i1 33 (.iad 1 (.s 29) (.s 32)) [1, 4],
 i1 34 (.ldc (.s 33)) [5],
 i1 35 (.iaa 64 1 (.s 6) (.s 28)) [0, 0, 1, 2, 3, 4, 5, 6],
 ⟨none, (.stc 1 (.s 35) (.s 34)), none, [7, 6, 0, 1, 2, 3, 4, 5, 6]⟩]))
 (rf [i0 26 (mv 7),
 i1 27 (.bin .add (.s 26) (ci 1)) [0],
 i1 7 (mv 27) [1, 0, 1]]))))))
 (rf [i0 36 (.lda 4 (some .u32) (.s 4)),
 i0 37 (.lda 64 (some .u8) (.s 6)),
 i1 38 (.call (.c (.fn 175 [])) [(.s 36), (.s 37)]) [0, 1],
 ⟨none, (.stc 4 (.s 4) (.s 38)), none, [2, 2, 0, 1, 2]⟩]))))
 (rf [i0 22 (mv 5),
 i1 23 (.bin .add (.s 22) (ci 64)) [0],
 i1 5 (mv 23) [1, 0, 1]]))))))
 (.seq (rf [i0 8 (.new (.ints .u8 [0, 0, 0, 0, 0, 0, 0, 0, 0, 0, 0, 0, 0, 0, 0, 0]))])
 (.seq (.seq (rf [i0 9 (.mv (ci 0))])
 (.block 4
 (.loop ⟨2, [], false, [2, 4, 8, 9], []⟩
 (.seq (.seq (rf [i0 39 (mv 9),
 i1 40 (.bin .lss (.s 39) (ci 16)) [0]])
 (.cond (.s 40)
 .skip
 (.pre ⟨0, [], false, [2, 8], []⟩ (.exit 4))))
 (.seq (.block 5
 (rf [i0 43 (mv 9),
 i0 44 (mv 9),
 i1 45 (.bin .quo (.s 44) (ci 4)) [1],
 i1 46 (.iaa 4 1 (.s 4) (.s 45)) [2],
 i1 47 (.ldc (.s 46)) [3],
 i0 48 (mv 9),
 i1 49 (.bin .rem (.s 48) (ci 4)) [5],
 i1 50 (.bin .mul (ci 8) (.s 49)) [6],
 i1 51 (.bin .shr (.s 47) (.s 50)) [4, 7],
 i1 52 (.cvi .u8 (.s 51)) [8],
 i1 53 (.iaa 16 1 (.s 8) (.s 43)) [0, 0, 1, 2, 3, 4, 5, 6, 7, 8, 9],
 ⟨none, (.stc 1 (.s 53) (.s 52)), none, [10, 9, 0, 1, 2, 3, 4, 5, 6, 7, 8, 9]⟩]))
 (rf [i0 41 (mv 9),
 i1 42 (.bin .add (.s 41) (ci 1)) [0],
 i1 9 (mv 42) [1, 0, 1]]))))))
 (.seq (rf [i0 54 (.lda 16 (some .u8) (.s 8)),
 ⟨none, (.stc 16 (.s 2) (.s 54)), none, [0, 0]⟩])
 .ret))))))), false, (some [(Sh.sl (Sh.int .u8))]), (some (Sh.ar .u8)), false⟩

/-- euphroe/md4.words -/
def k192 : Fun := ⟨1, 26, [0, 1, 2, 3, 4, 5, 7, 8], [(.cell 2 16 true (some .u32))],
  (.seq (rf [i0 1 (.box (.s 0)),
 i0 2 (.new (.ints .u32 [0, 0, 0, 0, 0, 0, 0, 0, 0, 0, 0, 0, 0, 0, 0, 0]))])
 (.seq (rf [i0 3 (.new (.ints .u32 [0, 0, 0, 0, 0, 0, 0, 0, 0, 0, 0, 0, 0, 0, 0, 0]))])
 (.seq (.seq (rf [i0 7 (.mv (ci 0))])
 (.block 0
 (.loop ⟨0, [], false, [1, 2, 3, 7], []⟩
 (.seq (rf [i0 8 (.bin .lss (.s 7) (ci 16))])
 (.seq (.cond (.s 8)
 .skip
 (.pre ⟨0, [], false, [2, 3], []⟩ (.exit 0)))
 (.seq (.block 1
 (.seq (rf [i0 9 (mv 7),
 i1 4 (mv 9) [0, 0]])
 (.seq (rf [i0 11 (mv 4),
 i1 12 (.bin .mul (ci 4) (.s 11)) [0],
 i0 13 (mv 4),
 i1 14 (.bin .mul (ci 4) (.s 13)) [2],
 i1 15 (.bin .add (.s 14) (ci 4)) [3],
 i1 16 (.sla 64 1 (.s 1) (some (.s 12)) (some (.s 15)) none) [1, 4],
 i1 17 (.call (.c (.fn 21 [])) [(.s 16), (.c (.bool true))]) [5],
 i1 10 (mv 17) [6],
 i1 18 (.ext (.s 10) 0) [7],
 i1 19 (.ext (.s 10) 1) [7],
 i1 5 (mv 18) [8, 6, 0, 1, 2, 3, 4, 5, 6, 7, 8],
 i1 6 (mv 19) [9, 10, 0, 1, 2, 3, 4, 5, 6, 7, 8, 9, 10]])
 (rf [i0 20 (mv 4),
 i0 21 (mv 5),
 i1 22 (.cvi .u32 (.s 21)) [1],
 i1 23 (.iaa 16 1 (.s 3) (.s 20)) [0, 0, 1, 2],
 ⟨none, (.stc 1 (.s 23) (.s 22)), none, [3, 2, 0, 1, 2]⟩]))))
 (rf [i0 24 (.bin .add (.s 7) (ci 1)),
 i1 7 (mv 24) [0]])))))))
 (.seq (rf [i0 25 (.lda 16 (some .u32) (.s 3)),
 ⟨none, (.stc 16 (.s 2) (.s 25)), none, [0, 0]⟩])
 .ret)))), false, (some [(Sh.ar .u8)]), (some (Sh.ar .u32)), false⟩

/-- euphroe/md4.plans -/
def k193 : Fun := ⟨0, 27, [0, 1, 3], [(.cell 0 63 true none)],
  (.seq (rf [i0 0 (.new (.vals [(.int .u32 0), (.int .i64 0), (.int .i64 0), (.int .i64 0), (.int .i64 0), (.int .i64 0), (.int .i64 0), (.int .i64 0), (.int .i64 0), (.int .i64 0), (.int .i64 0), (.int .i64 0), (.int .i64 0), (.int .i64 0), (.int .i64 0), (.int .i64 0), (.int .i64 0), (.int .i64 0), (.int .i64 0), (.int .i64 0), (.int .i64 0), (.int .u32 0), (.int .i64 0), (.int .i64 0), (.int .i64 0), (.int .i64 0), (.int .i64 0), (.int .i64 0), (.int .i64 0), (.int .i64 0), (.int .i64 0), (.int .i64 0), (.int .i64 0), (.int .i64 0), (.int .i64 0), (.int .i64 0), (.int .i64 0), (.int .i64 0), (.int .i64 0), (.int .i64 0), (.int .i64 0), (.int .i64 0), (.int .u32 0), (.int .i64 0), (.int .i64 0), (.int .i64 0), (.int .i64 0), (.int .i64 0), (.int .i64 0), (.int .i64 0), (.int .i64 0), (.int .i64 0), (.int .i64 0), (.int .i64 0), (.int .i64 0), (.int .i64 0), (.int .i64 0), (.int .i64 0), (.int .i64 0), (.int .i64 0), (.int .i64 0), (.int .i64 0), (.int .i64 0)]))])
 (.seq (rf [i0 6 (.call (.c (.fn 75 [])) [(ci 2), (ci 2), (ci 30)]),
 i1 5 (mv 6) [0],
 i1 7 (.ext (.s 5) 0) [1],
 i1 8 (.ext (.s 5) 1) [1],
 i1 1 (mv 7) [2, 0, 0, 1, 2],
 i1 2 (mv 8) [3, 4, 0, 1, 2, 3, 4]])
 (.seq (rf [i0 10 (.call (.c (.fn 75 [])) [(ci 3), (ci 2), (ci 30)]),
 i1 9 (mv 10) [0],
 i1 11 (.ext (.s 9) 0) [1],
 i1 12 (.ext (.s 9) 1) [1],
 i1 3 (mv 11) [2, 0, 0, 1, 2],
 i1 4 (mv 12) [3, 4, 0, 1, 2, 3, 4]])
 (.seq (rf [i0 13 (.build (.ints .i64 [0, 0, 0, 0]) [(0, 1, (ci 3)), (1, 1, (ci 7)), (2, 1, (ci 11)), (3, 1, (ci 19))]),
 i0 14 (.build (.ints .i64 [0, 0, 0, 0, 0, 0, 0, 0, 0, 0, 0, 0, 0, 0, 0, 0]) [(0, 1, (ci 0)), (1, 1, (ci 1)), (2, 1, (ci 2)), (3, 1, (ci 3)), (4, 1, (ci 4)), (5, 1, (ci 5)), (6, 1, (ci 6)), (7, 1, (ci 7)), (8, 1, (ci 8)), (9, 1, (ci 9)), (10, 1, (ci 10)), (11, 1, (ci 11)), (12, 1, (ci 12)), (13, 1, (ci 13)), (14, 1, (ci 14)), (15, 1, (ci 15))]),
 i1 15 (.build (.vals [(.int .u32 0), (.int .i64 0), (.int .i64 0), (.int .i64 0), (.int .i64 0), (.int .i64 0), (.int .i64 0), (.int .i64 0), (.int .i64 0), (.int .i64 0), (.int .i64 0), (.int .i64 0), (.int .i64 0), (.int .i64 0), (.int .i64 0), (.int .i64 0), (.int .i64 0), (.int .i64 0), (.int .i64 0), (.int .i64 0), (.int .i64 0)]) [(0, 1, (.c (.int .u32 0))), (1, 4, (.s 13)), (5, 16, (.s 14))]) [0, 1],
 i0 16 (mv 1),
 i1 17 (.cvi .u32 (.s 16)) [3],
 i0 18 (.build (.ints .i64 [0, 0, 0, 0]) [(0, 1, (ci 3)), (1, 1, (ci 5)), (2, 1, (ci 9)), (3, 1, (ci 13))]),
 i0 19 (.build (.ints .i64 [0, 0, 0, 0, 0, 0, 0, 0, 0, 0, 0, 0, 0, 0, 0, 0]) [(0, 1, (ci 0)), (1, 1, (ci 4)), (2, 1, (ci 8)), (3, 1, (ci 12)), (4, 1, (ci 1)), (5, 1, (ci 5)), (6, 1, (ci 9)), (7, 1, (ci 13)), (8, 1, (ci 2)), (9, 1, (ci 6)), (10, 1, (ci 10)), (11, 1, (ci 14)), (12, 1, (ci 3)), (13, 1, (ci 7)), (14, 1, (ci 11)), (15, 1, (ci 15))]),
 i1 20 (.build (.vals [(.int .u32 0), (.int .i64 0), (.int .i64 0), (.int .i64 0), (.int .i64 0), (.int .i64 0), (.int .i64 0), (.int .i64 0), (.int .i64 0), (.int .i64 0), (.int .i64 0), (.int .i64 0), (.int .i64 0), (.int .i64 0), (.int .i64 0), (.int .i64 0), (.int .i64 0), (.int .i64 0), (.int .i64 0), (.int .i64 0), (.int .i64 0)]) [(0, 1, (.s 17)), (1, 4, (.s 18)), (5, 16, (.s 19))]) [4, 5, 6],
 i0 21 (mv 3),
 i1 22 (.cvi .u32 (.s 21)) [8],
 i0 23 (.build (.ints .i64 [0, 0, 0, 0]) [(0, 1, (ci 3)), (1, 1, (ci 9)), (2, 1, (ci 11)), (3, 1, (ci 15))]),
 i0 24 (.build (.ints .i64 [0, 0, 0, 0, 0, 0, 0, 0, 0, 0, 0, 0, 0, 0, 0, 0]) [(0, 1, (ci 0)), (1, 1, (ci 8)), (2, 1, (ci 4)), (3, 1, (ci 12)), (4, 1, (ci 2)), (5, 1, (ci 10)), (6, 1, (ci 6)), (7, 1, (ci 14)), (8, 1, (ci 1)), (9, 1, (ci 9)), (10, 1, (ci 5)), (11, 1, (ci 13)), (12, 1, (ci 3)), (13, 1, (ci 11)), (14, 1, (ci 7)), (15, 1, (ci 15))]),
 i1 25 (.build (.vals [(.int .u32 0), (.int .i64 0), (.int .i64 0), (.int .i64 0), (.int .i64 0), (.int .i64 0), (.int .i64 0), (.int .i64 0), (.int .i64 0), (.int .i64 0), (.int .i64 0), (.int .i64 0), (.int .i64 0), (.int .i64 0), (.int .i64 0), (.int .i64 0), (.int .i64 0), (.int .i64 0), (.int .i64 0), (.int .i64 0), (.int .i64 0)]) [(0, 1, (.s 22)), (1, 4, (.s 23)), (5, 16, (.s 24))]) [9, 10, 11],
 i1 26 (.build (.vals [(.int .u32 0), (.int .i64 0), (.int .i64 0), (.int .i64 0), (.int .i64 0), (.int .i64 0), (.int .i64 0), (.int .i64 0), (.int .i64 0), (.int .i64 0), (.int .i64 0), (.int .i64 0), (.int .i64 0), (.int .i64 0), (.int .i64 0), (.int .i64 0), (.int .i64 0), (.int .i64 0), (.int .i64 0), (.int .i64 0), (.int .i64 0), (.int .u32 0), (.int .i64 0), (.int .i64 0), (.int .i64 0), (.int .i64 0), (.int .i64 0), (.int .i64 0), (.int .i64 0), (.int .i64 0), (.int .i64 0), (.int .i64 0), (.int .i64 0), (.int .i64 0), (.int .i64 0), (.int .i64 0), (.int .i64 0), (.int .i64 0), (.int .i64 0), (.int .i64 0), (.int .i64 0), (.int .i64 0), (.int .u32 0), (.int .i64 0), (.int .i64 0), (.int .i64 0), (.int .i64 0), (.int .i64 0), (.int .i64 0), (.int .i64 0), (.int .i64 0), (.int .i64 0), (.int .i64 0), (.int .i64 0), (.int .i64 0), (.int .i64 0), (.int .i64 0), (.int .i64 0), (.int .i64 0), (.int .i64 0), (.int .i64 0), (.int .i64 0), (.int .i64 0)]) [(0, 21, (.s 15)), (21, 21, (.s 20)), (42, 21, (.s 25))]) [2, 7, 12],
 ⟨none, (.stc 63 (.s 0) (.s 26)), none, [13, 0, 1, 2, 3, 4, 5, 6, 7, 8, 9, 10, 11, 12, 13]⟩])
 .ret)))), false, none, none, false⟩

/-- euphroe/md4.mix -/
def k194 : Fun := ⟨4, 35, [0, 1, 2, 3, 8, 9, 10, 19], [(.tmp 8)],
  (.seq (rf [i0 8 (.mv (.c (.int .u32 0)))])
 (.seq (.seq (rf [i0 9 (mv 0)])
 (.block 0
 (.seq (rf [i0 11 (.bin .eql (.s 9) (ci 0)),
 i1 10 (mv 11) [0]])
 (.cond (.s 10)
 (.seq (rf [i0 12 (mv 3),
 i0 13 (mv 1),
 i0 14 (mv 2),
 i0 15 (mv 3),
 i1 16 (.bin .xor (.s 14) (.s 15)) [2, 3],
 i1 17 (.bin .and (.s 13) (.s 16)) [1, 4],
 i1 18 (.bin .xor (.s 12) (.s 17)) [0, 5],
 i1 8 (mv 18) [6, 0, 1, 2, 3, 4, 5, 6]])
 .ret)
 (.seq (rf [i0 20 (.bin .eql (.s 9) (ci 1)),
 i1 19 (mv 20) [0]])
 (.cond (.s 19)
 (.seq (rf [i0 21 (mv 1),
 i0 22 (mv 2),
 i1 23 (.bin .and (.s 21) (.s 22)) [0, 1],
 i0 24 (mv 3),
 i0 25 (mv 1),
 i0 26 (mv 2),
 i1 27 (.bin .or (.s 25) (.s 26)) [4, 5],
 i1 28 (.bin .and (.s 24) (.s 27)) [3, 6],
 i1 29 (.bin .or (.s 23) (.s 28)) [2, 7],
 i1 8 (mv 29) [8, 0, 1, 2, 3, 4, 5, 6, 7, 8]])
 .ret)
 .skip))))))
 (.seq (rf [i0 30 (mv 1),
 i0 31 (mv 2),
 i1 32 (.bin .xor (.s 30) (.s 31)) [0, 1],
 i0 33 (mv 3),
 i1 34 (.bin .xor (.s 32) (.s 33)) [2, 3],
 i1 8 (mv 34) [4, 0, 1, 2, 3, 4]])
 .ret))), false, (some [(Sh.int .i64), (Sh.int .u32), (Sh.int .u32), (Sh.int .u32)]), (some (Sh.int .u32)), false⟩

/-- math/bits.RotateLeft32 -/
def k195 : Fun := ⟨2, 17, [0, 1, 4, 5], [(.tmp 4)],
  (.seq (rf [i0 4 (.mv (.c (.int .u32 0)))])
 (.seq (rf [i0 6 (mv 1),
 i1 7 (.cvi .u64 (.s 6)) [0],
 i1 8 (.bin .and (.s 7) (.c (.int .u64 31))) [1],
 i1 5 (mv 8) [2, 0, 1, 2]])
 (.seq (rf [i0 9 (mv 0),
 i0 10 (mv 5),
 i1 11 (.bin .shl (.s 9) (.s 10)) [0, 1],
 i0 12 (mv 0),
 i0 13 (mv 5),
 i1 14 (.bin .sub (.c (.int .u64 32)) (.s 13)) [4],
 i1 15 (.bin .shr (.s 12) (.s 14)) [3, 5],
 i1 16 (.bin .or (.s 11) (.s 15)) [2, 6],
 i1 4 (mv 16) [7, 0, 1, 2, 3, 4, 5, 6, 7]])
 .ret))), false, (some [(Sh.int .u32), (Sh.int .i64)]), (some (Sh.int .u32)), false⟩

/-- euphroe/euphroeref04.place -/
def k196 : Fun := ⟨1, 22, [0, 2, 4, 5, 8], [(.tmp 2)],
  (.seq (rf [i0 2 (.mv (ci 0))])
 (.seq (.seq (rf [i0 3 (mv 0),
 i1 4 (.bin .quo (.s 3) (ci 16)) [0]])
 (.block 0
 (.seq (rf [i0 6 (.bin .eql (.s 4) (ci 0)),
 i1 5 (mv 6) [0]])
 (.cond (.s 5)
 (.seq (rf [i0 7 (mv 0),
 i1 2 (mv 7) [0, 0]])
 .ret)
 (.seq (rf [i0 9 (.bin .eql (.s 4) (ci 1)),
 i1 8 (mv 9) [0]])
 (.cond (.s 8)
 (.seq (rf [i0 10 (mv 0),
 i1 11 (.bin .rem (.s 10) (ci 4)) [0],
 i1 12 (.bin .mul (.s 11) (ci 4)) [1],
 i0 13 (mv 0),
 i1 14 (.bin .quo (.s 13) (ci 4)) [3],
 i1 15 (.bin .rem (.s 14) (ci 4)) [4],
 i1 16 (.bin .add (.s 12) (.s 15)) [2, 5],
 i1 2 (mv 16) [6, 0, 1, 2, 3, 4, 5, 6]])
 .ret)
 .skip))))))
 (.seq (rf [i0 17 (.bsl 16 1 (.ints .i64 [0, 0, 0, 0, 0, 0, 0, 0, 0, 0, 0, 0, 0, 0, 0, 0]) [(0, 1, (ci 0)), (1, 1, (ci 8)), (2, 1, (ci 4)), (3, 1, (ci 12)), (4, 1, (ci 2)), (5, 1, (ci 10)), (6, 1, (ci 6)), (7, 1, (ci 14)), (8, 1, (ci 1)), (9, 1, (ci 9)), (10, 1, (ci 5)), (11, 1, (ci 13)), (12, 1, (ci 3)), (13, 1, (ci 11)), (14, 1, (ci 7)), (15, 1, (ci 15))]),
 i0 18 (mv 0),
 i1 19 (.bin .sub (.s 18) (ci 32)) [1],
 i1 20 (.iad 1 (.s 17) (.s 19)) [0, 2],
 i1 21 (.ldc (.s 20)) [3],
 i1 2 (mv 21) [4, 0, 1, 2, 3, 4]])
 .ret))), false, (some [(Sh.int .i64)]), (some (Sh.int .i64)), false⟩

/-- euphroe/euphroeref04.turn -/
def k197 : Fun := ⟨2, 13, [0, 1, 4], [(.tmp 4)],
  (.seq (rf [i0 4 (.mv (.c (.int .u32 0)))])
 (.seq (rt [i0 5 (mv 0),
 i0 6 (mv 1),
 i1 7 (.bin .shl (.s 5) (.s 6)) [0, 1],
 i0 8 (mv 0),
 i0 9 (mv 1),
 i1 10 (.bin .sub (ci 32) (.s 9)) [4],
 i1 11 (.bin .shr (.s 8) (.s 10)) [3, 5],
 i1 12 (.bin .or (.s 7) (.s 11)) [2, 6],
 i1 4 (mv 12) [7, 0, 1, 2, 3, 4, 5, 6, 7]])
 .ret)), false, (some [(Sh.int .u32), (Sh.int .i64)]), (some (Sh.int .u32)), false⟩

/-- euphroe/euphroeref04.step -/
def k198 : Fun := ⟨4, 33, [0, 1, 2, 3, 8, 9, 10, 20], [(.tmp 8)],
  (.seq (rf [i0 8 (.mv (.c (.int .u32 0)))])
 (.seq (.seq (rf [i0 9 (mv 0)])
 (.block 0
 (.seq (rf [i0 11 (.bin .eql (.s 9) (ci 0)),
 i1 10 (mv 11) [0]])
 (.cond (.s 10)
 (.seq (rf [i0 12 (mv 1),
 i0 13 (mv 2),
 i1 14 (.bin .and (.s 12) (.s 13)) [0, 1],
 i0 15 (mv 1),
 i1 16 (.bin .sub (.c (.int .u32 4294967295)) (.s 15)) [3],
 i0 17 (mv 3),
 i1 18 (.bin .and (.s 16) (.s 17)) [4, 5],
 i1 19 (.bin .or (.s 14) (.s 18)) [2, 6],
 i1 8 (mv 19) [7, 0, 1, 2, 3, 4, 5, 6, 7]])
 .ret)
 (.seq (rf [i0 21 (.bin .eql (.s 9) (ci 1)),
 i1 20 (mv 21) [0]])
 (.cond (.s 20)
 (.seq (rf [i0 22 (mv 1),
 i0 23 (mv 2),
 i0 24 (mv 3),
 i1 25 (.call (.c (.fn 204 [])) [(.s 22), (.s 23), (.s 24)]) [0, 1, 2],
 i1 26 (.bin .add (.s 25) (.c (.int .u32 1518500249))) [3],
 i1 8 (mv 26) [4, 3, 0, 1, 2, 3, 4]])
 .ret)
 .skip))))))
 (.seq (rf [i0 27 (mv 1),
 i0 28 (mv 2),
 i1 29 (.bin .xor (.s 27) (.s 28)) [0, 1],
 i0 30 (mv 3),
 i1 31 (.bin .xor (.s 29) (.s 30)) [2, 3],
 i1 32 (.bin .add (.s 31) (.c (.int .u32 1859775393))) [4],
 i1 8 (mv 32) [5, 0, 1, 2, 3, 4, 5]])
 .ret))), false, (some [(Sh.int .i64), (Sh.int .u32), (Sh.int .u32), (Sh.int .u32)]), (some (Sh.int .u32)), false⟩

/-- euphroe/euphroeref04.two -/
def k204 : Fun := ⟨3, 18, [0, 1, 2, 6], [(.tmp 6)],
  (.seq (rf [i0 6 (.mv (.c (.int .u32 0)))])
 (.seq (rf [i0 7 (mv 0),
 i0 8 (mv 1),
 i1 9 (.bin .and (.s 7) (.s 8)) [0, 1],
 i0 10 (mv 0),
 i0 11 (mv 2),
 i1 12 (.bin .and (.s 10) (.s 11)) [3, 4],
 i1 13 (.bin .or (.s 9) (.s 12)) [2, 5],
 i0 14 (mv 1),
 i0 15 (mv 2),
 i1 16 (.bin .and (.s 14) (.s 15)) [7, 8],
 i1 17 (.bin .or (.s 13) (.s 16)) [6, 9],
 i1 6 (mv 17) [10, 0, 1, 2, 3, 4, 5, 6, 7, 8, 9, 10]])
 .ret)), false, (some [(Sh.int .u32), (Sh.int .u32), (Sh.int .u32)]), (some (Sh.int .u32)), false⟩

/-- euphroe/euphroelaw10.NthashOf -/
def k364 : Fun := ⟨2, 41, [0, 1, 3, 4, 5, 6, 7, 8, 11], [(.tmp 4)],
  (.seq (rf [i0 3 (.box (.s 1)),
 i0 4 (.mv (.c (.bool false)))])
 (.seq (.seq (rf [i0 9 (mv 0),
 i1 10 (.len true (.s 9)) [0],
 i1 11 (.bin .gtr (.s 10) (ci 600)) [1]])
 (.cond (.s 11)
 (.seq (rf [i0 12 (.call (.c (.fn 369 [])) []),
 i1 4 (mv 12) [0, 0, 0]])
 .ret)
 .skip))
 (.seq (rf [i0 14 (mv 0),
 i1 15 (.call (.c (.fn 370 [])) [(.s 14)]) [0],
 i1 13 (mv 15) [1],
 i1 16 (.ext (.s 13) 0) [2],
 i1 17 (.ext (.s 13) 1) [2],
 i0 5 (.new (.ints .u8 [0, 0, 0, 0, 0, 0, 0, 0, 0, 0, 0, 0, 0, 0, 0, 0])),
 ⟨none, (.stc 16 (.s 5) (.s 16)), none, [5, 3, 1, 0, 1, 2, 3, 5]⟩,
 i1 6 (mv 17) [4, 6, 0, 1, 2, 3, 4, 5, 6]])
 (.seq (rf [i0 19 (mv 0),
 i1 20 (.call (.c (.fn 371 [])) [(.s 19)]) [0],
 i1 18 (mv 20) [1],
 i1 21 (.ext (.s 18) 0) [2],
 i1 22 (.ext (.s 18) 1) [2],
 i0 7 (.new (.ints .u8 [0, 0, 0, 0, 0, 0, 0, 0, 0, 0, 0, 0, 0, 0, 0, 0])),
 ⟨none, (.stc 16 (.s 7) (.s 21)), none, [5, 3, 1, 0, 1, 2, 3, 5]⟩,
 i1 8 (mv 22) [4, 6, 0, 1, 2, 3, 4, 5, 6]])
 (.seq (rt [i0 23 (.lda 16 (some .u8) (.s 5)),
 i0 24 (.lda 16 (some .u8) (.s 7)),
 i1 25 (.eqa 16 false (.s 23) (.s 24)) [0, 1],
 i1 26 (mv 25) [2],
 ⟨(some 27), (mv 6), (some (26, true)), [3]⟩,
 ⟨(some 28), (mv 8), (some (26, true)), [3]⟩,
 ⟨(some 29), (.bin .eql (.s 27) (.s 28)), (some (26, true)), [4, 5, 3]⟩,
 i1 30 (.pick (.s 26) (.s 29) (.c (.bool false))) [3, 6],
 i1 31 (mv 30) [7, 3],
 ⟨(some 32), (.lda 16 (some .u8) (.s 3)), (some (31, true)), [8]⟩,
 ⟨(some 33), (.call (.c (.fn 372 [])) [(.s 32)]), (some (31, true)), [9, 8, 8]⟩,
 ⟨(some 34), (.lda 16 (some .u8) (.s 3)), (some (31, true)), [8]⟩,
 ⟨(some 35), (.call (.c (.fn 373 [])) [(.s 34)]), (some (31, true)), [11, 10, 8]⟩,
 ⟨(some 36), (.eqa 16 false (.s 33) (.s 35)), (some (31, true)), [10, 12, 8]⟩,
 i1 37 (.pick (.s 31) (.s 36) (.c (.bool false))) [8, 13],
 i1 38 (mv 37) [14, 12],
 ⟨(some 39), (.call (.c (.fn 369 [])) []), (some (38, true)), [15, 15]⟩,
 i1 40 (.pick (.s 38) (.s 39) (.c (.bool false))) [15, 16],
 i1 4 (mv 40) [17, 16, 0, 1, 2, 3, 4, 5, 6, 7, 8, 9, 10, 11, 12, 13, 14, 15, 16, 17]])
 .ret))))), false, (some [Sh.str, (Sh.ar .u8)]), (some Sh.bool), false⟩

/-- euphroe/euphroelaw10.alive -/
def k369 : Fun := ⟨0, 30, [0, 1, 2], [(.tmp 0)],
  (.seq (rf [i0 0 (.mv (.c (.bool false)))])
 (.seq (rf [i0 4 (.call (.c (.fn 370 [])) [(.c (.str [99, 108, 105, 101, 110, 116, 80, 97, 115, 115]))]),
 i1 3 (mv 4) [0],
 i1 5 (.ext (.s 3) 0) [1],
 i1 6 (.ext (.s 3) 1) [1],
 i0 1 (.new (.ints .u8 [0, 0, 0, 0, 0, 0, 0, 0, 0, 0, 0, 0, 0, 0, 0, 0])),
 ⟨none, (.stc 16 (.s 1) (.s 5)), none, [4, 2, 0, 0, 1, 2, 4]⟩,
 i1 2 (mv 6) [3, 5, 0, 1, 2, 3, 4, 5]])
 (.seq (rf [i0 7 (.iaa 16 1 (.s 1) (ci 0)),
 i1 8 (.ldc (.s 7)) [0],
 i1 9 (.bin .eql (.s 8) (.c (.int .u8 68))) [1],
 i1 10 (mv 9) [2],
 ⟨(some 11), (.iaa 16 1 (.s 1) (ci 1)), (some (10, true)), [3]⟩,
 ⟨(some 12), (.ldc (.s 11)), (some (10, true)), [4, 3]⟩,
 ⟨(some 13), (.bin .eql (.s 12) (.c (.int .u8 235))), (some (10, true)), [5, 3]⟩,
 i1 14 (.pick (.s 10) (.s 13) (.c (.bool false))) [3, 6],
 i1 15 (mv 14) [7, 3],
 ⟨(some 16), (.iaa 16 1 (.s 1) (ci 15)), (some (15, true)), [8]⟩,
 ⟨(some 17), (.ldc (.s 16)), (some (15, true)), [9, 8]⟩,
 ⟨(some 18), (.bin .eql (.s 17) (.c (.int .u8 174))), (some (15, true)), [10, 8]⟩,
 i1 19 (.pick (.s 15) (.s 18) (.c (.bool false))) [8, 11],
 i1 20 (mv 19) [12, 8],
 ⟨(some 21), (mv 2), (some (20, true)), [13]⟩,
 ⟨(some 22), (.bin .eql (.s 21) (ci 0)), (some (20, true)), [14, 13]⟩,
 i1 23 (.pick (.s 20) (.s 22) (.c (.bool false))) [13, 15],
 i1 24 (mv 23) [16, 13],
 ⟨(some 25), (.lda 16 (some .u8) (.s 1)), (some (24, true)), [17]⟩,
 ⟨(some 26), (.call (.c (.fn 372 [])) [(.s 25)]), (some (24, true)), [18, 17, 17]⟩,
 ⟨(some 27), (.ixa 16 1 false (some .u8) (.s 26) (ci 0)), (some (24, true)), [19, 17]⟩,
 ⟨(some 28), (.bin .eql (.s 27) (.c (.int .u8 65))), (some (24, true)), [20, 17]⟩,
 i1 29 (.pick (.s 24) (.s 28) (.c (.bool false))) [17, 21],
 i1 0 (mv 29) [22, 19, 0, 1, 2, 3, 4, 5, 6, 7, 8, 9, 10, 11, 12, 13, 14, 15, 16, 17, 18, 19, 20, 21, 22]])
 .ret))), false, (some []), (some Sh.bool), false⟩

/-- euphroe/nthash.Of -/
def k370 : Fun := ⟨1, 18, [0, 2, 3, 4, 5, 12], [(.cell 2 16 true (some .u8)), (.tmp 3)],
  (.seq (rf [i0 2 (.new (.ints .u8 [0, 0, 0, 0, 0, 0, 0, 0, 0, 0, 0, 0, 0, 0, 0, 0])),
 i0 3 (.mv (ci 0))])
 (.seq (rf [i0 7 (mv 0),
 i1 8 (.call (.c (.fn 387 [])) [(.s 7)]) [0],
 i1 6 (mv 8) [1],
 i1 9 (.ext (.s 6) 0) [2],
 i1 10 (.ext (.s 6) 1) [2],
 i1 4 (mv 9) [3, 1, 0, 1, 2, 3],
 i1 5 (mv 10) [4, 5, 0, 1, 2, 3, 4, 5]])
 (.seq (.seq (rf [i0 11 (mv 5),
 i1 12 (.bin .neq (.s 11) (ci 0)) [0]])
 (.cond (.s 12)
 (.seq (rf [i0 13 (.build (.ints .u8 [0, 0, 0, 0, 0, 0, 0, 0, 0, 0, 0, 0, 0, 0, 0, 0]) []),
 i0 14 (mv 5),
 ⟨none, (.stc 16 (.s 2) (.s 13)), none, [0, 0]⟩,
 i1 3 (mv 14) [1, 2, 0, 1, 2]])
 .ret)
 .skip))
 (.seq (rf [i0 15 (mv 4),
 i1 16 (.bsl 1 1 (.vals [.nils]) [(0, 1, (.s 15))]) [0],
 i1 17 (.call (.c (.fn 181 [])) [(.s 16)]) [1],
 ⟨none, (.stc 16 (.s 2) (.s 17)), none, [2, 2, 0, 1, 2]⟩,
 i1 3 (.mv (ci 0)) [3, 0, 1, 2, 3]])
 .ret)))), false, (some [Sh.str]), (some (Sh.tu (Sh.pr (Sh.ar .u8) (Sh.int .i64)))), false⟩

/-- euphroe/euphroeref10.Of -/
def k371 : Fun := ⟨1, 17, [0, 2, 3, 4, 5, 12], [(.cell 2 16 true (some .u8)), (.tmp 3)],
  (.seq (rf [i0 2 (.new (.ints .u8 [0, 0, 0, 0, 0, 0, 0, 0, 0, 0, 0, 0, 0, 0, 0, 0])),
 i0 3 (.mv (ci 0))])
 (.seq (rf [i0 7 (mv 0),
 i1 8 (.call (.c (.fn 388 [])) [(.s 7)]) [0],
 i1 6 (mv 8) [1],
 i1 9 (.ext (.s 6) 0) [2],
 i1 10 (.ext (.s 6) 1) [2],
 i1 4 (mv 9) [3, 1, 0, 1, 2, 3],
 i1 5 (mv 10) [4, 5, 0, 1, 2, 3, 4, 5]])
 (.seq (.seq (rf [i0 11 (mv 5),
 i1 12 (.bin .neq (.s 11) (ci 0)) [0]])
 (.cond (.s 12)
 (.seq (rf [i0 13 (.build (.ints .u8 [0, 0, 0, 0, 0, 0, 0, 0, 0, 0, 0, 0, 0, 0, 0, 0]) []),
 i0 14 (mv 5),
 ⟨none, (.stc 16 (.s 2) (.s 13)), none, [0, 0]⟩,
 i1 3 (mv 14) [1, 2, 0, 1, 2]])
 .ret)
 .skip))
 (.seq (rf [i0 15 (mv 4),
 i1 16 (.call (.c (.fn 182 [])) [(.s 15)]) [0],
 ⟨none, (.stc 16 (.s 2) (.s 16)), none, [1, 1, 0, 1]⟩,
 i1 3 (.mv (ci 0)) [2, 0, 1, 2]])
 .ret)))), false, (some [Sh.str]), (some (Sh.tu (Sh.pr (Sh.ar .u8) (Sh.int .i64)))), false⟩

/-- euphroe/nthash.Twice -/
def k372 : Fun := ⟨1, 6, [0, 1, 2], [(.cell 2 16 true (some .u8))],
  (.seq (rf [i0 1 (.box (.s 0)),
 i0 2 (.new (.ints .u8 [0, 0, 0, 0, 0, 0, 0, 0, 0, 0, 0, 0, 0, 0, 0, 0]))])
 (.seq (rf [i0 3 (.sla 16 1 (.s 1) none none none),
 i1 4 (.bsl 1 1 (.vals [.nils]) [(0, 1, (.s 3))]) [0],
 i1 5 (.call (.c (.fn 181 [])) [(.s 4)]) [1],
 ⟨none, (.stc 16 (.s 2) (.s 5)), none, [2, 2, 0, 1, 2]⟩])
 .ret)), false, (some [(Sh.ar .u8)]), (some (Sh.ar .u8)), false⟩

/-- euphroe/euphroeref10.Twice -/
def k373 : Fun := ⟨1, 5, [0, 1, 2], [(.cell 2 16 true (some .u8))],
  (.seq (rf [i0 1 (.box (.s 0)),
 i0 2 (.new (.ints .u8 [0, 0, 0, 0, 0, 0, 0, 0, 0, 0, 0, 0, 0, 0, 0, 0]))])
 (.seq (rf [i0 3 (.sla 16 1 (.s 1) none none none),
 i1 4 (.call (.c (.fn 182 [])) [(.s 3)]) [0],
 ⟨none, (.stc 16 (.s 2) (.s 4)), none, [1, 1, 0, 1]⟩])
 .ret)), false, (some [(Sh.ar .u8)]), (some (Sh.ar .u8)), false⟩

/-- euphroe/utf16.Lay -/
def k387 : Fun := ⟨1, 33, [0, 2, 3, 4, 5, 7, 8, 13, 16, 17, 18, 19], [(.tmp 2), (.tmp 3)],
  (.seq (rf [i0 2 (.mv (.c .nils)),
 i1 3 (.mv (ci 0)) [0]])
 (.seq (.seq (rf [i0 10 (mv 0),
 i1 11 (.call (.c (.fn 391 [])) [(.s 10)]) [0],
 i1 4 (mv 11) [1, 1, 0, 1]])
 (.seq (rf [i0 12 (mv 4),
 i1 13 (.bin .neq (.s 12) (ci 0)) [0]])
 (.cond (.s 13)
 (.seq (rf [i0 14 (mv 4),
 i0 2 (.mv (.c .nils)),
 i1 3 (mv 14) [0, 1, 0, 1]])
 .ret)
 .skip)))
 (.seq (rf [i0 5 (.mv (.c .nils))])
 (.seq (.seq (rf [i0 15 (mv 0),
 i1 16 (.call (.c (.fn 392 [])) [(.s 15)]) [0],
 i1 17 (.len false (.s 16)) [1],
 i0 18 (.mv (ci 0))])
 (.block 0
 (.loop ⟨0, [], false, [5, 16, 17, 18], [(5, (.ints .u8 []), 1)]⟩
 (.seq (rf [i0 19 (.bin .lss (.s 18) (.s 17))])
 (.seq (.cond (.s 19)
 .skip
 (.pre ⟨0, [], false, [5], []⟩ (.exit 0)))
 (.seq (.block 1
 (.seq (rf [i0 20 (.iad 1 (.s 16) (.s 18)),
 i1 21 (.ldc (.s 20)) [0],
 i1 7 (mv 21) [1, 0, 1]])
 (.seq (rf [i0 23 (mv 7),
 i1 24 (.cvi .u64 (.s 23)) [0],
 i1 25 (.call (.c (.fn 19 [])) [(.s 24), (ci 2), (.c (.bool true))]) [1],
 i1 22 (mv 25) [2],
 i1 26 (.ext (.s 22) 0) [3],
 i1 27 (.ext (.s 22) 1) [3],
 i1 8 (mv 26) [4, 2, 0, 1, 2, 3, 4],
 i1 9 (mv 27) [5, 6, 0, 1, 2, 3, 4, 5, 6]])
 (rf [i0 28 (mv 5),
 i0 29 (mv 8),
 i1 30 (.app 1 1 (.s 28) (.s 29)) [0, 1],
 i1 5 (mv 30) [2, 2, 0, 1, 2]]))))
 (rf [i0 31 (.bin .add (.s 18) (ci 1)),
 i1 18 (mv 31) [0]])))))))
 (.seq (rf [i0 32 (mv 5),
 i1 2 (mv 32) [0, 0],
 i1 3 (.mv (ci 0)) [1, 0, 1]])
 .ret))))), false, (some [Sh.str]), (some (Sh.tu (Sh.pr (Sh.sl (Sh.int .u8)) (Sh.int .i64)))), false⟩

/-- euphroe/euphroeref09.Lay -/
def k388 : Fun := ⟨1, 37, [0, 2, 3, 4, 5, 6, 7, 11, 18], [(.tmp 2), (.tmp 3)],
  (.seq (rf [i0 2 (.mv (.c .nils)),
 i1 3 (.mv (ci 0)) [0]])
 (.seq (.seq (rf [i0 8 (mv 0),
 i1 9 (.call (.c (.fn 393 [])) [(.s 8)]) [0],
 i1 4 (mv 9) [1, 1, 0, 1]])
 (.seq (rf [i0 10 (mv 4),
 i1 11 (.bin .neq (.s 10) (ci 0)) [0]])
 (.cond (.s 11)
 (.seq (rf [i0 12 (mv 4),
 i0 2 (.mv (.c .nils)),
 i1 3 (mv 12) [0, 1, 0, 1]])
 .ret)
 .skip)))
 (.seq (rf [i0 5 (.mv (.c .nils))])
 (.seq (rf [i0 13 (mv 0),
 i1 14 (.call (.c (.fn 394 [])) [(.s 13)]) [0],
 i1 6 (mv 14) [1, 1, 0, 1]])
 (.seq (.seq (rf [i0 7 (.mv (ci 0))])
 (.block 0
 (.loop ⟨0, [], false, [5, 6, 7], [(5, (.ints .u8 []), 1)]⟩
 (.seq (.seq (rf [i0 15 (mv 7),
 i0 16 (mv 6),
 i1 17 (.len false (.s 16)) [1],
 i1 18 (.bin .lss (.s 15) (.s 17)) [0, 2]])
 (.cond (.s 18)
 .skip
 (.pre ⟨0, [], false, [5], []⟩ (.exit 0))))
 (.seq (.block 1
 (rt [i0 21 (mv 5),
 i0 22 (mv 6),
 i0 23 (mv 7),
 i1 24 (.iad 1 (.s 22) (.s 23)) [1, 2],
 i1 25 (.ldc (.s 24)) [3],
 i1 26 (.bin .rem (.s 25) (.c (.int .u16 256))) [4],
 i1 27 (.cvi .u8 (.s 26)) [5],
 i0 28 (mv 6),
 i0 29 (mv 7),
 i1 30 (.iad 1 (.s 28) (.s 29)) [7, 8],
 i1 31 (.ldc (.s 30)) [9],
 i1 32 (.bin .quo (.s 31) (.c (.int .u16 256))) [10],
 i1 33 (.cvi .u8 (.s 32)) [11],
 i1 34 (.bsl 2 1 (.ints .u8 [0, 0]) [(0, 1, (.s 27)), (1, 1, (.s 33))]) [6, 12],
 i1 35 (.app 1 1 (.s 21) (.s 34)) [0, 13],
 i1 5 (mv 35) [14, 14, 0, 1, 2, 3, 4, 5, 6, 7, 8, 9, 10, 11, 12, 13, 14]]))
 (rf [i0 19 (mv 7),
 i1 20 (.bin .add (.s 19) (ci 1)) [0],
 i1 7 (mv 20) [1, 0, 1]]))))))
 (.seq (rf [i0 36 (mv 5),
 i1 2 (mv 36) [0, 0],
 i1 3 (.mv (ci 0)) [1, 0, 1]])
 .ret)))))), false, (some [Sh.str]), (some (Sh.tu (Sh.pr (Sh.sl (Sh.int .u8)) (Sh.int .i64)))), false⟩

/-- euphroe/utf16.May -/
def k391 : Fun := ⟨1, 11, [0, 2, 3, 7], [(.tmp 2)],
  (.seq (rf [i0 2 (.mv (ci 0))])
 (.seq (.block 0
 (.seq (rf [i0 4 (mv 0),
 i1 5 (.call (.c (.fn 396 [])) [(.s 4)]) [0],
 i1 6 (.un .not (.s 5)) [1],
 i1 3 (mv 6) [2, 1]])
 (.cond (.s 3)
 (.seq (rf [i0 2 (.mv (ci 3))])
 .ret)
 (.seq (rf [i0 8 (mv 0),
 i1 9 (.call (.c (.fn 397 [])) [(.s 8)]) [0],
 i1 10 (.bin .gtr (.s 9) (ci 64)) [1],
 i1 7 (mv 10) [2, 1]])
 (.cond (.s 7)
 (.seq (rf [i0 2 (.mv (ci 8))])
 .ret)
 .skip)))))
 (.seq (rf [i0 2 (.mv (ci 0))])
 .ret))), false, (some [Sh.str]), (some (Sh.int .i64)), false⟩

/-- euphroe/utf16.Units -/
def k392 : Fun := ⟨1, 35, [0, 2, 3, 5, 8, 10, 11, 12, 15], [(.tmp 2)],
  (.seq (rf [i0 2 (.mv (.c .nils))])
 (.seq (.seq (rf [i0 6 (mv 0),
 i1 7 (.call (.c (.fn 391 [])) [(.s 6)]) [0],
 i1 8 (.bin .neq (.s 7) (ci 0)) [1]])
 (.cond (.s 8)
 (.seq (rf [i0 2 (.mv (.c .nils))])
 .ret)
 .skip))
 (.seq (rf [i0 3 (.mv (.c .nils))])
 (.seq (.seq (rf [i0 9 (mv 0),
 i1 10 (.rng (.s 9)) [0]])
 (.block 0
 (.loop ⟨0, [], false, [3, 10], [(3, (.ints .u16 []), 1)]⟩
 (.seq (rf [i0 11 (.nxt (.s 10)),
 i1 12 (.ext (.s 11) 0) [0]])
 (.seq (.cond (.s 12)
 .skip
 (.pre ⟨0, [], false, [3], []⟩ (.exit 0)))
 (.block 1
 (.seq (rf [i0 13 (.ext (.s 11) 2),
 i1 5 (mv 13) [0, 0]])
 (.seq (.seq (rf [i0 14 (mv 5),
 i1 15 (.bin .lss (.s 14) (.c (.int .i32 65536))) [0]])
 (.cond (.s 15)
 (.seq (rf [i0 16 (mv 3),
 i0 17 (mv 5),
 i1 18 (.cvi .u16 (.s 17)) [1],
 i1 19 (.bsl 1 1 (.ints .u16 [0]) [(0, 1, (.s 18))]) [2],
 i1 20 (.app 1 2 (.s 16) (.s 19)) [0, 3],
 i1 3 (mv 20) [4, 4, 0, 1, 2, 3, 4]])
 (.pre ⟨0, [], false, [3, 10], []⟩ (.exit 1)))
 .skip))
 (.seq (rf [i0 21 (mv 5),
 i1 22 (.bin .sub (.s 21) (.c (.int .i32 65536))) [0],
 i1 5 (mv 22) [1, 0, 1]])
 (rf [i0 23 (mv 3),
 i0 24 (mv 5),
 i1 25 (.bin .shr (.s 24) (.c (.int .u64 10))) [1],
 i1 26 (.bin .or (.c (.int .i32 55296)) (.s 25)) [2],
 i1 27 (.cvi .u16 (.s 26)) [3],
 i0 28 (mv 5),
 i1 29 (.bin .and (.s 28) (.c (.int .i32 1023))) [5],
 i1 30 (.bin .or (.c (.int .i32 56320)) (.s 29)) [6],
 i1 31 (.cvi .u16 (.s 30)) [7],
 i1 32 (.bsl 2 1 (.ints .u16 [0, 0]) [(0, 1, (.s 27)), (1, 1, (.s 31))]) [4, 8],
 i1 33 (.app 1 2 (.s 23) (.s 32)) [0, 9],
 i1 3 (mv 33) [10, 10, 0, 1, 2, 3, 4, 5, 6, 7, 8, 9, 10]]))))))))))
 (.seq (rf [i0 34 (mv 3),
 i1 2 (mv 34) [0, 0]])
 .ret))))), false, (some [Sh.str]), (some (Sh.sl (Sh.int .u16))), false⟩

/-- euphroe/euphroeref09.May -/
def k393 : Fun := ⟨1, 15, [0, 2, 3, 4, 11, 14], [(.tmp 2)],
  (.seq (rf [i0 2 (.mv (ci 0))])
 (.seq (rf [i0 6 (mv 0),
 i1 7 (.call (.c (.fn 398 [])) [(.s 6)]) [0],
 i1 5 (mv 7) [1],
 i1 8 (.ext (.s 5) 0) [2],
 i1 9 (.ext (.s 5) 1) [2],
 i1 3 (mv 8) [3, 1, 0, 1, 2, 3],
 i1 4 (mv 9) [4, 5, 0, 1, 2, 3, 4, 5]])
 (.seq (.seq (rf [i0 10 (mv 4),
 i1 11 (.un .not (.s 10)) [0]])
 (.cond (.s 11)
 (.seq (rf [i0 2 (.mv (ci 3))])
 .ret)
 .skip))
 (.seq (.seq (rf [i0 12 (mv 3),
 i1 13 (.len false (.s 12)) [0],
 i1 14 (.bin .gtr (.s 13) (ci 64)) [1]])
 (.cond (.s 14)
 (.seq (rf [i0 2 (.mv (ci 8))])
 .ret)
 .skip))
 (.seq (rf [i0 2 (.mv (ci 0))])
 .ret))))), false, (some [Sh.str]), (some (Sh.int .i64)), false⟩

/-- euphroe/euphroeref09.Units -/
def k394 : Fun := ⟨1, 52, [0, 2, 3, 5, 6, 7, 10, 19, 26], [(.tmp 2)],
  (.seq (rf [i0 2 (.mv (.c .nils))])
 (.seq (.seq (rf [i0 8 (mv 0),
 i1 9 (.call (.c (.fn 393 [])) [(.s 8)]) [0],
 i1 10 (.bin .neq (.s 9) (ci 0)) [1]])
 (.cond (.s 10)
 (.seq (rf [i0 2 (.mv (.c .nils))])
 .ret)
 .skip))
 (.seq (rf [i0 12 (mv 0),
 i1 13 (.call (.c (.fn 398 [])) [(.s 12)]) [0],
 i1 11 (mv 13) [1],
 i1 14 (.ext (.s 11) 0) [2],
 i1 15 (.ext (.s 11) 1) [2],
 i1 3 (mv 14) [3, 1, 0, 1, 2, 3],
 i1 4 (mv 15) [4, 5, 0, 1, 2, 3, 4, 5]])
 (.seq (rf [i0 5 (.mv (.c .nils))])
 (.seq (.seq (rf [i0 6 (.mv (ci 0))])
 (.block 0
 (.loop ⟨0, [], false, [3, 5, 6], [(5, (.ints .u16 []), 1)]⟩
 (.seq (.seq (rf [i0 16 (mv 6),
 i0 17 (mv 3),
 i1 18 (.len false (.s 17)) [1],
 i1 19 (.bin .lss (.s 16) (.s 18)) [0, 2]])
 (.cond (.s 19)
 .skip
 (.pre ⟨0, [], false, [5], []⟩ (.exit 0))))
 (.seq (.block 1
 (.seq (rf [i0 22 (mv 3),
 i0 23 (mv 6),
 i1 24 (.iad 1 (.s 22) (.s 23)) [0, 1],
 i1 25 (.ldc (.s 24)) [2],
 i1 26 (.bin .lss (.s 25) (ci 65536)) [3]])
 (.cond (.s 26)
 (rf [i0 27 (mv 5),
 i0 28 (mv 3),
 i0 29 (mv 6),
 i1 30 (.iad 1 (.s 28) (.s 29)) [1, 2],
 i1 31 (.ldc (.s 30)) [3],
 i1 32 (.cvi .u16 (.s 31)) [4],
 i1 33 (.bsl 1 1 (.ints .u16 [0]) [(0, 1, (.s 32))]) [5],
 i1 34 (.app 1 2 (.s 27) (.s 33)) [0, 6],
 i1 5 (mv 34) [7, 7, 0, 1, 2, 3, 4, 5, 6, 7]])
 (.seq (rf [i0 35 (mv 3),
 i0 36 (mv 6),
 i1 37 (.iad 1 (.s 35) (.s 36)) [0, 1],
 i1 38 (.ldc (.s 37)) [2],
 i1 39 (.bin .sub (.s 38) (ci 65536)) [3],
 i1 7 (mv 39) [4, 0, 1, 2, 3, 4]])
 (rf [i0 40 (mv 5),
 i0 41 (mv 7),
 i1 42 (.bin .quo (.s 41) (ci 1024)) [1],
 i1 43 (.bin .add (ci 55296) (.s 42)) [2],
 i1 44 (.cvi .u16 (.s 43)) [3],
 i0 45 (mv 7),
 i1 46 (.bin .rem (.s 45) (ci 1024)) [5],
 i1 47 (.bin .add (ci 56320) (.s 46)) [6],
 i1 48 (.cvi .u16 (.s 47)) [7],
 i1 49 (.bsl 2 1 (.ints .u16 [0, 0]) [(0, 1, (.s 44)), (1, 1, (.s 48))]) [4, 8],
 i1 50 (.app 1 2 (.s 40) (.s 49)) [0, 9],
 i1 5 (mv 50) [10, 10, 0, 1, 2, 3, 4, 5, 6, 7, 8, 9, 10]])))))
 (rf [i0 20 (mv 6),
 i1 21 (.bin .add (.s 20) (ci 1)) [0],
 i1 6 (mv 21) [1, 0, 1]]))))))
 (.seq (rf [i0 51 (mv 5),
 i1 2 (mv 51) [0, 0]])
 .ret)))))), false, (some [Sh.str]), (some (Sh.sl (Sh.int .u16))), false⟩

/-- unicode/utf8.ValidString -/
def k396 : Fun := ⟨1, 169, [0, 2, 3, 4, 5, 6, 9, 13, 24, 39, 62, 75, 76, 94, 97, 125, 128, 166], [(.tmp 2)],
  (.seq (rf [i0 2 (.mv (.c (.bool false)))])
 (.seq (.block 0
 (.loop ⟨0, [], false, [0], []⟩
 (.seq (.seq (rf [i0 7 (mv 0),
 i1 8 (.len true (.s 7)) [0],
 i1 9 (.bin .gtr (.s 8) (ci 0)) [1]])
 (.cond (.s 9)
 .skip
 (.pre ⟨0, [], false, [], []⟩ (.exit 0))))
 (.block 1
 (.seq (rf [i0 10 (mv 0),
 i1 11 (.ixs (.s 10) (ci 0)) [0],
 i1 3 (mv 11) [1, 0, 1]])
 (.seq (.seq (rf [i0 12 (mv 3),
 i1 13 (.bin .lss (.s 12) (.c (.int .u8 128))) [0]])
 (.cond (.s 13)
 (.seq (rf [i0 14 (mv 0),
 i1 15 (.ssl (.s 14) (some (ci 1)) none) [0],
 i1 0 (mv 15) [1, 0, 1]])
 (.seq (.seq (rf [i0 16 (mv 0),
 i1 17 (.len true (.s 16)) [0],
 i1 18 (.bin .gtr (.s 17) (ci 8)) [1],
 i1 19 (mv 18) [2],
 ⟨(some 20), (mv 0), (some (19, true)), [3]⟩,
 ⟨(some 21), (.call (.c (.fn 401 [])) [(.s 20)]), (some (19, true)), [4, 3, 3]⟩,
 ⟨(some 22), (.bin .and (.s 21) (.c (.int .u64 9259542123273814144))), (some (19, true)), [5, 3]⟩,
 ⟨(some 23), (.bin .eql (.s 22) (.c (.int .u64 0))), (some (19, true)), [6, 3]⟩,
 i1 24 (.pick (.s 19) (.s 23) (.c (.bool false))) [3, 7]])
 (.cond (.s 24)
 (.seq (rf [i0 25 (mv 0),
 i1 26 (.ssl (.s 25) (some (ci 8)) none) [0],
 i1 0 (mv 26) [1, 0, 1]])
 (.seq (rt [i0 27 (mv 0),
 i1 28 (.len true (.s 27)) [0],
 i1 29 (.bin .gtr (.s 28) (ci 16)) [1],
 i1 30 (mv 29) [2],
 ⟨(some 31), (mv 0), (some (30, true)), [3]⟩,
 ⟨(some 32), (.call (.c (.fn 401 [])) [(.s 31)]), (some (30, true)), [4, 3, 3]⟩,
 ⟨(some 33), (mv 0), (some (30, true)), [3]⟩,
 ⟨(some 34), (.ssl (.s 33) (some (ci 8)) none), (some (30, true)), [6, 3]⟩,
 ⟨(some 35), (.call (.c (.fn 401 [])) [(.s 34)]), (some (30, true)), [7, 5, 3]⟩,
 ⟨(some 36), (.bin .or (.s 32) (.s 35)), (some (30, true)), [5, 8, 3]⟩,
 ⟨(some 37), (.bin .and (.s 36) (.c (.int .u64 9259542123273814144))), (some (30, true)), [9, 3]⟩,
 ⟨(some 38), (.bin .eql (.s 37) (.c (.int .u64 0))), (some (30, true)), [10, 3]⟩,
 i1 39 (.pick (.s 30) (.s 38) (.c (.bool false))) [3, 11]])
 (.cond (.s 39)
 (.seq (rf [i0 40 (mv 0),
 i1 41 (.ssl (.s 40) (some (ci 16)) none) [0],
 i1 0 (mv 41) [1, 0, 1]])
 (.block 2
 (.loop ⟨1, [], false, [0], []⟩
 (.seq (.seq (rt [i0 42 (mv 0),
 i1 43 (.len true (.s 42)) [0],
 i1 44 (.bin .gtr (.s 43) (ci 32)) [1],
 i1 45 (mv 44) [2],
 ⟨(some 46), (mv 0), (some (45, true)), [3]⟩,
 ⟨(some 47), (.call (.c (.fn 401 [])) [(.s 46)]), (some (45, true)), [4, 3, 3]⟩,
 ⟨(some 48), (mv 0), (some (45, true)), [3]⟩,
 ⟨(some 49), (.ssl (.s 48) (some (ci 8)) none), (some (45, true)), [6, 3]⟩,
 ⟨(some 50), (.call (.c (.fn 401 [])) [(.s 49)]), (some (45, true)), [7, 5, 3]⟩,
 ⟨(some 51), (.bin .or (.s 47) (.s 50)), (some (45, true)), [5, 8, 3]⟩,
 ⟨(some 52), (mv 0), (some (45, true)), [3]⟩,
 ⟨(some 53), (.ssl (.s 52) (some (ci 16)) none), (some (45, true)), [10, 3]⟩,
 ⟨(some 54), (.call (.c (.fn 401 [])) [(.s 53)]), (some (45, true)), [11, 8, 3]⟩,
 ⟨(some 55), (mv 0), (some (45, true)), [3]⟩,
 ⟨(some 56), (.ssl (.s 55) (some (ci 24)) none), (some (45, true)), [13, 3]⟩,
 ⟨(some 57), (.call (.c (.fn 401 [])) [(.s 56)]), (some (45, true)), [14, 12, 3]⟩,
 ⟨(some 58), (.bin .or (.s 54) (.s 57)), (some (45, true)), [12, 15, 3]⟩,
 ⟨(some 59), (.bin .or (.s 51) (.s 58)), (some (45, true)), [9, 16, 3]⟩,
 ⟨(some 60), (.bin .and (.s 59) (.c (.int .u64 9259542123273814144))), (some (45, true)), [17, 3]⟩,
 ⟨(some 61), (.bin .eql (.s 60) (.c (.int .u64 0))), (some (45, true)), [18, 3]⟩,
 i1 62 (.pick (.s 45) (.s 61) (.c (.bool false))) [3, 19]])
 (.cond (.s 62)
 .skip
 (.pre ⟨0, [], false, [0], []⟩ (.exit 2))))
 (.block 3
 (rf [i0 63 (mv 0),
 i1 64 (.ssl (.s 63) (some (ci 32)) none) [0],
 i1 0 (mv 64) [1, 0, 1]]))))))
 .skip)))
 .skip))
 (.pre ⟨0, [], false, [0], []⟩ (.exit 1))))
 .skip))
 (.seq (rf [i0 65 (mv 3),
 i1 66 (.iaa 256 1 (.c (.rptr (.ints .u8 vt0))) (.s 65)) [0],
 i1 67 (.ldc (.s 66)) [1],
 i1 4 (mv 67) [2, 0, 1, 2]])
 (.seq (rf [i0 68 (mv 4),
 i1 69 (.bin .and (.s 68) (.c (.int .u8 7))) [0],
 i1 70 (.cvi .i64 (.s 69)) [1],
 i1 5 (mv 70) [2, 0, 1, 2]])
 (.seq (rf [i0 71 (mv 4),
 i1 72 (.bin .shr (.s 71) (.c (.int .u64 4))) [0],
 i1 73 (.iaa 16 2 (.c (.rptr (.ints .u8 vt1))) (.s 72)) [1],
 i1 74 (.lda 2 (some .u8) (.s 73)) [2],
 i0 6 (.new (.ints .u8 [0, 0])),
 ⟨none, (.stc 2 (.s 6) (.s 74)), none, [4, 3, 0, 1, 2, 3, 4]⟩])
 (.seq (rf [i0 75 (mv 5)])
 (.block 4
 (.seq (rf [i0 77 (.bin .eql (.s 75) (ci 2)),
 i1 76 (mv 77) [0]])
 (.cond (.s 76)
 (.seq (.seq (rt [i0 78 (mv 0),
 i1 79 (.len true (.s 78)) [0],
 i1 80 (.bin .lss (.s 79) (ci 2)) [1],
 i1 81 (mv 80) [2],
 ⟨(some 82), (mv 0), (some (81, false)), [3]⟩,
 ⟨(some 83), (.ixs (.s 82) (ci 1)), (some (81, false)), [4, 3]⟩,
 ⟨(some 84), (.fad 0 (.s 6)), (some (81, false)), [3]⟩,
 ⟨(some 85), (.ldc (.s 84)), (some (81, false)), [6, 3]⟩,
 ⟨(some 86), (.bin .lss (.s 83) (.s 85)), (some (81, false)), [5, 7, 3]⟩,
 i1 87 (.pick (.s 81) (.c (.bool true)) (.s 86)) [3, 8],
 i1 88 (mv 87) [9, 3],
 ⟨(some 89), (.fad 1 (.s 6)), (some (88, false)), [10]⟩,
 ⟨(some 90), (.ldc (.s 89)), (some (88, false)), [11, 10]⟩,
 ⟨(some 91), (mv 0), (some (88, false)), [10]⟩,
 ⟨(some 92), (.ixs (.s 91) (ci 1)), (some (88, false)), [13, 10]⟩,
 ⟨(some 93), (.bin .lss (.s 90) (.s 92)), (some (88, false)), [12, 14, 10]⟩,
 i1 94 (.pick (.s 88) (.c (.bool true)) (.s 93)) [10, 15]])
 (.cond (.s 94)
 (.seq (rf [i0 2 (.mv (.c (.bool false)))])
 .ret)
 .skip))
 (rf [i0 95 (mv 0),
 i1 96 (.ssl (.s 95) (some (ci 2)) none) [0],
 i1 0 (mv 96) [1, 0, 1]]))
 (.seq (rf [i0 98 (.bin .eql (.s 75) (ci 3)),
 i1 97 (mv 98) [0]])
 (.cond (.s 97)
 (.seq (.seq (rt [i0 99 (mv 0),
 i1 100 (.len true (.s 99)) [0],
 i1 101 (.bin .lss (.s 100) (ci 3)) [1],
 i1 102 (mv 101) [2],
 ⟨(some 103), (mv 0), (some (102, false)), [3]⟩,
 ⟨(some 104), (.ixs (.s 103) (ci 1)), (some (102, false)), [4, 3]⟩,
 ⟨(some 105), (.fad 0 (.s 6)), (some (102, false)), [3]⟩,
 ⟨(some 106), (.ldc (.s 105)), (some (102, false)), [6, 3]⟩,
 ⟨(some 107), (.bin .lss (.s 104) (.s 106)), (some (102, false)), [5, 7, 3]⟩,
 i1 108 (.pick (.s 102) (.c (.bool true)) (.s 107)) [3, 8],
 i1 109 (mv 108) [9, 3],
 ⟨(some 110), (.fad 1 (.s 6)), (some (109, false)), [10]⟩,
 ⟨(some 111), (.ldc (.s 110)), (some (109, false)), [11, 10]⟩,
 ⟨(some 112), (mv 0), (some (109, false)), [10]⟩,
 ⟨(some 113), (.ixs (.s 112) (ci 1)), (some (109, false)), [13, 10]⟩,
 ⟨(some 114), (.bin .lss (.s 111) (.s 113)), (some (109, false)), [12, 14, 10]⟩,
 i1 115 (.pick (.s 109) (.c (.bool true)) (.s 114)) [10, 15],
 i1 116 (mv 115) [16, 10],
 ⟨(some 117), (mv 0), (some (116, false)), [17]⟩,
 ⟨(some 118), (.ixs (.s 117) (ci 2)), (some (116, false)), [18, 17]⟩,
 ⟨(some 119), (.bin .lss (.s 118) (.c (.int .u8 128))), (some (116, false)), [19, 17]⟩,
 i1 120 (.pick (.s 116) (.c (.bool true)) (.s 119)) [17, 20],
 i1 121 (mv 120) [21, 17],
 ⟨(some 122), (mv 0), (some (121, false)), [22]⟩,
 ⟨(some 123), (.ixs (.s 122) (ci 2)), (some (121, false)), [23, 22]⟩,
 ⟨(some 124), (.bin .lss (.c (.int .u8 191)) (.s 123)), (some (121, false)), [24, 22]⟩,
 i1 125 (.pick (.s 121) (.c (.bool true)) (.s 124)) [22, 25]])
 (.cond (.s 125)
 (.seq (rf [i0 2 (.mv (.c (.bool false)))])
 .ret)
 .skip))
 (rf [i0 126 (mv 0),
 i1 127 (.ssl (.s 126) (some (ci 3)) none) [0],
 i1 0 (mv 127) [1, 0, 1]]))
 (.seq (rf [i0 129 (.bin .eql (.s 75) (ci 4)),
 i1 128 (mv 129) [0]])
 (.cond (.s 128)
 (.seq (.seq (rt [i0 130 (mv 0),
 i1 131 (.len true (.s 130)) [0],
 i1 132 (.bin .lss (.s 131) (ci 4)) [1],
 i1 133 (mv 132) [2],
 ⟨(some 134), (mv 0), (some (133, false)), [3]⟩,
 ⟨(some 135), (.ixs (.s 134) (ci 1)), (some (133, false)), [4, 3]⟩,
 ⟨(some 136), (.fad 0 (.s 6)), (some (133, false)), [3]⟩,
 ⟨(some 137), (.ldc (.s 136)), (some (133, false)), [6, 3]⟩,
 ⟨(some 138), (.bin .lss (.s 135) (.s 137)), (some (133, false)), [5, 7, 3]⟩,
 i1 139 (.pick (.s 133) (.c (.bool true)) (.s 138)) [3, 8],
 i1 140 (mv 139) [9, 3],
 ⟨(some 141), (.fad 1 (.s 6)), (some (140, false)), [10]⟩,
 ⟨(some 142), (.ldc (.s 141)), (some (140, false)), [11, 10]⟩,
 ⟨(some 143), (mv 0), (some (140, false)), [10]⟩,
 ⟨(some 144), (.ixs (.s 143) (ci 1)), (some (140, false)), [13, 10]⟩,
 ⟨(some 145), (.bin .lss (.s 142) (.s 144)), (some (140, false)), [12, 14, 10]⟩,
 i1 146 (.pick (.s 140) (.c (.bool true)) (.s 145)) [10, 15],
 i1 147 (mv 146) [16, 10],
 ⟨(some 148), (mv 0), (some (147, false)), [17]⟩,
 ⟨(some 149), (.ixs (.s 148) (ci 2)), (some (147, false)), [18, 17]⟩,
 ⟨(some 150), (.bin .lss (.s 149) (.c (.int .u8 128))), (some (147, false)), [19, 17]⟩,
 i1 151 (.pick (.s 147) (.c (.bool true)) (.s 150)) [17, 20],
 i1 152 (mv 151) [21, 17],
 ⟨(some 153), (mv 0), (some (152, false)), [22]⟩,
 ⟨(some 154), (.ixs (.s 153) (ci 2)), (some (152, false)), [23, 22]⟩,
 ⟨(some 155), (.bin .lss (.c (.int .u8 191)) (.s 154)), (some (152, false)), [24, 22]⟩,
 i1 156 (.pick (.s 152) (.c (.bool true)) (.s 155)) [22, 25],
 i1 157 (mv 156) [26, 22],
 ⟨(some 158), (mv 0), (some (157, false)), [27]⟩,
 ⟨(some 159), (.ixs (.s 158) (ci 3)), (some (157, false)), [28, 27]⟩,
 ⟨(some 160), (.bin .lss (.s 159) (.c (.int .u8 128))), (some (157, false)), [29, 27]⟩,
 i1 161 (.pick (.s 157) (.c (.bool true)) (.s 160)) [27, 30],
 i1 162 (mv 161) [31, 27],
 ⟨(some 163), (mv 0), (some (162, false)), [32]⟩,
 ⟨(some 164), (.ixs (.s 163) (ci 3)), (some (162, false)), [33, 32]⟩,
 ⟨(some 165), (.bin .lss (.c (.int .u8 191)) (.s 164)), (some (162, false)), [34, 32]⟩,
 i1 166 (.pick (.s 162) (.c (.bool true)) (.s 165)) [32, 35]])
 (.cond (.s 166)
 (.seq (rf [i0 2 (.mv (.c (.bool false)))])
 .ret)
 .skip))
 (rf [i0 167 (mv 0),
 i1 168 (.ssl (.s 167) (some (ci 4)) none) [0],
 i1 0 (mv 168) [1, 0, 1]]))
 (.seq (rf [i0 2 (.mv (.c (.bool false)))])
 .ret))))))))))))))))))
 (.seq (rf [i0 2 (.mv (.c (.bool true)))])
 .ret))), false, (some [Sh.str]), (some Sh.bool), false⟩

/-- unicode/utf8.RuneCountInString -/
def k397 : Fun := ⟨1, 10, [0, 2, 4, 6], [(.tmp 2)],
  (.seq (rf [i0 2 (.mv (ci 0))])
 (.seq (.seq (rf [i0 3 (mv 0),
 i1 4 (.rng (.s 3)) [0]])
 (.block 0
 (.loop ⟨0, [], false, [2, 4], []⟩
 (.seq (rf [i0 5 (.nxt (.s 4)),
 i1 6 (.ext (.s 5) 0) [0]])
 (.seq (.cond (.s 6)
 .skip
 (.pre ⟨0, [], false, [2], []⟩ (.exit 0)))
 (.block 1
 (rf [i0 7 (mv 2),
 i1 8 (.bin .add (.s 7) (ci 1)) [0],
 i1 2 (mv 8) [1, 0, 1]])))))))
 (.seq (rf [i0 9 (mv 2),
 i1 2 (mv 9) [0, 0]])
 .ret))), false, (some [Sh.str]), (some (Sh.int .i64)), false⟩

/-- euphroe/euphroeref09.Signs -/
def k398 : Fun := ⟨1, 28, [0, 2, 3, 4, 5, 6, 7, 11, 19], [(.tmp 2), (.tmp 3)],
  (.seq (rf [i0 2 (.mv (.c .nils)),
 i1 3 (.mv (.c (.bool false))) [0]])
 (.seq (rf [i0 4 (.mv (.c .nils))])
 (.seq (.seq (rf [i0 5 (.mv (ci 0))])
 (.block 0
 (.loop ⟨0, [], false, [0, 4, 5], [(4, (.ints .i64 []), 1)]⟩
 (.seq (.seq (rf [i0 8 (mv 5),
 i0 9 (mv 0),
 i1 10 (.len true (.s 9)) [1],
 i1 11 (.bin .lss (.s 8) (.s 10)) [0, 2]])
 (.cond (.s 11)
 .skip
 (.pre ⟨0, [], false, [4], []⟩ (.exit 0))))
 (.block 1
 (.seq (rf [i0 13 (mv 0),
 i0 14 (mv 5),
 i1 15 (.call (.c (.fn 402 [])) [(.s 13), (.s 14)]) [0, 1],
 i1 12 (mv 15) [2],
 i1 16 (.ext (.s 12) 0) [3],
 i1 17 (.ext (.s 12) 1) [3],
 i1 6 (mv 16) [4, 2, 0, 1, 2, 3, 4],
 i1 7 (mv 17) [5, 6, 0, 1, 2, 3, 4, 5, 6]])
 (.seq (.seq (rf [i0 18 (mv 7),
 i1 19 (.bin .eql (.s 18) (ci 0)) [0]])
 (.cond (.s 19)
 (.seq (rf [i0 2 (.mv (.c .nils)),
 i1 3 (.mv (.c (.bool false))) [0, 0]])
 .ret)
 .skip))
 (.seq (rf [i0 20 (mv 4),
 i0 21 (mv 6),
 i1 22 (.bsl 1 1 (.ints .i64 [0]) [(0, 1, (.s 21))]) [1],
 i1 23 (.app 1 8 (.s 20) (.s 22)) [0, 2],
 i1 4 (mv 23) [3, 3, 0, 1, 2, 3]])
 (rf [i0 24 (mv 5),
 i0 25 (mv 7),
 i1 26 (.bin .add (.s 24) (.s 25)) [0, 1],
 i1 5 (mv 26) [2, 0, 1, 2]])))))))))
 (.seq (rf [i0 27 (mv 4),
 i1 2 (mv 27) [0, 0],
 i1 3 (.mv (.c (.bool true))) [1, 0, 1]])
 .ret)))), false, (some [Sh.str]), (some (Sh.tu (Sh.pr (Sh.sl (Sh.int .i64)) Sh.bool))), false⟩

/-- unicode/utf8.word[string] -/
def k401 : Fun := ⟨1, 59, [0, 2], [(.tmp 2)],
  (.seq (rf [i0 2 (.mv (.c (.int .u64 0)))])
 (.seq (.cond (.c (.bool false))
 (.seq (rt [i0 3 (mv 0),
 i1 4 (.ixs (.s 3) (ci 0)) [0],
 i1 5 (.cvi .u64 (.s 4)) [1],
 i0 6 (mv 0),
 i1 7 (.ixs (.s 6) (ci 1)) [3],
 i1 8 (.cvi .u64 (.s 7)) [4],
 i1 9 (.bin .shl (.s 8) (.c (.int .u64 8))) [5],
 i1 10 (.bin .or (.s 5) (.s 9)) [2, 6],
 i0 11 (mv 0),
 i1 12 (.ixs (.s 11) (ci 2)) [8],
 i1 13 (.cvi .u64 (.s 12)) [9],
 i1 14 (.bin .shl (.s 13) (.c (.int .u64 16))) [10],
 i1 15 (.bin .or (.s 10) (.s 14)) [7, 11],
 i0 16 (mv 0),
 i1 17 (.ixs (.s 16) (ci 3)) [13],
 i1 18 (.cvi .u64 (.s 17)) [14],
 i1 19 (.bin .shl (.s 18) (.c (.int .u64 24))) [15],
 i1 20 (.bin .or (.s 15) (.s 19)) [12, 16],
 i1 2 (mv 20) [17, 0, 1, 2, 3, 4, 5, 6, 7, 8, 9, 10, 11, 12, 13, 14, 15, 16, 17]])
 .ret)
 .skip)
 (.seq (rt [i0 21 (mv 0),
 i1 22 (.ixs (.s 21) (ci 0)) [0],
 i1 23 (.cvi .u64 (.s 22)) [1],
 i0 24 (mv 0),
 i1 25 (.ixs (.s 24) (ci 1)) [3],
 i1 26 (.cvi .u64 (.s 25)) [4],
 i1 27 (.bin .shl (.s 26) (.c (.int .u64 8))) [5],
 i1 28 (.bin .or (.s 23) (.s 27)) [2, 6],
 i0 29 (mv 0),
 i1 30 (.ixs (.s 29) (ci 2)) [8],
 i1 31 (.cvi .u64 (.s 30)) [9],
 i1 32 (.bin .shl (.s 31) (.c (.int .u64 16))) [10],
 i1 33 (.bin .or (.s 28) (.s 32)) [7, 11],
 i0 34 (mv 0),
 i1 35 (.ixs (.s 34) (ci 3)) [13],
 i1 36 (.cvi .u64 (.s 35)) [14],
 i1 37 (.bin .shl (.s 36) (.c (.int .u64 24))) [15],
 i1 38 (.bin .or (.s 33) (.s 37)) [12, 16],
 i0 39 (mv 0),
 i1 40 (.ixs (.s 39) (ci 4)) [18],
 i1 41 (.cvi .u64 (.s 40)) [19],
 i1 42 (.bin .shl (.s 41) (.c (.int .u64 32))) [20],
 i1 43 (.bin .or (.s 38) (.s 42)) [17, 21],
 i0 44 (mv 0),
 i1 45 (.ixs (.s 44) (ci 5)) [23],
 i1 46 (.cvi .u64 (.s 45)) [24],
 i1 47 (.bin .shl (.s 46) (.c (.int .u64 40))) [25],
 i1 48 (.bin .or (.s 43) (.s 47)) [22, 26],
 i0 49 (mv 0),
 i1 50 (.ixs (.s 49) (ci 6)) [28],
 i1 51 (.cvi .u64 (.s 50)) [29],
 i1 52 (.bin .shl (.s 51) (.c (.int .u64 48))) [30],
 i1 53 (.bin .or (.s 48) (.s 52)) [27, 31],
 i0 54 (mv 0),
 i1 55 (.ixs (.s 54) (ci 7)) [33],
 i1 56 (.cvi .u64 (.s 55)) [34],
 i1 57 (.bin .shl (.s 56) (.c (.int .u64 56))) [35],
 i1 58 (.bin .or (.s 53) (.s 57)) [32, 36],
 i1 2 (mv 58) [37, 0, 1, 2, 3, 4, 5, 6, 7, 8, 9, 10, 11, 12, 13, 14, 15, 16, 17, 18, 19, 20, 21, 22, 23, 24, 25, 26, 27, 28, 29, 30, 31, 32, 33, 34, 35, 36, 37]])
 .ret))), false, (some [Sh.str]), (some (Sh.int .u64)), false⟩

/-- euphroe/euphroeref09.sign -/
def k402 : Fun := ⟨2, 85, [0, 1, 4, 5, 6, 7, 8, 9, 10, 11, 12, 17, 21, 30, 39, 50, 62, 81], [(.tmp 4), (.tmp 5)],
  (.seq (rf [i0 4 (.mv (ci 0)),
 i1 5 (.mv (ci 0)) [0]])
 (.seq (rf [i0 13 (mv 0),
 i0 14 (mv 1),
 i1 15 (.ixs (.s 13) (.s 14)) [0, 1],
 i1 16 (.cvi .i64 (.s 15)) [2],
 i1 6 (mv 16) [3, 0, 1, 2, 3]])
 (.seq (rf [i0 7 (.mv (ci 0)),
 i1 8 (.mv (ci 0)) [0, 0],
 i1 9 (.mv (ci 0)) [1, 0, 1]])
 (.seq (.block 0
 (.seq (rf [i0 18 (mv 6),
 i1 19 (.bin .lss (.s 18) (ci 128)) [0],
 i1 17 (mv 19) [1]])
 (.cond (.s 17)
 (.seq (rf [i0 20 (mv 6),
 i1 4 (mv 20) [0, 0],
 i1 5 (.mv (ci 1)) [1, 0, 1]])
 .ret)
 (.seq (rf [i0 22 (mv 6),
 i1 23 (.bin .geq (.s 22) (ci 192)) [0],
 i1 24 (mv 23) [1],
 ⟨(some 25), (mv 6), (some (24, true)), [2]⟩,
 ⟨(some 26), (.bin .lss (.s 25) (ci 224)), (some (24, true)), [3, 2]⟩,
 i1 27 (.pick (.s 24) (.s 26) (.c (.bool false))) [2, 4],
 i1 21 (mv 27) [5, 2]])
 (.cond (.s 21)
 (rf [i0 28 (mv 6),
 i1 29 (.bin .sub (.s 28) (ci 192)) [0],
 i0 7 (.mv (ci 1)),
 i1 8 (mv 29) [1, 2, 0, 1, 2],
 i1 9 (.mv (ci 128)) [3, 0, 1, 2, 3]])
 (.seq (rf [i0 31 (mv 6),
 i1 32 (.bin .geq (.s 31) (ci 224)) [0],
 i1 33 (mv 32) [1],
 ⟨(some 34), (mv 6), (some (33, true)), [2]⟩,
 ⟨(some 35), (.bin .lss (.s 34) (ci 240)), (some (33, true)), [3, 2]⟩,
 i1 36 (.pick (.s 33) (.s 35) (.c (.bool false))) [2, 4],
 i1 30 (mv 36) [5, 2]])
 (.cond (.s 30)
 (rf [i0 37 (mv 6),
 i1 38 (.bin .sub (.s 37) (ci 224)) [0],
 i0 7 (.mv (ci 2)),
 i1 8 (mv 38) [1, 2, 0, 1, 2],
 i1 9 (.mv (ci 2048)) [3, 0, 1, 2, 3]])
 (.seq (rf [i0 40 (mv 6),
 i1 41 (.bin .geq (.s 40) (ci 240)) [0],
 i1 42 (mv 41) [1],
 ⟨(some 43), (mv 6), (some (42, true)), [2]⟩,
 ⟨(some 44), (.bin .lss (.s 43) (ci 248)), (some (42, true)), [3, 2]⟩,
 i1 45 (.pick (.s 42) (.s 44) (.c (.bool false))) [2, 4],
 i1 39 (mv 45) [5, 2]])
 (.cond (.s 39)
 (rf [i0 46 (mv 6),
 i1 47 (.bin .sub (.s 46) (ci 240)) [0],
 i0 7 (.mv (ci 3)),
 i1 8 (mv 47) [1, 2, 0, 1, 2],
 i1 9 (.mv (ci 65536)) [3, 0, 1, 2, 3]])
 (.seq (rf [i0 4 (.mv (ci 0)),
 i1 5 (.mv (ci 0)) [0, 0]])
 .ret))))))))))
 (.seq (.seq (rf [i0 10 (.mv (ci 1))])
 (.block 1
 (.loop ⟨0, [], false, [0, 1, 7, 8, 9, 10], []⟩
 (.seq (.seq (rf [i0 48 (mv 10),
 i0 49 (mv 7),
 i1 50 (.bin .leq (.s 48) (.s 49)) [0, 1]])
 (.cond (.s 50)
 .skip
 (.pre ⟨0, [], false, [7, 8, 9], []⟩ (.exit 1))))
 (.seq (.block 2
 (.seq (rf [i0 54 (mv 0),
 i0 55 (mv 1),
 i0 56 (mv 10),
 i1 57 (.bin .add (.s 55) (.s 56)) [1, 2],
 i1 58 (.call (.c (.fn 404 [])) [(.s 54), (.s 57)]) [0, 3],
 i1 53 (mv 58) [4],
 i1 59 (.ext (.s 53) 0) [5],
 i1 60 (.ext (.s 53) 1) [5],
 i1 11 (mv 59) [6, 4, 0, 1, 2, 3, 4, 5, 6],
 i1 12 (mv 60) [7, 8, 0, 1, 2, 3, 4, 5, 6, 7, 8]])
 (.seq (.seq (rf [i0 61 (mv 12),
 i1 62 (.un .not (.s 61)) [0]])
 (.cond (.s 62)
 (.seq (rf [i0 4 (.mv (ci 0)),
 i1 5 (.mv (ci 0)) [0, 0]])
 .ret)
 .skip))
 (rf [i0 63 (mv 8),
 i1 64 (.bin .mul (ci 64) (.s 63)) [0],
 i0 65 (mv 11),
 i1 66 (.bin .add (.s 64) (.s 65)) [1, 2],
 i1 8 (mv 66) [3, 0, 1, 2, 3]]))))
 (rf [i0 51 (mv 10),
 i1 52 (.bin .add (.s 51) (ci 1)) [0],
 i1 10 (mv 52) [1, 0, 1]]))))))
 (.seq (.seq (rf [i0 67 (mv 8),
 i0 68 (mv 9),
 i1 69 (.bin .lss (.s 67) (.s 68)) [0, 1],
 i1 70 (mv 69) [2],
 ⟨(some 71), (mv 8), (some (70, false)), [3]⟩,
 ⟨(some 72), (.bin .gtr (.s 71) (ci 1114111)), (some (70, false)), [4, 3]⟩,
 i1 73 (.pick (.s 70) (.c (.bool true)) (.s 72)) [3, 5],
 i1 74 (mv 73) [6, 3],
 ⟨(some 75), (mv 8), (some (74, false)), [7]⟩,
 ⟨(some 76), (.bin .geq (.s 75) (ci 55296)), (some (74, false)), [8, 7]⟩,
 ⟨(some 77), (mv 76), (some (74, false)), [9, 7, 7]⟩,
 ⟨(some 78), (mv 8), (some (77, true)), [10]⟩,
 ⟨(some 79), (.bin .leq (.s 78) (ci 57343)), (some (77, true)), [11, 10]⟩,
 ⟨(some 80), (.pick (.s 77) (.s 79) (.c (.bool false))), (some (74, false)), [10, 12, 7]⟩,
 i1 81 (.pick (.s 74) (.c (.bool true)) (.s 80)) [7, 13]])
 (.cond (.s 81)
 (.seq (rf [i0 4 (.mv (ci 0)),
 i1 5 (.mv (ci 0)) [0, 0]])
 .ret)
 .skip))
 (.seq (rf [i0 82 (mv 8),
 i0 83 (mv 7),
 i1 84 (.bin .add (.s 83) (ci 1)) [1],
 i1 4 (mv 82) [0, 0],
 i1 5 (mv 84) [2, 3, 0, 1, 2, 3]])
 .ret))))))), false, (some [Sh.str, (Sh.int .i64)]), (some (Sh.tu (Sh.pr (Sh.int .i64) (Sh.int .i64)))), false⟩

/-- math/bits.Mul32 -/
def k403 : Fun := ⟨2, 17, [0, 1, 4, 5, 6], [(.tmp 4), (.tmp 5)],
  (.seq (rf [i0 4 (.mv (.c (.int .u32 0))),
 i1 5 (.mv (.c (.int .u32 0))) [0]])
 (.seq (rf [i0 7 (mv 0),
 i1 8 (.cvi .u64 (.s 7)) [0],
 i0 9 (mv 1),
 i1 10 (.cvi .u64 (.s 9)) [2],
 i1 11 (.bin .mul (.s 8) (.s 10)) [1, 3],
 i1 6 (mv 11) [4, 0, 1, 2, 3, 4]])
 (.seq (rf [i0 12 (mv 6),
 i1 13 (.bin .shr (.s 12) (.c (.int .u64 32))) [0],
 i1 14 (.cvi .u32 (.s 13)) [1],
 i0 15 (mv 6),
 i1 16 (.cvi .u32 (.s 15)) [3],
 i1 4 (mv 14) [2, 0, 1, 2],
 i1 5 (mv 16) [4, 5, 0, 1, 2, 3, 4, 5]])
 .ret))), false, (some [(Sh.int .u32), (Sh.int .u32)]), (some (Sh.tu (Sh.pr (Sh.int .u32) (Sh.int .u32)))), false⟩

/-- euphroe/euphroeref09.more -/
def k404 : Fun := ⟨2, 27, [0, 1, 4, 5, 21], [(.tmp 4), (.tmp 5)],
  (.seq (rf [i0 4 (.mv (ci 0)),
 i1 5 (.mv (.c (.bool false))) [0]])
 (.seq (.seq (rf [i0 6 (mv 1),
 i0 7 (mv 0),
 i1 8 (.len true (.s 7)) [1],
 i1 9 (.bin .geq (.s 6) (.s 8)) [0, 2],
 i1 10 (mv 9) [3],
 ⟨(some 11), (mv 0), (some (10, false)), [4]⟩,
 ⟨(some 12), (mv 1), (some (10, false)), [4]⟩,
 ⟨(some 13), (.ixs (.s 11) (.s 12)), (some (10, false)), [5, 6, 4]⟩,
 ⟨(some 14), (.bin .lss (.s 13) (.c (.int .u8 128))), (some (10, false)), [7, 4]⟩,
 i1 15 (.pick (.s 10) (.c (.bool true)) (.s 14)) [4, 8],
 i1 16 (mv 15) [9, 4],
 ⟨(some 17), (mv 0), (some (16, false)), [10]⟩,
 ⟨(some 18), (mv 1), (some (16, false)), [10]⟩,
 ⟨(some 19), (.ixs (.s 17) (.s 18)), (some (16, false)), [11, 12, 10]⟩,
 ⟨(some 20), (.bin .gtr (.s 19) (.c (.int .u8 191))), (some (16, false)), [13, 10]⟩,
 i1 21 (.pick (.s 16) (.c (.bool true)) (.s 20)) [10, 14]])
 (.cond (.s 21)
 (.seq (rf [i0 4 (.mv (ci 0)),
 i1 5 (.mv (.c (.bool false))) [0, 0]])
 .ret)
 .skip))
 (.seq (rf [i0 22 (mv 0),
 i0 23 (mv 1),
 i1 24 (.ixs (.s 22) (.s 23)) [0, 1],
 i1 25 (.cvi .i64 (.s 24)) [2],
 i1 26 (.bin .sub (.s 25) (ci 128)) [3],
 i1 4 (mv 26) [4, 0, 1, 2, 3, 4],
 i1 5 (.mv (.c (.bool true))) [5, 0, 1, 2, 3, 4, 5]])
 .ret))), false, (some [Sh.str, (Sh.int .i64)]), (some (Sh.tu (Sh.pr (Sh.int .i64) Sh.bool))), false⟩

def FT : Nat → Option Fun
  | 1 => some k1
  | 19 => some k19
  | 21 => some k21
  | 46 => some k46
  | 48 => some k48
  | 64 => some k64
  | 75 => some k75
  | 100 => some k100
  | 101 => some k101
  | 114 => some k114
  | 115 => some k115
  | 116 => some k116
  | 120 => some k120
  | 174 => some k174
  | 175 => some k175
  | 176 => some k176
  | 177 => some k177
  | 178 => some k178
  | 179 => some k179
  | 181 => some k181
  | 182 => some k182
  | 192 => some k192
  | 193 => some k193
  | 194 => some k194
  | 195 => some k195
  | 196 => some k196
  | 197 => some k197
  | 198 => some k198
  | 204 => some k204
  | 364 => some k364
  | 369 => some k369
  | 370 => some k370
  | 371 => some k371
  | 372 => some k372
  | 373 => some k373
  | 387 => some k387
  | 388 => some k388
  | 391 => some k391
  | 392 => some k392
  | 393 => some k393
  | 394 => some k394
  | 396 => some k396
  | 397 => some k397
  | 398 => some k398
  | 401 => some k401
  | 402 => some k402
  | 403 => some k403
  | 404 => some k404
  | _ => none
end Go.Proofs.YtdlmhclopdkhcaaDoorE
