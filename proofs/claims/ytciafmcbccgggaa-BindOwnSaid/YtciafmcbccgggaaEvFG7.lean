/- The evaluator's functions. -/
import Derived.Test.YtciafmcbccgggaaEvXT
namespace Go.Proofs.YtciafmcbccgggaaE
open Go
set_option linter.unusedVariables false
set_option linter.unusedSimpArgs false
abbrev i0 (d : Nat) (o : O) : Op := ⟨some d, o, none, []⟩
abbrev i1 (d : Nat) (o : O) (w : List Nat) : Op := ⟨some d, o, none, w⟩
abbrev rf (l : List Op) : K := .region l false
abbrev rt (l : List Op) : K := .region l true

/-- slices.Concat[[]byte,byte] -/
def k1 : Fun := ⟨1, 36, [0, 2, 3, 5, 6, 8, 9, 10, 11, 12, 20, 25, 26, 27, 28], [(.tmp 2)],
  (.seq (rf [i0 2 (.mv (.c .nils))])
 (.seq (rf [i0 3 (.mv (.c (.int .i64 0)))])
 (.seq (.seq (rf [i0 9 (.mv (.s 0)),
 i1 10 (.len false (.s 9)) [0],
 i0 11 (.mv (.c (.int .i64 0)))])
 (.block 0
 (.loop ⟨0, [], false, [0, 3, 9, 10, 11], []⟩
 (.seq (rf [i0 12 (.bin .lss (.s 11) (.s 10))])
 (.seq (.cond (.s 12)
 .skip
 (.pre ⟨0, [], false, [0, 3], []⟩ (.exit 0)))
 (.seq (.block 1
 (.seq (rf [i0 13 (.iad 1 (.s 9) (.s 11)),
 i1 14 (.ldc (.s 13)) [0],
 i1 5 (.mv (.s 14)) [1, 0, 1]])
 (.seq (rf [i0 15 (.mv (.s 3)),
 i0 16 (.mv (.s 5)),
 i1 17 (.len false (.s 16)) [1],
 i1 18 (.bin .add (.s 15) (.s 17)) [0, 2],
 i1 3 (.mv (.s 18)) [3, 0, 1, 2, 3]])
 (.seq (rf [i0 19 (.mv (.s 3)),
 i1 20 (.bin .lss (.s 19) (.c (.int .i64 0))) [0]])
 (.cond (.s 20)
 (rf [i0 21 .bad,
 ⟨none, .bad, none, [0]⟩])
 .skip)))))
 (rf [i0 22 (.bin .add (.s 11) (.c (.int .i64 1))),
 i1 11 (.mv (.s 22)) [0]])))))))
 (.seq (rf [i0 23 (.mv (.s 3)),
 i1 24 (.call (.c (.fn 64 [])) [(.c .nils), (.s 23)]) [0],
 i1 6 (.mv (.s 24)) [1, 1, 0, 1]])
 (.seq (.seq (rf [i0 25 (.mv (.s 0)),
 i1 26 (.len false (.s 25)) [0],
 i0 27 (.mv (.c (.int .i64 0)))])
 (.block 2
 (.loop ⟨1, [], false, [6, 25, 26, 27], []⟩
 (.seq (rf [i0 28 (.bin .lss (.s 27) (.s 26))])
 (.seq (.cond (.s 28)
 .skip
 (.pre ⟨0, [], false, [6], []⟩ (.exit 2)))
 (.seq (.block 3
 (.seq (rf [i0 29 (.iad 1 (.s 25) (.s 27)),
 i1 30 (.ldc (.s 29)) [0],
 i1 8 (.mv (.s 30)) [1, 0, 1]])
 (rf [i0 31 (.mv (.s 6)),
 i0 32 (.mv (.s 8)),
 i1 33 (.app 1 1 (.s 31) (.s 32)) [0, 1],
 i1 6 (.mv (.s 33)) [2, 2, 0, 1, 2]])))
 (rf [i0 34 (.bin .add (.s 27) (.c (.int .i64 1))),
 i1 27 (.mv (.s 34)) [0]])))))))
 (.seq (rf [i0 35 (.mv (.s 6)),
 i1 2 (.mv (.s 35)) [0, 0]])
 .ret)))))), false, (some [(Sh.sl (Sh.sl (Sh.int .u8)))]), none, false⟩

/-- euphroe/octs.Put -/
def k19 : Fun := ⟨3, 37, [0, 1, 2, 6, 7, 8, 9, 15, 19, 20, 21, 33], [(.tmp 6), (.tmp 7)],
  (.seq (rf [i0 6 (.mv (.c .nils)),
 i1 7 (.mv (.c (.int .i64 0))) [0]])
 (.seq (.seq (rf [i0 10 (.mv (.s 1)),
 i1 11 (.bin .lss (.s 10) (.c (.int .i64 1))) [0],
 i1 12 (.mv (.s 11)) [1],
 ⟨(some 13), (.mv (.s 1)), (some (12, false)), [2]⟩,
 ⟨(some 14), (.bin .gtr (.s 13) (.c (.int .i64 8))), (some (12, false)), [3, 2]⟩,
 i1 15 (.pick (.s 12) (.c (.bool true)) (.s 14)) [2, 4]])
 (.cond (.s 15)
 (.seq (rf [i0 6 (.mv (.c .nils)),
 i1 7 (.mv (.c (.int .i64 1))) [0, 0]])
 .ret)
 .skip))
 (.seq (rf [i0 16 (.mv (.s 1)),
 i1 17 (.mks (.ints .u8 [0]) 1 1 (.s 16) (.s 16)) [0, 0],
 i1 8 (.mv (.s 17)) [1, 0, 1]])
 (.seq (.seq (rf [i0 18 (.mv (.s 8)),
 i1 19 (.len false (.s 18)) [0],
 i0 20 (.mv (.c (.int .i64 0)))])
 (.block 0
 (.loop ⟨0, [], false, [0, 2, 8, 19, 20], []⟩
 (.seq (rf [i0 21 (.bin .lss (.s 20) (.s 19))])
 (.seq (.cond (.s 21)
 .skip
 (.pre ⟨0, [], false, [2, 8], []⟩ (.exit 0)))
 (.seq (.block 1
 (.seq (rf [i0 22 (.mv (.s 20)),
 i1 9 (.mv (.s 22)) [0, 0]])
 (rf [i0 23 (.mv (.s 8)),
 i0 24 (.mv (.s 9)),
 i0 25 (.mv (.s 0)),
 i0 26 (.mv (.s 9)),
 i1 27 (.bin .mul (.c (.int .i64 8)) (.s 26)) [3],
 i1 28 (.bin .shr (.s 25) (.s 27)) [2, 4],
 i1 29 (.cvi .u8 (.s 28)) [5],
 i1 30 (.iad 1 (.s 23) (.s 24)) [0, 1, 0, 1, 2, 3, 4, 5, 6],
 ⟨none, (.stc 1 (.s 30) (.s 29)), none, [7, 6, 0, 1, 2, 3, 4, 5, 6]⟩])))
 (rf [i0 31 (.bin .add (.s 20) (.c (.int .i64 1))),
 i1 20 (.mv (.s 31)) [0]])))))))
 (.seq (.seq (rf [i0 32 (.mv (.s 2)),
 i1 33 (.un .not (.s 32)) [0]])
 (.cond (.s 33)
 (rf [i0 34 (.mv (.s 8)),
 i1 35 (.call (.c (.fn 48 [])) [(.s 34)]) [0]])
 .skip))
 (.seq (rf [i0 36 (.mv (.s 8)),
 i1 6 (.mv (.s 36)) [0, 0],
 i1 7 (.mv (.c (.int .i64 0))) [1, 0, 1]])
 .ret)))))), false, (some [(Sh.int .u64), (Sh.int .i64), Sh.bool]), (some (Sh.tu (Sh.pr (Sh.sl (Sh.int .u8)) (Sh.int .i64)))), false⟩

/-- euphroe/octs.Get -/
def k21 : Fun := ⟨2, 39, [0, 1, 4, 5, 6, 7, 8, 16, 17, 18, 19, 20, 24], [(.tmp 4), (.tmp 5)],
  (.seq (rf [i0 4 (.mv (.c (.int .u64 0))),
 i1 5 (.mv (.c (.int .i64 0))) [0]])
 (.seq (.seq (rf [i0 9 (.mv (.s 0)),
 i1 10 (.len false (.s 9)) [0],
 i1 11 (.bin .lss (.s 10) (.c (.int .i64 1))) [1],
 i1 12 (.mv (.s 11)) [2],
 ⟨(some 13), (.mv (.s 0)), (some (12, false)), [3]⟩,
 ⟨(some 14), (.len false (.s 13)), (some (12, false)), [4, 3]⟩,
 ⟨(some 15), (.bin .gtr (.s 14) (.c (.int .i64 8))), (some (12, false)), [5, 3]⟩,
 i1 16 (.pick (.s 12) (.c (.bool true)) (.s 15)) [3, 6]])
 (.cond (.s 16)
 (.seq (rf [i0 4 (.mv (.c (.int .u64 0))),
 i1 5 (.mv (.c (.int .i64 1))) [0, 0]])
 .ret)
 .skip))
 (.seq (rf [i0 6 (.mv (.c (.int .u64 0)))])
 (.seq (.seq (rf [i0 17 (.mv (.s 0)),
 i1 18 (.len false (.s 17)) [0],
 i0 19 (.mv (.c (.int .i64 0)))])
 (.block 0
 (.loop ⟨0, [], false, [1, 6, 17, 18, 19], []⟩
 (.seq (rf [i0 20 (.bin .lss (.s 19) (.s 18))])
 (.seq (.cond (.s 20)
 .skip
 (.pre ⟨0, [], false, [6], []⟩ (.exit 0)))
 (.seq (.block 1
 (.seq (rf [i0 21 (.mv (.s 19)),
 i0 22 (.iad 1 (.s 17) (.s 19)),
 i1 23 (.ldc (.s 22)) [1],
 i1 7 (.mv (.s 21)) [0, 0, 1, 2],
 i1 8 (.mv (.s 23)) [2, 3, 0, 1, 2, 3]])
 (.seq (rf [i0 24 (.mv (.s 1))])
 (.cond (.s 24)
 (rf [i0 25 (.mv (.s 6)),
 i0 26 (.mv (.s 8)),
 i1 27 (.cvi .u64 (.s 26)) [1],
 i0 28 (.mv (.s 7)),
 i1 29 (.bin .mul (.c (.int .i64 8)) (.s 28)) [3],
 i1 30 (.bin .shl (.s 27) (.s 29)) [2, 4],
 i1 31 (.bin .or (.s 25) (.s 30)) [0, 5],
 i1 6 (.mv (.s 31)) [6, 0, 1, 2, 3, 4, 5, 6]])
 (rf [i0 32 (.mv (.s 6)),
 i1 33 (.bin .shl (.s 32) (.c (.int .u64 8))) [0],
 i0 34 (.mv (.s 8)),
 i1 35 (.cvi .u64 (.s 34)) [2],
 i1 36 (.bin .or (.s 33) (.s 35)) [1, 3],
 i1 6 (.mv (.s 36)) [4, 0, 1, 2, 3, 4]])))))
 (rf [i0 37 (.bin .add (.s 19) (.c (.int .i64 1))),
 i1 19 (.mv (.s 37)) [0]])))))))
 (.seq (rf [i0 38 (.mv (.s 6)),
 i1 4 (.mv (.s 38)) [0, 0],
 i1 5 (.mv (.c (.int .i64 0))) [1, 0, 1]])
 .ret))))), false, (some [(Sh.sl (Sh.int .u8)), Sh.bool]), (some (Sh.tu (Sh.pr (Sh.int .u64) (Sh.int .i64)))), false⟩

/-- euphroe/octs.Join -/
def k46 : Fun := ⟨1, 5, [0, 2], [(.tmp 2)],
  (.seq (rf [i0 2 (.mv (.c .nils))])
 (.seq (rf [i0 3 (.mv (.s 0)),
 i1 4 (.call (.c (.fn 1 [])) [(.s 3)]) [0],
 i1 2 (.mv (.s 4)) [1, 1, 0, 1]])
 .ret)), false, (some [(Sh.sl (Sh.sl (Sh.int .u8)))]), none, false⟩

/-- euphroe/octs.Same -/
def k47 : Fun := ⟨2, 31, [0, 1, 4, 5, 6, 7, 12, 13, 14, 15, 16], [(.tmp 4)],
  (.seq (rf [i0 4 (.mv (.c (.bool false)))])
 (.seq (.seq (rf [i0 8 (.mv (.s 0)),
 i1 9 (.len false (.s 8)) [0],
 i0 10 (.mv (.s 1)),
 i1 11 (.len false (.s 10)) [2],
 i1 12 (.bin .neq (.s 9) (.s 11)) [1, 3]])
 (.cond (.s 12)
 (.seq (rf [i0 4 (.mv (.c (.bool false)))])
 .ret)
 .skip))
 (.seq (rf [i0 5 (.mv (.c (.int .u8 0)))])
 (.seq (.seq (rf [i0 13 (.mv (.s 0)),
 i1 14 (.len false (.s 13)) [0],
 i0 15 (.mv (.c (.int .i64 0)))])
 (.block 0
 (.loop ⟨0, [], false, [1, 5, 13, 14, 15], []⟩
 (.seq (rf [i0 16 (.bin .lss (.s 15) (.s 14))])
 (.seq (.cond (.s 16)
 .skip
 (.pre ⟨0, [], false, [5], []⟩ (.exit 0)))
 (.seq (.block 1
 (.seq (rf [i0 17 (.mv (.s 15)),
 i0 18 (.iad 1 (.s 13) (.s 15)),
 i1 19 (.ldc (.s 18)) [1],
 i1 6 (.mv (.s 17)) [0, 0, 1, 2],
 i1 7 (.mv (.s 19)) [2, 3, 0, 1, 2, 3]])
 (rf [i0 20 (.mv (.s 5)),
 i0 21 (.mv (.s 7)),
 i0 22 (.mv (.s 1)),
 i0 23 (.mv (.s 6)),
 i1 24 (.iad 1 (.s 22) (.s 23)) [2, 3],
 i1 25 (.ldc (.s 24)) [4],
 i1 26 (.bin .xor (.s 21) (.s 25)) [1, 5],
 i1 27 (.bin .or (.s 20) (.s 26)) [0, 6],
 i1 5 (.mv (.s 27)) [7, 0, 1, 2, 3, 4, 5, 6, 7]])))
 (rf [i0 28 (.bin .add (.s 15) (.c (.int .i64 1))),
 i1 15 (.mv (.s 28)) [0]])))))))
 (.seq (rf [i0 29 (.mv (.s 5)),
 i1 30 (.bin .eql (.s 29) (.c (.int .u8 0))) [0],
 i1 4 (.mv (.s 30)) [1, 0, 1]])
 .ret))))), false, (some [(Sh.sl (Sh.int .u8)), (Sh.sl (Sh.int .u8))]), (some Sh.bool), false⟩

/-- slices.Reverse[[]byte,byte] -/
def k48 : Fun := ⟨1, 28, [0, 2, 3, 9], [],
  (.seq (rf [i0 4 (.mv (.s 0)),
 i1 5 (.len false (.s 4)) [0],
 i1 6 (.bin .sub (.s 5) (.c (.int .i64 1))) [1],
 i0 2 (.mv (.c (.int .i64 0))),
 i1 3 (.mv (.s 6)) [2, 3, 0, 1, 2, 3]])
 (.block 0
 (.loop ⟨0, [], false, [0, 2, 3], []⟩
 (.seq (.seq (rf [i0 7 (.mv (.s 2)),
 i0 8 (.mv (.s 3)),
 i1 9 (.bin .lss (.s 7) (.s 8)) [0, 1]])
 (.cond (.s 9)
 .skip
 (.pre ⟨0, [], false, [], []⟩ (.exit 0))))
 (.seq (.block 1
 (rt [i0 14 (.mv (.s 0)),
 i0 15 (.mv (.s 2)),
 i0 16 (.mv (.s 0)),
 i0 17 (.mv (.s 3)),
 i0 18 (.mv (.s 0)),
 i0 19 (.mv (.s 3)),
 i1 20 (.iad 1 (.s 18) (.s 19)) [4, 5],
 i1 21 (.ldc (.s 20)) [6],
 i0 22 (.mv (.s 0)),
 i0 23 (.mv (.s 2)),
 i1 24 (.iad 1 (.s 22) (.s 23)) [8, 9],
 i1 25 (.ldc (.s 24)) [10],
 i1 26 (.iad 1 (.s 14) (.s 15)) [0, 1, 0, 1, 4, 5, 6, 7, 11],
 ⟨none, (.stc 1 (.s 26) (.s 21)), none, [12, 7, 0, 1, 4, 5, 6, 7, 11]⟩,
 i1 27 (.iad 1 (.s 16) (.s 17)) [2, 3, 0, 1, 2, 3, 4, 5, 6, 7, 8, 9, 10, 11, 12, 13],
 ⟨none, (.stc 1 (.s 27) (.s 25)), none, [14, 11, 13, 0, 1, 2, 3, 4, 5, 6, 7, 8, 9, 10, 11, 12, 13]⟩]))
 (rf [i0 10 (.mv (.s 2)),
 i1 11 (.bin .add (.s 10) (.c (.int .i64 1))) [0],
 i0 12 (.mv (.s 3)),
 i1 13 (.bin .sub (.s 12) (.c (.int .i64 1))) [2],
 i1 2 (.mv (.s 11)) [1, 0, 1],
 i1 3 (.mv (.s 13)) [3, 4, 0, 1, 2, 3, 4]])))))), true, none, none, false⟩

/-- slices.Grow[[]byte,byte] -/
def k64 : Fun := ⟨2, 27, [0, 1, 4, 6, 16], [(.tmp 4)],
  (.seq (rf [i0 4 (.mv (.c .nils))])
 (.seq (.seq (rf [i0 5 (.mv (.s 1)),
 i1 6 (.bin .lss (.s 5) (.c (.int .i64 0))) [0]])
 (.cond (.s 6)
 (rf [i0 7 .bad,
 ⟨none, .bad, none, [0]⟩])
 .skip))
 (.seq (.seq (rf [i0 8 (.mv (.s 1)),
 i0 9 (.mv (.s 0)),
 i1 10 (.cap (.s 9)) [1],
 i0 11 (.mv (.s 0)),
 i1 12 (.len false (.s 11)) [3],
 i1 13 (.bin .sub (.s 10) (.s 12)) [2, 4],
 i1 14 (.bin .sub (.s 8) (.s 13)) [0, 5],
 i1 1 (.mv (.s 14)) [6, 0, 1, 2, 3, 4, 5, 6]])
 (.seq (rf [i0 15 (.mv (.s 1)),
 i1 16 (.bin .gtr (.s 15) (.c (.int .i64 0))) [0]])
 (.cond (.s 16)
 (rf [i0 17 (.mv (.s 0)),
 i0 18 (.mv (.s 0)),
 i1 19 (.cap (.s 18)) [1],
 i1 20 (.sls 1 (.s 17) none (some (.s 19)) none) [0, 2],
 i0 21 (.mv (.s 1)),
 i1 22 (.apz 1 1 (.ints .u8 [0]) (.s 20) (.s 21)) [3, 4],
 i0 23 (.mv (.s 0)),
 i1 24 (.len false (.s 23)) [6],
 i1 25 (.sls 1 (.s 22) none (some (.s 24)) none) [5, 7],
 i1 0 (.mv (.s 25)) [8, 5, 0, 1, 2, 3, 4, 5, 6, 7, 8]])
 .skip)))
 (.seq (rf [i0 26 (.mv (.s 0)),
 i1 4 (.mv (.s 26)) [0, 0]])
 (.pre ⟨0, [], true, [], [(4, (.ints .u8 []), 1)]⟩ .ret))))), false, none, none, false⟩

/-- euphroe/roots.Root -/
def k75 : Fun := ⟨3, 19, [0, 1, 2, 6, 7, 12], [(.tmp 6), (.tmp 7)],
  (.seq (rf [i0 6 (.mv (.c (.int .u64 0))),
 i1 7 (.mv (.c (.int .i64 0))) [0]])
 (.seq (.seq (rf [i0 8 (.mv (.s 0)),
 i0 9 (.mv (.s 1)),
 i0 10 (.mv (.s 2)),
 i1 11 (.call (.c (.fn 100 [])) [(.s 8), (.s 9), (.s 10)]) [0, 1, 2],
 i1 12 (.un .not (.s 11)) [3]])
 (.cond (.s 12)
 (.seq (rf [i0 6 (.mv (.c (.int .u64 0))),
 i1 7 (.mv (.c (.int .i64 1))) [0, 0]])
 .ret)
 .skip))
 (.seq (rf [i0 13 (.mv (.s 0)),
 i0 14 (.mv (.s 1)),
 i1 15 (.call (.c (.fn 101 [])) [(.s 13), (.s 14)]) [0, 1],
 i0 16 (.mv (.s 2)),
 i1 17 (.bin .sub (.c (.int .i64 32)) (.s 16)) [3],
 i1 18 (.bin .shr (.s 15) (.s 17)) [2, 4],
 i1 6 (.mv (.s 18)) [5, 2, 0, 1, 2, 3, 4, 5],
 i1 7 (.mv (.c (.int .i64 0))) [6, 0, 1, 2, 3, 4, 5, 6]])
 .ret))), false, (some [(Sh.int .i64), (Sh.int .i64), (Sh.int .i64)]), (some (Sh.tu (Sh.pr (Sh.int .u64) (Sh.int .i64)))), false⟩

/-- euphroe/roots.Frac -/
def k78 : Fun := ⟨2, 15, [0, 1, 4, 5], [(.tmp 4)],
  (.seq (rf [i0 4 (.mv (.c (.int .u32 0)))])
 (.seq (rf [i0 8 (.mv (.s 0)),
 i0 9 (.mv (.s 1)),
 i1 10 (.call (.c (.fn 75 [])) [(.s 8), (.s 9), (.c (.int .i64 32))]) [0, 1],
 i1 7 (.mv (.s 10)) [2],
 i1 11 (.ext (.s 7) 0) [3],
 i1 12 (.ext (.s 7) 1) [3],
 i1 5 (.mv (.s 11)) [4, 2, 0, 1, 2, 3, 4],
 i1 6 (.mv (.s 12)) [5, 6, 0, 1, 2, 3, 4, 5, 6]])
 (.seq (rf [i0 13 (.mv (.s 5)),
 i1 14 (.cvi .u32 (.s 13)) [0],
 i1 4 (.mv (.s 14)) [1, 0, 1]])
 .ret))), false, (some [(Sh.int .i64), (Sh.int .i64)]), (some (Sh.int .u32)), false⟩

/-- euphroe/roots.Primes -/
def k81 : Fun := ⟨1, 33, [0, 2, 3, 4, 6, 14, 17, 18, 19, 20, 26], [(.tmp 2)],
  (.seq (rf [i0 2 (.mv (.c .nils))])
 (.scope
 (.seq (rf [i0 3 (.mv (.c .nils))])
 (.seq (.label 0)
 (.seq (.seq (rf [i0 4 (.mv (.c (.int .i64 2)))])
 (.block 0
 (.loop ⟨0, [], false, [0, 3, 4], [(3, (.ints .i64 []), 1)]⟩
 (.seq (.seq (rf [i0 7 (.mv (.s 4)),
 i1 8 (.bin .lss (.s 7) (.c (.int .i64 1000))) [0],
 i1 9 (.mv (.s 8)) [1],
 ⟨(some 10), (.mv (.s 3)), (some (9, true)), [2]⟩,
 ⟨(some 11), (.len false (.s 10)), (some (9, true)), [3, 2]⟩,
 ⟨(some 12), (.mv (.s 0)), (some (9, true)), [2]⟩,
 ⟨(some 13), (.bin .lss (.s 11) (.s 12)), (some (9, true)), [4, 5, 2]⟩,
 i1 14 (.pick (.s 9) (.s 13) (.c (.bool false))) [2, 6]])
 (.cond (.s 14)
 .skip
 (.pre ⟨0, [], false, [3], []⟩ (.exit 0))))
 (.seq (.block 1
 (.seq (.seq (rf [i0 17 (.mv (.s 3)),
 i1 18 (.len false (.s 17)) [0],
 i0 19 (.mv (.c (.int .i64 0)))])
 (.block 2
 (.loop ⟨1, [], false, [0, 3, 4, 17, 18, 19], []⟩
 (.seq (rf [i0 20 (.bin .lss (.s 19) (.s 18))])
 (.seq (.cond (.s 20)
 .skip
 (.pre ⟨0, [], false, [0, 3, 4], []⟩ (.exit 2)))
 (.seq (.block 3
 (.seq (rf [i0 21 (.iad 1 (.s 17) (.s 19)),
 i1 22 (.ldc (.s 21)) [0],
 i1 6 (.mv (.s 22)) [1, 0, 1]])
 (.seq (rf [i0 23 (.mv (.s 4)),
 i0 24 (.mv (.s 6)),
 i1 25 (.bin .rem (.s 23) (.s 24)) [0, 1],
 i1 26 (.bin .eql (.s 25) (.c (.int .i64 0))) [2]])
 (.cond (.s 26)
 (.pre ⟨0, [], false, [0, 3, 4], []⟩ (.exit 1))
 .skip))))
 (rf [i0 27 (.bin .add (.s 19) (.c (.int .i64 1))),
 i1 19 (.mv (.s 27)) [0]])))))))
 (rf [i0 28 (.mv (.s 3)),
 i0 29 (.mv (.s 4)),
 i1 30 (.bsl 1 1 (.ints .i64 [0]) [(0, 1, (.s 29))]) [1],
 i1 31 (.app 1 8 (.s 28) (.s 30)) [0, 2],
 i1 3 (.mv (.s 31)) [3, 3, 0, 1, 2, 3]])))
 (rf [i0 15 (.mv (.s 4)),
 i1 16 (.bin .add (.s 15) (.c (.int .i64 1))) [0],
 i1 4 (.mv (.s 16)) [1, 0, 1]]))))))
 (.seq (rf [i0 32 (.mv (.s 3)),
 i1 2 (.mv (.s 32)) [0, 0]])
 .ret)))))), false, (some [(Sh.int .i64)]), (some (Sh.sl (Sh.int .i64))), false⟩

/-- euphroe/roots.Fracs -/
def k83 : Fun := ⟨2, 23, [0, 1, 4, 5, 7, 9, 10, 11, 12], [(.tmp 4)],
  (.seq (rf [i0 4 (.mv (.c .nils))])
 (.seq (rf [i0 5 (.mv (.c .nils))])
 (.seq (.seq (rf [i0 8 (.mv (.s 0)),
 i1 9 (.call (.c (.fn 81 [])) [(.s 8)]) [0],
 i1 10 (.len false (.s 9)) [1],
 i0 11 (.mv (.c (.int .i64 0)))])
 (.block 0
 (.loop ⟨0, [], false, [1, 5, 9, 10, 11], [(5, (.ints .u32 []), 1)]⟩
 (.seq (rf [i0 12 (.bin .lss (.s 11) (.s 10))])
 (.seq (.cond (.s 12)
 .skip
 (.pre ⟨0, [], false, [5], []⟩ (.exit 0)))
 (.seq (.block 1
 (.seq (rf [i0 13 (.iad 1 (.s 9) (.s 11)),
 i1 14 (.ldc (.s 13)) [0],
 i1 7 (.mv (.s 14)) [1, 0, 1]])
 (rf [i0 15 (.mv (.s 5)),
 i0 16 (.mv (.s 7)),
 i0 17 (.mv (.s 1)),
 i1 18 (.call (.c (.fn 78 [])) [(.s 16), (.s 17)]) [1, 2],
 i1 19 (.bsl 1 1 (.ints .u32 [0]) [(0, 1, (.s 18))]) [3],
 i1 20 (.app 1 4 (.s 15) (.s 19)) [0, 4, 3],
 i1 5 (.mv (.s 20)) [5, 5, 0, 1, 2, 3, 4, 5]])))
 (rf [i0 21 (.bin .add (.s 11) (.c (.int .i64 1))),
 i1 11 (.mv (.s 21)) [0]])))))))
 (.seq (rf [i0 22 (.mv (.s 5)),
 i1 4 (.mv (.s 22)) [0, 0]])
 .ret)))), false, (some [(Sh.int .i64), (Sh.int .i64)]), (some (Sh.sl (Sh.int .u32))), false⟩

/-- euphroe/roots.may -/
def k100 : Fun := ⟨3, 29, [0, 1, 2, 6], [(.tmp 6)],
  (.seq (rf [i0 6 (.mv (.c (.bool false)))])
 (.seq (rf [i0 7 (.mv (.s 0)),
 i1 8 (.bin .geq (.s 7) (.c (.int .i64 0))) [0],
 i1 9 (.mv (.s 8)) [1],
 ⟨(some 10), (.mv (.s 0)), (some (9, true)), [2]⟩,
 ⟨(some 11), (.bin .leq (.s 10) (.c (.int .i64 1000))), (some (9, true)), [3, 2]⟩,
 i1 12 (.pick (.s 9) (.s 11) (.c (.bool false))) [2, 4],
 i1 13 (.mv (.s 12)) [5, 2],
 ⟨(some 14), (.mv (.s 1)), (some (13, true)), [6]⟩,
 ⟨(some 15), (.bin .eql (.s 14) (.c (.int .i64 2))), (some (13, true)), [7, 6]⟩,
 ⟨(some 16), (.mv (.s 15)), (some (13, true)), [8, 6, 6]⟩,
 ⟨(some 17), (.mv (.s 1)), (some (16, false)), [9]⟩,
 ⟨(some 18), (.bin .eql (.s 17) (.c (.int .i64 3))), (some (16, false)), [10, 9]⟩,
 ⟨(some 19), (.pick (.s 16) (.c (.bool true)) (.s 18)), (some (13, true)), [9, 11, 6]⟩,
 i1 20 (.pick (.s 13) (.s 19) (.c (.bool false))) [6, 12],
 i1 21 (.mv (.s 20)) [13, 9],
 ⟨(some 22), (.mv (.s 2)), (some (21, true)), [14]⟩,
 ⟨(some 23), (.bin .geq (.s 22) (.c (.int .i64 0))), (some (21, true)), [15, 14]⟩,
 i1 24 (.pick (.s 21) (.s 23) (.c (.bool false))) [14, 16],
 i1 25 (.mv (.s 24)) [17, 14],
 ⟨(some 26), (.mv (.s 2)), (some (25, true)), [18]⟩,
 ⟨(some 27), (.bin .leq (.s 26) (.c (.int .i64 32))), (some (25, true)), [19, 18]⟩,
 i1 28 (.pick (.s 25) (.s 27) (.c (.bool false))) [18, 20],
 i1 6 (.mv (.s 28)) [21, 18, 0, 1, 2, 3, 4, 5, 6, 7, 8, 9, 10, 11, 12, 13, 14, 15, 16, 17, 18, 19, 20, 21]])
 .ret)), false, (some [(Sh.int .i64), (Sh.int .i64), (Sh.int .i64)]), (some Sh.bool), false⟩

/-- euphroe/roots.full -/
def k101 : Fun := ⟨2, 8, [0, 1, 2, 3, 4], [(.tmp 4)],
  (.seq (rf [i0 2 (.box (.s 0)),
 i0 3 (.box (.s 1)),
 i0 4 (.mv (.c (.int .u64 0)))])
 (.seq (rf [i0 5 (.mkf 115 [(.s 2), (.s 3)]),
 i1 6 (.call (.c (.fn 114 [])) [(.c (.int .i64 274877906944)), (.s 5)]) [0],
 i1 7 (.cvi .u64 (.s 6)) [1],
 i1 4 (.mv (.s 7)) [2, 1, 0, 1, 2]])
 .ret)), false, (some [(Sh.int .i64), (Sh.int .i64)]), (some (Sh.int .u64)), false⟩

/-- sort.Search -/
def k114 : Fun := ⟨2, 26, [0, 1, 4, 5, 6, 7, 11, 21], [(.tmp 4)],
  (.seq (rf [i0 4 (.mv (.c (.int .i64 0)))])
 (.seq (rf [i0 8 (.mv (.s 0)),
 i0 5 (.mv (.c (.int .i64 0))),
 i1 6 (.mv (.s 8)) [0, 1, 0, 1]])
 (.seq (.block 0
 (.loop ⟨0, [], false, [1, 5, 6], []⟩
 (.seq (.seq (rf [i0 9 (.mv (.s 5)),
 i0 10 (.mv (.s 6)),
 i1 11 (.bin .lss (.s 9) (.s 10)) [0, 1]])
 (.cond (.s 11)
 .skip
 (.pre ⟨0, [], false, [5], []⟩ (.exit 0))))
 (.block 1
 (.seq (rf [i0 12 (.mv (.s 5)),
 i0 13 (.mv (.s 6)),
 i1 14 (.bin .add (.s 12) (.s 13)) [0, 1],
 i1 15 (.cvi .u64 (.s 14)) [2],
 i1 16 (.bin .shr (.s 15) (.c (.int .u64 1))) [3],
 i1 17 (.cvi .i64 (.s 16)) [4],
 i1 7 (.mv (.s 17)) [5, 0, 1, 2, 3, 4, 5]])
 (.seq (rf [i0 18 (.mv (.s 1)),
 i0 19 (.mv (.s 7)),
 i1 20 (.call (.s 18) [(.s 19)]) [0, 1],
 i1 21 (.un .not (.s 20)) [2]])
 (.cond (.s 21)
 (rf [i0 22 (.mv (.s 7)),
 i1 23 (.bin .add (.s 22) (.c (.int .i64 1))) [0],
 i1 5 (.mv (.s 23)) [1, 0, 1]])
 (rf [i0 24 (.mv (.s 7)),
 i1 6 (.mv (.s 24)) [0, 0]]))))))))
 (.seq (rf [i0 25 (.mv (.s 5)),
 i1 4 (.mv (.s 25)) [0, 0]])
 .ret)))), false, none, none, false⟩

/-- euphroe/roots.full$1 -/
def k115 : Fun := ⟨3, 13, [0, 1, 2, 4], [(.tmp 4)],
  (.seq (rf [i0 4 (.mv (.c (.bool false)))])
 (.seq (rf [i0 5 (.mv (.s 0)),
 i1 6 (.cvi .u64 (.s 5)) [0],
 i1 7 (.bin .add (.s 6) (.c (.int .u64 1))) [1],
 i0 8 (.ldc (.s 1)),
 i1 9 (.cvi .u64 (.s 8)) [3],
 i0 10 (.ldc (.s 2)),
 i1 11 (.call (.c (.fn 116 [])) [(.s 7), (.s 9), (.s 10)]) [2, 4, 5],
 i1 12 (.un .not (.s 11)) [6],
 i1 4 (.mv (.s 12)) [7, 6, 0, 1, 2, 3, 4, 5, 6, 7]])
 .ret)), false, none, none, false⟩

/-- euphroe/roots.fits -/
def k116 : Fun := ⟨3, 57, [0, 1, 2, 6, 7, 8, 9, 10, 11, 19], [(.tmp 6)],
  (.seq (rf [i0 6 (.mv (.c (.bool false)))])
 (.seq (rf [i0 13 (.mv (.s 0)),
 i0 14 (.mv (.s 0)),
 i1 15 (.call (.c (.fn 120 [])) [(.s 13), (.s 14)]) [0, 1],
 i1 12 (.mv (.s 15)) [2],
 i1 16 (.ext (.s 12) 0) [3],
 i1 17 (.ext (.s 12) 1) [3],
 i1 7 (.mv (.s 16)) [4, 2, 0, 1, 2, 3, 4],
 i1 8 (.mv (.s 17)) [5, 6, 0, 1, 2, 3, 4, 5, 6]])
 (.seq (.seq (rf [i0 18 (.mv (.s 2)),
 i1 19 (.bin .eql (.s 18) (.c (.int .i64 2))) [0]])
 (.cond (.s 19)
 (.seq (rf [i0 20 (.mv (.s 7)),
 i0 21 (.mv (.s 1)),
 i1 22 (.bin .lss (.s 20) (.s 21)) [0, 1],
 i1 23 (.mv (.s 22)) [2],
 ⟨(some 24), (.mv (.s 7)), (some (23, false)), [3]⟩,
 ⟨(some 25), (.mv (.s 1)), (some (23, false)), [3]⟩,
 ⟨(some 26), (.bin .eql (.s 24) (.s 25)), (some (23, false)), [4, 5, 3]⟩,
 ⟨(some 27), (.mv (.s 26)), (some (23, false)), [6, 3, 3]⟩,
 ⟨(some 28), (.mv (.s 8)), (some (27, true)), [7]⟩,
 ⟨(some 29), (.bin .eql (.s 28) (.c (.int .u64 0))), (some (27, true)), [8, 7]⟩,
 ⟨(some 30), (.pick (.s 27) (.s 29) (.c (.bool false))), (some (23, false)), [7, 9, 3]⟩,
 i1 31 (.pick (.s 23) (.c (.bool true)) (.s 30)) [3, 10],
 i1 6 (.mv (.s 31)) [11, 7, 0, 1, 2, 3, 4, 5, 6, 7, 8, 9, 10, 11]])
 .ret)
 .skip))
 (.seq (rf [i0 33 (.mv (.s 8)),
 i0 34 (.mv (.s 0)),
 i1 35 (.call (.c (.fn 120 [])) [(.s 33), (.s 34)]) [0, 1],
 i1 32 (.mv (.s 35)) [2],
 i1 36 (.ext (.s 32) 0) [3],
 i1 37 (.ext (.s 32) 1) [3],
 i1 9 (.mv (.s 36)) [4, 2, 0, 1, 2, 3, 4],
 i1 10 (.mv (.s 37)) [5, 6, 0, 1, 2, 3, 4, 5, 6]])
 (.seq (rf [i0 38 (.mv (.s 7)),
 i0 39 (.mv (.s 0)),
 i1 40 (.bin .mul (.s 38) (.s 39)) [0, 1],
 i0 41 (.mv (.s 9)),
 i1 42 (.bin .add (.s 40) (.s 41)) [2, 3],
 i1 11 (.mv (.s 42)) [4, 0, 1, 2, 3, 4]])
 (.seq (rf [i0 43 (.mv (.s 11)),
 i0 44 (.mv (.s 1)),
 i1 45 (.bin .shl (.s 44) (.c (.int .u64 32))) [1],
 i1 46 (.bin .lss (.s 43) (.s 45)) [0, 2],
 i1 47 (.mv (.s 46)) [3],
 ⟨(some 48), (.mv (.s 11)), (some (47, false)), [4]⟩,
 ⟨(some 49), (.mv (.s 1)), (some (47, false)), [4]⟩,
 ⟨(some 50), (.bin .shl (.s 49) (.c (.int .u64 32))), (some (47, false)), [6, 4]⟩,
 ⟨(some 51), (.bin .eql (.s 48) (.s 50)), (some (47, false)), [5, 7, 4]⟩,
 ⟨(some 52), (.mv (.s 51)), (some (47, false)), [8, 4, 4]⟩,
 ⟨(some 53), (.mv (.s 10)), (some (52, true)), [9]⟩,
 ⟨(some 54), (.bin .eql (.s 53) (.c (.int .u64 0))), (some (52, true)), [10, 9]⟩,
 ⟨(some 55), (.pick (.s 52) (.s 54) (.c (.bool false))), (some (47, false)), [9, 11, 4]⟩,
 i1 56 (.pick (.s 47) (.c (.bool true)) (.s 55)) [4, 12],
 i1 6 (.mv (.s 56)) [13, 9, 0, 1, 2, 3, 4, 5, 6, 7, 8, 9, 10, 11, 12, 13]])
 .ret)))))), false, (some [(Sh.int .u64), (Sh.int .u64), (Sh.int .i64)]), (some Sh.bool), false⟩

/-- math/bits.Mul64 -/
def k120 : Fun := ⟨2, 51, [0, 1, 4, 5, 6, 7, 8, 9, 10, 11, 12, 13], [(.tmp 4), (.tmp 5)],
  (.seq (rf [i0 4 (.mv (.c (.int .u64 0))),
 i1 5 (.mv (.c (.int .u64 0))) [0]])
 (.seq (rf [i0 14 (.mv (.s 0)),
 i1 15 (.bin .and (.s 14) (.c (.int .u64 4294967295))) [0],
 i1 6 (.mv (.s 15)) [1, 0, 1]])
 (.seq (rf [i0 16 (.mv (.s 0)),
 i1 17 (.bin .shr (.s 16) (.c (.int .u64 32))) [0],
 i1 7 (.mv (.s 17)) [1, 0, 1]])
 (.seq (rf [i0 18 (.mv (.s 1)),
 i1 19 (.bin .and (.s 18) (.c (.int .u64 4294967295))) [0],
 i1 8 (.mv (.s 19)) [1, 0, 1]])
 (.seq (rf [i0 20 (.mv (.s 1)),
 i1 21 (.bin .shr (.s 20) (.c (.int .u64 32))) [0],
 i1 9 (.mv (.s 21)) [1, 0, 1]])
 (.seq (rf [i0 22 (.mv (.s 6)),
 i0 23 (.mv (.s 8)),
 i1 24 (.bin .mul (.s 22) (.s 23)) [0, 1],
 i1 10 (.mv (.s 24)) [2, 0, 1, 2]])
 (.seq (rf [i0 25 (.mv (.s 7)),
 i0 26 (.mv (.s 8)),
 i1 27 (.bin .mul (.s 25) (.s 26)) [0, 1],
 i0 28 (.mv (.s 10)),
 i1 29 (.bin .shr (.s 28) (.c (.int .u64 32))) [3],
 i1 30 (.bin .add (.s 27) (.s 29)) [2, 4],
 i1 11 (.mv (.s 30)) [5, 0, 1, 2, 3, 4, 5]])
 (.seq (rf [i0 31 (.mv (.s 11)),
 i1 32 (.bin .and (.s 31) (.c (.int .u64 4294967295))) [0],
 i1 12 (.mv (.s 32)) [1, 0, 1]])
 (.seq (rf [i0 33 (.mv (.s 11)),
 i1 34 (.bin .shr (.s 33) (.c (.int .u64 32))) [0],
 i1 13 (.mv (.s 34)) [1, 0, 1]])
 (.seq (rf [i0 35 (.mv (.s 12)),
 i0 36 (.mv (.s 6)),
 i0 37 (.mv (.s 9)),
 i1 38 (.bin .mul (.s 36) (.s 37)) [1, 2],
 i1 39 (.bin .add (.s 35) (.s 38)) [0, 3],
 i1 12 (.mv (.s 39)) [4, 0, 1, 2, 3, 4]])
 (.seq (rf [i0 40 (.mv (.s 7)),
 i0 41 (.mv (.s 9)),
 i1 42 (.bin .mul (.s 40) (.s 41)) [0, 1],
 i0 43 (.mv (.s 13)),
 i1 44 (.bin .add (.s 42) (.s 43)) [2, 3],
 i0 45 (.mv (.s 12)),
 i1 46 (.bin .shr (.s 45) (.c (.int .u64 32))) [5],
 i1 47 (.bin .add (.s 44) (.s 46)) [4, 6],
 i1 4 (.mv (.s 47)) [7, 0, 1, 2, 3, 4, 5, 6, 7]])
 (.seq (rf [i0 48 (.mv (.s 0)),
 i0 49 (.mv (.s 1)),
 i1 50 (.bin .mul (.s 48) (.s 49)) [0, 1],
 i1 5 (.mv (.s 50)) [2, 0, 1, 2]])
 .ret)))))))))))), false, (some [(Sh.int .u64), (Sh.int .u64)]), (some (Sh.tu (Sh.pr (Sh.int .u64) (Sh.int .u64)))), false⟩

/-- euphroe/attr.Lay -/
def k139 : Fun := ⟨1, 33, [0, 1, 2, 3, 4, 5, 11, 16], [(.tmp 2), (.tmp 3)],
  (.seq (rf [i0 1 (.box (.s 0)),
 i0 2 (.mv (.c .nils)),
 i1 3 (.mv (.c (.int .i64 0))) [1]])
 (.seq (rf [i0 7 (.fad 1 (.s 1)),
 i1 8 (.ldc (.s 7)) [0],
 i1 9 (.len false (.s 8)) [1],
 i1 10 (.bin .add (.c (.int .i64 4)) (.s 9)) [2],
 i1 4 (.mv (.s 10)) [3, 0, 1, 2, 3]])
 (.seq (.block 0
 (.seq (rf [i0 12 (.fad 0 (.s 1)),
 i1 13 (.ldc (.s 12)) [0],
 i1 14 (.call (.c (.fn 161 [])) [(.s 13)]) [1],
 i1 15 (.un .not (.s 14)) [2],
 i1 11 (.mv (.s 15)) [3, 2]])
 (.cond (.s 11)
 (.seq (rf [i0 2 (.mv (.c .nils)),
 i1 3 (.mv (.c (.int .i64 9))) [0, 0]])
 .ret)
 (.seq (rf [i0 17 (.mv (.s 4)),
 i1 18 (.bin .gtr (.s 17) (.c (.int .i64 4095))) [0],
 i1 16 (.mv (.s 18)) [1]])
 (.cond (.s 16)
 (.seq (rf [i0 2 (.mv (.c .nils)),
 i1 3 (.mv (.c (.int .i64 8))) [0, 0]])
 .ret)
 .skip)))))
 (.seq (rf [i0 20 (.mv (.s 4)),
 i1 21 (.cvi .u64 (.s 20)) [0],
 i1 22 (.call (.c (.fn 19 [])) [(.s 21), (.c (.int .i64 2)), (.c (.bool false))]) [1],
 i1 19 (.mv (.s 22)) [2],
 i1 23 (.ext (.s 19) 0) [3],
 i1 24 (.ext (.s 19) 1) [3],
 i1 5 (.mv (.s 23)) [4, 2, 0, 1, 2, 3, 4],
 i1 6 (.mv (.s 24)) [5, 6, 0, 1, 2, 3, 4, 5, 6]])
 (.seq (rf [i0 25 (.fad 0 (.s 1)),
 i1 26 (.ldc (.s 25)) [0],
 i1 27 (.bsl 2 1 (.ints .u8 [0, 0]) [(0, 1, (.c (.int .u8 0))), (1, 1, (.s 26))]) [1],
 i0 28 (.mv (.s 5)),
 i0 29 (.fad 1 (.s 1)),
 i1 30 (.ldc (.s 29)) [4],
 i1 31 (.bsl 3 1 (.vals [.nils, .nils, .nils]) [(0, 1, (.s 27)), (1, 1, (.s 28)), (2, 1, (.s 30))]) [2, 3, 5],
 i1 32 (.call (.c (.fn 46 [])) [(.s 31)]) [6],
 i1 2 (.mv (.s 32)) [7, 7, 0, 1, 2, 3, 4, 5, 6, 7],
 i1 3 (.mv (.c (.int .i64 0))) [8, 0, 1, 2, 3, 4, 5, 6, 7, 8]])
 .ret))))), false, (some [(Sh.st (Sh.pr (Sh.int .u8) (Sh.sl (Sh.int .u8))))]), (some (Sh.tu (Sh.pr (Sh.sl (Sh.int .u8)) (Sh.int .i64)))), false⟩

/-- euphroe/attr.Check -/
def k145 : Fun := ⟨1, 56, [0, 1, 2, 3, 4, 5, 6, 7, 16, 21, 27, 33, 55], [(.tmp 2)],
  (.seq (rf [i0 1 (.box (.s 0)),
 i0 2 (.mv (.c (.int .i64 0)))])
 (.seq (rf [i0 9 (.fad 0 (.s 1)),
 i1 10 (.ldc (.s 9)) [0],
 i1 11 (.call (.c (.fn 163 [])) [(.s 10)]) [1],
 i1 8 (.mv (.s 11)) [2],
 i1 12 (.ext (.s 8) 0) [3],
 i1 13 (.ext (.s 8) 1) [3],
 i1 14 (.ext (.s 8) 2) [3],
 i1 15 (.ext (.s 8) 3) [3],
 i1 3 (.mv (.s 12)) [4, 2, 0, 1, 2, 3, 4],
 i1 4 (.mv (.s 13)) [5, 8, 0, 1, 2, 3, 4, 5, 8],
 i1 5 (.mv (.s 14)) [6, 9, 0, 1, 2, 3, 4, 5, 6, 8, 9],
 i1 6 (.mv (.s 15)) [7, 10, 0, 1, 2, 3, 4, 5, 6, 7, 8, 9, 10]])
 (.seq (.block 0
 (.seq (rf [i0 17 (.fad 0 (.s 1)),
 i1 18 (.ldc (.s 17)) [0],
 i1 19 (.call (.c (.fn 161 [])) [(.s 18)]) [1],
 i1 20 (.un .not (.s 19)) [2],
 i1 16 (.mv (.s 20)) [3, 2]])
 (.cond (.s 16)
 (.seq (rf [i0 2 (.mv (.c (.int .i64 9)))])
 .ret)
 (.seq (rf [i0 22 (.fad 1 (.s 1)),
 i1 23 (.ldc (.s 22)) [0],
 i1 24 (.len false (.s 23)) [1],
 i0 25 (.mv (.s 3)),
 i1 26 (.bin .lss (.s 24) (.s 25)) [2, 3],
 i1 21 (.mv (.s 26)) [4]])
 (.cond (.s 21)
 (.seq (rf [i0 2 (.mv (.c (.int .i64 4)))])
 .ret)
 (.seq (rf [i0 28 (.fad 1 (.s 1)),
 i1 29 (.ldc (.s 28)) [0],
 i1 30 (.len false (.s 29)) [1],
 i0 31 (.mv (.s 4)),
 i1 32 (.bin .gtr (.s 30) (.s 31)) [2, 3],
 i1 27 (.mv (.s 32)) [4]])
 (.cond (.s 27)
 (.seq (rf [i0 2 (.mv (.c (.int .i64 3)))])
 .ret)
 (.seq (rf [i0 34 (.fad 0 (.s 1)),
 i1 35 (.ldc (.s 34)) [0],
 i1 36 (.bin .eql (.s 35) (.c (.int .u8 1))) [1],
 i1 33 (.mv (.s 36)) [2]])
 (.cond (.s 33)
 (.seq (rf [i0 2 (.mv (.c (.int .i64 0)))])
 .ret)
 .skip)))))))))
 (.seq (rf [i0 37 (.fad 1 (.s 1)),
 i1 38 (.ldc (.s 37)) [0],
 i1 39 (.iad 1 (.s 38) (.c (.int .i64 3))) [1],
 i1 40 (.ldc (.s 39)) [2],
 i1 7 (.mv (.s 40)) [3, 0, 1, 2, 3]])
 (.seq (.seq (rt [i0 41 (.fad 1 (.s 1)),
 i1 42 (.ldc (.s 41)) [0],
 i0 43 (.mks (.ints .u8 [0]) 1 1 (.c (.int .i64 3)) (.c (.int .i64 3))),
 i1 44 (.call (.c (.fn 164 [])) [(.s 42), (.s 43)]) [1, 2],
 i1 45 (.un .not (.s 44)) [3],
 i1 46 (.mv (.s 45)) [4, 3],
 ⟨(some 47), (.mv (.s 7)), (some (46, false)), [5]⟩,
 ⟨(some 48), (.mv (.s 5)), (some (46, false)), [5]⟩,
 ⟨(some 49), (.bin .lss (.s 47) (.s 48)), (some (46, false)), [6, 7, 5]⟩,
 i1 50 (.pick (.s 46) (.c (.bool true)) (.s 49)) [5, 8],
 i1 51 (.mv (.s 50)) [9, 5],
 ⟨(some 52), (.mv (.s 7)), (some (51, false)), [10]⟩,
 ⟨(some 53), (.mv (.s 6)), (some (51, false)), [10]⟩,
 ⟨(some 54), (.bin .gtr (.s 52) (.s 53)), (some (51, false)), [11, 12, 10]⟩,
 i1 55 (.pick (.s 51) (.c (.bool true)) (.s 54)) [10, 13]])
 (.cond (.s 55)
 (.seq (rf [i0 2 (.mv (.c (.int .i64 3)))])
 .ret)
 .skip))
 (.seq (rf [i0 2 (.mv (.c (.int .i64 0)))])
 .ret)))))), false, (some [(Sh.st (Sh.pr (Sh.int .u8) (Sh.sl (Sh.int .u8))))]), (some (Sh.int .i64)), false⟩

/-- euphroe/attr.OfBinding -/
def k148 : Fun := ⟨1, 15, [0, 1, 2], [(.cell 2 2 true none)],
  (.seq (rf [i0 1 (.box (.s 0)),
 i0 2 (.new (.vals [(.int .u8 0), .nils]))])
 (.seq (rt [i0 3 (.fad 0 (.s 1)),
 i1 4 (.ldc (.s 3)) [0],
 i1 5 (.call (.c (.fn 166 [])) [(.s 4)]) [1],
 i0 6 (.fad 1 (.s 1)),
 i1 7 (.sla 32 1 (.s 6) none none none) [3],
 i0 8 (.fad 33 (.s 1)),
 i1 9 (.sla 32 1 (.s 8) none none none) [5],
 i0 10 (.fad 65 (.s 1)),
 i1 11 (.sla 32 1 (.s 10) none none none) [7],
 i1 12 (.bsl 4 1 (.vals [.nils, .nils, .nils, .nils]) [(0, 1, (.s 5)), (1, 1, (.s 7)), (2, 1, (.s 9)), (3, 1, (.s 11))]) [2, 4, 6, 8],
 i1 13 (.call (.c (.fn 46 [])) [(.s 12)]) [9, 2],
 i1 14 (.build (.vals [(.int .u8 0), .nils]) [(0, 1, (.c (.int .u8 3))), (1, 1, (.s 13))]) [10],
 ⟨none, (.stc 2 (.s 2) (.s 14)), none, [11, 10, 0, 1, 2, 3, 4, 5, 6, 7, 8, 9, 10, 11]⟩])
 .ret)), false, (some [(Sh.ar .u8)]), (some (Sh.st (Sh.pr (Sh.int .u8) (Sh.sl (Sh.int .u8))))), false⟩

/-- euphroe/attr.OfAsk -/
def k149 : Fun := ⟨1, 11, [0, 1, 2], [(.cell 2 2 true none)],
  (.seq (rf [i0 1 (.box (.s 0)),
 i0 2 (.new (.vals [(.int .u8 0), .nils]))])
 (.seq (rt [i0 3 (.fad 0 (.s 1)),
 i1 4 (.ldc (.s 3)) [0],
 i1 5 (.call (.c (.fn 166 [])) [(.s 4)]) [1],
 i0 6 (.fad 1 (.s 1)),
 i1 7 (.sla 32 1 (.s 6) none none none) [3],
 i1 8 (.bsl 2 1 (.vals [.nils, .nils]) [(0, 1, (.s 5)), (1, 1, (.s 7))]) [2, 4],
 i1 9 (.call (.c (.fn 46 [])) [(.s 8)]) [5, 2],
 i1 10 (.build (.vals [(.int .u8 0), .nils]) [(0, 1, (.c (.int .u8 4))), (1, 1, (.s 9))]) [6],
 ⟨none, (.stc 2 (.s 2) (.s 10)), none, [7, 6, 0, 1, 2, 3, 4, 5, 6, 7]⟩])
 .ret)), false, (some [(Sh.ar .u8)]), (some (Sh.st (Sh.pr (Sh.int .u8) (Sh.sl (Sh.int .u8))))), false⟩

/-- euphroe/attr.ToBinding -/
def k154 : Fun := ⟨1, 31, [0, 1, 2, 3, 4, 5, 9], [(.cell 2 97 true (some .u8)), (.tmp 3)],
  (.seq (rf [i0 1 (.box (.s 0)),
 i0 2 (.new (.ints .u8 [0, 0, 0, 0, 0, 0, 0, 0, 0, 0, 0, 0, 0, 0, 0, 0, 0, 0, 0, 0, 0, 0, 0, 0, 0, 0, 0, 0, 0, 0, 0, 0, 0, 0, 0, 0, 0, 0, 0, 0, 0, 0, 0, 0, 0, 0, 0, 0, 0, 0, 0, 0, 0, 0, 0, 0, 0, 0, 0, 0, 0, 0, 0, 0, 0, 0, 0, 0, 0, 0, 0, 0, 0, 0, 0, 0, 0, 0, 0, 0, 0, 0, 0, 0, 0, 0, 0, 0, 0, 0, 0, 0, 0, 0, 0, 0, 0])),
 i0 3 (.mv (.c (.int .i64 0)))])
 (.seq (.seq (rf [i0 6 (.lda 2 none (.s 1)),
 i1 7 (.call (.c (.fn 167 [])) [(.s 6), (.c (.int .u8 3))]) [0],
 i1 4 (.mv (.s 7)) [1, 1, 0, 1]])
 (.seq (rf [i0 8 (.mv (.s 4)),
 i1 9 (.bin .neq (.s 8) (.c (.int .i64 0))) [0]])
 (.cond (.s 9)
 (.seq (rf [i0 10 (.build (.ints .u8 [0, 0, 0, 0, 0, 0, 0, 0, 0, 0, 0, 0, 0, 0, 0, 0, 0, 0, 0, 0, 0, 0, 0, 0, 0, 0, 0, 0, 0, 0, 0, 0, 0, 0, 0, 0, 0, 0, 0, 0, 0, 0, 0, 0, 0, 0, 0, 0, 0, 0, 0, 0, 0, 0, 0, 0, 0, 0, 0, 0, 0, 0, 0, 0, 0, 0, 0, 0, 0, 0, 0, 0, 0, 0, 0, 0, 0, 0, 0, 0, 0, 0, 0, 0, 0, 0, 0, 0, 0, 0, 0, 0, 0, 0, 0, 0, 0]) []),
 i0 11 (.mv (.s 4)),
 ⟨none, (.stc 97 (.s 2) (.s 10)), none, [0, 0]⟩,
 i1 3 (.mv (.s 11)) [1, 2, 0, 1, 2]])
 .ret)
 .skip)))
 (.seq (rf [i0 12 (.fad 1 (.s 1)),
 i1 13 (.ldc (.s 12)) [0],
 i1 14 (.sls 1 (.s 13) (some (.c (.int .i64 4))) none none) [1],
 i1 5 (.mv (.s 14)) [2, 0, 1, 2]])
 (.seq (rt [i0 15 (.fad 1 (.s 1)),
 i1 16 (.ldc (.s 15)) [0],
 i1 17 (.iad 1 (.s 16) (.c (.int .i64 3))) [1],
 i1 18 (.ldc (.s 17)) [2],
 i0 19 (.mv (.s 5)),
 i1 20 (.s2a 32 (.s 19)) [4],
 i1 21 (.lda 32 (some .u8) (.s 20)) [5],
 i0 22 (.mv (.s 5)),
 i1 23 (.sls 1 (.s 22) (some (.c (.int .i64 32))) none none) [7],
 i1 24 (.s2a 32 (.s 23)) [8],
 i1 25 (.lda 32 (some .u8) (.s 24)) [9],
 i0 26 (.mv (.s 5)),
 i1 27 (.sls 1 (.s 26) (some (.c (.int .i64 64))) none none) [11],
 i1 28 (.s2a 32 (.s 27)) [12],
 i1 29 (.lda 32 (some .u8) (.s 28)) [13],
 i1 30 (.build (.ints .u8 [0, 0, 0, 0, 0, 0, 0, 0, 0, 0, 0, 0, 0, 0, 0, 0, 0, 0, 0, 0, 0, 0, 0, 0, 0, 0, 0, 0, 0, 0, 0, 0, 0, 0, 0, 0, 0, 0, 0, 0, 0, 0, 0, 0, 0, 0, 0, 0, 0, 0, 0, 0, 0, 0, 0, 0, 0, 0, 0, 0, 0, 0, 0, 0, 0, 0, 0, 0, 0, 0, 0, 0, 0, 0, 0, 0, 0, 0, 0, 0, 0, 0, 0, 0, 0, 0, 0, 0, 0, 0, 0, 0, 0, 0, 0, 0, 0]) [(0, 1, (.s 18)), (1, 32, (.s 21)), (33, 32, (.s 25)), (65, 32, (.s 29))]) [3, 6, 10, 14],
 ⟨none, (.stc 97 (.s 2) (.s 30)), none, [15, 0, 1, 2, 3, 4, 5, 6, 7, 8, 9, 10, 11, 12, 13, 14, 15]⟩,
 i1 3 (.mv (.c (.int .i64 0))) [16, 0, 1, 2, 3, 4, 5, 6, 7, 8, 9, 10, 11, 12, 13, 14, 15, 16]])
 .ret)))), false, (some [(Sh.st (Sh.pr (Sh.int .u8) (Sh.sl (Sh.int .u8))))]), (some (Sh.tu (Sh.pr (Sh.ar .u8) (Sh.int .i64)))), false⟩

/-- euphroe/attr.ToAsk -/
def k155 : Fun := ⟨1, 21, [0, 1, 2, 3, 4, 8], [(.cell 2 33 true (some .u8)), (.tmp 3)],
  (.seq (rf [i0 1 (.box (.s 0)),
 i0 2 (.new (.ints .u8 [0, 0, 0, 0, 0, 0, 0, 0, 0, 0, 0, 0, 0, 0, 0, 0, 0, 0, 0, 0, 0, 0, 0, 0, 0, 0, 0, 0, 0, 0, 0, 0, 0])),
 i0 3 (.mv (.c (.int .i64 0)))])
 (.seq (.seq (rf [i0 5 (.lda 2 none (.s 1)),
 i1 6 (.call (.c (.fn 167 [])) [(.s 5), (.c (.int .u8 4))]) [0],
 i1 4 (.mv (.s 6)) [1, 1, 0, 1]])
 (.seq (rf [i0 7 (.mv (.s 4)),
 i1 8 (.bin .neq (.s 7) (.c (.int .i64 0))) [0]])
 (.cond (.s 8)
 (.seq (rf [i0 9 (.build (.ints .u8 [0, 0, 0, 0, 0, 0, 0, 0, 0, 0, 0, 0, 0, 0, 0, 0, 0, 0, 0, 0, 0, 0, 0, 0, 0, 0, 0, 0, 0, 0, 0, 0, 0]) []),
 i0 10 (.mv (.s 4)),
 ⟨none, (.stc 33 (.s 2) (.s 9)), none, [0, 0]⟩,
 i1 3 (.mv (.s 10)) [1, 2, 0, 1, 2]])
 .ret)
 .skip)))
 (.seq (rt [i0 11 (.fad 1 (.s 1)),
 i1 12 (.ldc (.s 11)) [0],
 i1 13 (.iad 1 (.s 12) (.c (.int .i64 3))) [1],
 i1 14 (.ldc (.s 13)) [2],
 i0 15 (.fad 1 (.s 1)),
 i1 16 (.ldc (.s 15)) [4],
 i1 17 (.sls 1 (.s 16) (some (.c (.int .i64 4))) none none) [5],
 i1 18 (.s2a 32 (.s 17)) [6],
 i1 19 (.lda 32 (some .u8) (.s 18)) [7],
 i1 20 (.build (.ints .u8 [0, 0, 0, 0, 0, 0, 0, 0, 0, 0, 0, 0, 0, 0, 0, 0, 0, 0, 0, 0, 0, 0, 0, 0, 0, 0, 0, 0, 0, 0, 0, 0, 0]) [(0, 1, (.s 14)), (1, 32, (.s 19))]) [3, 8],
 ⟨none, (.stc 33 (.s 2) (.s 20)), none, [9, 0, 1, 2, 3, 4, 5, 6, 7, 8, 9]⟩,
 i1 3 (.mv (.c (.int .i64 0))) [10, 0, 1, 2, 3, 4, 5, 6, 7, 8, 9, 10]])
 .ret))), false, (some [(Sh.st (Sh.pr (Sh.int .u8) (Sh.sl (Sh.int .u8))))]), (some (Sh.tu (Sh.pr (Sh.ar .u8) (Sh.int .i64)))), false⟩

/-- bytes.Equal -/
def k160 : Fun := ⟨2, 10, [0, 1, 4], [(.tmp 4)],
  (.seq (rf [i0 4 (.mv (.c (.bool false)))])
 (.seq (rf [i0 5 (.mv (.s 0)),
 i1 6 (.b2s (.s 5)) [0],
 i0 7 (.mv (.s 1)),
 i1 8 (.b2s (.s 7)) [2],
 i1 9 (.bin .eql (.s 6) (.s 8)) [1, 3],
 i1 4 (.mv (.s 9)) [4, 0, 1, 2, 3, 4]])
 .ret)), false, (some [(Sh.sl (Sh.int .u8)), (Sh.sl (Sh.int .u8))]), (some Sh.bool), false⟩

/-- euphroe/attr.isKind -/
def k161 : Fun := ⟨1, 9, [0, 2], [(.tmp 2)],
  (.seq (rf [i0 2 (.mv (.c (.bool false)))])
 (.seq (rf [i0 3 (.mv (.s 0)),
 i1 4 (.bin .geq (.s 3) (.c (.int .u8 1))) [0],
 i1 5 (.mv (.s 4)) [1],
 ⟨(some 6), (.mv (.s 0)), (some (5, true)), [2]⟩,
 ⟨(some 7), (.bin .leq (.s 6) (.c (.int .u8 4))), (some (5, true)), [3, 2]⟩,
 i1 8 (.pick (.s 5) (.s 7) (.c (.bool false))) [2, 4],
 i1 2 (.mv (.s 8)) [5, 2, 0, 1, 2, 3, 4, 5]])
 .ret)), false, (some [(Sh.int .u8)]), (some Sh.bool), false⟩

/-- euphroe/attr.limits -/
def k163 : Fun := ⟨1, 13, [0, 2, 3, 4, 5, 6, 7, 9, 11], [(.tmp 2), (.tmp 3), (.tmp 4), (.tmp 5)],
  (.seq (rf [i0 2 (.mv (.c (.int .i64 0))),
 i1 3 (.mv (.c (.int .i64 0))) [0],
 i1 4 (.mv (.c (.int .u8 0))) [1],
 i1 5 (.mv (.c (.int .u8 0))) [2]])
 (.seq (rf [i0 6 (.mv (.s 0))])
 (.block 0
 (.seq (rf [i0 8 (.bin .eql (.s 6) (.c (.int .u8 2))),
 i1 7 (.mv (.s 8)) [0]])
 (.cond (.s 7)
 (.seq (rf [i0 2 (.mv (.c (.int .i64 8))),
 i1 3 (.mv (.c (.int .i64 72))) [0, 0],
 i1 4 (.mv (.c (.int .u8 0))) [1, 0, 1],
 i1 5 (.mv (.c (.int .u8 4))) [2, 0, 1, 2]])
 .ret)
 (.seq (rf [i0 10 (.bin .eql (.s 6) (.c (.int .u8 3))),
 i1 9 (.mv (.s 10)) [0]])
 (.cond (.s 9)
 (.seq (rf [i0 2 (.mv (.c (.int .i64 100))),
 i1 3 (.mv (.c (.int .i64 100))) [0, 0],
 i1 4 (.mv (.c (.int .u8 1))) [1, 0, 1],
 i1 5 (.mv (.c (.int .u8 2))) [2, 0, 1, 2]])
 .ret)
 (.seq (rf [i0 12 (.bin .eql (.s 6) (.c (.int .u8 4))),
 i1 11 (.mv (.s 12)) [0]])
 (.cond (.s 11)
 (.seq (rf [i0 2 (.mv (.c (.int .i64 36))),
 i1 3 (.mv (.c (.int .i64 36))) [0, 0],
 i1 4 (.mv (.c (.int .u8 1))) [1, 0, 1],
 i1 5 (.mv (.c (.int .u8 3))) [2, 0, 1, 2]])
 .ret)
 (.seq (rf [i0 2 (.mv (.c (.int .i64 2))),
 i1 3 (.mv (.c (.int .i64 2))) [0, 0],
 i1 4 (.mv (.c (.int .u8 0))) [1, 0, 1],
 i1 5 (.mv (.c (.int .u8 0))) [2, 0, 1, 2]])
 .ret)))))))))), false, (some [(Sh.int .u8)]), (some (Sh.tu (Sh.pr (Sh.int .i64) (Sh.pr (Sh.int .i64) (Sh.pr (Sh.int .u8) (Sh.int .u8)))))), false⟩

/-- bytes.HasPrefix -/
def k164 : Fun := ⟨2, 18, [0, 1, 4], [(.tmp 4)],
  (.seq (rf [i0 4 (.mv (.c (.bool false)))])
 (.seq (rf [i0 5 (.mv (.s 0)),
 i1 6 (.len false (.s 5)) [0],
 i0 7 (.mv (.s 1)),
 i1 8 (.len false (.s 7)) [2],
 i1 9 (.bin .geq (.s 6) (.s 8)) [1, 3],
 i1 10 (.mv (.s 9)) [4],
 ⟨(some 11), (.mv (.s 0)), (some (10, true)), [5]⟩,
 ⟨(some 12), (.mv (.s 1)), (some (10, true)), [5]⟩,
 ⟨(some 13), (.len false (.s 12)), (some (10, true)), [7, 5]⟩,
 ⟨(some 14), (.sls 1 (.s 11) none (some (.s 13)) none), (some (10, true)), [6, 8, 5]⟩,
 ⟨(some 15), (.mv (.s 1)), (some (10, true)), [5]⟩,
 ⟨(some 16), (.call (.c (.fn 160 [])) [(.s 14), (.s 15)]), (some (10, true)), [9, 10, 5, 5]⟩,
 i1 17 (.pick (.s 10) (.s 16) (.c (.bool false))) [5, 11],
 i1 4 (.mv (.s 17)) [12, 11, 0, 1, 2, 3, 4, 5, 6, 7, 8, 9, 10, 11, 12]])
 .ret)), false, (some [(Sh.sl (Sh.int .u8)), (Sh.sl (Sh.int .u8))]), (some Sh.bool), false⟩

/-- euphroe/attr.ahead -/
def k166 : Fun := ⟨1, 5, [0, 2], [(.tmp 2)],
  (.seq (rf [i0 2 (.mv (.c .nils))])
 (.seq (rf [i0 3 (.mv (.s 0)),
 i1 4 (.bsl 4 1 (.ints .u8 [0, 0, 0, 0]) [(0, 1, (.c (.int .u8 0))), (1, 1, (.c (.int .u8 0))), (2, 1, (.c (.int .u8 0))), (3, 1, (.s 3))]) [0],
 i1 2 (.mv (.s 4)) [1, 0, 1]])
 .ret)), false, (some [(Sh.int .u8)]), (some (Sh.sl (Sh.int .u8))), false⟩

/-- euphroe/attr.is -/
def k167 : Fun := ⟨2, 11, [0, 1, 2, 4, 8], [(.tmp 4)],
  (.seq (rf [i0 2 (.box (.s 0)),
 i0 4 (.mv (.c (.int .i64 0)))])
 (.seq (.seq (rf [i0 5 (.fad 0 (.s 2)),
 i1 6 (.ldc (.s 5)) [0],
 i0 7 (.mv (.s 1)),
 i1 8 (.bin .neq (.s 6) (.s 7)) [1, 2]])
 (.cond (.s 8)
 (.seq (rf [i0 4 (.mv (.c (.int .i64 9)))])
 .ret)
 .skip))
 (.seq (rf [i0 9 (.lda 2 none (.s 2)),
 i1 10 (.call (.c (.fn 145 [])) [(.s 9)]) [0],
 i1 4 (.mv (.s 10)) [1, 1, 0, 1]])
 .ret))), false, (some [(Sh.st (Sh.pr (Sh.int .u8) (Sh.sl (Sh.int .u8)))), (Sh.int .u8)]), (some (Sh.int .i64)), false⟩

/-- math/bits.RotateLeft32 -/
def k195 : Fun := ⟨2, 17, [0, 1, 4, 5], [(.tmp 4)],
  (.seq (rf [i0 4 (.mv (.c (.int .u32 0)))])
 (.seq (rf [i0 6 (.mv (.s 1)),
 i1 7 (.cvi .u64 (.s 6)) [0],
 i1 8 (.bin .and (.s 7) (.c (.int .u64 31))) [1],
 i1 5 (.mv (.s 8)) [2, 0, 1, 2]])
 (.seq (rf [i0 9 (.mv (.s 0)),
 i0 10 (.mv (.s 5)),
 i1 11 (.bin .shl (.s 9) (.s 10)) [0, 1],
 i0 12 (.mv (.s 0)),
 i0 13 (.mv (.s 5)),
 i1 14 (.bin .sub (.c (.int .u64 32)) (.s 13)) [4],
 i1 15 (.bin .shr (.s 12) (.s 14)) [3, 5],
 i1 16 (.bin .or (.s 11) (.s 15)) [2, 6],
 i1 4 (.mv (.s 16)) [7, 0, 1, 2, 3, 4, 5, 6, 7]])
 .ret))), false, (some [(Sh.int .u32), (Sh.int .i64)]), (some (Sh.int .u32)), false⟩

/-- euphroe/sha256.Of -/
def k213 : Fun := ⟨1, 47, [0, 2, 3, 4, 5, 6, 7, 20, 30, 31], [(.cell 2 32 true (some .u8))],
  (.seq (rf [i0 2 (.new (.ints .u8 [0, 0, 0, 0, 0, 0, 0, 0, 0, 0, 0, 0, 0, 0, 0, 0, 0, 0, 0, 0, 0, 0, 0, 0, 0, 0, 0, 0, 0, 0, 0, 0]))])
 (.seq (rf [i0 8 (.mv (.s 0)),
 i1 9 (.call (.c (.fn 46 [])) [(.s 8)]) [0],
 i1 3 (.mv (.s 9)) [1, 1, 0, 1]])
 (.seq (rf [i0 10 (.mv (.s 3)),
 i0 11 (.mv (.s 3)),
 i1 12 (.len false (.s 11)) [1],
 i1 13 (.cvi .u64 (.s 12)) [2],
 i1 14 (.call (.c (.fn 217 [])) [(.s 13)]) [3],
 i1 15 (.app 1 1 (.s 10) (.s 14)) [0, 4, 4],
 i1 3 (.mv (.s 15)) [5, 5, 0, 1, 2, 3, 4, 5]])
 (.seq (rf [i0 16 (.call (.c (.fn 219 [])) []),
 i1 17 (.call (.c (.fn 83 [])) [(.c (.int .i64 64)), (.c (.int .i64 3))]) [0],
 i0 4 (.new (.ints .u32 [0, 0, 0, 0, 0, 0, 0, 0])),
 ⟨none, (.stc 8 (.s 4) (.s 16)), none, [2, 0, 1, 0, 2]⟩,
 i1 5 (.mv (.s 17)) [1, 3, 0, 1, 2, 3]])
 (.seq (.block 0
 (.loop ⟨0, [(3, (Sh.sl (Sh.int .u8)))], false, [2, 3, 4, 5], []⟩
 (.seq (.seq (rf [i0 18 (.mv (.s 3)),
 i1 19 (.len false (.s 18)) [0],
 i1 20 (.bin .gtr (.s 19) (.c (.int .i64 0))) [1]])
 (.cond (.s 20)
 .skip
 (.pre ⟨0, [], false, [2, 4], []⟩ (.exit 0))))
 (.seq (.block 1
 (rt [i0 23 (.lda 8 (some .u32) (.s 4)),
 i0 24 (.mv (.s 3)),
 i1 25 (.sls 1 (.s 24) none (some (.c (.int .i64 64))) none) [1],
 i1 26 (.s2a 64 (.s 25)) [2],
 i1 27 (.lda 64 (some .u8) (.s 26)) [3],
 i0 28 (.mv (.s 5)),
 i1 29 (.call (.c (.fn 229 [])) [(.s 23), (.s 27), (.s 28)]) [0, 4, 5],
 ⟨none, (.stc 8 (.s 4) (.s 29)), none, [6, 6, 0, 1, 2, 3, 4, 5, 6]⟩]))
 (rf [i0 21 (.mv (.s 3)),
 i1 22 (.sls 1 (.s 21) (some (.c (.int .i64 64))) none none) [0],
 i1 3 (.mv (.s 22)) [1, 0, 1]])))))
 (.seq (rf [i0 6 (.new (.ints .u8 [0, 0, 0, 0, 0, 0, 0, 0, 0, 0, 0, 0, 0, 0, 0, 0, 0, 0, 0, 0, 0, 0, 0, 0, 0, 0, 0, 0, 0, 0, 0, 0]))])
 (.seq (.seq (rf [i0 30 (.mv (.c (.int .i64 0)))])
 (.block 2
 (.loop ⟨1, [], false, [2, 4, 6, 30], []⟩
 (.seq (rf [i0 31 (.bin .lss (.s 30) (.c (.int .i64 32)))])
 (.seq (.cond (.s 31)
 .skip
 (.pre ⟨0, [], false, [2, 6], []⟩ (.exit 2)))
 (.seq (.block 3
 (.seq (rf [i0 32 (.mv (.s 30)),
 i1 7 (.mv (.s 32)) [0, 0]])
 (rf [i0 33 (.mv (.s 7)),
 i0 34 (.mv (.s 7)),
 i1 35 (.bin .quo (.s 34) (.c (.int .i64 4))) [1],
 i1 36 (.iaa 8 1 (.s 4) (.s 35)) [2],
 i1 37 (.ldc (.s 36)) [3],
 i0 38 (.mv (.s 7)),
 i1 39 (.bin .rem (.s 38) (.c (.int .i64 4))) [5],
 i1 40 (.bin .sub (.c (.int .i64 3)) (.s 39)) [6],
 i1 41 (.bin .mul (.c (.int .i64 8)) (.s 40)) [7],
 i1 42 (.bin .shr (.s 37) (.s 41)) [4, 8],
 i1 43 (.cvi .u8 (.s 42)) [9],
 i1 44 (.iaa 32 1 (.s 6) (.s 33)) [0, 0, 1, 2, 3, 4, 5, 6, 7, 8, 9, 10],
 ⟨none, (.stc 1 (.s 44) (.s 43)), none, [11, 10, 0, 1, 2, 3, 4, 5, 6, 7, 8, 9, 10]⟩])))
 (rf [i0 45 (.bin .add (.s 30) (.c (.int .i64 1))),
 i1 30 (.mv (.s 45)) [0]])))))))
 (.seq (rf [i0 46 (.lda 32 (some .u8) (.s 6)),
 ⟨none, (.stc 32 (.s 2) (.s 46)), none, [0, 0]⟩])
 .ret)))))))), false, (some [(Sh.sl (Sh.sl (Sh.int .u8)))]), (some (Sh.ar .u8)), false⟩

/-- euphroe/sha256.Tail -/
def k217 : Fun := ⟨1, 25, [0, 2, 3, 4, 5], [(.tmp 2)],
  (.seq (rf [i0 2 (.mv (.c .nils))])
 (.seq (rf [i0 7 (.mv (.s 0)),
 i1 8 (.bin .add (.s 7) (.c (.int .u64 1))) [0],
 i1 9 (.bin .add (.s 8) (.c (.int .u64 8))) [1],
 i1 10 (.bin .rem (.s 9) (.c (.int .u64 64))) [2],
 i1 11 (.bin .sub (.c (.int .u64 64)) (.s 10)) [3],
 i1 12 (.bin .rem (.s 11) (.c (.int .u64 64))) [4],
 i1 3 (.mv (.s 12)) [5, 0, 1, 2, 3, 4, 5]])
 (.seq (rf [i0 13 (.bsl 1 1 (.ints .u8 [0]) [(0, 1, (.c (.int .u8 128)))]),
 i0 14 (.mv (.s 3)),
 i1 15 (.apz 1 1 (.ints .u8 [0]) (.s 13) (.s 14)) [0, 1],
 i1 4 (.mv (.s 15)) [2, 2, 0, 1, 2]])
 (.seq (rf [i0 17 (.mv (.s 0)),
 i1 18 (.bin .mul (.s 17) (.c (.int .u64 8))) [0],
 i1 19 (.call (.c (.fn 19 [])) [(.s 18), (.c (.int .i64 8)), (.c (.bool false))]) [1],
 i1 16 (.mv (.s 19)) [2],
 i1 20 (.ext (.s 16) 0) [3],
 i1 21 (.ext (.s 16) 1) [3],
 i1 5 (.mv (.s 20)) [4, 2, 0, 1, 2, 3, 4],
 i1 6 (.mv (.s 21)) [5, 6, 0, 1, 2, 3, 4, 5, 6]])
 (.seq (rf [i0 22 (.mv (.s 4)),
 i0 23 (.mv (.s 5)),
 i1 24 (.app 1 1 (.s 22) (.s 23)) [0, 1],
 i1 2 (.mv (.s 24)) [2, 2, 0, 1, 2]])
 .ret))))), false, (some [(Sh.int .u64)]), (some (Sh.sl (Sh.int .u8))), false⟩

/-- euphroe/sha256.First -/
def k219 : Fun := ⟨0, 4, [0], [(.cell 0 8 true (some .u32))],
  (.seq (rf [i0 0 (.new (.ints .u32 [0, 0, 0, 0, 0, 0, 0, 0]))])
 (.seq (rf [i0 1 (.call (.c (.fn 83 [])) [(.c (.int .i64 8)), (.c (.int .i64 2))]),
 i1 2 (.s2a 8 (.s 1)) [0],
 i1 3 (.lda 8 (some .u32) (.s 2)) [1],
 ⟨none, (.stc 8 (.s 0) (.s 3)), none, [2, 0, 0, 1, 2]⟩])
 .ret)), false, (some []), (some (Sh.ar .u32)), false⟩

/-- euphroe/hmac.Of -/
def k223 : Fun := ⟨2, 17, [0, 1, 4, 5], [(.cell 4 32 true (some .u8))],
  (.seq (rf [i0 4 (.new (.ints .u8 [0, 0, 0, 0, 0, 0, 0, 0, 0, 0, 0, 0, 0, 0, 0, 0, 0, 0, 0, 0, 0, 0, 0, 0, 0, 0, 0, 0, 0, 0, 0, 0]))])
 (.seq (rf [i0 6 (.mv (.s 0)),
 i1 7 (.call (.c (.fn 234 [])) [(.s 6), (.c (.int .u8 54))]) [0],
 i0 8 (.mv (.s 1)),
 i1 9 (.call (.c (.fn 46 [])) [(.s 8)]) [2, 1],
 i1 10 (.bsl 2 1 (.vals [.nils, .nils]) [(0, 1, (.s 7)), (1, 1, (.s 9))]) [1, 3],
 i1 11 (.call (.c (.fn 213 [])) [(.s 10)]) [4, 3],
 i0 5 (.new (.ints .u8 [0, 0, 0, 0, 0, 0, 0, 0, 0, 0, 0, 0, 0, 0, 0, 0, 0, 0, 0, 0, 0, 0, 0, 0, 0, 0, 0, 0, 0, 0, 0, 0])),
 ⟨none, (.stc 32 (.s 5) (.s 11)), none, [6, 5, 5, 0, 1, 2, 3, 4, 5, 6]⟩])
 (.seq (rt [i0 12 (.mv (.s 0)),
 i1 13 (.call (.c (.fn 234 [])) [(.s 12), (.c (.int .u8 92))]) [0],
 i0 14 (.sla 32 1 (.s 5) none none none),
 i1 15 (.bsl 2 1 (.vals [.nils, .nils]) [(0, 1, (.s 13)), (1, 1, (.s 14))]) [1, 2],
 i1 16 (.call (.c (.fn 213 [])) [(.s 15)]) [3, 1],
 ⟨none, (.stc 32 (.s 4) (.s 16)), none, [4, 4, 0, 1, 2, 3, 4]⟩])
 .ret))), false, (some [(Sh.sl (Sh.int .u8)), (Sh.sl (Sh.sl (Sh.int .u8)))]), (some (Sh.ar .u8)), false⟩

/-- euphroe/hmac.Key -/
def k224 : Fun := ⟨1, 16, [0, 2, 3, 4, 7], [(.cell 2 64 true (some .u8))],
  (.seq (rf [i0 2 (.new (.ints .u8 [0, 0, 0, 0, 0, 0, 0, 0, 0, 0, 0, 0, 0, 0, 0, 0, 0, 0, 0, 0, 0, 0, 0, 0, 0, 0, 0, 0, 0, 0, 0, 0, 0, 0, 0, 0, 0, 0, 0, 0, 0, 0, 0, 0, 0, 0, 0, 0, 0, 0, 0, 0, 0, 0, 0, 0, 0, 0, 0, 0, 0, 0, 0, 0]))])
 (.seq (rf [i0 3 (.new (.ints .u8 [0, 0, 0, 0, 0, 0, 0, 0, 0, 0, 0, 0, 0, 0, 0, 0, 0, 0, 0, 0, 0, 0, 0, 0, 0, 0, 0, 0, 0, 0, 0, 0, 0, 0, 0, 0, 0, 0, 0, 0, 0, 0, 0, 0, 0, 0, 0, 0, 0, 0, 0, 0, 0, 0, 0, 0, 0, 0, 0, 0, 0, 0, 0, 0]))])
 (.seq (.seq (rf [i0 5 (.mv (.s 0)),
 i1 6 (.len false (.s 5)) [0],
 i1 7 (.bin .gtr (.s 6) (.c (.int .i64 64))) [1]])
 (.cond (.s 7)
 (.seq (rf [i0 8 (.mv (.s 0)),
 i1 9 (.bsl 1 1 (.vals [.nils]) [(0, 1, (.s 8))]) [0],
 i1 10 (.call (.c (.fn 213 [])) [(.s 9)]) [1],
 i0 4 (.new (.ints .u8 [0, 0, 0, 0, 0, 0, 0, 0, 0, 0, 0, 0, 0, 0, 0, 0, 0, 0, 0, 0, 0, 0, 0, 0, 0, 0, 0, 0, 0, 0, 0, 0])),
 ⟨none, (.stc 32 (.s 4) (.s 10)), none, [3, 2, 2, 0, 1, 2, 3]⟩])
 (rf [i0 11 (.sla 32 1 (.s 4) none none none),
 i1 0 (.mv (.s 11)) [0, 0]]))
 .skip))
 (.seq (rf [i0 12 (.sla 64 1 (.s 3) none none none),
 i0 13 (.mv (.s 0)),
 i1 14 (.cpy 1 (.s 12) (.s 13)) [0, 1]])
 (.seq (rf [i0 15 (.lda 64 (some .u8) (.s 3)),
 ⟨none, (.stc 64 (.s 2) (.s 15)), none, [0, 0]⟩])
 .ret))))), false, (some [(Sh.sl (Sh.int .u8))]), (some (Sh.ar .u8)), false⟩

/-- (euphroe/sha256.State).block -/
def k229 : Fun := ⟨3, 40, [0, 1, 2, 3, 4, 6, 7, 8, 9, 10, 13, 14, 15, 27, 28], [(.cell 6 8 true (some .u32))],
  (.seq (rf [i0 3 (.box (.s 0)),
 i0 4 (.box (.s 1)),
 i0 6 (.new (.ints .u32 [0, 0, 0, 0, 0, 0, 0, 0]))])
 (.seq (rf [i0 11 (.lda 8 (some .u32) (.s 3)),
 i0 7 (.new (.ints .u32 [0, 0, 0, 0, 0, 0, 0, 0])),
 ⟨none, (.stc 8 (.s 7) (.s 11)), none, [1, 0, 0, 1]⟩])
 (.seq (.seq (rf [i0 12 (.lda 64 (some .u8) (.s 4)),
 i1 13 (.call (.c (.fn 235 [])) [(.s 12)]) [0],
 i0 14 (.mv (.c (.int .i64 0)))])
 (.block 0
 (.loop ⟨0, [], false, [2, 3, 6, 7, 13, 14], []⟩
 (.seq (rf [i0 15 (.bin .lss (.s 14) (.c (.int .i64 64)))])
 (.seq (.cond (.s 15)
 .skip
 (.pre ⟨0, [], false, [3, 6, 7], []⟩ (.exit 0)))
 (.seq (.block 1
 (.seq (rf [i0 16 (.mv (.s 14)),
 i0 17 (.ixa 64 1 false (some .u32) (.s 13) (.s 14)),
 i1 8 (.mv (.s 16)) [0, 0, 1],
 i1 9 (.mv (.s 17)) [1, 2, 0, 1, 2]])
 (rt [i0 18 (.lda 8 (some .u32) (.s 7)),
 i0 19 (.mv (.s 9)),
 i0 20 (.mv (.s 2)),
 i0 21 (.mv (.s 8)),
 i1 22 (.iad 1 (.s 20) (.s 21)) [2, 3],
 i1 23 (.ldc (.s 22)) [4],
 i1 24 (.bin .add (.s 19) (.s 23)) [1, 5],
 i1 25 (.call (.c (.fn 236 [])) [(.s 18), (.s 24)]) [0, 6],
 ⟨none, (.stc 8 (.s 7) (.s 25)), none, [7, 7, 0, 1, 2, 3, 4, 5, 6, 7]⟩])))
 (rf [i0 26 (.bin .add (.s 14) (.c (.int .i64 1))),
 i1 14 (.mv (.s 26)) [0]])))))))
 (.seq (.seq (rf [i0 27 (.mv (.c (.int .i64 0)))])
 (.block 2
 (.loop ⟨1, [], false, [3, 6, 7, 27], []⟩
 (.seq (rf [i0 28 (.bin .lss (.s 27) (.c (.int .i64 8)))])
 (.seq (.cond (.s 28)
 .skip
 (.pre ⟨0, [], false, [6, 7], []⟩ (.exit 2)))
 (.seq (.block 3
 (.seq (rf [i0 29 (.mv (.s 27)),
 i1 10 (.mv (.s 29)) [0, 0]])
 (rt [i0 30 (.mv (.s 10)),
 i1 31 (.iaa 8 1 (.s 7) (.s 30)) [0],
 i1 32 (.ldc (.s 31)) [1],
 i0 33 (.mv (.s 10)),
 i1 34 (.iaa 8 1 (.s 3) (.s 33)) [3],
 i1 35 (.ldc (.s 34)) [4],
 i1 36 (.bin .add (.s 32) (.s 35)) [2, 5],
 i1 37 (.iaa 8 1 (.s 7) (.s 30)) [0, 0, 1, 2, 3, 4, 5, 6],
 ⟨none, (.stc 1 (.s 37) (.s 36)), none, [7, 6, 0, 1, 2, 3, 4, 5, 6]⟩])))
 (rf [i0 38 (.bin .add (.s 27) (.c (.int .i64 1))),
 i1 27 (.mv (.s 38)) [0]])))))))
 (.seq (rf [i0 39 (.lda 8 (some .u32) (.s 7)),
 ⟨none, (.stc 8 (.s 6) (.s 39)), none, [0, 0]⟩])
 .ret))))), false, (some [(Sh.ar .u32), (Sh.ar .u8), (Sh.sl (Sh.int .u32))]), (some (Sh.ar .u32)), false⟩

/-- euphroe/hmac.pad -/
def k234 : Fun := ⟨2, 20, [0, 1, 4, 5, 6, 9, 10], [(.tmp 4)],
  (.seq (rf [i0 4 (.mv (.c .nils))])
 (.seq (rf [i0 7 (.mv (.s 0)),
 i1 8 (.call (.c (.fn 224 [])) [(.s 7)]) [0],
 i0 5 (.new (.ints .u8 [0, 0, 0, 0, 0, 0, 0, 0, 0, 0, 0, 0, 0, 0, 0, 0, 0, 0, 0, 0, 0, 0, 0, 0, 0, 0, 0, 0, 0, 0, 0, 0, 0, 0, 0, 0, 0, 0, 0, 0, 0, 0, 0, 0, 0, 0, 0, 0, 0, 0, 0, 0, 0, 0, 0, 0, 0, 0, 0, 0, 0, 0, 0, 0])),
 ⟨none, (.stc 64 (.s 5) (.s 8)), none, [2, 1, 1, 0, 1, 2]⟩])
 (.seq (.seq (rf [i0 9 (.mv (.c (.int .i64 0)))])
 (.block 0
 (.loop ⟨0, [], false, [1, 5, 9], []⟩
 (.seq (rf [i0 10 (.bin .lss (.s 9) (.c (.int .i64 64)))])
 (.seq (.cond (.s 10)
 .skip
 (.pre ⟨0, [], false, [5], []⟩ (.exit 0)))
 (.seq (.block 1
 (.seq (rf [i0 11 (.mv (.s 9)),
 i1 6 (.mv (.s 11)) [0, 0]])
 (rf [i0 12 (.mv (.s 6)),
 i1 13 (.iaa 64 1 (.s 5) (.s 12)) [0],
 i1 14 (.ldc (.s 13)) [1],
 i0 15 (.mv (.s 1)),
 i1 16 (.bin .xor (.s 14) (.s 15)) [2, 3],
 i1 17 (.iaa 64 1 (.s 5) (.s 12)) [0, 0, 1, 2, 3, 4],
 ⟨none, (.stc 1 (.s 17) (.s 16)), none, [5, 4, 0, 1, 2, 3, 4]⟩])))
 (rf [i0 18 (.bin .add (.s 9) (.c (.int .i64 1))),
 i1 9 (.mv (.s 18)) [0]])))))))
 (.seq (rf [i0 19 (.sla 64 1 (.s 5) none none none),
 i1 4 (.mv (.s 19)) [0, 0]])
 .ret)))), false, (some [(Sh.sl (Sh.int .u8)), (Sh.int .u8)]), (some (Sh.sl (Sh.int .u8))), false⟩

/-- euphroe/sha256.spread -/
def k235 : Fun := ⟨1, 53, [0, 1, 2, 3, 4, 5, 7, 8, 11], [(.cell 2 64 true (some .u32))],
  (.seq (rf [i0 1 (.box (.s 0)),
 i0 2 (.new (.ints .u32 [0, 0, 0, 0, 0, 0, 0, 0, 0, 0, 0, 0, 0, 0, 0, 0, 0, 0, 0, 0, 0, 0, 0, 0, 0, 0, 0, 0, 0, 0, 0, 0, 0, 0, 0, 0, 0, 0, 0, 0, 0, 0, 0, 0, 0, 0, 0, 0, 0, 0, 0, 0, 0, 0, 0, 0, 0, 0, 0, 0, 0, 0, 0, 0]))])
 (.seq (rf [i0 3 (.new (.ints .u32 [0, 0, 0, 0, 0, 0, 0, 0, 0, 0, 0, 0, 0, 0, 0, 0, 0, 0, 0, 0, 0, 0, 0, 0, 0, 0, 0, 0, 0, 0, 0, 0, 0, 0, 0, 0, 0, 0, 0, 0, 0, 0, 0, 0, 0, 0, 0, 0, 0, 0, 0, 0, 0, 0, 0, 0, 0, 0, 0, 0, 0, 0, 0, 0]))])
 (.seq (.seq (rf [i0 7 (.mv (.c (.int .i64 0)))])
 (.block 0
 (.loop ⟨0, [], false, [1, 2, 3, 7], []⟩
 (.seq (rf [i0 8 (.bin .lss (.s 7) (.c (.int .i64 64)))])
 (.seq (.cond (.s 8)
 .skip
 (.pre ⟨0, [], false, [2, 3], []⟩ (.exit 0)))
 (.seq (.block 1
 (.seq (rf [i0 9 (.mv (.s 7)),
 i1 4 (.mv (.s 9)) [0, 0]])
 (.seq (.seq (rf [i0 10 (.mv (.s 4)),
 i1 11 (.bin .lss (.s 10) (.c (.int .i64 16))) [0]])
 (.cond (.s 11)
 (.seq (rf [i0 13 (.mv (.s 4)),
 i1 14 (.bin .mul (.c (.int .i64 4)) (.s 13)) [0],
 i0 15 (.mv (.s 4)),
 i1 16 (.bin .mul (.c (.int .i64 4)) (.s 15)) [2],
 i1 17 (.bin .add (.s 16) (.c (.int .i64 4))) [3],
 i1 18 (.sla 64 1 (.s 1) (some (.s 14)) (some (.s 17)) none) [1, 4],
 i1 19 (.call (.c (.fn 21 [])) [(.s 18), (.c (.bool false))]) [5],
 i1 12 (.mv (.s 19)) [6],
 i1 20 (.ext (.s 12) 0) [7],
 i1 21 (.ext (.s 12) 1) [7],
 i1 5 (.mv (.s 20)) [8, 6, 0, 1, 2, 3, 4, 5, 6, 7, 8],
 i1 6 (.mv (.s 21)) [9, 10, 0, 1, 2, 3, 4, 5, 6, 7, 8, 9, 10]])
 (.seq (rf [i0 22 (.mv (.s 4)),
 i0 23 (.mv (.s 5)),
 i1 24 (.cvi .u32 (.s 23)) [1],
 i1 25 (.iaa 64 1 (.s 3) (.s 22)) [0, 0, 1, 2],
 ⟨none, (.stc 1 (.s 25) (.s 24)), none, [3, 2, 0, 1, 2]⟩])
 (.pre ⟨0, [], false, [1, 2, 3, 7], []⟩ (.exit 1))))
 .skip))
 (rt [i0 26 (.mv (.s 4)),
 i0 27 (.mv (.s 4)),
 i1 28 (.bin .sub (.s 27) (.c (.int .i64 16))) [1],
 i1 29 (.iaa 64 1 (.s 3) (.s 28)) [2],
 i1 30 (.ldc (.s 29)) [3],
 i0 31 (.mv (.s 4)),
 i1 32 (.bin .sub (.s 31) (.c (.int .i64 7))) [5],
 i1 33 (.iaa 64 1 (.s 3) (.s 32)) [6],
 i1 34 (.ldc (.s 33)) [7],
 i1 35 (.bin .add (.s 30) (.s 34)) [4, 8],
 i0 36 (.build (.ints .i64 [0, 0, 0]) [(0, 1, (.c (.int .i64 7))), (1, 1, (.c (.int .i64 18))), (2, 1, (.c (.int .i64 3)))]),
 i0 37 (.mv (.s 4)),
 i1 38 (.bin .sub (.s 37) (.c (.int .i64 15))) [11],
 i1 39 (.iaa 64 1 (.s 3) (.s 38)) [12],
 i1 40 (.ldc (.s 39)) [13],
 i1 41 (.call (.c (.fn 238 [])) [(.s 36), (.s 40)]) [10, 14],
 i1 42 (.bin .add (.s 35) (.s 41)) [9, 15],
 i0 43 (.build (.ints .i64 [0, 0, 0]) [(0, 1, (.c (.int .i64 17))), (1, 1, (.c (.int .i64 19))), (2, 1, (.c (.int .i64 10)))]),
 i0 44 (.mv (.s 4)),
 i1 45 (.bin .sub (.s 44) (.c (.int .i64 2))) [18],
 i1 46 (.iaa 64 1 (.s 3) (.s 45)) [19],
 i1 47 (.ldc (.s 46)) [20],
 i1 48 (.call (.c (.fn 238 [])) [(.s 43), (.s 47)]) [17, 21, 15],
 i1 49 (.bin .add (.s 42) (.s 48)) [16, 22],
 i1 50 (.iaa 64 1 (.s 3) (.s 26)) [0, 0, 1, 2, 3, 4, 5, 6, 7, 8, 9, 10, 11, 12, 13, 14, 15, 16, 17, 18, 19, 20, 21, 22, 23],
 ⟨none, (.stc 1 (.s 50) (.s 49)), none, [24, 23, 22, 0, 1, 2, 3, 4, 5, 6, 7, 8, 9, 10, 11, 12, 13, 14, 15, 16, 17, 18, 19, 20, 21, 22, 23]⟩]))))
 (rf [i0 51 (.bin .add (.s 7) (.c (.int .i64 1))),
 i1 7 (.mv (.s 51)) [0]])))))))
 (.seq (rf [i0 52 (.lda 64 (some .u32) (.s 3)),
 ⟨none, (.stc 64 (.s 2) (.s 52)), none, [0, 0]⟩])
 .ret)))), false, (some [(Sh.ar .u8)]), (some (Sh.ar .u32)), false⟩

/-- (euphroe/sha256.State).step -/
def k236 : Fun := ⟨2, 68, [0, 1, 2, 4, 5, 6, 7, 8, 9, 10, 11, 12], [(.cell 4 8 true (some .u32))],
  (.seq (rf [i0 2 (.box (.s 0)),
 i0 4 (.new (.ints .u32 [0, 0, 0, 0, 0, 0, 0, 0]))])
 (.seq (rt [i0 13 (.iaa 8 1 (.s 2) (.c (.int .i64 0))),
 i1 14 (.ldc (.s 13)) [0],
 i0 15 (.iaa 8 1 (.s 2) (.c (.int .i64 1))),
 i1 16 (.ldc (.s 15)) [2],
 i0 17 (.iaa 8 1 (.s 2) (.c (.int .i64 2))),
 i1 18 (.ldc (.s 17)) [4],
 i0 19 (.iaa 8 1 (.s 2) (.c (.int .i64 4))),
 i1 20 (.ldc (.s 19)) [6],
 i0 21 (.iaa 8 1 (.s 2) (.c (.int .i64 5))),
 i1 22 (.ldc (.s 21)) [8],
 i0 23 (.iaa 8 1 (.s 2) (.c (.int .i64 6))),
 i1 24 (.ldc (.s 23)) [10],
 i1 5 (.mv (.s 14)) [1, 0, 1],
 i1 6 (.mv (.s 16)) [3, 12, 0, 1, 2, 3, 12],
 i1 7 (.mv (.s 18)) [5, 13, 0, 1, 2, 3, 4, 5, 12, 13],
 i1 8 (.mv (.s 20)) [7, 14, 0, 1, 2, 3, 4, 5, 6, 7, 12, 13, 14],
 i1 9 (.mv (.s 22)) [9, 15, 0, 1, 2, 3, 4, 5, 6, 7, 8, 9, 12, 13, 14, 15],
 i1 10 (.mv (.s 24)) [11, 16, 0, 1, 2, 3, 4, 5, 6, 7, 8, 9, 10, 11, 12, 13, 14, 15, 16]])
 (.seq (rt [i0 25 (.iaa 8 1 (.s 2) (.c (.int .i64 7))),
 i1 26 (.ldc (.s 25)) [0],
 i0 27 (.build (.ints .i64 [0, 0, 0]) [(0, 1, (.c (.int .i64 6))), (1, 1, (.c (.int .i64 11))), (2, 1, (.c (.int .i64 25)))]),
 i0 28 (.mv (.s 8)),
 i1 29 (.call (.c (.fn 239 [])) [(.s 27), (.s 28)]) [2, 3],
 i1 30 (.bin .add (.s 26) (.s 29)) [1, 4],
 i0 31 (.mv (.s 10)),
 i0 32 (.mv (.s 8)),
 i0 33 (.mv (.s 9)),
 i0 34 (.mv (.s 10)),
 i1 35 (.bin .xor (.s 33) (.s 34)) [8, 9],
 i1 36 (.bin .and (.s 32) (.s 35)) [7, 10],
 i1 37 (.bin .xor (.s 31) (.s 36)) [6, 11],
 i1 38 (.bin .add (.s 30) (.s 37)) [5, 12],
 i0 39 (.mv (.s 1)),
 i1 40 (.bin .add (.s 38) (.s 39)) [13, 14],
 i1 11 (.mv (.s 40)) [15, 4, 0, 1, 2, 3, 4, 5, 6, 7, 8, 9, 10, 11, 12, 13, 14, 15]])
 (.seq (rf [i0 41 (.build (.ints .i64 [0, 0, 0]) [(0, 1, (.c (.int .i64 2))), (1, 1, (.c (.int .i64 13))), (2, 1, (.c (.int .i64 22)))]),
 i0 42 (.mv (.s 5)),
 i1 43 (.call (.c (.fn 239 [])) [(.s 41), (.s 42)]) [0, 1],
 i0 44 (.mv (.s 5)),
 i0 45 (.mv (.s 6)),
 i1 46 (.bin .and (.s 44) (.s 45)) [3, 4],
 i0 47 (.mv (.s 7)),
 i0 48 (.mv (.s 5)),
 i0 49 (.mv (.s 6)),
 i1 50 (.bin .or (.s 48) (.s 49)) [7, 8],
 i1 51 (.bin .and (.s 47) (.s 50)) [6, 9],
 i1 52 (.bin .or (.s 46) (.s 51)) [5, 10],
 i1 53 (.bin .add (.s 43) (.s 52)) [2, 11],
 i1 12 (.mv (.s 53)) [12, 2, 0, 1, 2, 3, 4, 5, 6, 7, 8, 9, 10, 11, 12]])
 (.seq (rf [i0 54 (.mv (.s 11)),
 i0 55 (.mv (.s 12)),
 i1 56 (.bin .add (.s 54) (.s 55)) [0, 1],
 i0 57 (.mv (.s 5)),
 i0 58 (.mv (.s 6)),
 i0 59 (.mv (.s 7)),
 i0 60 (.iaa 8 1 (.s 2) (.c (.int .i64 3))),
 i1 61 (.ldc (.s 60)) [6],
 i0 62 (.mv (.s 11)),
 i1 63 (.bin .add (.s 61) (.s 62)) [7, 8],
 i0 64 (.mv (.s 8)),
 i0 65 (.mv (.s 9)),
 i0 66 (.mv (.s 10)),
 i1 67 (.build (.ints .u32 [0, 0, 0, 0, 0, 0, 0, 0]) [(0, 1, (.s 56)), (1, 1, (.s 57)), (2, 1, (.s 58)), (3, 1, (.s 59)), (4, 1, (.s 63)), (5, 1, (.s 64)), (6, 1, (.s 65)), (7, 1, (.s 66))]) [2, 3, 4, 5, 9, 10, 11, 12],
 ⟨none, (.stc 8 (.s 4) (.s 67)), none, [13, 0, 1, 2, 3, 4, 5, 6, 7, 8, 9, 10, 11, 12, 13]⟩])
 .ret))))), false, (some [(Sh.ar .u32), (Sh.int .u32)]), (some (Sh.ar .u32)), false⟩

/-- (euphroe/sha256.turns).small -/
def k238 : Fun := ⟨2, 21, [0, 1, 2, 4], [(.tmp 4)],
  (.seq (rf [i0 2 (.box (.s 0)),
 i0 4 (.mv (.c (.int .u32 0)))])
 (.seq (rt [i0 5 (.mv (.s 1)),
 i0 6 (.iaa 3 1 (.s 2) (.c (.int .i64 0))),
 i1 7 (.ldc (.s 6)) [1],
 i1 8 (.un .neg (.s 7)) [2],
 i1 9 (.call (.c (.fn 195 [])) [(.s 5), (.s 8)]) [0, 3],
 i0 10 (.mv (.s 1)),
 i0 11 (.iaa 3 1 (.s 2) (.c (.int .i64 1))),
 i1 12 (.ldc (.s 11)) [6],
 i1 13 (.un .neg (.s 12)) [7],
 i1 14 (.call (.c (.fn 195 [])) [(.s 10), (.s 13)]) [5, 8, 4],
 i1 15 (.bin .xor (.s 9) (.s 14)) [4, 9],
 i0 16 (.mv (.s 1)),
 i0 17 (.iaa 3 1 (.s 2) (.c (.int .i64 2))),
 i1 18 (.ldc (.s 17)) [12],
 i1 19 (.bin .shr (.s 16) (.s 18)) [11, 13],
 i1 20 (.bin .xor (.s 15) (.s 19)) [10, 14],
 i1 4 (.mv (.s 20)) [15, 9, 0, 1, 2, 3, 4, 5, 6, 7, 8, 9, 10, 11, 12, 13, 14, 15]])
 .ret)), false, (some [(Sh.ar .i64), (Sh.int .u32)]), (some (Sh.int .u32)), false⟩

/-- (euphroe/sha256.turns).great -/
def k239 : Fun := ⟨2, 22, [0, 1, 2, 4], [(.tmp 4)],
  (.seq (rf [i0 2 (.box (.s 0)),
 i0 4 (.mv (.c (.int .u32 0)))])
 (.seq (rt [i0 5 (.mv (.s 1)),
 i0 6 (.iaa 3 1 (.s 2) (.c (.int .i64 0))),
 i1 7 (.ldc (.s 6)) [1],
 i1 8 (.un .neg (.s 7)) [2],
 i1 9 (.call (.c (.fn 195 [])) [(.s 5), (.s 8)]) [0, 3],
 i0 10 (.mv (.s 1)),
 i0 11 (.iaa 3 1 (.s 2) (.c (.int .i64 1))),
 i1 12 (.ldc (.s 11)) [6],
 i1 13 (.un .neg (.s 12)) [7],
 i1 14 (.call (.c (.fn 195 [])) [(.s 10), (.s 13)]) [5, 8, 4],
 i1 15 (.bin .xor (.s 9) (.s 14)) [4, 9],
 i0 16 (.mv (.s 1)),
 i0 17 (.iaa 3 1 (.s 2) (.c (.int .i64 2))),
 i1 18 (.ldc (.s 17)) [12],
 i1 19 (.un .neg (.s 18)) [13],
 i1 20 (.call (.c (.fn 195 [])) [(.s 16), (.s 19)]) [11, 14, 9],
 i1 21 (.bin .xor (.s 15) (.s 20)) [10, 15],
 i1 4 (.mv (.s 21)) [16, 15, 0, 1, 2, 3, 4, 5, 6, 7, 8, 9, 10, 11, 12, 13, 14, 15, 16]])
 .ret)), false, (some [(Sh.ar .i64), (Sh.int .u32)]), (some (Sh.int .u32)), false⟩

/-- euphroe/euphroelaw34.BindOwn -/
def k287 : Fun := ⟨2, 99, [0, 1, 2, 3, 4, 5, 6, 7, 8, 9, 10, 11, 27, 61], [(.tmp 4)],
  (.seq (rf [i0 2 (.box (.s 0)),
 i0 3 (.box (.s 1)),
 i0 4 (.mv (.c (.bool false)))])
 (.seq (rf [i0 12 (.fad 0 (.s 2)),
 i1 13 (.lda 32 (some .u8) (.s 12)) [0],
 i0 14 (.fad 32 (.s 2)),
 i1 15 (.lda 32 (some .u8) (.s 14)) [2],
 i0 16 (.fad 64 (.s 2)),
 i1 17 (.lda 32 (some .u8) (.s 16)) [4],
 i1 18 (.call (.c (.fn 297 [])) [(.s 13), (.s 15), (.s 17)]) [1, 3, 5],
 i0 5 (.new (.vals [(.bool false), (.int .u16 0), .nils, .nils])),
 ⟨none, (.stc 4 (.s 5) (.s 18)), none, [7, 6, 6, 0, 1, 2, 3, 4, 5, 6, 7]⟩])
 (.seq (.seq (rf [i0 19 (.lda 4 none (.s 5)),
 i0 20 (.fad 0 (.s 2)),
 i1 21 (.lda 32 (some .u8) (.s 20)) [1],
 i0 22 (.fad 32 (.s 2)),
 i1 23 (.lda 32 (some .u8) (.s 22)) [3],
 i0 24 (.fad 64 (.s 2)),
 i1 25 (.lda 32 (some .u8) (.s 24)) [5],
 i1 26 (.call (.c (.fn 298 [])) [(.s 19), (.s 21), (.s 23), (.s 25)]) [0, 2, 4, 6],
 i1 27 (.bin .neq (.s 26) (.c (.int .i64 0))) [7]])
 (.cond (.s 27)
 (.seq (rf [i0 4 (.mv (.c (.bool false)))])
 .ret)
 .skip))
 (.seq (.seq (rf [i0 28 (.fad 32 (.s 3)),
 i1 29 (.lda 32 (some .u8) (.s 28)) [0],
 i0 30 (.fad 32 (.s 2)),
 i1 31 (.lda 32 (some .u8) (.s 30)) [2],
 i1 32 (.eqa 32 true (.s 29) (.s 31)) [1, 3],
 i1 33 (.mv (.s 32)) [4],
 ⟨(some 34), (.lda 4 none (.s 5)), (some (33, true)), [5]⟩,
 ⟨(some 35), (.fad 0 (.s 2)), (some (33, true)), [5]⟩,
 ⟨(some 36), (.lda 32 (some .u8) (.s 35)), (some (33, true)), [7, 5]⟩,
 ⟨(some 37), (.fad 32 (.s 3)), (some (33, true)), [5]⟩,
 ⟨(some 38), (.lda 32 (some .u8) (.s 37)), (some (33, true)), [9, 5]⟩,
 ⟨(some 39), (.fad 64 (.s 2)), (some (33, true)), [5]⟩,
 ⟨(some 40), (.lda 32 (some .u8) (.s 39)), (some (33, true)), [11, 5]⟩,
 ⟨(some 41), (.call (.c (.fn 298 [])) [(.s 34), (.s 36), (.s 38), (.s 40)]), (some (33, true)), [6, 8, 10, 12, 5, 5]⟩,
 ⟨(some 42), (.bin .neq (.s 41) (.c (.int .i64 10))), (some (33, true)), [13, 5]⟩,
 i1 43 (.pick (.s 33) (.s 42) (.c (.bool false))) [5, 14],
 i1 44 (.mv (.s 43)) [15, 13],
 ⟨(some 45), (.fad 64 (.s 3)), (some (44, false)), [16]⟩,
 ⟨(some 46), (.lda 32 (some .u8) (.s 45)), (some (44, false)), [17, 16]⟩,
 ⟨(some 47), (.fad 64 (.s 2)), (some (44, false)), [16]⟩,
 ⟨(some 48), (.lda 32 (some .u8) (.s 47)), (some (44, false)), [19, 16]⟩,
 ⟨(some 49), (.eqa 32 true (.s 46) (.s 48)), (some (44, false)), [18, 20, 16]⟩,
 ⟨(some 50), (.mv (.s 49)), (some (44, false)), [21, 16, 16]⟩,
 ⟨(some 51), (.lda 4 none (.s 5)), (some (50, true)), [22]⟩,
 ⟨(some 52), (.fad 0 (.s 2)), (some (50, true)), [22]⟩,
 ⟨(some 53), (.lda 32 (some .u8) (.s 52)), (some (50, true)), [24, 22]⟩,
 ⟨(some 54), (.fad 32 (.s 2)), (some (50, true)), [22]⟩,
 ⟨(some 55), (.lda 32 (some .u8) (.s 54)), (some (50, true)), [26, 22]⟩,
 ⟨(some 56), (.fad 64 (.s 3)), (some (50, true)), [22]⟩,
 ⟨(some 57), (.lda 32 (some .u8) (.s 56)), (some (50, true)), [28, 22]⟩,
 ⟨(some 58), (.call (.c (.fn 298 [])) [(.s 51), (.s 53), (.s 55), (.s 57)]), (some (50, true)), [23, 25, 27, 29, 22, 22]⟩,
 ⟨(some 59), (.bin .neq (.s 58) (.c (.int .i64 14))), (some (50, true)), [30, 22]⟩,
 ⟨(some 60), (.pick (.s 50) (.s 59) (.c (.bool false))), (some (44, false)), [22, 31, 16]⟩,
 i1 61 (.pick (.s 44) (.c (.bool true)) (.s 60)) [16, 32]])
 (.cond (.s 61)
 (.seq (rf [i0 4 (.mv (.c (.bool false)))])
 .ret)
 .skip))
 (.seq (rf [i0 63 (.lda 4 none (.s 5)),
 i1 64 (.call (.c (.fn 299 [])) [(.s 63)]) [0],
 i1 62 (.mv (.s 64)) [1],
 i1 65 (.ext (.s 62) 0) [2],
 i1 66 (.ext (.s 62) 1) [2],
 i0 6 (.new (.vals [(.bool false), (.int .u16 0), .nils, .nils])),
 ⟨none, (.stc 4 (.s 6) (.s 65)), none, [5, 3, 1, 0, 1, 2, 3, 5]⟩,
 i1 7 (.mv (.s 66)) [4, 6, 0, 1, 2, 3, 4, 5, 6]])
 (.seq (rf [i0 68 (.lda 4 none (.s 5)),
 i0 69 (.fad 0 (.s 2)),
 i1 70 (.lda 32 (some .u8) (.s 69)) [1],
 i1 71 (.call (.c (.fn 300 [])) [(.s 68), (.s 70)]) [0, 2],
 i1 67 (.mv (.s 71)) [3],
 i1 72 (.ext (.s 67) 0) [4],
 i1 73 (.ext (.s 67) 1) [4],
 i0 8 (.new (.ints .u8 [0, 0, 0, 0, 0, 0, 0, 0, 0, 0, 0, 0, 0, 0, 0, 0, 0, 0, 0, 0, 0, 0, 0, 0, 0, 0, 0, 0, 0, 0, 0, 0])),
 ⟨none, (.stc 32 (.s 8) (.s 72)), none, [7, 5, 3, 0, 1, 2, 3, 4, 5, 7]⟩,
 i1 9 (.mv (.s 73)) [6, 8, 0, 1, 2, 3, 4, 5, 6, 7, 8]])
 (.seq (rf [i0 75 (.lda 4 none (.s 6)),
 i0 76 (.fad 0 (.s 2)),
 i1 77 (.lda 32 (some .u8) (.s 76)) [1],
 i1 78 (.call (.c (.fn 300 [])) [(.s 75), (.s 77)]) [0, 2],
 i1 74 (.mv (.s 78)) [3],
 i1 79 (.ext (.s 74) 0) [4],
 i1 80 (.ext (.s 74) 1) [4],
 i0 10 (.new (.ints .u8 [0, 0, 0, 0, 0, 0, 0, 0, 0, 0, 0, 0, 0, 0, 0, 0, 0, 0, 0, 0, 0, 0, 0, 0, 0, 0, 0, 0, 0, 0, 0, 0])),
 ⟨none, (.stc 32 (.s 10) (.s 79)), none, [7, 5, 3, 0, 1, 2, 3, 4, 5, 7]⟩,
 i1 11 (.mv (.s 80)) [6, 8, 0, 1, 2, 3, 4, 5, 6, 7, 8]])
 (.seq (rf [i0 81 (.mv (.s 7)),
 i1 82 (.bin .eql (.s 81) (.c (.int .i64 0))) [0],
 i1 83 (.mv (.s 82)) [1],
 ⟨(some 84), (.mv (.s 9)), (some (83, true)), [2]⟩,
 ⟨(some 85), (.bin .eql (.s 84) (.c (.int .i64 0))), (some (83, true)), [3, 2]⟩,
 i1 86 (.pick (.s 83) (.s 85) (.c (.bool false))) [2, 4],
 i1 87 (.mv (.s 86)) [5, 2],
 ⟨(some 88), (.mv (.s 11)), (some (87, true)), [6]⟩,
 ⟨(some 89), (.bin .eql (.s 88) (.c (.int .i64 0))), (some (87, true)), [7, 6]⟩,
 i1 90 (.pick (.s 87) (.s 89) (.c (.bool false))) [6, 8],
 i1 91 (.mv (.s 90)) [9, 6],
 ⟨(some 92), (.lda 32 (some .u8) (.s 8)), (some (91, true)), [10]⟩,
 ⟨(some 93), (.lda 32 (some .u8) (.s 10)), (some (91, true)), [10]⟩,
 ⟨(some 94), (.eqa 32 false (.s 92) (.s 93)), (some (91, true)), [11, 12, 10]⟩,
 i1 95 (.pick (.s 91) (.s 94) (.c (.bool false))) [10, 13],
 i1 96 (.mv (.s 95)) [14, 10],
 ⟨(some 97), (.call (.c (.fn 301 [])) []), (some (96, true)), [15, 15]⟩,
 i1 98 (.pick (.s 96) (.s 97) (.c (.bool false))) [15, 16],
 i1 4 (.mv (.s 98)) [17, 16, 0, 1, 2, 3, 4, 5, 6, 7, 8, 9, 10, 11, 12, 13, 14, 15, 16, 17]])
 .ret)))))))), false, (some [(Sh.ar .u8), (Sh.ar .u8)]), (some Sh.bool), false⟩

/-- euphroe/prf.Derive -/
def k290 : Fun := ⟨3, 42, [0, 1, 2, 3, 4, 6, 7, 8, 9, 11, 12, 13, 14, 18, 30, 31, 32], [(.tmp 6), (.tmp 7)],
  (.seq (rf [i0 3 (.box (.s 0)),
 i0 4 (.box (.s 1)),
 i0 6 (.mv (.c .nils)),
 i1 7 (.mv (.c (.int .i64 0))) [2]])
 (.seq (.seq (rf [i0 15 (.mv (.s 2)),
 i1 16 (.call (.c (.fn 307 [])) [(.s 15)]) [0],
 i1 8 (.mv (.s 16)) [1, 1, 0, 1]])
 (.seq (rf [i0 17 (.mv (.s 8)),
 i1 18 (.bin .neq (.s 17) (.c (.int .i64 0))) [0]])
 (.cond (.s 18)
 (.seq (rf [i0 19 (.mv (.s 8)),
 i0 6 (.mv (.c .nils)),
 i1 7 (.mv (.s 19)) [0, 1, 0, 1]])
 .ret)
 .skip)))
 (.seq (rf [i0 21 (.mv (.s 2)),
 i1 22 (.cvi .u64 (.s 21)) [0],
 i1 23 (.call (.c (.fn 19 [])) [(.s 22), (.c (.int .i64 2)), (.c (.bool true))]) [1],
 i1 20 (.mv (.s 23)) [2],
 i1 24 (.ext (.s 20) 0) [3],
 i1 25 (.ext (.s 20) 1) [3],
 i0 9 (.new (.vals [.nils])),
 ⟨none, (.stc 1 (.s 9) (.s 24)), none, [6, 4, 2, 0, 1, 2, 3, 4, 6]⟩,
 i1 10 (.mv (.s 25)) [5, 7, 0, 1, 2, 3, 4, 5, 6, 7]])
 (.seq (rf [i0 11 (.new (.vals [.nils])),
 i0 12 (.new (.vals [.nils]))])
 (.seq (rf [i0 26 (.mkf 308 [(.s 3), (.s 11), (.s 4), (.s 9), (.s 12)]),
 i1 13 (.mv (.s 26)) [0, 0]])
 (.seq (.seq (rf [i0 27 (.ldc (.s 3)),
 i0 28 (.ldc (.s 4)),
 i0 29 (.mv (.s 2)),
 i1 30 (.call (.c (.fn 292 [])) [(.s 27), (.s 28), (.s 29)]) [0, 1, 2],
 i0 31 (.mv (.c (.int .i64 0)))])
 (.block 0
 (.loop ⟨0, [(11, (Sh.sl (Sh.int .u8)))], false, [2, 11, 12, 13, 30, 31], [(12, (.ints .u8 []), 1)]⟩
 (.seq (rf [i0 32 (.bin .lss (.s 31) (.s 30))])
 (.seq (.cond (.s 32)
 .skip
 (.pre ⟨0, [], false, [2, 11, 12], []⟩ (.exit 0)))
 (.seq (.block 1
 (.seq (rf [i0 33 (.mv (.s 31)),
 i1 14 (.mv (.s 33)) [0, 0]])
 (rf [i0 34 (.mv (.s 13)),
 i0 35 (.mv (.s 14)),
 i1 36 (.bin .add (.s 35) (.c (.int .i64 1))) [1],
 i1 37 (.call (.s 34) [(.s 36)]) [0, 2]])))
 (rf [i0 38 (.bin .add (.s 31) (.c (.int .i64 1))),
 i1 31 (.mv (.s 38)) [0]])))))))
 (.seq (rf [i0 39 (.ldc (.s 12)),
 i0 40 (.mv (.s 2)),
 i1 41 (.sls 1 (.s 39) none (some (.s 40)) none) [0, 1],
 i1 6 (.mv (.s 41)) [2, 0, 1, 2],
 i1 7 (.mv (.c (.int .i64 0))) [3, 0, 1, 2, 3]])
 .ret))))))), false, (some [(Sh.sl (Sh.int .u8)), (Sh.sl (Sh.int .u8)), (Sh.int .i64)]), (some (Sh.tu (Sh.pr (Sh.sl (Sh.int .u8)) (Sh.int .i64)))), false⟩

/-- euphroe/prf.Pieces -/
def k292 : Fun := ⟨3, 14, [0, 1, 2, 6, 9], [(.tmp 6)],
  (.seq (rf [i0 6 (.mv (.c (.int .i64 0)))])
 (.seq (.seq (rf [i0 7 (.mv (.s 2)),
 i1 8 (.call (.c (.fn 307 [])) [(.s 7)]) [0],
 i1 9 (.bin .neq (.s 8) (.c (.int .i64 0))) [1]])
 (.cond (.s 9)
 (.seq (rf [i0 6 (.mv (.c (.int .i64 0)))])
 .ret)
 .skip))
 (.seq (rf [i0 10 (.mv (.s 2)),
 i1 11 (.bin .add (.s 10) (.c (.int .i64 32))) [0],
 i1 12 (.bin .sub (.s 11) (.c (.int .i64 1))) [1],
 i1 13 (.bin .quo (.s 12) (.c (.int .i64 32))) [2],
 i1 6 (.mv (.s 13)) [3, 0, 1, 2, 3]])
 .ret))), false, (some [(Sh.sl (Sh.int .u8)), (Sh.sl (Sh.int .u8)), (Sh.int .i64)]), (some (Sh.int .i64)), false⟩

/-- euphroe/prf.Bind -/
def k293 : Fun := ⟨1, 15, [0, 1, 2, 3], [(.cell 2 32 true (some .u8))],
  (.seq (rf [i0 1 (.box (.s 0)),
 i0 2 (.new (.ints .u8 [0, 0, 0, 0, 0, 0, 0, 0, 0, 0, 0, 0, 0, 0, 0, 0, 0, 0, 0, 0, 0, 0, 0, 0, 0, 0, 0, 0, 0, 0, 0, 0]))])
 (.seq (rf [i0 6 (.sla 32 1 (.s 1) none none none),
 i0 7 (.bsl 29 1 (.ints .u8 [0, 0, 0, 0, 0, 0, 0, 0, 0, 0, 0, 0, 0, 0, 0, 0, 0, 0, 0, 0, 0, 0, 0, 0, 0, 0, 0, 0, 0]) [(0, 1, (.c (.int .u8 83))), (1, 1, (.c (.int .u8 83))), (2, 1, (.c (.int .u8 84))), (3, 1, (.c (.int .u8 80))), (4, 1, (.c (.int .u8 32))), (5, 1, (.c (.int .u8 105))), (6, 1, (.c (.int .u8 110))), (7, 1, (.c (.int .u8 110))), (8, 1, (.c (.int .u8 101))), (9, 1, (.c (.int .u8 114))), (10, 1, (.c (.int .u8 32))), (11, 1, (.c (.int .u8 109))), (12, 1, (.c (.int .u8 101))), (13, 1, (.c (.int .u8 116))), (14, 1, (.c (.int .u8 104))), (15, 1, (.c (.int .u8 111))), (16, 1, (.c (.int .u8 100))), (17, 1, (.c (.int .u8 32))), (18, 1, (.c (.int .u8 100))), (19, 1, (.c (.int .u8 101))), (20, 1, (.c (.int .u8 114))), (21, 1, (.c (.int .u8 105))), (22, 1, (.c (.int .u8 118))), (23, 1, (.c (.int .u8 101))), (24, 1, (.c (.int .u8 100))), (25, 1, (.c (.int .u8 32))), (26, 1, (.c (.int .u8 67))), (27, 1, (.c (.int .u8 77))), (28, 1, (.c (.int .u8 75)))]),
 i1 8 (.cvs (.s 7)) [1],
 i1 9 (.call (.c (.fn 290 [])) [(.s 6), (.s 8), (.c (.int .i64 32))]) [0, 2],
 i1 5 (.mv (.s 9)) [3],
 i1 10 (.ext (.s 5) 0) [4],
 i1 11 (.ext (.s 5) 1) [4],
 i1 3 (.mv (.s 10)) [5, 3, 0, 1, 2, 3, 4, 5],
 i1 4 (.mv (.s 11)) [6, 7, 0, 1, 2, 3, 4, 5, 6, 7]])
 (.seq (rf [i0 12 (.mv (.s 3)),
 i1 13 (.s2a 32 (.s 12)) [0],
 i1 14 (.lda 32 (some .u8) (.s 13)) [1],
 ⟨none, (.stc 32 (.s 2) (.s 14)), none, [2, 0, 1, 2]⟩])
 .ret))), false, (some [(Sh.ar .u8)]), (some (Sh.ar .u8)), false⟩

/-- euphroe/prf.Seal -/
def k295 : Fun := ⟨2, 9, [0, 1, 2, 4], [(.cell 4 32 true (some .u8))],
  (.seq (rf [i0 2 (.box (.s 0)),
 i0 4 (.new (.ints .u8 [0, 0, 0, 0, 0, 0, 0, 0, 0, 0, 0, 0, 0, 0, 0, 0, 0, 0, 0, 0, 0, 0, 0, 0, 0, 0, 0, 0, 0, 0, 0, 0]))])
 (.seq (rf [i0 5 (.sla 32 1 (.s 2) none none none),
 i0 6 (.mv (.s 1)),
 i1 7 (.bsl 1 1 (.vals [.nils]) [(0, 1, (.s 6))]) [1],
 i1 8 (.call (.c (.fn 223 [])) [(.s 5), (.s 7)]) [0, 2],
 ⟨none, (.stc 32 (.s 4) (.s 8)), none, [3, 3, 0, 1, 2, 3]⟩])
 .ret)), false, (some [(Sh.ar .u8), (Sh.sl (Sh.int .u8))]), (some (Sh.ar .u8)), false⟩

/-- euphroe/bind.Connected -/
def k297 : Fun := ⟨3, 17, [0, 1, 2, 3, 4, 5, 6, 7], [(.cell 6 4 true none)],
  (.seq (rf [i0 3 (.box (.s 0)),
 i0 4 (.box (.s 1)),
 i0 5 (.box (.s 2)),
 i0 6 (.new (.vals [(.bool false), (.int .u16 0), .nils, .nils]))])
 (.seq (rf [i0 8 (.lda 32 (some .u8) (.s 4)),
 i0 9 (.lda 32 (some .u8) (.s 5)),
 i1 10 (.build (.ints .u8 [0, 0, 0, 0, 0, 0, 0, 0, 0, 0, 0, 0, 0, 0, 0, 0, 0, 0, 0, 0, 0, 0, 0, 0, 0, 0, 0, 0, 0, 0, 0, 0, 0, 0, 0, 0, 0, 0, 0, 0, 0, 0, 0, 0, 0, 0, 0, 0, 0, 0, 0, 0, 0, 0, 0, 0, 0, 0, 0, 0, 0, 0, 0, 0, 0, 0, 0, 0, 0, 0, 0, 0, 0, 0, 0, 0, 0, 0, 0, 0, 0, 0, 0, 0, 0, 0, 0, 0, 0, 0, 0, 0, 0, 0, 0, 0, 0]) [(0, 1, (.c (.int .u8 2))), (1, 32, (.s 8)), (33, 32, (.s 9))]) [0, 1],
 i0 7 (.new (.ints .u8 [0, 0, 0, 0, 0, 0, 0, 0, 0, 0, 0, 0, 0, 0, 0, 0, 0, 0, 0, 0, 0, 0, 0, 0, 0, 0, 0, 0, 0, 0, 0, 0, 0, 0, 0, 0, 0, 0, 0, 0, 0, 0, 0, 0, 0, 0, 0, 0, 0, 0, 0, 0, 0, 0, 0, 0, 0, 0, 0, 0, 0, 0, 0, 0, 0, 0, 0, 0, 0, 0, 0, 0, 0, 0, 0, 0, 0, 0, 0, 0, 0, 0, 0, 0, 0, 0, 0, 0, 0, 0, 0, 0, 0, 0, 0, 0, 0])),
 ⟨none, (.stc 97 (.s 7) (.s 10)), none, [3, 2, 0, 1, 2, 3]⟩])
 (.seq (rf [i0 11 (.lda 97 (some .u8) (.s 7)),
 i0 12 (.lda 32 (some .u8) (.s 3)),
 i1 13 (.call (.c (.fn 309 [])) [(.s 11), (.s 12)]) [0, 1],
 i1 14 (.fad 65 (.s 7)) [0, 1, 2],
 ⟨none, (.stc 32 (.s 14) (.s 13)), none, [3, 2, 2, 0, 1, 2]⟩])
 (.seq (rf [i0 15 (.lda 97 (some .u8) (.s 7)),
 i1 16 (.call (.c (.fn 310 [])) [(.s 15)]) [0],
 ⟨none, (.stc 4 (.s 6) (.s 16)), none, [1, 1, 0, 1]⟩])
 .ret)))), false, (some [(Sh.ar .u8), (Sh.ar .u8), (Sh.ar .u8)]), (some (Sh.st (Sh.pr Sh.bool (Sh.pr (Sh.int .u16) (Sh.pr (Sh.sl (Sh.pr (Sh.int .u8) (Sh.sl (Sh.int .u8)))) (Sh.sl (Sh.int .u8))))))), false⟩

/-- euphroe/bind.Check -/
def k298 : Fun := ⟨4, 45, [0, 1, 2, 3, 4, 5, 6, 7, 8, 9, 10, 11, 20, 24, 28, 33], [(.tmp 8)],
  (.seq (rf [i0 4 (.box (.s 0)),
 i0 5 (.box (.s 1)),
 i0 6 (.box (.s 2)),
 i0 7 (.box (.s 3)),
 i0 8 (.mv (.c (.int .i64 0)))])
 (.seq (rf [i0 13 (.lda 4 none (.s 4)),
 i1 14 (.call (.c (.fn 311 [])) [(.s 13)]) [0],
 i1 12 (.mv (.s 14)) [1],
 i1 15 (.ext (.s 12) 0) [2],
 i1 16 (.ext (.s 12) 1) [2],
 i0 9 (.new (.ints .u8 [0, 0, 0, 0, 0, 0, 0, 0, 0, 0, 0, 0, 0, 0, 0, 0, 0, 0, 0, 0, 0, 0, 0, 0, 0, 0, 0, 0, 0, 0, 0, 0, 0, 0, 0, 0, 0, 0, 0, 0, 0, 0, 0, 0, 0, 0, 0, 0, 0, 0, 0, 0, 0, 0, 0, 0, 0, 0, 0, 0, 0, 0, 0, 0, 0, 0, 0, 0, 0, 0, 0, 0, 0, 0, 0, 0, 0, 0, 0, 0, 0, 0, 0, 0, 0, 0, 0, 0, 0, 0, 0, 0, 0, 0, 0, 0, 0])),
 ⟨none, (.stc 97 (.s 9) (.s 15)), none, [5, 3, 1, 0, 1, 2, 3, 5]⟩,
 i1 10 (.mv (.s 16)) [4, 6, 0, 1, 2, 3, 4, 5, 6]])
 (.seq (rf [i0 17 (.lda 97 (some .u8) (.s 9)),
 i0 18 (.lda 32 (some .u8) (.s 5)),
 i1 19 (.call (.c (.fn 309 [])) [(.s 17), (.s 18)]) [0, 1],
 i0 11 (.new (.ints .u8 [0, 0, 0, 0, 0, 0, 0, 0, 0, 0, 0, 0, 0, 0, 0, 0, 0, 0, 0, 0, 0, 0, 0, 0, 0, 0, 0, 0, 0, 0, 0, 0])),
 ⟨none, (.stc 32 (.s 11) (.s 19)), none, [3, 2, 2, 0, 1, 2, 3]⟩])
 (.seq (.block 0
 (.seq (rf [i0 21 (.mv (.s 10)),
 i1 22 (.bin .neq (.s 21) (.c (.int .i64 0))) [0],
 i1 20 (.mv (.s 22)) [1]])
 (.cond (.s 20)
 (.seq (rf [i0 23 (.mv (.s 10)),
 i1 8 (.mv (.s 23)) [0, 0]])
 .ret)
 (.seq (rf [i0 25 (.fad 0 (.s 9)),
 i1 26 (.ldc (.s 25)) [0],
 i1 27 (.bin .neq (.s 26) (.c (.int .u8 2))) [1],
 i1 24 (.mv (.s 27)) [2]])
 (.cond (.s 24)
 (.seq (rf [i0 8 (.mv (.c (.int .i64 1)))])
 .ret)
 (.seq (rf [i0 29 (.fad 1 (.s 9)),
 i1 30 (.lda 32 (some .u8) (.s 29)) [0],
 i0 31 (.lda 32 (some .u8) (.s 6)),
 i1 32 (.eqa 32 true (.s 30) (.s 31)) [1, 2],
 i1 28 (.mv (.s 32)) [3]])
 (.cond (.s 28)
 (.seq (rf [i0 8 (.mv (.c (.int .i64 10)))])
 .ret)
 (.seq (rt [i0 34 (.fad 33 (.s 9)),
 i1 35 (.lda 32 (some .u8) (.s 34)) [0],
 i0 36 (.lda 32 (some .u8) (.s 7)),
 i1 37 (.eqa 32 true (.s 35) (.s 36)) [1, 2],
 i1 38 (.mv (.s 37)) [3],
 ⟨(some 39), (.fad 65 (.s 9)), (some (38, false)), [4]⟩,
 ⟨(some 40), (.sla 32 1 (.s 39) none none none), (some (38, false)), [5, 4]⟩,
 ⟨(some 41), (.sla 32 1 (.s 11) none none none), (some (38, false)), [4]⟩,
 ⟨(some 42), (.call (.c (.fn 47 [])) [(.s 40), (.s 41)]), (some (38, false)), [6, 7, 4, 4]⟩,
 ⟨(some 43), (.un .not (.s 42)), (some (38, false)), [8, 4]⟩,
 i1 44 (.pick (.s 38) (.c (.bool true)) (.s 43)) [4, 9],
 i1 33 (.mv (.s 44)) [10, 8]])
 (.cond (.s 33)
 (.seq (rf [i0 8 (.mv (.c (.int .i64 14)))])
 .ret)
 .skip)))))))))
 (.seq (rf [i0 8 (.mv (.c (.int .i64 0)))])
 .ret))))), false, (some [(Sh.st (Sh.pr Sh.bool (Sh.pr (Sh.int .u16) (Sh.pr (Sh.sl (Sh.pr (Sh.int .u8) (Sh.sl (Sh.int .u8)))) (Sh.sl (Sh.int .u8)))))), (Sh.ar .u8), (Sh.ar .u8), (Sh.ar .u8)]), (some (Sh.int .i64)), false⟩

/-- euphroe/bind.Bare -/
def k299 : Fun := ⟨1, 19, [0, 1, 2, 3, 4, 5, 12], [(.cell 2 4 true none), (.tmp 3)],
  (.seq (rf [i0 1 (.box (.s 0)),
 i0 2 (.new (.vals [(.bool false), (.int .u16 0), .nils, .nils])),
 i0 3 (.mv (.c (.int .i64 0)))])
 (.seq (rf [i0 7 (.lda 4 none (.s 1)),
 i1 8 (.call (.c (.fn 311 [])) [(.s 7)]) [0],
 i1 6 (.mv (.s 8)) [1],
 i1 9 (.ext (.s 6) 0) [2],
 i1 10 (.ext (.s 6) 1) [2],
 i0 4 (.new (.ints .u8 [0, 0, 0, 0, 0, 0, 0, 0, 0, 0, 0, 0, 0, 0, 0, 0, 0, 0, 0, 0, 0, 0, 0, 0, 0, 0, 0, 0, 0, 0, 0, 0, 0, 0, 0, 0, 0, 0, 0, 0, 0, 0, 0, 0, 0, 0, 0, 0, 0, 0, 0, 0, 0, 0, 0, 0, 0, 0, 0, 0, 0, 0, 0, 0, 0, 0, 0, 0, 0, 0, 0, 0, 0, 0, 0, 0, 0, 0, 0, 0, 0, 0, 0, 0, 0, 0, 0, 0, 0, 0, 0, 0, 0, 0, 0, 0, 0])),
 ⟨none, (.stc 97 (.s 4) (.s 9)), none, [5, 3, 1, 0, 1, 2, 3, 5]⟩,
 i1 5 (.mv (.s 10)) [4, 6, 0, 1, 2, 3, 4, 5, 6]])
 (.seq (.seq (rf [i0 11 (.mv (.s 5)),
 i1 12 (.bin .neq (.s 11) (.c (.int .i64 0))) [0]])
 (.cond (.s 12)
 (.seq (rf [i0 13 (.build (.vals [(.bool false), (.int .u16 0), .nils, .nils]) []),
 i0 14 (.mv (.s 5)),
 ⟨none, (.stc 4 (.s 2) (.s 13)), none, [0, 0]⟩,
 i1 3 (.mv (.s 14)) [1, 2, 0, 1, 2]])
 .ret)
 .skip))
 (.seq (rf [i0 15 (.build (.ints .u8 [0, 0, 0, 0, 0, 0, 0, 0, 0, 0, 0, 0, 0, 0, 0, 0, 0, 0, 0, 0, 0, 0, 0, 0, 0, 0, 0, 0, 0, 0, 0, 0]) []),
 i1 16 (.fad 65 (.s 4)) [0],
 ⟨none, (.stc 32 (.s 16) (.s 15)), none, [1, 0, 0]⟩])
 (.seq (rf [i0 17 (.lda 97 (some .u8) (.s 4)),
 i1 18 (.call (.c (.fn 310 [])) [(.s 17)]) [0],
 ⟨none, (.stc 4 (.s 2) (.s 18)), none, [1, 1, 0, 1]⟩,
 i1 3 (.mv (.c (.int .i64 0))) [2, 0, 1, 2]])
 .ret))))), false, (some [(Sh.st (Sh.pr Sh.bool (Sh.pr (Sh.int .u16) (Sh.pr (Sh.sl (Sh.pr (Sh.int .u8) (Sh.sl (Sh.int .u8)))) (Sh.sl (Sh.int .u8))))))]), (some (Sh.tu (Sh.pr (Sh.st (Sh.pr Sh.bool (Sh.pr (Sh.int .u16) (Sh.pr (Sh.sl (Sh.pr (Sh.int .u8) (Sh.sl (Sh.int .u8)))) (Sh.sl (Sh.int .u8)))))) (Sh.int .i64)))), false⟩

/-- euphroe/bind.Seal -/
def k300 : Fun := ⟨2, 20, [0, 1, 2, 3, 4, 5, 6, 7, 14], [(.cell 4 32 true (some .u8)), (.tmp 5)],
  (.seq (rf [i0 2 (.box (.s 0)),
 i0 3 (.box (.s 1)),
 i0 4 (.new (.ints .u8 [0, 0, 0, 0, 0, 0, 0, 0, 0, 0, 0, 0, 0, 0, 0, 0, 0, 0, 0, 0, 0, 0, 0, 0, 0, 0, 0, 0, 0, 0, 0, 0])),
 i0 5 (.mv (.c (.int .i64 0)))])
 (.seq (rf [i0 9 (.lda 4 none (.s 2)),
 i1 10 (.call (.c (.fn 311 [])) [(.s 9)]) [0],
 i1 8 (.mv (.s 10)) [1],
 i1 11 (.ext (.s 8) 0) [2],
 i1 12 (.ext (.s 8) 1) [2],
 i0 6 (.new (.ints .u8 [0, 0, 0, 0, 0, 0, 0, 0, 0, 0, 0, 0, 0, 0, 0, 0, 0, 0, 0, 0, 0, 0, 0, 0, 0, 0, 0, 0, 0, 0, 0, 0, 0, 0, 0, 0, 0, 0, 0, 0, 0, 0, 0, 0, 0, 0, 0, 0, 0, 0, 0, 0, 0, 0, 0, 0, 0, 0, 0, 0, 0, 0, 0, 0, 0, 0, 0, 0, 0, 0, 0, 0, 0, 0, 0, 0, 0, 0, 0, 0, 0, 0, 0, 0, 0, 0, 0, 0, 0, 0, 0, 0, 0, 0, 0, 0, 0])),
 ⟨none, (.stc 97 (.s 6) (.s 11)), none, [5, 3, 1, 0, 1, 2, 3, 5]⟩,
 i1 7 (.mv (.s 12)) [4, 6, 0, 1, 2, 3, 4, 5, 6]])
 (.seq (.seq (rf [i0 13 (.mv (.s 7)),
 i1 14 (.bin .neq (.s 13) (.c (.int .i64 0))) [0]])
 (.cond (.s 14)
 (.seq (rf [i0 15 (.build (.ints .u8 [0, 0, 0, 0, 0, 0, 0, 0, 0, 0, 0, 0, 0, 0, 0, 0, 0, 0, 0, 0, 0, 0, 0, 0, 0, 0, 0, 0, 0, 0, 0, 0]) []),
 i0 16 (.mv (.s 7)),
 ⟨none, (.stc 32 (.s 4) (.s 15)), none, [0, 0]⟩,
 i1 5 (.mv (.s 16)) [1, 2, 0, 1, 2]])
 .ret)
 .skip))
 (.seq (rf [i0 17 (.lda 97 (some .u8) (.s 6)),
 i0 18 (.lda 32 (some .u8) (.s 3)),
 i1 19 (.call (.c (.fn 309 [])) [(.s 17), (.s 18)]) [0, 1],
 ⟨none, (.stc 32 (.s 4) (.s 19)), none, [2, 2, 0, 1, 2]⟩,
 i1 5 (.mv (.c (.int .i64 0))) [3, 0, 1, 2, 3]])
 .ret)))), false, (some [(Sh.st (Sh.pr Sh.bool (Sh.pr (Sh.int .u16) (Sh.pr (Sh.sl (Sh.pr (Sh.int .u8) (Sh.sl (Sh.int .u8)))) (Sh.sl (Sh.int .u8)))))), (Sh.ar .u8)]), (some (Sh.tu (Sh.pr (Sh.ar .u8) (Sh.int .i64)))), false⟩

/-- euphroe/euphroelaw34.alive -/
def k301 : Fun := ⟨0, 45, [0, 1, 2, 3], [(.tmp 0)],
  (.seq (rf [i0 0 (.mv (.c (.bool false)))])
 (.seq (rf [i0 4 (.build (.ints .u8 [0, 0, 0, 0, 0, 0, 0, 0, 0, 0, 0, 0, 0, 0, 0, 0, 0, 0, 0, 0, 0, 0, 0, 0, 0, 0, 0, 0, 0, 0, 0, 0]) [(0, 1, (.c (.int .u8 1)))]),
 i0 5 (.build (.ints .u8 [0, 0, 0, 0, 0, 0, 0, 0, 0, 0, 0, 0, 0, 0, 0, 0, 0, 0, 0, 0, 0, 0, 0, 0, 0, 0, 0, 0, 0, 0, 0, 0]) [(0, 1, (.c (.int .u8 2)))]),
 i0 6 (.build (.ints .u8 [0, 0, 0, 0, 0, 0, 0, 0, 0, 0, 0, 0, 0, 0, 0, 0, 0, 0, 0, 0, 0, 0, 0, 0, 0, 0, 0, 0, 0, 0, 0, 0]) [(0, 1, (.c (.int .u8 3)))]),
 i1 7 (.call (.c (.fn 297 [])) [(.s 4), (.s 5), (.s 6)]) [0, 1, 2],
 i0 1 (.new (.vals [(.bool false), (.int .u16 0), .nils, .nils])),
 ⟨none, (.stc 4 (.s 1) (.s 7)), none, [4, 3, 3, 0, 1, 2, 3, 4]⟩])
 (.seq (rf [i0 9 (.build (.ints .u8 [0, 0, 0, 0, 0, 0, 0, 0, 0, 0, 0, 0, 0, 0, 0, 0, 0, 0, 0, 0, 0, 0, 0, 0, 0, 0, 0, 0, 0, 0, 0, 0]) [(0, 1, (.c (.int .u8 4)))]),
 i1 10 (.call (.c (.fn 305 [])) [(.s 9)]) [0],
 i1 11 (.call (.c (.fn 312 [])) [(.s 10)]) [1, 1],
 i1 8 (.mv (.s 11)) [2],
 i1 12 (.ext (.s 8) 0) [3],
 i1 13 (.ext (.s 8) 1) [3],
 i0 2 (.new (.ints .u8 [0, 0, 0, 0, 0, 0, 0, 0, 0, 0, 0, 0, 0, 0, 0, 0, 0, 0, 0, 0, 0, 0, 0, 0, 0, 0, 0, 0, 0, 0, 0, 0])),
 ⟨none, (.stc 32 (.s 2) (.s 12)), none, [6, 4, 2, 0, 1, 2, 3, 4, 6]⟩,
 i1 3 (.mv (.s 13)) [5, 7, 0, 1, 2, 3, 4, 5, 6, 7]])
 (.seq (rf [i0 14 (.lda 4 none (.s 1)),
 i0 15 (.build (.ints .u8 [0, 0, 0, 0, 0, 0, 0, 0, 0, 0, 0, 0, 0, 0, 0, 0, 0, 0, 0, 0, 0, 0, 0, 0, 0, 0, 0, 0, 0, 0, 0, 0]) [(0, 1, (.c (.int .u8 1)))]),
 i0 16 (.build (.ints .u8 [0, 0, 0, 0, 0, 0, 0, 0, 0, 0, 0, 0, 0, 0, 0, 0, 0, 0, 0, 0, 0, 0, 0, 0, 0, 0, 0, 0, 0, 0, 0, 0]) [(0, 1, (.c (.int .u8 2)))]),
 i0 17 (.build (.ints .u8 [0, 0, 0, 0, 0, 0, 0, 0, 0, 0, 0, 0, 0, 0, 0, 0, 0, 0, 0, 0, 0, 0, 0, 0, 0, 0, 0, 0, 0, 0, 0, 0]) [(0, 1, (.c (.int .u8 3)))]),
 i1 18 (.call (.c (.fn 298 [])) [(.s 14), (.s 15), (.s 16), (.s 17)]) [0, 1, 2, 3],
 i1 19 (.bin .eql (.s 18) (.c (.int .i64 0))) [4],
 i1 20 (.mv (.s 19)) [5, 4],
 ⟨(some 21), (.lda 4 none (.s 1)), (some (20, true)), [6]⟩,
 ⟨(some 22), (.build (.ints .u8 [0, 0, 0, 0, 0, 0, 0, 0, 0, 0, 0, 0, 0, 0, 0, 0, 0, 0, 0, 0, 0, 0, 0, 0, 0, 0, 0, 0, 0, 0, 0, 0]) [(0, 1, (.c (.int .u8 1)))]), (some (20, true)), [6]⟩,
 ⟨(some 23), (.build (.ints .u8 [0, 0, 0, 0, 0, 0, 0, 0, 0, 0, 0, 0, 0, 0, 0, 0, 0, 0, 0, 0, 0, 0, 0, 0, 0, 0, 0, 0, 0, 0, 0, 0]) [(0, 1, (.c (.int .u8 5)))]), (some (20, true)), [6]⟩,
 ⟨(some 24), (.build (.ints .u8 [0, 0, 0, 0, 0, 0, 0, 0, 0, 0, 0, 0, 0, 0, 0, 0, 0, 0, 0, 0, 0, 0, 0, 0, 0, 0, 0, 0, 0, 0, 0, 0]) [(0, 1, (.c (.int .u8 3)))]), (some (20, true)), [6]⟩,
 ⟨(some 25), (.call (.c (.fn 298 [])) [(.s 21), (.s 22), (.s 23), (.s 24)]), (some (20, true)), [7, 8, 9, 10, 6, 6]⟩,
 ⟨(some 26), (.bin .eql (.s 25) (.c (.int .i64 10))), (some (20, true)), [11, 6]⟩,
 i1 27 (.pick (.s 20) (.s 26) (.c (.bool false))) [6, 12],
 i1 28 (.mv (.s 27)) [13, 11],
 ⟨(some 29), (.lda 32 (some .u8) (.s 2)), (some (28, true)), [14]⟩,
 ⟨(some 30), (.build (.ints .u8 [0, 0, 0, 0, 0, 0, 0, 0, 0, 0, 0, 0, 0, 0, 0, 0, 0, 0, 0, 0, 0, 0, 0, 0, 0, 0, 0, 0, 0, 0, 0, 0]) [(0, 1, (.c (.int .u8 4)))]), (some (28, true)), [14]⟩,
 ⟨(some 31), (.eqa 32 false (.s 29) (.s 30)), (some (28, true)), [15, 16, 14]⟩,
 i1 32 (.pick (.s 28) (.s 31) (.c (.bool false))) [14, 17],
 i1 33 (.mv (.s 32)) [18, 14],
 ⟨(some 34), (.mv (.s 3)), (some (33, true)), [19]⟩,
 ⟨(some 35), (.bin .eql (.s 34) (.c (.int .i64 0))), (some (33, true)), [20, 19]⟩,
 i1 36 (.pick (.s 33) (.s 35) (.c (.bool false))) [19, 21],
 i1 37 (.mv (.s 36)) [22, 19],
 i1 38 (.pick (.s 37) (.c (.bool true)) (.c (.bool false))) [23],
 i1 39 (.mv (.s 38)) [24, 23],
 ⟨(some 40), (.fad 2 (.s 1)), (some (39, true)), [25]⟩,
 ⟨(some 41), (.ldc (.s 40)), (some (39, true)), [26, 25]⟩,
 ⟨(some 42), (.len false (.s 41)), (some (39, true)), [27, 25]⟩,
 ⟨(some 43), (.bin .eql (.s 42) (.c (.int .i64 1))), (some (39, true)), [28, 25]⟩,
 i1 44 (.pick (.s 39) (.s 43) (.c (.bool false))) [25, 29],
 i1 0 (.mv (.s 44)) [30, 25, 0, 1, 2, 3, 4, 5, 6, 7, 8, 9, 10, 11, 12, 13, 14, 15, 16, 17, 18, 19, 20, 21, 22, 23, 24, 25, 26, 27, 28, 29, 30]])
 .ret)))), false, (some []), (some Sh.bool), false⟩

/-- euphroe/bind.Ask -/
def k305 : Fun := ⟨1, 8, [0, 1, 2], [(.cell 2 4 true none)],
  (.seq (rf [i0 1 (.box (.s 0)),
 i0 2 (.new (.vals [(.bool false), (.int .u16 0), .nils, .nils]))])
 (.seq (rf [i0 3 (.lda 32 (some .u8) (.s 1)),
 i1 4 (.build (.ints .u8 [0, 0, 0, 0, 0, 0, 0, 0, 0, 0, 0, 0, 0, 0, 0, 0, 0, 0, 0, 0, 0, 0, 0, 0, 0, 0, 0, 0, 0, 0, 0, 0, 0]) [(0, 1, (.c (.int .u8 2))), (1, 32, (.s 3))]) [0],
 i1 5 (.call (.c (.fn 149 [])) [(.s 4)]) [1],
 i1 6 (.bsl 1 2 (.vals [(.int .u8 0), .nils]) [(0, 2, (.s 5))]) [2],
 i1 7 (.call (.c (.fn 316 [])) [(.c (.int .u16 2)), (.s 6)]) [3, 2],
 ⟨none, (.stc 4 (.s 2) (.s 7)), none, [4, 4, 0, 1, 2, 3, 4]⟩])
 .ret)), false, (some [(Sh.ar .u8)]), (some (Sh.st (Sh.pr Sh.bool (Sh.pr (Sh.int .u16) (Sh.pr (Sh.sl (Sh.pr (Sh.int .u8) (Sh.sl (Sh.int .u8)))) (Sh.sl (Sh.int .u8))))))), false⟩

/-- euphroe/prf.may -/
def k307 : Fun := ⟨1, 9, [0, 2, 3, 6], [(.tmp 2)],
  (.seq (rf [i0 2 (.mv (.c (.int .i64 0)))])
 (.seq (.block 0
 (.seq (rf [i0 4 (.mv (.s 0)),
 i1 5 (.bin .lss (.s 4) (.c (.int .i64 1))) [0],
 i1 3 (.mv (.s 5)) [1]])
 (.cond (.s 3)
 (.seq (rf [i0 2 (.mv (.c (.int .i64 1)))])
 .ret)
 (.seq (rf [i0 7 (.mv (.s 0)),
 i1 8 (.bin .gtr (.s 7) (.c (.int .i64 8160))) [0],
 i1 6 (.mv (.s 8)) [1]])
 (.cond (.s 6)
 (.seq (rf [i0 2 (.mv (.c (.int .i64 8)))])
 .ret)
 .skip)))))
 (.seq (rf [i0 2 (.mv (.c (.int .i64 0)))])
 .ret))), false, (some [(Sh.int .i64)]), (some (Sh.int .i64)), false⟩

/-- euphroe/prf.Derive$1 -/
def k308 : Fun := ⟨6, 21, [0, 1, 2, 3, 4, 5, 7], [],
  (.seq (rf [i0 8 (.ldc (.s 1)),
 i0 9 (.ldc (.s 2)),
 i0 10 (.ldc (.s 3)),
 i0 11 (.ldc (.s 4)),
 i0 12 (.mv (.s 0)),
 i1 13 (.cvi .u8 (.s 12)) [4],
 i1 14 (.bsl 1 1 (.ints .u8 [0]) [(0, 1, (.s 13))]) [5],
 i1 15 (.bsl 4 1 (.vals [.nils, .nils, .nils, .nils]) [(0, 1, (.s 9)), (1, 1, (.s 10)), (2, 1, (.s 11)), (3, 1, (.s 14))]) [1, 2, 3, 6],
 i1 16 (.call (.c (.fn 223 [])) [(.s 8), (.s 15)]) [0, 7],
 i0 7 (.new (.ints .u8 [0, 0, 0, 0, 0, 0, 0, 0, 0, 0, 0, 0, 0, 0, 0, 0, 0, 0, 0, 0, 0, 0, 0, 0, 0, 0, 0, 0, 0, 0, 0, 0])),
 ⟨none, (.stc 32 (.s 7) (.s 16)), none, [9, 8, 8, 0, 1, 2, 3, 4, 5, 6, 7, 8, 9]⟩])
 (.seq (rf [i0 17 (.sla 32 1 (.s 7) none none none),
 ⟨none, (.stc 1 (.s 2) (.s 17)), none, [0, 0]⟩])
 (rf [i0 18 (.ldc (.s 5)),
 i0 19 (.ldc (.s 2)),
 i1 20 (.app 1 1 (.s 18) (.s 19)) [0, 1],
 ⟨none, (.stc 1 (.s 5) (.s 20)), none, [2, 2, 0, 1, 2]⟩]))), false, none, none, false⟩

/-- euphroe/bind.sealed -/
def k309 : Fun := ⟨2, 19, [0, 1, 2, 3, 4, 5], [(.cell 4 32 true (some .u8))],
  (.seq (rf [i0 2 (.box (.s 0)),
 i0 3 (.box (.s 1)),
 i0 4 (.new (.ints .u8 [0, 0, 0, 0, 0, 0, 0, 0, 0, 0, 0, 0, 0, 0, 0, 0, 0, 0, 0, 0, 0, 0, 0, 0, 0, 0, 0, 0, 0, 0, 0, 0]))])
 (.seq (rf [i0 7 (.build (.ints .u8 [0, 0, 0, 0, 0, 0, 0, 0, 0, 0, 0, 0, 0, 0, 0, 0, 0, 0, 0, 0, 0, 0, 0, 0, 0, 0, 0, 0, 0, 0, 0, 0]) []),
 i1 8 (.fad 65 (.s 2)) [0],
 ⟨none, (.stc 32 (.s 8) (.s 7)), none, [1, 0, 0]⟩])
 (.seq (rf [i0 10 (.lda 97 (some .u8) (.s 2)),
 i1 11 (.call (.c (.fn 310 [])) [(.s 10)]) [0],
 i1 12 (.call (.c (.fn 317 [])) [(.s 11)]) [1, 1],
 i1 9 (.mv (.s 12)) [2],
 i1 13 (.ext (.s 9) 0) [3],
 i1 14 (.ext (.s 9) 1) [3],
 i1 5 (.mv (.s 13)) [4, 2, 0, 1, 2, 3, 4],
 i1 6 (.mv (.s 14)) [5, 6, 0, 1, 2, 3, 4, 5, 6]])
 (.seq (rf [i0 15 (.lda 32 (some .u8) (.s 3)),
 i1 16 (.call (.c (.fn 293 [])) [(.s 15)]) [0],
 i0 17 (.mv (.s 5)),
 i1 18 (.call (.c (.fn 295 [])) [(.s 16), (.s 17)]) [1, 2, 1],
 ⟨none, (.stc 32 (.s 4) (.s 18)), none, [3, 3, 0, 1, 2, 3]⟩])
 .ret)))), false, (some [(Sh.ar .u8), (Sh.ar .u8)]), (some (Sh.ar .u8)), false⟩

/-- euphroe/bind.of -/
def k310 : Fun := ⟨1, 7, [0, 1, 2], [(.cell 2 4 true none)],
  (.seq (rf [i0 1 (.box (.s 0)),
 i0 2 (.new (.vals [(.bool false), (.int .u16 0), .nils, .nils]))])
 (.seq (rf [i0 3 (.lda 97 (some .u8) (.s 1)),
 i1 4 (.call (.c (.fn 148 [])) [(.s 3)]) [0],
 i1 5 (.bsl 1 2 (.vals [(.int .u8 0), .nils]) [(0, 2, (.s 4))]) [1],
 i1 6 (.call (.c (.fn 316 [])) [(.c (.int .u16 4)), (.s 5)]) [2, 1],
 ⟨none, (.stc 4 (.s 2) (.s 6)), none, [3, 3, 0, 1, 2, 3]⟩])
 .ret)), false, (some [(Sh.ar .u8)]), (some (Sh.st (Sh.pr Sh.bool (Sh.pr (Sh.int .u16) (Sh.pr (Sh.sl (Sh.pr (Sh.int .u8) (Sh.sl (Sh.int .u8)))) (Sh.sl (Sh.int .u8))))))), false⟩

/-- euphroe/bind.binding -/
def k311 : Fun := ⟨1, 19, [0, 1, 2, 3, 4, 5, 12], [(.cell 2 97 true (some .u8)), (.tmp 3)],
  (.seq (rf [i0 1 (.box (.s 0)),
 i0 2 (.new (.ints .u8 [0, 0, 0, 0, 0, 0, 0, 0, 0, 0, 0, 0, 0, 0, 0, 0, 0, 0, 0, 0, 0, 0, 0, 0, 0, 0, 0, 0, 0, 0, 0, 0, 0, 0, 0, 0, 0, 0, 0, 0, 0, 0, 0, 0, 0, 0, 0, 0, 0, 0, 0, 0, 0, 0, 0, 0, 0, 0, 0, 0, 0, 0, 0, 0, 0, 0, 0, 0, 0, 0, 0, 0, 0, 0, 0, 0, 0, 0, 0, 0, 0, 0, 0, 0, 0, 0, 0, 0, 0, 0, 0, 0, 0, 0, 0, 0, 0])),
 i0 3 (.mv (.c (.int .i64 0)))])
 (.seq (rf [i0 7 (.lda 4 none (.s 1)),
 i1 8 (.call (.c (.fn 318 [])) [(.s 7), (.c (.int .u16 4))]) [0],
 i1 6 (.mv (.s 8)) [1],
 i1 9 (.ext (.s 6) 0) [2],
 i1 10 (.ext (.s 6) 1) [2],
 i0 4 (.new (.vals [(.int .u8 0), .nils])),
 ⟨none, (.stc 2 (.s 4) (.s 9)), none, [5, 3, 1, 0, 1, 2, 3, 5]⟩,
 i1 5 (.mv (.s 10)) [4, 6, 0, 1, 2, 3, 4, 5, 6]])
 (.seq (.seq (rf [i0 11 (.mv (.s 5)),
 i1 12 (.bin .neq (.s 11) (.c (.int .i64 0))) [0]])
 (.cond (.s 12)
 (.seq (rf [i0 13 (.build (.ints .u8 [0, 0, 0, 0, 0, 0, 0, 0, 0, 0, 0, 0, 0, 0, 0, 0, 0, 0, 0, 0, 0, 0, 0, 0, 0, 0, 0, 0, 0, 0, 0, 0, 0, 0, 0, 0, 0, 0, 0, 0, 0, 0, 0, 0, 0, 0, 0, 0, 0, 0, 0, 0, 0, 0, 0, 0, 0, 0, 0, 0, 0, 0, 0, 0, 0, 0, 0, 0, 0, 0, 0, 0, 0, 0, 0, 0, 0, 0, 0, 0, 0, 0, 0, 0, 0, 0, 0, 0, 0, 0, 0, 0, 0, 0, 0, 0, 0]) []),
 i0 14 (.mv (.s 5)),
 ⟨none, (.stc 97 (.s 2) (.s 13)), none, [0, 0]⟩,
 i1 3 (.mv (.s 14)) [1, 2, 0, 1, 2]])
 .ret)
 .skip))
 (.seq (rf [i0 15 (.lda 2 none (.s 4)),
 i1 16 (.call (.c (.fn 154 [])) [(.s 15)]) [0],
 i1 17 (.ext (.s 16) 0) [1],
 i1 18 (.ext (.s 16) 1) [1],
 ⟨none, (.stc 97 (.s 2) (.s 17)), none, [2, 1, 0, 1, 2, 3]⟩,
 i1 3 (.mv (.s 18)) [3, 4, 0, 1, 2, 3, 4]])
 .ret)))), false, (some [(Sh.st (Sh.pr Sh.bool (Sh.pr (Sh.int .u16) (Sh.pr (Sh.sl (Sh.pr (Sh.int .u8) (Sh.sl (Sh.int .u8)))) (Sh.sl (Sh.int .u8))))))]), (some (Sh.tu (Sh.pr (Sh.ar .u8) (Sh.int .i64)))), false⟩

/-- euphroe/bind.Asked -/
def k312 : Fun := ⟨1, 34, [0, 1, 2, 3, 4, 5, 6, 13, 21, 26], [(.cell 2 32 true (some .u8)), (.tmp 3)],
  (.seq (rf [i0 1 (.box (.s 0)),
 i0 2 (.new (.ints .u8 [0, 0, 0, 0, 0, 0, 0, 0, 0, 0, 0, 0, 0, 0, 0, 0, 0, 0, 0, 0, 0, 0, 0, 0, 0, 0, 0, 0, 0, 0, 0, 0])),
 i0 3 (.mv (.c (.int .i64 0)))])
 (.seq (rf [i0 8 (.lda 4 none (.s 1)),
 i1 9 (.call (.c (.fn 318 [])) [(.s 8), (.c (.int .u16 2))]) [0],
 i1 7 (.mv (.s 9)) [1],
 i1 10 (.ext (.s 7) 0) [2],
 i1 11 (.ext (.s 7) 1) [2],
 i0 4 (.new (.vals [(.int .u8 0), .nils])),
 ⟨none, (.stc 2 (.s 4) (.s 10)), none, [5, 3, 1, 0, 1, 2, 3, 5]⟩,
 i1 5 (.mv (.s 11)) [4, 6, 0, 1, 2, 3, 4, 5, 6]])
 (.seq (.seq (rf [i0 12 (.mv (.s 5)),
 i1 13 (.bin .neq (.s 12) (.c (.int .i64 0))) [0]])
 (.cond (.s 13)
 (.seq (rf [i0 14 (.build (.ints .u8 [0, 0, 0, 0, 0, 0, 0, 0, 0, 0, 0, 0, 0, 0, 0, 0, 0, 0, 0, 0, 0, 0, 0, 0, 0, 0, 0, 0, 0, 0, 0, 0]) []),
 i0 15 (.mv (.s 5)),
 ⟨none, (.stc 32 (.s 2) (.s 14)), none, [0, 0]⟩,
 i1 3 (.mv (.s 15)) [1, 2, 0, 1, 2]])
 .ret)
 .skip))
 (.seq (rf [i0 17 (.lda 2 none (.s 4)),
 i1 18 (.call (.c (.fn 155 [])) [(.s 17)]) [0],
 i1 16 (.mv (.s 18)) [1],
 i1 19 (.ext (.s 16) 0) [2],
 i1 20 (.ext (.s 16) 1) [2],
 i0 6 (.new (.ints .u8 [0, 0, 0, 0, 0, 0, 0, 0, 0, 0, 0, 0, 0, 0, 0, 0, 0, 0, 0, 0, 0, 0, 0, 0, 0, 0, 0, 0, 0, 0, 0, 0, 0])),
 ⟨none, (.stc 33 (.s 6) (.s 19)), none, [5, 3, 1, 0, 1, 2, 3, 5]⟩,
 i1 5 (.mv (.s 20)) [4, 6, 0, 1, 2, 3, 4, 5, 6]])
 (.seq (.block 0
 (.seq (rf [i0 22 (.mv (.s 5)),
 i1 23 (.bin .neq (.s 22) (.c (.int .i64 0))) [0],
 i1 21 (.mv (.s 23)) [1]])
 (.cond (.s 21)
 (.seq (rf [i0 24 (.build (.ints .u8 [0, 0, 0, 0, 0, 0, 0, 0, 0, 0, 0, 0, 0, 0, 0, 0, 0, 0, 0, 0, 0, 0, 0, 0, 0, 0, 0, 0, 0, 0, 0, 0]) []),
 i0 25 (.mv (.s 5)),
 ⟨none, (.stc 32 (.s 2) (.s 24)), none, [0, 0]⟩,
 i1 3 (.mv (.s 25)) [1, 2, 0, 1, 2]])
 .ret)
 (.seq (rf [i0 27 (.fad 0 (.s 6)),
 i1 28 (.ldc (.s 27)) [0],
 i1 29 (.bin .and (.s 28) (.c (.int .u8 2))) [1],
 i1 30 (.bin .eql (.s 29) (.c (.int .u8 0))) [2],
 i1 26 (.mv (.s 30)) [3]])
 (.cond (.s 26)
 (.seq (rf [i0 31 (.build (.ints .u8 [0, 0, 0, 0, 0, 0, 0, 0, 0, 0, 0, 0, 0, 0, 0, 0, 0, 0, 0, 0, 0, 0, 0, 0, 0, 0, 0, 0, 0, 0, 0, 0]) []),
 ⟨none, (.stc 32 (.s 2) (.s 31)), none, [0, 0]⟩,
 i1 3 (.mv (.c (.int .i64 1))) [1, 0, 1]])
 .ret)
 .skip)))))
 (.seq (rf [i0 32 (.fad 1 (.s 6)),
 i1 33 (.lda 32 (some .u8) (.s 32)) [0],
 ⟨none, (.stc 32 (.s 2) (.s 33)), none, [1, 0, 1]⟩,
 i1 3 (.mv (.c (.int .i64 0))) [2, 0, 1, 2]])
 .ret)))))), false, (some [(Sh.st (Sh.pr Sh.bool (Sh.pr (Sh.int .u16) (Sh.pr (Sh.sl (Sh.pr (Sh.int .u8) (Sh.sl (Sh.int .u8)))) (Sh.sl (Sh.int .u8))))))]), (some (Sh.tu (Sh.pr (Sh.ar .u8) (Sh.int .i64)))), false⟩

/-- euphroe/packet.Of -/
def k316 : Fun := ⟨2, 9, [0, 1, 4], [(.cell 4 4 true none)],
  (.seq (rf [i0 4 (.new (.vals [(.bool false), (.int .u16 0), .nils, .nils]))])
 (.seq (rf [i0 5 (.mv (.s 0)),
 i0 6 (.mv (.s 1)),
 i1 7 (.call (.c (.fn 320 [])) [(.s 6)]) [1],
 i1 8 (.build (.vals [(.bool false), (.int .u16 0), .nils, .nils]) [(0, 1, (.c (.bool true))), (1, 1, (.s 5)), (2, 1, (.s 7))]) [0, 2],
 ⟨none, (.stc 4 (.s 4) (.s 8)), none, [3, 2, 0, 1, 2, 3]⟩])
 .ret)), false, (some [(Sh.int .u16), (Sh.sl (Sh.pr (Sh.int .u8) (Sh.sl (Sh.int .u8))))]), (some (Sh.st (Sh.pr Sh.bool (Sh.pr (Sh.int .u16) (Sh.pr (Sh.sl (Sh.pr (Sh.int .u8) (Sh.sl (Sh.int .u8)))) (Sh.sl (Sh.int .u8))))))), false⟩

/-- euphroe/packet.Lay -/
def k317 : Fun := ⟨1, 32, [0, 1, 2, 3, 4, 5, 6, 12, 16, 22], [(.tmp 2), (.tmp 3)],
  (.seq (rf [i0 1 (.box (.s 0)),
 i0 2 (.mv (.c .nils)),
 i1 3 (.mv (.c (.int .i64 0))) [1]])
 (.seq (rf [i0 8 (.lda 4 none (.s 1)),
 i1 9 (.call (.c (.fn 321 [])) [(.s 8)]) [0],
 i1 7 (.mv (.s 9)) [1],
 i1 10 (.ext (.s 7) 0) [2],
 i1 11 (.ext (.s 7) 1) [2],
 i1 4 (.mv (.s 10)) [3, 1, 0, 1, 2, 3],
 i1 5 (.mv (.s 11)) [4, 5, 0, 1, 2, 3, 4, 5]])
 (.seq (.block 0
 (.seq (rf [i0 13 (.mv (.s 5)),
 i1 14 (.bin .neq (.s 13) (.c (.int .i64 0))) [0],
 i1 12 (.mv (.s 14)) [1]])
 (.cond (.s 12)
 (.seq (rf [i0 15 (.mv (.s 5)),
 i0 2 (.mv (.c .nils)),
 i1 3 (.mv (.s 15)) [0, 1, 0, 1]])
 .ret)
 (.seq (rf [i0 17 (.mv (.s 4)),
 i1 18 (.len false (.s 17)) [0],
 i1 19 (.bin .add (.c (.int .i64 4)) (.s 18)) [1],
 i1 20 (.bin .gtr (.s 19) (.c (.int .i64 4095))) [2],
 i1 16 (.mv (.s 20)) [3]])
 (.cond (.s 16)
 (.seq (rf [i0 2 (.mv (.c .nils)),
 i1 3 (.mv (.c (.int .i64 8))) [0, 0]])
 .ret)
 .skip)))))
 (.seq (rf [i0 6 (.mv (.c (.int .u8 0)))])
 (.seq (.seq (rf [i0 21 (.fad 0 (.s 1)),
 i1 22 (.ldc (.s 21)) [0]])
 (.cond (.s 22)
 (rf [i0 6 (.mv (.c (.int .u8 1)))])
 .skip))
 (.seq (rf [i0 23 (.mv (.s 6)),
 i1 24 (.bsl 2 1 (.ints .u8 [0, 0]) [(0, 1, (.c (.int .u8 16))), (1, 1, (.s 23))]) [0],
 i0 25 (.mv (.s 4)),
 i1 26 (.len false (.s 25)) [2],
 i1 27 (.bin .add (.c (.int .i64 4)) (.s 26)) [3],
 i1 28 (.call (.c (.fn 322 [])) [(.s 27)]) [4],
 i0 29 (.mv (.s 4)),
 i1 30 (.bsl 3 1 (.vals [.nils, .nils, .nils]) [(0, 1, (.s 24)), (1, 1, (.s 28)), (2, 1, (.s 29))]) [1, 5, 6],
 i1 31 (.call (.c (.fn 46 [])) [(.s 30)]) [7, 5],
 i1 2 (.mv (.s 31)) [8, 8, 0, 1, 2, 3, 4, 5, 6, 7, 8],
 i1 3 (.mv (.c (.int .i64 0))) [9, 0, 1, 2, 3, 4, 5, 6, 7, 8, 9]])
 .ret)))))), false, (some [(Sh.st (Sh.pr Sh.bool (Sh.pr (Sh.int .u16) (Sh.pr (Sh.sl (Sh.pr (Sh.int .u8) (Sh.sl (Sh.int .u8)))) (Sh.sl (Sh.int .u8))))))]), (some (Sh.tu (Sh.pr (Sh.sl (Sh.int .u8)) (Sh.int .i64)))), false⟩

/-- euphroe/bind.only -/
def k318 : Fun := ⟨2, 29, [0, 1, 2, 4, 5, 6, 9, 14], [(.cell 4 2 true none), (.tmp 5)],
  (.seq (rf [i0 2 (.box (.s 0)),
 i0 4 (.new (.vals [(.int .u8 0), .nils])),
 i0 5 (.mv (.c (.int .i64 0)))])
 (.seq (.seq (rf [i0 7 (.lda 4 none (.s 2)),
 i1 8 (.call (.c (.fn 323 [])) [(.s 7)]) [0],
 i1 6 (.mv (.s 8)) [1, 1, 0, 1]])
 (.block 0
 (.seq (rf [i0 10 (.mv (.s 6)),
 i1 11 (.bin .neq (.s 10) (.c (.int .i64 0))) [0],
 i1 9 (.mv (.s 11)) [1]])
 (.cond (.s 9)
 (.seq (rf [i0 12 (.build (.vals [(.int .u8 0), .nils]) []),
 i0 13 (.mv (.s 6)),
 ⟨none, (.stc 2 (.s 4) (.s 12)), none, [0, 0]⟩,
 i1 5 (.mv (.s 13)) [1, 2, 0, 1, 2]])
 .ret)
 (.seq (rf [i0 15 (.fad 0 (.s 2)),
 i1 16 (.ldc (.s 15)) [0],
 i1 17 (.un .not (.s 16)) [1],
 i1 18 (.mv (.s 17)) [2],
 ⟨(some 19), (.fad 1 (.s 2)), (some (18, false)), [3]⟩,
 ⟨(some 20), (.ldc (.s 19)), (some (18, false)), [4, 3]⟩,
 ⟨(some 21), (.mv (.s 1)), (some (18, false)), [3]⟩,
 ⟨(some 22), (.bin .neq (.s 20) (.s 21)), (some (18, false)), [5, 6, 3]⟩,
 i1 23 (.pick (.s 18) (.c (.bool true)) (.s 22)) [3, 7],
 i1 14 (.mv (.s 23)) [8, 3]])
 (.cond (.s 14)
 (.seq (rf [i0 24 (.build (.vals [(.int .u8 0), .nils]) []),
 ⟨none, (.stc 2 (.s 4) (.s 24)), none, [0, 0]⟩,
 i1 5 (.mv (.c (.int .i64 1))) [1, 0, 1]])
 .ret)
 .skip))))))
 (.seq (rf [i0 25 (.fad 2 (.s 2)),
 i1 26 (.ldc (.s 25)) [0],
 i1 27 (.iad 2 (.s 26) (.c (.int .i64 0))) [1],
 i1 28 (.lda 2 none (.s 27)) [2],
 ⟨none, (.stc 2 (.s 4) (.s 28)), none, [3, 0, 1, 2, 3]⟩,
 i1 5 (.mv (.c (.int .i64 0))) [4, 0, 1, 2, 3, 4]])
 .ret))), false, (some [(Sh.st (Sh.pr Sh.bool (Sh.pr (Sh.int .u16) (Sh.pr (Sh.sl (Sh.pr (Sh.int .u8) (Sh.sl (Sh.int .u8)))) (Sh.sl (Sh.int .u8)))))), (Sh.int .u16)]), (some (Sh.tu (Sh.pr (Sh.st (Sh.pr (Sh.int .u8) (Sh.sl (Sh.int .u8)))) (Sh.int .i64)))), false⟩

/-- euphroe/packet.body -/
def k321 : Fun := ⟨1, 60, [0, 1, 2, 3, 4, 6, 7, 8, 9, 19, 25, 41, 42, 43, 44, 53], [(.tmp 2), (.tmp 3)],
  (.seq (rf [i0 1 (.box (.s 0)),
 i0 2 (.mv (.c .nils)),
 i1 3 (.mv (.c (.int .i64 0))) [1]])
 (.seq (.block 0
 (.seq (rf [i0 10 (.fad 0 (.s 1)),
 i1 11 (.ldc (.s 10)) [0],
 i1 12 (.un .not (.s 11)) [1],
 i1 13 (.mv (.s 12)) [2],
 ⟨(some 14), (.fad 3 (.s 1)), (some (13, true)), [3]⟩,
 ⟨(some 15), (.ldc (.s 14)), (some (13, true)), [4, 3]⟩,
 ⟨(some 16), (.len false (.s 15)), (some (13, true)), [5, 3]⟩,
 ⟨(some 17), (.bin .eql (.s 16) (.c (.int .i64 0))), (some (13, true)), [6, 3]⟩,
 i1 18 (.pick (.s 13) (.s 17) (.c (.bool false))) [3, 7],
 i1 9 (.mv (.s 18)) [8, 3]])
 (.cond (.s 9)
 (.seq (rf [i0 2 (.mv (.c .nils)),
 i1 3 (.mv (.c (.int .i64 4))) [0, 0]])
 .ret)
 (.seq (rf [i0 20 (.fad 0 (.s 1)),
 i1 21 (.ldc (.s 20)) [0],
 i1 22 (.un .not (.s 21)) [1],
 i1 19 (.mv (.s 22)) [2]])
 (.cond (.s 19)
 (.seq (rf [i0 23 (.fad 3 (.s 1)),
 i1 24 (.ldc (.s 23)) [0],
 i1 2 (.mv (.s 24)) [1, 0, 1],
 i1 3 (.mv (.c (.int .i64 0))) [2, 0, 1, 2]])
 .ret)
 (.seq (rf [i0 26 (.fad 2 (.s 1)),
 i1 27 (.ldc (.s 26)) [0],
 i1 28 (.len false (.s 27)) [1],
 i1 29 (.bin .gtr (.s 28) (.c (.int .i64 8))) [2],
 i1 25 (.mv (.s 29)) [3]])
 (.cond (.s 25)
 (.seq (rf [i0 2 (.mv (.c .nils)),
 i1 3 (.mv (.c (.int .i64 5))) [0, 0]])
 .ret)
 .skip)))))))
 (.seq (rt [i0 30 (.fad 1 (.s 1)),
 i1 31 (.ldc (.s 30)) [0],
 i1 32 (.cvi .i64 (.s 31)) [1],
 i1 33 (.call (.c (.fn 322 [])) [(.s 32)]) [2],
 i0 34 (.fad 2 (.s 1)),
 i1 35 (.ldc (.s 34)) [4],
 i1 36 (.len false (.s 35)) [5],
 i1 37 (.call (.c (.fn 322 [])) [(.s 36)]) [6, 3],
 i1 38 (.bsl 2 1 (.vals [.nils, .nils]) [(0, 1, (.s 33)), (1, 1, (.s 37))]) [3, 7],
 i1 39 (.call (.c (.fn 46 [])) [(.s 38)]) [8, 7],
 i1 4 (.mv (.s 39)) [9, 9, 0, 1, 2, 3, 4, 5, 6, 7, 8, 9]])
 (.seq (.seq (rf [i0 40 (.fad 2 (.s 1)),
 i1 41 (.ldc (.s 40)) [0],
 i1 42 (.len false (.s 41)) [1],
 i0 43 (.mv (.c (.int .i64 0)))])
 (.block 1
 (.loop ⟨0, [], false, [4, 41, 42, 43], []⟩
 (.seq (rf [i0 44 (.bin .lss (.s 43) (.s 42))])
 (.seq (.cond (.s 44)
 .skip
 (.pre ⟨0, [], false, [4], []⟩ (.exit 1)))
 (.seq (.block 2
 (.seq (rf [i0 45 (.iad 2 (.s 41) (.s 43)),
 i1 46 (.lda 2 none (.s 45)) [0],
 i0 6 (.new (.vals [(.int .u8 0), .nils])),
 ⟨none, (.stc 2 (.s 6) (.s 46)), none, [2, 1, 0, 1, 2]⟩])
 (.seq (rf [i0 48 (.lda 2 none (.s 6)),
 i1 49 (.call (.c (.fn 139 [])) [(.s 48)]) [0],
 i1 47 (.mv (.s 49)) [1],
 i1 50 (.ext (.s 47) 0) [2],
 i1 51 (.ext (.s 47) 1) [2],
 i1 7 (.mv (.s 50)) [3, 1, 0, 1, 2, 3],
 i1 8 (.mv (.s 51)) [4, 5, 0, 1, 2, 3, 4, 5]])
 (.seq (.seq (rf [i0 52 (.mv (.s 8)),
 i1 53 (.bin .neq (.s 52) (.c (.int .i64 0))) [0]])
 (.cond (.s 53)
 (.seq (rf [i0 54 (.mv (.s 8)),
 i0 2 (.mv (.c .nils)),
 i1 3 (.mv (.s 54)) [0, 1, 0, 1]])
 .ret)
 .skip))
 (rf [i0 55 (.mv (.s 4)),
 i0 56 (.mv (.s 7)),
 i1 57 (.app 1 1 (.s 55) (.s 56)) [0, 1],
 i1 4 (.mv (.s 57)) [2, 2, 0, 1, 2]])))))
 (rf [i0 58 (.bin .add (.s 43) (.c (.int .i64 1))),
 i1 43 (.mv (.s 58)) [0]])))))))
 (.seq (rf [i0 59 (.mv (.s 4)),
 i1 2 (.mv (.s 59)) [0, 0],
 i1 3 (.mv (.c (.int .i64 0))) [1, 0, 1]])
 .ret))))), false, (some [(Sh.st (Sh.pr Sh.bool (Sh.pr (Sh.int .u16) (Sh.pr (Sh.sl (Sh.pr (Sh.int .u8) (Sh.sl (Sh.int .u8)))) (Sh.sl (Sh.int .u8))))))]), (some (Sh.tu (Sh.pr (Sh.sl (Sh.int .u8)) (Sh.int .i64)))), false⟩

/-- euphroe/packet.number -/
def k322 : Fun := ⟨1, 12, [0, 2, 3], [(.tmp 2)],
  (.seq (rf [i0 2 (.mv (.c .nils))])
 (.seq (rf [i0 6 (.mv (.s 0)),
 i1 7 (.cvi .u64 (.s 6)) [0],
 i1 8 (.call (.c (.fn 19 [])) [(.s 7), (.c (.int .i64 2)), (.c (.bool false))]) [1],
 i1 5 (.mv (.s 8)) [2],
 i1 9 (.ext (.s 5) 0) [3],
 i1 10 (.ext (.s 5) 1) [3],
 i1 3 (.mv (.s 9)) [4, 2, 0, 1, 2, 3, 4],
 i1 4 (.mv (.s 10)) [5, 6, 0, 1, 2, 3, 4, 5, 6]])
 (.seq (rf [i0 11 (.mv (.s 3)),
 i1 2 (.mv (.s 11)) [0, 0]])
 .ret))), false, (some [(Sh.int .i64)]), (some (Sh.sl (Sh.int .u8))), false⟩

/-- euphroe/packet.Check -/
def k323 : Fun := ⟨1, 61, [0, 1, 2, 3, 4, 5, 6, 8, 9, 20, 24, 33, 49, 50, 51, 52, 58], [(.tmp 2)],
  (.seq (rf [i0 1 (.box (.s 0)),
 i0 2 (.mv (.c (.int .i64 0)))])
 (.seq (rf [i0 11 (.fad 1 (.s 1)),
 i1 12 (.ldc (.s 11)) [0],
 i1 13 (.call (.c (.fn 324 [])) [(.s 12)]) [1],
 i1 10 (.mv (.s 13)) [2],
 i1 14 (.ext (.s 10) 0) [3],
 i1 15 (.ext (.s 10) 1) [3],
 i1 16 (.ext (.s 10) 2) [3],
 i0 3 (.new (.ints .u8 [0])),
 ⟨none, (.stc 1 (.s 3) (.s 14)), none, [7, 4, 2, 0, 1, 2, 3, 4, 7]⟩,
 i1 4 (.mv (.s 15)) [5, 8, 0, 1, 2, 3, 4, 5, 7, 8],
 i1 5 (.mv (.s 16)) [6, 9, 0, 1, 2, 3, 4, 5, 6, 7, 8, 9]])
 (.seq (rf [i0 17 (.fad 2 (.s 1)),
 i1 18 (.ldc (.s 17)) [0],
 i1 19 (.len false (.s 18)) [1],
 i1 6 (.mv (.s 19)) [2, 0, 1, 2]])
 (.seq (.block 0
 (.seq (rf [i0 21 (.fad 0 (.s 1)),
 i1 22 (.ldc (.s 21)) [0],
 i1 23 (.un .not (.s 22)) [1],
 i1 20 (.mv (.s 23)) [2]])
 (.cond (.s 20)
 (.seq (rf [i0 2 (.mv (.c (.int .i64 0)))])
 .ret)
 (.seq (rf [i0 25 (.fad 1 (.s 1)),
 i1 26 (.ldc (.s 25)) [0],
 i1 27 (.bin .lss (.s 26) (.c (.int .u16 1))) [1],
 i1 28 (.mv (.s 27)) [2],
 ⟨(some 29), (.fad 1 (.s 1)), (some (28, false)), [3]⟩,
 ⟨(some 30), (.ldc (.s 29)), (some (28, false)), [4, 3]⟩,
 ⟨(some 31), (.bin .gtr (.s 30) (.c (.int .u16 9))), (some (28, false)), [5, 3]⟩,
 i1 32 (.pick (.s 28) (.c (.bool true)) (.s 31)) [3, 6],
 i1 24 (.mv (.s 32)) [7, 3]])
 (.cond (.s 24)
 (.seq (rf [i0 2 (.mv (.c (.int .i64 9)))])
 .ret)
 (.seq (rf [i0 34 (.mv (.s 6)),
 i0 35 (.mv (.s 4)),
 i1 36 (.bin .lss (.s 34) (.s 35)) [0, 1],
 i1 37 (.mv (.s 36)) [2],
 ⟨(some 38), (.mv (.s 6)), (some (37, false)), [3]⟩,
 ⟨(some 39), (.mv (.s 5)), (some (37, false)), [3]⟩,
 ⟨(some 40), (.bin .gtr (.s 38) (.s 39)), (some (37, false)), [4, 5, 3]⟩,
 i1 41 (.pick (.s 37) (.c (.bool true)) (.s 40)) [3, 6],
 i1 42 (.mv (.s 41)) [7, 3],
 ⟨(some 43), (.fad 2 (.s 1)), (some (42, false)), [8]⟩,
 ⟨(some 44), (.ldc (.s 43)), (some (42, false)), [9, 8]⟩,
 ⟨(some 45), (.mkf 326 [(.s 3)]), (some (42, false)), [8]⟩,
 ⟨(some 46), (.call (.c (.fn 325 [])) [(.s 44), (.s 45)]), (some (42, false)), [10, 11, 8, 8]⟩,
 i1 47 (.pick (.s 42) (.c (.bool true)) (.s 46)) [8, 12],
 i1 33 (.mv (.s 47)) [13, 12]])
 (.cond (.s 33)
 (.seq (rf [i0 2 (.mv (.c (.int .i64 1)))])
 .ret)
 .skip)))))))
 (.seq (.seq (rf [i0 48 (.fad 2 (.s 1)),
 i1 49 (.ldc (.s 48)) [0],
 i1 50 (.len false (.s 49)) [1],
 i0 51 (.mv (.c (.int .i64 0)))])
 (.block 1
 (.loop ⟨0, [], false, [49, 50, 51], []⟩
 (.seq (rf [i0 52 (.bin .lss (.s 51) (.s 50))])
 (.seq (.cond (.s 52)
 .skip
 (.pre ⟨0, [], false, [], []⟩ (.exit 1)))
 (.seq (.block 2
 (.seq (rf [i0 53 (.iad 2 (.s 49) (.s 51)),
 i1 54 (.lda 2 none (.s 53)) [0],
 i0 8 (.new (.vals [(.int .u8 0), .nils])),
 ⟨none, (.stc 2 (.s 8) (.s 54)), none, [2, 1, 0, 1, 2]⟩])
 (.seq (rf [i0 55 (.lda 2 none (.s 8)),
 i1 56 (.call (.c (.fn 145 [])) [(.s 55)]) [0],
 i1 9 (.mv (.s 56)) [1, 1, 0, 1]])
 (.seq (rf [i0 57 (.mv (.s 9)),
 i1 58 (.bin .neq (.s 57) (.c (.int .i64 0))) [0]])
 (.cond (.s 58)
 (.seq (rf [i0 59 (.mv (.s 9)),
 i1 2 (.mv (.s 59)) [0, 0]])
 .ret)
 .skip)))))
 (rf [i0 60 (.bin .add (.s 51) (.c (.int .i64 1))),
 i1 51 (.mv (.s 60)) [0]])))))))
 (.seq (rf [i0 2 (.mv (.c (.int .i64 0)))])
 .ret)))))), false, (some [(Sh.st (Sh.pr Sh.bool (Sh.pr (Sh.int .u16) (Sh.pr (Sh.sl (Sh.pr (Sh.int .u8) (Sh.sl (Sh.int .u8)))) (Sh.sl (Sh.int .u8))))))]), (some (Sh.int .i64)), false⟩

/-- euphroe/packet.wants -/
def k324 : Fun := ⟨1, 17, [0, 2, 3, 4, 5, 6, 8, 10, 12, 14], [(.tmp 2), (.tmp 3), (.tmp 4)],
  (.seq (rf [i0 2 (.mv (.c (.int .u8 0))),
 i1 3 (.mv (.c (.int .i64 0))) [0],
 i1 4 (.mv (.c (.int .i64 0))) [1]])
 (.seq (rf [i0 5 (.mv (.s 0))])
 (.block 0
 (.seq (rf [i0 7 (.bin .eql (.s 5) (.c (.int .u16 1))),
 i1 6 (.mv (.s 7)) [0]])
 (.cond (.s 6)
 (.seq (rf [i0 2 (.mv (.c (.int .u8 1))),
 i1 3 (.mv (.c (.int .i64 1))) [0, 0],
 i1 4 (.mv (.c (.int .i64 1))) [1, 0, 1]])
 .ret)
 (.seq (rf [i0 9 (.bin .eql (.s 5) (.c (.int .u16 2))),
 i1 8 (.mv (.s 9)) [0]])
 (.cond (.s 8)
 (.seq (rf [i0 2 (.mv (.c (.int .u8 4))),
 i1 3 (.mv (.c (.int .i64 1))) [0, 0],
 i1 4 (.mv (.c (.int .i64 1))) [1, 0, 1]])
 .ret)
 (.seq (rf [i0 11 (.bin .eql (.s 5) (.c (.int .u16 3))),
 i1 10 (.mv (.s 11)) [0]])
 (.cond (.s 10)
 (.seq (rf [i0 2 (.mv (.c (.int .u8 2))),
 i1 3 (.mv (.c (.int .i64 1))) [0, 0],
 i1 4 (.mv (.c (.int .i64 3))) [1, 0, 1]])
 .ret)
 (.seq (rf [i0 13 (.bin .eql (.s 5) (.c (.int .u16 4))),
 i1 12 (.mv (.s 13)) [0]])
 (.cond (.s 12)
 (.seq (rf [i0 2 (.mv (.c (.int .u8 3))),
 i1 3 (.mv (.c (.int .i64 1))) [0, 0],
 i1 4 (.mv (.c (.int .i64 1))) [1, 0, 1]])
 .ret)
 (.seq (.seq (rf [i0 15 (.bin .eql (.s 5) (.c (.int .u16 5))),
 i1 14 (.mv (.s 15)) [0]])
 (.cond (.s 14)
 .skip
 (rf [i0 16 (.bin .eql (.s 5) (.c (.int .u16 6))),
 i1 14 (.mv (.s 16)) [0]])))
 (.cond (.s 14)
 (.seq (rf [i0 2 (.mv (.c (.int .u8 2))),
 i1 3 (.mv (.c (.int .i64 0))) [0, 0],
 i1 4 (.mv (.c (.int .i64 1))) [1, 0, 1]])
 .ret)
 (.seq (rf [i0 2 (.mv (.c (.int .u8 0))),
 i1 3 (.mv (.c (.int .i64 0))) [0, 0],
 i1 4 (.mv (.c (.int .i64 0))) [1, 0, 1]])
 .ret)))))))))))))), false, (some [(Sh.int .u16)]), (some (Sh.tu (Sh.pr (Sh.int .u8) (Sh.pr (Sh.int .i64) (Sh.int .i64))))), false⟩

/-- slices.ContainsFunc[[]euphroe/api.Attr,euphroe/api.Attr] -/
def k325 : Fun := ⟨2, 9, [0, 1, 4], [(.tmp 4)],
  (.seq (rf [i0 4 (.mv (.c (.bool false)))])
 (.seq (rf [i0 5 (.mv (.s 0)),
 i0 6 (.mv (.s 1)),
 i1 7 (.call (.c (.fn 327 [])) [(.s 5), (.s 6)]) [0, 1],
 i1 8 (.bin .geq (.s 7) (.c (.int .i64 0))) [2],
 i1 4 (.mv (.s 8)) [3, 2, 0, 1, 2, 3]])
 .ret)), false, none, none, false⟩

/-- euphroe/packet.Check$1 -/
def k326 : Fun := ⟨2, 8, [0, 1, 2, 3], [(.tmp 3)],
  (.seq (rf [i0 2 (.box (.s 0)),
 i0 3 (.mv (.c (.bool false)))])
 (.seq (rf [i0 4 (.fad 0 (.s 2)),
 i1 5 (.ldc (.s 4)) [0],
 i0 6 (.ldc (.s 1)),
 i1 7 (.bin .neq (.s 5) (.s 6)) [1, 2],
 i1 3 (.mv (.s 7)) [3, 0, 1, 2, 3]])
 .ret)), false, none, none, false⟩

/-- slices.IndexFunc[[]euphroe/api.Attr,euphroe/api.Attr] -/
def k327 : Fun := ⟨2, 19, [0, 1, 4, 5, 7, 8, 9, 16], [(.tmp 4)],
  (.seq (rf [i0 4 (.mv (.c (.int .i64 0)))])
 (.seq (.seq (rf [i0 6 (.mv (.s 0)),
 i1 7 (.len false (.s 6)) [0],
 i0 8 (.mv (.c (.int .i64 0)))])
 (.block 0
 (.loop ⟨0, [], false, [0, 1, 7, 8], []⟩
 (.seq (rf [i0 9 (.bin .lss (.s 8) (.s 7))])
 (.seq (.cond (.s 9)
 .skip
 (.pre ⟨0, [], false, [], []⟩ (.exit 0)))
 (.seq (.block 1
 (.seq (rf [i0 10 (.mv (.s 8)),
 i1 5 (.mv (.s 10)) [0, 0]])
 (.seq (rf [i0 11 (.mv (.s 1)),
 i0 12 (.mv (.s 0)),
 i0 13 (.mv (.s 5)),
 i1 14 (.iad 2 (.s 12) (.s 13)) [1, 2],
 i1 15 (.lda 2 none (.s 14)) [3],
 i1 16 (.call (.s 11) [(.s 15)]) [0, 4]])
 (.cond (.s 16)
 (.seq (rf [i0 17 (.mv (.s 5)),
 i1 4 (.mv (.s 17)) [0, 0]])
 .ret)
 .skip))))
 (rf [i0 18 (.bin .add (.s 8) (.c (.int .i64 1))),
 i1 8 (.mv (.s 18)) [0]])))))))
 (.seq (rf [i0 4 (.mv (.c (.int .i64 (-1))))])
 .ret))), false, none, none, false⟩

def FT : Nat → Option Fun
  | 1 => some k1
  | 19 => some k19
  | 21 => some k21
  | 46 => some k46
  | 47 => some k47
  | 48 => some k48
  | 64 => some k64
  | 75 => some k75
  | 78 => some k78
  | 81 => some k81
  | 83 => some k83
  | 100 => some k100
  | 101 => some k101
  | 114 => some k114
  | 115 => some k115
  | 116 => some k116
  | 120 => some k120
  | 139 => some k139
  | 145 => some k145
  | 148 => some k148
  | 149 => some k149
  | 154 => some k154
  | 155 => some k155
  | 160 => some k160
  | 161 => some k161
  | 163 => some k163
  | 164 => some k164
  | 166 => some k166
  | 167 => some k167
  | 195 => some k195
  | 213 => some k213
  | 217 => some k217
  | 219 => some k219
  | 223 => some k223
  | 224 => some k224
  | 229 => some k229
  | 234 => some k234
  | 235 => some k235
  | 236 => some k236
  | 238 => some k238
  | 239 => some k239
  | 287 => some k287
  | 290 => some k290
  | 292 => some k292
  | 293 => some k293
  | 295 => some k295
  | 297 => some k297
  | 298 => some k298
  | 299 => some k299
  | 300 => some k300
  | 301 => some k301
  | 305 => some k305
  | 307 => some k307
  | 308 => some k308
  | 309 => some k309
  | 310 => some k310
  | 311 => some k311
  | 312 => some k312
  | 316 => some k316
  | 317 => some k317
  | 318 => some k318
  | 321 => some k321
  | 322 => some k322
  | 323 => some k323
  | 324 => some k324
  | 325 => some k325
  | 326 => some k326
  | 327 => some k327
  | _ => none
end Go.Proofs.YtciafmcbccgggaaE
