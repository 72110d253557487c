/- The evaluator's functions. -/
import Derived.Test.YtciafmcbccgggaaEvXT
namespace Go.Proofs.YtciafmcbccgggaaE
open Go
set_option linter.unusedVariables false
set_option linter.unusedSimpArgs false
abbrev i0 (d : Nat) (o : O) : Op := ⟨some d, o, none, []⟩
abbrev i1 (d : Nat) (o : O) (w : List Nat) : Op := ⟨some d, o, none, w⟩
abbrev rf (l : List Op) : K := .region l false
abbrev rt (l : List Op) : K := .region l true
abbrev mv (n : Nat) : O := .mv (.s n)
abbrev ci (n : Int) : R := .c (.int .i64 n)

/-- slices.Concat[[]byte,byte] -/
def k1 : Fun := ⟨1, 36, [0, 2, 3, 5, 6, 8, 9, 10, 11, 12, 20, 25, 26, 27, 28], [(.tmp 2)],
  (.seq (rf [i0 2 (.mv (.c .nils))])
 (.seq (rf [i0 3 (.mv (ci 0))])
 (.seq (.seq (rf [i0 9 (mv 0),
 i1 10 (.len false (.s 9)) [0],
 i0 11 (.mv (ci 0))])
 (.block 0
 (.loop ⟨0, [], false, [0, 3, 9, 10, 11], []⟩
 (.seq (rf [i0 12 (.bin .lss (.s 11) (.s 10))])
 (.seq (.cond (.s 12)
 .skip
 (.pre ⟨0, [], false, [0, 3], []⟩ (.exit 0)))
 (.seq (.block 1
 (.seq (rf [i0 13 (.iad 1 (.s 9) (.s 11)),
 i1 14 (.ldc (.s 13)) [0],
 i1 5 (mv 14) [1, 0, 1]])
 (.seq (rf [i0 15 (mv 3),
 i0 16 (mv 5),
 i1 17 (.len false (.s 16)) [1],
 i1 18 (.bin .add (.s 15) (.s 17)) [0, 2],
 i1 3 (mv 18) [3, 0, 1, 2, 3]])
 (.seq (rf [i0 19 (mv 3),
 i1 20 (.bin .lss (.s 19) (ci 0)) [0]])
 (.cond (.s 20)
 (rf [i0 21 .bad,
 ⟨none, .bad, none, [0]⟩])
 .skip)))))
 (rf [i0 22 (.bin .add (.s 11) (ci 1)),
 i1 11 (mv 22) [0]])))))))
 (.seq (rf [i0 23 (mv 3),
 i1 24 (.call (.c (.fn 64 [])) [(.c .nils), (.s 23)]) [0],
 i1 6 (mv 24) [1, 1, 0, 1]])
 (.seq (.seq (rf [i0 25 (mv 0),
 i1 26 (.len false (.s 25)) [0],
 i0 27 (.mv (ci 0))])
 (.block 2
 (.loop ⟨1, [], false, [6, 25, 26, 27], []⟩
 (.seq (rf [i0 28 (.bin .lss (.s 27) (.s 26))])
 (.seq (.cond (.s 28)
 .skip
 (.pre ⟨0, [], false, [6], []⟩ (.exit 2)))
 (.seq (.block 3
 (.seq (rf [i0 29 (.iad 1 (.s 25) (.s 27)),
 i1 30 (.ldc (.s 29)) [0],
 i1 8 (mv 30) [1, 0, 1]])
 (rf [i0 31 (mv 6),
 i0 32 (mv 8),
 i1 33 (.app 1 1 (.s 31) (.s 32)) [0, 1],
 i1 6 (mv 33) [2, 2, 0, 1, 2]])))
 (rf [i0 34 (.bin .add (.s 27) (ci 1)),
 i1 27 (mv 34) [0]])))))))
 (.seq (rf [i0 35 (mv 6),
 i1 2 (mv 35) [0, 0]])
 .ret)))))), false, (some [(Sh.sl (Sh.sl (Sh.int .u8)))]), none, false⟩

/-- euphroe/octs.Put -/
def k19 : Fun := ⟨3, 37, [0, 1, 2, 6, 7, 8, 9, 15, 19, 20, 21, 33], [(.tmp 6), (.tmp 7)],
  (.seq (rf [i0 6 (.mv (.c .nils)),
 i1 7 (.mv (ci 0)) [0]])
 (.seq (.seq (rf [i0 10 (mv 1),
 i1 11 (.bin .lss (.s 10) (ci 1)) [0],
 i1 12 (mv 11) [1],
 ⟨(some 13), (mv 1), (some (12, false)), [2]⟩,
 ⟨(some 14), (.bin .gtr (.s 13) (ci 8)), (some (12, false)), [3, 2]⟩,
 i1 15 (.pick (.s 12) (.c (.bool true)) (.s 14)) [2, 4]])
 (.cond (.s 15)
 (.seq (rf [i0 6 (.mv (.c .nils)),
 i1 7 (.mv (ci 1)) [0, 0]])
 .ret)
 .skip))
 (.seq (rf [i0 16 (mv 1),
 i1 17 (.mks (.ints .u8 [0]) 1 1 (.s 16) (.s 16)) [0, 0],
 i1 8 (mv 17) [1, 0, 1]])
 (.seq (.seq (rf [i0 18 (mv 8),
 i1 19 (.len false (.s 18)) [0],
 i0 20 (.mv (ci 0))])
 (.block 0
 (.loop ⟨0, [], false, [0, 2, 8, 19, 20], []⟩
 (.seq (rf [i0 21 (.bin .lss (.s 20) (.s 19))])
 (.seq (.cond (.s 21)
 .skip
 (.pre ⟨0, [], false, [2, 8], []⟩ (.exit 0)))
 (.seq (.block 1
 (.seq (rf [i0 22 (mv 20),
 i1 9 (mv 22) [0, 0]])
 (rf [i0 23 (mv 8),
 i0 24 (mv 9),
 i0 25 (mv 0),
 i0 26 (mv 9),
 i1 27 (.bin .mul (ci 8) (.s 26)) [3],
 i1 28 (.bin .shr (.s 25) (.s 27)) [2, 4],
 i1 29 (.cvi .u8 (.s 28)) [5],
 i1 30 (.iad 1 (.s 23) (.s 24)) [0, 1, 0, 1, 2, 3, 4, 5, 6],
 ⟨none, (.stc 1 (.s 30) (.s 29)), none, [7, 6, 0, 1, 2, 3, 4, 5, 6]⟩])))
 (rf [i0 31 (.bin .add (.s 20) (ci 1)),
 i1 20 (mv 31) [0]])))))))
 (.seq (.seq (rf [i0 32 (mv 2),
 i1 33 (.un .not (.s 32)) [0]])
 (.cond (.s 33)
 (rf [i0 34 (mv 8),
 i1 35 (.call (.c (.fn 48 [])) [(.s 34)]) [0]])
 .skip))
 (.seq (rf [i0 36 (mv 8),
 i1 6 (mv 36) [0, 0],
 i1 7 (.mv (ci 0)) [1, 0, 1]])
 .ret)))))), false, (some [(Sh.int .u64), (Sh.int .i64), Sh.bool]), (some (Sh.tu (Sh.pr (Sh.sl (Sh.int .u8)) (Sh.int .i64)))), false⟩

/-- euphroe/octs.Get -/
def k21 : Fun := ⟨2, 39, [0, 1, 4, 5, 6, 7, 8, 16, 17, 18, 19, 20, 24], [(.tmp 4), (.tmp 5)],
  (.seq (rf [i0 4 (.mv (.c (.int .u64 0))),
 i1 5 (.mv (ci 0)) [0]])
 (.seq (.seq (rf [i0 9 (mv 0),
 i1 10 (.len false (.s 9)) [0],
 i1 11 (.bin .lss (.s 10) (ci 1)) [1],
 i1 12 (mv 11) [2],
 ⟨(some 13), (mv 0), (some (12, false)), [3]⟩,
 ⟨(some 14), (.len false (.s 13)), (some (12, false)), [4, 3]⟩,
 ⟨(some 15), (.bin .gtr (.s 14) (ci 8)), (some (12, false)), [5, 3]⟩,
 i1 16 (.pick (.s 12) (.c (.bool true)) (.s 15)) [3, 6]])
 (.cond (.s 16)
 (.seq (rf [i0 4 (.mv (.c (.int .u64 0))),
 i1 5 (.mv (ci 1)) [0, 0]])
 .ret)
 .skip))
 (.seq (rf [i0 6 (.mv (.c (.int .u64 0)))])
 (.seq (.seq (rf [i0 17 (mv 0),
 i1 18 (.len false (.s 17)) [0],
 i0 19 (.mv (ci 0))])
 (.block 0
 (.loop ⟨0, [], false, [1, 6, 17, 18, 19], []⟩
 (.seq (rf [i0 20 (.bin .lss (.s 19) (.s 18))])
 (.seq (.cond (.s 20)
 .skip
 (.pre ⟨0, [], false, [6], []⟩ (.exit 0)))
 (.seq (.block 1
 (.seq (rf [i0 21 (mv 19),
 i0 22 (.iad 1 (.s 17) (.s 19)),
 i1 23 (.ldc (.s 22)) [1],
 i1 7 (mv 21) [0, 0, 1, 2],
 i1 8 (mv 23) [2, 3, 0, 1, 2, 3]])
 (.seq (rf [i0 24 (mv 1)])
 (.cond (.s 24)
 (rf [i0 25 (mv 6),
 i0 26 (mv 8),
 i1 27 (.cvi .u64 (.s 26)) [1],
 i0 28 (mv 7),
 i1 29 (.bin .mul (ci 8) (.s 28)) [3],
 i1 30 (.bin .shl (.s 27) (.s 29)) [2, 4],
 i1 31 (.bin .or (.s 25) (.s 30)) [0, 5],
 i1 6 (mv 31) [6, 0, 1, 2, 3, 4, 5, 6]])
 (rf [i0 32 (mv 6),
 i1 33 (.bin .shl (.s 32) (.c (.int .u64 8))) [0],
 i0 34 (mv 8),
 i1 35 (.cvi .u64 (.s 34)) [2],
 i1 36 (.bin .or (.s 33) (.s 35)) [1, 3],
 i1 6 (mv 36) [4, 0, 1, 2, 3, 4]])))))
 (rf [i0 37 (.bin .add (.s 19) (ci 1)),
 i1 19 (mv 37) [0]])))))))
 (.seq (rf [i0 38 (mv 6),
 i1 4 (mv 38) [0, 0],
 i1 5 (.mv (ci 0)) [1, 0, 1]])
 .ret))))), false, (some [(Sh.sl (Sh.int .u8)), Sh.bool]), (some (Sh.tu (Sh.pr (Sh.int .u64) (Sh.int .i64)))), false⟩

/-- euphroe/octs.Join -/
def k46 : Fun := ⟨1, 5, [0, 2], [(.tmp 2)],
  (.seq (rf [i0 2 (.mv (.c .nils))])
 (.seq (rf [i0 3 (mv 0),
 i1 4 (.call (.c (.fn 1 [])) [(.s 3)]) [0],
 i1 2 (mv 4) [1, 1, 0, 1]])
 .ret)), false, (some [(Sh.sl (Sh.sl (Sh.int .u8)))]), none, false⟩

/-- euphroe/octs.Same -/
def k47 : Fun := ⟨2, 31, [0, 1, 4, 5, 6, 7, 12, 13, 14, 15, 16], [(.tmp 4)],
  (.seq (rf [i0 4 (.mv (.c (.bool false)))])
 (.seq (.seq (rf [i0 8 (mv 0),
 i1 9 (.len false (.s 8)) [0],
 i0 10 (mv 1),
 i1 11 (.len false (.s 10)) [2],
 i1 12 (.bin .neq (.s 9) (.s 11)) [1, 3]])
 (.cond (.s 12)
 (.seq (rf [i0 4 (.mv (.c (.bool false)))])
 .ret)
 .skip))
 (.seq (rf [i0 5 (.mv (.c (.int .u8 0)))])
 (.seq (.seq (rf [i0 13 (mv 0),
 i1 14 (.len false (.s 13)) [0],
 i0 15 (.mv (ci 0))])
 (.block 0
 (.loop ⟨0, [], false, [1, 5, 13, 14, 15], []⟩
 (.seq (rf [i0 16 (.bin .lss (.s 15) (.s 14))])
 (.seq (.cond (.s 16)
 .skip
 (.pre ⟨0, [], false, [5], []⟩ (.exit 0)))
 (.seq (.block 1
 (.seq (rf [i0 17 (mv 15),
 i0 18 (.iad 1 (.s 13) (.s 15)),
 i1 19 (.ldc (.s 18)) [1],
 i1 6 (mv 17) [0, 0, 1, 2],
 i1 7 (mv 19) [2, 3, 0, 1, 2, 3]])
 (rf [i0 20 (mv 5),
 i0 21 (mv 7),
 i0 22 (mv 1),
 i0 23 (mv 6),
 i1 24 (.iad 1 (.s 22) (.s 23)) [2, 3],
 i1 25 (.ldc (.s 24)) [4],
 i1 26 (.bin .xor (.s 21) (.s 25)) [1, 5],
 i1 27 (.bin .or (.s 20) (.s 26)) [0, 6],
 i1 5 (mv 27) [7, 0, 1, 2, 3, 4, 5, 6, 7]])))
 (rf [i0 28 (.bin .add (.s 15) (ci 1)),
 i1 15 (mv 28) [0]])))))))
 (.seq (rf [i0 29 (mv 5),
 i1 30 (.bin .eql (.s 29) (.c (.int .u8 0))) [0],
 i1 4 (mv 30) [1, 0, 1]])
 .ret))))), false, (some [(Sh.sl (Sh.int .u8)), (Sh.sl (Sh.int .u8))]), (some Sh.bool), false⟩

/-- slices.Reverse[[]byte,byte] -/
def k48 : Fun := ⟨1, 28, [0, 2, 3, 9], [],
  (.seq (rf [i0 4 (mv 0),
 i1 5 (.len false (.s 4)) [0],
 i1 6 (.bin .sub (.s 5) (ci 1)) [1],
 i0 2 (.mv (ci 0)),
 i1 3 (mv 6) [2, 3, 0, 1, 2, 3]])
 (.block 0
 (.loop ⟨0, [], false, [0, 2, 3], []⟩
 (.seq (.seq (rf [i0 7 (mv 2),
 i0 8 (mv 3),
 i1 9 (.bin .lss (.s 7) (.s 8)) [0, 1]])
 (.cond (.s 9)
 .skip
 (.pre ⟨0, [], false, [], []⟩ (.exit 0))))
 (.seq (.block 1
 (rt [i0 14 (mv 0),
 i0 15 (mv 2),
 i0 16 (mv 0),
 i0 17 (mv 3),
 i0 18 (mv 0),
 i0 19 (mv 3),
 i1 20 (.iad 1 (.s 18) (.s 19)) [4, 5],
 i1 21 (.ldc (.s 20)) [6],
 i0 22 (mv 0),
 i0 23 (mv 2),
 i1 24 (.iad 1 (.s 22) (.s 23)) [8, 9],
 i1 25 (.ldc (.s 24)) [10],
 i1 26 (.iad 1 (.s 14) (.s 15)) [0, 1, 0, 1, 4, 5, 6, 7, 11],
 ⟨none, (.stc 1 (.s 26) (.s 21)), none, [12, 7, 0, 1, 4, 5, 6, 7, 11]⟩,
 i1 27 (.iad 1 (.s 16) (.s 17)) [2, 3, 0, 1, 2, 3, 4, 5, 6, 7, 8, 9, 10, 11, 12, 13],
 ⟨none, (.stc 1 (.s 27) (.s 25)), none, [14, 11, 13, 0, 1, 2, 3, 4, 5, 6, 7, 8, 9, 10, 11, 12, 13]⟩]))
 (rf [i0 10 (mv 2),
 i1 11 (.bin .add (.s 10) (ci 1)) [0],
 i0 12 (mv 3),
 i1 13 (.bin .sub (.s 12) (ci 1)) [2],
 i1 2 (mv 11) [1, 0, 1],
 i1 3 (mv 13) [3, 4, 0, 1, 2, 3, 4]])))))), true, none, none, false⟩

/-- euphroe/euphroeref01.Big -/
def k50 : Fun := ⟨2, 24, [0, 1, 4, 5, 6, 12], [(.tmp 4)],
  (.seq (rf [i0 4 (.mv (.c .nils))])
 (.seq (rf [i0 7 (mv 1),
 i1 8 (.mks (.ints .u8 [0]) 1 1 (.s 7) (.s 7)) [0, 0],
 i1 5 (mv 8) [1, 0, 1]])
 (.seq (.seq (rf [i0 9 (mv 1),
 i1 10 (.bin .sub (.s 9) (ci 1)) [0],
 i1 6 (mv 10) [1, 0, 1]])
 (.block 0
 (.loop ⟨0, [], false, [0, 5, 6], []⟩
 (.seq (.seq (rf [i0 11 (mv 6),
 i1 12 (.bin .geq (.s 11) (ci 0)) [0]])
 (.cond (.s 12)
 .skip
 (.pre ⟨0, [], false, [5], []⟩ (.exit 0))))
 (.seq (.block 1
 (.seq (rf [i0 15 (mv 5),
 i0 16 (mv 6),
 i0 17 (mv 0),
 i1 18 (.bin .rem (.s 17) (.c (.int .u64 256))) [2],
 i1 19 (.cvi .u8 (.s 18)) [3],
 i1 20 (.iad 1 (.s 15) (.s 16)) [0, 1, 0, 1, 2, 3, 4],
 ⟨none, (.stc 1 (.s 20) (.s 19)), none, [5, 4, 0, 1, 2, 3, 4]⟩])
 (rf [i0 21 (mv 0),
 i1 22 (.bin .quo (.s 21) (.c (.int .u64 256))) [0],
 i1 0 (mv 22) [1, 0, 1]])))
 (rf [i0 13 (mv 6),
 i1 14 (.bin .sub (.s 13) (ci 1)) [0],
 i1 6 (mv 14) [1, 0, 1]]))))))
 (.seq (rf [i0 23 (mv 5),
 i1 4 (mv 23) [0, 0]])
 (.pre ⟨0, [], true, [], [(4, (.ints .u8 []), 1)]⟩ .ret))))), false, (some [(Sh.int .u64), (Sh.int .i64)]), none, false⟩

/-- slices.Grow[[]byte,byte] -/
def k64 : Fun := ⟨2, 27, [0, 1, 4, 6, 16], [(.tmp 4)],
  (.seq (rf [i0 4 (.mv (.c .nils))])
 (.seq (.seq (rf [i0 5 (mv 1),
 i1 6 (.bin .lss (.s 5) (ci 0)) [0]])
 (.cond (.s 6)
 (rf [i0 7 .bad,
 ⟨none, .bad, none, [0]⟩])
 .skip))
 (.seq (.seq (rf [i0 8 (mv 1),
 i0 9 (mv 0),
 i1 10 (.cap (.s 9)) [1],
 i0 11 (mv 0),
 i1 12 (.len false (.s 11)) [3],
 i1 13 (.bin .sub (.s 10) (.s 12)) [2, 4],
 i1 14 (.bin .sub (.s 8) (.s 13)) [0, 5],
 i1 1 (mv 14) [6, 0, 1, 2, 3, 4, 5, 6]])
 (.seq (rf [i0 15 (mv 1),
 i1 16 (.bin .gtr (.s 15) (ci 0)) [0]])
 (.cond (.s 16)
 (rf [i0 17 (mv 0),
 i0 18 (mv 0),
 i1 19 (.cap (.s 18)) [1],
 i1 20 (.sls 1 (.s 17) none (some (.s 19)) none) [0, 2],
 i0 21 (mv 1),
 i1 22 (.apz 1 1 (.ints .u8 [0]) (.s 20) (.s 21)) [3, 4],
 i0 23 (mv 0),
 i1 24 (.len false (.s 23)) [6],
 i1 25 (.sls 1 (.s 22) none (some (.s 24)) none) [5, 7],
 i1 0 (mv 25) [8, 5, 0, 1, 2, 3, 4, 5, 6, 7, 8]])
 .skip)))
 (.seq (rf [i0 26 (mv 0),
 i1 4 (mv 26) [0, 0]])
 (.pre ⟨0, [], true, [], [(4, (.ints .u8 []), 1)]⟩ .ret))))), false, none, none, false⟩

/-- euphroe/roots.Root -/
def k75 : Fun := ⟨3, 19, [0, 1, 2, 6, 7, 12], [(.tmp 6), (.tmp 7)],
  (.seq (rf [i0 6 (.mv (.c (.int .u64 0))),
 i1 7 (.mv (ci 0)) [0]])
 (.seq (.seq (rf [i0 8 (mv 0),
 i0 9 (mv 1),
 i0 10 (mv 2),
 i1 11 (.call (.c (.fn 100 [])) [(.s 8), (.s 9), (.s 10)]) [0, 1, 2],
 i1 12 (.un .not (.s 11)) [3]])
 (.cond (.s 12)
 (.seq (rf [i0 6 (.mv (.c (.int .u64 0))),
 i1 7 (.mv (ci 1)) [0, 0]])
 .ret)
 .skip))
 (.seq (rf [i0 13 (mv 0),
 i0 14 (mv 1),
 i1 15 (.call (.c (.fn 101 [])) [(.s 13), (.s 14)]) [0, 1],
 i0 16 (mv 2),
 i1 17 (.bin .sub (ci 32) (.s 16)) [3],
 i1 18 (.bin .shr (.s 15) (.s 17)) [2, 4],
 i1 6 (mv 18) [5, 2, 0, 1, 2, 3, 4, 5],
 i1 7 (.mv (ci 0)) [6, 0, 1, 2, 3, 4, 5, 6]])
 .ret))), false, (some [(Sh.int .i64), (Sh.int .i64), (Sh.int .i64)]), (some (Sh.tu (Sh.pr (Sh.int .u64) (Sh.int .i64)))), false⟩

/-- euphroe/roots.Frac -/
def k78 : Fun := ⟨2, 15, [0, 1, 4, 5], [(.tmp 4)],
  (.seq (rf [i0 4 (.mv (.c (.int .u32 0)))])
 (.seq (rf [i0 8 (mv 0),
 i0 9 (mv 1),
 i1 10 (.call (.c (.fn 75 [])) [(.s 8), (.s 9), (ci 32)]) [0, 1],
 i1 7 (mv 10) [2],
 i1 11 (.ext (.s 7) 0) [3],
 i1 12 (.ext (.s 7) 1) [3],
 i1 5 (mv 11) [4, 2, 0, 1, 2, 3, 4],
 i1 6 (mv 12) [5, 6, 0, 1, 2, 3, 4, 5, 6]])
 (.seq (rf [i0 13 (mv 5),
 i1 14 (.cvi .u32 (.s 13)) [0],
 i1 4 (mv 14) [1, 0, 1]])
 .ret))), false, (some [(Sh.int .i64), (Sh.int .i64)]), (some (Sh.int .u32)), false⟩

/-- euphroe/roots.Primes -/
def k81 : Fun := ⟨1, 33, [0, 2, 3, 4, 6, 14, 17, 18, 19, 20, 26], [(.tmp 2)],
  (.seq (rf [i0 2 (.mv (.c .nils))])
 (.scope
 (.seq (rf [i0 3 (.mv (.c .nils))])
 (.seq (.label 0)
 (.seq (.seq (rf [i0 4 (.mv (ci 2))])
 (.block 0
 (.loop ⟨0, [], false, [0, 3, 4], [(3, (.ints .i64 []), 1)]⟩
 (.seq (.seq (rf [i0 7 (mv 4),
 i1 8 (.bin .lss (.s 7) (ci 1000)) [0],
 i1 9 (mv 8) [1],
 ⟨(some 10), (mv 3), (some (9, true)), [2]⟩,
 ⟨(some 11), (.len false (.s 10)), (some (9, true)), [3, 2]⟩,
 ⟨(some 12), (mv 0), (some (9, true)), [2]⟩,
 ⟨(some 13), (.bin .lss (.s 11) (.s 12)), (some (9, true)), [4, 5, 2]⟩,
 i1 14 (.pick (.s 9) (.s 13) (.c (.bool false))) [2, 6]])
 (.cond (.s 14)
 .skip
 (.pre ⟨0, [], false, [3], []⟩ (.exit 0))))
 (.seq (.block 1
 (.seq (.seq (rf [i0 17 (mv 3),
 i1 18 (.len false (.s 17)) [0],
 i0 19 (.mv (ci 0))])
 (.block 2
 (.loop ⟨1, [], false, [0, 3, 4, 17, 18, 19], []⟩
 (.seq (rf [i0 20 (.bin .lss (.s 19) (.s 18))])
 (.seq (.cond (.s 20)
 .skip
 (.pre ⟨0, [], false, [0, 3, 4], []⟩ (.exit 2)))
 (.seq (.block 3
 (.seq (rf [i0 21 (.iad 1 (.s 17) (.s 19)),
 i1 22 (.ldc (.s 21)) [0],
 i1 6 (mv 22) [1, 0, 1]])
 (.seq (rf [i0 23 (mv 4),
 i0 24 (mv 6),
 i1 25 (.bin .rem (.s 23) (.s 24)) [0, 1],
 i1 26 (.bin .eql (.s 25) (ci 0)) [2]])
 (.cond (.s 26)
 (.pre ⟨0, [], false, [0, 3, 4], []⟩ (.exit 1))
 .skip))))
 (rf [i0 27 (.bin .add (.s 19) (ci 1)),
 i1 19 (mv 27) [0]])))))))
 (rf [i0 28 (mv 3),
 i0 29 (mv 4),
 i1 30 (.bsl 1 1 (.ints .i64 [0]) [(0, 1, (.s 29))]) [1],
 i1 31 (.app 1 8 (.s 28) (.s 30)) [0, 2],
 i1 3 (mv 31) [3, 3, 0, 1, 2, 3]])))
 (rf [i0 15 (mv 4),
 i1 16 (.bin .add (.s 15) (ci 1)) [0],
 i1 4 (mv 16) [1, 0, 1]]))))))
 (.seq (rf [i0 32 (mv 3),
 i1 2 (mv 32) [0, 0]])
 .ret)))))), false, (some [(Sh.int .i64)]), (some (Sh.sl (Sh.int .i64))), false⟩

/-- euphroe/roots.Fracs -/
def k83 : Fun := ⟨2, 23, [0, 1, 4, 5, 7, 9, 10, 11, 12], [(.tmp 4)],
  (.seq (rf [i0 4 (.mv (.c .nils))])
 (.seq (rf [i0 5 (.mv (.c .nils))])
 (.seq (.seq (rf [i0 8 (mv 0),
 i1 9 (.call (.c (.fn 81 [])) [(.s 8)]) [0],
 i1 10 (.len false (.s 9)) [1],
 i0 11 (.mv (ci 0))])
 (.block 0
 (.loop ⟨0, [], false, [1, 5, 9, 10, 11], [(5, (.ints .u32 []), 1)]⟩
 (.seq (rf [i0 12 (.bin .lss (.s 11) (.s 10))])
 (.seq (.cond (.s 12)
 .skip
 (.pre ⟨0, [], false, [5], []⟩ (.exit 0)))
 (.seq (.block 1
 (.seq (rf [i0 13 (.iad 1 (.s 9) (.s 11)),
 i1 14 (.ldc (.s 13)) [0],
 i1 7 (mv 14) [1, 0, 1]])
 (rf [i0 15 (mv 5),
 i0 16 (mv 7),
 i0 17 (mv 1),
 i1 18 (.call (.c (.fn 78 [])) [(.s 16), (.s 17)]) [1, 2],
 i1 19 (.bsl 1 1 (.ints .u32 [0]) [(0, 1, (.s 18))]) [3],
 i1 20 (.app 1 4 (.s 15) (.s 19)) [0, 4, 3],
 i1 5 (mv 20) [5, 5, 0, 1, 2, 3, 4, 5]])))
 (rf [i0 21 (.bin .add (.s 11) (ci 1)),
 i1 11 (mv 21) [0]])))))))
 (.seq (rf [i0 22 (mv 5),
 i1 4 (mv 22) [0, 0]])
 .ret)))), false, (some [(Sh.int .i64), (Sh.int .i64)]), (some (Sh.sl (Sh.int .u32))), false⟩

/-- euphroe/roots.may -/
def k100 : Fun := ⟨3, 29, [0, 1, 2, 6], [(.tmp 6)],
  (.seq (rf [i0 6 (.mv (.c (.bool false)))])
 (.seq (rf [i0 7 (mv 0),
 i1 8 (.bin .geq (.s 7) (ci 0)) [0],
 i1 9 (mv 8) [1],
 ⟨(some 10), (mv 0), (some (9, true)), [2]⟩,
 ⟨(some 11), (.bin .leq (.s 10) (ci 1000)), (some (9, true)), [3, 2]⟩,
 i1 12 (.pick (.s 9) (.s 11) (.c (.bool false))) [2, 4],
 i1 13 (mv 12) [5, 2],
 ⟨(some 14), (mv 1), (some (13, true)), [6]⟩,
 ⟨(some 15), (.bin .eql (.s 14) (ci 2)), (some (13, true)), [7, 6]⟩,
 ⟨(some 16), (mv 15), (some (13, true)), [8, 6, 6]⟩,
 ⟨(some 17), (mv 1), (some (16, false)), [9]⟩,
 ⟨(some 18), (.bin .eql (.s 17) (ci 3)), (some (16, false)), [10, 9]⟩,
 ⟨(some 19), (.pick (.s 16) (.c (.bool true)) (.s 18)), (some (13, true)), [9, 11, 6]⟩,
 i1 20 (.pick (.s 13) (.s 19) (.c (.bool false))) [6, 12],
 i1 21 (mv 20) [13, 9],
 ⟨(some 22), (mv 2), (some (21, true)), [14]⟩,
 ⟨(some 23), (.bin .geq (.s 22) (ci 0)), (some (21, true)), [15, 14]⟩,
 i1 24 (.pick (.s 21) (.s 23) (.c (.bool false))) [14, 16],
 i1 25 (mv 24) [17, 14],
 ⟨(some 26), (mv 2), (some (25, true)), [18]⟩,
 ⟨(some 27), (.bin .leq (.s 26) (ci 32)), (some (25, true)), [19, 18]⟩,
 i1 28 (.pick (.s 25) (.s 27) (.c (.bool false))) [18, 20],
 i1 6 (mv 28) [21, 18, 0, 1, 2, 3, 4, 5, 6, 7, 8, 9, 10, 11, 12, 13, 14, 15, 16, 17, 18, 19, 20, 21]])
 .ret)), false, (some [(Sh.int .i64), (Sh.int .i64), (Sh.int .i64)]), (some Sh.bool), false⟩

/-- euphroe/roots.full -/
def k101 : Fun := ⟨2, 8, [0, 1, 2, 3, 4], [(.tmp 4)],
  (.seq (rf [i0 2 (.box (.s 0)),
 i0 3 (.box (.s 1)),
 i0 4 (.mv (.c (.int .u64 0)))])
 (.seq (rf [i0 5 (.mkf 115 [(.s 2), (.s 3)]),
 i1 6 (.call (.c (.fn 114 [])) [(ci 274877906944), (.s 5)]) [0],
 i1 7 (.cvi .u64 (.s 6)) [1],
 i1 4 (mv 7) [2, 1, 0, 1, 2]])
 .ret)), false, (some [(Sh.int .i64), (Sh.int .i64)]), (some (Sh.int .u64)), false⟩

/-- sort.Search -/
def k114 : Fun := ⟨2, 26, [0, 1, 4, 5, 6, 7, 11, 21], [(.tmp 4)],
  (.seq (rf [i0 4 (.mv (ci 0))])
 (.seq (rf [i0 8 (mv 0),
 i0 5 (.mv (ci 0)),
 i1 6 (mv 8) [0, 1, 0, 1]])
 (.seq (.block 0
 (.loop ⟨0, [], false, [1, 5, 6], []⟩
 (.seq (.seq (rf [i0 9 (mv 5),
 i0 10 (mv 6),
 i1 11 (.bin .lss (.s 9) (.s 10)) [0, 1]])
 (.cond (.s 11)
 .skip
 (.pre ⟨0, [], false, [5], []⟩ (.exit 0))))
 (.block 1
 (.seq (rf [i0 12 (mv 5),
 i0 13 (mv 6),
 i1 14 (.bin .add (.s 12) (.s 13)) [0, 1],
 i1 15 (.cvi .u64 (.s 14)) [2],
 i1 16 (.bin .shr (.s 15) (.c (.int .u64 1))) [3],
 i1 17 (.cvi .i64 (.s 16)) [4],
 i1 7 (mv 17) [5, 0, 1, 2, 3, 4, 5]])
 (.seq (rf [i0 18 (mv 1),
 i0 19 (mv 7),
 i1 20 (.call (.s 18) [(.s 19)]) [0, 1],
 i1 21 (.un .not (.s 20)) [2]])
 (.cond (.s 21)
 (rf [i0 22 (mv 7),
 i1 23 (.bin .add (.s 22) (ci 1)) [0],
 i1 5 (mv 23) [1, 0, 1]])
 (rf [i0 24 (mv 7),
 i1 6 (mv 24) [0, 0]]))))))))
 (.seq (rf [i0 25 (mv 5),
 i1 4 (mv 25) [0, 0]])
 .ret)))), false, none, none, false⟩

/-- euphroe/roots.full$1 -/
def k115 : Fun := ⟨3, 13, [0, 1, 2, 4], [(.tmp 4)],
  (.seq (rf [i0 4 (.mv (.c (.bool false)))])
 (.seq (rf [i0 5 (mv 0),
 i1 6 (.cvi .u64 (.s 5)) [0],
 i1 7 (.bin .add (.s 6) (.c (.int .u64 1))) [1],
 i0 8 (.ldc (.s 1)),
 i1 9 (.cvi .u64 (.s 8)) [3],
 i0 10 (.ldc (.s 2)),
 i1 11 (.call (.c (.fn 116 [])) [(.s 7), (.s 9), (.s 10)]) [2, 4, 5],
 i1 12 (.un .not (.s 11)) [6],
 i1 4 (mv 12) [7, 6, 0, 1, 2, 3, 4, 5, 6, 7]])
 .ret)), false, none, none, false⟩

/-- euphroe/roots.fits -/
def k116 : Fun := ⟨3, 57, [0, 1, 2, 6, 7, 8, 9, 10, 11, 19], [(.tmp 6)],
  (.seq (rf [i0 6 (.mv (.c (.bool false)))])
 (.seq (rf [i0 13 (mv 0),
 i0 14 (mv 0),
 i1 15 (.call (.c (.fn 120 [])) [(.s 13), (.s 14)]) [0, 1],
 i1 12 (mv 15) [2],
 i1 16 (.ext (.s 12) 0) [3],
 i1 17 (.ext (.s 12) 1) [3],
 i1 7 (mv 16) [4, 2, 0, 1, 2, 3, 4],
 i1 8 (mv 17) [5, 6, 0, 1, 2, 3, 4, 5, 6]])
 (.seq (.seq (rf [i0 18 (mv 2),
 i1 19 (.bin .eql (.s 18) (ci 2)) [0]])
 (.cond (.s 19)
 (.seq (rf [i0 20 (mv 7),
 i0 21 (mv 1),
 i1 22 (.bin .lss (.s 20) (.s 21)) [0, 1],
 i1 23 (mv 22) [2],
 ⟨(some 24), (mv 7), (some (23, false)), [3]⟩,
 ⟨(some 25), (mv 1), (some (23, false)), [3]⟩,
 ⟨(some 26), (.bin .eql (.s 24) (.s 25)), (some (23, false)), [4, 5, 3]⟩,
 ⟨(some 27), (mv 26), (some (23, false)), [6, 3, 3]⟩,
 ⟨(some 28), (mv 8), (some (27, true)), [7]⟩,
 ⟨(some 29), (.bin .eql (.s 28) (.c (.int .u64 0))), (some (27, true)), [8, 7]⟩,
 ⟨(some 30), (.pick (.s 27) (.s 29) (.c (.bool false))), (some (23, false)), [7, 9, 3]⟩,
 i1 31 (.pick (.s 23) (.c (.bool true)) (.s 30)) [3, 10],
 i1 6 (mv 31) [11, 7, 0, 1, 2, 3, 4, 5, 6, 7, 8, 9, 10, 11]])
 .ret)
 .skip))
 (.seq (rf [i0 33 (mv 8),
 i0 34 (mv 0),
 i1 35 (.call (.c (.fn 120 [])) [(.s 33), (.s 34)]) [0, 1],
 i1 32 (mv 35) [2],
 i1 36 (.ext (.s 32) 0) [3],
 i1 37 (.ext (.s 32) 1) [3],
 i1 9 (mv 36) [4, 2, 0, 1, 2, 3, 4],
 i1 10 (mv 37) [5, 6, 0, 1, 2, 3, 4, 5, 6]])
 (.seq (rf [i0 38 (mv 7),
 i0 39 (mv 0),
 i1 40 (.bin .mul (.s 38) (.s 39)) [0, 1],
 i0 41 (mv 9),
 i1 42 (.bin .add (.s 40) (.s 41)) [2, 3],
 i1 11 (mv 42) [4, 0, 1, 2, 3, 4]])
 (.seq (rf [i0 43 (mv 11),
 i0 44 (mv 1),
 i1 45 (.bin .shl (.s 44) (.c (.int .u64 32))) [1],
 i1 46 (.bin .lss (.s 43) (.s 45)) [0, 2],
 i1 47 (mv 46) [3],
 ⟨(some 48), (mv 11), (some (47, false)), [4]⟩,
 ⟨(some 49), (mv 1), (some (47, false)), [4]⟩,
 ⟨(some 50), (.bin .shl (.s 49) (.c (.int .u64 32))), (some (47, false)), [6, 4]⟩,
 ⟨(some 51), (.bin .eql (.s 48) (.s 50)), (some (47, false)), [5, 7, 4]⟩,
 ⟨(some 52), (mv 51), (some (47, false)), [8, 4, 4]⟩,
 ⟨(some 53), (mv 10), (some (52, true)), [9]⟩,
 ⟨(some 54), (.bin .eql (.s 53) (.c (.int .u64 0))), (some (52, true)), [10, 9]⟩,
 ⟨(some 55), (.pick (.s 52) (.s 54) (.c (.bool false))), (some (47, false)), [9, 11, 4]⟩,
 i1 56 (.pick (.s 47) (.c (.bool true)) (.s 55)) [4, 12],
 i1 6 (mv 56) [13, 9, 0, 1, 2, 3, 4, 5, 6, 7, 8, 9, 10, 11, 12, 13]])
 .ret)))))), false, (some [(Sh.int .u64), (Sh.int .u64), (Sh.int .i64)]), (some Sh.bool), false⟩

/-- math/bits.Mul64 -/
def k120 : Fun := ⟨2, 51, [0, 1, 4, 5, 6, 7, 8, 9, 10, 11, 12, 13], [(.tmp 4), (.tmp 5)],
  (.seq (rf [i0 4 (.mv (.c (.int .u64 0))),
 i1 5 (.mv (.c (.int .u64 0))) [0]])
 (.seq (rf [i0 14 (mv 0),
 i1 15 (.bin .and (.s 14) (.c (.int .u64 4294967295))) [0],
 i1 6 (mv 15) [1, 0, 1]])
 (.seq (rf [i0 16 (mv 0),
 i1 17 (.bin .shr (.s 16) (.c (.int .u64 32))) [0],
 i1 7 (mv 17) [1, 0, 1]])
 (.seq (rf [i0 18 (mv 1),
 i1 19 (.bin .and (.s 18) (.c (.int .u64 4294967295))) [0],
 i1 8 (mv 19) [1, 0, 1]])
 (.seq (rf [i0 20 (mv 1),
 i1 21 (.bin .shr (.s 20) (.c (.int .u64 32))) [0],
 i1 9 (mv 21) [1, 0, 1]])
 (.seq (rf [i0 22 (mv 6),
 i0 23 (mv 8),
 i1 24 (.bin .mul (.s 22) (.s 23)) [0, 1],
 i1 10 (mv 24) [2, 0, 1, 2]])
 (.seq (rf [i0 25 (mv 7),
 i0 26 (mv 8),
 i1 27 (.bin .mul (.s 25) (.s 26)) [0, 1],
 i0 28 (mv 10),
 i1 29 (.bin .shr (.s 28) (.c (.int .u64 32))) [3],
 i1 30 (.bin .add (.s 27) (.s 29)) [2, 4],
 i1 11 (mv 30) [5, 0, 1, 2, 3, 4, 5]])
 (.seq (rf [i0 31 (mv 11),
 i1 32 (.bin .and (.s 31) (.c (.int .u64 4294967295))) [0],
 i1 12 (mv 32) [1, 0, 1]])
 (.seq (rf [i0 33 (mv 11),
 i1 34 (.bin .shr (.s 33) (.c (.int .u64 32))) [0],
 i1 13 (mv 34) [1, 0, 1]])
 (.seq (rf [i0 35 (mv 12),
 i0 36 (mv 6),
 i0 37 (mv 9),
 i1 38 (.bin .mul (.s 36) (.s 37)) [1, 2],
 i1 39 (.bin .add (.s 35) (.s 38)) [0, 3],
 i1 12 (mv 39) [4, 0, 1, 2, 3, 4]])
 (.seq (rf [i0 40 (mv 7),
 i0 41 (mv 9),
 i1 42 (.bin .mul (.s 40) (.s 41)) [0, 1],
 i0 43 (mv 13),
 i1 44 (.bin .add (.s 42) (.s 43)) [2, 3],
 i0 45 (mv 12),
 i1 46 (.bin .shr (.s 45) (.c (.int .u64 32))) [5],
 i1 47 (.bin .add (.s 44) (.s 46)) [4, 6],
 i1 4 (mv 47) [7, 0, 1, 2, 3, 4, 5, 6, 7]])
 (.seq (rf [i0 48 (mv 0),
 i0 49 (mv 1),
 i1 50 (.bin .mul (.s 48) (.s 49)) [0, 1],
 i1 5 (mv 50) [2, 0, 1, 2]])
 .ret)))))))))))), false, (some [(Sh.int .u64), (Sh.int .u64)]), (some (Sh.tu (Sh.pr (Sh.int .u64) (Sh.int .u64)))), false⟩

/-- euphroe/attr.Lay -/
def k139 : Fun := ⟨1, 33, [0, 1, 2, 3, 4, 5, 11, 16], [(.tmp 2), (.tmp 3)],
  (.seq (rf [i0 1 (.box (.s 0)),
 i0 2 (.mv (.c .nils)),
 i1 3 (.mv (ci 0)) [1]])
 (.seq (rf [i0 7 (.fad 1 (.s 1)),
 i1 8 (.ldc (.s 7)) [0],
 i1 9 (.len false (.s 8)) [1],
 i1 10 (.bin .add (ci 4) (.s 9)) [2],
 i1 4 (mv 10) [3, 0, 1, 2, 3]])
 (.seq (.block 0
 (.seq (rf [i0 12 (.fad 0 (.s 1)),
 i1 13 (.ldc (.s 12)) [0],
 i1 14 (.call (.c (.fn 161 [])) [(.s 13)]) [1],
 i1 15 (.un .not (.s 14)) [2],
 i1 11 (mv 15) [3, 2]])
 (.cond (.s 11)
 (.seq (rf [i0 2 (.mv (.c .nils)),
 i1 3 (.mv (ci 9)) [0, 0]])
 .ret)
 (.seq (rf [i0 17 (mv 4),
 i1 18 (.bin .gtr (.s 17) (ci 4095)) [0],
 i1 16 (mv 18) [1]])
 (.cond (.s 16)
 (.seq (rf [i0 2 (.mv (.c .nils)),
 i1 3 (.mv (ci 8)) [0, 0]])
 .ret)
 .skip)))))
 (.seq (rf [i0 20 (mv 4),
 i1 21 (.cvi .u64 (.s 20)) [0],
 i1 22 (.call (.c (.fn 19 [])) [(.s 21), (ci 2), (.c (.bool false))]) [1],
 i1 19 (mv 22) [2],
 i1 23 (.ext (.s 19) 0) [3],
 i1 24 (.ext (.s 19) 1) [3],
 i1 5 (mv 23) [4, 2, 0, 1, 2, 3, 4],
 i1 6 (mv 24) [5, 6, 0, 1, 2, 3, 4, 5, 6]])
 (.seq (rf [i0 25 (.fad 0 (.s 1)),
 i1 26 (.ldc (.s 25)) [0],
 i1 27 (.bsl 2 1 (.ints .u8 [0, 0]) [(0, 1, (.c (.int .u8 0))), (1, 1, (.s 26))]) [1],
 i0 28 (mv 5),
 i0 29 (.fad 1 (.s 1)),
 i1 30 (.ldc (.s 29)) [4],
 i1 31 (.bsl 3 1 (.vals [.nils, .nils, .nils]) [(0, 1, (.s 27)), (1, 1, (.s 28)), (2, 1, (.s 30))]) [2, 3, 5],
 i1 32 (.call (.c (.fn 46 [])) [(.s 31)]) [6],
 i1 2 (mv 32) [7, 7, 0, 1, 2, 3, 4, 5, 6, 7],
 i1 3 (.mv (ci 0)) [8, 0, 1, 2, 3, 4, 5, 6, 7, 8]])
 .ret))))), false, (some [(Sh.st (Sh.pr (Sh.int .u8) (Sh.sl (Sh.int .u8))))]), (some (Sh.tu (Sh.pr (Sh.sl (Sh.int .u8)) (Sh.int .i64)))), false⟩

/-- euphroe/euphroeref17.Lay -/
def k141 : Fun := ⟨1, 25, [0, 1, 2, 3, 7, 11], [(.tmp 2), (.tmp 3)],
  (.seq (rf [i0 1 (.box (.s 0)),
 i0 2 (.mv (.c .nils)),
 i1 3 (.mv (ci 0)) [1]])
 (.seq (.seq (rf [i0 4 (.fad 0 (.s 1)),
 i1 5 (.ldc (.s 4)) [0],
 i1 6 (.call (.c (.fn 162 [])) [(.s 5)]) [1],
 i1 7 (.un .not (.s 6)) [2]])
 (.cond (.s 7)
 (.seq (rf [i0 2 (.mv (.c .nils)),
 i1 3 (.mv (ci 9)) [0, 0]])
 .ret)
 .skip))
 (.seq (.seq (rf [i0 8 (.fad 1 (.s 1)),
 i1 9 (.ldc (.s 8)) [0],
 i1 10 (.len false (.s 9)) [1],
 i1 11 (.bin .gtr (.s 10) (ci 4091)) [2]])
 (.cond (.s 11)
 (.seq (rf [i0 2 (.mv (.c .nils)),
 i1 3 (.mv (ci 8)) [0, 0]])
 .ret)
 .skip))
 (.seq (.pre ⟨0, [(1, Sh.bool)], true, [23], []⟩ (rt [i0 12 (.fad 0 (.s 1)),
 i1 13 (.ldc (.s 12)) [0],
 i1 14 (.bsl 2 1 (.ints .u8 [0, 0]) [(0, 1, (.c (.int .u8 0))), (1, 1, (.s 13))]) [1],
 i0 15 (.fad 1 (.s 1)),
 i1 16 (.ldc (.s 15)) [3],
 i1 17 (.len false (.s 16)) [4],
 i1 18 (.bin .add (ci 4) (.s 17)) [5],
 i1 19 (.cvi .u64 (.s 18)) [6],
 i1 20 (.call (.c (.fn 50 [])) [(.s 19), (ci 2)]) [7],
 i1 21 (.app 1 1 (.s 14) (.s 20)) [2, 8, 8],
 i0 22 (.fad 1 (.s 1)),
 i1 23 (.ldr (.s 22)) [10],
 i1 24 (.app 1 1 (.s 21) (.s 23)) [9, 11, 9],
 i1 2 (mv 24) [12, 12, 0, 1, 2, 3, 4, 5, 6, 7, 8, 9, 10, 11, 12],
 i1 3 (.mv (ci 0)) [13, 0, 1, 2, 3, 4, 5, 6, 7, 8, 9, 10, 11, 12, 13]]))
 .ret)))), false, (some [(Sh.st (Sh.pr (Sh.int .u8) (Sh.sl (Sh.int .u8))))]), (some (Sh.tu (Sh.pr (Sh.sl (Sh.int .u8)) (Sh.int .i64)))), false⟩

/-- euphroe/attr.Same -/
def k144 : Fun := ⟨2, 17, [0, 1, 2, 3, 4], [(.tmp 4)],
  (.seq (rf [i0 2 (.box (.s 0)),
 i0 3 (.box (.s 1)),
 i0 4 (.mv (.c (.bool false)))])
 (.seq (rf [i0 5 (.fad 0 (.s 2)),
 i1 6 (.ldc (.s 5)) [0],
 i0 7 (.fad 0 (.s 3)),
 i1 8 (.ldc (.s 7)) [2],
 i1 9 (.bin .eql (.s 6) (.s 8)) [1, 3],
 i1 10 (mv 9) [4],
 ⟨(some 11), (.fad 1 (.s 2)), (some (10, true)), [5]⟩,
 ⟨(some 12), (.ldc (.s 11)), (some (10, true)), [6, 5]⟩,
 ⟨(some 13), (.fad 1 (.s 3)), (some (10, true)), [5]⟩,
 ⟨(some 14), (.ldc (.s 13)), (some (10, true)), [8, 5]⟩,
 ⟨(some 15), (.call (.c (.fn 160 [])) [(.s 12), (.s 14)]), (some (10, true)), [7, 9, 5, 5]⟩,
 i1 16 (.pick (.s 10) (.s 15) (.c (.bool false))) [5, 10],
 i1 4 (mv 16) [11, 10, 0, 1, 2, 3, 4, 5, 6, 7, 8, 9, 10, 11]])
 .ret)), false, (some [(Sh.st (Sh.pr (Sh.int .u8) (Sh.sl (Sh.int .u8)))), (Sh.st (Sh.pr (Sh.int .u8) (Sh.sl (Sh.int .u8))))]), (some Sh.bool), false⟩

/-- euphroe/attr.Check -/
def k145 : Fun := ⟨1, 56, [0, 1, 2, 3, 4, 5, 6, 7, 16, 21, 27, 33, 55], [(.tmp 2)],
  (.seq (rf [i0 1 (.box (.s 0)),
 i0 2 (.mv (ci 0))])
 (.seq (rf [i0 9 (.fad 0 (.s 1)),
 i1 10 (.ldc (.s 9)) [0],
 i1 11 (.call (.c (.fn 163 [])) [(.s 10)]) [1],
 i1 8 (mv 11) [2],
 i1 12 (.ext (.s 8) 0) [3],
 i1 13 (.ext (.s 8) 1) [3],
 i1 14 (.ext (.s 8) 2) [3],
 i1 15 (.ext (.s 8) 3) [3],
 i1 3 (mv 12) [4, 2, 0, 1, 2, 3, 4],
 i1 4 (mv 13) [5, 8, 0, 1, 2, 3, 4, 5, 8],
 i1 5 (mv 14) [6, 9, 0, 1, 2, 3, 4, 5, 6, 8, 9],
 i1 6 (mv 15) [7, 10, 0, 1, 2, 3, 4, 5, 6, 7, 8, 9, 10]])
 (.seq (.block 0
 (.seq (rf [i0 17 (.fad 0 (.s 1)),
 i1 18 (.ldc (.s 17)) [0],
 i1 19 (.call (.c (.fn 161 [])) [(.s 18)]) [1],
 i1 20 (.un .not (.s 19)) [2],
 i1 16 (mv 20) [3, 2]])
 (.cond (.s 16)
 (.seq (rf [i0 2 (.mv (ci 9))])
 .ret)
 (.seq (rf [i0 22 (.fad 1 (.s 1)),
 i1 23 (.ldc (.s 22)) [0],
 i1 24 (.len false (.s 23)) [1],
 i0 25 (mv 3),
 i1 26 (.bin .lss (.s 24) (.s 25)) [2, 3],
 i1 21 (mv 26) [4]])
 (.cond (.s 21)
 (.seq (rf [i0 2 (.mv (ci 4))])
 .ret)
 (.seq (rf [i0 28 (.fad 1 (.s 1)),
 i1 29 (.ldc (.s 28)) [0],
 i1 30 (.len false (.s 29)) [1],
 i0 31 (mv 4),
 i1 32 (.bin .gtr (.s 30) (.s 31)) [2, 3],
 i1 27 (mv 32) [4]])
 (.cond (.s 27)
 (.seq (rf [i0 2 (.mv (ci 3))])
 .ret)
 (.seq (rf [i0 34 (.fad 0 (.s 1)),
 i1 35 (.ldc (.s 34)) [0],
 i1 36 (.bin .eql (.s 35) (.c (.int .u8 1))) [1],
 i1 33 (mv 36) [2]])
 (.cond (.s 33)
 (.seq (rf [i0 2 (.mv (ci 0))])
 .ret)
 .skip)))))))))
 (.seq (rf [i0 37 (.fad 1 (.s 1)),
 i1 38 (.ldc (.s 37)) [0],
 i1 39 (.iad 1 (.s 38) (ci 3)) [1],
 i1 40 (.ldc (.s 39)) [2],
 i1 7 (mv 40) [3, 0, 1, 2, 3]])
 (.seq (.seq (rt [i0 41 (.fad 1 (.s 1)),
 i1 42 (.ldc (.s 41)) [0],
 i0 43 (.mks (.ints .u8 [0]) 1 1 (ci 3) (ci 3)),
 i1 44 (.call (.c (.fn 164 [])) [(.s 42), (.s 43)]) [1, 2],
 i1 45 (.un .not (.s 44)) [3],
 i1 46 (mv 45) [4, 3],
 ⟨(some 47), (mv 7), (some (46, false)), [5]⟩,
 ⟨(some 48), (mv 5), (some (46, false)), [5]⟩,
 ⟨(some 49), (.bin .lss (.s 47) (.s 48)), (some (46, false)), [6, 7, 5]⟩,
 i1 50 (.pick (.s 46) (.c (.bool true)) (.s 49)) [5, 8],
 i1 51 (mv 50) [9, 5],
 ⟨(some 52), (mv 7), (some (51, false)), [10]⟩,
 ⟨(some 53), (mv 6), (some (51, false)), [10]⟩,
 ⟨(some 54), (.bin .gtr (.s 52) (.s 53)), (some (51, false)), [11, 12, 10]⟩,
 i1 55 (.pick (.s 51) (.c (.bool true)) (.s 54)) [10, 13]])
 (.cond (.s 55)
 (.seq (rf [i0 2 (.mv (ci 3))])
 .ret)
 .skip))
 (.seq (rf [i0 2 (.mv (ci 0))])
 .ret)))))), false, (some [(Sh.st (Sh.pr (Sh.int .u8) (Sh.sl (Sh.int .u8))))]), (some (Sh.int .i64)), false⟩

/-- euphroe/attr.OfBinding -/
def k148 : Fun := ⟨1, 15, [0, 1, 2], [(.cell 2 2 true none)],
  (.seq (rf [i0 1 (.box (.s 0)),
 i0 2 (.new (.vals [(.int .u8 0), .nils]))])
 (.seq (rt [i0 3 (.fad 0 (.s 1)),
 i1 4 (.ldc (.s 3)) [0],
 i1 5 (.call (.c (.fn 166 [])) [(.s 4)]) [1],
 i0 6 (.fad 1 (.s 1)),
 i1 7 (.sla 32 1 (.s 6) none none none) [3],
 i0 8 (.fad 33 (.s 1)),
 i1 9 (.sla 32 1 (.s 8) none none none) [5],
 i0 10 (.fad 65 (.s 1)),
 i1 11 (.sla 32 1 (.s 10) none none none) [7],
 i1 12 (.bsl 4 1 (.vals [.nils, .nils, .nils, .nils]) [(0, 1, (.s 5)), (1, 1, (.s 7)), (2, 1, (.s 9)), (3, 1, (.s 11))]) [2, 4, 6, 8],
 i1 13 (.call (.c (.fn 46 [])) [(.s 12)]) [9, 2],
 i1 14 (.build (.vals [(.int .u8 0), .nils]) [(0, 1, (.c (.int .u8 3))), (1, 1, (.s 13))]) [10],
 ⟨none, (.stc 2 (.s 2) (.s 14)), none, [11, 10, 0, 1, 2, 3, 4, 5, 6, 7, 8, 9, 10, 11]⟩])
 .ret)), false, (some [(Sh.ar .u8)]), (some (Sh.st (Sh.pr (Sh.int .u8) (Sh.sl (Sh.int .u8))))), false⟩

/-- euphroe/attr.OfAsk -/
def k149 : Fun := ⟨1, 11, [0, 1, 2], [(.cell 2 2 true none)],
  (.seq (rf [i0 1 (.box (.s 0)),
 i0 2 (.new (.vals [(.int .u8 0), .nils]))])
 (.seq (rt [i0 3 (.fad 0 (.s 1)),
 i1 4 (.ldc (.s 3)) [0],
 i1 5 (.call (.c (.fn 166 [])) [(.s 4)]) [1],
 i0 6 (.fad 1 (.s 1)),
 i1 7 (.sla 32 1 (.s 6) none none none) [3],
 i1 8 (.bsl 2 1 (.vals [.nils, .nils]) [(0, 1, (.s 5)), (1, 1, (.s 7))]) [2, 4],
 i1 9 (.call (.c (.fn 46 [])) [(.s 8)]) [5, 2],
 i1 10 (.build (.vals [(.int .u8 0), .nils]) [(0, 1, (.c (.int .u8 4))), (1, 1, (.s 9))]) [6],
 ⟨none, (.stc 2 (.s 2) (.s 10)), none, [7, 6, 0, 1, 2, 3, 4, 5, 6, 7]⟩])
 .ret)), false, (some [(Sh.ar .u8)]), (some (Sh.st (Sh.pr (Sh.int .u8) (Sh.sl (Sh.int .u8))))), false⟩

/-- euphroe/euphroeref17.Binding -/
def k151 : Fun := ⟨4, 20, [0, 1, 2, 3, 5, 6, 7, 8, 9], [(.cell 8 2 true none)],
  (.seq (rf [i0 5 (.box (.s 1)),
 i0 6 (.box (.s 2)),
 i0 7 (.box (.s 3)),
 i0 8 (.new (.vals [(.int .u8 0), .nils]))])
 (.seq (rf [i0 10 (mv 0),
 i1 11 (.bsl 4 1 (.ints .u8 [0, 0, 0, 0]) [(0, 1, (.c (.int .u8 0))), (1, 1, (.c (.int .u8 0))), (2, 1, (.c (.int .u8 0))), (3, 1, (.s 10))]) [0],
 i0 12 (.sla 32 1 (.s 5) none none none),
 i1 13 (.app 1 1 (.s 11) (.s 12)) [1, 2],
 i1 9 (mv 13) [3, 3, 0, 1, 2, 3]])
 (.seq (.pre ⟨0, [(7, Sh.bool)], true, [17], []⟩ (rt [i0 14 (mv 9),
 i0 15 (.sla 32 1 (.s 6) none none none),
 i1 16 (.app 1 1 (.s 14) (.s 15)) [0, 1],
 i0 17 (.slr 32 1 (.s 7) none none none),
 i1 18 (.app 1 1 (.s 16) (.s 17)) [2, 3, 2],
 i1 19 (.build (.vals [(.int .u8 0), .nils]) [(0, 1, (.c (.int .u8 3))), (1, 1, (.s 18))]) [4],
 ⟨none, (.stc 2 (.s 8) (.s 19)), none, [5, 4, 0, 1, 2, 3, 4, 5]⟩]))
 .ret))), false, (some [(Sh.int .u8), (Sh.ar .u8), (Sh.ar .u8), (Sh.ar .u8)]), (some (Sh.st (Sh.pr (Sh.int .u8) (Sh.sl (Sh.int .u8))))), false⟩

/-- euphroe/euphroeref17.Ask -/
def k152 : Fun := ⟨2, 10, [0, 1, 3, 4], [(.cell 4 2 true none)],
  (.seq (rf [i0 3 (.box (.s 1)),
 i0 4 (.new (.vals [(.int .u8 0), .nils]))])
 (.seq (rf [i0 5 (mv 0),
 i1 6 (.bsl 4 1 (.ints .u8 [0, 0, 0, 0]) [(0, 1, (.c (.int .u8 0))), (1, 1, (.c (.int .u8 0))), (2, 1, (.c (.int .u8 0))), (3, 1, (.s 5))]) [0],
 i0 7 (.sla 32 1 (.s 3) none none none),
 i1 8 (.app 1 1 (.s 6) (.s 7)) [1, 2],
 i1 9 (.build (.vals [(.int .u8 0), .nils]) [(0, 1, (.c (.int .u8 4))), (1, 1, (.s 8))]) [3],
 ⟨none, (.stc 2 (.s 4) (.s 9)), none, [4, 3, 0, 1, 2, 3, 4]⟩])
 .ret)), false, (some [(Sh.int .u8), (Sh.ar .u8)]), (some (Sh.st (Sh.pr (Sh.int .u8) (Sh.sl (Sh.int .u8))))), false⟩

/-- euphroe/attr.ToBinding -/
def k154 : Fun := ⟨1, 31, [0, 1, 2, 3, 4, 5, 9], [(.cell 2 97 true (some .u8)), (.tmp 3)],
  (.seq (rf [i0 1 (.box (.s 0)),
 i0 2 (.new (.ints .u8 [0, 0, 0, 0, 0, 0, 0, 0, 0, 0, 0, 0, 0, 0, 0, 0, 0, 0, 0, 0, 0, 0, 0, 0, 0, 0, 0, 0, 0, 0, 0, 0, 0, 0, 0, 0, 0, 0, 0, 0, 0, 0, 0, 0, 0, 0, 0, 0, 0, 0, 0, 0, 0, 0, 0, 0, 0, 0, 0, 0, 0, 0, 0, 0, 0, 0, 0, 0, 0, 0, 0, 0, 0, 0, 0, 0, 0, 0, 0, 0, 0, 0, 0, 0, 0, 0, 0, 0, 0, 0, 0, 0, 0, 0, 0, 0, 0])),
 i0 3 (.mv (ci 0))])
 (.seq (.seq (rf [i0 6 (.lda 2 none (.s 1)),
 i1 7 (.call (.c (.fn 167 [])) [(.s 6), (.c (.int .u8 3))]) [0],
 i1 4 (mv 7) [1, 1, 0, 1]])
 (.seq (rf [i0 8 (mv 4),
 i1 9 (.bin .neq (.s 8) (ci 0)) [0]])
 (.cond (.s 9)
 (.seq (rf [i0 10 (.build (.ints .u8 [0, 0, 0, 0, 0, 0, 0, 0, 0, 0, 0, 0, 0, 0, 0, 0, 0, 0, 0, 0, 0, 0, 0, 0, 0, 0, 0, 0, 0, 0, 0, 0, 0, 0, 0, 0, 0, 0, 0, 0, 0, 0, 0, 0, 0, 0, 0, 0, 0, 0, 0, 0, 0, 0, 0, 0, 0, 0, 0, 0, 0, 0, 0, 0, 0, 0, 0, 0, 0, 0, 0, 0, 0, 0, 0, 0, 0, 0, 0, 0, 0, 0, 0, 0, 0, 0, 0, 0, 0, 0, 0, 0, 0, 0, 0, 0, 0]) []),
 i0 11 (mv 4),
 ⟨none, (.stc 97 (.s 2) (.s 10)), none, [0, 0]⟩,
 i1 3 (mv 11) [1, 2, 0, 1, 2]])
 .ret)
 .skip)))
 (.seq (rf [i0 12 (.fad 1 (.s 1)),
 i1 13 (.ldc (.s 12)) [0],
 i1 14 (.sls 1 (.s 13) (some (ci 4)) none none) [1],
 i1 5 (mv 14) [2, 0, 1, 2]])
 (.seq (rt [i0 15 (.fad 1 (.s 1)),
 i1 16 (.ldc (.s 15)) [0],
 i1 17 (.iad 1 (.s 16) (ci 3)) [1],
 i1 18 (.ldc (.s 17)) [2],
 i0 19 (mv 5),
 i1 20 (.s2a 32 (.s 19)) [4],
 i1 21 (.lda 32 (some .u8) (.s 20)) [5],
 i0 22 (mv 5),
 i1 23 (.sls 1 (.s 22) (some (ci 32)) none none) [7],
 i1 24 (.s2a 32 (.s 23)) [8],
 i1 25 (.lda 32 (some .u8) (.s 24)) [9],
 i0 26 (mv 5),
 i1 27 (.sls 1 (.s 26) (some (ci 64)) none none) [11],
 i1 28 (.s2a 32 (.s 27)) [12],
 i1 29 (.lda 32 (some .u8) (.s 28)) [13],
 i1 30 (.build (.ints .u8 [0, 0, 0, 0, 0, 0, 0, 0, 0, 0, 0, 0, 0, 0, 0, 0, 0, 0, 0, 0, 0, 0, 0, 0, 0, 0, 0, 0, 0, 0, 0, 0, 0, 0, 0, 0, 0, 0, 0, 0, 0, 0, 0, 0, 0, 0, 0, 0, 0, 0, 0, 0, 0, 0, 0, 0, 0, 0, 0, 0, 0, 0, 0, 0, 0, 0, 0, 0, 0, 0, 0, 0, 0, 0, 0, 0, 0, 0, 0, 0, 0, 0, 0, 0, 0, 0, 0, 0, 0, 0, 0, 0, 0, 0, 0, 0, 0]) [(0, 1, (.s 18)), (1, 32, (.s 21)), (33, 32, (.s 25)), (65, 32, (.s 29))]) [3, 6, 10, 14],
 ⟨none, (.stc 97 (.s 2) (.s 30)), none, [15, 0, 1, 2, 3, 4, 5, 6, 7, 8, 9, 10, 11, 12, 13, 14, 15]⟩,
 i1 3 (.mv (ci 0)) [16, 0, 1, 2, 3, 4, 5, 6, 7, 8, 9, 10, 11, 12, 13, 14, 15, 16]])
 .ret)))), false, (some [(Sh.st (Sh.pr (Sh.int .u8) (Sh.sl (Sh.int .u8))))]), (some (Sh.tu (Sh.pr (Sh.ar .u8) (Sh.int .i64)))), false⟩

/-- euphroe/attr.ToAsk -/
def k155 : Fun := ⟨1, 21, [0, 1, 2, 3, 4, 8], [(.cell 2 33 true (some .u8)), (.tmp 3)],
  (.seq (rf [i0 1 (.box (.s 0)),
 i0 2 (.new (.ints .u8 [0, 0, 0, 0, 0, 0, 0, 0, 0, 0, 0, 0, 0, 0, 0, 0, 0, 0, 0, 0, 0, 0, 0, 0, 0, 0, 0, 0, 0, 0, 0, 0, 0])),
 i0 3 (.mv (ci 0))])
 (.seq (.seq (rf [i0 5 (.lda 2 none (.s 1)),
 i1 6 (.call (.c (.fn 167 [])) [(.s 5), (.c (.int .u8 4))]) [0],
 i1 4 (mv 6) [1, 1, 0, 1]])
 (.seq (rf [i0 7 (mv 4),
 i1 8 (.bin .neq (.s 7) (ci 0)) [0]])
 (.cond (.s 8)
 (.seq (rf [i0 9 (.build (.ints .u8 [0, 0, 0, 0, 0, 0, 0, 0, 0, 0, 0, 0, 0, 0, 0, 0, 0, 0, 0, 0, 0, 0, 0, 0, 0, 0, 0, 0, 0, 0, 0, 0, 0]) []),
 i0 10 (mv 4),
 ⟨none, (.stc 33 (.s 2) (.s 9)), none, [0, 0]⟩,
 i1 3 (mv 10) [1, 2, 0, 1, 2]])
 .ret)
 .skip)))
 (.seq (rt [i0 11 (.fad 1 (.s 1)),
 i1 12 (.ldc (.s 11)) [0],
 i1 13 (.iad 1 (.s 12) (ci 3)) [1],
 i1 14 (.ldc (.s 13)) [2],
 i0 15 (.fad 1 (.s 1)),
 i1 16 (.ldc (.s 15)) [4],
 i1 17 (.sls 1 (.s 16) (some (ci 4)) none none) [5],
 i1 18 (.s2a 32 (.s 17)) [6],
 i1 19 (.lda 32 (some .u8) (.s 18)) [7],
 i1 20 (.build (.ints .u8 [0, 0, 0, 0, 0, 0, 0, 0, 0, 0, 0, 0, 0, 0, 0, 0, 0, 0, 0, 0, 0, 0, 0, 0, 0, 0, 0, 0, 0, 0, 0, 0, 0]) [(0, 1, (.s 14)), (1, 32, (.s 19))]) [3, 8],
 ⟨none, (.stc 33 (.s 2) (.s 20)), none, [9, 0, 1, 2, 3, 4, 5, 6, 7, 8, 9]⟩,
 i1 3 (.mv (ci 0)) [10, 0, 1, 2, 3, 4, 5, 6, 7, 8, 9, 10]])
 .ret))), false, (some [(Sh.st (Sh.pr (Sh.int .u8) (Sh.sl (Sh.int .u8))))]), (some (Sh.tu (Sh.pr (Sh.ar .u8) (Sh.int .i64)))), false⟩

/-- bytes.Equal -/
def k160 : Fun := ⟨2, 10, [0, 1, 4], [(.tmp 4)],
  (.seq (rf [i0 4 (.mv (.c (.bool false)))])
 (.seq (rf [i0 5 (mv 0),
 i1 6 (.b2s (.s 5)) [0],
 i0 7 (mv 1),
 i1 8 (.b2s (.s 7)) [2],
 i1 9 (.bin .eql (.s 6) (.s 8)) [1, 3],
 i1 4 (mv 9) [4, 0, 1, 2, 3, 4]])
 .ret)), false, (some [(Sh.sl (Sh.int .u8)), (Sh.sl (Sh.int .u8))]), (some Sh.bool), false⟩

/-- euphroe/attr.isKind -/
def k161 : Fun := ⟨1, 9, [0, 2], [(.tmp 2)],
  (.seq (rf [i0 2 (.mv (.c (.bool false)))])
 (.seq (rf [i0 3 (mv 0),
 i1 4 (.bin .geq (.s 3) (.c (.int .u8 1))) [0],
 i1 5 (mv 4) [1],
 ⟨(some 6), (mv 0), (some (5, true)), [2]⟩,
 ⟨(some 7), (.bin .leq (.s 6) (.c (.int .u8 4))), (some (5, true)), [3, 2]⟩,
 i1 8 (.pick (.s 5) (.s 7) (.c (.bool false))) [2, 4],
 i1 2 (mv 8) [5, 2, 0, 1, 2, 3, 4, 5]])
 .ret)), false, (some [(Sh.int .u8)]), (some Sh.bool), false⟩

/-- euphroe/euphroeref17.kind -/
def k162 : Fun := ⟨1, 9, [0, 2], [(.tmp 2)],
  (.seq (rf [i0 2 (.mv (.c (.bool false)))])
 (.seq (rf [i0 3 (mv 0),
 i1 4 (.bin .geq (.s 3) (.c (.int .u8 1))) [0],
 i1 5 (mv 4) [1],
 ⟨(some 6), (mv 0), (some (5, true)), [2]⟩,
 ⟨(some 7), (.bin .leq (.s 6) (.c (.int .u8 4))), (some (5, true)), [3, 2]⟩,
 i1 8 (.pick (.s 5) (.s 7) (.c (.bool false))) [2, 4],
 i1 2 (mv 8) [5, 2, 0, 1, 2, 3, 4, 5]])
 .ret)), false, (some [(Sh.int .u8)]), (some Sh.bool), false⟩

/-- euphroe/attr.limits -/
def k163 : Fun := ⟨1, 13, [0, 2, 3, 4, 5, 6, 7, 9, 11], [(.tmp 2), (.tmp 3), (.tmp 4), (.tmp 5)],
  (.seq (rf [i0 2 (.mv (ci 0)),
 i1 3 (.mv (ci 0)) [0],
 i1 4 (.mv (.c (.int .u8 0))) [1],
 i1 5 (.mv (.c (.int .u8 0))) [2]])
 (.seq (rf [i0 6 (mv 0)])
 (.block 0
 (.seq (rf [i0 8 (.bin .eql (.s 6) (.c (.int .u8 2))),
 i1 7 (mv 8) [0]])
 (.cond (.s 7)
 (.seq (rf [i0 2 (.mv (ci 8)),
 i1 3 (.mv (ci 72)) [0, 0],
 i1 4 (.mv (.c (.int .u8 0))) [1, 0, 1],
 i1 5 (.mv (.c (.int .u8 4))) [2, 0, 1, 2]])
 .ret)
 (.seq (rf [i0 10 (.bin .eql (.s 6) (.c (.int .u8 3))),
 i1 9 (mv 10) [0]])
 (.cond (.s 9)
 (.seq (rf [i0 2 (.mv (ci 100)),
 i1 3 (.mv (ci 100)) [0, 0],
 i1 4 (.mv (.c (.int .u8 1))) [1, 0, 1],
 i1 5 (.mv (.c (.int .u8 2))) [2, 0, 1, 2]])
 .ret)
 (.seq (rf [i0 12 (.bin .eql (.s 6) (.c (.int .u8 4))),
 i1 11 (mv 12) [0]])
 (.cond (.s 11)
 (.seq (rf [i0 2 (.mv (ci 36)),
 i1 3 (.mv (ci 36)) [0, 0],
 i1 4 (.mv (.c (.int .u8 1))) [1, 0, 1],
 i1 5 (.mv (.c (.int .u8 3))) [2, 0, 1, 2]])
 .ret)
 (.seq (rf [i0 2 (.mv (ci 2)),
 i1 3 (.mv (ci 2)) [0, 0],
 i1 4 (.mv (.c (.int .u8 0))) [1, 0, 1],
 i1 5 (.mv (.c (.int .u8 0))) [2, 0, 1, 2]])
 .ret)))))))))), false, (some [(Sh.int .u8)]), (some (Sh.tu (Sh.pr (Sh.int .i64) (Sh.pr (Sh.int .i64) (Sh.pr (Sh.int .u8) (Sh.int .u8)))))), false⟩

/-- bytes.HasPrefix -/
def k164 : Fun := ⟨2, 18, [0, 1, 4], [(.tmp 4)],
  (.seq (rf [i0 4 (.mv (.c (.bool false)))])
 (.seq (rf [i0 5 (mv 0),
 i1 6 (.len false (.s 5)) [0],
 i0 7 (mv 1),
 i1 8 (.len false (.s 7)) [2],
 i1 9 (.bin .geq (.s 6) (.s 8)) [1, 3],
 i1 10 (mv 9) [4],
 ⟨(some 11), (mv 0), (some (10, true)), [5]⟩,
 ⟨(some 12), (mv 1), (some (10, true)), [5]⟩,
 ⟨(some 13), (.len false (.s 12)), (some (10, true)), [7, 5]⟩,
 ⟨(some 14), (.sls 1 (.s 11) none (some (.s 13)) none), (some (10, true)), [6, 8, 5]⟩,
 ⟨(some 15), (mv 1), (some (10, true)), [5]⟩,
 ⟨(some 16), (.call (.c (.fn 160 [])) [(.s 14), (.s 15)]), (some (10, true)), [9, 10, 5, 5]⟩,
 i1 17 (.pick (.s 10) (.s 16) (.c (.bool false))) [5, 11],
 i1 4 (mv 17) [12, 11, 0, 1, 2, 3, 4, 5, 6, 7, 8, 9, 10, 11, 12]])
 .ret)), false, (some [(Sh.sl (Sh.int .u8)), (Sh.sl (Sh.int .u8))]), (some Sh.bool), false⟩

/-- euphroe/attr.ahead -/
def k166 : Fun := ⟨1, 5, [0, 2], [(.tmp 2)],
  (.seq (rf [i0 2 (.mv (.c .nils))])
 (.seq (rf [i0 3 (mv 0),
 i1 4 (.bsl 4 1 (.ints .u8 [0, 0, 0, 0]) [(0, 1, (.c (.int .u8 0))), (1, 1, (.c (.int .u8 0))), (2, 1, (.c (.int .u8 0))), (3, 1, (.s 3))]) [0],
 i1 2 (mv 4) [1, 0, 1]])
 .ret)), false, (some [(Sh.int .u8)]), (some (Sh.sl (Sh.int .u8))), false⟩

/-- euphroe/attr.is -/
def k167 : Fun := ⟨2, 11, [0, 1, 2, 4, 8], [(.tmp 4)],
  (.seq (rf [i0 2 (.box (.s 0)),
 i0 4 (.mv (ci 0))])
 (.seq (.seq (rf [i0 5 (.fad 0 (.s 2)),
 i1 6 (.ldc (.s 5)) [0],
 i0 7 (mv 1),
 i1 8 (.bin .neq (.s 6) (.s 7)) [1, 2]])
 (.cond (.s 8)
 (.seq (rf [i0 4 (.mv (ci 9))])
 .ret)
 .skip))
 (.seq (rf [i0 9 (.lda 2 none (.s 2)),
 i1 10 (.call (.c (.fn 145 [])) [(.s 9)]) [0],
 i1 4 (mv 10) [1, 1, 0, 1]])
 .ret))), false, (some [(Sh.st (Sh.pr (Sh.int .u8) (Sh.sl (Sh.int .u8)))), (Sh.int .u8)]), (some (Sh.int .i64)), false⟩

/-- euphroe/euphroeref04.Tail -/
def k177 : Fun := ⟨1, 32, [0, 2, 3, 4, 5, 13, 20], [(.tmp 2)],
  (.seq (rf [i0 2 (.mv (.c .nils))])
 (.seq (rf [i0 6 (.bsl 1 1 (.ints .u8 [0]) [(0, 1, (.c (.int .u8 128)))]),
 i1 3 (mv 6) [0, 0]])
 (.seq (.block 0
 (.loop ⟨0, [], false, [0, 3], [(3, (.imm []), 1)]⟩
 (.seq (.seq (rf [i0 7 (mv 0),
 i0 8 (mv 3),
 i1 9 (.len false (.s 8)) [1],
 i1 10 (.cvi .u64 (.s 9)) [2],
 i1 11 (.bin .add (.s 7) (.s 10)) [0, 3],
 i1 12 (.bin .rem (.s 11) (.c (.int .u64 64))) [4],
 i1 13 (.bin .neq (.s 12) (.c (.int .u64 56))) [5]])
 (.cond (.s 13)
 .skip
 (.pre ⟨0, [], false, [0, 3], []⟩ (.exit 0))))
 (.block 1
 (rf [i0 14 (mv 3),
 i0 15 (.bsl 1 1 (.ints .u8 [0]) [(0, 1, (.c (.int .u8 0)))]),
 i1 16 (.app 1 1 (.s 14) (.s 15)) [0, 1],
 i1 3 (mv 16) [2, 2, 0, 1, 2]])))))
 (.seq (rf [i0 17 (mv 0),
 i1 18 (.bin .mul (.c (.int .u64 8)) (.s 17)) [0],
 i1 4 (mv 18) [1, 0, 1]])
 (.seq (.seq (rf [i0 5 (.mv (ci 0))])
 (.block 2
 (.loop ⟨1, [], false, [3, 4, 5], []⟩
 (.seq (.seq (rf [i0 19 (mv 5),
 i1 20 (.bin .lss (.s 19) (ci 8)) [0]])
 (.cond (.s 20)
 .skip
 (.pre ⟨0, [], false, [3], []⟩ (.exit 2))))
 (.seq (.block 3
 (.seq (rf [i0 23 (mv 3),
 i0 24 (mv 4),
 i1 25 (.bin .rem (.s 24) (.c (.int .u64 256))) [1],
 i1 26 (.cvi .u8 (.s 25)) [2],
 i1 27 (.bsl 1 1 (.ints .u8 [0]) [(0, 1, (.s 26))]) [3],
 i1 28 (.app 1 1 (.s 23) (.s 27)) [0, 4],
 i1 3 (mv 28) [5, 5, 0, 1, 2, 3, 4, 5]])
 (rf [i0 29 (mv 4),
 i1 30 (.bin .quo (.s 29) (.c (.int .u64 256))) [0],
 i1 4 (mv 30) [1, 0, 1]])))
 (rf [i0 21 (mv 5),
 i1 22 (.bin .add (.s 21) (ci 1)) [0],
 i1 5 (mv 22) [1, 0, 1]]))))))
 (.seq (rf [i0 31 (mv 3),
 i1 2 (mv 31) [0, 0]])
 .ret)))))), false, (some [(Sh.int .u64)]), (some (Sh.sl (Sh.int .u8))), false⟩

/-- euphroe/euphroeref05.Tail -/
def k186 : Fun := ⟨1, 30, [0, 2, 3, 4, 5, 6, 17], [(.tmp 2)],
  (.seq (rf [i0 2 (.mv (.c .nils))])
 (.seq (rf [i0 7 (mv 0),
 i1 8 (.call (.c (.fn 177 [])) [(.s 7)]) [0],
 i1 3 (mv 8) [1, 1, 0, 1]])
 (.seq (rf [i0 9 (mv 3),
 i1 10 (.len false (.s 9)) [0],
 i1 11 (.bin .sub (.s 10) (ci 8)) [1],
 i1 4 (mv 11) [2, 0, 1, 2]])
 (.seq (rf [i0 12 (mv 3),
 i0 13 (mv 4),
 i1 14 (.sls 1 (.s 12) none (some (.s 13)) none) [0, 1],
 i1 15 (.app 1 1 (.c .nils) (.s 14)) [2],
 i1 5 (mv 15) [3, 3, 0, 1, 2, 3]])
 (.seq (.seq (rf [i0 6 (.mv (ci 7))])
 (.block 0
 (.loop ⟨0, [], false, [3, 4, 5, 6], []⟩
 (.seq (.seq (rf [i0 16 (mv 6),
 i1 17 (.bin .geq (.s 16) (ci 0)) [0]])
 (.cond (.s 17)
 .skip
 (.pre ⟨0, [], false, [5], []⟩ (.exit 0))))
 (.seq (.block 1
 (rf [i0 20 (mv 5),
 i0 21 (mv 3),
 i0 22 (mv 4),
 i0 23 (mv 6),
 i1 24 (.bin .add (.s 22) (.s 23)) [2, 3],
 i1 25 (.iad 1 (.s 21) (.s 24)) [1, 4],
 i1 26 (.ldc (.s 25)) [5],
 i1 27 (.bsl 1 1 (.ints .u8 [0]) [(0, 1, (.s 26))]) [6],
 i1 28 (.app 1 1 (.s 20) (.s 27)) [0, 7],
 i1 5 (mv 28) [8, 8, 0, 1, 2, 3, 4, 5, 6, 7, 8]]))
 (rf [i0 18 (mv 6),
 i1 19 (.bin .sub (.s 18) (ci 1)) [0],
 i1 6 (mv 19) [1, 0, 1]]))))))
 (.seq (rf [i0 29 (mv 5),
 i1 2 (mv 29) [0, 0]])
 .ret)))))), false, (some [(Sh.int .u64)]), (some (Sh.sl (Sh.int .u8))), false⟩

/-- math/bits.RotateLeft32 -/
def k195 : Fun := ⟨2, 17, [0, 1, 4, 5], [(.tmp 4)],
  (.seq (rf [i0 4 (.mv (.c (.int .u32 0)))])
 (.seq (rf [i0 6 (mv 1),
 i1 7 (.cvi .u64 (.s 6)) [0],
 i1 8 (.bin .and (.s 7) (.c (.int .u64 31))) [1],
 i1 5 (mv 8) [2, 0, 1, 2]])
 (.seq (rf [i0 9 (mv 0),
 i0 10 (mv 5),
 i1 11 (.bin .shl (.s 9) (.s 10)) [0, 1],
 i0 12 (mv 0),
 i0 13 (mv 5),
 i1 14 (.bin .sub (.c (.int .u64 32)) (.s 13)) [4],
 i1 15 (.bin .shr (.s 12) (.s 14)) [3, 5],
 i1 16 (.bin .or (.s 11) (.s 15)) [2, 6],
 i1 4 (mv 16) [7, 0, 1, 2, 3, 4, 5, 6, 7]])
 .ret))), false, (some [(Sh.int .u32), (Sh.int .i64)]), (some (Sh.int .u32)), false⟩

/-- euphroe/sha256.Of -/
def k213 : Fun := ⟨1, 47, [0, 2, 3, 4, 5, 6, 7, 20, 30, 31], [(.cell 2 32 true (some .u8))],
  (.seq (rf [i0 2 (.new (.ints .u8 [0, 0, 0, 0, 0, 0, 0, 0, 0, 0, 0, 0, 0, 0, 0, 0, 0, 0, 0, 0, 0, 0, 0, 0, 0, 0, 0, 0, 0, 0, 0, 0]))])
 (.seq (rf [i0 8 (mv 0),
 i1 9 (.call (.c (.fn 46 [])) [(.s 8)]) [0],
 i1 3 (mv 9) [1, 1, 0, 1]])
 (.seq (rf [i0 10 (mv 3),
 i0 11 (mv 3),
 i1 12 (.len false (.s 11)) [1],
 i1 13 (.cvi .u64 (.s 12)) [2],
 i1 14 (.call (.c (.fn 217 [])) [(.s 13)]) [3],
 i1 15 (.app 1 1 (.s 10) (.s 14)) [0, 4, 4],
 i1 3 (mv 15) [5, 5, 0, 1, 2, 3, 4, 5]])
 (.seq (rf [i0 16 (.call (.c (.fn 219 [])) []),
 i1 17 (.call (.c (.fn 83 [])) [(ci 64), (ci 3)]) [0],
 i0 4 (.new (.ints .u32 [0, 0, 0, 0, 0, 0, 0, 0])),
 ⟨none, (.stc 8 (.s 4) (.s 16)), none, [2, 0, 1, 0, 2]⟩,
 i1 5 (mv 17) [1, 3, 0, 1, 2, 3]])
 (.seq (.block 0
 (.loop ⟨0, [(3, (Sh.sl (Sh.int .u8)))], false, [2, 3, 4, 5], []⟩
 (.seq (.seq (rf [i0 18 (mv 3),
 i1 19 (.len false (.s 18)) [0],
 i1 20 (.bin .gtr (.s 19) (ci 0)) [1]])
 (.cond (.s 20)
 .skip
 (.pre ⟨0, [], false, [2, 4], []⟩ (.exit 0))))
 (.seq (.block 1
 (rt [i0 23 (.lda 8 (some .u32) (.s 4)),
 i0 24 (mv 3),
 i1 25 (.sls 1 (.s 24) none (some (ci 64)) none) [1],
 i1 26 (.s2a 64 (.s 25)) [2],
 i1 27 (.lda 64 (some .u8) (.s 26)) [3],
 i0 28 (mv 5),
 i1 29 (.call (.c (.fn 229 [])) [(.s 23), (.s 27), (.s 28)]) [0, 4, 5],
 ⟨none, (.stc 8 (.s 4) (.s 29)), none, [6, 6, 0, 1, 2, 3, 4, 5, 6]⟩]))
 (rf [i0 21 (mv 3),
 i1 22 (.sls 1 (.s 21) (some (ci 64)) none none) [0],
 i1 3 (mv 22) [1, 0, 1]])))))
 (.seq (rf [i0 6 (.new (.ints .u8 [0, 0, 0, 0, 0, 0, 0, 0, 0, 0, 0, 0, 0, 0, 0, 0, 0, 0, 0, 0, 0, 0, 0, 0, 0, 0, 0, 0, 0, 0, 0, 0]))])
 (.seq (.seq (rf [i0 30 (.mv (ci 0))])
 (.block 2
 (.loop ⟨1, [], false, [2, 4, 6, 30], []⟩
 (.seq (rf [i0 31 (.bin .lss (.s 30) (ci 32))])
 (.seq (.cond (.s 31)
 .skip
 (.pre ⟨0, [], false, [2, 6], []⟩ (.exit 2)))
 (.seq (.block 3
 (.seq (rf [i0 32 (mv 30),
 i1 7 (mv 32) [0, 0]])
 (rf [i0 33 (mv 7),
 i0 34 (mv 7),
 i1 35 (.bin .quo (.s 34) (ci 4)) [1],
 i1 36 (.iaa 8 1 (.s 4) (.s 35)) [2],
 i1 37 (.ldc (.s 36)) [3],
 i0 38 (mv 7),
 i1 39 (.bin .rem (.s 38) (ci 4)) [5],
 i1 40 (.bin .sub (ci 3) (.s 39)) [6],
 i1 41 (.bin .mul (ci 8) (.s 40)) [7],
 i1 42 (.bin .shr (.s 37) (.s 41)) [4, 8],
 i1 43 (.cvi .u8 (.s 42)) [9],
 i1 44 (.iaa 32 1 (.s 6) (.s 33)) [0, 0, 1, 2, 3, 4, 5, 6, 7, 8, 9, 10],
 ⟨none, (.stc 1 (.s 44) (.s 43)), none, [11, 10, 0, 1, 2, 3, 4, 5, 6, 7, 8, 9, 10]⟩])))
 (rf [i0 45 (.bin .add (.s 30) (ci 1)),
 i1 30 (mv 45) [0]])))))))
 (.seq (rf [i0 46 (.lda 32 (some .u8) (.s 6)),
 ⟨none, (.stc 32 (.s 2) (.s 46)), none, [0, 0]⟩])
 .ret)))))))), false, (some [(Sh.sl (Sh.sl (Sh.int .u8)))]), (some (Sh.ar .u8)), false⟩

/-- euphroe/euphroeref06.Of -/
def k214 : Fun := ⟨1, 56, [0, 2, 3, 4, 5, 6, 7, 8, 9, 21, 25, 40], [(.cell 2 32 true (some .u8))],
  (.seq (rf [i0 2 (.new (.ints .u8 [0, 0, 0, 0, 0, 0, 0, 0, 0, 0, 0, 0, 0, 0, 0, 0, 0, 0, 0, 0, 0, 0, 0, 0, 0, 0, 0, 0, 0, 0, 0, 0]))])
 (.seq (rf [i0 10 (mv 0),
 i1 11 (.app 1 1 (.c .nils) (.s 10)) [0],
 i0 12 (mv 0),
 i1 13 (.len false (.s 12)) [2],
 i1 14 (.cvi .u64 (.s 13)) [3],
 i1 15 (.call (.c (.fn 218 [])) [(.s 14)]) [4, 1],
 i1 16 (.app 1 1 (.s 11) (.s 15)) [1, 5, 5],
 i1 3 (mv 16) [6, 6, 0, 1, 2, 3, 4, 5, 6]])
 (.seq (rf [i0 17 (.call (.c (.fn 220 [])) []),
 i0 4 (.new (.ints .u32 [0, 0, 0, 0, 0, 0, 0, 0])),
 ⟨none, (.stc 8 (.s 4) (.s 17)), none, [1, 0, 0, 0, 1]⟩])
 (.seq (.seq (rf [i0 5 (.mv (ci 0))])
 (.block 0
 (.loop ⟨0, [], false, [2, 3, 4, 5], []⟩
 (.seq (.seq (rf [i0 18 (mv 5),
 i0 19 (mv 3),
 i1 20 (.len false (.s 19)) [1],
 i1 21 (.bin .lss (.s 18) (.s 20)) [0, 2]])
 (.cond (.s 21)
 .skip
 (.pre ⟨0, [], false, [2, 4], []⟩ (.exit 0))))
 (.seq (.block 1
 (.seq (rf [i0 6 (.new (.ints .u8 [0, 0, 0, 0, 0, 0, 0, 0, 0, 0, 0, 0, 0, 0, 0, 0, 0, 0, 0, 0, 0, 0, 0, 0, 0, 0, 0, 0, 0, 0, 0, 0, 0, 0, 0, 0, 0, 0, 0, 0, 0, 0, 0, 0, 0, 0, 0, 0, 0, 0, 0, 0, 0, 0, 0, 0, 0, 0, 0, 0, 0, 0, 0, 0]))])
 (.seq (.seq (rf [i0 7 (.mv (ci 0))])
 (.block 2
 (.loop ⟨1, [], false, [2, 3, 4, 5, 6, 7], []⟩
 (.seq (.seq (rf [i0 24 (mv 7),
 i1 25 (.bin .lss (.s 24) (ci 64)) [0]])
 (.cond (.s 25)
 .skip
 (.pre ⟨0, [], false, [2, 3, 4, 5, 6], []⟩ (.exit 2))))
 (.seq (.block 3
 (rf [i0 28 (mv 7),
 i0 29 (mv 3),
 i0 30 (mv 5),
 i0 31 (mv 7),
 i1 32 (.bin .add (.s 30) (.s 31)) [2, 3],
 i1 33 (.iad 1 (.s 29) (.s 32)) [1, 4],
 i1 34 (.ldc (.s 33)) [5],
 i1 35 (.iaa 64 1 (.s 6) (.s 28)) [0, 0, 1, 2, 3, 4, 5, 6],
 ⟨none, (.stc 1 (.s 35) (.s 34)), none, [7, 6, 0, 1, 2, 3, 4, 5, 6]⟩]))
 (rf [i0 26 (mv 7),
 i1 27 (.bin .add (.s 26) (ci 1)) [0],
 i1 7 (mv 27) [1, 0, 1]]))))))
 (rf [i0 36 (.lda 8 (some .u32) (.s 4)),
 i0 37 (.lda 64 (some .u8) (.s 6)),
 i1 38 (.call (.c (.fn 216 [])) [(.s 36), (.s 37)]) [0, 1],
 ⟨none, (.stc 8 (.s 4) (.s 38)), none, [2, 2, 0, 1, 2]⟩]))))
 (rf [i0 22 (mv 5),
 i1 23 (.bin .add (.s 22) (ci 64)) [0],
 i1 5 (mv 23) [1, 0, 1]]))))))
 (.seq (rf [i0 8 (.new (.ints .u8 [0, 0, 0, 0, 0, 0, 0, 0, 0, 0, 0, 0, 0, 0, 0, 0, 0, 0, 0, 0, 0, 0, 0, 0, 0, 0, 0, 0, 0, 0, 0, 0]))])
 (.seq (.seq (rf [i0 9 (.mv (ci 0))])
 (.block 4
 (.loop ⟨2, [], false, [2, 4, 8, 9], []⟩
 (.seq (.seq (rf [i0 39 (mv 9),
 i1 40 (.bin .lss (.s 39) (ci 32)) [0]])
 (.cond (.s 40)
 .skip
 (.pre ⟨0, [], false, [2, 8], []⟩ (.exit 4))))
 (.seq (.block 5
 (rf [i0 43 (mv 9),
 i0 44 (mv 9),
 i1 45 (.bin .quo (.s 44) (ci 4)) [1],
 i1 46 (.iaa 8 1 (.s 4) (.s 45)) [2],
 i1 47 (.ldc (.s 46)) [3],
 i0 48 (mv 9),
 i1 49 (.bin .rem (.s 48) (ci 4)) [5],
 i1 50 (.bin .mul (ci 8) (.s 49)) [6],
 i1 51 (.bin .sub (ci 24) (.s 50)) [7],
 i1 52 (.bin .shr (.s 47) (.s 51)) [4, 8],
 i1 53 (.cvi .u8 (.s 52)) [9],
 i1 54 (.iaa 32 1 (.s 8) (.s 43)) [0, 0, 1, 2, 3, 4, 5, 6, 7, 8, 9, 10],
 ⟨none, (.stc 1 (.s 54) (.s 53)), none, [11, 10, 0, 1, 2, 3, 4, 5, 6, 7, 8, 9, 10]⟩]))
 (rf [i0 41 (mv 9),
 i1 42 (.bin .add (.s 41) (ci 1)) [0],
 i1 9 (mv 42) [1, 0, 1]]))))))
 (.seq (rf [i0 55 (.lda 32 (some .u8) (.s 8)),
 ⟨none, (.stc 32 (.s 2) (.s 55)), none, [0, 0]⟩])
 .ret))))))), false, (some [(Sh.sl (Sh.int .u8))]), (some (Sh.ar .u8)), false⟩

/-- euphroe/euphroeref06.Block -/
def k216 : Fun := ⟨2, 161, [0, 1, 2, 3, 4, 5, 6, 7, 8, 9, 10, 11, 12, 14, 18, 76, 149], [(.cell 4 8 true (some .u32))],
  (.seq (rf [i0 2 (.box (.s 0)),
 i0 3 (.box (.s 1)),
 i0 4 (.new (.ints .u32 [0, 0, 0, 0, 0, 0, 0, 0]))])
 (.seq (rf [i0 5 (.new (.ints .u32 [0, 0, 0, 0, 0, 0, 0, 0, 0, 0, 0, 0, 0, 0, 0, 0, 0, 0, 0, 0, 0, 0, 0, 0, 0, 0, 0, 0, 0, 0, 0, 0, 0, 0, 0, 0, 0, 0, 0, 0, 0, 0, 0, 0, 0, 0, 0, 0, 0, 0, 0, 0, 0, 0, 0, 0, 0, 0, 0, 0, 0, 0, 0, 0]))])
 (.seq (.seq (rf [i0 6 (.mv (ci 0))])
 (.block 0
 (.loop ⟨0, [], false, [2, 3, 4, 5, 6], []⟩
 (.seq (.seq (rf [i0 13 (mv 6),
 i1 14 (.bin .lss (.s 13) (ci 64)) [0]])
 (.cond (.s 14)
 .skip
 (.pre ⟨0, [], false, [2, 4, 5], []⟩ (.exit 0))))
 (.seq (.block 1
 (.seq (rf [i0 17 (mv 6),
 i1 18 (.bin .lss (.s 17) (ci 16)) [0]])
 (.cond (.s 18)
 (rt [i0 19 (mv 6),
 i0 20 (mv 6),
 i1 21 (.bin .mul (ci 4) (.s 20)) [1],
 i1 22 (.iaa 64 1 (.s 3) (.s 21)) [2],
 i1 23 (.ldc (.s 22)) [3],
 i1 24 (.cvi .u32 (.s 23)) [4],
 i1 25 (.bin .mul (.s 24) (.c (.int .u32 16777216))) [5],
 i0 26 (mv 6),
 i1 27 (.bin .mul (ci 4) (.s 26)) [7],
 i1 28 (.bin .add (.s 27) (ci 1)) [8],
 i1 29 (.iaa 64 1 (.s 3) (.s 28)) [9],
 i1 30 (.ldc (.s 29)) [10],
 i1 31 (.cvi .u32 (.s 30)) [11],
 i1 32 (.bin .mul (.s 31) (.c (.int .u32 65536))) [12],
 i1 33 (.bin .add (.s 25) (.s 32)) [6, 13],
 i0 34 (mv 6),
 i1 35 (.bin .mul (ci 4) (.s 34)) [15],
 i1 36 (.bin .add (.s 35) (ci 2)) [16],
 i1 37 (.iaa 64 1 (.s 3) (.s 36)) [17],
 i1 38 (.ldc (.s 37)) [18],
 i1 39 (.cvi .u32 (.s 38)) [19],
 i1 40 (.bin .mul (.s 39) (.c (.int .u32 256))) [20],
 i1 41 (.bin .add (.s 33) (.s 40)) [14, 21],
 i0 42 (mv 6),
 i1 43 (.bin .mul (ci 4) (.s 42)) [23],
 i1 44 (.bin .add (.s 43) (ci 3)) [24],
 i1 45 (.iaa 64 1 (.s 3) (.s 44)) [25],
 i1 46 (.ldc (.s 45)) [26],
 i1 47 (.cvi .u32 (.s 46)) [27],
 i1 48 (.bin .add (.s 41) (.s 47)) [22, 28],
 i1 49 (.iaa 64 1 (.s 5) (.s 19)) [0, 0, 1, 2, 3, 4, 5, 6, 7, 8, 9, 10, 11, 12, 13, 14, 15, 16, 17, 18, 19, 20, 21, 22, 23, 24, 25, 26, 27, 28, 29],
 ⟨none, (.stc 1 (.s 49) (.s 48)), none, [30, 29, 0, 1, 2, 3, 4, 5, 6, 7, 8, 9, 10, 11, 12, 13, 14, 15, 16, 17, 18, 19, 20, 21, 22, 23, 24, 25, 26, 27, 28, 29]⟩])
 (rt [i0 50 (mv 6),
 i0 51 (mv 6),
 i1 52 (.bin .sub (.s 51) (ci 16)) [1],
 i1 53 (.iaa 64 1 (.s 5) (.s 52)) [2],
 i1 54 (.ldc (.s 53)) [3],
 i0 55 (mv 6),
 i1 56 (.bin .sub (.s 55) (ci 7)) [5],
 i1 57 (.iaa 64 1 (.s 5) (.s 56)) [6],
 i1 58 (.ldc (.s 57)) [7],
 i1 59 (.bin .add (.s 54) (.s 58)) [4, 8],
 i0 60 (mv 6),
 i1 61 (.bin .sub (.s 60) (ci 15)) [10],
 i1 62 (.iaa 64 1 (.s 5) (.s 61)) [11],
 i1 63 (.ldc (.s 62)) [12],
 i1 64 (.call (.c (.fn 230 [])) [(.s 63), (ci 7), (ci 18), (ci 3)]) [13],
 i1 65 (.bin .add (.s 59) (.s 64)) [9, 14],
 i0 66 (mv 6),
 i1 67 (.bin .sub (.s 66) (ci 2)) [16],
 i1 68 (.iaa 64 1 (.s 5) (.s 67)) [17],
 i1 69 (.ldc (.s 68)) [18],
 i1 70 (.call (.c (.fn 230 [])) [(.s 69), (ci 17), (ci 19), (ci 10)]) [19, 14],
 i1 71 (.bin .add (.s 65) (.s 70)) [15, 20],
 i1 72 (.iaa 64 1 (.s 5) (.s 50)) [0, 0, 1, 2, 3, 4, 5, 6, 7, 8, 9, 10, 11, 12, 13, 14, 15, 16, 17, 18, 19, 20, 21],
 ⟨none, (.stc 1 (.s 72) (.s 71)), none, [22, 21, 20, 0, 1, 2, 3, 4, 5, 6, 7, 8, 9, 10, 11, 12, 13, 14, 15, 16, 17, 18, 19, 20, 21]⟩]))))
 (rf [i0 15 (mv 6),
 i1 16 (.bin .add (.s 15) (ci 1)) [0],
 i1 6 (mv 16) [1, 0, 1]]))))))
 (.seq (rf [i0 73 (.call (.c (.fn 231 [])) []),
 i1 7 (mv 73) [0, 0, 0]])
 (.seq (rf [i0 74 (.lda 8 (some .u32) (.s 2)),
 i0 8 (.new (.ints .u32 [0, 0, 0, 0, 0, 0, 0, 0])),
 ⟨none, (.stc 8 (.s 8) (.s 74)), none, [1, 0, 0, 1]⟩])
 (.seq (.seq (rf [i0 9 (.mv (ci 0))])
 (.block 2
 (.loop ⟨1, [], false, [2, 4, 5, 7, 8, 9], []⟩
 (.seq (.seq (rf [i0 75 (mv 9),
 i1 76 (.bin .lss (.s 75) (ci 64)) [0]])
 (.cond (.s 76)
 .skip
 (.pre ⟨0, [], false, [2, 4, 8], []⟩ (.exit 2))))
 (.seq (.block 3
 (.seq (rt [i0 79 (.iaa 8 1 (.s 8) (ci 7)),
 i1 80 (.ldc (.s 79)) [0],
 i0 81 (.iaa 8 1 (.s 8) (ci 4)),
 i1 82 (.ldc (.s 81)) [2],
 i1 83 (.call (.c (.fn 232 [])) [(.s 82), (ci 6), (ci 11), (ci 25)]) [3],
 i1 84 (.bin .add (.s 80) (.s 83)) [1, 4],
 i0 85 (.iaa 8 1 (.s 8) (ci 4)),
 i1 86 (.ldc (.s 85)) [6],
 i0 87 (.iaa 8 1 (.s 8) (ci 5)),
 i1 88 (.ldc (.s 87)) [8],
 i1 89 (.bin .and (.s 86) (.s 88)) [7, 9],
 i0 90 (.iaa 8 1 (.s 8) (ci 4)),
 i1 91 (.ldc (.s 90)) [11],
 i1 92 (.bin .sub (.c (.int .u32 4294967295)) (.s 91)) [12],
 i0 93 (.iaa 8 1 (.s 8) (ci 6)),
 i1 94 (.ldc (.s 93)) [14],
 i1 95 (.bin .and (.s 92) (.s 94)) [13, 15],
 i1 96 (.bin .or (.s 89) (.s 95)) [10, 16],
 i1 97 (.bin .add (.s 84) (.s 96)) [5, 17],
 i0 98 (mv 7),
 i0 99 (mv 9),
 i1 100 (.iad 1 (.s 98) (.s 99)) [19, 20],
 i1 101 (.ldc (.s 100)) [21],
 i1 102 (.bin .add (.s 97) (.s 101)) [18, 22],
 i0 103 (mv 9),
 i1 104 (.iaa 64 1 (.s 5) (.s 103)) [24],
 i1 105 (.ldc (.s 104)) [25],
 i1 106 (.bin .add (.s 102) (.s 105)) [23, 26],
 i1 10 (mv 106) [27, 4, 0, 1, 2, 3, 4, 5, 6, 7, 8, 9, 10, 11, 12, 13, 14, 15, 16, 17, 18, 19, 20, 21, 22, 23, 24, 25, 26, 27]])
 (.seq (rt [i0 107 (.iaa 8 1 (.s 8) (ci 0)),
 i1 108 (.ldc (.s 107)) [0],
 i1 109 (.call (.c (.fn 232 [])) [(.s 108), (ci 2), (ci 13), (ci 22)]) [1],
 i0 110 (.iaa 8 1 (.s 8) (ci 0)),
 i1 111 (.ldc (.s 110)) [3],
 i0 112 (.iaa 8 1 (.s 8) (ci 1)),
 i1 113 (.ldc (.s 112)) [5],
 i1 114 (.bin .and (.s 111) (.s 113)) [4, 6],
 i0 115 (.iaa 8 1 (.s 8) (ci 0)),
 i1 116 (.ldc (.s 115)) [8],
 i0 117 (.iaa 8 1 (.s 8) (ci 2)),
 i1 118 (.ldc (.s 117)) [10],
 i1 119 (.bin .and (.s 116) (.s 118)) [9, 11],
 i1 120 (.bin .or (.s 114) (.s 119)) [7, 12],
 i0 121 (.iaa 8 1 (.s 8) (ci 1)),
 i1 122 (.ldc (.s 121)) [14],
 i0 123 (.iaa 8 1 (.s 8) (ci 2)),
 i1 124 (.ldc (.s 123)) [16],
 i1 125 (.bin .and (.s 122) (.s 124)) [15, 17],
 i1 126 (.bin .or (.s 120) (.s 125)) [13, 18],
 i1 127 (.bin .add (.s 109) (.s 126)) [2, 19],
 i1 11 (mv 127) [20, 2, 0, 1, 2, 3, 4, 5, 6, 7, 8, 9, 10, 11, 12, 13, 14, 15, 16, 17, 18, 19, 20]])
 (rf [i0 128 (mv 10),
 i0 129 (mv 11),
 i1 130 (.bin .add (.s 128) (.s 129)) [0, 1],
 i0 131 (.iaa 8 1 (.s 8) (ci 0)),
 i1 132 (.ldc (.s 131)) [3],
 i0 133 (.iaa 8 1 (.s 8) (ci 1)),
 i1 134 (.ldc (.s 133)) [5],
 i0 135 (.iaa 8 1 (.s 8) (ci 2)),
 i1 136 (.ldc (.s 135)) [7],
 i0 137 (.iaa 8 1 (.s 8) (ci 3)),
 i1 138 (.ldc (.s 137)) [9],
 i0 139 (mv 10),
 i1 140 (.bin .add (.s 138) (.s 139)) [10, 11],
 i0 141 (.iaa 8 1 (.s 8) (ci 4)),
 i1 142 (.ldc (.s 141)) [13],
 i0 143 (.iaa 8 1 (.s 8) (ci 5)),
 i1 144 (.ldc (.s 143)) [15],
 i0 145 (.iaa 8 1 (.s 8) (ci 6)),
 i1 146 (.ldc (.s 145)) [17],
 i1 147 (.build (.ints .u32 [0, 0, 0, 0, 0, 0, 0, 0]) [(0, 1, (.s 130)), (1, 1, (.s 132)), (2, 1, (.s 134)), (3, 1, (.s 136)), (4, 1, (.s 140)), (5, 1, (.s 142)), (6, 1, (.s 144)), (7, 1, (.s 146))]) [2, 4, 6, 8, 12, 14, 16, 18],
 ⟨none, (.stc 8 (.s 8) (.s 147)), none, [19, 0, 1, 2, 3, 4, 5, 6, 7, 8, 9, 10, 11, 12, 13, 14, 15, 16, 17, 18, 19]⟩]))))
 (rf [i0 77 (mv 9),
 i1 78 (.bin .add (.s 77) (ci 1)) [0],
 i1 9 (mv 78) [1, 0, 1]]))))))
 (.seq (.seq (rf [i0 12 (.mv (ci 0))])
 (.block 4
 (.loop ⟨2, [], false, [2, 4, 8, 12], []⟩
 (.seq (.seq (rf [i0 148 (mv 12),
 i1 149 (.bin .lss (.s 148) (ci 8)) [0]])
 (.cond (.s 149)
 .skip
 (.pre ⟨0, [], false, [4, 8], []⟩ (.exit 4))))
 (.seq (.block 5
 (rt [i0 152 (mv 12),
 i1 153 (.iaa 8 1 (.s 8) (.s 152)) [0],
 i1 154 (.ldc (.s 153)) [1],
 i0 155 (mv 12),
 i1 156 (.iaa 8 1 (.s 2) (.s 155)) [3],
 i1 157 (.ldc (.s 156)) [4],
 i1 158 (.bin .add (.s 154) (.s 157)) [2, 5],
 i1 159 (.iaa 8 1 (.s 8) (.s 152)) [0, 0, 1, 2, 3, 4, 5, 6],
 ⟨none, (.stc 1 (.s 159) (.s 158)), none, [7, 6, 0, 1, 2, 3, 4, 5, 6]⟩]))
 (rf [i0 150 (mv 12),
 i1 151 (.bin .add (.s 150) (ci 1)) [0],
 i1 12 (mv 151) [1, 0, 1]]))))))
 (.seq (rf [i0 160 (.lda 8 (some .u32) (.s 8)),
 ⟨none, (.stc 8 (.s 4) (.s 160)), none, [0, 0]⟩])
 .ret)))))))), false, (some [(Sh.ar .u32), (Sh.ar .u8)]), (some (Sh.ar .u32)), false⟩

/-- euphroe/sha256.Tail -/
def k217 : Fun := ⟨1, 25, [0, 2, 3, 4, 5], [(.tmp 2)],
  (.seq (rf [i0 2 (.mv (.c .nils))])
 (.seq (rf [i0 7 (mv 0),
 i1 8 (.bin .add (.s 7) (.c (.int .u64 1))) [0],
 i1 9 (.bin .add (.s 8) (.c (.int .u64 8))) [1],
 i1 10 (.bin .rem (.s 9) (.c (.int .u64 64))) [2],
 i1 11 (.bin .sub (.c (.int .u64 64)) (.s 10)) [3],
 i1 12 (.bin .rem (.s 11) (.c (.int .u64 64))) [4],
 i1 3 (mv 12) [5, 0, 1, 2, 3, 4, 5]])
 (.seq (rf [i0 13 (.bsl 1 1 (.ints .u8 [0]) [(0, 1, (.c (.int .u8 128)))]),
 i0 14 (mv 3),
 i1 15 (.apz 1 1 (.ints .u8 [0]) (.s 13) (.s 14)) [0, 1],
 i1 4 (mv 15) [2, 2, 0, 1, 2]])
 (.seq (rf [i0 17 (mv 0),
 i1 18 (.bin .mul (.s 17) (.c (.int .u64 8))) [0],
 i1 19 (.call (.c (.fn 19 [])) [(.s 18), (ci 8), (.c (.bool false))]) [1],
 i1 16 (mv 19) [2],
 i1 20 (.ext (.s 16) 0) [3],
 i1 21 (.ext (.s 16) 1) [3],
 i1 5 (mv 20) [4, 2, 0, 1, 2, 3, 4],
 i1 6 (mv 21) [5, 6, 0, 1, 2, 3, 4, 5, 6]])
 (.seq (rf [i0 22 (mv 4),
 i0 23 (mv 5),
 i1 24 (.app 1 1 (.s 22) (.s 23)) [0, 1],
 i1 2 (mv 24) [2, 2, 0, 1, 2]])
 .ret))))), false, (some [(Sh.int .u64)]), (some (Sh.sl (Sh.int .u8))), false⟩

/-- euphroe/euphroeref06.Tail -/
def k218 : Fun := ⟨1, 5, [0, 2], [(.tmp 2)],
  (.seq (rf [i0 2 (.mv (.c .nils))])
 (.seq (rf [i0 3 (mv 0),
 i1 4 (.call (.c (.fn 186 [])) [(.s 3)]) [0],
 i1 2 (mv 4) [1, 1, 0, 1]])
 .ret)), false, (some [(Sh.int .u64)]), (some (Sh.sl (Sh.int .u8))), false⟩

/-- euphroe/sha256.First -/
def k219 : Fun := ⟨0, 4, [0], [(.cell 0 8 true (some .u32))],
  (.seq (rf [i0 0 (.new (.ints .u32 [0, 0, 0, 0, 0, 0, 0, 0]))])
 (.seq (rf [i0 1 (.call (.c (.fn 83 [])) [(ci 8), (ci 2)]),
 i1 2 (.s2a 8 (.s 1)) [0],
 i1 3 (.lda 8 (some .u32) (.s 2)) [1],
 ⟨none, (.stc 8 (.s 0) (.s 3)), none, [2, 0, 0, 1, 2]⟩])
 .ret)), false, (some []), (some (Sh.ar .u32)), false⟩

/-- euphroe/euphroeref06.First -/
def k220 : Fun := ⟨0, 2, [0], [(.cell 0 8 true (some .u32))],
  (.seq (rf [i0 0 (.new (.ints .u32 [0, 0, 0, 0, 0, 0, 0, 0]))])
 (.seq (rf [i0 1 (.build (.ints .u32 [0, 0, 0, 0, 0, 0, 0, 0]) [(0, 1, (.c (.int .u32 1779033703))), (1, 1, (.c (.int .u32 3144134277))), (2, 1, (.c (.int .u32 1013904242))), (3, 1, (.c (.int .u32 2773480762))), (4, 1, (.c (.int .u32 1359893119))), (5, 1, (.c (.int .u32 2600822924))), (6, 1, (.c (.int .u32 528734635))), (7, 1, (.c (.int .u32 1541459225)))]),
 ⟨none, (.stc 8 (.s 0) (.s 1)), none, [0, 0]⟩])
 .ret)), false, (some []), (some (Sh.ar .u32)), false⟩

/-- euphroe/euphroeref07.Of -/
def k222 : Fun := ⟨2, 19, [0, 1, 4, 5, 6], [(.cell 4 32 true (some .u8))],
  (.seq (rf [i0 4 (.new (.ints .u8 [0, 0, 0, 0, 0, 0, 0, 0, 0, 0, 0, 0, 0, 0, 0, 0, 0, 0, 0, 0, 0, 0, 0, 0, 0, 0, 0, 0, 0, 0, 0, 0]))])
 (.seq (rf [i0 7 (mv 0),
 i1 8 (.call (.c (.fn 225 [])) [(.s 7)]) [0],
 i0 5 (.new (.ints .u8 [0, 0, 0, 0, 0, 0, 0, 0, 0, 0, 0, 0, 0, 0, 0, 0, 0, 0, 0, 0, 0, 0, 0, 0, 0, 0, 0, 0, 0, 0, 0, 0, 0, 0, 0, 0, 0, 0, 0, 0, 0, 0, 0, 0, 0, 0, 0, 0, 0, 0, 0, 0, 0, 0, 0, 0, 0, 0, 0, 0, 0, 0, 0, 0])),
 ⟨none, (.stc 64 (.s 5) (.s 8)), none, [2, 1, 1, 0, 1, 2]⟩])
 (.seq (rf [i0 9 (.lda 64 (some .u8) (.s 5)),
 i1 10 (.call (.c (.fn 233 [])) [(.s 9), (.c (.int .u8 54))]) [0],
 i0 11 (mv 1),
 i1 12 (.app 1 1 (.s 10) (.s 11)) [1, 2, 1],
 i1 13 (.call (.c (.fn 214 [])) [(.s 12)]) [3, 3],
 i0 6 (.new (.ints .u8 [0, 0, 0, 0, 0, 0, 0, 0, 0, 0, 0, 0, 0, 0, 0, 0, 0, 0, 0, 0, 0, 0, 0, 0, 0, 0, 0, 0, 0, 0, 0, 0])),
 ⟨none, (.stc 32 (.s 6) (.s 13)), none, [5, 4, 4, 0, 1, 2, 3, 4, 5]⟩])
 (.seq (rt [i0 14 (.lda 64 (some .u8) (.s 5)),
 i1 15 (.call (.c (.fn 233 [])) [(.s 14), (.c (.int .u8 92))]) [0],
 i0 16 (.sla 32 1 (.s 6) none none none),
 i1 17 (.app 1 1 (.s 15) (.s 16)) [1, 2, 1],
 i1 18 (.call (.c (.fn 214 [])) [(.s 17)]) [3, 3],
 ⟨none, (.stc 32 (.s 4) (.s 18)), none, [4, 4, 0, 1, 2, 3, 4]⟩])
 .ret)))), false, (some [(Sh.sl (Sh.int .u8)), (Sh.sl (Sh.int .u8))]), (some (Sh.ar .u8)), false⟩

/-- euphroe/hmac.Of -/
def k223 : Fun := ⟨2, 17, [0, 1, 4, 5], [(.cell 4 32 true (some .u8))],
  (.seq (rf [i0 4 (.new (.ints .u8 [0, 0, 0, 0, 0, 0, 0, 0, 0, 0, 0, 0, 0, 0, 0, 0, 0, 0, 0, 0, 0, 0, 0, 0, 0, 0, 0, 0, 0, 0, 0, 0]))])
 (.seq (rf [i0 6 (mv 0),
 i1 7 (.call (.c (.fn 234 [])) [(.s 6), (.c (.int .u8 54))]) [0],
 i0 8 (mv 1),
 i1 9 (.call (.c (.fn 46 [])) [(.s 8)]) [2, 1],
 i1 10 (.bsl 2 1 (.vals [.nils, .nils]) [(0, 1, (.s 7)), (1, 1, (.s 9))]) [1, 3],
 i1 11 (.call (.c (.fn 213 [])) [(.s 10)]) [4, 3],
 i0 5 (.new (.ints .u8 [0, 0, 0, 0, 0, 0, 0, 0, 0, 0, 0, 0, 0, 0, 0, 0, 0, 0, 0, 0, 0, 0, 0, 0, 0, 0, 0, 0, 0, 0, 0, 0])),
 ⟨none, (.stc 32 (.s 5) (.s 11)), none, [6, 5, 5, 0, 1, 2, 3, 4, 5, 6]⟩])
 (.seq (rt [i0 12 (mv 0),
 i1 13 (.call (.c (.fn 234 [])) [(.s 12), (.c (.int .u8 92))]) [0],
 i0 14 (.sla 32 1 (.s 5) none none none),
 i1 15 (.bsl 2 1 (.vals [.nils, .nils]) [(0, 1, (.s 13)), (1, 1, (.s 14))]) [1, 2],
 i1 16 (.call (.c (.fn 213 [])) [(.s 15)]) [3, 1],
 ⟨none, (.stc 32 (.s 4) (.s 16)), none, [4, 4, 0, 1, 2, 3, 4]⟩])
 .ret))), false, (some [(Sh.sl (Sh.int .u8)), (Sh.sl (Sh.sl (Sh.int .u8)))]), (some (Sh.ar .u8)), false⟩

/-- euphroe/hmac.Key -/
def k224 : Fun := ⟨1, 16, [0, 2, 3, 4, 7], [(.cell 2 64 true (some .u8))],
  (.seq (rf [i0 2 (.new (.ints .u8 [0, 0, 0, 0, 0, 0, 0, 0, 0, 0, 0, 0, 0, 0, 0, 0, 0, 0, 0, 0, 0, 0, 0, 0, 0, 0, 0, 0, 0, 0, 0, 0, 0, 0, 0, 0, 0, 0, 0, 0, 0, 0, 0, 0, 0, 0, 0, 0, 0, 0, 0, 0, 0, 0, 0, 0, 0, 0, 0, 0, 0, 0, 0, 0]))])
 (.seq (rf [i0 3 (.new (.ints .u8 [0, 0, 0, 0, 0, 0, 0, 0, 0, 0, 0, 0, 0, 0, 0, 0, 0, 0, 0, 0, 0, 0, 0, 0, 0, 0, 0, 0, 0, 0, 0, 0, 0, 0, 0, 0, 0, 0, 0, 0, 0, 0, 0, 0, 0, 0, 0, 0, 0, 0, 0, 0, 0, 0, 0, 0, 0, 0, 0, 0, 0, 0, 0, 0]))])
 (.seq (.seq (rf [i0 5 (mv 0),
 i1 6 (.len false (.s 5)) [0],
 i1 7 (.bin .gtr (.s 6) (ci 64)) [1]])
 (.cond (.s 7)
 (.seq (rf [i0 8 (mv 0),
 i1 9 (.bsl 1 1 (.vals [.nils]) [(0, 1, (.s 8))]) [0],
 i1 10 (.call (.c (.fn 213 [])) [(.s 9)]) [1],
 i0 4 (.new (.ints .u8 [0, 0, 0, 0, 0, 0, 0, 0, 0, 0, 0, 0, 0, 0, 0, 0, 0, 0, 0, 0, 0, 0, 0, 0, 0, 0, 0, 0, 0, 0, 0, 0])),
 ⟨none, (.stc 32 (.s 4) (.s 10)), none, [3, 2, 2, 0, 1, 2, 3]⟩])
 (rf [i0 11 (.sla 32 1 (.s 4) none none none),
 i1 0 (mv 11) [0, 0]]))
 .skip))
 (.seq (rf [i0 12 (.sla 64 1 (.s 3) none none none),
 i0 13 (mv 0),
 i1 14 (.cpy 1 (.s 12) (.s 13)) [0, 1]])
 (.seq (rf [i0 15 (.lda 64 (some .u8) (.s 3)),
 ⟨none, (.stc 64 (.s 2) (.s 15)), none, [0, 0]⟩])
 .ret))))), false, (some [(Sh.sl (Sh.int .u8))]), (some (Sh.ar .u8)), false⟩

/-- euphroe/euphroeref07.Key -/
def k225 : Fun := ⟨1, 25, [0, 2, 3, 4, 5, 8, 15], [(.cell 2 64 true (some .u8))],
  (.seq (rf [i0 2 (.new (.ints .u8 [0, 0, 0, 0, 0, 0, 0, 0, 0, 0, 0, 0, 0, 0, 0, 0, 0, 0, 0, 0, 0, 0, 0, 0, 0, 0, 0, 0, 0, 0, 0, 0, 0, 0, 0, 0, 0, 0, 0, 0, 0, 0, 0, 0, 0, 0, 0, 0, 0, 0, 0, 0, 0, 0, 0, 0, 0, 0, 0, 0, 0, 0, 0, 0]))])
 (.seq (.seq (rf [i0 6 (mv 0),
 i1 7 (.len false (.s 6)) [0],
 i1 8 (.bin .gtr (.s 7) (ci 64)) [1]])
 (.cond (.s 8)
 (.seq (rf [i0 9 (mv 0),
 i1 10 (.call (.c (.fn 214 [])) [(.s 9)]) [0],
 i0 3 (.new (.ints .u8 [0, 0, 0, 0, 0, 0, 0, 0, 0, 0, 0, 0, 0, 0, 0, 0, 0, 0, 0, 0, 0, 0, 0, 0, 0, 0, 0, 0, 0, 0, 0, 0])),
 ⟨none, (.stc 32 (.s 3) (.s 10)), none, [2, 1, 1, 0, 1, 2]⟩])
 (rf [i0 11 (.sla 32 1 (.s 3) none none none),
 i1 0 (mv 11) [0, 0]]))
 .skip))
 (.seq (rf [i0 4 (.new (.ints .u8 [0, 0, 0, 0, 0, 0, 0, 0, 0, 0, 0, 0, 0, 0, 0, 0, 0, 0, 0, 0, 0, 0, 0, 0, 0, 0, 0, 0, 0, 0, 0, 0, 0, 0, 0, 0, 0, 0, 0, 0, 0, 0, 0, 0, 0, 0, 0, 0, 0, 0, 0, 0, 0, 0, 0, 0, 0, 0, 0, 0, 0, 0, 0, 0]))])
 (.seq (.seq (rf [i0 5 (.mv (ci 0))])
 (.block 0
 (.loop ⟨0, [(0, (Sh.sl (Sh.int .u8)))], false, [0, 2, 4, 5], []⟩
 (.seq (.seq (rf [i0 12 (mv 5),
 i0 13 (mv 0),
 i1 14 (.len false (.s 13)) [1],
 i1 15 (.bin .lss (.s 12) (.s 14)) [0, 2]])
 (.cond (.s 15)
 .skip
 (.pre ⟨0, [], false, [2, 4], []⟩ (.exit 0))))
 (.seq (.block 1
 (rf [i0 18 (mv 5),
 i0 19 (mv 0),
 i0 20 (mv 5),
 i1 21 (.iad 1 (.s 19) (.s 20)) [1, 2],
 i1 22 (.ldc (.s 21)) [3],
 i1 23 (.iaa 64 1 (.s 4) (.s 18)) [0, 0, 1, 2, 3, 4],
 ⟨none, (.stc 1 (.s 23) (.s 22)), none, [5, 4, 0, 1, 2, 3, 4]⟩]))
 (rf [i0 16 (mv 5),
 i1 17 (.bin .add (.s 16) (ci 1)) [0],
 i1 5 (mv 17) [1, 0, 1]]))))))
 (.seq (rf [i0 24 (.lda 64 (some .u8) (.s 4)),
 ⟨none, (.stc 64 (.s 2) (.s 24)), none, [0, 0]⟩])
 .ret))))), false, (some [(Sh.sl (Sh.int .u8))]), (some (Sh.ar .u8)), false⟩

/-- (euphroe/sha256.State).block -/
def k229 : Fun := ⟨3, 40, [0, 1, 2, 3, 4, 6, 7, 8, 9, 10, 13, 14, 15, 27, 28], [(.cell 6 8 true (some .u32))],
  (.seq (rf [i0 3 (.box (.s 0)),
 i0 4 (.box (.s 1)),
 i0 6 (.new (.ints .u32 [0, 0, 0, 0, 0, 0, 0, 0]))])
 (.seq (rf [i0 11 (.lda 8 (some .u32) (.s 3)),
 i0 7 (.new (.ints .u32 [0, 0, 0, 0, 0, 0, 0, 0])),
 ⟨none, (.stc 8 (.s 7) (.s 11)), none, [1, 0, 0, 1]⟩])
 (.seq (.seq (rf [i0 12 (.lda 64 (some .u8) (.s 4)),
 i1 13 (.call (.c (.fn 235 [])) [(.s 12)]) [0],
 i0 14 (.mv (ci 0))])
 (.block 0
 (.loop ⟨0, [], false, [2, 3, 6, 7, 13, 14], []⟩
 (.seq (rf [i0 15 (.bin .lss (.s 14) (ci 64))])
 (.seq (.cond (.s 15)
 .skip
 (.pre ⟨0, [], false, [3, 6, 7], []⟩ (.exit 0)))
 (.seq (.block 1
 (.seq (rf [i0 16 (mv 14),
 i0 17 (.ixa 64 1 false (some .u32) (.s 13) (.s 14)),
 i1 8 (mv 16) [0, 0, 1],
 i1 9 (mv 17) [1, 2, 0, 1, 2]])
 (rt [i0 18 (.lda 8 (some .u32) (.s 7)),
 i0 19 (mv 9),
 i0 20 (mv 2),
 i0 21 (mv 8),
 i1 22 (.iad 1 (.s 20) (.s 21)) [2, 3],
 i1 23 (.ldc (.s 22)) [4],
 i1 24 (.bin .add (.s 19) (.s 23)) [1, 5],
 i1 25 (.call (.c (.fn 236 [])) [(.s 18), (.s 24)]) [0, 6],
 ⟨none, (.stc 8 (.s 7) (.s 25)), none, [7, 7, 0, 1, 2, 3, 4, 5, 6, 7]⟩])))
 (rf [i0 26 (.bin .add (.s 14) (ci 1)),
 i1 14 (mv 26) [0]])))))))
 (.seq (.seq (rf [i0 27 (.mv (ci 0))])
 (.block 2
 (.loop ⟨1, [], false, [3, 6, 7, 27], []⟩
 (.seq (rf [i0 28 (.bin .lss (.s 27) (ci 8))])
 (.seq (.cond (.s 28)
 .skip
 (.pre ⟨0, [], false, [6, 7], []⟩ (.exit 2)))
 (.seq (.block 3
 (.seq (rf [i0 29 (mv 27),
 i1 10 (mv 29) [0, 0]])
 (rt [i0 30 (mv 10),
 i1 31 (.iaa 8 1 (.s 7) (.s 30)) [0],
 i1 32 (.ldc (.s 31)) [1],
 i0 33 (mv 10),
 i1 34 (.iaa 8 1 (.s 3) (.s 33)) [3],
 i1 35 (.ldc (.s 34)) [4],
 i1 36 (.bin .add (.s 32) (.s 35)) [2, 5],
 i1 37 (.iaa 8 1 (.s 7) (.s 30)) [0, 0, 1, 2, 3, 4, 5, 6],
 ⟨none, (.stc 1 (.s 37) (.s 36)), none, [7, 6, 0, 1, 2, 3, 4, 5, 6]⟩])))
 (rf [i0 38 (.bin .add (.s 27) (ci 1)),
 i1 27 (mv 38) [0]])))))))
 (.seq (rf [i0 39 (.lda 8 (some .u32) (.s 7)),
 ⟨none, (.stc 8 (.s 6) (.s 39)), none, [0, 0]⟩])
 .ret))))), false, (some [(Sh.ar .u32), (Sh.ar .u8), (Sh.sl (Sh.int .u32))]), (some (Sh.ar .u32)), false⟩

/-- euphroe/euphroeref06.small -/
def k230 : Fun := ⟨4, 20, [0, 1, 2, 3, 8], [(.tmp 8)],
  (.seq (rf [i0 8 (.mv (.c (.int .u32 0)))])
 (.seq (rt [i0 9 (mv 0),
 i0 10 (mv 1),
 i1 11 (.call (.c (.fn 237 [])) [(.s 9), (.s 10)]) [0, 1],
 i0 12 (mv 0),
 i0 13 (mv 2),
 i1 14 (.call (.c (.fn 237 [])) [(.s 12), (.s 13)]) [3, 4, 2],
 i1 15 (.bin .xor (.s 11) (.s 14)) [2, 5],
 i0 16 (mv 0),
 i0 17 (mv 3),
 i1 18 (.bin .shr (.s 16) (.s 17)) [7, 8],
 i1 19 (.bin .xor (.s 15) (.s 18)) [6, 9],
 i1 8 (mv 19) [10, 5, 0, 1, 2, 3, 4, 5, 6, 7, 8, 9, 10]])
 .ret)), false, (some [(Sh.int .u32), (Sh.int .i64), (Sh.int .i64), (Sh.int .i64)]), (some (Sh.int .u32)), false⟩

/-- euphroe/euphroeref06.constants -/
def k231 : Fun := ⟨0, 2, [0], [(.tmp 0)],
  (.seq (rf [i0 0 (.mv (.c .nils))])
 (.seq (rf [i0 1 (.bsl 64 1 (.ints .u32 [0, 0, 0, 0, 0, 0, 0, 0, 0, 0, 0, 0, 0, 0, 0, 0, 0, 0, 0, 0, 0, 0, 0, 0, 0, 0, 0, 0, 0, 0, 0, 0, 0, 0, 0, 0, 0, 0, 0, 0, 0, 0, 0, 0, 0, 0, 0, 0, 0, 0, 0, 0, 0, 0, 0, 0, 0, 0, 0, 0, 0, 0, 0, 0]) [(0, 1, (.c (.int .u32 1116352408))), (1, 1, (.c (.int .u32 1899447441))), (2, 1, (.c (.int .u32 3049323471))), (3, 1, (.c (.int .u32 3921009573))), (4, 1, (.c (.int .u32 961987163))), (5, 1, (.c (.int .u32 1508970993))), (6, 1, (.c (.int .u32 2453635748))), (7, 1, (.c (.int .u32 2870763221))), (8, 1, (.c (.int .u32 3624381080))), (9, 1, (.c (.int .u32 310598401))), (10, 1, (.c (.int .u32 607225278))), (11, 1, (.c (.int .u32 1426881987))), (12, 1, (.c (.int .u32 1925078388))), (13, 1, (.c (.int .u32 2162078206))), (14, 1, (.c (.int .u32 2614888103))), (15, 1, (.c (.int .u32 3248222580))), (16, 1, (.c (.int .u32 3835390401))), (17, 1, (.c (.int .u32 4022224774))), (18, 1, (.c (.int .u32 264347078))), (19, 1, (.c (.int .u32 604807628))), (20, 1, (.c (.int .u32 770255983))), (21, 1, (.c (.int .u32 1249150122))), (22, 1, (.c (.int .u32 1555081692))), (23, 1, (.c (.int .u32 1996064986))), (24, 1, (.c (.int .u32 2554220882))), (25, 1, (.c (.int .u32 2821834349))), (26, 1, (.c (.int .u32 2952996808))), (27, 1, (.c (.int .u32 3210313671))), (28, 1, (.c (.int .u32 3336571891))), (29, 1, (.c (.int .u32 3584528711))), (30, 1, (.c (.int .u32 113926993))), (31, 1, (.c (.int .u32 338241895))), (32, 1, (.c (.int .u32 666307205))), (33, 1, (.c (.int .u32 773529912))), (34, 1, (.c (.int .u32 1294757372))), (35, 1, (.c (.int .u32 1396182291))), (36, 1, (.c (.int .u32 1695183700))), (37, 1, (.c (.int .u32 1986661051))), (38, 1, (.c (.int .u32 2177026350))), (39, 1, (.c (.int .u32 2456956037))), (40, 1, (.c (.int .u32 2730485921))), (41, 1, (.c (.int .u32 2820302411))), (42, 1, (.c (.int .u32 3259730800))), (43, 1, (.c (.int .u32 3345764771))), (44, 1, (.c (.int .u32 3516065817))), (45, 1, (.c (.int .u32 3600352804))), (46, 1, (.c (.int .u32 4094571909))), (47, 1, (.c (.int .u32 275423344))), (48, 1, (.c (.int .u32 430227734))), (49, 1, (.c (.int .u32 506948616))), (50, 1, (.c (.int .u32 659060556))), (51, 1, (.c (.int .u32 883997877))), (52, 1, (.c (.int .u32 958139571))), (53, 1, (.c (.int .u32 1322822218))), (54, 1, (.c (.int .u32 1537002063))), (55, 1, (.c (.int .u32 1747873779))), (56, 1, (.c (.int .u32 1955562222))), (57, 1, (.c (.int .u32 2024104815))), (58, 1, (.c (.int .u32 2227730452))), (59, 1, (.c (.int .u32 2361852424))), (60, 1, (.c (.int .u32 2428436474))), (61, 1, (.c (.int .u32 2756734187))), (62, 1, (.c (.int .u32 3204031479))), (63, 1, (.c (.int .u32 3329325298)))]),
 i1 0 (mv 1) [0, 0]])
 .ret)), false, (some []), (some (Sh.sl (Sh.int .u32))), false⟩

/-- euphroe/euphroeref06.great -/
def k232 : Fun := ⟨4, 20, [0, 1, 2, 3, 8], [(.tmp 8)],
  (.seq (rf [i0 8 (.mv (.c (.int .u32 0)))])
 (.seq (rf [i0 9 (mv 0),
 i0 10 (mv 1),
 i1 11 (.call (.c (.fn 237 [])) [(.s 9), (.s 10)]) [0, 1],
 i0 12 (mv 0),
 i0 13 (mv 2),
 i1 14 (.call (.c (.fn 237 [])) [(.s 12), (.s 13)]) [3, 4, 2],
 i1 15 (.bin .xor (.s 11) (.s 14)) [2, 5],
 i0 16 (mv 0),
 i0 17 (mv 3),
 i1 18 (.call (.c (.fn 237 [])) [(.s 16), (.s 17)]) [7, 8, 5],
 i1 19 (.bin .xor (.s 15) (.s 18)) [6, 9],
 i1 8 (mv 19) [10, 9, 0, 1, 2, 3, 4, 5, 6, 7, 8, 9, 10]])
 .ret)), false, (some [(Sh.int .u32), (Sh.int .i64), (Sh.int .i64), (Sh.int .i64)]), (some (Sh.int .u32)), false⟩

/-- euphroe/euphroeref07.turned -/
def k233 : Fun := ⟨2, 20, [0, 1, 2, 4, 5, 6, 8], [(.tmp 4)],
  (.seq (rf [i0 2 (.box (.s 0)),
 i0 4 (.mv (.c .nils))])
 (.seq (rf [i0 5 (.mv (.c .nils))])
 (.seq (.seq (rf [i0 6 (.mv (ci 0))])
 (.block 0
 (.loop ⟨0, [], false, [1, 2, 5, 6], [(5, (.ints .u8 []), 1)]⟩
 (.seq (.seq (rf [i0 7 (mv 6),
 i1 8 (.bin .lss (.s 7) (ci 64)) [0]])
 (.cond (.s 8)
 .skip
 (.pre ⟨0, [], false, [5], []⟩ (.exit 0))))
 (.seq (.block 1
 (rf [i0 11 (mv 5),
 i0 12 (mv 6),
 i1 13 (.iaa 64 1 (.s 2) (.s 12)) [1],
 i1 14 (.ldc (.s 13)) [2],
 i0 15 (mv 1),
 i1 16 (.bin .xor (.s 14) (.s 15)) [3, 4],
 i1 17 (.bsl 1 1 (.ints .u8 [0]) [(0, 1, (.s 16))]) [5],
 i1 18 (.app 1 1 (.s 11) (.s 17)) [0, 6],
 i1 5 (mv 18) [7, 7, 0, 1, 2, 3, 4, 5, 6, 7]]))
 (rf [i0 9 (mv 6),
 i1 10 (.bin .add (.s 9) (ci 1)) [0],
 i1 6 (mv 10) [1, 0, 1]]))))))
 (.seq (rf [i0 19 (mv 5),
 i1 4 (mv 19) [0, 0]])
 .ret)))), false, (some [(Sh.ar .u8), (Sh.int .u8)]), none, false⟩

/-- euphroe/hmac.pad -/
def k234 : Fun := ⟨2, 20, [0, 1, 4, 5, 6, 9, 10], [(.tmp 4)],
  (.seq (rf [i0 4 (.mv (.c .nils))])
 (.seq (rf [i0 7 (mv 0),
 i1 8 (.call (.c (.fn 224 [])) [(.s 7)]) [0],
 i0 5 (.new (.ints .u8 [0, 0, 0, 0, 0, 0, 0, 0, 0, 0, 0, 0, 0, 0, 0, 0, 0, 0, 0, 0, 0, 0, 0, 0, 0, 0, 0, 0, 0, 0, 0, 0, 0, 0, 0, 0, 0, 0, 0, 0, 0, 0, 0, 0, 0, 0, 0, 0, 0, 0, 0, 0, 0, 0, 0, 0, 0, 0, 0, 0, 0, 0, 0, 0])),
 ⟨none, (.stc 64 (.s 5) (.s 8)), none, [2, 1, 1, 0, 1, 2]⟩])
 (.seq (.seq (rf [i0 9 (.mv (ci 0))])
 (.block 0
 (.loop ⟨0, [], false, [1, 5, 9], []⟩
 (.seq (rf [i0 10 (.bin .lss (.s 9) (ci 64))])
 (.seq (.cond (.s 10)
 .skip
 (.pre ⟨0, [], false, [5], []⟩ (.exit 0)))
 (.seq (.block 1
 (.seq (rf [i0 11 (mv 9),
 i1 6 (mv 11) [0, 0]])
 (rf [i0 12 (mv 6),
 i1 13 (.iaa 64 1 (.s 5) (.s 12)) [0],
 i1 14 (.ldc (.s 13)) [1],
 i0 15 (mv 1),
 i1 16 (.bin .xor (.s 14) (.s 15)) [2, 3],
 i1 17 (.iaa 64 1 (.s 5) (.s 12)) [0, 0, 1, 2, 3, 4],
 ⟨none, (.stc 1 (.s 17) (.s 16)), none, [5, 4, 0, 1, 2, 3, 4]⟩])))
 (rf [i0 18 (.bin .add (.s 9) (ci 1)),
 i1 9 (mv 18) [0]])))))))
 (.seq (rf [i0 19 (.sla 64 1 (.s 5) none none none),
 i1 4 (mv 19) [0, 0]])
 .ret)))), false, (some [(Sh.sl (Sh.int .u8)), (Sh.int .u8)]), (some (Sh.sl (Sh.int .u8))), false⟩

/-- euphroe/sha256.spread -/
def k235 : Fun := ⟨1, 53, [0, 1, 2, 3, 4, 5, 7, 8, 11], [(.cell 2 64 true (some .u32))],
  (.seq (rf [i0 1 (.box (.s 0)),
 i0 2 (.new (.ints .u32 [0, 0, 0, 0, 0, 0, 0, 0, 0, 0, 0, 0, 0, 0, 0, 0, 0, 0, 0, 0, 0, 0, 0, 0, 0, 0, 0, 0, 0, 0, 0, 0, 0, 0, 0, 0, 0, 0, 0, 0, 0, 0, 0, 0, 0, 0, 0, 0, 0, 0, 0, 0, 0, 0, 0, 0, 0, 0, 0, 0, 0, 0, 0, 0]))])
 (.seq (rf [i0 3 (.new (.ints .u32 [0, 0, 0, 0, 0, 0, 0, 0, 0, 0, 0, 0, 0, 0, 0, 0, 0, 0, 0, 0, 0, 0, 0, 0, 0, 0, 0, 0, 0, 0, 0, 0, 0, 0, 0, 0, 0, 0, 0, 0, 0, 0, 0, 0, 0, 0, 0, 0, 0, 0, 0, 0, 0, 0, 0, 0, 0, 0, 0, 0, 0, 0, 0, 0]))])
 (.seq (.seq (rf [i0 7 (.mv (ci 0))])
 (.block 0
 (.loop ⟨0, [], false, [1, 2, 3, 7], []⟩
 (.seq (rf [i0 8 (.bin .lss (.s 7) (ci 64))])
 (.seq (.cond (.s 8)
 .skip
 (.pre ⟨0, [], false, [2, 3], []⟩ (.exit 0)))
 (.seq (.block 1
 (.seq (rf [i0 9 (mv 7),
 i1 4 (mv 9) [0, 0]])
 (.seq (.seq (rf [i0 10 (mv 4),
 i1 11 (.bin .lss (.s 10) (ci 16)) [0]])
 (.cond (.s 11)
 (.seq (rf [i0 13 (mv 4),
 i1 14 (.bin .mul (ci 4) (.s 13)) [0],
 i0 15 (mv 4),
 i1 16 (.bin .mul (ci 4) (.s 15)) [2],
 i1 17 (.bin .add (.s 16) (ci 4)) [3],
 i1 18 (.sla 64 1 (.s 1) (some (.s 14)) (some (.s 17)) none) [1, 4],
 i1 19 (.call (.c (.fn 21 [])) [(.s 18), (.c (.bool false))]) [5],
 i1 12 (mv 19) [6],
 i1 20 (.ext (.s 12) 0) [7],
 i1 21 (.ext (.s 12) 1) [7],
 i1 5 (mv 20) [8, 6, 0, 1, 2, 3, 4, 5, 6, 7, 8],
 i1 6 (mv 21) [9, 10, 0, 1, 2, 3, 4, 5, 6, 7, 8, 9, 10]])
 (.seq (rf [i0 22 (mv 4),
 i0 23 (mv 5),
 i1 24 (.cvi .u32 (.s 23)) [1],
 i1 25 (.iaa 64 1 (.s 3) (.s 22)) [0, 0, 1, 2],
 ⟨none, (.stc 1 (.s 25) (.s 24)), none, [3, 2, 0, 1, 2]⟩])
 (.pre ⟨0, [], false, [1, 2, 3, 7], []⟩ (.exit 1))))
 .skip))
 (rt [i0 26 (mv 4),
 i0 27 (mv 4),
 i1 28 (.bin .sub (.s 27) (ci 16)) [1],
 i1 29 (.iaa 64 1 (.s 3) (.s 28)) [2],
 i1 30 (.ldc (.s 29)) [3],
 i0 31 (mv 4),
 i1 32 (.bin .sub (.s 31) (ci 7)) [5],
 i1 33 (.iaa 64 1 (.s 3) (.s 32)) [6],
 i1 34 (.ldc (.s 33)) [7],
 i1 35 (.bin .add (.s 30) (.s 34)) [4, 8],
 i0 36 (.build (.ints .i64 [0, 0, 0]) [(0, 1, (ci 7)), (1, 1, (ci 18)), (2, 1, (ci 3))]),
 i0 37 (mv 4),
 i1 38 (.bin .sub (.s 37) (ci 15)) [11],
 i1 39 (.iaa 64 1 (.s 3) (.s 38)) [12],
 i1 40 (.ldc (.s 39)) [13],
 i1 41 (.call (.c (.fn 238 [])) [(.s 36), (.s 40)]) [10, 14],
 i1 42 (.bin .add (.s 35) (.s 41)) [9, 15],
 i0 43 (.build (.ints .i64 [0, 0, 0]) [(0, 1, (ci 17)), (1, 1, (ci 19)), (2, 1, (ci 10))]),
 i0 44 (mv 4),
 i1 45 (.bin .sub (.s 44) (ci 2)) [18],
 i1 46 (.iaa 64 1 (.s 3) (.s 45)) [19],
 i1 47 (.ldc (.s 46)) [20],
 i1 48 (.call (.c (.fn 238 [])) [(.s 43), (.s 47)]) [17, 21, 15],
 i1 49 (.bin .add (.s 42) (.s 48)) [16, 22],
 i1 50 (.iaa 64 1 (.s 3) (.s 26)) [0, 0, 1, 2, 3, 4, 5, 6, 7, 8, 9, 10, 11, 12, 13, 14, 15, 16, 17, 18, 19, 20, 21, 22, 23],
 ⟨none, (.stc 1 (.s 50) (.s 49)), none, [24, 23, 22, 0, 1, 2, 3, 4, 5, 6, 7, 8, 9, 10, 11, 12, 13, 14, 15, 16, 17, 18, 19, 20, 21, 22, 23]⟩]))))
 (rf [i0 51 (.bin .add (.s 7) (ci 1)),
 i1 7 (mv 51) [0]])))))))
 (.seq (rf [i0 52 (.lda 64 (some .u32) (.s 3)),
 ⟨none, (.stc 64 (.s 2) (.s 52)), none, [0, 0]⟩])
 .ret)))), false, (some [(Sh.ar .u8)]), (some (Sh.ar .u32)), false⟩

/-- (euphroe/sha256.State).step -/
def k236 : Fun := ⟨2, 68, [0, 1, 2, 4, 5, 6, 7, 8, 9, 10, 11, 12], [(.cell 4 8 true (some .u32))],
  (.seq (rf [i0 2 (.box (.s 0)),
 i0 4 (.new (.ints .u32 [0, 0, 0, 0, 0, 0, 0, 0]))])
 (.seq (rt [i0 13 (.iaa 8 1 (.s 2) (ci 0)),
 i1 14 (.ldc (.s 13)) [0],
 i0 15 (.iaa 8 1 (.s 2) (ci 1)),
 i1 16 (.ldc (.s 15)) [2],
 i0 17 (.iaa 8 1 (.s 2) (ci 2)),
 i1 18 (.ldc (.s 17)) [4],
 i0 19 (.iaa 8 1 (.s 2) (ci 4)),
 i1 20 (.ldc (.s 19)) [6],
 i0 21 (.iaa 8 1 (.s 2) (ci 5)),
 i1 22 (.ldc (.s 21)) [8],
 i0 23 (.iaa 8 1 (.s 2) (ci 6)),
 i1 24 (.ldc (.s 23)) [10],
 i1 5 (mv 14) [1, 0, 1],
 i1 6 (mv 16) [3, 12, 0, 1, 2, 3, 12],
 i1 7 (mv 18) [5, 13, 0, 1, 2, 3, 4, 5, 12, 13],
 i1 8 (mv 20) [7, 14, 0, 1, 2, 3, 4, 5, 6, 7, 12, 13, 14],
 i1 9 (mv 22) [9, 15, 0, 1, 2, 3, 4, 5, 6, 7, 8, 9, 12, 13, 14, 15],
 i1 10 (mv 24) [11, 16, 0, 1, 2, 3, 4, 5, 6, 7, 8, 9, 10, 11, 12, 13, 14, 15, 16]])
 (.seq (rt [i0 25 (.iaa 8 1 (.s 2) (ci 7)),
 i1 26 (.ldc (.s 25)) [0],
 i0 27 (.build (.ints .i64 [0, 0, 0]) [(0, 1, (ci 6)), (1, 1, (ci 11)), (2, 1, (ci 25))]),
 i0 28 (mv 8),
 i1 29 (.call (.c (.fn 239 [])) [(.s 27), (.s 28)]) [2, 3],
 i1 30 (.bin .add (.s 26) (.s 29)) [1, 4],
 i0 31 (mv 10),
 i0 32 (mv 8),
 i0 33 (mv 9),
 i0 34 (mv 10),
 i1 35 (.bin .xor (.s 33) (.s 34)) [8, 9],
 i1 36 (.bin .and (.s 32) (.s 35)) [7, 10],
 i1 37 (.bin .xor (.s 31) (.s 36)) [6, 11],
 i1 38 (.bin .add (.s 30) (.s 37)) [5, 12],
 i0 39 (mv 1),
 i1 40 (.bin .add (.s 38) (.s 39)) [13, 14],
 i1 11 (mv 40) [15, 4, 0, 1, 2, 3, 4, 5, 6, 7, 8, 9, 10, 11, 12, 13, 14, 15]])
 (.seq (rf [i0 41 (.build (.ints .i64 [0, 0, 0]) [(0, 1, (ci 2)), (1, 1, (ci 13)), (2, 1, (ci 22))]),
 i0 42 (mv 5),
 i1 43 (.call (.c (.fn 239 [])) [(.s 41), (.s 42)]) [0, 1],
 i0 44 (mv 5),
 i0 45 (mv 6),
 i1 46 (.bin .and (.s 44) (.s 45)) [3, 4],
 i0 47 (mv 7),
 i0 48 (mv 5),
 i0 49 (mv 6),
 i1 50 (.bin .or (.s 48) (.s 49)) [7, 8],
 i1 51 (.bin .and (.s 47) (.s 50)) [6, 9],
 i1 52 (.bin .or (.s 46) (.s 51)) [5, 10],
 i1 53 (.bin .add (.s 43) (.s 52)) [2, 11],
 i1 12 (mv 53) [12, 2, 0, 1, 2, 3, 4, 5, 6, 7, 8, 9, 10, 11, 12]])
 (.seq (rf [i0 54 (mv 11),
 i0 55 (mv 12),
 i1 56 (.bin .add (.s 54) (.s 55)) [0, 1],
 i0 57 (mv 5),
 i0 58 (mv 6),
 i0 59 (mv 7),
 i0 60 (.iaa 8 1 (.s 2) (ci 3)),
 i1 61 (.ldc (.s 60)) [6],
 i0 62 (mv 11),
 i1 63 (.bin .add (.s 61) (.s 62)) [7, 8],
 i0 64 (mv 8),
 i0 65 (mv 9),
 i0 66 (mv 10),
 i1 67 (.build (.ints .u32 [0, 0, 0, 0, 0, 0, 0, 0]) [(0, 1, (.s 56)), (1, 1, (.s 57)), (2, 1, (.s 58)), (3, 1, (.s 59)), (4, 1, (.s 63)), (5, 1, (.s 64)), (6, 1, (.s 65)), (7, 1, (.s 66))]) [2, 3, 4, 5, 9, 10, 11, 12],
 ⟨none, (.stc 8 (.s 4) (.s 67)), none, [13, 0, 1, 2, 3, 4, 5, 6, 7, 8, 9, 10, 11, 12, 13]⟩])
 .ret))))), false, (some [(Sh.ar .u32), (Sh.int .u32)]), (some (Sh.ar .u32)), false⟩

/-- euphroe/euphroeref06.turn -/
def k237 : Fun := ⟨2, 13, [0, 1, 4], [(.tmp 4)],
  (.seq (rf [i0 4 (.mv (.c (.int .u32 0)))])
 (.seq (rt [i0 5 (mv 0),
 i0 6 (mv 1),
 i1 7 (.bin .shr (.s 5) (.s 6)) [0, 1],
 i0 8 (mv 0),
 i0 9 (mv 1),
 i1 10 (.bin .sub (ci 32) (.s 9)) [4],
 i1 11 (.bin .shl (.s 8) (.s 10)) [3, 5],
 i1 12 (.bin .or (.s 7) (.s 11)) [2, 6],
 i1 4 (mv 12) [7, 0, 1, 2, 3, 4, 5, 6, 7]])
 .ret)), false, (some [(Sh.int .u32), (Sh.int .i64)]), (some (Sh.int .u32)), false⟩

/-- (euphroe/sha256.turns).small -/
def k238 : Fun := ⟨2, 21, [0, 1, 2, 4], [(.tmp 4)],
  (.seq (rf [i0 2 (.box (.s 0)),
 i0 4 (.mv (.c (.int .u32 0)))])
 (.seq (rt [i0 5 (mv 1),
 i0 6 (.iaa 3 1 (.s 2) (ci 0)),
 i1 7 (.ldc (.s 6)) [1],
 i1 8 (.un .neg (.s 7)) [2],
 i1 9 (.call (.c (.fn 195 [])) [(.s 5), (.s 8)]) [0, 3],
 i0 10 (mv 1),
 i0 11 (.iaa 3 1 (.s 2) (ci 1)),
 i1 12 (.ldc (.s 11)) [6],
 i1 13 (.un .neg (.s 12)) [7],
 i1 14 (.call (.c (.fn 195 [])) [(.s 10), (.s 13)]) [5, 8, 4],
 i1 15 (.bin .xor (.s 9) (.s 14)) [4, 9],
 i0 16 (mv 1),
 i0 17 (.iaa 3 1 (.s 2) (ci 2)),
 i1 18 (.ldc (.s 17)) [12],
 i1 19 (.bin .shr (.s 16) (.s 18)) [11, 13],
 i1 20 (.bin .xor (.s 15) (.s 19)) [10, 14],
 i1 4 (mv 20) [15, 9, 0, 1, 2, 3, 4, 5, 6, 7, 8, 9, 10, 11, 12, 13, 14, 15]])
 .ret)), false, (some [(Sh.ar .i64), (Sh.int .u32)]), (some (Sh.int .u32)), false⟩

/-- (euphroe/sha256.turns).great -/
def k239 : Fun := ⟨2, 22, [0, 1, 2, 4], [(.tmp 4)],
  (.seq (rf [i0 2 (.box (.s 0)),
 i0 4 (.mv (.c (.int .u32 0)))])
 (.seq (rt [i0 5 (mv 1),
 i0 6 (.iaa 3 1 (.s 2) (ci 0)),
 i1 7 (.ldc (.s 6)) [1],
 i1 8 (.un .neg (.s 7)) [2],
 i1 9 (.call (.c (.fn 195 [])) [(.s 5), (.s 8)]) [0, 3],
 i0 10 (mv 1),
 i0 11 (.iaa 3 1 (.s 2) (ci 1)),
 i1 12 (.ldc (.s 11)) [6],
 i1 13 (.un .neg (.s 12)) [7],
 i1 14 (.call (.c (.fn 195 [])) [(.s 10), (.s 13)]) [5, 8, 4],
 i1 15 (.bin .xor (.s 9) (.s 14)) [4, 9],
 i0 16 (mv 1),
 i0 17 (.iaa 3 1 (.s 2) (ci 2)),
 i1 18 (.ldc (.s 17)) [12],
 i1 19 (.un .neg (.s 18)) [13],
 i1 20 (.call (.c (.fn 195 [])) [(.s 16), (.s 19)]) [11, 14, 9],
 i1 21 (.bin .xor (.s 15) (.s 20)) [10, 15],
 i1 4 (mv 21) [16, 15, 0, 1, 2, 3, 4, 5, 6, 7, 8, 9, 10, 11, 12, 13, 14, 15, 16]])
 .ret)), false, (some [(Sh.ar .i64), (Sh.int .u32)]), (some (Sh.int .u32)), false⟩

/-- euphroe/euphroelaw34.BindMakes -/
def k288 : Fun := ⟨1, 32, [0, 1, 2], [(.tmp 2)],
  (.seq (rf [i0 1 (.box (.s 0)),
 i0 2 (.mv (.c (.bool false)))])
 (.seq (rt [i0 3 (.fad 0 (.s 1)),
 i1 4 (.lda 32 (some .u8) (.s 3)) [0],
 i0 5 (.fad 32 (.s 1)),
 i1 6 (.lda 32 (some .u8) (.s 5)) [2],
 i0 7 (.fad 64 (.s 1)),
 i1 8 (.lda 32 (some .u8) (.s 7)) [4],
 i1 9 (.call (.c (.fn 297 [])) [(.s 4), (.s 6), (.s 8)]) [1, 3, 5],
 i0 10 (.fad 0 (.s 1)),
 i1 11 (.lda 32 (some .u8) (.s 10)) [7],
 i0 12 (.fad 32 (.s 1)),
 i1 13 (.lda 32 (some .u8) (.s 12)) [9],
 i0 14 (.fad 64 (.s 1)),
 i1 15 (.lda 32 (some .u8) (.s 14)) [11],
 i1 16 (.call (.c (.fn 304 [])) [(.s 11), (.s 13), (.s 15)]) [8, 10, 12, 6],
 i1 17 (.call (.c (.fn 303 [])) [(.s 16)]) [13, 13],
 i1 18 (.call (.c (.fn 302 [])) [(.s 9), (.s 17)]) [6, 14, 14],
 i1 19 (mv 18) [15, 15],
 ⟨(some 20), (.fad 32 (.s 1)), (some (19, true)), [16]⟩,
 ⟨(some 21), (.lda 32 (some .u8) (.s 20)), (some (19, true)), [17, 16]⟩,
 ⟨(some 22), (.call (.c (.fn 305 [])) [(.s 21)]), (some (19, true)), [18, 16, 16]⟩,
 ⟨(some 23), (.fad 32 (.s 1)), (some (19, true)), [16]⟩,
 ⟨(some 24), (.lda 32 (some .u8) (.s 23)), (some (19, true)), [20, 16]⟩,
 ⟨(some 25), (.call (.c (.fn 306 [])) [(.s 24)]), (some (19, true)), [21, 19, 16]⟩,
 ⟨(some 26), (.call (.c (.fn 303 [])) [(.s 25)]), (some (19, true)), [22, 22, 16]⟩,
 ⟨(some 27), (.call (.c (.fn 302 [])) [(.s 22), (.s 26)]), (some (19, true)), [19, 23, 23, 16]⟩,
 i1 28 (.pick (.s 19) (.s 27) (.c (.bool false))) [16, 24],
 i1 29 (mv 28) [25, 24],
 ⟨(some 30), (.call (.c (.fn 301 [])) []), (some (29, true)), [26, 26]⟩,
 i1 31 (.pick (.s 29) (.s 30) (.c (.bool false))) [26, 27],
 i1 2 (mv 31) [28, 27, 0, 1, 2, 3, 4, 5, 6, 7, 8, 9, 10, 11, 12, 13, 14, 15, 16, 17, 18, 19, 20, 21, 22, 23, 24, 25, 26, 27, 28]])
 .ret)), false, (some [(Sh.ar .u8)]), (some Sh.bool), false⟩

/-- euphroe/prf.Derive -/
def k290 : Fun := ⟨3, 42, [0, 1, 2, 3, 4, 6, 7, 8, 9, 11, 12, 13, 14, 18, 30, 31, 32], [(.tmp 6), (.tmp 7)],
  (.seq (rf [i0 3 (.box (.s 0)),
 i0 4 (.box (.s 1)),
 i0 6 (.mv (.c .nils)),
 i1 7 (.mv (ci 0)) [2]])
 (.seq (.seq (rf [i0 15 (mv 2),
 i1 16 (.call (.c (.fn 307 [])) [(.s 15)]) [0],
 i1 8 (mv 16) [1, 1, 0, 1]])
 (.seq (rf [i0 17 (mv 8),
 i1 18 (.bin .neq (.s 17) (ci 0)) [0]])
 (.cond (.s 18)
 (.seq (rf [i0 19 (mv 8),
 i0 6 (.mv (.c .nils)),
 i1 7 (mv 19) [0, 1, 0, 1]])
 .ret)
 .skip)))
 (.seq (rf [i0 21 (mv 2),
 i1 22 (.cvi .u64 (.s 21)) [0],
 i1 23 (.call (.c (.fn 19 [])) [(.s 22), (ci 2), (.c (.bool true))]) [1],
 i1 20 (mv 23) [2],
 i1 24 (.ext (.s 20) 0) [3],
 i1 25 (.ext (.s 20) 1) [3],
 i0 9 (.new (.vals [.nils])),
 ⟨none, (.stc 1 (.s 9) (.s 24)), none, [6, 4, 2, 0, 1, 2, 3, 4, 6]⟩,
 i1 10 (mv 25) [5, 7, 0, 1, 2, 3, 4, 5, 6, 7]])
 (.seq (rf [i0 11 (.new (.vals [.nils])),
 i0 12 (.new (.vals [.nils]))])
 (.seq (rf [i0 26 (.mkf 308 [(.s 3), (.s 11), (.s 4), (.s 9), (.s 12)]),
 i1 13 (mv 26) [0, 0]])
 (.seq (.seq (rf [i0 27 (.ldc (.s 3)),
 i0 28 (.ldc (.s 4)),
 i0 29 (mv 2),
 i1 30 (.call (.c (.fn 292 [])) [(.s 27), (.s 28), (.s 29)]) [0, 1, 2],
 i0 31 (.mv (ci 0))])
 (.block 0
 (.loop ⟨0, [(11, (Sh.sl (Sh.int .u8)))], false, [2, 11, 12, 13, 30, 31], [(12, (.ints .u8 []), 1)]⟩
 (.seq (rf [i0 32 (.bin .lss (.s 31) (.s 30))])
 (.seq (.cond (.s 32)
 .skip
 (.pre ⟨0, [], false, [2, 11, 12], []⟩ (.exit 0)))
 (.seq (.block 1
 (.seq (rf [i0 33 (mv 31),
 i1 14 (mv 33) [0, 0]])
 (rf [i0 34 (mv 13),
 i0 35 (mv 14),
 i1 36 (.bin .add (.s 35) (ci 1)) [1],
 i1 37 (.call (.s 34) [(.s 36)]) [0, 2]])))
 (rf [i0 38 (.bin .add (.s 31) (ci 1)),
 i1 31 (mv 38) [0]])))))))
 (.seq (rf [i0 39 (.ldc (.s 12)),
 i0 40 (mv 2),
 i1 41 (.sls 1 (.s 39) none (some (.s 40)) none) [0, 1],
 i1 6 (mv 41) [2, 0, 1, 2],
 i1 7 (.mv (ci 0)) [3, 0, 1, 2, 3]])
 .ret))))))), false, (some [(Sh.sl (Sh.int .u8)), (Sh.sl (Sh.int .u8)), (Sh.int .i64)]), (some (Sh.tu (Sh.pr (Sh.sl (Sh.int .u8)) (Sh.int .i64)))), false⟩

/-- euphroe/euphroeref13.Derive -/
def k291 : Fun := ⟨3, 50, [0, 1, 2, 6, 7, 8, 9, 10, 11, 12, 13, 15, 17, 21], [(.tmp 6), (.tmp 7), (.tmp 8)],
  (.seq (rf [i0 6 (.mv (.c .nils)),
 i1 7 (.mv (ci 0)) [0],
 i1 8 (.mv (ci 0)) [1]])
 (.seq (.seq (rf [i0 14 (mv 2),
 i1 15 (.bin .lss (.s 14) (ci 1)) [0]])
 (.cond (.s 15)
 (.seq (rf [i0 6 (.mv (.c .nils)),
 i1 7 (.mv (ci 0)) [0, 0],
 i1 8 (.mv (ci 1)) [1, 0, 1]])
 .ret)
 .skip))
 (.seq (.seq (rf [i0 16 (mv 2),
 i1 17 (.bin .gtr (.s 16) (ci 8160)) [0]])
 (.cond (.s 17)
 (.seq (rf [i0 6 (.mv (.c .nils)),
 i1 7 (.mv (ci 0)) [0, 0],
 i1 8 (.mv (ci 8)) [1, 0, 1]])
 .ret)
 .skip))
 (.seq (rf [i0 9 (.mv (.c .nils)),
 i1 10 (.mv (.c .nils)) [0]])
 (.seq (rf [i0 11 (.mv (ci 0))])
 (.seq (.block 0
 (.loop ⟨0, [(10, (Sh.sl (Sh.int .u8)))], false, [0, 1, 2, 9, 10, 11], [(9, (.ints .u8 []), 1)]⟩
 (.seq (.seq (rf [i0 18 (mv 9),
 i1 19 (.len false (.s 18)) [0],
 i0 20 (mv 2),
 i1 21 (.bin .lss (.s 19) (.s 20)) [1, 2]])
 (.cond (.s 21)
 .skip
 (.pre ⟨0, [], false, [2, 9, 11], []⟩ (.exit 0))))
 (.block 1
 (.seq (rf [i0 22 (mv 11),
 i1 23 (.bin .add (.s 22) (ci 1)) [0],
 i1 11 (mv 23) [1, 0, 1]])
 (.seq (rf [i0 24 (mv 10),
 i1 25 (.app 1 1 (.c .nils) (.s 24)) [0],
 i0 26 (mv 1),
 i1 27 (.app 1 1 (.s 25) (.s 26)) [1, 2, 1],
 i1 12 (mv 27) [3, 3, 0, 1, 2, 3]])
 (.seq (rf [i0 28 (mv 12),
 i0 29 (mv 2),
 i1 30 (.bin .rem (.s 29) (ci 256)) [1],
 i1 31 (.cvi .u8 (.s 30)) [2],
 i0 32 (mv 2),
 i1 33 (.bin .quo (.s 32) (ci 256)) [4],
 i1 34 (.cvi .u8 (.s 33)) [5],
 i0 35 (mv 11),
 i1 36 (.cvi .u8 (.s 35)) [7],
 i1 37 (.bsl 3 1 (.ints .u8 [0, 0, 0]) [(0, 1, (.s 31)), (1, 1, (.s 34)), (2, 1, (.s 36))]) [3, 6, 8],
 i1 38 (.app 1 1 (.s 28) (.s 37)) [0, 9],
 i1 12 (mv 38) [10, 10, 0, 1, 2, 3, 4, 5, 6, 7, 8, 9, 10]])
 (.seq (rf [i0 39 (mv 0),
 i0 40 (mv 12),
 i1 41 (.call (.c (.fn 222 [])) [(.s 39), (.s 40)]) [0, 1],
 i0 13 (.new (.ints .u8 [0, 0, 0, 0, 0, 0, 0, 0, 0, 0, 0, 0, 0, 0, 0, 0, 0, 0, 0, 0, 0, 0, 0, 0, 0, 0, 0, 0, 0, 0, 0, 0])),
 ⟨none, (.stc 32 (.s 13) (.s 41)), none, [3, 2, 2, 0, 1, 2, 3]⟩])
 (.seq (rf [i0 42 (.sla 32 1 (.s 13) none none none),
 i1 10 (mv 42) [0, 0]])
 (rf [i0 43 (mv 9),
 i0 44 (mv 10),
 i1 45 (.app 1 1 (.s 43) (.s 44)) [0, 1],
 i1 9 (mv 45) [2, 2, 0, 1, 2]]))))))))))
 (.seq (rf [i0 46 (mv 9),
 i0 47 (mv 2),
 i1 48 (.sls 1 (.s 46) none (some (.s 47)) none) [0, 1],
 i0 49 (mv 11),
 i1 6 (mv 48) [2, 0, 1, 2],
 i1 7 (mv 49) [3, 4, 0, 1, 2, 3, 4],
 i1 8 (.mv (ci 0)) [5, 0, 1, 2, 3, 4, 5]])
 .ret))))))), false, (some [(Sh.sl (Sh.int .u8)), (Sh.sl (Sh.int .u8)), (Sh.int .i64)]), (some (Sh.tu (Sh.pr (Sh.sl (Sh.int .u8)) (Sh.pr (Sh.int .i64) (Sh.int .i64))))), false⟩

/-- euphroe/prf.Pieces -/
def k292 : Fun := ⟨3, 14, [0, 1, 2, 6, 9], [(.tmp 6)],
  (.seq (rf [i0 6 (.mv (ci 0))])
 (.seq (.seq (rf [i0 7 (mv 2),
 i1 8 (.call (.c (.fn 307 [])) [(.s 7)]) [0],
 i1 9 (.bin .neq (.s 8) (ci 0)) [1]])
 (.cond (.s 9)
 (.seq (rf [i0 6 (.mv (ci 0))])
 .ret)
 .skip))
 (.seq (rf [i0 10 (mv 2),
 i1 11 (.bin .add (.s 10) (ci 32)) [0],
 i1 12 (.bin .sub (.s 11) (ci 1)) [1],
 i1 13 (.bin .quo (.s 12) (ci 32)) [2],
 i1 6 (mv 13) [3, 0, 1, 2, 3]])
 .ret))), false, (some [(Sh.sl (Sh.int .u8)), (Sh.sl (Sh.int .u8)), (Sh.int .i64)]), (some (Sh.int .i64)), false⟩

/-- euphroe/prf.Bind -/
def k293 : Fun := ⟨1, 15, [0, 1, 2, 3], [(.cell 2 32 true (some .u8))],
  (.seq (rf [i0 1 (.box (.s 0)),
 i0 2 (.new (.ints .u8 [0, 0, 0, 0, 0, 0, 0, 0, 0, 0, 0, 0, 0, 0, 0, 0, 0, 0, 0, 0, 0, 0, 0, 0, 0, 0, 0, 0, 0, 0, 0, 0]))])
 (.seq (rf [i0 6 (.sla 32 1 (.s 1) none none none),
 i0 7 (.bsl 29 1 (.ints .u8 [0, 0, 0, 0, 0, 0, 0, 0, 0, 0, 0, 0, 0, 0, 0, 0, 0, 0, 0, 0, 0, 0, 0, 0, 0, 0, 0, 0, 0]) [(0, 1, (.c (.int .u8 83))), (1, 1, (.c (.int .u8 83))), (2, 1, (.c (.int .u8 84))), (3, 1, (.c (.int .u8 80))), (4, 1, (.c (.int .u8 32))), (5, 1, (.c (.int .u8 105))), (6, 1, (.c (.int .u8 110))), (7, 1, (.c (.int .u8 110))), (8, 1, (.c (.int .u8 101))), (9, 1, (.c (.int .u8 114))), (10, 1, (.c (.int .u8 32))), (11, 1, (.c (.int .u8 109))), (12, 1, (.c (.int .u8 101))), (13, 1, (.c (.int .u8 116))), (14, 1, (.c (.int .u8 104))), (15, 1, (.c (.int .u8 111))), (16, 1, (.c (.int .u8 100))), (17, 1, (.c (.int .u8 32))), (18, 1, (.c (.int .u8 100))), (19, 1, (.c (.int .u8 101))), (20, 1, (.c (.int .u8 114))), (21, 1, (.c (.int .u8 105))), (22, 1, (.c (.int .u8 118))), (23, 1, (.c (.int .u8 101))), (24, 1, (.c (.int .u8 100))), (25, 1, (.c (.int .u8 32))), (26, 1, (.c (.int .u8 67))), (27, 1, (.c (.int .u8 77))), (28, 1, (.c (.int .u8 75)))]),
 i1 8 (.cvs (.s 7)) [1],
 i1 9 (.call (.c (.fn 290 [])) [(.s 6), (.s 8), (ci 32)]) [0, 2],
 i1 5 (mv 9) [3],
 i1 10 (.ext (.s 5) 0) [4],
 i1 11 (.ext (.s 5) 1) [4],
 i1 3 (mv 10) [5, 3, 0, 1, 2, 3, 4, 5],
 i1 4 (mv 11) [6, 7, 0, 1, 2, 3, 4, 5, 6, 7]])
 (.seq (rf [i0 12 (mv 3),
 i1 13 (.s2a 32 (.s 12)) [0],
 i1 14 (.lda 32 (some .u8) (.s 13)) [1],
 ⟨none, (.stc 32 (.s 2) (.s 14)), none, [2, 0, 1, 2]⟩])
 .ret))), false, (some [(Sh.ar .u8)]), (some (Sh.ar .u8)), false⟩

/-- euphroe/euphroeref13.Bind -/
def k294 : Fun := ⟨1, 27, [0, 1, 2, 3, 6, 7, 17], [(.cell 2 32 true (some .u8))],
  (.seq (rf [i0 1 (.box (.s 0)),
 i0 2 (.new (.ints .u8 [0, 0, 0, 0, 0, 0, 0, 0, 0, 0, 0, 0, 0, 0, 0, 0, 0, 0, 0, 0, 0, 0, 0, 0, 0, 0, 0, 0, 0, 0, 0, 0]))])
 (.seq (rf [i0 9 (.sla 32 1 (.s 1) none none none),
 i0 10 (.bsl 29 1 (.ints .u8 [0, 0, 0, 0, 0, 0, 0, 0, 0, 0, 0, 0, 0, 0, 0, 0, 0, 0, 0, 0, 0, 0, 0, 0, 0, 0, 0, 0, 0]) [(0, 1, (.c (.int .u8 83))), (1, 1, (.c (.int .u8 83))), (2, 1, (.c (.int .u8 84))), (3, 1, (.c (.int .u8 80))), (4, 1, (.c (.int .u8 32))), (5, 1, (.c (.int .u8 105))), (6, 1, (.c (.int .u8 110))), (7, 1, (.c (.int .u8 110))), (8, 1, (.c (.int .u8 101))), (9, 1, (.c (.int .u8 114))), (10, 1, (.c (.int .u8 32))), (11, 1, (.c (.int .u8 109))), (12, 1, (.c (.int .u8 101))), (13, 1, (.c (.int .u8 116))), (14, 1, (.c (.int .u8 104))), (15, 1, (.c (.int .u8 111))), (16, 1, (.c (.int .u8 100))), (17, 1, (.c (.int .u8 32))), (18, 1, (.c (.int .u8 100))), (19, 1, (.c (.int .u8 101))), (20, 1, (.c (.int .u8 114))), (21, 1, (.c (.int .u8 105))), (22, 1, (.c (.int .u8 118))), (23, 1, (.c (.int .u8 101))), (24, 1, (.c (.int .u8 100))), (25, 1, (.c (.int .u8 32))), (26, 1, (.c (.int .u8 67))), (27, 1, (.c (.int .u8 77))), (28, 1, (.c (.int .u8 75)))]),
 i1 11 (.cvs (.s 10)) [1],
 i1 12 (.call (.c (.fn 291 [])) [(.s 9), (.s 11), (ci 32)]) [0, 2],
 i1 8 (mv 12) [3],
 i1 13 (.ext (.s 8) 0) [4],
 i1 14 (.ext (.s 8) 1) [4],
 i1 15 (.ext (.s 8) 2) [4],
 i1 3 (mv 13) [5, 3, 0, 1, 2, 3, 4, 5],
 i1 4 (mv 14) [6, 8, 0, 1, 2, 3, 4, 5, 6, 8],
 i1 5 (mv 15) [7, 9, 0, 1, 2, 3, 4, 5, 6, 7, 8, 9]])
 (.seq (rf [i0 6 (.new (.ints .u8 [0, 0, 0, 0, 0, 0, 0, 0, 0, 0, 0, 0, 0, 0, 0, 0, 0, 0, 0, 0, 0, 0, 0, 0, 0, 0, 0, 0, 0, 0, 0, 0]))])
 (.seq (.seq (rf [i0 7 (.mv (ci 0))])
 (.block 0
 (.loop ⟨0, [], false, [2, 3, 6, 7], []⟩
 (.seq (.seq (rf [i0 16 (mv 7),
 i1 17 (.bin .lss (.s 16) (ci 32)) [0]])
 (.cond (.s 17)
 .skip
 (.pre ⟨0, [], false, [2, 6], []⟩ (.exit 0))))
 (.seq (.block 1
 (rf [i0 20 (mv 7),
 i0 21 (mv 3),
 i0 22 (mv 7),
 i1 23 (.iad 1 (.s 21) (.s 22)) [1, 2],
 i1 24 (.ldc (.s 23)) [3],
 i1 25 (.iaa 32 1 (.s 6) (.s 20)) [0, 0, 1, 2, 3, 4],
 ⟨none, (.stc 1 (.s 25) (.s 24)), none, [5, 4, 0, 1, 2, 3, 4]⟩]))
 (rf [i0 18 (mv 7),
 i1 19 (.bin .add (.s 18) (ci 1)) [0],
 i1 7 (mv 19) [1, 0, 1]]))))))
 (.seq (rf [i0 26 (.lda 32 (some .u8) (.s 6)),
 ⟨none, (.stc 32 (.s 2) (.s 26)), none, [0, 0]⟩])
 .ret))))), false, (some [(Sh.ar .u8)]), (some (Sh.ar .u8)), false⟩

/-- euphroe/prf.Seal -/
def k295 : Fun := ⟨2, 9, [0, 1, 2, 4], [(.cell 4 32 true (some .u8))],
  (.seq (rf [i0 2 (.box (.s 0)),
 i0 4 (.new (.ints .u8 [0, 0, 0, 0, 0, 0, 0, 0, 0, 0, 0, 0, 0, 0, 0, 0, 0, 0, 0, 0, 0, 0, 0, 0, 0, 0, 0, 0, 0, 0, 0, 0]))])
 (.seq (rf [i0 5 (.sla 32 1 (.s 2) none none none),
 i0 6 (mv 1),
 i1 7 (.bsl 1 1 (.vals [.nils]) [(0, 1, (.s 6))]) [1],
 i1 8 (.call (.c (.fn 223 [])) [(.s 5), (.s 7)]) [0, 2],
 ⟨none, (.stc 32 (.s 4) (.s 8)), none, [3, 3, 0, 1, 2, 3]⟩])
 .ret)), false, (some [(Sh.ar .u8), (Sh.sl (Sh.int .u8))]), (some (Sh.ar .u8)), false⟩

/-- euphroe/bind.Connected -/
def k297 : Fun := ⟨3, 17, [0, 1, 2, 3, 4, 5, 6, 7], [(.cell 6 4 true none)],
  (.seq (rf [i0 3 (.box (.s 0)),
 i0 4 (.box (.s 1)),
 i0 5 (.box (.s 2)),
 i0 6 (.new (.vals [(.bool false), (.int .u16 0), .nils, .nils]))])
 (.seq (rf [i0 8 (.lda 32 (some .u8) (.s 4)),
 i0 9 (.lda 32 (some .u8) (.s 5)),
 i1 10 (.build (.ints .u8 [0, 0, 0, 0, 0, 0, 0, 0, 0, 0, 0, 0, 0, 0, 0, 0, 0, 0, 0, 0, 0, 0, 0, 0, 0, 0, 0, 0, 0, 0, 0, 0, 0, 0, 0, 0, 0, 0, 0, 0, 0, 0, 0, 0, 0, 0, 0, 0, 0, 0, 0, 0, 0, 0, 0, 0, 0, 0, 0, 0, 0, 0, 0, 0, 0, 0, 0, 0, 0, 0, 0, 0, 0, 0, 0, 0, 0, 0, 0, 0, 0, 0, 0, 0, 0, 0, 0, 0, 0, 0, 0, 0, 0, 0, 0, 0, 0]) [(0, 1, (.c (.int .u8 2))), (1, 32, (.s 8)), (33, 32, (.s 9))]) [0, 1],
 i0 7 (.new (.ints .u8 [0, 0, 0, 0, 0, 0, 0, 0, 0, 0, 0, 0, 0, 0, 0, 0, 0, 0, 0, 0, 0, 0, 0, 0, 0, 0, 0, 0, 0, 0, 0, 0, 0, 0, 0, 0, 0, 0, 0, 0, 0, 0, 0, 0, 0, 0, 0, 0, 0, 0, 0, 0, 0, 0, 0, 0, 0, 0, 0, 0, 0, 0, 0, 0, 0, 0, 0, 0, 0, 0, 0, 0, 0, 0, 0, 0, 0, 0, 0, 0, 0, 0, 0, 0, 0, 0, 0, 0, 0, 0, 0, 0, 0, 0, 0, 0, 0])),
 ⟨none, (.stc 97 (.s 7) (.s 10)), none, [3, 2, 0, 1, 2, 3]⟩])
 (.seq (rf [i0 11 (.lda 97 (some .u8) (.s 7)),
 i0 12 (.lda 32 (some .u8) (.s 3)),
 i1 13 (.call (.c (.fn 309 [])) [(.s 11), (.s 12)]) [0, 1],
 i1 14 (.fad 65 (.s 7)) [0, 1, 2],
 ⟨none, (.stc 32 (.s 14) (.s 13)), none, [3, 2, 2, 0, 1, 2]⟩])
 (.seq (rf [i0 15 (.lda 97 (some .u8) (.s 7)),
 i1 16 (.call (.c (.fn 310 [])) [(.s 15)]) [0],
 ⟨none, (.stc 4 (.s 6) (.s 16)), none, [1, 1, 0, 1]⟩])
 .ret)))), false, (some [(Sh.ar .u8), (Sh.ar .u8), (Sh.ar .u8)]), (some (Sh.st (Sh.pr Sh.bool (Sh.pr (Sh.int .u16) (Sh.pr (Sh.sl (Sh.pr (Sh.int .u8) (Sh.sl (Sh.int .u8)))) (Sh.sl (Sh.int .u8))))))), false⟩

/-- euphroe/bind.Check -/
def k298 : Fun := ⟨4, 45, [0, 1, 2, 3, 4, 5, 6, 7, 8, 9, 10, 11, 20, 24, 28, 33], [(.tmp 8)],
  (.seq (rf [i0 4 (.box (.s 0)),
 i0 5 (.box (.s 1)),
 i0 6 (.box (.s 2)),
 i0 7 (.box (.s 3)),
 i0 8 (.mv (ci 0))])
 (.seq (rf [i0 13 (.lda 4 none (.s 4)),
 i1 14 (.call (.c (.fn 311 [])) [(.s 13)]) [0],
 i1 12 (mv 14) [1],
 i1 15 (.ext (.s 12) 0) [2],
 i1 16 (.ext (.s 12) 1) [2],
 i0 9 (.new (.ints .u8 [0, 0, 0, 0, 0, 0, 0, 0, 0, 0, 0, 0, 0, 0, 0, 0, 0, 0, 0, 0, 0, 0, 0, 0, 0, 0, 0, 0, 0, 0, 0, 0, 0, 0, 0, 0, 0, 0, 0, 0, 0, 0, 0, 0, 0, 0, 0, 0, 0, 0, 0, 0, 0, 0, 0, 0, 0, 0, 0, 0, 0, 0, 0, 0, 0, 0, 0, 0, 0, 0, 0, 0, 0, 0, 0, 0, 0, 0, 0, 0, 0, 0, 0, 0, 0, 0, 0, 0, 0, 0, 0, 0, 0, 0, 0, 0, 0])),
 ⟨none, (.stc 97 (.s 9) (.s 15)), none, [5, 3, 1, 0, 1, 2, 3, 5]⟩,
 i1 10 (mv 16) [4, 6, 0, 1, 2, 3, 4, 5, 6]])
 (.seq (rf [i0 17 (.lda 97 (some .u8) (.s 9)),
 i0 18 (.lda 32 (some .u8) (.s 5)),
 i1 19 (.call (.c (.fn 309 [])) [(.s 17), (.s 18)]) [0, 1],
 i0 11 (.new (.ints .u8 [0, 0, 0, 0, 0, 0, 0, 0, 0, 0, 0, 0, 0, 0, 0, 0, 0, 0, 0, 0, 0, 0, 0, 0, 0, 0, 0, 0, 0, 0, 0, 0])),
 ⟨none, (.stc 32 (.s 11) (.s 19)), none, [3, 2, 2, 0, 1, 2, 3]⟩])
 (.seq (.block 0
 (.seq (rf [i0 21 (mv 10),
 i1 22 (.bin .neq (.s 21) (ci 0)) [0],
 i1 20 (mv 22) [1]])
 (.cond (.s 20)
 (.seq (rf [i0 23 (mv 10),
 i1 8 (mv 23) [0, 0]])
 .ret)
 (.seq (rf [i0 25 (.fad 0 (.s 9)),
 i1 26 (.ldc (.s 25)) [0],
 i1 27 (.bin .neq (.s 26) (.c (.int .u8 2))) [1],
 i1 24 (mv 27) [2]])
 (.cond (.s 24)
 (.seq (rf [i0 8 (.mv (ci 1))])
 .ret)
 (.seq (rf [i0 29 (.fad 1 (.s 9)),
 i1 30 (.lda 32 (some .u8) (.s 29)) [0],
 i0 31 (.lda 32 (some .u8) (.s 6)),
 i1 32 (.eqa 32 true (.s 30) (.s 31)) [1, 2],
 i1 28 (mv 32) [3]])
 (.cond (.s 28)
 (.seq (rf [i0 8 (.mv (ci 10))])
 .ret)
 (.seq (rt [i0 34 (.fad 33 (.s 9)),
 i1 35 (.lda 32 (some .u8) (.s 34)) [0],
 i0 36 (.lda 32 (some .u8) (.s 7)),
 i1 37 (.eqa 32 true (.s 35) (.s 36)) [1, 2],
 i1 38 (mv 37) [3],
 ⟨(some 39), (.fad 65 (.s 9)), (some (38, false)), [4]⟩,
 ⟨(some 40), (.sla 32 1 (.s 39) none none none), (some (38, false)), [5, 4]⟩,
 ⟨(some 41), (.sla 32 1 (.s 11) none none none), (some (38, false)), [4]⟩,
 ⟨(some 42), (.call (.c (.fn 47 [])) [(.s 40), (.s 41)]), (some (38, false)), [6, 7, 4, 4]⟩,
 ⟨(some 43), (.un .not (.s 42)), (some (38, false)), [8, 4]⟩,
 i1 44 (.pick (.s 38) (.c (.bool true)) (.s 43)) [4, 9],
 i1 33 (mv 44) [10, 8]])
 (.cond (.s 33)
 (.seq (rf [i0 8 (.mv (ci 14))])
 .ret)
 .skip)))))))))
 (.seq (rf [i0 8 (.mv (ci 0))])
 .ret))))), false, (some [(Sh.st (Sh.pr Sh.bool (Sh.pr (Sh.int .u16) (Sh.pr (Sh.sl (Sh.pr (Sh.int .u8) (Sh.sl (Sh.int .u8)))) (Sh.sl (Sh.int .u8)))))), (Sh.ar .u8), (Sh.ar .u8), (Sh.ar .u8)]), (some (Sh.int .i64)), false⟩

/-- euphroe/euphroelaw34.alive -/
def k301 : Fun := ⟨0, 45, [0, 1, 2, 3], [(.tmp 0)],
  (.seq (rf [i0 0 (.mv (.c (.bool false)))])
 (.seq (rf [i0 4 (.build (.ints .u8 [0, 0, 0, 0, 0, 0, 0, 0, 0, 0, 0, 0, 0, 0, 0, 0, 0, 0, 0, 0, 0, 0, 0, 0, 0, 0, 0, 0, 0, 0, 0, 0]) [(0, 1, (.c (.int .u8 1)))]),
 i0 5 (.build (.ints .u8 [0, 0, 0, 0, 0, 0, 0, 0, 0, 0, 0, 0, 0, 0, 0, 0, 0, 0, 0, 0, 0, 0, 0, 0, 0, 0, 0, 0, 0, 0, 0, 0]) [(0, 1, (.c (.int .u8 2)))]),
 i0 6 (.build (.ints .u8 [0, 0, 0, 0, 0, 0, 0, 0, 0, 0, 0, 0, 0, 0, 0, 0, 0, 0, 0, 0, 0, 0, 0, 0, 0, 0, 0, 0, 0, 0, 0, 0]) [(0, 1, (.c (.int .u8 3)))]),
 i1 7 (.call (.c (.fn 297 [])) [(.s 4), (.s 5), (.s 6)]) [0, 1, 2],
 i0 1 (.new (.vals [(.bool false), (.int .u16 0), .nils, .nils])),
 ⟨none, (.stc 4 (.s 1) (.s 7)), none, [4, 3, 3, 0, 1, 2, 3, 4]⟩])
 (.seq (rf [i0 9 (.build (.ints .u8 [0, 0, 0, 0, 0, 0, 0, 0, 0, 0, 0, 0, 0, 0, 0, 0, 0, 0, 0, 0, 0, 0, 0, 0, 0, 0, 0, 0, 0, 0, 0, 0]) [(0, 1, (.c (.int .u8 4)))]),
 i1 10 (.call (.c (.fn 305 [])) [(.s 9)]) [0],
 i1 11 (.call (.c (.fn 312 [])) [(.s 10)]) [1, 1],
 i1 8 (mv 11) [2],
 i1 12 (.ext (.s 8) 0) [3],
 i1 13 (.ext (.s 8) 1) [3],
 i0 2 (.new (.ints .u8 [0, 0, 0, 0, 0, 0, 0, 0, 0, 0, 0, 0, 0, 0, 0, 0, 0, 0, 0, 0, 0, 0, 0, 0, 0, 0, 0, 0, 0, 0, 0, 0])),
 ⟨none, (.stc 32 (.s 2) (.s 12)), none, [6, 4, 2, 0, 1, 2, 3, 4, 6]⟩,
 i1 3 (mv 13) [5, 7, 0, 1, 2, 3, 4, 5, 6, 7]])
 (.seq (rf [i0 14 (.lda 4 none (.s 1)),
 i0 15 (.build (.ints .u8 [0, 0, 0, 0, 0, 0, 0, 0, 0, 0, 0, 0, 0, 0, 0, 0, 0, 0, 0, 0, 0, 0, 0, 0, 0, 0, 0, 0, 0, 0, 0, 0]) [(0, 1, (.c (.int .u8 1)))]),
 i0 16 (.build (.ints .u8 [0, 0, 0, 0, 0, 0, 0, 0, 0, 0, 0, 0, 0, 0, 0, 0, 0, 0, 0, 0, 0, 0, 0, 0, 0, 0, 0, 0, 0, 0, 0, 0]) [(0, 1, (.c (.int .u8 2)))]),
 i0 17 (.build (.ints .u8 [0, 0, 0, 0, 0, 0, 0, 0, 0, 0, 0, 0, 0, 0, 0, 0, 0, 0, 0, 0, 0, 0, 0, 0, 0, 0, 0, 0, 0, 0, 0, 0]) [(0, 1, (.c (.int .u8 3)))]),
 i1 18 (.call (.c (.fn 298 [])) [(.s 14), (.s 15), (.s 16), (.s 17)]) [0, 1, 2, 3],
 i1 19 (.bin .eql (.s 18) (ci 0)) [4],
 i1 20 (mv 19) [5, 4],
 ⟨(some 21), (.lda 4 none (.s 1)), (some (20, true)), [6]⟩,
 ⟨(some 22), (.build (.ints .u8 [0, 0, 0, 0, 0, 0, 0, 0, 0, 0, 0, 0, 0, 0, 0, 0, 0, 0, 0, 0, 0, 0, 0, 0, 0, 0, 0, 0, 0, 0, 0, 0]) [(0, 1, (.c (.int .u8 1)))]), (some (20, true)), [6]⟩,
 ⟨(some 23), (.build (.ints .u8 [0, 0, 0, 0, 0, 0, 0, 0, 0, 0, 0, 0, 0, 0, 0, 0, 0, 0, 0, 0, 0, 0, 0, 0, 0, 0, 0, 0, 0, 0, 0, 0]) [(0, 1, (.c (.int .u8 5)))]), (some (20, true)), [6]⟩,
 ⟨(some 24), (.build (.ints .u8 [0, 0, 0, 0, 0, 0, 0, 0, 0, 0, 0, 0, 0, 0, 0, 0, 0, 0, 0, 0, 0, 0, 0, 0, 0, 0, 0, 0, 0, 0, 0, 0]) [(0, 1, (.c (.int .u8 3)))]), (some (20, true)), [6]⟩,
 ⟨(some 25), (.call (.c (.fn 298 [])) [(.s 21), (.s 22), (.s 23), (.s 24)]), (some (20, true)), [7, 8, 9, 10, 6, 6]⟩,
 ⟨(some 26), (.bin .eql (.s 25) (ci 10)), (some (20, true)), [11, 6]⟩,
 i1 27 (.pick (.s 20) (.s 26) (.c (.bool false))) [6, 12],
 i1 28 (mv 27) [13, 11],
 ⟨(some 29), (.lda 32 (some .u8) (.s 2)), (some (28, true)), [14]⟩,
 ⟨(some 30), (.build (.ints .u8 [0, 0, 0, 0, 0, 0, 0, 0, 0, 0, 0, 0, 0, 0, 0, 0, 0, 0, 0, 0, 0, 0, 0, 0, 0, 0, 0, 0, 0, 0, 0, 0]) [(0, 1, (.c (.int .u8 4)))]), (some (28, true)), [14]⟩,
 ⟨(some 31), (.eqa 32 false (.s 29) (.s 30)), (some (28, true)), [15, 16, 14]⟩,
 i1 32 (.pick (.s 28) (.s 31) (.c (.bool false))) [14, 17],
 i1 33 (mv 32) [18, 14],
 ⟨(some 34), (mv 3), (some (33, true)), [19]⟩,
 ⟨(some 35), (.bin .eql (.s 34) (ci 0)), (some (33, true)), [20, 19]⟩,
 i1 36 (.pick (.s 33) (.s 35) (.c (.bool false))) [19, 21],
 i1 37 (mv 36) [22, 19],
 i1 38 (.pick (.s 37) (.c (.bool true)) (.c (.bool false))) [23],
 i1 39 (mv 38) [24, 23],
 ⟨(some 40), (.fad 2 (.s 1)), (some (39, true)), [25]⟩,
 ⟨(some 41), (.ldc (.s 40)), (some (39, true)), [26, 25]⟩,
 ⟨(some 42), (.len false (.s 41)), (some (39, true)), [27, 25]⟩,
 ⟨(some 43), (.bin .eql (.s 42) (ci 1)), (some (39, true)), [28, 25]⟩,
 i1 44 (.pick (.s 39) (.s 43) (.c (.bool false))) [25, 29],
 i1 0 (mv 44) [30, 25, 0, 1, 2, 3, 4, 5, 6, 7, 8, 9, 10, 11, 12, 13, 14, 15, 16, 17, 18, 19, 20, 21, 22, 23, 24, 25, 26, 27, 28, 29, 30]])
 .ret)))), false, (some []), (some Sh.bool), false⟩

/-- euphroe/packet.Same -/
def k302 : Fun := ⟨2, 31, [0, 1, 2, 3, 4], [(.tmp 4)],
  (.seq (rf [i0 2 (.box (.s 0)),
 i0 3 (.box (.s 1)),
 i0 4 (.mv (.c (.bool false)))])
 (.seq (rf [i0 5 (.fad 0 (.s 2)),
 i1 6 (.ldc (.s 5)) [0],
 i0 7 (.fad 0 (.s 3)),
 i1 8 (.ldc (.s 7)) [2],
 i1 9 (.eqn .b false (.s 6) (.s 8)) [1, 3],
 i1 10 (mv 9) [4],
 ⟨(some 11), (.fad 1 (.s 2)), (some (10, true)), [5]⟩,
 ⟨(some 12), (.ldc (.s 11)), (some (10, true)), [6, 5]⟩,
 ⟨(some 13), (.fad 1 (.s 3)), (some (10, true)), [5]⟩,
 ⟨(some 14), (.ldc (.s 13)), (some (10, true)), [8, 5]⟩,
 ⟨(some 15), (.bin .eql (.s 12) (.s 14)), (some (10, true)), [7, 9, 5]⟩,
 i1 16 (.pick (.s 10) (.s 15) (.c (.bool false))) [5, 10],
 i1 17 (mv 16) [11, 5],
 ⟨(some 18), (.fad 2 (.s 2)), (some (17, true)), [12]⟩,
 ⟨(some 19), (.ldc (.s 18)), (some (17, true)), [13, 12]⟩,
 ⟨(some 20), (.fad 2 (.s 3)), (some (17, true)), [12]⟩,
 ⟨(some 21), (.ldc (.s 20)), (some (17, true)), [15, 12]⟩,
 ⟨(some 22), (.call (.c (.fn 313 [])) [(.s 19), (.s 21), (.c (.fn 144 []))]), (some (17, true)), [14, 16, 12, 12]⟩,
 i1 23 (.pick (.s 17) (.s 22) (.c (.bool false))) [12, 17],
 i1 24 (mv 23) [18, 17],
 ⟨(some 25), (.fad 3 (.s 2)), (some (24, true)), [19]⟩,
 ⟨(some 26), (.ldc (.s 25)), (some (24, true)), [20, 19]⟩,
 ⟨(some 27), (.fad 3 (.s 3)), (some (24, true)), [19]⟩,
 ⟨(some 28), (.ldc (.s 27)), (some (24, true)), [22, 19]⟩,
 ⟨(some 29), (.call (.c (.fn 160 [])) [(.s 26), (.s 28)]), (some (24, true)), [21, 23, 19, 19]⟩,
 i1 30 (.pick (.s 24) (.s 29) (.c (.bool false))) [19, 24],
 i1 4 (mv 30) [25, 24, 0, 1, 2, 3, 4, 5, 6, 7, 8, 9, 10, 11, 12, 13, 14, 15, 16, 17, 18, 19, 20, 21, 22, 23, 24, 25]])
 .ret)), false, (some [(Sh.st (Sh.pr Sh.bool (Sh.pr (Sh.int .u16) (Sh.pr (Sh.sl (Sh.pr (Sh.int .u8) (Sh.sl (Sh.int .u8)))) (Sh.sl (Sh.int .u8)))))), (Sh.st (Sh.pr Sh.bool (Sh.pr (Sh.int .u16) (Sh.pr (Sh.sl (Sh.pr (Sh.int .u8) (Sh.sl (Sh.int .u8)))) (Sh.sl (Sh.int .u8))))))]), (some Sh.bool), false⟩

/-- euphroe/euphroelaw34.theirs -/
def k303 : Fun := ⟨1, 32, [0, 1, 2, 3, 5, 14, 15, 16, 17], [(.cell 2 4 true none)],
  (.seq (rf [i0 1 (.box (.s 0)),
 i0 2 (.new (.vals [(.bool false), (.int .u16 0), .nils, .nils]))])
 (.seq (rf [i0 6 (.fad 0 (.s 1)),
 i1 7 (.ldc (.s 6)) [0],
 i0 8 (.fad 1 (.s 1)),
 i1 9 (.ldc (.s 8)) [2],
 i0 10 (.fad 3 (.s 1)),
 i1 11 (.ldc (.s 10)) [4],
 i1 12 (.build (.vals [(.bool false), (.int .u16 0), .nils, .nils]) [(0, 1, (.s 7)), (1, 1, (.s 9)), (3, 1, (.s 11))]) [1, 3, 5],
 i0 3 (.new (.vals [(.bool false), (.int .u16 0), .nils, .nils])),
 ⟨none, (.stc 4 (.s 3) (.s 12)), none, [7, 6, 0, 1, 2, 3, 4, 5, 6, 7]⟩])
 (.seq (.seq (rf [i0 13 (.fad 2 (.s 1)),
 i1 14 (.ldc (.s 13)) [0],
 i1 15 (.len false (.s 14)) [1],
 i0 16 (.mv (ci 0))])
 (.block 0
 (.loop ⟨0, [], false, [2, 3, 14, 15, 16], [(3, (.imm []), 2002)]⟩
 (.seq (rf [i0 17 (.bin .lss (.s 16) (.s 15))])
 (.seq (.cond (.s 17)
 .skip
 (.pre ⟨0, [], false, [2, 3], []⟩ (.exit 0)))
 (.seq (.block 1
 (.seq (rf [i0 18 (.iad 2 (.s 14) (.s 16)),
 i1 19 (.lda 2 none (.s 18)) [0],
 i0 5 (.new (.vals [(.int .u8 0), .nils])),
 ⟨none, (.stc 2 (.s 5) (.s 19)), none, [2, 1, 0, 1, 2]⟩])
 (rf [i0 20 (.fad 2 (.s 3)),
 i1 21 (.ldc (.s 20)) [0],
 i0 22 (.fad 0 (.s 5)),
 i1 23 (.ldc (.s 22)) [2],
 i0 24 (.fad 1 (.s 5)),
 i1 25 (.ldc (.s 24)) [4],
 i1 26 (.build (.vals [(.int .u8 0), .nils]) [(0, 1, (.s 23)), (1, 1, (.s 25))]) [3, 5],
 i1 27 (.bsl 1 2 (.vals [(.int .u8 0), .nils]) [(0, 2, (.s 26))]) [6],
 i1 28 (.app 2 32 (.s 21) (.s 27)) [1, 7],
 i1 29 (.fad 2 (.s 3)) [0, 1, 2, 3, 4, 5, 6, 7, 8],
 ⟨none, (.stc 1 (.s 29) (.s 28)), none, [9, 8, 8, 0, 1, 2, 3, 4, 5, 6, 7, 8]⟩])))
 (rf [i0 30 (.bin .add (.s 16) (ci 1)),
 i1 16 (mv 30) [0]])))))))
 (.seq (rf [i0 31 (.lda 4 none (.s 3)),
 ⟨none, (.stc 4 (.s 2) (.s 31)), none, [0, 0]⟩])
 .ret)))), false, (some [(Sh.st (Sh.pr Sh.bool (Sh.pr (Sh.int .u16) (Sh.pr (Sh.sl (Sh.pr (Sh.int .u8) (Sh.sl (Sh.int .u8)))) (Sh.sl (Sh.int .u8))))))]), (some (Sh.st (Sh.pr Sh.bool (Sh.pr (Sh.int .u16) (Sh.pr (Sh.sl (Sh.pr (Sh.int .u8) (Sh.sl (Sh.int .u8)))) (Sh.sl (Sh.int .u8))))))), false⟩

/-- euphroe/euphroeref34.Connected -/
def k304 : Fun := ⟨3, 16, [0, 1, 2, 3, 4, 5, 6], [(.cell 6 4 true none)],
  (.seq (rf [i0 3 (.box (.s 0)),
 i0 4 (.box (.s 1)),
 i0 5 (.box (.s 2)),
 i0 6 (.new (.vals [(.bool false), (.int .u16 0), .nils, .nils]))])
 (.seq (rt [i0 7 (.lda 32 (some .u8) (.s 4)),
 i0 8 (.lda 32 (some .u8) (.s 5)),
 i0 9 (.lda 32 (some .u8) (.s 4)),
 i0 10 (.lda 32 (some .u8) (.s 5)),
 i0 11 (.build (.ints .u8 [0, 0, 0, 0, 0, 0, 0, 0, 0, 0, 0, 0, 0, 0, 0, 0, 0, 0, 0, 0, 0, 0, 0, 0, 0, 0, 0, 0, 0, 0, 0, 0]) []),
 i1 12 (.call (.c (.fn 314 [])) [(.c (.int .u8 2)), (.s 9), (.s 10), (.s 11)]) [2, 3, 4],
 i0 13 (.lda 32 (some .u8) (.s 3)),
 i1 14 (.call (.c (.fn 315 [])) [(.s 12), (.s 13)]) [5, 6, 5],
 i1 15 (.call (.c (.fn 314 [])) [(.c (.int .u8 2)), (.s 7), (.s 8), (.s 14)]) [0, 1, 7, 7],
 ⟨none, (.stc 4 (.s 6) (.s 15)), none, [8, 8, 0, 1, 2, 3, 4, 5, 6, 7, 8]⟩])
 .ret)), false, (some [(Sh.ar .u8), (Sh.ar .u8), (Sh.ar .u8)]), (some (Sh.st (Sh.pr Sh.bool (Sh.pr (Sh.int .u16) (Sh.pr (Sh.sl (Sh.pr (Sh.int .u8) (Sh.sl (Sh.int .u8)))) (Sh.sl (Sh.int .u8))))))), false⟩

/-- euphroe/bind.Ask -/
def k305 : Fun := ⟨1, 8, [0, 1, 2], [(.cell 2 4 true none)],
  (.seq (rf [i0 1 (.box (.s 0)),
 i0 2 (.new (.vals [(.bool false), (.int .u16 0), .nils, .nils]))])
 (.seq (rf [i0 3 (.lda 32 (some .u8) (.s 1)),
 i1 4 (.build (.ints .u8 [0, 0, 0, 0, 0, 0, 0, 0, 0, 0, 0, 0, 0, 0, 0, 0, 0, 0, 0, 0, 0, 0, 0, 0, 0, 0, 0, 0, 0, 0, 0, 0, 0]) [(0, 1, (.c (.int .u8 2))), (1, 32, (.s 3))]) [0],
 i1 5 (.call (.c (.fn 149 [])) [(.s 4)]) [1],
 i1 6 (.bsl 1 2 (.vals [(.int .u8 0), .nils]) [(0, 2, (.s 5))]) [2],
 i1 7 (.call (.c (.fn 316 [])) [(.c (.int .u16 2)), (.s 6)]) [3, 2],
 ⟨none, (.stc 4 (.s 2) (.s 7)), none, [4, 4, 0, 1, 2, 3, 4]⟩])
 .ret)), false, (some [(Sh.ar .u8)]), (some (Sh.st (Sh.pr Sh.bool (Sh.pr (Sh.int .u16) (Sh.pr (Sh.sl (Sh.pr (Sh.int .u8) (Sh.sl (Sh.int .u8)))) (Sh.sl (Sh.int .u8))))))), false⟩

/-- euphroe/euphroeref34.Ask -/
def k306 : Fun := ⟨1, 7, [0, 1, 2], [(.cell 2 4 true none)],
  (.seq (rf [i0 1 (.box (.s 0)),
 i0 2 (.new (.vals [(.bool false), (.int .u16 0), .nils, .nils]))])
 (.seq (rf [i0 3 (.lda 32 (some .u8) (.s 1)),
 i1 4 (.call (.c (.fn 152 [])) [(.c (.int .u8 2)), (.s 3)]) [0],
 i1 5 (.bsl 1 2 (.vals [(.int .u8 0), .nils]) [(0, 2, (.s 4))]) [1],
 i1 6 (.build (.vals [(.bool false), (.int .u16 0), .nils, .nils]) [(0, 1, (.c (.bool true))), (1, 1, (.c (.int .u16 2))), (2, 1, (.s 5))]) [2],
 ⟨none, (.stc 4 (.s 2) (.s 6)), none, [3, 1, 0, 1, 2, 3]⟩])
 .ret)), false, (some [(Sh.ar .u8)]), (some (Sh.st (Sh.pr Sh.bool (Sh.pr (Sh.int .u16) (Sh.pr (Sh.sl (Sh.pr (Sh.int .u8) (Sh.sl (Sh.int .u8)))) (Sh.sl (Sh.int .u8))))))), false⟩

/-- euphroe/prf.may -/
def k307 : Fun := ⟨1, 9, [0, 2, 3, 6], [(.tmp 2)],
  (.seq (rf [i0 2 (.mv (ci 0))])
 (.seq (.block 0
 (.seq (rf [i0 4 (mv 0),
 i1 5 (.bin .lss (.s 4) (ci 1)) [0],
 i1 3 (mv 5) [1]])
 (.cond (.s 3)
 (.seq (rf [i0 2 (.mv (ci 1))])
 .ret)
 (.seq (rf [i0 7 (mv 0),
 i1 8 (.bin .gtr (.s 7) (ci 8160)) [0],
 i1 6 (mv 8) [1]])
 (.cond (.s 6)
 (.seq (rf [i0 2 (.mv (ci 8))])
 .ret)
 .skip)))))
 (.seq (rf [i0 2 (.mv (ci 0))])
 .ret))), false, (some [(Sh.int .i64)]), (some (Sh.int .i64)), false⟩

/-- euphroe/prf.Derive$1 -/
def k308 : Fun := ⟨6, 21, [0, 1, 2, 3, 4, 5, 7], [],
  (.seq (rf [i0 8 (.ldc (.s 1)),
 i0 9 (.ldc (.s 2)),
 i0 10 (.ldc (.s 3)),
 i0 11 (.ldc (.s 4)),
 i0 12 (mv 0),
 i1 13 (.cvi .u8 (.s 12)) [4],
 i1 14 (.bsl 1 1 (.ints .u8 [0]) [(0, 1, (.s 13))]) [5],
 i1 15 (.bsl 4 1 (.vals [.nils, .nils, .nils, .nils]) [(0, 1, (.s 9)), (1, 1, (.s 10)), (2, 1, (.s 11)), (3, 1, (.s 14))]) [1, 2, 3, 6],
 i1 16 (.call (.c (.fn 223 [])) [(.s 8), (.s 15)]) [0, 7],
 i0 7 (.new (.ints .u8 [0, 0, 0, 0, 0, 0, 0, 0, 0, 0, 0, 0, 0, 0, 0, 0, 0, 0, 0, 0, 0, 0, 0, 0, 0, 0, 0, 0, 0, 0, 0, 0])),
 ⟨none, (.stc 32 (.s 7) (.s 16)), none, [9, 8, 8, 0, 1, 2, 3, 4, 5, 6, 7, 8, 9]⟩])
 (.seq (rf [i0 17 (.sla 32 1 (.s 7) none none none),
 ⟨none, (.stc 1 (.s 2) (.s 17)), none, [0, 0]⟩])
 (rf [i0 18 (.ldc (.s 5)),
 i0 19 (.ldc (.s 2)),
 i1 20 (.app 1 1 (.s 18) (.s 19)) [0, 1],
 ⟨none, (.stc 1 (.s 5) (.s 20)), none, [2, 2, 0, 1, 2]⟩]))), false, none, none, false⟩

/-- euphroe/bind.sealed -/
def k309 : Fun := ⟨2, 19, [0, 1, 2, 3, 4, 5], [(.cell 4 32 true (some .u8))],
  (.seq (rf [i0 2 (.box (.s 0)),
 i0 3 (.box (.s 1)),
 i0 4 (.new (.ints .u8 [0, 0, 0, 0, 0, 0, 0, 0, 0, 0, 0, 0, 0, 0, 0, 0, 0, 0, 0, 0, 0, 0, 0, 0, 0, 0, 0, 0, 0, 0, 0, 0]))])
 (.seq (rf [i0 7 (.build (.ints .u8 [0, 0, 0, 0, 0, 0, 0, 0, 0, 0, 0, 0, 0, 0, 0, 0, 0, 0, 0, 0, 0, 0, 0, 0, 0, 0, 0, 0, 0, 0, 0, 0]) []),
 i1 8 (.fad 65 (.s 2)) [0],
 ⟨none, (.stc 32 (.s 8) (.s 7)), none, [1, 0, 0]⟩])
 (.seq (rf [i0 10 (.lda 97 (some .u8) (.s 2)),
 i1 11 (.call (.c (.fn 310 [])) [(.s 10)]) [0],
 i1 12 (.call (.c (.fn 317 [])) [(.s 11)]) [1, 1],
 i1 9 (mv 12) [2],
 i1 13 (.ext (.s 9) 0) [3],
 i1 14 (.ext (.s 9) 1) [3],
 i1 5 (mv 13) [4, 2, 0, 1, 2, 3, 4],
 i1 6 (mv 14) [5, 6, 0, 1, 2, 3, 4, 5, 6]])
 (.seq (rf [i0 15 (.lda 32 (some .u8) (.s 3)),
 i1 16 (.call (.c (.fn 293 [])) [(.s 15)]) [0],
 i0 17 (mv 5),
 i1 18 (.call (.c (.fn 295 [])) [(.s 16), (.s 17)]) [1, 2, 1],
 ⟨none, (.stc 32 (.s 4) (.s 18)), none, [3, 3, 0, 1, 2, 3]⟩])
 .ret)))), false, (some [(Sh.ar .u8), (Sh.ar .u8)]), (some (Sh.ar .u8)), false⟩

/-- euphroe/bind.of -/
def k310 : Fun := ⟨1, 7, [0, 1, 2], [(.cell 2 4 true none)],
  (.seq (rf [i0 1 (.box (.s 0)),
 i0 2 (.new (.vals [(.bool false), (.int .u16 0), .nils, .nils]))])
 (.seq (rf [i0 3 (.lda 97 (some .u8) (.s 1)),
 i1 4 (.call (.c (.fn 148 [])) [(.s 3)]) [0],
 i1 5 (.bsl 1 2 (.vals [(.int .u8 0), .nils]) [(0, 2, (.s 4))]) [1],
 i1 6 (.call (.c (.fn 316 [])) [(.c (.int .u16 4)), (.s 5)]) [2, 1],
 ⟨none, (.stc 4 (.s 2) (.s 6)), none, [3, 3, 0, 1, 2, 3]⟩])
 .ret)), false, (some [(Sh.ar .u8)]), (some (Sh.st (Sh.pr Sh.bool (Sh.pr (Sh.int .u16) (Sh.pr (Sh.sl (Sh.pr (Sh.int .u8) (Sh.sl (Sh.int .u8)))) (Sh.sl (Sh.int .u8))))))), false⟩

/-- euphroe/bind.binding -/
def k311 : Fun := ⟨1, 19, [0, 1, 2, 3, 4, 5, 12], [(.cell 2 97 true (some .u8)), (.tmp 3)],
  (.seq (rf [i0 1 (.box (.s 0)),
 i0 2 (.new (.ints .u8 [0, 0, 0, 0, 0, 0, 0, 0, 0, 0, 0, 0, 0, 0, 0, 0, 0, 0, 0, 0, 0, 0, 0, 0, 0, 0, 0, 0, 0, 0, 0, 0, 0, 0, 0, 0, 0, 0, 0, 0, 0, 0, 0, 0, 0, 0, 0, 0, 0, 0, 0, 0, 0, 0, 0, 0, 0, 0, 0, 0, 0, 0, 0, 0, 0, 0, 0, 0, 0, 0, 0, 0, 0, 0, 0, 0, 0, 0, 0, 0, 0, 0, 0, 0, 0, 0, 0, 0, 0, 0, 0, 0, 0, 0, 0, 0, 0])),
 i0 3 (.mv (ci 0))])
 (.seq (rf [i0 7 (.lda 4 none (.s 1)),
 i1 8 (.call (.c (.fn 318 [])) [(.s 7), (.c (.int .u16 4))]) [0],
 i1 6 (mv 8) [1],
 i1 9 (.ext (.s 6) 0) [2],
 i1 10 (.ext (.s 6) 1) [2],
 i0 4 (.new (.vals [(.int .u8 0), .nils])),
 ⟨none, (.stc 2 (.s 4) (.s 9)), none, [5, 3, 1, 0, 1, 2, 3, 5]⟩,
 i1 5 (mv 10) [4, 6, 0, 1, 2, 3, 4, 5, 6]])
 (.seq (.seq (rf [i0 11 (mv 5),
 i1 12 (.bin .neq (.s 11) (ci 0)) [0]])
 (.cond (.s 12)
 (.seq (rf [i0 13 (.build (.ints .u8 [0, 0, 0, 0, 0, 0, 0, 0, 0, 0, 0, 0, 0, 0, 0, 0, 0, 0, 0, 0, 0, 0, 0, 0, 0, 0, 0, 0, 0, 0, 0, 0, 0, 0, 0, 0, 0, 0, 0, 0, 0, 0, 0, 0, 0, 0, 0, 0, 0, 0, 0, 0, 0, 0, 0, 0, 0, 0, 0, 0, 0, 0, 0, 0, 0, 0, 0, 0, 0, 0, 0, 0, 0, 0, 0, 0, 0, 0, 0, 0, 0, 0, 0, 0, 0, 0, 0, 0, 0, 0, 0, 0, 0, 0, 0, 0, 0]) []),
 i0 14 (mv 5),
 ⟨none, (.stc 97 (.s 2) (.s 13)), none, [0, 0]⟩,
 i1 3 (mv 14) [1, 2, 0, 1, 2]])
 .ret)
 .skip))
 (.seq (rf [i0 15 (.lda 2 none (.s 4)),
 i1 16 (.call (.c (.fn 154 [])) [(.s 15)]) [0],
 i1 17 (.ext (.s 16) 0) [1],
 i1 18 (.ext (.s 16) 1) [1],
 ⟨none, (.stc 97 (.s 2) (.s 17)), none, [2, 1, 0, 1, 2, 3]⟩,
 i1 3 (mv 18) [3, 4, 0, 1, 2, 3, 4]])
 .ret)))), false, (some [(Sh.st (Sh.pr Sh.bool (Sh.pr (Sh.int .u16) (Sh.pr (Sh.sl (Sh.pr (Sh.int .u8) (Sh.sl (Sh.int .u8)))) (Sh.sl (Sh.int .u8))))))]), (some (Sh.tu (Sh.pr (Sh.ar .u8) (Sh.int .i64)))), false⟩

/-- euphroe/bind.Asked -/
def k312 : Fun := ⟨1, 34, [0, 1, 2, 3, 4, 5, 6, 13, 21, 26], [(.cell 2 32 true (some .u8)), (.tmp 3)],
  (.seq (rf [i0 1 (.box (.s 0)),
 i0 2 (.new (.ints .u8 [0, 0, 0, 0, 0, 0, 0, 0, 0, 0, 0, 0, 0, 0, 0, 0, 0, 0, 0, 0, 0, 0, 0, 0, 0, 0, 0, 0, 0, 0, 0, 0])),
 i0 3 (.mv (ci 0))])
 (.seq (rf [i0 8 (.lda 4 none (.s 1)),
 i1 9 (.call (.c (.fn 318 [])) [(.s 8), (.c (.int .u16 2))]) [0],
 i1 7 (mv 9) [1],
 i1 10 (.ext (.s 7) 0) [2],
 i1 11 (.ext (.s 7) 1) [2],
 i0 4 (.new (.vals [(.int .u8 0), .nils])),
 ⟨none, (.stc 2 (.s 4) (.s 10)), none, [5, 3, 1, 0, 1, 2, 3, 5]⟩,
 i1 5 (mv 11) [4, 6, 0, 1, 2, 3, 4, 5, 6]])
 (.seq (.seq (rf [i0 12 (mv 5),
 i1 13 (.bin .neq (.s 12) (ci 0)) [0]])
 (.cond (.s 13)
 (.seq (rf [i0 14 (.build (.ints .u8 [0, 0, 0, 0, 0, 0, 0, 0, 0, 0, 0, 0, 0, 0, 0, 0, 0, 0, 0, 0, 0, 0, 0, 0, 0, 0, 0, 0, 0, 0, 0, 0]) []),
 i0 15 (mv 5),
 ⟨none, (.stc 32 (.s 2) (.s 14)), none, [0, 0]⟩,
 i1 3 (mv 15) [1, 2, 0, 1, 2]])
 .ret)
 .skip))
 (.seq (rf [i0 17 (.lda 2 none (.s 4)),
 i1 18 (.call (.c (.fn 155 [])) [(.s 17)]) [0],
 i1 16 (mv 18) [1],
 i1 19 (.ext (.s 16) 0) [2],
 i1 20 (.ext (.s 16) 1) [2],
 i0 6 (.new (.ints .u8 [0, 0, 0, 0, 0, 0, 0, 0, 0, 0, 0, 0, 0, 0, 0, 0, 0, 0, 0, 0, 0, 0, 0, 0, 0, 0, 0, 0, 0, 0, 0, 0, 0])),
 ⟨none, (.stc 33 (.s 6) (.s 19)), none, [5, 3, 1, 0, 1, 2, 3, 5]⟩,
 i1 5 (mv 20) [4, 6, 0, 1, 2, 3, 4, 5, 6]])
 (.seq (.block 0
 (.seq (rf [i0 22 (mv 5),
 i1 23 (.bin .neq (.s 22) (ci 0)) [0],
 i1 21 (mv 23) [1]])
 (.cond (.s 21)
 (.seq (rf [i0 24 (.build (.ints .u8 [0, 0, 0, 0, 0, 0, 0, 0, 0, 0, 0, 0, 0, 0, 0, 0, 0, 0, 0, 0, 0, 0, 0, 0, 0, 0, 0, 0, 0, 0, 0, 0]) []),
 i0 25 (mv 5),
 ⟨none, (.stc 32 (.s 2) (.s 24)), none, [0, 0]⟩,
 i1 3 (mv 25) [1, 2, 0, 1, 2]])
 .ret)
 (.seq (rf [i0 27 (.fad 0 (.s 6)),
 i1 28 (.ldc (.s 27)) [0],
 i1 29 (.bin .and (.s 28) (.c (.int .u8 2))) [1],
 i1 30 (.bin .eql (.s 29) (.c (.int .u8 0))) [2],
 i1 26 (mv 30) [3]])
 (.cond (.s 26)
 (.seq (rf [i0 31 (.build (.ints .u8 [0, 0, 0, 0, 0, 0, 0, 0, 0, 0, 0, 0, 0, 0, 0, 0, 0, 0, 0, 0, 0, 0, 0, 0, 0, 0, 0, 0, 0, 0, 0, 0]) []),
 ⟨none, (.stc 32 (.s 2) (.s 31)), none, [0, 0]⟩,
 i1 3 (.mv (ci 1)) [1, 0, 1]])
 .ret)
 .skip)))))
 (.seq (rf [i0 32 (.fad 1 (.s 6)),
 i1 33 (.lda 32 (some .u8) (.s 32)) [0],
 ⟨none, (.stc 32 (.s 2) (.s 33)), none, [1, 0, 1]⟩,
 i1 3 (.mv (ci 0)) [2, 0, 1, 2]])
 .ret)))))), false, (some [(Sh.st (Sh.pr Sh.bool (Sh.pr (Sh.int .u16) (Sh.pr (Sh.sl (Sh.pr (Sh.int .u8) (Sh.sl (Sh.int .u8)))) (Sh.sl (Sh.int .u8))))))]), (some (Sh.tu (Sh.pr (Sh.ar .u8) (Sh.int .i64)))), false⟩

/-- slices.EqualFunc[[]euphroe/api.Attr,[]euphroe/api.Attr,euphroe/api.Attr,euphroe/api.Attr] -/
def k313 : Fun := ⟨3, 32, [0, 1, 2, 6, 7, 8, 9, 14, 15, 16, 17, 18, 30], [(.tmp 6)],
  (.seq (rf [i0 6 (.mv (.c (.bool false)))])
 (.seq (.seq (rf [i0 10 (mv 0),
 i1 11 (.len false (.s 10)) [0],
 i0 12 (mv 1),
 i1 13 (.len false (.s 12)) [2],
 i1 14 (.bin .neq (.s 11) (.s 13)) [1, 3]])
 (.cond (.s 14)
 (.seq (rf [i0 6 (.mv (.c (.bool false)))])
 .ret)
 .skip))
 (.seq (.seq (rf [i0 15 (mv 0),
 i1 16 (.len false (.s 15)) [0],
 i0 17 (.mv (ci 0))])
 (.block 0
 (.loop ⟨0, [], false, [1, 2, 15, 16, 17], []⟩
 (.seq (rf [i0 18 (.bin .lss (.s 17) (.s 16))])
 (.seq (.cond (.s 18)
 .skip
 (.pre ⟨0, [], false, [], []⟩ (.exit 0)))
 (.seq (.block 1
 (.seq (rf [i0 19 (mv 17),
 i0 20 (.iad 2 (.s 15) (.s 17)),
 i1 21 (.lda 2 none (.s 20)) [1],
 i0 8 (.new (.vals [(.int .u8 0), .nils])),
 i1 7 (mv 19) [0, 0, 1, 2, 3],
 ⟨none, (.stc 2 (.s 8) (.s 21)), none, [3, 2, 4, 0, 1, 2, 3, 4]⟩])
 (.seq (rf [i0 22 (mv 1),
 i0 23 (mv 7),
 i1 24 (.iad 2 (.s 22) (.s 23)) [0, 1],
 i1 25 (.lda 2 none (.s 24)) [2],
 i0 9 (.new (.vals [(.int .u8 0), .nils])),
 ⟨none, (.stc 2 (.s 9) (.s 25)), none, [4, 3, 0, 1, 2, 3, 4]⟩])
 (.seq (rf [i0 26 (mv 2),
 i0 27 (.lda 2 none (.s 8)),
 i0 28 (.lda 2 none (.s 9)),
 i1 29 (.call (.s 26) [(.s 27), (.s 28)]) [0, 1, 2],
 i1 30 (.un .not (.s 29)) [3]])
 (.cond (.s 30)
 (.seq (rf [i0 6 (.mv (.c (.bool false)))])
 .ret)
 .skip)))))
 (rf [i0 31 (.bin .add (.s 17) (ci 1)),
 i1 17 (mv 31) [0]])))))))
 (.seq (rf [i0 6 (.mv (.c (.bool true)))])
 .ret)))), false, none, none, false⟩

/-- euphroe/euphroeref34.packet -/
def k314 : Fun := ⟨4, 16, [0, 1, 2, 3, 5, 6, 7, 8], [(.cell 8 4 true none)],
  (.seq (rf [i0 5 (.box (.s 1)),
 i0 6 (.box (.s 2)),
 i0 7 (.box (.s 3)),
 i0 8 (.new (.vals [(.bool false), (.int .u16 0), .nils, .nils]))])
 (.seq (rf [i0 9 (mv 0),
 i0 10 (.lda 32 (some .u8) (.s 5)),
 i0 11 (.lda 32 (some .u8) (.s 6)),
 i0 12 (.lda 32 (some .u8) (.s 7)),
 i1 13 (.call (.c (.fn 151 [])) [(.s 9), (.s 10), (.s 11), (.s 12)]) [0, 1, 2, 3],
 i1 14 (.bsl 1 2 (.vals [(.int .u8 0), .nils]) [(0, 2, (.s 13))]) [4],
 i1 15 (.build (.vals [(.bool false), (.int .u16 0), .nils, .nils]) [(0, 1, (.c (.bool true))), (1, 1, (.c (.int .u16 4))), (2, 1, (.s 14))]) [5],
 ⟨none, (.stc 4 (.s 8) (.s 15)), none, [6, 4, 0, 1, 2, 3, 4, 5, 6]⟩])
 .ret)), false, (some [(Sh.int .u8), (Sh.ar .u8), (Sh.ar .u8), (Sh.ar .u8)]), (some (Sh.st (Sh.pr Sh.bool (Sh.pr (Sh.int .u16) (Sh.pr (Sh.sl (Sh.pr (Sh.int .u8) (Sh.sl (Sh.int .u8)))) (Sh.sl (Sh.int .u8))))))), false⟩

/-- euphroe/euphroeref34.sealed -/
def k315 : Fun := ⟨2, 18, [0, 1, 2, 3, 4, 5, 7], [(.cell 4 32 true (some .u8))],
  (.seq (rf [i0 2 (.box (.s 0)),
 i0 3 (.box (.s 1)),
 i0 4 (.new (.ints .u8 [0, 0, 0, 0, 0, 0, 0, 0, 0, 0, 0, 0, 0, 0, 0, 0, 0, 0, 0, 0, 0, 0, 0, 0, 0, 0, 0, 0, 0, 0, 0, 0]))])
 (.seq (rf [i0 9 (.lda 4 none (.s 2)),
 i1 10 (.call (.c (.fn 319 [])) [(.s 9)]) [0],
 i1 8 (mv 10) [1],
 i1 11 (.ext (.s 8) 0) [2],
 i1 12 (.ext (.s 8) 1) [2],
 i1 5 (mv 11) [3, 1, 0, 1, 2, 3],
 i1 6 (mv 12) [4, 5, 0, 1, 2, 3, 4, 5]])
 (.seq (rf [i0 13 (.lda 32 (some .u8) (.s 3)),
 i1 14 (.call (.c (.fn 294 [])) [(.s 13)]) [0],
 i0 7 (.new (.ints .u8 [0, 0, 0, 0, 0, 0, 0, 0, 0, 0, 0, 0, 0, 0, 0, 0, 0, 0, 0, 0, 0, 0, 0, 0, 0, 0, 0, 0, 0, 0, 0, 0])),
 ⟨none, (.stc 32 (.s 7) (.s 14)), none, [2, 1, 1, 0, 1, 2]⟩])
 (.seq (rf [i0 15 (.sla 32 1 (.s 7) none none none),
 i0 16 (mv 5),
 i1 17 (.call (.c (.fn 222 [])) [(.s 15), (.s 16)]) [0, 1],
 ⟨none, (.stc 32 (.s 4) (.s 17)), none, [2, 2, 0, 1, 2]⟩])
 .ret)))), false, (some [(Sh.st (Sh.pr Sh.bool (Sh.pr (Sh.int .u16) (Sh.pr (Sh.sl (Sh.pr (Sh.int .u8) (Sh.sl (Sh.int .u8)))) (Sh.sl (Sh.int .u8)))))), (Sh.ar .u8)]), (some (Sh.ar .u8)), false⟩

/-- euphroe/packet.Of -/
def k316 : Fun := ⟨2, 9, [0, 1, 4], [(.cell 4 4 true none)],
  (.seq (rf [i0 4 (.new (.vals [(.bool false), (.int .u16 0), .nils, .nils]))])
 (.seq (rf [i0 5 (mv 0),
 i0 6 (mv 1),
 i1 7 (.call (.c (.fn 320 [])) [(.s 6)]) [1],
 i1 8 (.build (.vals [(.bool false), (.int .u16 0), .nils, .nils]) [(0, 1, (.c (.bool true))), (1, 1, (.s 5)), (2, 1, (.s 7))]) [0, 2],
 ⟨none, (.stc 4 (.s 4) (.s 8)), none, [3, 2, 0, 1, 2, 3]⟩])
 .ret)), false, (some [(Sh.int .u16), (Sh.sl (Sh.pr (Sh.int .u8) (Sh.sl (Sh.int .u8))))]), (some (Sh.st (Sh.pr Sh.bool (Sh.pr (Sh.int .u16) (Sh.pr (Sh.sl (Sh.pr (Sh.int .u8) (Sh.sl (Sh.int .u8)))) (Sh.sl (Sh.int .u8))))))), false⟩

/-- euphroe/packet.Lay -/
def k317 : Fun := ⟨1, 32, [0, 1, 2, 3, 4, 5, 6, 12, 16, 22], [(.tmp 2), (.tmp 3)],
  (.seq (rf [i0 1 (.box (.s 0)),
 i0 2 (.mv (.c .nils)),
 i1 3 (.mv (ci 0)) [1]])
 (.seq (rf [i0 8 (.lda 4 none (.s 1)),
 i1 9 (.call (.c (.fn 321 [])) [(.s 8)]) [0],
 i1 7 (mv 9) [1],
 i1 10 (.ext (.s 7) 0) [2],
 i1 11 (.ext (.s 7) 1) [2],
 i1 4 (mv 10) [3, 1, 0, 1, 2, 3],
 i1 5 (mv 11) [4, 5, 0, 1, 2, 3, 4, 5]])
 (.seq (.block 0
 (.seq (rf [i0 13 (mv 5),
 i1 14 (.bin .neq (.s 13) (ci 0)) [0],
 i1 12 (mv 14) [1]])
 (.cond (.s 12)
 (.seq (rf [i0 15 (mv 5),
 i0 2 (.mv (.c .nils)),
 i1 3 (mv 15) [0, 1, 0, 1]])
 .ret)
 (.seq (rf [i0 17 (mv 4),
 i1 18 (.len false (.s 17)) [0],
 i1 19 (.bin .add (ci 4) (.s 18)) [1],
 i1 20 (.bin .gtr (.s 19) (ci 4095)) [2],
 i1 16 (mv 20) [3]])
 (.cond (.s 16)
 (.seq (rf [i0 2 (.mv (.c .nils)),
 i1 3 (.mv (ci 8)) [0, 0]])
 .ret)
 .skip)))))
 (.seq (rf [i0 6 (.mv (.c (.int .u8 0)))])
 (.seq (.seq (rf [i0 21 (.fad 0 (.s 1)),
 i1 22 (.ldc (.s 21)) [0]])
 (.cond (.s 22)
 (rf [i0 6 (.mv (.c (.int .u8 1)))])
 .skip))
 (.seq (rf [i0 23 (mv 6),
 i1 24 (.bsl 2 1 (.ints .u8 [0, 0]) [(0, 1, (.c (.int .u8 16))), (1, 1, (.s 23))]) [0],
 i0 25 (mv 4),
 i1 26 (.len false (.s 25)) [2],
 i1 27 (.bin .add (ci 4) (.s 26)) [3],
 i1 28 (.call (.c (.fn 322 [])) [(.s 27)]) [4],
 i0 29 (mv 4),
 i1 30 (.bsl 3 1 (.vals [.nils, .nils, .nils]) [(0, 1, (.s 24)), (1, 1, (.s 28)), (2, 1, (.s 29))]) [1, 5, 6],
 i1 31 (.call (.c (.fn 46 [])) [(.s 30)]) [7, 5],
 i1 2 (mv 31) [8, 8, 0, 1, 2, 3, 4, 5, 6, 7, 8],
 i1 3 (.mv (ci 0)) [9, 0, 1, 2, 3, 4, 5, 6, 7, 8, 9]])
 .ret)))))), false, (some [(Sh.st (Sh.pr Sh.bool (Sh.pr (Sh.int .u16) (Sh.pr (Sh.sl (Sh.pr (Sh.int .u8) (Sh.sl (Sh.int .u8)))) (Sh.sl (Sh.int .u8))))))]), (some (Sh.tu (Sh.pr (Sh.sl (Sh.int .u8)) (Sh.int .i64)))), false⟩

/-- euphroe/bind.only -/
def k318 : Fun := ⟨2, 29, [0, 1, 2, 4, 5, 6, 9, 14], [(.cell 4 2 true none), (.tmp 5)],
  (.seq (rf [i0 2 (.box (.s 0)),
 i0 4 (.new (.vals [(.int .u8 0), .nils])),
 i0 5 (.mv (ci 0))])
 (.seq (.seq (rf [i0 7 (.lda 4 none (.s 2)),
 i1 8 (.call (.c (.fn 323 [])) [(.s 7)]) [0],
 i1 6 (mv 8) [1, 1, 0, 1]])
 (.block 0
 (.seq (rf [i0 10 (mv 6),
 i1 11 (.bin .neq (.s 10) (ci 0)) [0],
 i1 9 (mv 11) [1]])
 (.cond (.s 9)
 (.seq (rf [i0 12 (.build (.vals [(.int .u8 0), .nils]) []),
 i0 13 (mv 6),
 ⟨none, (.stc 2 (.s 4) (.s 12)), none, [0, 0]⟩,
 i1 5 (mv 13) [1, 2, 0, 1, 2]])
 .ret)
 (.seq (rf [i0 15 (.fad 0 (.s 2)),
 i1 16 (.ldc (.s 15)) [0],
 i1 17 (.un .not (.s 16)) [1],
 i1 18 (mv 17) [2],
 ⟨(some 19), (.fad 1 (.s 2)), (some (18, false)), [3]⟩,
 ⟨(some 20), (.ldc (.s 19)), (some (18, false)), [4, 3]⟩,
 ⟨(some 21), (mv 1), (some (18, false)), [3]⟩,
 ⟨(some 22), (.bin .neq (.s 20) (.s 21)), (some (18, false)), [5, 6, 3]⟩,
 i1 23 (.pick (.s 18) (.c (.bool true)) (.s 22)) [3, 7],
 i1 14 (mv 23) [8, 3]])
 (.cond (.s 14)
 (.seq (rf [i0 24 (.build (.vals [(.int .u8 0), .nils]) []),
 ⟨none, (.stc 2 (.s 4) (.s 24)), none, [0, 0]⟩,
 i1 5 (.mv (ci 1)) [1, 0, 1]])
 .ret)
 .skip))))))
 (.seq (rf [i0 25 (.fad 2 (.s 2)),
 i1 26 (.ldc (.s 25)) [0],
 i1 27 (.iad 2 (.s 26) (ci 0)) [1],
 i1 28 (.lda 2 none (.s 27)) [2],
 ⟨none, (.stc 2 (.s 4) (.s 28)), none, [3, 0, 1, 2, 3]⟩,
 i1 5 (.mv (ci 0)) [4, 0, 1, 2, 3, 4]])
 .ret))), false, (some [(Sh.st (Sh.pr Sh.bool (Sh.pr (Sh.int .u16) (Sh.pr (Sh.sl (Sh.pr (Sh.int .u8) (Sh.sl (Sh.int .u8)))) (Sh.sl (Sh.int .u8)))))), (Sh.int .u16)]), (some (Sh.tu (Sh.pr (Sh.st (Sh.pr (Sh.int .u8) (Sh.sl (Sh.int .u8)))) (Sh.int .i64)))), false⟩

/-- euphroe/euphroeref18.Lay -/
def k319 : Fun := ⟨1, 66, [0, 1, 2, 3, 4, 5, 6, 7, 8, 12, 16, 31, 44, 51, 55], [(.tmp 2), (.tmp 3)],
  (.seq (rf [i0 1 (.box (.s 0)),
 i0 2 (.mv (.c .nils)),
 i1 3 (.mv (ci 0)) [1]])
 (.seq (rf [i0 9 (.fad 3 (.s 1)),
 i1 10 (.ldc (.s 9)) [0],
 i1 4 (mv 10) [1, 0, 1]])
 (.seq (rf [i0 5 (.mv (.c (.int .u8 0)))])
 (.seq (.seq (rf [i0 11 (.fad 0 (.s 1)),
 i1 12 (.ldc (.s 11)) [0]])
 (.cond (.s 12)
 (.seq (.seq (rf [i0 13 (.fad 2 (.s 1)),
 i1 14 (.ldc (.s 13)) [0],
 i1 15 (.len false (.s 14)) [1],
 i1 16 (.bin .gtr (.s 15) (ci 8)) [2]])
 (.cond (.s 16)
 (.seq (rf [i0 2 (.mv (.c .nils)),
 i1 3 (.mv (ci 5)) [0, 0]])
 .ret)
 .skip))
 (.seq (rf [i0 5 (.mv (.c (.int .u8 1)))])
 (.seq (rt [i0 17 (.fad 1 (.s 1)),
 i1 18 (.ldc (.s 17)) [0],
 i1 19 (.cvi .u64 (.s 18)) [1],
 i1 20 (.call (.c (.fn 50 [])) [(.s 19), (ci 2)]) [2],
 i0 21 (.fad 2 (.s 1)),
 i1 22 (.ldc (.s 21)) [4],
 i1 23 (.len false (.s 22)) [5],
 i1 24 (.cvi .u64 (.s 23)) [6],
 i1 25 (.call (.c (.fn 50 [])) [(.s 24), (ci 2)]) [7, 3],
 i1 26 (.app 1 1 (.s 20) (.s 25)) [3, 8, 8],
 i1 4 (mv 26) [9, 9, 0, 1, 2, 3, 4, 5, 6, 7, 8, 9]])
 (.seq (rf [i0 6 (.mv (ci 0))])
 (.block 0
 (.loop ⟨0, [], false, [1, 4, 5, 6], []⟩
 (.seq (.seq (rf [i0 27 (mv 6),
 i0 28 (.fad 2 (.s 1)),
 i1 29 (.ldc (.s 28)) [1],
 i1 30 (.len false (.s 29)) [2],
 i1 31 (.bin .lss (.s 27) (.s 30)) [0, 3]])
 (.cond (.s 31)
 .skip
 (.pre ⟨0, [], false, [4, 5], []⟩ (.exit 0))))
 (.seq (.block 1
 (.seq (rf [i0 35 (.fad 2 (.s 1)),
 i1 36 (.ldc (.s 35)) [0],
 i0 37 (mv 6),
 i1 38 (.iad 2 (.s 36) (.s 37)) [1, 2],
 i1 39 (.lda 2 none (.s 38)) [3],
 i1 40 (.call (.c (.fn 141 [])) [(.s 39)]) [4],
 i1 34 (mv 40) [5],
 i1 41 (.ext (.s 34) 0) [6],
 i1 42 (.ext (.s 34) 1) [6],
 i1 7 (mv 41) [7, 5, 0, 1, 2, 3, 4, 5, 6, 7],
 i1 8 (mv 42) [8, 9, 0, 1, 2, 3, 4, 5, 6, 7, 8, 9]])
 (.seq (.seq (rf [i0 43 (mv 8),
 i1 44 (.bin .neq (.s 43) (ci 0)) [0]])
 (.cond (.s 44)
 (.seq (rf [i0 45 (mv 8),
 i0 2 (.mv (.c .nils)),
 i1 3 (mv 45) [0, 1, 0, 1]])
 .ret)
 .skip))
 (rf [i0 46 (mv 4),
 i0 47 (mv 7),
 i1 48 (.app 1 1 (.s 46) (.s 47)) [0, 1],
 i1 4 (mv 48) [2, 2, 0, 1, 2]]))))
 (rf [i0 32 (mv 6),
 i1 33 (.bin .add (.s 32) (ci 1)) [0],
 i1 6 (mv 33) [1, 0, 1]])))))))))
 .skip))
 (.seq (.seq (rf [i0 49 (mv 4),
 i1 50 (.len false (.s 49)) [0],
 i1 51 (.bin .eql (.s 50) (ci 0)) [1]])
 (.cond (.s 51)
 (.seq (rf [i0 2 (.mv (.c .nils)),
 i1 3 (.mv (ci 4)) [0, 0]])
 .ret)
 .skip))
 (.seq (.seq (rf [i0 52 (mv 4),
 i1 53 (.len false (.s 52)) [0],
 i1 54 (.bin .add (ci 4) (.s 53)) [1],
 i1 55 (.bin .gtr (.s 54) (ci 4095)) [2]])
 (.cond (.s 55)
 (.seq (rf [i0 2 (.mv (.c .nils)),
 i1 3 (.mv (ci 8)) [0, 0]])
 .ret)
 .skip))
 (.seq (rf [i0 56 (mv 5),
 i1 57 (.bsl 2 1 (.ints .u8 [0, 0]) [(0, 1, (.c (.int .u8 16))), (1, 1, (.s 56))]) [0],
 i0 58 (mv 4),
 i1 59 (.len false (.s 58)) [2],
 i1 60 (.bin .add (ci 4) (.s 59)) [3],
 i1 61 (.cvi .u64 (.s 60)) [4],
 i1 62 (.call (.c (.fn 50 [])) [(.s 61), (ci 2)]) [5],
 i1 63 (.app 1 1 (.s 57) (.s 62)) [1, 6, 6],
 i0 64 (mv 4),
 i1 65 (.app 1 1 (.s 63) (.s 64)) [7, 8, 7],
 i1 2 (mv 65) [9, 9, 0, 1, 2, 3, 4, 5, 6, 7, 8, 9],
 i1 3 (.mv (ci 0)) [10, 0, 1, 2, 3, 4, 5, 6, 7, 8, 9, 10]])
 .ret))))))), false, (some [(Sh.st (Sh.pr Sh.bool (Sh.pr (Sh.int .u16) (Sh.pr (Sh.sl (Sh.pr (Sh.int .u8) (Sh.sl (Sh.int .u8)))) (Sh.sl (Sh.int .u8))))))]), (some (Sh.tu (Sh.pr (Sh.sl (Sh.int .u8)) (Sh.int .i64)))), false⟩

/-- euphroe/packet.body -/
def k321 : Fun := ⟨1, 60, [0, 1, 2, 3, 4, 6, 7, 8, 9, 19, 25, 41, 42, 43, 44, 53], [(.tmp 2), (.tmp 3)],
  (.seq (rf [i0 1 (.box (.s 0)),
 i0 2 (.mv (.c .nils)),
 i1 3 (.mv (ci 0)) [1]])
 (.seq (.block 0
 (.seq (rf [i0 10 (.fad 0 (.s 1)),
 i1 11 (.ldc (.s 10)) [0],
 i1 12 (.un .not (.s 11)) [1],
 i1 13 (mv 12) [2],
 ⟨(some 14), (.fad 3 (.s 1)), (some (13, true)), [3]⟩,
 ⟨(some 15), (.ldc (.s 14)), (some (13, true)), [4, 3]⟩,
 ⟨(some 16), (.len false (.s 15)), (some (13, true)), [5, 3]⟩,
 ⟨(some 17), (.bin .eql (.s 16) (ci 0)), (some (13, true)), [6, 3]⟩,
 i1 18 (.pick (.s 13) (.s 17) (.c (.bool false))) [3, 7],
 i1 9 (mv 18) [8, 3]])
 (.cond (.s 9)
 (.seq (rf [i0 2 (.mv (.c .nils)),
 i1 3 (.mv (ci 4)) [0, 0]])
 .ret)
 (.seq (rf [i0 20 (.fad 0 (.s 1)),
 i1 21 (.ldc (.s 20)) [0],
 i1 22 (.un .not (.s 21)) [1],
 i1 19 (mv 22) [2]])
 (.cond (.s 19)
 (.seq (rf [i0 23 (.fad 3 (.s 1)),
 i1 24 (.ldc (.s 23)) [0],
 i1 2 (mv 24) [1, 0, 1],
 i1 3 (.mv (ci 0)) [2, 0, 1, 2]])
 .ret)
 (.seq (rf [i0 26 (.fad 2 (.s 1)),
 i1 27 (.ldc (.s 26)) [0],
 i1 28 (.len false (.s 27)) [1],
 i1 29 (.bin .gtr (.s 28) (ci 8)) [2],
 i1 25 (mv 29) [3]])
 (.cond (.s 25)
 (.seq (rf [i0 2 (.mv (.c .nils)),
 i1 3 (.mv (ci 5)) [0, 0]])
 .ret)
 .skip)))))))
 (.seq (rt [i0 30 (.fad 1 (.s 1)),
 i1 31 (.ldc (.s 30)) [0],
 i1 32 (.cvi .i64 (.s 31)) [1],
 i1 33 (.call (.c (.fn 322 [])) [(.s 32)]) [2],
 i0 34 (.fad 2 (.s 1)),
 i1 35 (.ldc (.s 34)) [4],
 i1 36 (.len false (.s 35)) [5],
 i1 37 (.call (.c (.fn 322 [])) [(.s 36)]) [6, 3],
 i1 38 (.bsl 2 1 (.vals [.nils, .nils]) [(0, 1, (.s 33)), (1, 1, (.s 37))]) [3, 7],
 i1 39 (.call (.c (.fn 46 [])) [(.s 38)]) [8, 7],
 i1 4 (mv 39) [9, 9, 0, 1, 2, 3, 4, 5, 6, 7, 8, 9]])
 (.seq (.seq (rf [i0 40 (.fad 2 (.s 1)),
 i1 41 (.ldc (.s 40)) [0],
 i1 42 (.len false (.s 41)) [1],
 i0 43 (.mv (ci 0))])
 (.block 1
 (.loop ⟨0, [], false, [4, 41, 42, 43], []⟩
 (.seq (rf [i0 44 (.bin .lss (.s 43) (.s 42))])
 (.seq (.cond (.s 44)
 .skip
 (.pre ⟨0, [], false, [4], []⟩ (.exit 1)))
 (.seq (.block 2
 (.seq (rf [i0 45 (.iad 2 (.s 41) (.s 43)),
 i1 46 (.lda 2 none (.s 45)) [0],
 i0 6 (.new (.vals [(.int .u8 0), .nils])),
 ⟨none, (.stc 2 (.s 6) (.s 46)), none, [2, 1, 0, 1, 2]⟩])
 (.seq (rf [i0 48 (.lda 2 none (.s 6)),
 i1 49 (.call (.c (.fn 139 [])) [(.s 48)]) [0],
 i1 47 (mv 49) [1],
 i1 50 (.ext (.s 47) 0) [2],
 i1 51 (.ext (.s 47) 1) [2],
 i1 7 (mv 50) [3, 1, 0, 1, 2, 3],
 i1 8 (mv 51) [4, 5, 0, 1, 2, 3, 4, 5]])
 (.seq (.seq (rf [i0 52 (mv 8),
 i1 53 (.bin .neq (.s 52) (ci 0)) [0]])
 (.cond (.s 53)
 (.seq (rf [i0 54 (mv 8),
 i0 2 (.mv (.c .nils)),
 i1 3 (mv 54) [0, 1, 0, 1]])
 .ret)
 .skip))
 (rf [i0 55 (mv 4),
 i0 56 (mv 7),
 i1 57 (.app 1 1 (.s 55) (.s 56)) [0, 1],
 i1 4 (mv 57) [2, 2, 0, 1, 2]])))))
 (rf [i0 58 (.bin .add (.s 43) (ci 1)),
 i1 43 (mv 58) [0]])))))))
 (.seq (rf [i0 59 (mv 4),
 i1 2 (mv 59) [0, 0],
 i1 3 (.mv (ci 0)) [1, 0, 1]])
 .ret))))), false, (some [(Sh.st (Sh.pr Sh.bool (Sh.pr (Sh.int .u16) (Sh.pr (Sh.sl (Sh.pr (Sh.int .u8) (Sh.sl (Sh.int .u8)))) (Sh.sl (Sh.int .u8))))))]), (some (Sh.tu (Sh.pr (Sh.sl (Sh.int .u8)) (Sh.int .i64)))), false⟩

/-- euphroe/packet.number -/
def k322 : Fun := ⟨1, 12, [0, 2, 3], [(.tmp 2)],
  (.seq (rf [i0 2 (.mv (.c .nils))])
 (.seq (rf [i0 6 (mv 0),
 i1 7 (.cvi .u64 (.s 6)) [0],
 i1 8 (.call (.c (.fn 19 [])) [(.s 7), (ci 2), (.c (.bool false))]) [1],
 i1 5 (mv 8) [2],
 i1 9 (.ext (.s 5) 0) [3],
 i1 10 (.ext (.s 5) 1) [3],
 i1 3 (mv 9) [4, 2, 0, 1, 2, 3, 4],
 i1 4 (mv 10) [5, 6, 0, 1, 2, 3, 4, 5, 6]])
 (.seq (rf [i0 11 (mv 3),
 i1 2 (mv 11) [0, 0]])
 .ret))), false, (some [(Sh.int .i64)]), (some (Sh.sl (Sh.int .u8))), false⟩

/-- euphroe/packet.Check -/
def k323 : Fun := ⟨1, 61, [0, 1, 2, 3, 4, 5, 6, 8, 9, 20, 24, 33, 49, 50, 51, 52, 58], [(.tmp 2)],
  (.seq (rf [i0 1 (.box (.s 0)),
 i0 2 (.mv (ci 0))])
 (.seq (rf [i0 11 (.fad 1 (.s 1)),
 i1 12 (.ldc (.s 11)) [0],
 i1 13 (.call (.c (.fn 324 [])) [(.s 12)]) [1],
 i1 10 (mv 13) [2],
 i1 14 (.ext (.s 10) 0) [3],
 i1 15 (.ext (.s 10) 1) [3],
 i1 16 (.ext (.s 10) 2) [3],
 i0 3 (.new (.ints .u8 [0])),
 ⟨none, (.stc 1 (.s 3) (.s 14)), none, [7, 4, 2, 0, 1, 2, 3, 4, 7]⟩,
 i1 4 (mv 15) [5, 8, 0, 1, 2, 3, 4, 5, 7, 8],
 i1 5 (mv 16) [6, 9, 0, 1, 2, 3, 4, 5, 6, 7, 8, 9]])
 (.seq (rf [i0 17 (.fad 2 (.s 1)),
 i1 18 (.ldc (.s 17)) [0],
 i1 19 (.len false (.s 18)) [1],
 i1 6 (mv 19) [2, 0, 1, 2]])
 (.seq (.block 0
 (.seq (rf [i0 21 (.fad 0 (.s 1)),
 i1 22 (.ldc (.s 21)) [0],
 i1 23 (.un .not (.s 22)) [1],
 i1 20 (mv 23) [2]])
 (.cond (.s 20)
 (.seq (rf [i0 2 (.mv (ci 0))])
 .ret)
 (.seq (rf [i0 25 (.fad 1 (.s 1)),
 i1 26 (.ldc (.s 25)) [0],
 i1 27 (.bin .lss (.s 26) (.c (.int .u16 1))) [1],
 i1 28 (mv 27) [2],
 ⟨(some 29), (.fad 1 (.s 1)), (some (28, false)), [3]⟩,
 ⟨(some 30), (.ldc (.s 29)), (some (28, false)), [4, 3]⟩,
 ⟨(some 31), (.bin .gtr (.s 30) (.c (.int .u16 9))), (some (28, false)), [5, 3]⟩,
 i1 32 (.pick (.s 28) (.c (.bool true)) (.s 31)) [3, 6],
 i1 24 (mv 32) [7, 3]])
 (.cond (.s 24)
 (.seq (rf [i0 2 (.mv (ci 9))])
 .ret)
 (.seq (rf [i0 34 (mv 6),
 i0 35 (mv 4),
 i1 36 (.bin .lss (.s 34) (.s 35)) [0, 1],
 i1 37 (mv 36) [2],
 ⟨(some 38), (mv 6), (some (37, false)), [3]⟩,
 ⟨(some 39), (mv 5), (some (37, false)), [3]⟩,
 ⟨(some 40), (.bin .gtr (.s 38) (.s 39)), (some (37, false)), [4, 5, 3]⟩,
 i1 41 (.pick (.s 37) (.c (.bool true)) (.s 40)) [3, 6],
 i1 42 (mv 41) [7, 3],
 ⟨(some 43), (.fad 2 (.s 1)), (some (42, false)), [8]⟩,
 ⟨(some 44), (.ldc (.s 43)), (some (42, false)), [9, 8]⟩,
 ⟨(some 45), (.mkf 326 [(.s 3)]), (some (42, false)), [8]⟩,
 ⟨(some 46), (.call (.c (.fn 325 [])) [(.s 44), (.s 45)]), (some (42, false)), [10, 11, 8, 8]⟩,
 i1 47 (.pick (.s 42) (.c (.bool true)) (.s 46)) [8, 12],
 i1 33 (mv 47) [13, 12]])
 (.cond (.s 33)
 (.seq (rf [i0 2 (.mv (ci 1))])
 .ret)
 .skip)))))))
 (.seq (.seq (rf [i0 48 (.fad 2 (.s 1)),
 i1 49 (.ldc (.s 48)) [0],
 i1 50 (.len false (.s 49)) [1],
 i0 51 (.mv (ci 0))])
 (.block 1
 (.loop ⟨0, [], false, [49, 50, 51], []⟩
 (.seq (rf [i0 52 (.bin .lss (.s 51) (.s 50))])
 (.seq (.cond (.s 52)
 .skip
 (.pre ⟨0, [], false, [], []⟩ (.exit 1)))
 (.seq (.block 2
 (.seq (rf [i0 53 (.iad 2 (.s 49) (.s 51)),
 i1 54 (.lda 2 none (.s 53)) [0],
 i0 8 (.new (.vals [(.int .u8 0), .nils])),
 ⟨none, (.stc 2 (.s 8) (.s 54)), none, [2, 1, 0, 1, 2]⟩])
 (.seq (rf [i0 55 (.lda 2 none (.s 8)),
 i1 56 (.call (.c (.fn 145 [])) [(.s 55)]) [0],
 i1 9 (mv 56) [1, 1, 0, 1]])
 (.seq (rf [i0 57 (mv 9),
 i1 58 (.bin .neq (.s 57) (ci 0)) [0]])
 (.cond (.s 58)
 (.seq (rf [i0 59 (mv 9),
 i1 2 (mv 59) [0, 0]])
 .ret)
 .skip)))))
 (rf [i0 60 (.bin .add (.s 51) (ci 1)),
 i1 51 (mv 60) [0]])))))))
 (.seq (rf [i0 2 (.mv (ci 0))])
 .ret)))))), false, (some [(Sh.st (Sh.pr Sh.bool (Sh.pr (Sh.int .u16) (Sh.pr (Sh.sl (Sh.pr (Sh.int .u8) (Sh.sl (Sh.int .u8)))) (Sh.sl (Sh.int .u8))))))]), (some (Sh.int .i64)), false⟩

/-- euphroe/packet.wants -/
def k324 : Fun := ⟨1, 17, [0, 2, 3, 4, 5, 6, 8, 10, 12, 14], [(.tmp 2), (.tmp 3), (.tmp 4)],
  (.seq (rf [i0 2 (.mv (.c (.int .u8 0))),
 i1 3 (.mv (ci 0)) [0],
 i1 4 (.mv (ci 0)) [1]])
 (.seq (rf [i0 5 (mv 0)])
 (.block 0
 (.seq (rf [i0 7 (.bin .eql (.s 5) (.c (.int .u16 1))),
 i1 6 (mv 7) [0]])
 (.cond (.s 6)
 (.seq (rf [i0 2 (.mv (.c (.int .u8 1))),
 i1 3 (.mv (ci 1)) [0, 0],
 i1 4 (.mv (ci 1)) [1, 0, 1]])
 .ret)
 (.seq (rf [i0 9 (.bin .eql (.s 5) (.c (.int .u16 2))),
 i1 8 (mv 9) [0]])
 (.cond (.s 8)
 (.seq (rf [i0 2 (.mv (.c (.int .u8 4))),
 i1 3 (.mv (ci 1)) [0, 0],
 i1 4 (.mv (ci 1)) [1, 0, 1]])
 .ret)
 (.seq (rf [i0 11 (.bin .eql (.s 5) (.c (.int .u16 3))),
 i1 10 (mv 11) [0]])
 (.cond (.s 10)
 (.seq (rf [i0 2 (.mv (.c (.int .u8 2))),
 i1 3 (.mv (ci 1)) [0, 0],
 i1 4 (.mv (ci 3)) [1, 0, 1]])
 .ret)
 (.seq (rf [i0 13 (.bin .eql (.s 5) (.c (.int .u16 4))),
 i1 12 (mv 13) [0]])
 (.cond (.s 12)
 (.seq (rf [i0 2 (.mv (.c (.int .u8 3))),
 i1 3 (.mv (ci 1)) [0, 0],
 i1 4 (.mv (ci 1)) [1, 0, 1]])
 .ret)
 (.seq (.seq (rf [i0 15 (.bin .eql (.s 5) (.c (.int .u16 5))),
 i1 14 (mv 15) [0]])
 (.cond (.s 14)
 .skip
 (rf [i0 16 (.bin .eql (.s 5) (.c (.int .u16 6))),
 i1 14 (mv 16) [0]])))
 (.cond (.s 14)
 (.seq (rf [i0 2 (.mv (.c (.int .u8 2))),
 i1 3 (.mv (ci 0)) [0, 0],
 i1 4 (.mv (ci 1)) [1, 0, 1]])
 .ret)
 (.seq (rf [i0 2 (.mv (.c (.int .u8 0))),
 i1 3 (.mv (ci 0)) [0, 0],
 i1 4 (.mv (ci 0)) [1, 0, 1]])
 .ret)))))))))))))), false, (some [(Sh.int .u16)]), (some (Sh.tu (Sh.pr (Sh.int .u8) (Sh.pr (Sh.int .i64) (Sh.int .i64))))), false⟩

/-- slices.ContainsFunc[[]euphroe/api.Attr,euphroe/api.Attr] -/
def k325 : Fun := ⟨2, 9, [0, 1, 4], [(.tmp 4)],
  (.seq (rf [i0 4 (.mv (.c (.bool false)))])
 (.seq (rf [i0 5 (mv 0),
 i0 6 (mv 1),
 i1 7 (.call (.c (.fn 327 [])) [(.s 5), (.s 6)]) [0, 1],
 i1 8 (.bin .geq (.s 7) (ci 0)) [2],
 i1 4 (mv 8) [3, 2, 0, 1, 2, 3]])
 .ret)), false, none, none, false⟩

/-- euphroe/packet.Check$1 -/
def k326 : Fun := ⟨2, 8, [0, 1, 2, 3], [(.tmp 3)],
  (.seq (rf [i0 2 (.box (.s 0)),
 i0 3 (.mv (.c (.bool false)))])
 (.seq (rf [i0 4 (.fad 0 (.s 2)),
 i1 5 (.ldc (.s 4)) [0],
 i0 6 (.ldc (.s 1)),
 i1 7 (.bin .neq (.s 5) (.s 6)) [1, 2],
 i1 3 (mv 7) [3, 0, 1, 2, 3]])
 .ret)), false, none, none, false⟩

/-- slices.IndexFunc[[]euphroe/api.Attr,euphroe/api.Attr] -/
def k327 : Fun := ⟨2, 19, [0, 1, 4, 5, 7, 8, 9, 16], [(.tmp 4)],
  (.seq (rf [i0 4 (.mv (ci 0))])
 (.seq (.seq (rf [i0 6 (mv 0),
 i1 7 (.len false (.s 6)) [0],
 i0 8 (.mv (ci 0))])
 (.block 0
 (.loop ⟨0, [], false, [0, 1, 7, 8], []⟩
 (.seq (rf [i0 9 (.bin .lss (.s 8) (.s 7))])
 (.seq (.cond (.s 9)
 .skip
 (.pre ⟨0, [], false, [], []⟩ (.exit 0)))
 (.seq (.block 1
 (.seq (rf [i0 10 (mv 8),
 i1 5 (mv 10) [0, 0]])
 (.seq (rf [i0 11 (mv 1),
 i0 12 (mv 0),
 i0 13 (mv 5),
 i1 14 (.iad 2 (.s 12) (.s 13)) [1, 2],
 i1 15 (.lda 2 none (.s 14)) [3],
 i1 16 (.call (.s 11) [(.s 15)]) [0, 4]])
 (.cond (.s 16)
 (.seq (rf [i0 17 (mv 5),
 i1 4 (mv 17) [0, 0]])
 .ret)
 .skip))))
 (rf [i0 18 (.bin .add (.s 8) (ci 1)),
 i1 8 (mv 18) [0]])))))))
 (.seq (rf [i0 4 (.mv (ci (-1)))])
 .ret))), false, none, none, false⟩

def FT : Nat → Option Fun
  | 1 => some k1
  | 19 => some k19
  | 21 => some k21
  | 46 => some k46
  | 47 => some k47
  | 48 => some k48
  | 50 => some k50
  | 64 => some k64
  | 75 => some k75
  | 78 => some k78
  | 81 => some k81
  | 83 => some k83
  | 100 => some k100
  | 101 => some k101
  | 114 => some k114
  | 115 => some k115
  | 116 => some k116
  | 120 => some k120
  | 139 => some k139
  | 141 => some k141
  | 144 => some k144
  | 145 => some k145
  | 148 => some k148
  | 149 => some k149
  | 151 => some k151
  | 152 => some k152
  | 154 => some k154
  | 155 => some k155
  | 160 => some k160
  | 161 => some k161
  | 162 => some k162
  | 163 => some k163
  | 164 => some k164
  | 166 => some k166
  | 167 => some k167
  | 177 => some k177
  | 186 => some k186
  | 195 => some k195
  | 213 => some k213
  | 214 => some k214
  | 216 => some k216
  | 217 => some k217
  | 218 => some k218
  | 219 => some k219
  | 220 => some k220
  | 222 => some k222
  | 223 => some k223
  | 224 => some k224
  | 225 => some k225
  | 229 => some k229
  | 230 => some k230
  | 231 => some k231
  | 232 => some k232
  | 233 => some k233
  | 234 => some k234
  | 235 => some k235
  | 236 => some k236
  | 237 => some k237
  | 238 => some k238
  | 239 => some k239
  | 288 => some k288
  | 290 => some k290
  | 291 => some k291
  | 292 => some k292
  | 293 => some k293
  | 294 => some k294
  | 295 => some k295
  | 297 => some k297
  | 298 => some k298
  | 301 => some k301
  | 302 => some k302
  | 303 => some k303
  | 304 => some k304
  | 305 => some k305
  | 306 => some k306
  | 307 => some k307
  | 308 => some k308
  | 309 => some k309
  | 310 => some k310
  | 311 => some k311
  | 312 => some k312
  | 313 => some k313
  | 314 => some k314
  | 315 => some k315
  | 316 => some k316
  | 317 => some k317
  | 318 => some k318
  | 319 => some k319
  | 321 => some k321
  | 322 => some k322
  | 323 => some k323
  | 324 => some k324
  | 325 => some k325
  | 326 => some k326
  | 327 => some k327
  | _ => none
end Go.Proofs.YtciafmcbccgggaaE
