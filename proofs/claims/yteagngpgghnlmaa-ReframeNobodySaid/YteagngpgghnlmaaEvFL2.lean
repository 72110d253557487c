/- The evaluator's functions. -/
import Derived.Test.YteagngpgghnlmaaEvXT
namespace Go.Proofs.YteagngpgghnlmaaE
open Go
set_option linter.unusedVariables false
set_option linter.unusedSimpArgs false

/-- slices.Concat[[]byte,byte] -/
def k1 : Fun := ⟨1, 36, [0, 2, 3, 5, 6, 8, 9, 10, 11, 12, 20, 25, 26, 27, 28], [(.tmp 2)],
  (.seq (.region [
    ⟨(some 2), (.mv (.c .nils)), none, []⟩] false)
  (.seq (.region [
    ⟨(some 3), (.mv (.c (.int .i64 0))), none, []⟩] false)
  (.seq (.seq (.region [
    ⟨(some 9), (.mv (.s 0)), none, []⟩,
    ⟨(some 10), (.len false (.s 9)), none, [0]⟩,
    ⟨(some 11), (.mv (.c (.int .i64 0))), none, []⟩] false)
  (.block 0
   (.loop ⟨0, [], false, [0, 3, 9, 10, 11], []⟩
    (.seq (.region [
      ⟨(some 12), (.bin .lss (.s 11) (.s 10)), none, []⟩] false)
    (.seq (.cond (.s 12)
     .skip
     (.pre ⟨0, [], false, [0, 3], []⟩ (.exit 0)))
    (.seq (.block 1
     (.seq (.region [
       ⟨(some 13), (.iad 1 (.s 9) (.s 11)), none, []⟩,
       ⟨(some 14), (.ldc (.s 13)), none, [0]⟩,
       ⟨(some 5), (.mv (.s 14)), none, [1, 0, 1]⟩] false)
     (.seq (.region [
       ⟨(some 15), (.mv (.s 3)), none, []⟩,
       ⟨(some 16), (.mv (.s 5)), none, []⟩,
       ⟨(some 17), (.len false (.s 16)), none, [1]⟩,
       ⟨(some 18), (.bin .add (.s 15) (.s 17)), none, [0, 2]⟩,
       ⟨(some 3), (.mv (.s 18)), none, [3, 0, 1, 2, 3]⟩] false)
     (.seq (.region [
       ⟨(some 19), (.mv (.s 3)), none, []⟩,
       ⟨(some 20), (.bin .lss (.s 19) (.c (.int .i64 0))), none, [0]⟩] false)
     (.cond (.s 20)
      (.region [
        ⟨(some 21), .bad, none, []⟩,
        ⟨none, .bad, none, [0]⟩] false)
      .skip)))))
    (.region [
      ⟨(some 22), (.bin .add (.s 11) (.c (.int .i64 1))), none, []⟩,
      ⟨(some 11), (.mv (.s 22)), none, [0]⟩] false)))))))
  (.seq (.region [
    ⟨(some 23), (.mv (.s 3)), none, []⟩,
    ⟨(some 24), (.call (.c (.fn 64 [])) [(.c .nils), (.s 23)]), none, [0]⟩,
    ⟨(some 6), (.mv (.s 24)), none, [1, 1, 0, 1]⟩] false)
  (.seq (.seq (.region [
    ⟨(some 25), (.mv (.s 0)), none, []⟩,
    ⟨(some 26), (.len false (.s 25)), none, [0]⟩,
    ⟨(some 27), (.mv (.c (.int .i64 0))), none, []⟩] false)
  (.block 2
   (.loop ⟨1, [], false, [6, 25, 26, 27], []⟩
    (.seq (.region [
      ⟨(some 28), (.bin .lss (.s 27) (.s 26)), none, []⟩] false)
    (.seq (.cond (.s 28)
     .skip
     (.pre ⟨0, [], false, [6], []⟩ (.exit 2)))
    (.seq (.block 3
     (.seq (.region [
       ⟨(some 29), (.iad 1 (.s 25) (.s 27)), none, []⟩,
       ⟨(some 30), (.ldc (.s 29)), none, [0]⟩,
       ⟨(some 8), (.mv (.s 30)), none, [1, 0, 1]⟩] false)
     (.region [
       ⟨(some 31), (.mv (.s 6)), none, []⟩,
       ⟨(some 32), (.mv (.s 8)), none, []⟩,
       ⟨(some 33), (.app 1 1 (.s 31) (.s 32)), none, [0, 1]⟩,
       ⟨(some 6), (.mv (.s 33)), none, [2, 2, 0, 1, 2]⟩] false)))
    (.region [
      ⟨(some 34), (.bin .add (.s 27) (.c (.int .i64 1))), none, []⟩,
      ⟨(some 27), (.mv (.s 34)), none, [0]⟩] false)))))))
  (.seq (.region [
    ⟨(some 35), (.mv (.s 6)), none, []⟩,
    ⟨(some 2), (.mv (.s 35)), none, [0, 0]⟩] false)
  .ret)))))), false, (some [(Sh.sl (Sh.sl (Sh.int .u8)))]), none, false⟩

/-- euphroe/octs.Put -/
def k19 : Fun := ⟨3, 37, [0, 1, 2, 6, 7, 8, 9, 15, 19, 20, 21, 33], [(.tmp 6), (.tmp 7)],
  (.seq (.region [
    ⟨(some 6), (.mv (.c .nils)), none, []⟩,
    ⟨(some 7), (.mv (.c (.int .i64 0))), none, [0]⟩] false)
  (.seq (.seq (.region [
    ⟨(some 10), (.mv (.s 1)), none, []⟩,
    ⟨(some 11), (.bin .lss (.s 10) (.c (.int .i64 1))), none, [0]⟩,
    ⟨(some 12), (.mv (.s 11)), none, [1]⟩,
    ⟨(some 13), (.mv (.s 1)), (some (12, false)), [2]⟩,
    ⟨(some 14), (.bin .gtr (.s 13) (.c (.int .i64 8))), (some (12, false)), [3, 2]⟩,
    ⟨(some 15), (.pick (.s 12) (.c (.bool true)) (.s 14)), none, [2, 4]⟩] false)
  (.cond (.s 15)
   (.seq (.region [
     ⟨(some 6), (.mv (.c .nils)), none, []⟩,
     ⟨(some 7), (.mv (.c (.int .i64 1))), none, [0, 0]⟩] false)
   .ret)
   .skip))
  (.seq (.region [
    ⟨(some 16), (.mv (.s 1)), none, []⟩,
    ⟨(some 17), (.mks (.ints .u8 [0]) 1 1 (.s 16) (.s 16)), none, [0, 0]⟩,
    ⟨(some 8), (.mv (.s 17)), none, [1, 0, 1]⟩] false)
  (.seq (.seq (.region [
    ⟨(some 18), (.mv (.s 8)), none, []⟩,
    ⟨(some 19), (.len false (.s 18)), none, [0]⟩,
    ⟨(some 20), (.mv (.c (.int .i64 0))), none, []⟩] false)
  (.block 0
   (.loop ⟨0, [], false, [0, 2, 8, 19, 20], []⟩
    (.seq (.region [
      ⟨(some 21), (.bin .lss (.s 20) (.s 19)), none, []⟩] false)
    (.seq (.cond (.s 21)
     .skip
     (.pre ⟨0, [], false, [2, 8], []⟩ (.exit 0)))
    (.seq (.block 1
     (.seq (.region [
       ⟨(some 22), (.mv (.s 20)), none, []⟩,
       ⟨(some 9), (.mv (.s 22)), none, [0, 0]⟩] false)
     (.region [
       ⟨(some 23), (.mv (.s 8)), none, []⟩,
       ⟨(some 24), (.mv (.s 9)), none, []⟩,
       ⟨(some 25), (.mv (.s 0)), none, []⟩,
       ⟨(some 26), (.mv (.s 9)), none, []⟩,
       ⟨(some 27), (.bin .mul (.c (.int .i64 8)) (.s 26)), none, [3]⟩,
       ⟨(some 28), (.bin .shr (.s 25) (.s 27)), none, [2, 4]⟩,
       ⟨(some 29), (.cvi .u8 (.s 28)), none, [5]⟩,
       ⟨(some 30), (.iad 1 (.s 23) (.s 24)), none, [0, 1, 0, 1, 2, 3, 4, 5, 6]⟩,
       ⟨none, (.stc 1 (.s 30) (.s 29)), none, [7, 6, 0, 1, 2, 3, 4, 5, 6]⟩] false)))
    (.region [
      ⟨(some 31), (.bin .add (.s 20) (.c (.int .i64 1))), none, []⟩,
      ⟨(some 20), (.mv (.s 31)), none, [0]⟩] false)))))))
  (.seq (.seq (.region [
    ⟨(some 32), (.mv (.s 2)), none, []⟩,
    ⟨(some 33), (.un .not (.s 32)), none, [0]⟩] false)
  (.cond (.s 33)
   (.region [
     ⟨(some 34), (.mv (.s 8)), none, []⟩,
     ⟨(some 35), (.call (.c (.fn 48 [])) [(.s 34)]), none, [0]⟩] false)
   .skip))
  (.seq (.region [
    ⟨(some 36), (.mv (.s 8)), none, []⟩,
    ⟨(some 6), (.mv (.s 36)), none, [0, 0]⟩,
    ⟨(some 7), (.mv (.c (.int .i64 0))), none, [1, 0, 1]⟩] false)
  .ret)))))), false, (some [(Sh.int .u64), (Sh.int .i64), Sh.bool]), (some (Sh.tu (Sh.pr (Sh.sl (Sh.int .u8)) (Sh.int .i64)))), false⟩

/-- euphroe/octs.Get -/
def k21 : Fun := ⟨2, 39, [0, 1, 4, 5, 6, 7, 8, 16, 17, 18, 19, 20, 24], [(.tmp 4), (.tmp 5)],
  (.seq (.region [
    ⟨(some 4), (.mv (.c (.int .u64 0))), none, []⟩,
    ⟨(some 5), (.mv (.c (.int .i64 0))), none, [0]⟩] false)
  (.seq (.seq (.region [
    ⟨(some 9), (.mv (.s 0)), none, []⟩,
    ⟨(some 10), (.len false (.s 9)), none, [0]⟩,
    ⟨(some 11), (.bin .lss (.s 10) (.c (.int .i64 1))), none, [1]⟩,
    ⟨(some 12), (.mv (.s 11)), none, [2]⟩,
    ⟨(some 13), (.mv (.s 0)), (some (12, false)), [3]⟩,
    ⟨(some 14), (.len false (.s 13)), (some (12, false)), [4, 3]⟩,
    ⟨(some 15), (.bin .gtr (.s 14) (.c (.int .i64 8))), (some (12, false)), [5, 3]⟩,
    ⟨(some 16), (.pick (.s 12) (.c (.bool true)) (.s 15)), none, [3, 6]⟩] false)
  (.cond (.s 16)
   (.seq (.region [
     ⟨(some 4), (.mv (.c (.int .u64 0))), none, []⟩,
     ⟨(some 5), (.mv (.c (.int .i64 1))), none, [0, 0]⟩] false)
   .ret)
   .skip))
  (.seq (.region [
    ⟨(some 6), (.mv (.c (.int .u64 0))), none, []⟩] false)
  (.seq (.seq (.region [
    ⟨(some 17), (.mv (.s 0)), none, []⟩,
    ⟨(some 18), (.len false (.s 17)), none, [0]⟩,
    ⟨(some 19), (.mv (.c (.int .i64 0))), none, []⟩] false)
  (.block 0
   (.loop ⟨0, [], false, [1, 6, 17, 18, 19], []⟩
    (.seq (.region [
      ⟨(some 20), (.bin .lss (.s 19) (.s 18)), none, []⟩] false)
    (.seq (.cond (.s 20)
     .skip
     (.pre ⟨0, [], false, [6], []⟩ (.exit 0)))
    (.seq (.block 1
     (.seq (.region [
       ⟨(some 21), (.mv (.s 19)), none, []⟩,
       ⟨(some 22), (.iad 1 (.s 17) (.s 19)), none, []⟩,
       ⟨(some 23), (.ldc (.s 22)), none, [1]⟩,
       ⟨(some 7), (.mv (.s 21)), none, [0, 0, 1, 2]⟩,
       ⟨(some 8), (.mv (.s 23)), none, [2, 3, 0, 1, 2, 3]⟩] false)
     (.seq (.region [
       ⟨(some 24), (.mv (.s 1)), none, []⟩] false)
     (.cond (.s 24)
      (.region [
        ⟨(some 25), (.mv (.s 6)), none, []⟩,
        ⟨(some 26), (.mv (.s 8)), none, []⟩,
        ⟨(some 27), (.cvi .u64 (.s 26)), none, [1]⟩,
        ⟨(some 28), (.mv (.s 7)), none, []⟩,
        ⟨(some 29), (.bin .mul (.c (.int .i64 8)) (.s 28)), none, [3]⟩,
        ⟨(some 30), (.bin .shl (.s 27) (.s 29)), none, [2, 4]⟩,
        ⟨(some 31), (.bin .or (.s 25) (.s 30)), none, [0, 5]⟩,
        ⟨(some 6), (.mv (.s 31)), none, [6, 0, 1, 2, 3, 4, 5, 6]⟩] false)
      (.region [
        ⟨(some 32), (.mv (.s 6)), none, []⟩,
        ⟨(some 33), (.bin .shl (.s 32) (.c (.int .u64 8))), none, [0]⟩,
        ⟨(some 34), (.mv (.s 8)), none, []⟩,
        ⟨(some 35), (.cvi .u64 (.s 34)), none, [2]⟩,
        ⟨(some 36), (.bin .or (.s 33) (.s 35)), none, [1, 3]⟩,
        ⟨(some 6), (.mv (.s 36)), none, [4, 0, 1, 2, 3, 4]⟩] false)))))
    (.region [
      ⟨(some 37), (.bin .add (.s 19) (.c (.int .i64 1))), none, []⟩,
      ⟨(some 19), (.mv (.s 37)), none, [0]⟩] false)))))))
  (.seq (.region [
    ⟨(some 38), (.mv (.s 6)), none, []⟩,
    ⟨(some 4), (.mv (.s 38)), none, [0, 0]⟩,
    ⟨(some 5), (.mv (.c (.int .i64 0))), none, [1, 0, 1]⟩] false)
  .ret))))), false, (some [(Sh.sl (Sh.int .u8)), Sh.bool]), (some (Sh.tu (Sh.pr (Sh.int .u64) (Sh.int .i64)))), false⟩

/-- euphroe/octs.Join -/
def k46 : Fun := ⟨1, 5, [0, 2], [(.tmp 2)],
  (.seq (.region [
    ⟨(some 2), (.mv (.c .nils)), none, []⟩] false)
  (.seq (.region [
    ⟨(some 3), (.mv (.s 0)), none, []⟩,
    ⟨(some 4), (.call (.c (.fn 1 [])) [(.s 3)]), none, [0]⟩,
    ⟨(some 2), (.mv (.s 4)), none, [1, 1, 0, 1]⟩] false)
  .ret)), false, (some [(Sh.sl (Sh.sl (Sh.int .u8)))]), none, false⟩

/-- slices.Reverse[[]byte,byte] -/
def k48 : Fun := ⟨1, 28, [0, 2, 3, 9], [],
  (.seq (.region [
    ⟨(some 4), (.mv (.s 0)), none, []⟩,
    ⟨(some 5), (.len false (.s 4)), none, [0]⟩,
    ⟨(some 6), (.bin .sub (.s 5) (.c (.int .i64 1))), none, [1]⟩,
    ⟨(some 2), (.mv (.c (.int .i64 0))), none, []⟩,
    ⟨(some 3), (.mv (.s 6)), none, [2, 3, 0, 1, 2, 3]⟩] false)
  (.block 0
   (.loop ⟨0, [], false, [0, 2, 3], []⟩
    (.seq (.seq (.region [
      ⟨(some 7), (.mv (.s 2)), none, []⟩,
      ⟨(some 8), (.mv (.s 3)), none, []⟩,
      ⟨(some 9), (.bin .lss (.s 7) (.s 8)), none, [0, 1]⟩] false)
    (.cond (.s 9)
     .skip
     (.pre ⟨0, [], false, [], []⟩ (.exit 0))))
    (.seq (.block 1
     (.region [
       ⟨(some 14), (.mv (.s 0)), none, []⟩,
       ⟨(some 15), (.mv (.s 2)), none, []⟩,
       ⟨(some 16), (.mv (.s 0)), none, []⟩,
       ⟨(some 17), (.mv (.s 3)), none, []⟩,
       ⟨(some 18), (.mv (.s 0)), none, []⟩,
       ⟨(some 19), (.mv (.s 3)), none, []⟩,
       ⟨(some 20), (.iad 1 (.s 18) (.s 19)), none, [4, 5]⟩,
       ⟨(some 21), (.ldc (.s 20)), none, [6]⟩,
       ⟨(some 22), (.mv (.s 0)), none, []⟩,
       ⟨(some 23), (.mv (.s 2)), none, []⟩,
       ⟨(some 24), (.iad 1 (.s 22) (.s 23)), none, [8, 9]⟩,
       ⟨(some 25), (.ldc (.s 24)), none, [10]⟩,
       ⟨(some 26), (.iad 1 (.s 14) (.s 15)), none, [0, 1, 0, 1, 4, 5, 6, 7, 11]⟩,
       ⟨none, (.stc 1 (.s 26) (.s 21)), none, [12, 7, 0, 1, 4, 5, 6, 7, 11]⟩,
       ⟨(some 27), (.iad 1 (.s 16) (.s 17)), none, [2, 3, 0, 1, 2, 3, 4, 5, 6, 7, 8, 9, 10, 11, 12, 13]⟩,
       ⟨none, (.stc 1 (.s 27) (.s 25)), none, [14, 11, 13, 0, 1, 2, 3, 4, 5, 6, 7, 8, 9, 10, 11, 12, 13]⟩] true))
    (.region [
      ⟨(some 10), (.mv (.s 2)), none, []⟩,
      ⟨(some 11), (.bin .add (.s 10) (.c (.int .i64 1))), none, [0]⟩,
      ⟨(some 12), (.mv (.s 3)), none, []⟩,
      ⟨(some 13), (.bin .sub (.s 12) (.c (.int .i64 1))), none, [2]⟩,
      ⟨(some 2), (.mv (.s 11)), none, [1, 0, 1]⟩,
      ⟨(some 3), (.mv (.s 13)), none, [3, 4, 0, 1, 2, 3, 4]⟩] false)))))), true, none, none, false⟩

/-- euphroe/euphroeref01.Num -/
def k51 : Fun := ⟨1, 20, [0, 2, 3, 4, 8], [(.tmp 2)],
  (.seq (.region [
    ⟨(some 2), (.mv (.c (.int .u64 0))), none, []⟩] false)
  (.seq (.region [
    ⟨(some 3), (.mv (.c (.int .u64 0))), none, []⟩] false)
  (.seq (.seq (.region [
    ⟨(some 4), (.mv (.c (.int .i64 0))), none, []⟩] false)
  (.block 0
   (.loop ⟨0, [], false, [0, 3, 4], []⟩
    (.seq (.seq (.region [
      ⟨(some 5), (.mv (.s 4)), none, []⟩,
      ⟨(some 6), (.mv (.s 0)), none, []⟩,
      ⟨(some 7), (.len false (.s 6)), none, [1]⟩,
      ⟨(some 8), (.bin .lss (.s 5) (.s 7)), none, [0, 2]⟩] false)
    (.cond (.s 8)
     .skip
     (.pre ⟨0, [], false, [3], []⟩ (.exit 0))))
    (.seq (.block 1
     (.region [
       ⟨(some 11), (.mv (.s 3)), none, []⟩,
       ⟨(some 12), (.bin .mul (.s 11) (.c (.int .u64 256))), none, [0]⟩,
       ⟨(some 13), (.mv (.s 0)), none, []⟩,
       ⟨(some 14), (.mv (.s 4)), none, []⟩,
       ⟨(some 15), (.iad 1 (.s 13) (.s 14)), none, [2, 3]⟩,
       ⟨(some 16), (.ldc (.s 15)), none, [4]⟩,
       ⟨(some 17), (.cvi .u64 (.s 16)), none, [5]⟩,
       ⟨(some 18), (.bin .add (.s 12) (.s 17)), none, [1, 6]⟩,
       ⟨(some 3), (.mv (.s 18)), none, [7, 0, 1, 2, 3, 4, 5, 6, 7]⟩] false))
    (.region [
      ⟨(some 9), (.mv (.s 4)), none, []⟩,
      ⟨(some 10), (.bin .add (.s 9) (.c (.int .i64 1))), none, [0]⟩,
      ⟨(some 4), (.mv (.s 10)), none, [1, 0, 1]⟩] false))))))
  (.seq (.region [
    ⟨(some 19), (.mv (.s 3)), none, []⟩,
    ⟨(some 2), (.mv (.s 19)), none, [0, 0]⟩] false)
  .ret)))), false, (some [(Sh.sl (Sh.int .u8))]), (some (Sh.int .u64)), false⟩

/-- slices.Grow[[]byte,byte] -/
def k64 : Fun := ⟨2, 27, [0, 1, 4, 6, 16], [(.tmp 4)],
  (.seq (.region [
    ⟨(some 4), (.mv (.c .nils)), none, []⟩] false)
  (.seq (.seq (.region [
    ⟨(some 5), (.mv (.s 1)), none, []⟩,
    ⟨(some 6), (.bin .lss (.s 5) (.c (.int .i64 0))), none, [0]⟩] false)
  (.cond (.s 6)
   (.region [
     ⟨(some 7), .bad, none, []⟩,
     ⟨none, .bad, none, [0]⟩] false)
   .skip))
  (.seq (.seq (.region [
    ⟨(some 8), (.mv (.s 1)), none, []⟩,
    ⟨(some 9), (.mv (.s 0)), none, []⟩,
    ⟨(some 10), (.cap (.s 9)), none, [1]⟩,
    ⟨(some 11), (.mv (.s 0)), none, []⟩,
    ⟨(some 12), (.len false (.s 11)), none, [3]⟩,
    ⟨(some 13), (.bin .sub (.s 10) (.s 12)), none, [2, 4]⟩,
    ⟨(some 14), (.bin .sub (.s 8) (.s 13)), none, [0, 5]⟩,
    ⟨(some 1), (.mv (.s 14)), none, [6, 0, 1, 2, 3, 4, 5, 6]⟩] false)
  (.seq (.region [
    ⟨(some 15), (.mv (.s 1)), none, []⟩,
    ⟨(some 16), (.bin .gtr (.s 15) (.c (.int .i64 0))), none, [0]⟩] false)
  (.cond (.s 16)
   (.region [
     ⟨(some 17), (.mv (.s 0)), none, []⟩,
     ⟨(some 18), (.mv (.s 0)), none, []⟩,
     ⟨(some 19), (.cap (.s 18)), none, [1]⟩,
     ⟨(some 20), (.sls 1 (.s 17) none (some (.s 19)) none), none, [0, 2]⟩,
     ⟨(some 21), (.mv (.s 1)), none, []⟩,
     ⟨(some 22), (.apz 1 1 (.ints .u8 [0]) (.s 20) (.s 21)), none, [3, 4]⟩,
     ⟨(some 23), (.mv (.s 0)), none, []⟩,
     ⟨(some 24), (.len false (.s 23)), none, [6]⟩,
     ⟨(some 25), (.sls 1 (.s 22) none (some (.s 24)) none), none, [5, 7]⟩,
     ⟨(some 0), (.mv (.s 25)), none, [8, 5, 0, 1, 2, 3, 4, 5, 6, 7, 8]⟩] false)
   .skip)))
  (.seq (.region [
    ⟨(some 26), (.mv (.s 0)), none, []⟩,
    ⟨(some 4), (.mv (.s 26)), none, [0, 0]⟩] false)
  (.pre ⟨0, [], true, [], [(4, (.ints .u8 []), 1)]⟩ .ret))))), false, none, none, false⟩

/-- euphroe/attr.Lay -/
def k139 : Fun := ⟨1, 33, [0, 1, 2, 3, 4, 5, 11, 16], [(.tmp 2), (.tmp 3)],
  (.seq (.region [
    ⟨(some 1), (.box (.s 0)), none, []⟩,
    ⟨(some 2), (.mv (.c .nils)), none, []⟩,
    ⟨(some 3), (.mv (.c (.int .i64 0))), none, [1]⟩] false)
  (.seq (.region [
    ⟨(some 7), (.fad 1 (.s 1)), none, []⟩,
    ⟨(some 8), (.ldc (.s 7)), none, [0]⟩,
    ⟨(some 9), (.len false (.s 8)), none, [1]⟩,
    ⟨(some 10), (.bin .add (.c (.int .i64 4)) (.s 9)), none, [2]⟩,
    ⟨(some 4), (.mv (.s 10)), none, [3, 0, 1, 2, 3]⟩] false)
  (.seq (.block 0
   (.seq (.region [
     ⟨(some 12), (.fad 0 (.s 1)), none, []⟩,
     ⟨(some 13), (.ldc (.s 12)), none, [0]⟩,
     ⟨(some 14), (.call (.c (.fn 161 [])) [(.s 13)]), none, [1]⟩,
     ⟨(some 15), (.un .not (.s 14)), none, [2]⟩,
     ⟨(some 11), (.mv (.s 15)), none, [3, 2]⟩] false)
   (.cond (.s 11)
    (.seq (.region [
      ⟨(some 2), (.mv (.c .nils)), none, []⟩,
      ⟨(some 3), (.mv (.c (.int .i64 9))), none, [0, 0]⟩] false)
    .ret)
    (.seq (.region [
      ⟨(some 17), (.mv (.s 4)), none, []⟩,
      ⟨(some 18), (.bin .gtr (.s 17) (.c (.int .i64 4095))), none, [0]⟩,
      ⟨(some 16), (.mv (.s 18)), none, [1]⟩] false)
    (.cond (.s 16)
     (.seq (.region [
       ⟨(some 2), (.mv (.c .nils)), none, []⟩,
       ⟨(some 3), (.mv (.c (.int .i64 8))), none, [0, 0]⟩] false)
     .ret)
     .skip)))))
  (.seq (.region [
    ⟨(some 20), (.mv (.s 4)), none, []⟩,
    ⟨(some 21), (.cvi .u64 (.s 20)), none, [0]⟩,
    ⟨(some 22), (.call (.c (.fn 19 [])) [(.s 21), (.c (.int .i64 2)), (.c (.bool false))]), none, [1]⟩,
    ⟨(some 19), (.mv (.s 22)), none, [2]⟩,
    ⟨(some 23), (.ext (.s 19) 0), none, [3]⟩,
    ⟨(some 24), (.ext (.s 19) 1), none, [3]⟩,
    ⟨(some 5), (.mv (.s 23)), none, [4, 2, 0, 1, 2, 3, 4]⟩,
    ⟨(some 6), (.mv (.s 24)), none, [5, 6, 0, 1, 2, 3, 4, 5, 6]⟩] false)
  (.seq (.region [
    ⟨(some 25), (.fad 0 (.s 1)), none, []⟩,
    ⟨(some 26), (.ldc (.s 25)), none, [0]⟩,
    ⟨(some 27), (.bsl 2 1 (.ints .u8 [0, 0]) [(0, 1, (.c (.int .u8 0))), (1, 1, (.s 26))]), none, [1]⟩,
    ⟨(some 28), (.mv (.s 5)), none, []⟩,
    ⟨(some 29), (.fad 1 (.s 1)), none, []⟩,
    ⟨(some 30), (.ldc (.s 29)), none, [4]⟩,
    ⟨(some 31), (.bsl 3 1 (.vals [.nils, .nils, .nils]) [(0, 1, (.s 27)), (1, 1, (.s 28)), (2, 1, (.s 30))]), none, [2, 3, 5]⟩,
    ⟨(some 32), (.call (.c (.fn 46 [])) [(.s 31)]), none, [6]⟩,
    ⟨(some 2), (.mv (.s 32)), none, [7, 7, 0, 1, 2, 3, 4, 5, 6, 7]⟩,
    ⟨(some 3), (.mv (.c (.int .i64 0))), none, [8, 0, 1, 2, 3, 4, 5, 6, 7, 8]⟩] false)
  .ret))))), false, (some [(Sh.st (Sh.pr (Sh.int .u8) (Sh.sl (Sh.int .u8))))]), (some (Sh.tu (Sh.pr (Sh.sl (Sh.int .u8)) (Sh.int .i64)))), false⟩

/-- euphroe/attr.Parse -/
def k142 : Fun := ⟨1, 56, [0, 2, 3, 4, 5, 7, 10, 20, 34, 41], [(.cell 2 2 true none), (.tmp 3), (.tmp 4)],
  (.seq (.region [
    ⟨(some 2), (.new (.vals [(.int .u8 0), .nils])), none, []⟩,
    ⟨(some 3), (.mv (.c (.int .i64 0))), none, []⟩,
    ⟨(some 4), (.mv (.c (.int .i64 0))), none, [1]⟩] false)
  (.seq (.seq (.region [
    ⟨(some 8), (.mv (.s 0)), none, []⟩,
    ⟨(some 9), (.len false (.s 8)), none, [0]⟩,
    ⟨(some 10), (.bin .lss (.s 9) (.c (.int .i64 4))), none, [1]⟩] false)
  (.cond (.s 10)
   (.seq (.region [
     ⟨(some 11), (.build (.vals [(.int .u8 0), .nils]) []), none, []⟩,
     ⟨none, (.stc 2 (.s 2) (.s 11)), none, [0, 0]⟩,
     ⟨(some 3), (.mv (.c (.int .i64 0))), none, [1, 0, 1]⟩,
     ⟨(some 4), (.mv (.c (.int .i64 4))), none, [2, 0, 1, 2]⟩] false)
   .ret)
   .skip))
  (.seq (.region [
    ⟨(some 13), (.mv (.s 0)), none, []⟩,
    ⟨(some 14), (.sls 1 (.s 13) (some (.c (.int .i64 2))) (some (.c (.int .i64 4))) none), none, [0]⟩,
    ⟨(some 15), (.call (.c (.fn 21 [])) [(.s 14), (.c (.bool false))]), none, [1]⟩,
    ⟨(some 12), (.mv (.s 15)), none, [2]⟩,
    ⟨(some 16), (.ext (.s 12) 0), none, [3]⟩,
    ⟨(some 17), (.ext (.s 12) 1), none, [3]⟩,
    ⟨(some 5), (.mv (.s 16)), none, [4, 2, 0, 1, 2, 3, 4]⟩,
    ⟨(some 6), (.mv (.s 17)), none, [5, 6, 0, 1, 2, 3, 4, 5, 6]⟩] false)
  (.seq (.region [
    ⟨(some 18), (.mv (.s 5)), none, []⟩,
    ⟨(some 19), (.cvi .i64 (.s 18)), none, [0]⟩,
    ⟨(some 7), (.mv (.s 19)), none, [1, 0, 1]⟩] false)
  (.seq (.block 0
   (.seq (.region [
     ⟨(some 21), (.mv (.s 0)), none, []⟩,
     ⟨(some 22), (.iad 1 (.s 21) (.c (.int .i64 0))), none, [0]⟩,
     ⟨(some 23), (.ldc (.s 22)), none, [1]⟩,
     ⟨(some 24), (.bin .neq (.s 23) (.c (.int .u8 0))), none, [2]⟩,
     ⟨(some 25), (.mv (.s 24)), none, [3]⟩,
     ⟨(some 26), (.mv (.s 7)), (some (25, false)), [4]⟩,
     ⟨(some 27), (.bin .lss (.s 26) (.c (.int .i64 4))), (some (25, false)), [5, 4]⟩,
     ⟨(some 28), (.pick (.s 25) (.c (.bool true)) (.s 27)), none, [4, 6]⟩,
     ⟨(some 29), (.mv (.s 28)), none, [7, 4]⟩,
     ⟨(some 30), (.mv (.s 7)), (some (29, false)), [8]⟩,
     ⟨(some 31), (.bin .gtr (.s 30) (.c (.int .i64 4095))), (some (29, false)), [9, 8]⟩,
     ⟨(some 32), (.pick (.s 29) (.c (.bool true)) (.s 31)), none, [8, 10]⟩,
     ⟨(some 20), (.mv (.s 32)), none, [11, 8]⟩] false)
   (.cond (.s 20)
    (.seq (.region [
      ⟨(some 33), (.build (.vals [(.int .u8 0), .nils]) []), none, []⟩,
      ⟨none, (.stc 2 (.s 2) (.s 33)), none, [0, 0]⟩,
      ⟨(some 3), (.mv (.c (.int .i64 0))), none, [1, 0, 1]⟩,
      ⟨(some 4), (.mv (.c (.int .i64 3))), none, [2, 0, 1, 2]⟩] false)
    .ret)
    (.seq (.region [
      ⟨(some 35), (.mv (.s 0)), none, []⟩,
      ⟨(some 36), (.iad 1 (.s 35) (.c (.int .i64 1))), none, [0]⟩,
      ⟨(some 37), (.ldc (.s 36)), none, [1]⟩,
      ⟨(some 38), (.call (.c (.fn 161 [])) [(.s 37)]), none, [2]⟩,
      ⟨(some 39), (.un .not (.s 38)), none, [3]⟩,
      ⟨(some 34), (.mv (.s 39)), none, [4, 3]⟩] false)
    (.cond (.s 34)
     (.seq (.region [
       ⟨(some 40), (.build (.vals [(.int .u8 0), .nils]) []), none, []⟩,
       ⟨none, (.stc 2 (.s 2) (.s 40)), none, [0, 0]⟩,
       ⟨(some 3), (.mv (.c (.int .i64 0))), none, [1, 0, 1]⟩,
       ⟨(some 4), (.mv (.c (.int .i64 9))), none, [2, 0, 1, 2]⟩] false)
     .ret)
     (.seq (.region [
       ⟨(some 42), (.mv (.s 0)), none, []⟩,
       ⟨(some 43), (.len false (.s 42)), none, [0]⟩,
       ⟨(some 44), (.mv (.s 7)), none, []⟩,
       ⟨(some 45), (.bin .lss (.s 43) (.s 44)), none, [1, 2]⟩,
       ⟨(some 41), (.mv (.s 45)), none, [3]⟩] false)
     (.cond (.s 41)
      (.seq (.region [
        ⟨(some 46), (.build (.vals [(.int .u8 0), .nils]) []), none, []⟩,
        ⟨none, (.stc 2 (.s 2) (.s 46)), none, [0, 0]⟩,
        ⟨(some 3), (.mv (.c (.int .i64 0))), none, [1, 0, 1]⟩,
        ⟨(some 4), (.mv (.c (.int .i64 4))), none, [2, 0, 1, 2]⟩] false)
      .ret)
      .skip)))))))
  (.seq (.region [
    ⟨(some 47), (.mv (.s 0)), none, []⟩,
    ⟨(some 48), (.iad 1 (.s 47) (.c (.int .i64 1))), none, [0]⟩,
    ⟨(some 49), (.ldc (.s 48)), none, [1]⟩,
    ⟨(some 50), (.mv (.s 0)), none, []⟩,
    ⟨(some 51), (.mv (.s 7)), none, []⟩,
    ⟨(some 52), (.sls 1 (.s 50) (some (.c (.int .i64 4))) (some (.s 51)) none), none, [3, 4]⟩,
    ⟨(some 53), (.call (.c (.fn 108 [])) [(.s 52)]), none, [5]⟩,
    ⟨(some 54), (.build (.vals [(.int .u8 0), .nils]) [(0, 1, (.s 49)), (1, 1, (.s 53))]), none, [2, 6]⟩,
    ⟨(some 55), (.mv (.s 7)), none, []⟩,
    ⟨none, (.stc 2 (.s 2) (.s 54)), none, [7, 6, 0, 1, 2, 3, 4, 5, 6, 7]⟩,
    ⟨(some 3), (.mv (.s 55)), none, [8, 9, 0, 1, 2, 3, 4, 5, 6, 7, 8, 9]⟩,
    ⟨(some 4), (.mv (.c (.int .i64 0))), none, [10, 0, 1, 2, 3, 4, 5, 6, 7, 8, 9, 10]⟩] true)
  .ret)))))), false, (some [(Sh.sl (Sh.int .u8))]), (some (Sh.tu (Sh.pr (Sh.st (Sh.pr (Sh.int .u8) (Sh.sl (Sh.int .u8)))) (Sh.pr (Sh.int .i64) (Sh.int .i64))))), false⟩

/-- euphroe/euphroeref17.Parse -/
def k143 : Fun := ⟨1, 46, [0, 2, 3, 4, 5, 8, 25, 31, 36], [(.cell 2 2 true none), (.tmp 3), (.tmp 4)],
  (.seq (.region [
    ⟨(some 2), (.new (.vals [(.int .u8 0), .nils])), none, []⟩,
    ⟨(some 3), (.mv (.c (.int .i64 0))), none, []⟩,
    ⟨(some 4), (.mv (.c (.int .i64 0))), none, [1]⟩] false)
  (.seq (.seq (.region [
    ⟨(some 6), (.mv (.s 0)), none, []⟩,
    ⟨(some 7), (.len false (.s 6)), none, [0]⟩,
    ⟨(some 8), (.bin .lss (.s 7) (.c (.int .i64 4))), none, [1]⟩] false)
  (.cond (.s 8)
   (.seq (.region [
     ⟨(some 9), (.build (.vals [(.int .u8 0), .nils]) []), none, []⟩,
     ⟨none, (.stc 2 (.s 2) (.s 9)), none, [0, 0]⟩,
     ⟨(some 3), (.mv (.c (.int .i64 0))), none, [1, 0, 1]⟩,
     ⟨(some 4), (.mv (.c (.int .i64 4))), none, [2, 0, 1, 2]⟩] false)
   .ret)
   .skip))
  (.seq (.region [
    ⟨(some 10), (.mv (.s 0)), none, []⟩,
    ⟨(some 11), (.sls 1 (.s 10) (some (.c (.int .i64 2))) (some (.c (.int .i64 4))) none), none, [0]⟩,
    ⟨(some 12), (.call (.c (.fn 51 [])) [(.s 11)]), none, [1]⟩,
    ⟨(some 13), (.cvi .i64 (.s 12)), none, [2]⟩,
    ⟨(some 5), (.mv (.s 13)), none, [3, 2, 0, 1, 2, 3]⟩] false)
  (.seq (.seq (.region [
    ⟨(some 14), (.mv (.s 0)), none, []⟩,
    ⟨(some 15), (.iad 1 (.s 14) (.c (.int .i64 0))), none, [0]⟩,
    ⟨(some 16), (.ldc (.s 15)), none, [1]⟩,
    ⟨(some 17), (.bin .neq (.s 16) (.c (.int .u8 0))), none, [2]⟩,
    ⟨(some 18), (.mv (.s 17)), none, [3]⟩,
    ⟨(some 19), (.mv (.s 5)), (some (18, false)), [4]⟩,
    ⟨(some 20), (.bin .lss (.s 19) (.c (.int .i64 4))), (some (18, false)), [5, 4]⟩,
    ⟨(some 21), (.pick (.s 18) (.c (.bool true)) (.s 20)), none, [4, 6]⟩,
    ⟨(some 22), (.mv (.s 21)), none, [7, 4]⟩,
    ⟨(some 23), (.mv (.s 5)), (some (22, false)), [8]⟩,
    ⟨(some 24), (.bin .gtr (.s 23) (.c (.int .i64 4095))), (some (22, false)), [9, 8]⟩,
    ⟨(some 25), (.pick (.s 22) (.c (.bool true)) (.s 24)), none, [8, 10]⟩] false)
  (.cond (.s 25)
   (.seq (.region [
     ⟨(some 26), (.build (.vals [(.int .u8 0), .nils]) []), none, []⟩,
     ⟨none, (.stc 2 (.s 2) (.s 26)), none, [0, 0]⟩,
     ⟨(some 3), (.mv (.c (.int .i64 0))), none, [1, 0, 1]⟩,
     ⟨(some 4), (.mv (.c (.int .i64 3))), none, [2, 0, 1, 2]⟩] false)
   .ret)
   .skip))
  (.seq (.seq (.region [
    ⟨(some 27), (.mv (.s 0)), none, []⟩,
    ⟨(some 28), (.iad 1 (.s 27) (.c (.int .i64 1))), none, [0]⟩,
    ⟨(some 29), (.ldc (.s 28)), none, [1]⟩,
    ⟨(some 30), (.call (.c (.fn 162 [])) [(.s 29)]), none, [2]⟩,
    ⟨(some 31), (.un .not (.s 30)), none, [3]⟩] false)
  (.cond (.s 31)
   (.seq (.region [
     ⟨(some 32), (.build (.vals [(.int .u8 0), .nils]) []), none, []⟩,
     ⟨none, (.stc 2 (.s 2) (.s 32)), none, [0, 0]⟩,
     ⟨(some 3), (.mv (.c (.int .i64 0))), none, [1, 0, 1]⟩,
     ⟨(some 4), (.mv (.c (.int .i64 9))), none, [2, 0, 1, 2]⟩] false)
   .ret)
   .skip))
  (.seq (.seq (.region [
    ⟨(some 33), (.mv (.s 0)), none, []⟩,
    ⟨(some 34), (.len false (.s 33)), none, [0]⟩,
    ⟨(some 35), (.mv (.s 5)), none, []⟩,
    ⟨(some 36), (.bin .lss (.s 34) (.s 35)), none, [1, 2]⟩] false)
  (.cond (.s 36)
   (.seq (.region [
     ⟨(some 37), (.build (.vals [(.int .u8 0), .nils]) []), none, []⟩,
     ⟨none, (.stc 2 (.s 2) (.s 37)), none, [0, 0]⟩,
     ⟨(some 3), (.mv (.c (.int .i64 0))), none, [1, 0, 1]⟩,
     ⟨(some 4), (.mv (.c (.int .i64 4))), none, [2, 0, 1, 2]⟩] false)
   .ret)
   .skip))
  (.seq (.region [
    ⟨(some 38), (.mv (.s 0)), none, []⟩,
    ⟨(some 39), (.iad 1 (.s 38) (.c (.int .i64 1))), none, [0]⟩,
    ⟨(some 40), (.ldc (.s 39)), none, [1]⟩,
    ⟨(some 41), (.mv (.s 0)), none, []⟩,
    ⟨(some 42), (.mv (.s 5)), none, []⟩,
    ⟨(some 43), (.sls 1 (.s 41) (some (.c (.int .i64 4))) (some (.s 42)) none), none, [3, 4]⟩,
    ⟨(some 44), (.build (.vals [(.int .u8 0), .nils]) [(0, 1, (.s 40)), (1, 1, (.s 43))]), none, [2, 5]⟩,
    ⟨(some 45), (.mv (.s 5)), none, []⟩,
    ⟨none, (.stc 2 (.s 2) (.s 44)), none, [6, 0, 1, 2, 3, 4, 5, 6]⟩,
    ⟨(some 3), (.mv (.s 45)), none, [7, 8, 0, 1, 2, 3, 4, 5, 6, 7, 8]⟩,
    ⟨(some 4), (.mv (.c (.int .i64 0))), none, [9, 0, 1, 2, 3, 4, 5, 6, 7, 8, 9]⟩] true)
  .ret))))))), false, (some [(Sh.sl (Sh.int .u8))]), (some (Sh.tu (Sh.pr (Sh.st (Sh.pr (Sh.int .u8) (Sh.sl (Sh.int .u8)))) (Sh.pr (Sh.int .i64) (Sh.int .i64))))), false⟩

/-- euphroe/attr.Same -/
def k144 : Fun := ⟨2, 17, [0, 1, 2, 3, 4], [(.tmp 4)],
  (.seq (.region [
    ⟨(some 2), (.box (.s 0)), none, []⟩,
    ⟨(some 3), (.box (.s 1)), none, []⟩,
    ⟨(some 4), (.mv (.c (.bool false))), none, []⟩] false)
  (.seq (.region [
    ⟨(some 5), (.fad 0 (.s 2)), none, []⟩,
    ⟨(some 6), (.ldc (.s 5)), none, [0]⟩,
    ⟨(some 7), (.fad 0 (.s 3)), none, []⟩,
    ⟨(some 8), (.ldc (.s 7)), none, [2]⟩,
    ⟨(some 9), (.bin .eql (.s 6) (.s 8)), none, [1, 3]⟩,
    ⟨(some 10), (.mv (.s 9)), none, [4]⟩,
    ⟨(some 11), (.fad 1 (.s 2)), (some (10, true)), [5]⟩,
    ⟨(some 12), (.ldc (.s 11)), (some (10, true)), [6, 5]⟩,
    ⟨(some 13), (.fad 1 (.s 3)), (some (10, true)), [5]⟩,
    ⟨(some 14), (.ldc (.s 13)), (some (10, true)), [8, 5]⟩,
    ⟨(some 15), (.call (.c (.fn 160 [])) [(.s 12), (.s 14)]), (some (10, true)), [7, 9, 5, 5]⟩,
    ⟨(some 16), (.pick (.s 10) (.s 15) (.c (.bool false))), none, [5, 10]⟩,
    ⟨(some 4), (.mv (.s 16)), none, [11, 10, 0, 1, 2, 3, 4, 5, 6, 7, 8, 9, 10, 11]⟩] false)
  .ret)), false, (some [(Sh.st (Sh.pr (Sh.int .u8) (Sh.sl (Sh.int .u8)))), (Sh.st (Sh.pr (Sh.int .u8) (Sh.sl (Sh.int .u8))))]), (some Sh.bool), false⟩

/-- bytes.Equal -/
def k160 : Fun := ⟨2, 10, [0, 1, 4], [(.tmp 4)],
  (.seq (.region [
    ⟨(some 4), (.mv (.c (.bool false))), none, []⟩] false)
  (.seq (.region [
    ⟨(some 5), (.mv (.s 0)), none, []⟩,
    ⟨(some 6), (.b2s (.s 5)), none, [0]⟩,
    ⟨(some 7), (.mv (.s 1)), none, []⟩,
    ⟨(some 8), (.b2s (.s 7)), none, [2]⟩,
    ⟨(some 9), (.bin .eql (.s 6) (.s 8)), none, [1, 3]⟩,
    ⟨(some 4), (.mv (.s 9)), none, [4, 0, 1, 2, 3, 4]⟩] false)
  .ret)), false, (some [(Sh.sl (Sh.int .u8)), (Sh.sl (Sh.int .u8))]), (some Sh.bool), false⟩

/-- euphroe/attr.isKind -/
def k161 : Fun := ⟨1, 9, [0, 2], [(.tmp 2)],
  (.seq (.region [
    ⟨(some 2), (.mv (.c (.bool false))), none, []⟩] false)
  (.seq (.region [
    ⟨(some 3), (.mv (.s 0)), none, []⟩,
    ⟨(some 4), (.bin .geq (.s 3) (.c (.int .u8 1))), none, [0]⟩,
    ⟨(some 5), (.mv (.s 4)), none, [1]⟩,
    ⟨(some 6), (.mv (.s 0)), (some (5, true)), [2]⟩,
    ⟨(some 7), (.bin .leq (.s 6) (.c (.int .u8 4))), (some (5, true)), [3, 2]⟩,
    ⟨(some 8), (.pick (.s 5) (.s 7) (.c (.bool false))), none, [2, 4]⟩,
    ⟨(some 2), (.mv (.s 8)), none, [5, 2, 0, 1, 2, 3, 4, 5]⟩] false)
  .ret)), false, (some [(Sh.int .u8)]), (some Sh.bool), false⟩

/-- euphroe/euphroeref17.kind -/
def k162 : Fun := ⟨1, 9, [0, 2], [(.tmp 2)],
  (.seq (.region [
    ⟨(some 2), (.mv (.c (.bool false))), none, []⟩] false)
  (.seq (.region [
    ⟨(some 3), (.mv (.s 0)), none, []⟩,
    ⟨(some 4), (.bin .geq (.s 3) (.c (.int .u8 1))), none, [0]⟩,
    ⟨(some 5), (.mv (.s 4)), none, [1]⟩,
    ⟨(some 6), (.mv (.s 0)), (some (5, true)), [2]⟩,
    ⟨(some 7), (.bin .leq (.s 6) (.c (.int .u8 4))), (some (5, true)), [3, 2]⟩,
    ⟨(some 8), (.pick (.s 5) (.s 7) (.c (.bool false))), none, [2, 4]⟩,
    ⟨(some 2), (.mv (.s 8)), none, [5, 2, 0, 1, 2, 3, 4, 5]⟩] false)
  .ret)), false, (some [(Sh.int .u8)]), (some Sh.bool), false⟩

/-- euphroe/packet.Same -/
def k302 : Fun := ⟨2, 31, [0, 1, 2, 3, 4], [(.tmp 4)],
  (.seq (.region [
    ⟨(some 2), (.box (.s 0)), none, []⟩,
    ⟨(some 3), (.box (.s 1)), none, []⟩,
    ⟨(some 4), (.mv (.c (.bool false))), none, []⟩] false)
  (.seq (.region [
    ⟨(some 5), (.fad 0 (.s 2)), none, []⟩,
    ⟨(some 6), (.ldc (.s 5)), none, [0]⟩,
    ⟨(some 7), (.fad 0 (.s 3)), none, []⟩,
    ⟨(some 8), (.ldc (.s 7)), none, [2]⟩,
    ⟨(some 9), (.eqn .b false (.s 6) (.s 8)), none, [1, 3]⟩,
    ⟨(some 10), (.mv (.s 9)), none, [4]⟩,
    ⟨(some 11), (.fad 1 (.s 2)), (some (10, true)), [5]⟩,
    ⟨(some 12), (.ldc (.s 11)), (some (10, true)), [6, 5]⟩,
    ⟨(some 13), (.fad 1 (.s 3)), (some (10, true)), [5]⟩,
    ⟨(some 14), (.ldc (.s 13)), (some (10, true)), [8, 5]⟩,
    ⟨(some 15), (.bin .eql (.s 12) (.s 14)), (some (10, true)), [7, 9, 5]⟩,
    ⟨(some 16), (.pick (.s 10) (.s 15) (.c (.bool false))), none, [5, 10]⟩,
    ⟨(some 17), (.mv (.s 16)), none, [11, 5]⟩,
    ⟨(some 18), (.fad 2 (.s 2)), (some (17, true)), [12]⟩,
    ⟨(some 19), (.ldc (.s 18)), (some (17, true)), [13, 12]⟩,
    ⟨(some 20), (.fad 2 (.s 3)), (some (17, true)), [12]⟩,
    ⟨(some 21), (.ldc (.s 20)), (some (17, true)), [15, 12]⟩,
    ⟨(some 22), (.call (.c (.fn 313 [])) [(.s 19), (.s 21), (.c (.fn 144 []))]), (some (17, true)), [14, 16, 12, 12]⟩,
    ⟨(some 23), (.pick (.s 17) (.s 22) (.c (.bool false))), none, [12, 17]⟩,
    ⟨(some 24), (.mv (.s 23)), none, [18, 17]⟩,
    ⟨(some 25), (.fad 3 (.s 2)), (some (24, true)), [19]⟩,
    ⟨(some 26), (.ldc (.s 25)), (some (24, true)), [20, 19]⟩,
    ⟨(some 27), (.fad 3 (.s 3)), (some (24, true)), [19]⟩,
    ⟨(some 28), (.ldc (.s 27)), (some (24, true)), [22, 19]⟩,
    ⟨(some 29), (.call (.c (.fn 160 [])) [(.s 26), (.s 28)]), (some (24, true)), [21, 23, 19, 19]⟩,
    ⟨(some 30), (.pick (.s 24) (.s 29) (.c (.bool false))), none, [19, 24]⟩,
    ⟨(some 4), (.mv (.s 30)), none, [25, 24, 0, 1, 2, 3, 4, 5, 6, 7, 8, 9, 10, 11, 12, 13, 14, 15, 16, 17, 18, 19, 20, 21, 22, 23, 24, 25]⟩] false)
  .ret)), false, (some [(Sh.st (Sh.pr Sh.bool (Sh.pr (Sh.int .u16) (Sh.pr (Sh.sl (Sh.pr (Sh.int .u8) (Sh.sl (Sh.int .u8)))) (Sh.sl (Sh.int .u8)))))), (Sh.st (Sh.pr Sh.bool (Sh.pr (Sh.int .u16) (Sh.pr (Sh.sl (Sh.pr (Sh.int .u8) (Sh.sl (Sh.int .u8)))) (Sh.sl (Sh.int .u8))))))]), (some Sh.bool), false⟩

/-- slices.EqualFunc[[]euphroe/api.Attr,[]euphroe/api.Attr,euphroe/api.Attr,euphroe/api.Attr] -/
def k313 : Fun := ⟨3, 32, [0, 1, 2, 6, 7, 8, 9, 14, 15, 16, 17, 18, 30], [(.tmp 6)],
  (.seq (.region [
    ⟨(some 6), (.mv (.c (.bool false))), none, []⟩] false)
  (.seq (.seq (.region [
    ⟨(some 10), (.mv (.s 0)), none, []⟩,
    ⟨(some 11), (.len false (.s 10)), none, [0]⟩,
    ⟨(some 12), (.mv (.s 1)), none, []⟩,
    ⟨(some 13), (.len false (.s 12)), none, [2]⟩,
    ⟨(some 14), (.bin .neq (.s 11) (.s 13)), none, [1, 3]⟩] false)
  (.cond (.s 14)
   (.seq (.region [
     ⟨(some 6), (.mv (.c (.bool false))), none, []⟩] false)
   .ret)
   .skip))
  (.seq (.seq (.region [
    ⟨(some 15), (.mv (.s 0)), none, []⟩,
    ⟨(some 16), (.len false (.s 15)), none, [0]⟩,
    ⟨(some 17), (.mv (.c (.int .i64 0))), none, []⟩] false)
  (.block 0
   (.loop ⟨0, [], false, [1, 2, 15, 16, 17], []⟩
    (.seq (.region [
      ⟨(some 18), (.bin .lss (.s 17) (.s 16)), none, []⟩] false)
    (.seq (.cond (.s 18)
     .skip
     (.pre ⟨0, [], false, [], []⟩ (.exit 0)))
    (.seq (.block 1
     (.seq (.region [
       ⟨(some 19), (.mv (.s 17)), none, []⟩,
       ⟨(some 20), (.iad 2 (.s 15) (.s 17)), none, []⟩,
       ⟨(some 21), (.lda 2 none (.s 20)), none, [1]⟩,
       ⟨(some 8), (.new (.vals [(.int .u8 0), .nils])), none, []⟩,
       ⟨(some 7), (.mv (.s 19)), none, [0, 0, 1, 2, 3]⟩,
       ⟨none, (.stc 2 (.s 8) (.s 21)), none, [3, 2, 4, 0, 1, 2, 3, 4]⟩] false)
     (.seq (.region [
       ⟨(some 22), (.mv (.s 1)), none, []⟩,
       ⟨(some 23), (.mv (.s 7)), none, []⟩,
       ⟨(some 24), (.iad 2 (.s 22) (.s 23)), none, [0, 1]⟩,
       ⟨(some 25), (.lda 2 none (.s 24)), none, [2]⟩,
       ⟨(some 9), (.new (.vals [(.int .u8 0), .nils])), none, []⟩,
       ⟨none, (.stc 2 (.s 9) (.s 25)), none, [4, 3, 0, 1, 2, 3, 4]⟩] false)
     (.seq (.region [
       ⟨(some 26), (.mv (.s 2)), none, []⟩,
       ⟨(some 27), (.lda 2 none (.s 8)), none, []⟩,
       ⟨(some 28), (.lda 2 none (.s 9)), none, []⟩,
       ⟨(some 29), (.call (.s 26) [(.s 27), (.s 28)]), none, [0, 1, 2]⟩,
       ⟨(some 30), (.un .not (.s 29)), none, [3]⟩] false)
     (.cond (.s 30)
      (.seq (.region [
        ⟨(some 6), (.mv (.c (.bool false))), none, []⟩] false)
      .ret)
      .skip)))))
    (.region [
      ⟨(some 31), (.bin .add (.s 17) (.c (.int .i64 1))), none, []⟩,
      ⟨(some 17), (.mv (.s 31)), none, [0]⟩] false)))))))
  (.seq (.region [
    ⟨(some 6), (.mv (.c (.bool true))), none, []⟩] false)
  .ret)))), false, none, none, false⟩

/-- euphroe/packet.Of -/
def k316 : Fun := ⟨2, 9, [0, 1, 4], [(.cell 4 4 true none)],
  (.seq (.region [
    ⟨(some 4), (.new (.vals [(.bool false), (.int .u16 0), .nils, .nils])), none, []⟩] false)
  (.seq (.region [
    ⟨(some 5), (.mv (.s 0)), none, []⟩,
    ⟨(some 6), (.mv (.s 1)), none, []⟩,
    ⟨(some 7), (.call (.c (.fn 320 [])) [(.s 6)]), none, [1]⟩,
    ⟨(some 8), (.build (.vals [(.bool false), (.int .u16 0), .nils, .nils]) [(0, 1, (.c (.bool true))), (1, 1, (.s 5)), (2, 1, (.s 7))]), none, [0, 2]⟩,
    ⟨none, (.stc 4 (.s 4) (.s 8)), none, [3, 2, 0, 1, 2, 3]⟩] false)
  .ret)), false, (some [(Sh.int .u16), (Sh.sl (Sh.pr (Sh.int .u8) (Sh.sl (Sh.int .u8))))]), (some (Sh.st (Sh.pr Sh.bool (Sh.pr (Sh.int .u16) (Sh.pr (Sh.sl (Sh.pr (Sh.int .u8) (Sh.sl (Sh.int .u8)))) (Sh.sl (Sh.int .u8))))))), false⟩

/-- euphroe/packet.Lay -/
def k317 : Fun := ⟨1, 32, [0, 1, 2, 3, 4, 5, 6, 12, 16, 22], [(.tmp 2), (.tmp 3)],
  (.seq (.region [
    ⟨(some 1), (.box (.s 0)), none, []⟩,
    ⟨(some 2), (.mv (.c .nils)), none, []⟩,
    ⟨(some 3), (.mv (.c (.int .i64 0))), none, [1]⟩] false)
  (.seq (.region [
    ⟨(some 8), (.lda 4 none (.s 1)), none, []⟩,
    ⟨(some 9), (.call (.c (.fn 321 [])) [(.s 8)]), none, [0]⟩,
    ⟨(some 7), (.mv (.s 9)), none, [1]⟩,
    ⟨(some 10), (.ext (.s 7) 0), none, [2]⟩,
    ⟨(some 11), (.ext (.s 7) 1), none, [2]⟩,
    ⟨(some 4), (.mv (.s 10)), none, [3, 1, 0, 1, 2, 3]⟩,
    ⟨(some 5), (.mv (.s 11)), none, [4, 5, 0, 1, 2, 3, 4, 5]⟩] false)
  (.seq (.block 0
   (.seq (.region [
     ⟨(some 13), (.mv (.s 5)), none, []⟩,
     ⟨(some 14), (.bin .neq (.s 13) (.c (.int .i64 0))), none, [0]⟩,
     ⟨(some 12), (.mv (.s 14)), none, [1]⟩] false)
   (.cond (.s 12)
    (.seq (.region [
      ⟨(some 15), (.mv (.s 5)), none, []⟩,
      ⟨(some 2), (.mv (.c .nils)), none, []⟩,
      ⟨(some 3), (.mv (.s 15)), none, [0, 1, 0, 1]⟩] false)
    .ret)
    (.seq (.region [
      ⟨(some 17), (.mv (.s 4)), none, []⟩,
      ⟨(some 18), (.len false (.s 17)), none, [0]⟩,
      ⟨(some 19), (.bin .add (.c (.int .i64 4)) (.s 18)), none, [1]⟩,
      ⟨(some 20), (.bin .gtr (.s 19) (.c (.int .i64 4095))), none, [2]⟩,
      ⟨(some 16), (.mv (.s 20)), none, [3]⟩] false)
    (.cond (.s 16)
     (.seq (.region [
       ⟨(some 2), (.mv (.c .nils)), none, []⟩,
       ⟨(some 3), (.mv (.c (.int .i64 8))), none, [0, 0]⟩] false)
     .ret)
     .skip)))))
  (.seq (.region [
    ⟨(some 6), (.mv (.c (.int .u8 0))), none, []⟩] false)
  (.seq (.seq (.region [
    ⟨(some 21), (.fad 0 (.s 1)), none, []⟩,
    ⟨(some 22), (.ldc (.s 21)), none, [0]⟩] false)
  (.cond (.s 22)
   (.region [
     ⟨(some 6), (.mv (.c (.int .u8 1))), none, []⟩] false)
   .skip))
  (.seq (.region [
    ⟨(some 23), (.mv (.s 6)), none, []⟩,
    ⟨(some 24), (.bsl 2 1 (.ints .u8 [0, 0]) [(0, 1, (.c (.int .u8 16))), (1, 1, (.s 23))]), none, [0]⟩,
    ⟨(some 25), (.mv (.s 4)), none, []⟩,
    ⟨(some 26), (.len false (.s 25)), none, [2]⟩,
    ⟨(some 27), (.bin .add (.c (.int .i64 4)) (.s 26)), none, [3]⟩,
    ⟨(some 28), (.call (.c (.fn 322 [])) [(.s 27)]), none, [4]⟩,
    ⟨(some 29), (.mv (.s 4)), none, []⟩,
    ⟨(some 30), (.bsl 3 1 (.vals [.nils, .nils, .nils]) [(0, 1, (.s 24)), (1, 1, (.s 28)), (2, 1, (.s 29))]), none, [1, 5, 6]⟩,
    ⟨(some 31), (.call (.c (.fn 46 [])) [(.s 30)]), none, [7, 5]⟩,
    ⟨(some 2), (.mv (.s 31)), none, [8, 8, 0, 1, 2, 3, 4, 5, 6, 7, 8]⟩,
    ⟨(some 3), (.mv (.c (.int .i64 0))), none, [9, 0, 1, 2, 3, 4, 5, 6, 7, 8, 9]⟩] false)
  .ret)))))), false, (some [(Sh.st (Sh.pr Sh.bool (Sh.pr (Sh.int .u16) (Sh.pr (Sh.sl (Sh.pr (Sh.int .u8) (Sh.sl (Sh.int .u8)))) (Sh.sl (Sh.int .u8))))))]), (some (Sh.tu (Sh.pr (Sh.sl (Sh.int .u8)) (Sh.int .i64)))), false⟩

/-- euphroe/packet.body -/
def k321 : Fun := ⟨1, 60, [0, 1, 2, 3, 4, 6, 7, 8, 9, 19, 25, 41, 42, 43, 44, 53], [(.tmp 2), (.tmp 3)],
  (.seq (.region [
    ⟨(some 1), (.box (.s 0)), none, []⟩,
    ⟨(some 2), (.mv (.c .nils)), none, []⟩,
    ⟨(some 3), (.mv (.c (.int .i64 0))), none, [1]⟩] false)
  (.seq (.block 0
   (.seq (.region [
     ⟨(some 10), (.fad 0 (.s 1)), none, []⟩,
     ⟨(some 11), (.ldc (.s 10)), none, [0]⟩,
     ⟨(some 12), (.un .not (.s 11)), none, [1]⟩,
     ⟨(some 13), (.mv (.s 12)), none, [2]⟩,
     ⟨(some 14), (.fad 3 (.s 1)), (some (13, true)), [3]⟩,
     ⟨(some 15), (.ldc (.s 14)), (some (13, true)), [4, 3]⟩,
     ⟨(some 16), (.len false (.s 15)), (some (13, true)), [5, 3]⟩,
     ⟨(some 17), (.bin .eql (.s 16) (.c (.int .i64 0))), (some (13, true)), [6, 3]⟩,
     ⟨(some 18), (.pick (.s 13) (.s 17) (.c (.bool false))), none, [3, 7]⟩,
     ⟨(some 9), (.mv (.s 18)), none, [8, 3]⟩] false)
   (.cond (.s 9)
    (.seq (.region [
      ⟨(some 2), (.mv (.c .nils)), none, []⟩,
      ⟨(some 3), (.mv (.c (.int .i64 4))), none, [0, 0]⟩] false)
    .ret)
    (.seq (.region [
      ⟨(some 20), (.fad 0 (.s 1)), none, []⟩,
      ⟨(some 21), (.ldc (.s 20)), none, [0]⟩,
      ⟨(some 22), (.un .not (.s 21)), none, [1]⟩,
      ⟨(some 19), (.mv (.s 22)), none, [2]⟩] false)
    (.cond (.s 19)
     (.seq (.region [
       ⟨(some 23), (.fad 3 (.s 1)), none, []⟩,
       ⟨(some 24), (.ldc (.s 23)), none, [0]⟩,
       ⟨(some 2), (.mv (.s 24)), none, [1, 0, 1]⟩,
       ⟨(some 3), (.mv (.c (.int .i64 0))), none, [2, 0, 1, 2]⟩] false)
     .ret)
     (.seq (.region [
       ⟨(some 26), (.fad 2 (.s 1)), none, []⟩,
       ⟨(some 27), (.ldc (.s 26)), none, [0]⟩,
       ⟨(some 28), (.len false (.s 27)), none, [1]⟩,
       ⟨(some 29), (.bin .gtr (.s 28) (.c (.int .i64 8))), none, [2]⟩,
       ⟨(some 25), (.mv (.s 29)), none, [3]⟩] false)
     (.cond (.s 25)
      (.seq (.region [
        ⟨(some 2), (.mv (.c .nils)), none, []⟩,
        ⟨(some 3), (.mv (.c (.int .i64 5))), none, [0, 0]⟩] false)
      .ret)
      .skip)))))))
  (.seq (.region [
    ⟨(some 30), (.fad 1 (.s 1)), none, []⟩,
    ⟨(some 31), (.ldc (.s 30)), none, [0]⟩,
    ⟨(some 32), (.cvi .i64 (.s 31)), none, [1]⟩,
    ⟨(some 33), (.call (.c (.fn 322 [])) [(.s 32)]), none, [2]⟩,
    ⟨(some 34), (.fad 2 (.s 1)), none, []⟩,
    ⟨(some 35), (.ldc (.s 34)), none, [4]⟩,
    ⟨(some 36), (.len false (.s 35)), none, [5]⟩,
    ⟨(some 37), (.call (.c (.fn 322 [])) [(.s 36)]), none, [6, 3]⟩,
    ⟨(some 38), (.bsl 2 1 (.vals [.nils, .nils]) [(0, 1, (.s 33)), (1, 1, (.s 37))]), none, [3, 7]⟩,
    ⟨(some 39), (.call (.c (.fn 46 [])) [(.s 38)]), none, [8, 7]⟩,
    ⟨(some 4), (.mv (.s 39)), none, [9, 9, 0, 1, 2, 3, 4, 5, 6, 7, 8, 9]⟩] true)
  (.seq (.seq (.region [
    ⟨(some 40), (.fad 2 (.s 1)), none, []⟩,
    ⟨(some 41), (.ldc (.s 40)), none, [0]⟩,
    ⟨(some 42), (.len false (.s 41)), none, [1]⟩,
    ⟨(some 43), (.mv (.c (.int .i64 0))), none, []⟩] false)
  (.block 1
   (.loop ⟨0, [], false, [4, 41, 42, 43], []⟩
    (.seq (.region [
      ⟨(some 44), (.bin .lss (.s 43) (.s 42)), none, []⟩] false)
    (.seq (.cond (.s 44)
     .skip
     (.pre ⟨0, [], false, [4], []⟩ (.exit 1)))
    (.seq (.block 2
     (.seq (.region [
       ⟨(some 45), (.iad 2 (.s 41) (.s 43)), none, []⟩,
       ⟨(some 46), (.lda 2 none (.s 45)), none, [0]⟩,
       ⟨(some 6), (.new (.vals [(.int .u8 0), .nils])), none, []⟩,
       ⟨none, (.stc 2 (.s 6) (.s 46)), none, [2, 1, 0, 1, 2]⟩] false)
     (.seq (.region [
       ⟨(some 48), (.lda 2 none (.s 6)), none, []⟩,
       ⟨(some 49), (.call (.c (.fn 139 [])) [(.s 48)]), none, [0]⟩,
       ⟨(some 47), (.mv (.s 49)), none, [1]⟩,
       ⟨(some 50), (.ext (.s 47) 0), none, [2]⟩,
       ⟨(some 51), (.ext (.s 47) 1), none, [2]⟩,
       ⟨(some 7), (.mv (.s 50)), none, [3, 1, 0, 1, 2, 3]⟩,
       ⟨(some 8), (.mv (.s 51)), none, [4, 5, 0, 1, 2, 3, 4, 5]⟩] false)
     (.seq (.seq (.region [
       ⟨(some 52), (.mv (.s 8)), none, []⟩,
       ⟨(some 53), (.bin .neq (.s 52) (.c (.int .i64 0))), none, [0]⟩] false)
     (.cond (.s 53)
      (.seq (.region [
        ⟨(some 54), (.mv (.s 8)), none, []⟩,
        ⟨(some 2), (.mv (.c .nils)), none, []⟩,
        ⟨(some 3), (.mv (.s 54)), none, [0, 1, 0, 1]⟩] false)
      .ret)
      .skip))
     (.region [
       ⟨(some 55), (.mv (.s 4)), none, []⟩,
       ⟨(some 56), (.mv (.s 7)), none, []⟩,
       ⟨(some 57), (.app 1 1 (.s 55) (.s 56)), none, [0, 1]⟩,
       ⟨(some 4), (.mv (.s 57)), none, [2, 2, 0, 1, 2]⟩] false)))))
    (.region [
      ⟨(some 58), (.bin .add (.s 43) (.c (.int .i64 1))), none, []⟩,
      ⟨(some 43), (.mv (.s 58)), none, [0]⟩] false)))))))
  (.seq (.region [
    ⟨(some 59), (.mv (.s 4)), none, []⟩,
    ⟨(some 2), (.mv (.s 59)), none, [0, 0]⟩,
    ⟨(some 3), (.mv (.c (.int .i64 0))), none, [1, 0, 1]⟩] false)
  .ret))))), false, (some [(Sh.st (Sh.pr Sh.bool (Sh.pr (Sh.int .u16) (Sh.pr (Sh.sl (Sh.pr (Sh.int .u8) (Sh.sl (Sh.int .u8)))) (Sh.sl (Sh.int .u8))))))]), (some (Sh.tu (Sh.pr (Sh.sl (Sh.int .u8)) (Sh.int .i64)))), false⟩

/-- euphroe/packet.number -/
def k322 : Fun := ⟨1, 12, [0, 2, 3], [(.tmp 2)],
  (.seq (.region [
    ⟨(some 2), (.mv (.c .nils)), none, []⟩] false)
  (.seq (.region [
    ⟨(some 6), (.mv (.s 0)), none, []⟩,
    ⟨(some 7), (.cvi .u64 (.s 6)), none, [0]⟩,
    ⟨(some 8), (.call (.c (.fn 19 [])) [(.s 7), (.c (.int .i64 2)), (.c (.bool false))]), none, [1]⟩,
    ⟨(some 5), (.mv (.s 8)), none, [2]⟩,
    ⟨(some 9), (.ext (.s 5) 0), none, [3]⟩,
    ⟨(some 10), (.ext (.s 5) 1), none, [3]⟩,
    ⟨(some 3), (.mv (.s 9)), none, [4, 2, 0, 1, 2, 3, 4]⟩,
    ⟨(some 4), (.mv (.s 10)), none, [5, 6, 0, 1, 2, 3, 4, 5, 6]⟩] false)
  (.seq (.region [
    ⟨(some 11), (.mv (.s 3)), none, []⟩,
    ⟨(some 2), (.mv (.s 11)), none, [0, 0]⟩] false)
  .ret))), false, (some [(Sh.int .i64)]), (some (Sh.sl (Sh.int .u8))), false⟩

/-- euphroe/euphroelaw19.ReframeNobody -/
def k333 : Fun := ⟨2, 106, [0, 1, 4, 6, 7, 8, 9, 11, 12, 13, 14, 22, 26, 27, 28, 29, 58], [(.tmp 4)],
  (.seq (.region [
    ⟨(some 4), (.mv (.c (.bool false))), none, []⟩] false)
  (.seq (.seq (.region [
    ⟨(some 15), (.mv (.s 0)), none, []⟩,
    ⟨(some 16), (.len false (.s 15)), none, [0]⟩,
    ⟨(some 17), (.bin .gtr (.s 16) (.c (.int .i64 3000))), none, [1]⟩,
    ⟨(some 18), (.mv (.s 17)), none, [2]⟩,
    ⟨(some 19), (.mv (.s 1)), (some (18, false)), [3]⟩,
    ⟨(some 20), (.len false (.s 19)), (some (18, false)), [4, 3]⟩,
    ⟨(some 21), (.bin .gtr (.s 20) (.c (.int .i64 3000))), (some (18, false)), [5, 3]⟩,
    ⟨(some 22), (.pick (.s 18) (.c (.bool true)) (.s 21)), none, [3, 6]⟩] false)
  (.cond (.s 22)
   (.seq (.region [
     ⟨(some 23), (.call (.c (.fn 347 [])) []), none, []⟩,
     ⟨(some 4), (.mv (.s 23)), none, [0, 0, 0]⟩] false)
   .ret)
   .skip))
  (.seq (.seq (.region [
    ⟨(some 24), (.build (.vals [(.bool false), .nils, (.int .i64 0), (.int .i64 0), (.int .i64 0)]) []), none, []⟩,
    ⟨(some 25), (.box (.s 24)), none, [0]⟩,
    ⟨(some 26), (.bsl 2 1 (.vals [.nilp, .nilp]) [(0, 1, (.c .nilp)), (1, 1, (.s 25))]), none, [1]⟩,
    ⟨(some 27), (.len false (.s 26)), none, [2]⟩,
    ⟨(some 28), (.mv (.c (.int .i64 0))), none, []⟩] false)
  (.block 0
   (.loop ⟨0, [], false, [0, 1, 26, 27, 28], []⟩
    (.seq (.region [
      ⟨(some 29), (.bin .lss (.s 28) (.s 27)), none, []⟩] false)
    (.seq (.cond (.s 29)
     .skip
     (.pre ⟨0, [], false, [0, 1], []⟩ (.exit 0)))
    (.seq (.block 1
     (.seq (.region [
       ⟨(some 30), (.iad 1 (.s 26) (.s 28)), none, []⟩,
       ⟨(some 31), (.ldc (.s 30)), none, [0]⟩,
       ⟨(some 6), (.mv (.s 31)), none, [1, 0, 1]⟩] false)
     (.seq (.region [
       ⟨(some 33), (.mv (.s 6)), none, []⟩,
       ⟨(some 34), (.mv (.s 0)), none, []⟩,
       ⟨(some 35), (.call (.c (.fn 348 [])) [(.s 33), (.s 34)]), none, [0, 1]⟩,
       ⟨(some 32), (.mv (.s 35)), none, [2]⟩,
       ⟨(some 36), (.ext (.s 32) 0), none, [3]⟩,
       ⟨(some 37), (.ext (.s 32) 1), none, [3]⟩,
       ⟨(some 7), (.mv (.s 36)), none, [4, 2, 0, 1, 2, 3, 4]⟩,
       ⟨(some 8), (.mv (.s 37)), none, [5, 6, 0, 1, 2, 3, 4, 5, 6]⟩] false)
     (.seq (.region [
       ⟨(some 38), (.mv (.s 7)), none, []⟩,
       ⟨(some 39), (.len false (.s 38)), none, [0]⟩,
       ⟨(some 40), (.bin .neq (.s 39) (.c (.int .i64 0))), none, [1]⟩,
       ⟨(some 41), (.mv (.s 40)), none, [2]⟩,
       ⟨(some 42), (.mv (.s 8)), (some (41, false)), [3]⟩,
       ⟨(some 43), (.bin .neq (.s 42) (.c (.int .i64 2))), (some (41, false)), [4, 3]⟩,
       ⟨(some 44), (.pick (.s 41) (.c (.bool true)) (.s 43)), none, [3, 5]⟩,
       ⟨(some 45), (.mv (.s 44)), none, [6, 3]⟩,
       ⟨(some 46), (.mv (.s 6)), (some (45, false)), [7]⟩,
       ⟨(some 47), (.call (.c (.fn 349 [])) [(.s 46)]), (some (45, false)), [8, 7, 7]⟩,
       ⟨(some 48), (.mv (.s 6)), (some (45, false)), [7]⟩,
       ⟨(some 49), (.call (.c (.fn 350 [])) [(.s 48)]), (some (45, false)), [10, 9, 7]⟩,
       ⟨(some 50), (.bin .add (.s 47) (.s 49)), (some (45, false)), [9, 11, 7]⟩,
       ⟨(some 51), (.mv (.s 6)), (some (45, false)), [7]⟩,
       ⟨(some 52), (.call (.c (.fn 351 [])) [(.s 51)]), (some (45, false)), [13, 11, 7]⟩,
       ⟨(some 53), (.bin .add (.s 50) (.s 52)), (some (45, false)), [12, 14, 7]⟩,
       ⟨(some 54), (.mv (.s 6)), (some (45, false)), [7]⟩,
       ⟨(some 55), (.call (.c (.fn 352 [])) [(.s 54)]), (some (45, false)), [16, 14, 7]⟩,
       ⟨(some 56), (.bin .add (.s 53) (.s 55)), (some (45, false)), [15, 17, 7]⟩,
       ⟨(some 57), (.bin .neq (.s 56) (.c (.int .i64 0))), (some (45, false)), [18, 7]⟩,
       ⟨(some 58), (.pick (.s 45) (.c (.bool true)) (.s 57)), none, [7, 19]⟩] false)
     (.cond (.s 58)
      (.seq (.region [
        ⟨(some 4), (.mv (.c (.bool false))), none, []⟩] false)
      .ret)
      .skip)))))
    (.region [
      ⟨(some 59), (.bin .add (.s 28) (.c (.int .i64 1))), none, []⟩,
      ⟨(some 28), (.mv (.s 59)), none, [0]⟩] false)))))))
  (.seq (.region [
    ⟨(some 60), (.call (.c (.fn 353 [])) []), none, []⟩,
    ⟨(some 9), (.mv (.s 60)), none, [0, 0, 0]⟩] false)
  (.seq (.region [
    ⟨(some 62), (.mv (.s 9)), none, []⟩,
    ⟨(some 63), (.mv (.s 0)), none, []⟩,
    ⟨(some 64), (.call (.c (.fn 348 [])) [(.s 62), (.s 63)]), none, [0, 1]⟩,
    ⟨(some 61), (.mv (.s 64)), none, [2]⟩,
    ⟨(some 65), (.ext (.s 61) 0), none, [3]⟩,
    ⟨(some 66), (.ext (.s 61) 1), none, [3]⟩,
    ⟨(some 10), (.mv (.s 65)), none, [4, 2, 0, 1, 2, 3, 4]⟩,
    ⟨(some 11), (.mv (.s 66)), none, [5, 6, 0, 1, 2, 3, 4, 5, 6]⟩] false)
  (.seq (.region [
    ⟨(some 67), (.mv (.s 9)), none, []⟩,
    ⟨(some 68), (.call (.c (.fn 350 [])) [(.s 67)]), none, [0]⟩,
    ⟨(some 12), (.mv (.s 68)), none, [1, 1, 0, 1]⟩] false)
  (.seq (.region [
    ⟨(some 70), (.mv (.s 9)), none, []⟩,
    ⟨(some 71), (.mv (.s 1)), none, []⟩,
    ⟨(some 72), (.call (.c (.fn 348 [])) [(.s 70), (.s 71)]), none, [0, 1]⟩,
    ⟨(some 69), (.mv (.s 72)), none, [2]⟩,
    ⟨(some 73), (.ext (.s 69) 0), none, [3]⟩,
    ⟨(some 74), (.ext (.s 69) 1), none, [3]⟩,
    ⟨(some 13), (.mv (.s 73)), none, [4, 2, 0, 1, 2, 3, 4]⟩,
    ⟨(some 14), (.mv (.s 74)), none, [5, 6, 0, 1, 2, 3, 4, 5, 6]⟩] false)
  (.seq (.region [
    ⟨(some 75), (.mv (.s 11)), none, []⟩,
    ⟨(some 76), (.bin .eql (.s 75) (.c (.int .i64 0))), none, [0]⟩,
    ⟨(some 77), (.mv (.s 76)), none, [1]⟩,
    ⟨(some 78), (.mv (.s 14)), (some (77, false)), [2]⟩,
    ⟨(some 79), (.mv (.s 11)), (some (77, false)), [2]⟩,
    ⟨(some 80), (.bin .eql (.s 78) (.s 79)), (some (77, false)), [3, 4, 2]⟩,
    ⟨(some 81), (.mv (.s 80)), (some (77, false)), [5, 2, 2]⟩,
    ⟨(some 82), (.mv (.s 13)), (some (81, true)), [6]⟩,
    ⟨(some 83), (.len false (.s 82)), (some (81, true)), [7, 6]⟩,
    ⟨(some 84), (.bin .eql (.s 83) (.c (.int .i64 0))), (some (81, true)), [8, 6]⟩,
    ⟨(some 85), (.pick (.s 81) (.s 84) (.c (.bool false))), (some (77, false)), [6, 9, 2]⟩,
    ⟨(some 86), (.mv (.s 85)), (some (77, false)), [10, 6, 2]⟩,
    ⟨(some 87), (.mv (.s 9)), (some (86, true)), [11]⟩,
    ⟨(some 88), (.call (.c (.fn 350 [])) [(.s 87)]), (some (86, true)), [12, 11, 11]⟩,
    ⟨(some 89), (.mv (.s 12)), (some (86, true)), [11]⟩,
    ⟨(some 90), (.bin .eql (.s 88) (.s 89)), (some (86, true)), [13, 14, 11]⟩,
    ⟨(some 91), (.pick (.s 86) (.s 90) (.c (.bool false))), (some (77, false)), [11, 15, 2]⟩,
    ⟨(some 92), (.mv (.s 91)), (some (77, false)), [16, 13, 2]⟩,
    ⟨(some 93), (.mv (.s 9)), (some (92, true)), [17]⟩,
    ⟨(some 94), (.call (.c (.fn 349 [])) [(.s 93)]), (some (92, true)), [18, 17, 17]⟩,
    ⟨(some 95), (.bin .eql (.s 94) (.c (.int .i64 0))), (some (92, true)), [19, 17]⟩,
    ⟨(some 96), (.pick (.s 92) (.s 95) (.c (.bool false))), (some (77, false)), [17, 20, 2]⟩,
    ⟨(some 97), (.mv (.s 96)), (some (77, false)), [21, 19, 2]⟩,
    ⟨(some 98), (.mv (.s 9)), (some (97, true)), [22]⟩,
    ⟨(some 99), (.call (.c (.fn 352 [])) [(.s 98)]), (some (97, true)), [23, 22, 22]⟩,
    ⟨(some 100), (.bin .eql (.s 99) (.c (.int .i64 0))), (some (97, true)), [24, 22]⟩,
    ⟨(some 101), (.pick (.s 97) (.s 100) (.c (.bool false))), (some (77, false)), [22, 25, 2]⟩,
    ⟨(some 102), (.pick (.s 77) (.c (.bool true)) (.s 101)), none, [2, 26]⟩,
    ⟨(some 103), (.mv (.s 102)), none, [27, 24]⟩,
    ⟨(some 104), (.call (.c (.fn 347 [])) []), (some (103, true)), [28, 28]⟩,
    ⟨(some 105), (.pick (.s 103) (.s 104) (.c (.bool false))), none, [28, 29]⟩,
    ⟨(some 4), (.mv (.s 105)), none, [30, 29, 0, 1, 2, 3, 4, 5, 6, 7, 8, 9, 10, 11, 12, 13, 14, 15, 16, 17, 18, 19, 20, 21, 22, 23, 24, 25, 26, 27, 28, 29, 30]⟩] false)
  .ret)))))))), false, (some [(Sh.sl (Sh.int .u8)), (Sh.sl (Sh.int .u8))]), (some Sh.bool), false⟩

/-- euphroe/euphroelaw19.ReframeHeld -/
def k334 : Fun := ⟨2, 69, [0, 1, 4, 5, 6, 8, 10, 13, 18, 19, 20, 21, 35, 66], [(.tmp 4)],
  (.seq (.region [
    ⟨(some 4), (.mv (.c (.bool false))), none, []⟩] false)
  (.seq (.seq (.region [
    ⟨(some 11), (.mv (.s 0)), none, []⟩,
    ⟨(some 12), (.len false (.s 11)), none, [0]⟩,
    ⟨(some 13), (.bin .gtr (.s 12) (.c (.int .i64 6000))), none, [1]⟩] false)
  (.cond (.s 13)
   (.seq (.region [
     ⟨(some 14), (.call (.c (.fn 347 [])) []), none, []⟩,
     ⟨(some 4), (.mv (.s 14)), none, [0, 0, 0]⟩] false)
   .ret)
   .skip))
  (.seq (.region [
    ⟨(some 15), (.call (.c (.fn 353 [])) []), none, []⟩,
    ⟨(some 5), (.mv (.s 15)), none, [0, 0, 0]⟩] false)
  (.seq (.region [
    ⟨(some 6), (.mv (.c (.int .i64 0))), none, []⟩] false)
  (.seq (.seq (.region [
    ⟨(some 16), (.mv (.s 0)), none, []⟩,
    ⟨(some 17), (.mv (.s 1)), none, []⟩,
    ⟨(some 18), (.call (.c (.fn 354 [])) [(.s 16), (.s 17)]), none, [0, 1]⟩,
    ⟨(some 19), (.len false (.s 18)), none, [2]⟩,
    ⟨(some 20), (.mv (.c (.int .i64 0))), none, []⟩] false)
  (.block 0
   (.loop ⟨0, [], false, [5, 6, 18, 19, 20], []⟩
    (.seq (.region [
      ⟨(some 21), (.bin .lss (.s 20) (.s 19)), none, []⟩] false)
    (.seq (.cond (.s 21)
     .skip
     (.pre ⟨0, [], false, [], []⟩ (.exit 0)))
    (.seq (.block 1
     (.seq (.region [
       ⟨(some 22), (.iad 1 (.s 18) (.s 20)), none, []⟩,
       ⟨(some 23), (.ldc (.s 22)), none, [0]⟩,
       ⟨(some 8), (.mv (.s 23)), none, [1, 0, 1]⟩] false)
     (.seq (.region [
       ⟨(some 25), (.mv (.s 5)), none, []⟩,
       ⟨(some 26), (.mv (.s 8)), none, []⟩,
       ⟨(some 27), (.call (.c (.fn 348 [])) [(.s 25), (.s 26)]), none, [0, 1]⟩,
       ⟨(some 24), (.mv (.s 27)), none, [2]⟩,
       ⟨(some 28), (.ext (.s 24) 0), none, [3]⟩,
       ⟨(some 29), (.ext (.s 24) 1), none, [3]⟩,
       ⟨(some 9), (.mv (.s 28)), none, [4, 2, 0, 1, 2, 3, 4]⟩,
       ⟨(some 10), (.mv (.s 29)), none, [5, 6, 0, 1, 2, 3, 4, 5, 6]⟩] false)
     (.seq (.region [
       ⟨(some 30), (.mv (.s 6)), none, []⟩,
       ⟨(some 31), (.mv (.s 8)), none, []⟩,
       ⟨(some 32), (.len false (.s 31)), none, [1]⟩,
       ⟨(some 33), (.bin .add (.s 30) (.s 32)), none, [0, 2]⟩,
       ⟨(some 6), (.mv (.s 33)), none, [3, 0, 1, 2, 3]⟩] false)
     (.seq (.seq (.region [
       ⟨(some 34), (.mv (.s 10)), none, []⟩,
       ⟨(some 35), (.bin .neq (.s 34) (.c (.int .i64 0))), none, [0]⟩] false)
     (.cond (.s 35)
      (.seq (.region [
        ⟨(some 36), (.mv (.s 5)), none, []⟩,
        ⟨(some 37), (.call (.c (.fn 349 [])) [(.s 36)]), none, [0]⟩,
        ⟨(some 38), (.bin .eql (.s 37) (.c (.int .i64 0))), none, [1]⟩,
        ⟨(some 39), (.mv (.s 38)), none, [2, 1]⟩,
        ⟨(some 40), (.mv (.s 5)), (some (39, true)), [3]⟩,
        ⟨(some 41), (.call (.c (.fn 352 [])) [(.s 40)]), (some (39, true)), [4, 3, 3]⟩,
        ⟨(some 42), (.bin .eql (.s 41) (.c (.int .i64 0))), (some (39, true)), [5, 3]⟩,
        ⟨(some 43), (.pick (.s 39) (.s 42) (.c (.bool false))), none, [3, 6]⟩,
        ⟨(some 44), (.mv (.s 43)), none, [7, 5]⟩,
        ⟨(some 45), (.call (.c (.fn 347 [])) []), (some (44, true)), [8, 8]⟩,
        ⟨(some 46), (.pick (.s 44) (.s 45) (.c (.bool false))), none, [8, 9]⟩,
        ⟨(some 4), (.mv (.s 46)), none, [10, 9, 0, 1, 2, 3, 4, 5, 6, 7, 8, 9, 10]⟩] false)
      .ret)
      .skip))
     (.seq (.region [
       ⟨(some 47), (.mv (.s 5)), none, []⟩,
       ⟨(some 48), (.call (.c (.fn 349 [])) [(.s 47)]), none, [0]⟩,
       ⟨(some 49), (.mv (.s 5)), none, []⟩,
       ⟨(some 50), (.call (.c (.fn 351 [])) [(.s 49)]), none, [2, 1]⟩,
       ⟨(some 51), (.bin .add (.s 48) (.s 50)), none, [1, 3]⟩,
       ⟨(some 52), (.mv (.s 6)), none, []⟩,
       ⟨(some 53), (.bin .neq (.s 51) (.s 52)), none, [4, 5]⟩,
       ⟨(some 54), (.mv (.s 53)), none, [6, 3]⟩,
       ⟨(some 55), (.mv (.s 5)), (some (54, false)), [7]⟩,
       ⟨(some 56), (.call (.c (.fn 352 [])) [(.s 55)]), (some (54, false)), [8, 7, 7]⟩,
       ⟨(some 57), (.bin .lss (.s 56) (.c (.int .i64 1))), (some (54, false)), [9, 7]⟩,
       ⟨(some 58), (.pick (.s 54) (.c (.bool true)) (.s 57)), none, [7, 10]⟩,
       ⟨(some 59), (.mv (.s 58)), none, [11, 9]⟩,
       ⟨(some 60), (.mv (.s 5)), (some (59, false)), [12]⟩,
       ⟨(some 61), (.call (.c (.fn 351 [])) [(.s 60)]), (some (59, false)), [13, 12, 12]⟩,
       ⟨(some 62), (.mv (.s 5)), (some (59, false)), [12]⟩,
       ⟨(some 63), (.call (.c (.fn 350 [])) [(.s 62)]), (some (59, false)), [15, 14, 12]⟩,
       ⟨(some 64), (.bin .mul (.c (.int .i64 5)) (.s 63)), (some (59, false)), [16, 12]⟩,
       ⟨(some 65), (.bin .lss (.s 61) (.s 64)), (some (59, false)), [14, 17, 12]⟩,
       ⟨(some 66), (.pick (.s 59) (.c (.bool true)) (.s 65)), none, [12, 18]⟩] false)
     (.cond (.s 66)
      (.seq (.region [
        ⟨(some 4), (.mv (.c (.bool false))), none, []⟩] false)
      .ret)
      .skip)))))))
    (.region [
      ⟨(some 67), (.bin .add (.s 20) (.c (.int .i64 1))), none, []⟩,
      ⟨(some 20), (.mv (.s 67)), none, [0]⟩] false)))))))
  (.seq (.region [
    ⟨(some 68), (.call (.c (.fn 347 [])) []), none, []⟩,
    ⟨(some 4), (.mv (.s 68)), none, [0, 0, 0]⟩] false)
  .ret)))))), false, (some [(Sh.sl (Sh.int .u8)), (Sh.sl (Sh.int .u16))]), (some Sh.bool), false⟩

/-- euphroe/euphroelaw19.ReframeWrites -/
def k335 : Fun := ⟨2, 133, [0, 1, 4, 5, 6, 7, 8, 10, 11, 12, 13, 14, 15, 16, 17, 18, 21, 25, 28, 29, 30, 31, 53, 61, 72, 109, 111, 112, 113, 127], [(.tmp 4)],
  (.seq (.region [
    ⟨(some 4), (.mv (.c (.bool false))), none, []⟩] false)
  (.seq (.seq (.region [
    ⟨(some 19), (.mv (.s 0)), none, []⟩,
    ⟨(some 20), (.len false (.s 19)), none, [0]⟩,
    ⟨(some 21), (.bin .gtr (.s 20) (.c (.int .i64 9000))), none, [1]⟩] false)
  (.cond (.s 21)
   (.seq (.region [
     ⟨(some 22), (.call (.c (.fn 347 [])) []), none, []⟩,
     ⟨(some 4), (.mv (.s 22)), none, [0, 0, 0]⟩] false)
   .ret)
   .skip))
  (.seq (.region [
    ⟨(some 23), (.call (.c (.fn 353 [])) []), none, []⟩,
    ⟨(some 5), (.mv (.s 23)), none, [0, 0, 0]⟩] false)
  (.seq (.seq (.region [
    ⟨(some 24), (.mv (.s 5)), none, []⟩,
    ⟨(some 25), (.eqn .p false (.s 24) (.c .nilp)), none, [0]⟩] false)
  (.cond (.s 25)
   (.seq (.region [
     ⟨(some 4), (.mv (.c (.bool false))), none, []⟩] false)
   .ret)
   .skip))
  (.seq (.region [
    ⟨(some 6), (.mv (.c (.int .i64 0))), none, []⟩,
    ⟨(some 7), (.mv (.c (.int .i64 0))), none, [0, 0]⟩,
    ⟨(some 8), (.mv (.c (.int .i64 0))), none, [1, 0, 1]⟩] false)
  (.seq (.seq (.region [
    ⟨(some 26), (.mv (.s 0)), none, []⟩,
    ⟨(some 27), (.mv (.s 1)), none, []⟩,
    ⟨(some 28), (.call (.c (.fn 354 [])) [(.s 26), (.s 27)]), none, [0, 1]⟩,
    ⟨(some 29), (.len false (.s 28)), none, [2]⟩,
    ⟨(some 30), (.mv (.c (.int .i64 0))), none, []⟩] false)
  (.block 0
   (.loop ⟨0, [], false, [0, 5, 6, 7, 8, 28, 29, 30], []⟩
    (.seq (.region [
      ⟨(some 31), (.bin .lss (.s 30) (.s 29)), none, []⟩] false)
    (.seq (.cond (.s 31)
     .skip
     (.pre ⟨0, [], false, [], []⟩ (.exit 0)))
    (.seq (.block 1
     (.seq (.region [
       ⟨(some 32), (.iad 1 (.s 28) (.s 30)), none, []⟩,
       ⟨(some 33), (.ldc (.s 32)), none, [0]⟩,
       ⟨(some 10), (.mv (.s 33)), none, [1, 0, 1]⟩] false)
     (.seq (.region [
       ⟨(some 34), (.mv (.s 6)), none, []⟩,
       ⟨(some 35), (.mv (.s 10)), none, []⟩,
       ⟨(some 36), (.len false (.s 35)), none, [1]⟩,
       ⟨(some 37), (.bin .add (.s 34) (.s 36)), none, [0, 2]⟩,
       ⟨(some 6), (.mv (.s 37)), none, [3, 0, 1, 2, 3]⟩] false)
     (.seq (.region [
       ⟨(some 39), (.mv (.s 0)), none, []⟩,
       ⟨(some 40), (.mv (.s 6)), none, []⟩,
       ⟨(some 41), (.sls 1 (.s 39) none (some (.s 40)) none), none, [0, 1]⟩,
       ⟨(some 42), (.call (.c (.fn 355 [])) [(.s 41)]), none, [2]⟩,
       ⟨(some 38), (.mv (.s 42)), none, [3]⟩,
       ⟨(some 43), (.ext (.s 38) 0), none, [4]⟩,
       ⟨(some 44), (.ext (.s 38) 1), none, [4]⟩,
       ⟨(some 45), (.ext (.s 38) 2), none, [4]⟩,
       ⟨(some 11), (.mv (.s 43)), none, [5, 3, 0, 1, 2, 3, 4, 5]⟩,
       ⟨(some 12), (.mv (.s 44)), none, [6, 8, 0, 1, 2, 3, 4, 5, 6, 8]⟩,
       ⟨(some 13), (.mv (.s 45)), none, [7, 9, 0, 1, 2, 3, 4, 5, 6, 7, 8, 9]⟩] false)
     (.seq (.region [
       ⟨(some 47), (.mv (.s 5)), none, []⟩,
       ⟨(some 48), (.mv (.s 10)), none, []⟩,
       ⟨(some 49), (.call (.c (.fn 348 [])) [(.s 47), (.s 48)]), none, [0, 1]⟩,
       ⟨(some 46), (.mv (.s 49)), none, [2]⟩,
       ⟨(some 50), (.ext (.s 46) 0), none, [3]⟩,
       ⟨(some 51), (.ext (.s 46) 1), none, [3]⟩,
       ⟨(some 14), (.mv (.s 50)), none, [4, 2, 0, 1, 2, 3, 4]⟩,
       ⟨(some 15), (.mv (.s 51)), none, [5, 6, 0, 1, 2, 3, 4, 5, 6]⟩] false)
     (.seq (.seq (.region [
       ⟨(some 52), (.mv (.s 8)), none, []⟩,
       ⟨(some 53), (.bin .neq (.s 52) (.c (.int .i64 0))), none, [0]⟩] false)
     (.cond (.s 53)
      (.seq (.seq (.region [
        ⟨(some 54), (.mv (.s 14)), none, []⟩,
        ⟨(some 55), (.len false (.s 54)), none, [0]⟩,
        ⟨(some 56), (.bin .neq (.s 55) (.c (.int .i64 0))), none, [1]⟩,
        ⟨(some 57), (.mv (.s 56)), none, [2]⟩,
        ⟨(some 58), (.mv (.s 15)), (some (57, false)), [3]⟩,
        ⟨(some 59), (.mv (.s 8)), (some (57, false)), [3]⟩,
        ⟨(some 60), (.bin .neq (.s 58) (.s 59)), (some (57, false)), [4, 5, 3]⟩,
        ⟨(some 61), (.pick (.s 57) (.c (.bool true)) (.s 60)), none, [3, 6]⟩] false)
      (.cond (.s 61)
       (.seq (.region [
         ⟨(some 4), (.mv (.c (.bool false))), none, []⟩] false)
       .ret)
       .skip))
      (.pre ⟨0, [], false, [0, 5, 6, 7, 8, 28, 29, 30], []⟩ (.exit 1)))
      .skip))
     (.seq (.region [
       ⟨(some 62), (.mv (.s 13)), none, []⟩,
       ⟨(some 8), (.mv (.s 62)), none, [0, 0]⟩] false)
     (.seq (.region [
       ⟨(some 63), (.mv (.s 0)), none, []⟩,
       ⟨(some 64), (.mv (.s 12)), none, []⟩,
       ⟨(some 65), (.mv (.s 6)), none, []⟩,
       ⟨(some 66), (.sls 1 (.s 63) (some (.s 64)) (some (.s 65)) none), none, [0, 1, 2]⟩,
       ⟨(some 67), (.call (.c (.fn 356 [])) [(.s 66)]), none, [3]⟩,
       ⟨(some 68), (.mv (.s 6)), none, []⟩,
       ⟨(some 69), (.mv (.s 12)), none, []⟩,
       ⟨(some 70), (.bin .sub (.s 68) (.s 69)), none, [5, 6]⟩,
       ⟨(some 16), (.mv (.s 67)), none, [4, 4, 0, 1, 2, 3, 4]⟩,
       ⟨(some 17), (.mv (.s 70)), none, [7, 8, 0, 1, 2, 3, 4, 5, 6, 7, 8]⟩] false)
     (.seq (.seq (.region [
       ⟨(some 71), (.mv (.s 13)), none, []⟩,
       ⟨(some 72), (.bin .neq (.s 71) (.c (.int .i64 0))), none, [0]⟩] false)
     (.cond (.s 72)
      (.region [
        ⟨(some 16), (.mv (.c (.int .i64 0))), none, []⟩,
        ⟨(some 17), (.mv (.c (.int .i64 0))), none, [0, 0]⟩] false)
      .skip))
     (.seq (.seq (.region [
       ⟨(some 73), (.mv (.s 14)), none, []⟩,
       ⟨(some 74), (.len false (.s 73)), none, [0]⟩,
       ⟨(some 75), (.mv (.s 11)), none, []⟩,
       ⟨(some 76), (.len false (.s 75)), none, [2]⟩,
       ⟨(some 77), (.mv (.s 7)), none, []⟩,
       ⟨(some 78), (.bin .sub (.s 76) (.s 77)), none, [3, 4]⟩,
       ⟨(some 79), (.bin .neq (.s 74) (.s 78)), none, [1, 5]⟩,
       ⟨(some 80), (.mv (.s 79)), none, [6]⟩,
       ⟨(some 81), (.mv (.s 15)), (some (80, false)), [7]⟩,
       ⟨(some 82), (.mv (.s 13)), (some (80, false)), [7]⟩,
       ⟨(some 83), (.bin .neq (.s 81) (.s 82)), (some (80, false)), [8, 9, 7]⟩,
       ⟨(some 84), (.pick (.s 80) (.c (.bool true)) (.s 83)), none, [7, 10]⟩,
       ⟨(some 85), (.mv (.s 84)), none, [11, 7]⟩,
       ⟨(some 86), (.mv (.s 5)), (some (85, false)), [12]⟩,
       ⟨(some 87), (.call (.c (.fn 351 [])) [(.s 86)]), (some (85, false)), [13, 12, 12]⟩,
       ⟨(some 88), (.mv (.s 12)), (some (85, false)), [12]⟩,
       ⟨(some 89), (.bin .neq (.s 87) (.s 88)), (some (85, false)), [14, 15, 12]⟩,
       ⟨(some 90), (.pick (.s 85) (.c (.bool true)) (.s 89)), none, [12, 16]⟩,
       ⟨(some 91), (.mv (.s 90)), none, [17, 14]⟩,
       ⟨(some 92), (.mv (.s 5)), (some (91, false)), [18]⟩,
       ⟨(some 93), (.call (.c (.fn 350 [])) [(.s 92)]), (some (91, false)), [19, 18, 18]⟩,
       ⟨(some 94), (.mv (.s 11)), (some (91, false)), [18]⟩,
       ⟨(some 95), (.len false (.s 94)), (some (91, false)), [21, 18]⟩,
       ⟨(some 96), (.bin .neq (.s 93) (.s 95)), (some (91, false)), [20, 22, 18]⟩,
       ⟨(some 97), (.pick (.s 91) (.c (.bool true)) (.s 96)), none, [18, 23]⟩,
       ⟨(some 98), (.mv (.s 97)), none, [24, 20]⟩,
       ⟨(some 99), (.mv (.s 5)), (some (98, false)), [25]⟩,
       ⟨(some 100), (.call (.c (.fn 349 [])) [(.s 99)]), (some (98, false)), [26, 25, 25]⟩,
       ⟨(some 101), (.mv (.s 17)), (some (98, false)), [25]⟩,
       ⟨(some 102), (.bin .neq (.s 100) (.s 101)), (some (98, false)), [27, 28, 25]⟩,
       ⟨(some 103), (.pick (.s 98) (.c (.bool true)) (.s 102)), none, [25, 29]⟩,
       ⟨(some 104), (.mv (.s 103)), none, [30, 27]⟩,
       ⟨(some 105), (.mv (.s 5)), (some (104, false)), [31]⟩,
       ⟨(some 106), (.call (.c (.fn 352 [])) [(.s 105)]), (some (104, false)), [32, 31, 31]⟩,
       ⟨(some 107), (.mv (.s 16)), (some (104, false)), [31]⟩,
       ⟨(some 108), (.bin .neq (.s 106) (.s 107)), (some (104, false)), [33, 34, 31]⟩,
       ⟨(some 109), (.pick (.s 104) (.c (.bool true)) (.s 108)), none, [31, 35]⟩] false)
     (.cond (.s 109)
      (.seq (.region [
        ⟨(some 4), (.mv (.c (.bool false))), none, []⟩] false)
      .ret)
      .skip))
     (.seq (.seq (.region [
       ⟨(some 110), (.mv (.s 14)), none, []⟩,
       ⟨(some 111), (.len false (.s 110)), none, [0]⟩,
       ⟨(some 112), (.mv (.c (.int .i64 0))), none, []⟩] false)
     (.block 2
      (.loop ⟨1, [], false, [0, 5, 6, 7, 8, 11, 14, 28, 29, 30, 111, 112], []⟩
       (.seq (.region [
         ⟨(some 113), (.bin .lss (.s 112) (.s 111)), none, []⟩] false)
       (.seq (.cond (.s 113)
        .skip
        (.pre ⟨0, [], false, [0, 5, 6, 8, 11, 28, 29, 30], []⟩ (.exit 2)))
       (.seq (.block 3
        (.seq (.region [
          ⟨(some 114), (.mv (.s 112)), none, []⟩,
          ⟨(some 18), (.mv (.s 114)), none, [0, 0]⟩] false)
        (.seq (.region [
          ⟨(some 115), (.mv (.s 14)), none, []⟩,
          ⟨(some 116), (.mv (.s 18)), none, []⟩,
          ⟨(some 117), (.iad 4 (.s 115) (.s 116)), none, [0, 1]⟩,
          ⟨(some 118), (.lda 4 none (.s 117)), none, [2]⟩,
          ⟨(some 119), (.mv (.s 11)), none, []⟩,
          ⟨(some 120), (.mv (.s 7)), none, []⟩,
          ⟨(some 121), (.mv (.s 18)), none, []⟩,
          ⟨(some 122), (.bin .add (.s 120) (.s 121)), none, [5, 6]⟩,
          ⟨(some 123), (.iad 4 (.s 119) (.s 122)), none, [4, 7]⟩,
          ⟨(some 124), (.lda 4 none (.s 123)), none, [8]⟩,
          ⟨(some 125), (.call (.c (.fn 357 [])) [(.s 124)]), none, [9]⟩,
          ⟨(some 126), (.call (.c (.fn 302 [])) [(.s 118), (.s 125)]), none, [3, 10, 10]⟩,
          ⟨(some 127), (.un .not (.s 126)), none, [11]⟩] true)
        (.cond (.s 127)
         (.seq (.region [
           ⟨(some 4), (.mv (.c (.bool false))), none, []⟩] false)
         .ret)
         .skip))))
       (.region [
         ⟨(some 128), (.bin .add (.s 112) (.c (.int .i64 1))), none, []⟩,
         ⟨(some 112), (.mv (.s 128)), none, [0]⟩] false)))))))
     (.region [
       ⟨(some 129), (.mv (.s 11)), none, []⟩,
       ⟨(some 130), (.len false (.s 129)), none, [0]⟩,
       ⟨(some 7), (.mv (.s 130)), none, [1, 0, 1]⟩] false))))))))))))
    (.region [
      ⟨(some 131), (.bin .add (.s 30) (.c (.int .i64 1))), none, []⟩,
      ⟨(some 30), (.mv (.s 131)), none, [0]⟩] false)))))))
  (.seq (.region [
    ⟨(some 132), (.call (.c (.fn 347 [])) []), none, []⟩,
    ⟨(some 4), (.mv (.s 132)), none, [0, 0, 0]⟩] false)
  .ret))))))), false, (some [(Sh.sl (Sh.int .u8)), (Sh.sl (Sh.int .u16))]), (some Sh.bool), false⟩

/-- euphroe/euphroelaw19.ReframeSame -/
def k336 : Fun := ⟨2, 130, [0, 1, 4, 5, 6, 7, 8, 10, 11, 13, 14, 17, 19, 20, 23, 29, 30, 31, 32, 51, 54, 55, 56, 112, 114, 115, 116, 127], [(.tmp 4)],
  (.seq (.region [
    ⟨(some 4), (.mv (.c (.bool false))), none, []⟩] false)
  (.seq (.seq (.region [
    ⟨(some 21), (.mv (.s 0)), none, []⟩,
    ⟨(some 22), (.len false (.s 21)), none, [0]⟩,
    ⟨(some 23), (.bin .gtr (.s 22) (.c (.int .i64 3000))), none, [1]⟩] false)
  (.cond (.s 23)
   (.seq (.region [
     ⟨(some 24), (.call (.c (.fn 347 [])) []), none, []⟩,
     ⟨(some 4), (.mv (.s 24)), none, [0, 0, 0]⟩] false)
   .ret)
   .skip))
  (.seq (.region [
    ⟨(some 25), (.call (.c (.fn 353 [])) []), none, []⟩,
    ⟨(some 26), (.call (.c (.fn 353 [])) []), none, [0]⟩,
    ⟨(some 5), (.mv (.s 25)), none, [0, 1, 0]⟩,
    ⟨(some 6), (.mv (.s 26)), none, [1, 2, 0, 1, 2]⟩] false)
  (.seq (.region [
    ⟨(some 7), (.mv (.c .nils)), none, []⟩,
    ⟨(some 8), (.mv (.c .nils)), none, [0]⟩] false)
  (.seq (.seq (.region [
    ⟨(some 27), (.mv (.s 0)), none, []⟩,
    ⟨(some 28), (.mv (.s 1)), none, []⟩,
    ⟨(some 29), (.call (.c (.fn 354 [])) [(.s 27), (.s 28)]), none, [0, 1]⟩,
    ⟨(some 30), (.len false (.s 29)), none, [2]⟩,
    ⟨(some 31), (.mv (.c (.int .i64 0))), none, []⟩] false)
  (.block 0
   (.loop ⟨0, [], false, [0, 5, 6, 7, 8, 29, 30, 31], [(7, (.imm []), 4)]⟩
    (.seq (.region [
      ⟨(some 32), (.bin .lss (.s 31) (.s 30)), none, []⟩] false)
    (.seq (.cond (.s 32)
     .skip
     (.pre ⟨0, [], false, [0, 5, 6, 7, 8], []⟩ (.exit 0)))
    (.seq (.block 1
     (.seq (.region [
       ⟨(some 33), (.iad 1 (.s 29) (.s 31)), none, []⟩,
       ⟨(some 34), (.ldc (.s 33)), none, [0]⟩,
       ⟨(some 10), (.mv (.s 34)), none, [1, 0, 1]⟩] false)
     (.seq (.region [
       ⟨(some 36), (.mv (.s 5)), none, []⟩,
       ⟨(some 37), (.mv (.s 10)), none, []⟩,
       ⟨(some 38), (.call (.c (.fn 348 [])) [(.s 36), (.s 37)]), none, [0, 1]⟩,
       ⟨(some 35), (.mv (.s 38)), none, [2]⟩,
       ⟨(some 39), (.ext (.s 35) 0), none, [3]⟩,
       ⟨(some 40), (.ext (.s 35) 1), none, [3]⟩,
       ⟨(some 11), (.mv (.s 39)), none, [4, 2, 0, 1, 2, 3, 4]⟩,
       ⟨(some 12), (.mv (.s 40)), none, [5, 6, 0, 1, 2, 3, 4, 5, 6]⟩] false)
     (.seq (.region [
       ⟨(some 41), (.mv (.s 7)), none, []⟩,
       ⟨(some 42), (.mv (.s 11)), none, []⟩,
       ⟨(some 43), (.app 4 56 (.s 41) (.s 42)), none, [0, 1]⟩,
       ⟨(some 7), (.mv (.s 43)), none, [2, 2, 0, 1, 2]⟩] false)
     (.seq (.region [
       ⟨(some 44), (.mv (.s 5)), none, []⟩,
       ⟨(some 45), (.call (.c (.fn 349 [])) [(.s 44)]), none, [0]⟩,
       ⟨(some 46), (.bin .geq (.s 45) (.c (.int .i64 4095))), none, [1]⟩,
       ⟨(some 47), (.mv (.s 46)), none, [2, 1]⟩,
       ⟨(some 48), (.mv (.s 5)), (some (47, false)), [3]⟩,
       ⟨(some 49), (.call (.c (.fn 352 [])) [(.s 48)]), (some (47, false)), [4, 3, 3]⟩,
       ⟨(some 50), (.bin .lss (.s 49) (.c (.int .i64 0))), (some (47, false)), [5, 3]⟩,
       ⟨(some 51), (.pick (.s 47) (.c (.bool true)) (.s 50)), none, [3, 6]⟩] false)
     (.cond (.s 51)
      (.seq (.region [
        ⟨(some 4), (.mv (.c (.bool false))), none, []⟩] false)
      .ret)
      .skip))))))
    (.region [
      ⟨(some 52), (.bin .add (.s 31) (.c (.int .i64 1))), none, []⟩,
      ⟨(some 31), (.mv (.s 52)), none, [0]⟩] false)))))))
  (.seq (.seq (.region [
    ⟨(some 53), (.mv (.s 0)), none, []⟩,
    ⟨(some 54), (.len false (.s 53)), none, [0]⟩,
    ⟨(some 55), (.mv (.c (.int .i64 0))), none, []⟩] false)
  (.block 2
   (.loop ⟨1, [], false, [0, 5, 6, 7, 8, 54, 55], [(8, (.imm []), 4)]⟩
    (.seq (.region [
      ⟨(some 56), (.bin .lss (.s 55) (.s 54)), none, []⟩] false)
    (.seq (.cond (.s 56)
     .skip
     (.pre ⟨0, [], false, [5, 6, 7, 8], []⟩ (.exit 2)))
    (.seq (.block 3
     (.seq (.region [
       ⟨(some 57), (.mv (.s 55)), none, []⟩,
       ⟨(some 13), (.mv (.s 57)), none, [0, 0]⟩] false)
     (.seq (.region [
       ⟨(some 59), (.mv (.s 6)), none, []⟩,
       ⟨(some 60), (.mv (.s 0)), none, []⟩,
       ⟨(some 61), (.mv (.s 13)), none, []⟩,
       ⟨(some 62), (.mv (.s 13)), none, []⟩,
       ⟨(some 63), (.bin .add (.s 62) (.c (.int .i64 1))), none, [3]⟩,
       ⟨(some 64), (.sls 1 (.s 60) (some (.s 61)) (some (.s 63)) none), none, [1, 2, 4]⟩,
       ⟨(some 65), (.call (.c (.fn 348 [])) [(.s 59), (.s 64)]), none, [0, 5]⟩,
       ⟨(some 58), (.mv (.s 65)), none, [6]⟩,
       ⟨(some 66), (.ext (.s 58) 0), none, [7]⟩,
       ⟨(some 67), (.ext (.s 58) 1), none, [7]⟩,
       ⟨(some 14), (.mv (.s 66)), none, [8, 6, 0, 1, 2, 3, 4, 5, 6, 7, 8]⟩,
       ⟨(some 15), (.mv (.s 67)), none, [9, 10, 0, 1, 2, 3, 4, 5, 6, 7, 8, 9, 10]⟩] false)
     (.region [
       ⟨(some 68), (.mv (.s 8)), none, []⟩,
       ⟨(some 69), (.mv (.s 14)), none, []⟩,
       ⟨(some 70), (.app 4 56 (.s 68) (.s 69)), none, [0, 1]⟩,
       ⟨(some 8), (.mv (.s 70)), none, [2, 2, 0, 1, 2]⟩] false))))
    (.region [
      ⟨(some 71), (.bin .add (.s 55) (.c (.int .i64 1))), none, []⟩,
      ⟨(some 55), (.mv (.s 71)), none, [0]⟩] false)))))))
  (.seq (.region [
    ⟨(some 73), (.mv (.s 5)), none, []⟩,
    ⟨(some 74), (.call (.c (.fn 348 [])) [(.s 73), (.c .nils)]), none, [0]⟩,
    ⟨(some 72), (.mv (.s 74)), none, [1]⟩,
    ⟨(some 75), (.ext (.s 72) 0), none, [2]⟩,
    ⟨(some 76), (.ext (.s 72) 1), none, [2]⟩,
    ⟨(some 16), (.mv (.s 75)), none, [3, 1, 0, 1, 2, 3]⟩,
    ⟨(some 17), (.mv (.s 76)), none, [4, 5, 0, 1, 2, 3, 4, 5]⟩] false)
  (.seq (.region [
    ⟨(some 78), (.mv (.s 6)), none, []⟩,
    ⟨(some 79), (.call (.c (.fn 348 [])) [(.s 78), (.c .nils)]), none, [0]⟩,
    ⟨(some 77), (.mv (.s 79)), none, [1]⟩,
    ⟨(some 80), (.ext (.s 77) 0), none, [2]⟩,
    ⟨(some 81), (.ext (.s 77) 1), none, [2]⟩,
    ⟨(some 18), (.mv (.s 80)), none, [3, 1, 0, 1, 2, 3]⟩,
    ⟨(some 19), (.mv (.s 81)), none, [4, 5, 0, 1, 2, 3, 4, 5]⟩] false)
  (.seq (.seq (.region [
    ⟨(some 82), (.mv (.s 7)), none, []⟩,
    ⟨(some 83), (.len false (.s 82)), none, [0]⟩,
    ⟨(some 84), (.mv (.s 8)), none, []⟩,
    ⟨(some 85), (.len false (.s 84)), none, [2]⟩,
    ⟨(some 86), (.bin .neq (.s 83) (.s 85)), none, [1, 3]⟩,
    ⟨(some 87), (.mv (.s 86)), none, [4]⟩,
    ⟨(some 88), (.mv (.s 17)), (some (87, false)), [5]⟩,
    ⟨(some 89), (.mv (.s 19)), (some (87, false)), [5]⟩,
    ⟨(some 90), (.bin .neq (.s 88) (.s 89)), (some (87, false)), [6, 7, 5]⟩,
    ⟨(some 91), (.pick (.s 87) (.c (.bool true)) (.s 90)), none, [5, 8]⟩,
    ⟨(some 92), (.mv (.s 91)), none, [9, 5]⟩,
    ⟨(some 93), (.mv (.s 5)), (some (92, false)), [10]⟩,
    ⟨(some 94), (.call (.c (.fn 351 [])) [(.s 93)]), (some (92, false)), [11, 10, 10]⟩,
    ⟨(some 95), (.mv (.s 6)), (some (92, false)), [10]⟩,
    ⟨(some 96), (.call (.c (.fn 351 [])) [(.s 95)]), (some (92, false)), [13, 12, 10]⟩,
    ⟨(some 97), (.bin .neq (.s 94) (.s 96)), (some (92, false)), [12, 14, 10]⟩,
    ⟨(some 98), (.pick (.s 92) (.c (.bool true)) (.s 97)), none, [10, 15]⟩,
    ⟨(some 99), (.mv (.s 98)), none, [16, 14]⟩,
    ⟨(some 100), (.mv (.s 5)), (some (99, false)), [17]⟩,
    ⟨(some 101), (.call (.c (.fn 350 [])) [(.s 100)]), (some (99, false)), [18, 17, 17]⟩,
    ⟨(some 102), (.mv (.s 6)), (some (99, false)), [17]⟩,
    ⟨(some 103), (.call (.c (.fn 350 [])) [(.s 102)]), (some (99, false)), [20, 19, 17]⟩,
    ⟨(some 104), (.bin .neq (.s 101) (.s 103)), (some (99, false)), [19, 21, 17]⟩,
    ⟨(some 105), (.pick (.s 99) (.c (.bool true)) (.s 104)), none, [17, 22]⟩,
    ⟨(some 106), (.mv (.s 105)), none, [23, 21]⟩,
    ⟨(some 107), (.mv (.s 5)), (some (106, false)), [24]⟩,
    ⟨(some 108), (.call (.c (.fn 349 [])) [(.s 107)]), (some (106, false)), [25, 24, 24]⟩,
    ⟨(some 109), (.mv (.s 6)), (some (106, false)), [24]⟩,
    ⟨(some 110), (.call (.c (.fn 349 [])) [(.s 109)]), (some (106, false)), [27, 26, 24]⟩,
    ⟨(some 111), (.bin .neq (.s 108) (.s 110)), (some (106, false)), [26, 28, 24]⟩,
    ⟨(some 112), (.pick (.s 106) (.c (.bool true)) (.s 111)), none, [24, 29]⟩] false)
  (.cond (.s 112)
   (.seq (.region [
     ⟨(some 4), (.mv (.c (.bool false))), none, []⟩] false)
   .ret)
   .skip))
  (.seq (.seq (.region [
    ⟨(some 113), (.mv (.s 7)), none, []⟩,
    ⟨(some 114), (.len false (.s 113)), none, [0]⟩,
    ⟨(some 115), (.mv (.c (.int .i64 0))), none, []⟩] false)
  (.block 4
   (.loop ⟨2, [(7, (Sh.sl (Sh.pr Sh.bool (Sh.pr (Sh.int .u16) (Sh.pr (Sh.sl (Sh.pr (Sh.int .u8) (Sh.sl (Sh.int .u8)))) (Sh.sl (Sh.int .u8))))))), (8, (Sh.sl (Sh.pr Sh.bool (Sh.pr (Sh.int .u16) (Sh.pr (Sh.sl (Sh.pr (Sh.int .u8) (Sh.sl (Sh.int .u8)))) (Sh.sl (Sh.int .u8)))))))], false, [7, 8, 114, 115], []⟩
    (.seq (.region [
      ⟨(some 116), (.bin .lss (.s 115) (.s 114)), none, []⟩] false)
    (.seq (.cond (.s 116)
     .skip
     (.pre ⟨0, [], false, [], []⟩ (.exit 4)))
    (.seq (.block 5
     (.seq (.region [
       ⟨(some 117), (.mv (.s 115)), none, []⟩,
       ⟨(some 20), (.mv (.s 117)), none, [0, 0]⟩] false)
     (.seq (.region [
       ⟨(some 118), (.mv (.s 7)), none, []⟩,
       ⟨(some 119), (.mv (.s 20)), none, []⟩,
       ⟨(some 120), (.iad 4 (.s 118) (.s 119)), none, [0, 1]⟩,
       ⟨(some 121), (.lda 4 none (.s 120)), none, [2]⟩,
       ⟨(some 122), (.mv (.s 8)), none, []⟩,
       ⟨(some 123), (.mv (.s 20)), none, []⟩,
       ⟨(some 124), (.iad 4 (.s 122) (.s 123)), none, [4, 5]⟩,
       ⟨(some 125), (.lda 4 none (.s 124)), none, [6]⟩,
       ⟨(some 126), (.call (.c (.fn 302 [])) [(.s 121), (.s 125)]), none, [3, 7]⟩,
       ⟨(some 127), (.un .not (.s 126)), none, [8]⟩] true)
     (.cond (.s 127)
      (.seq (.region [
        ⟨(some 4), (.mv (.c (.bool false))), none, []⟩] false)
      .ret)
      .skip))))
    (.region [
      ⟨(some 128), (.bin .add (.s 115) (.c (.int .i64 1))), none, []⟩,
      ⟨(some 115), (.mv (.s 128)), none, [0]⟩] false)))))))
  (.seq (.region [
    ⟨(some 129), (.call (.c (.fn 347 [])) []), none, []⟩,
    ⟨(some 4), (.mv (.s 129)), none, [0, 0, 0]⟩] false)
  .ret))))))))))), false, (some [(Sh.sl (Sh.int .u8)), (Sh.sl (Sh.int .u16))]), (some Sh.bool), false⟩

/-- euphroe/packet.Parse -/
def k341 : Fun := ⟨1, 68, [0, 2, 3, 4, 5, 6, 8, 10, 16, 21, 27, 33, 61], [(.cell 2 4 true none), (.tmp 3)],
  (.seq (.region [
    ⟨(some 2), (.new (.vals [(.bool false), (.int .u16 0), .nils, .nils])), none, []⟩,
    ⟨(some 3), (.mv (.c (.int .i64 0))), none, []⟩] false)
  (.seq (.region [
    ⟨(some 12), (.mv (.s 0)), none, []⟩,
    ⟨(some 13), (.call (.c (.fn 343 [])) [(.s 12)]), none, [0]⟩,
    ⟨(some 11), (.mv (.s 13)), none, [1]⟩,
    ⟨(some 14), (.ext (.s 11) 0), none, [2]⟩,
    ⟨(some 15), (.ext (.s 11) 1), none, [2]⟩,
    ⟨(some 4), (.mv (.s 14)), none, [3, 1, 0, 1, 2, 3]⟩,
    ⟨(some 5), (.mv (.s 15)), none, [4, 5, 0, 1, 2, 3, 4, 5]⟩] false)
  (.seq (.block 0
   (.seq (.region [
     ⟨(some 17), (.mv (.s 5)), none, []⟩,
     ⟨(some 18), (.bin .neq (.s 17) (.c (.int .i64 0))), none, [0]⟩,
     ⟨(some 16), (.mv (.s 18)), none, [1]⟩] false)
   (.cond (.s 16)
    (.seq (.region [
      ⟨(some 19), (.build (.vals [(.bool false), (.int .u16 0), .nils, .nils]) []), none, []⟩,
      ⟨(some 20), (.mv (.s 5)), none, []⟩,
      ⟨none, (.stc 4 (.s 2) (.s 19)), none, [0, 0]⟩,
      ⟨(some 3), (.mv (.s 20)), none, [1, 2, 0, 1, 2]⟩] false)
    .ret)
    (.seq (.region [
      ⟨(some 22), (.mv (.s 0)), none, []⟩,
      ⟨(some 23), (.len false (.s 22)), none, [0]⟩,
      ⟨(some 24), (.mv (.s 4)), none, []⟩,
      ⟨(some 25), (.bin .lss (.s 23) (.s 24)), none, [1, 2]⟩,
      ⟨(some 21), (.mv (.s 25)), none, [3]⟩] false)
    (.cond (.s 21)
     (.seq (.region [
       ⟨(some 26), (.build (.vals [(.bool false), (.int .u16 0), .nils, .nils]) []), none, []⟩,
       ⟨none, (.stc 4 (.s 2) (.s 26)), none, [0, 0]⟩,
       ⟨(some 3), (.mv (.c (.int .i64 4))), none, [1, 0, 1]⟩] false)
     .ret)
     (.seq (.region [
       ⟨(some 28), (.mv (.s 0)), none, []⟩,
       ⟨(some 29), (.len false (.s 28)), none, [0]⟩,
       ⟨(some 30), (.mv (.s 4)), none, []⟩,
       ⟨(some 31), (.bin .gtr (.s 29) (.s 30)), none, [1, 2]⟩,
       ⟨(some 27), (.mv (.s 31)), none, [3]⟩] false)
     (.cond (.s 27)
      (.seq (.region [
        ⟨(some 32), (.build (.vals [(.bool false), (.int .u16 0), .nils, .nils]) []), none, []⟩,
        ⟨none, (.stc 4 (.s 2) (.s 32)), none, [0, 0]⟩,
        ⟨(some 3), (.mv (.c (.int .i64 3))), none, [1, 0, 1]⟩] false)
      .ret)
      (.seq (.region [
        ⟨(some 34), (.mv (.s 0)), none, []⟩,
        ⟨(some 35), (.iad 1 (.s 34) (.c (.int .i64 1))), none, [0]⟩,
        ⟨(some 36), (.ldc (.s 35)), none, [1]⟩,
        ⟨(some 37), (.bin .eql (.s 36) (.c (.int .u8 0))), none, [2]⟩,
        ⟨(some 33), (.mv (.s 37)), none, [3]⟩] false)
      (.cond (.s 33)
       (.seq (.region [
         ⟨(some 38), (.mv (.s 0)), none, []⟩,
         ⟨(some 39), (.sls 1 (.s 38) (some (.c (.int .i64 4))) none none), none, [0]⟩,
         ⟨(some 40), (.call (.c (.fn 346 [])) [(.s 39)]), none, [1]⟩,
         ⟨none, (.stc 4 (.s 2) (.s 40)), none, [2, 2, 0, 1, 2]⟩,
         ⟨(some 3), (.mv (.c (.int .i64 0))), none, [3, 0, 1, 2, 3]⟩] false)
       .ret)
       .skip)))))))))
  (.seq (.region [
    ⟨(some 42), (.mv (.s 0)), none, []⟩,
    ⟨(some 43), (.sls 1 (.s 42) (some (.c (.int .i64 4))) (some (.c (.int .i64 6))) none), none, [0]⟩,
    ⟨(some 44), (.call (.c (.fn 21 [])) [(.s 43), (.c (.bool false))]), none, [1]⟩,
    ⟨(some 41), (.mv (.s 44)), none, [2]⟩,
    ⟨(some 45), (.ext (.s 41) 0), none, [3]⟩,
    ⟨(some 46), (.ext (.s 41) 1), none, [3]⟩,
    ⟨(some 6), (.mv (.s 45)), none, [4, 2, 0, 1, 2, 3, 4]⟩,
    ⟨(some 7), (.mv (.s 46)), none, [5, 6, 0, 1, 2, 3, 4, 5, 6]⟩] false)
  (.seq (.region [
    ⟨(some 48), (.mv (.s 0)), none, []⟩,
    ⟨(some 49), (.sls 1 (.s 48) (some (.c (.int .i64 6))) (some (.c (.int .i64 8))) none), none, [0]⟩,
    ⟨(some 50), (.call (.c (.fn 21 [])) [(.s 49), (.c (.bool false))]), none, [1]⟩,
    ⟨(some 47), (.mv (.s 50)), none, [2]⟩,
    ⟨(some 51), (.ext (.s 47) 0), none, [3]⟩,
    ⟨(some 52), (.ext (.s 47) 1), none, [3]⟩,
    ⟨(some 8), (.mv (.s 51)), none, [4, 2, 0, 1, 2, 3, 4]⟩,
    ⟨(some 9), (.mv (.s 52)), none, [5, 6, 0, 1, 2, 3, 4, 5, 6]⟩] false)
  (.seq (.region [
    ⟨(some 54), (.mv (.s 0)), none, []⟩,
    ⟨(some 55), (.sls 1 (.s 54) (some (.c (.int .i64 8))) none none), none, [0]⟩,
    ⟨(some 56), (.mv (.s 8)), none, []⟩,
    ⟨(some 57), (.call (.c (.fn 359 [])) [(.s 55), (.s 56)]), none, [1, 2]⟩,
    ⟨(some 53), (.mv (.s 57)), none, [3]⟩,
    ⟨(some 58), (.ext (.s 53) 0), none, [4]⟩,
    ⟨(some 59), (.ext (.s 53) 1), none, [4]⟩,
    ⟨(some 10), (.mv (.s 58)), none, [5, 3, 0, 1, 2, 3, 4, 5]⟩,
    ⟨(some 5), (.mv (.s 59)), none, [6, 7, 0, 1, 2, 3, 4, 5, 6, 7]⟩] false)
  (.seq (.seq (.region [
    ⟨(some 60), (.mv (.s 5)), none, []⟩,
    ⟨(some 61), (.bin .neq (.s 60) (.c (.int .i64 0))), none, [0]⟩] false)
  (.cond (.s 61)
   (.seq (.region [
     ⟨(some 62), (.build (.vals [(.bool false), (.int .u16 0), .nils, .nils]) []), none, []⟩,
     ⟨(some 63), (.mv (.s 5)), none, []⟩,
     ⟨none, (.stc 4 (.s 2) (.s 62)), none, [0, 0]⟩,
     ⟨(some 3), (.mv (.s 63)), none, [1, 2, 0, 1, 2]⟩] false)
   .ret)
   .skip))
  (.seq (.region [
    ⟨(some 64), (.mv (.s 6)), none, []⟩,
    ⟨(some 65), (.cvi .u16 (.s 64)), none, [0]⟩,
    ⟨(some 66), (.mv (.s 10)), none, []⟩,
    ⟨(some 67), (.call (.c (.fn 316 [])) [(.s 65), (.s 66)]), none, [1, 2]⟩,
    ⟨none, (.stc 4 (.s 2) (.s 67)), none, [3, 3, 0, 1, 2, 3]⟩,
    ⟨(some 3), (.mv (.c (.int .i64 0))), none, [4, 0, 1, 2, 3, 4]⟩] false)
  .ret)))))))), false, (some [(Sh.sl (Sh.int .u8))]), (some (Sh.tu (Sh.pr (Sh.st (Sh.pr Sh.bool (Sh.pr (Sh.int .u16) (Sh.pr (Sh.sl (Sh.pr (Sh.int .u8) (Sh.sl (Sh.int .u8)))) (Sh.sl (Sh.int .u8)))))) (Sh.int .i64)))), false⟩

/-- euphroe/euphroeref18.Parse -/
def k342 : Fun := ⟨1, 82, [0, 2, 3, 4, 5, 6, 7, 8, 9, 10, 11, 12, 19, 25, 30, 35, 44, 55, 65, 79], [(.cell 2 4 true none), (.tmp 3)],
  (.seq (.region [
    ⟨(some 2), (.new (.vals [(.bool false), (.int .u16 0), .nils, .nils])), none, []⟩,
    ⟨(some 3), (.mv (.c (.int .i64 0))), none, []⟩] false)
  (.seq (.region [
    ⟨(some 14), (.mv (.s 0)), none, []⟩,
    ⟨(some 15), (.call (.c (.fn 344 [])) [(.s 14)]), none, [0]⟩,
    ⟨(some 13), (.mv (.s 15)), none, [1]⟩,
    ⟨(some 16), (.ext (.s 13) 0), none, [2]⟩,
    ⟨(some 17), (.ext (.s 13) 1), none, [2]⟩,
    ⟨(some 4), (.mv (.s 16)), none, [3, 1, 0, 1, 2, 3]⟩,
    ⟨(some 5), (.mv (.s 17)), none, [4, 5, 0, 1, 2, 3, 4, 5]⟩] false)
  (.seq (.seq (.region [
    ⟨(some 18), (.mv (.s 5)), none, []⟩,
    ⟨(some 19), (.bin .neq (.s 18) (.c (.int .i64 0))), none, [0]⟩] false)
  (.cond (.s 19)
   (.seq (.region [
     ⟨(some 20), (.build (.vals [(.bool false), (.int .u16 0), .nils, .nils]) []), none, []⟩,
     ⟨(some 21), (.mv (.s 5)), none, []⟩,
     ⟨none, (.stc 4 (.s 2) (.s 20)), none, [0, 0]⟩,
     ⟨(some 3), (.mv (.s 21)), none, [1, 2, 0, 1, 2]⟩] false)
   .ret)
   .skip))
  (.seq (.seq (.region [
    ⟨(some 22), (.mv (.s 0)), none, []⟩,
    ⟨(some 23), (.len false (.s 22)), none, [0]⟩,
    ⟨(some 24), (.mv (.s 4)), none, []⟩,
    ⟨(some 25), (.bin .lss (.s 23) (.s 24)), none, [1, 2]⟩] false)
  (.cond (.s 25)
   (.seq (.region [
     ⟨(some 26), (.build (.vals [(.bool false), (.int .u16 0), .nils, .nils]) []), none, []⟩,
     ⟨none, (.stc 4 (.s 2) (.s 26)), none, [0, 0]⟩,
     ⟨(some 3), (.mv (.c (.int .i64 4))), none, [1, 0, 1]⟩] false)
   .ret)
   .skip))
  (.seq (.seq (.region [
    ⟨(some 27), (.mv (.s 0)), none, []⟩,
    ⟨(some 28), (.len false (.s 27)), none, [0]⟩,
    ⟨(some 29), (.mv (.s 4)), none, []⟩,
    ⟨(some 30), (.bin .gtr (.s 28) (.s 29)), none, [1, 2]⟩] false)
  (.cond (.s 30)
   (.seq (.region [
     ⟨(some 31), (.build (.vals [(.bool false), (.int .u16 0), .nils, .nils]) []), none, []⟩,
     ⟨none, (.stc 4 (.s 2) (.s 31)), none, [0, 0]⟩,
     ⟨(some 3), (.mv (.c (.int .i64 3))), none, [1, 0, 1]⟩] false)
   .ret)
   .skip))
  (.seq (.seq (.region [
    ⟨(some 32), (.mv (.s 0)), none, []⟩,
    ⟨(some 33), (.iad 1 (.s 32) (.c (.int .i64 1))), none, [0]⟩,
    ⟨(some 34), (.ldc (.s 33)), none, [1]⟩,
    ⟨(some 35), (.bin .eql (.s 34) (.c (.int .u8 0))), none, [2]⟩] false)
  (.cond (.s 35)
   (.seq (.region [
     ⟨(some 36), (.mv (.s 0)), none, []⟩,
     ⟨(some 37), (.sls 1 (.s 36) (some (.c (.int .i64 4))) none none), none, [0]⟩,
     ⟨(some 38), (.build (.vals [(.bool false), (.int .u16 0), .nils, .nils]) [(3, 1, (.s 37))]), none, [1]⟩,
     ⟨none, (.stc 4 (.s 2) (.s 38)), none, [2, 0, 1, 2]⟩,
     ⟨(some 3), (.mv (.c (.int .i64 0))), none, [3, 0, 1, 2, 3]⟩] false)
   .ret)
   .skip))
  (.seq (.region [
    ⟨(some 39), (.mv (.s 0)), none, []⟩,
    ⟨(some 40), (.sls 1 (.s 39) (some (.c (.int .i64 6))) (some (.c (.int .i64 8))) none), none, [0]⟩,
    ⟨(some 41), (.call (.c (.fn 51 [])) [(.s 40)]), none, [1]⟩,
    ⟨(some 42), (.cvi .i64 (.s 41)), none, [2]⟩,
    ⟨(some 6), (.mv (.s 42)), none, [3, 2, 0, 1, 2, 3]⟩] false)
  (.seq (.seq (.region [
    ⟨(some 43), (.mv (.s 6)), none, []⟩,
    ⟨(some 44), (.bin .gtr (.s 43) (.c (.int .i64 8))), none, [0]⟩] false)
  (.cond (.s 44)
   (.seq (.region [
     ⟨(some 45), (.build (.vals [(.bool false), (.int .u16 0), .nils, .nils]) []), none, []⟩,
     ⟨none, (.stc 4 (.s 2) (.s 45)), none, [0, 0]⟩,
     ⟨(some 3), (.mv (.c (.int .i64 5))), none, [1, 0, 1]⟩] false)
   .ret)
   .skip))
  (.seq (.region [
    ⟨(some 46), (.mv (.s 0)), none, []⟩,
    ⟨(some 47), (.sls 1 (.s 46) (some (.c (.int .i64 4))) (some (.c (.int .i64 6))) none), none, [0]⟩,
    ⟨(some 48), (.call (.c (.fn 51 [])) [(.s 47)]), none, [1]⟩,
    ⟨(some 49), (.cvi .u16 (.s 48)), none, [2]⟩,
    ⟨(some 50), (.build (.vals [(.bool false), (.int .u16 0), .nils, .nils]) [(0, 1, (.c (.bool true))), (1, 1, (.s 49))]), none, [3]⟩,
    ⟨(some 7), (.new (.vals [(.bool false), (.int .u16 0), .nils, .nils])), none, []⟩,
    ⟨none, (.stc 4 (.s 7) (.s 50)), none, [5, 4, 2, 0, 1, 2, 3, 4, 5]⟩] false)
  (.seq (.region [
    ⟨(some 51), (.mv (.s 0)), none, []⟩,
    ⟨(some 52), (.sls 1 (.s 51) (some (.c (.int .i64 8))) none none), none, [0]⟩,
    ⟨(some 8), (.mv (.s 52)), none, [1, 0, 1]⟩] false)
  (.seq (.seq (.region [
    ⟨(some 9), (.mv (.c (.int .i64 0))), none, []⟩] false)
  (.block 0
   (.loop ⟨0, [], false, [2, 6, 7, 8, 9], [(7, (.imm []), 2002)]⟩
    (.seq (.seq (.region [
      ⟨(some 53), (.mv (.s 9)), none, []⟩,
      ⟨(some 54), (.mv (.s 6)), none, []⟩,
      ⟨(some 55), (.bin .lss (.s 53) (.s 54)), none, [0, 1]⟩] false)
    (.cond (.s 55)
     .skip
     (.pre ⟨0, [], false, [2, 7, 8], []⟩ (.exit 0))))
    (.seq (.block 1
     (.seq (.region [
       ⟨(some 59), (.mv (.s 8)), none, []⟩,
       ⟨(some 60), (.call (.c (.fn 143 [])) [(.s 59)]), none, [0]⟩,
       ⟨(some 58), (.mv (.s 60)), none, [1]⟩,
       ⟨(some 61), (.ext (.s 58) 0), none, [2]⟩,
       ⟨(some 62), (.ext (.s 58) 1), none, [2]⟩,
       ⟨(some 63), (.ext (.s 58) 2), none, [2]⟩,
       ⟨(some 10), (.new (.vals [(.int .u8 0), .nils])), none, []⟩,
       ⟨none, (.stc 2 (.s 10) (.s 61)), none, [6, 3, 1, 0, 1, 2, 3, 6]⟩,
       ⟨(some 11), (.mv (.s 62)), none, [4, 7, 0, 1, 2, 3, 4, 6, 7]⟩,
       ⟨(some 12), (.mv (.s 63)), none, [5, 8, 0, 1, 2, 3, 4, 5, 6, 7, 8]⟩] false)
     (.seq (.seq (.region [
       ⟨(some 64), (.mv (.s 12)), none, []⟩,
       ⟨(some 65), (.bin .neq (.s 64) (.c (.int .i64 0))), none, [0]⟩] false)
     (.cond (.s 65)
      (.seq (.region [
        ⟨(some 66), (.build (.vals [(.bool false), (.int .u16 0), .nils, .nils]) []), none, []⟩,
        ⟨(some 67), (.mv (.s 12)), none, []⟩,
        ⟨none, (.stc 4 (.s 2) (.s 66)), none, [0, 0]⟩,
        ⟨(some 3), (.mv (.s 67)), none, [1, 2, 0, 1, 2]⟩] false)
      .ret)
      .skip))
     (.seq (.region [
       ⟨(some 68), (.fad 2 (.s 7)), none, []⟩,
       ⟨(some 69), (.ldc (.s 68)), none, [0]⟩,
       ⟨(some 70), (.lda 2 none (.s 10)), none, []⟩,
       ⟨(some 71), (.bsl 1 2 (.vals [(.int .u8 0), .nils]) [(0, 2, (.s 70))]), none, [2]⟩,
       ⟨(some 72), (.app 2 32 (.s 69) (.s 71)), none, [1, 3]⟩,
       ⟨(some 73), (.fad 2 (.s 7)), none, [0, 1, 2, 3, 4]⟩,
       ⟨none, (.stc 1 (.s 73) (.s 72)), none, [5, 4, 4, 0, 1, 2, 3, 4]⟩] false)
     (.region [
       ⟨(some 74), (.mv (.s 8)), none, []⟩,
       ⟨(some 75), (.mv (.s 11)), none, []⟩,
       ⟨(some 76), (.sls 1 (.s 74) (some (.s 75)) none none), none, [0, 1]⟩,
       ⟨(some 8), (.mv (.s 76)), none, [2, 0, 1, 2]⟩] false)))))
    (.region [
      ⟨(some 56), (.mv (.s 9)), none, []⟩,
      ⟨(some 57), (.bin .add (.s 56) (.c (.int .i64 1))), none, [0]⟩,
      ⟨(some 9), (.mv (.s 57)), none, [1, 0, 1]⟩] false))))))
  (.seq (.seq (.region [
    ⟨(some 77), (.mv (.s 8)), none, []⟩,
    ⟨(some 78), (.len false (.s 77)), none, [0]⟩,
    ⟨(some 79), (.bin .gtr (.s 78) (.c (.int .i64 0))), none, [1]⟩] false)
  (.cond (.s 79)
   (.seq (.region [
     ⟨(some 80), (.build (.vals [(.bool false), (.int .u16 0), .nils, .nils]) []), none, []⟩,
     ⟨none, (.stc 4 (.s 2) (.s 80)), none, [0, 0]⟩,
     ⟨(some 3), (.mv (.c (.int .i64 3))), none, [1, 0, 1]⟩] false)
   .ret)
   .skip))
  (.seq (.region [
    ⟨(some 81), (.lda 4 none (.s 7)), none, []⟩,
    ⟨none, (.stc 4 (.s 2) (.s 81)), none, [0, 0]⟩,
    ⟨(some 3), (.mv (.c (.int .i64 0))), none, [1, 0, 1]⟩] false)
  .ret))))))))))))), false, (some [(Sh.sl (Sh.int .u8))]), (some (Sh.tu (Sh.pr (Sh.st (Sh.pr Sh.bool (Sh.pr (Sh.int .u16) (Sh.pr (Sh.sl (Sh.pr (Sh.int .u8) (Sh.sl (Sh.int .u8)))) (Sh.sl (Sh.int .u8)))))) (Sh.int .i64)))), false⟩

/-- euphroe/packet.Length -/
def k343 : Fun := ⟨1, 42, [0, 2, 3, 4, 6, 7, 11, 25, 39], [(.tmp 2), (.tmp 3)],
  (.seq (.region [
    ⟨(some 2), (.mv (.c (.int .i64 0))), none, []⟩,
    ⟨(some 3), (.mv (.c (.int .i64 0))), none, [0]⟩] false)
  (.seq (.block 0
   (.seq (.region [
     ⟨(some 8), (.mv (.s 0)), none, []⟩,
     ⟨(some 9), (.len false (.s 8)), none, [0]⟩,
     ⟨(some 10), (.bin .lss (.s 9) (.c (.int .i64 4))), none, [1]⟩,
     ⟨(some 7), (.mv (.s 10)), none, [2]⟩] false)
   (.cond (.s 7)
    (.seq (.region [
      ⟨(some 2), (.mv (.c (.int .i64 0))), none, []⟩,
      ⟨(some 3), (.mv (.c (.int .i64 4))), none, [0, 0]⟩] false)
    .ret)
    (.seq (.region [
      ⟨(some 12), (.mv (.s 0)), none, []⟩,
      ⟨(some 13), (.iad 1 (.s 12) (.c (.int .i64 0))), none, [0]⟩,
      ⟨(some 14), (.ldc (.s 13)), none, [1]⟩,
      ⟨(some 15), (.bin .neq (.s 14) (.c (.int .u8 16))), none, [2]⟩,
      ⟨(some 11), (.mv (.s 15)), none, [3]⟩] false)
    (.cond (.s 11)
     (.seq (.region [
       ⟨(some 2), (.mv (.c (.int .i64 0))), none, []⟩,
       ⟨(some 3), (.mv (.c (.int .i64 15))), none, [0, 0]⟩] false)
     .ret)
     .skip)))))
  (.seq (.region [
    ⟨(some 17), (.mv (.s 0)), none, []⟩,
    ⟨(some 18), (.sls 1 (.s 17) (some (.c (.int .i64 2))) (some (.c (.int .i64 4))) none), none, [0]⟩,
    ⟨(some 19), (.call (.c (.fn 21 [])) [(.s 18), (.c (.bool false))]), none, [1]⟩,
    ⟨(some 16), (.mv (.s 19)), none, [2]⟩,
    ⟨(some 20), (.ext (.s 16) 0), none, [3]⟩,
    ⟨(some 21), (.ext (.s 16) 1), none, [3]⟩,
    ⟨(some 4), (.mv (.s 20)), none, [4, 2, 0, 1, 2, 3, 4]⟩,
    ⟨(some 5), (.mv (.s 21)), none, [5, 6, 0, 1, 2, 3, 4, 5, 6]⟩] false)
  (.seq (.region [
    ⟨(some 6), (.mv (.c (.int .i64 5))), none, []⟩] false)
  (.seq (.seq (.region [
    ⟨(some 22), (.mv (.s 0)), none, []⟩,
    ⟨(some 23), (.iad 1 (.s 22) (.c (.int .i64 1))), none, [0]⟩,
    ⟨(some 24), (.ldc (.s 23)), none, [1]⟩,
    ⟨(some 25), (.bin .eql (.s 24) (.c (.int .u8 1))), none, [2]⟩] false)
  (.cond (.s 25)
   (.region [
     ⟨(some 6), (.mv (.c (.int .i64 8))), none, []⟩] false)
   .skip))
  (.seq (.seq (.region [
    ⟨(some 26), (.mv (.s 0)), none, []⟩,
    ⟨(some 27), (.iad 1 (.s 26) (.c (.int .i64 1))), none, [0]⟩,
    ⟨(some 28), (.ldc (.s 27)), none, [1]⟩,
    ⟨(some 29), (.bin .gtr (.s 28) (.c (.int .u8 1))), none, [2]⟩,
    ⟨(some 30), (.mv (.s 29)), none, [3]⟩,
    ⟨(some 31), (.mv (.s 4)), (some (30, false)), [4]⟩,
    ⟨(some 32), (.cvi .i64 (.s 31)), (some (30, false)), [5, 4]⟩,
    ⟨(some 33), (.mv (.s 6)), (some (30, false)), [4]⟩,
    ⟨(some 34), (.bin .lss (.s 32) (.s 33)), (some (30, false)), [6, 7, 4]⟩,
    ⟨(some 35), (.pick (.s 30) (.c (.bool true)) (.s 34)), none, [4, 8]⟩,
    ⟨(some 36), (.mv (.s 35)), none, [9, 4]⟩,
    ⟨(some 37), (.mv (.s 4)), (some (36, false)), [10]⟩,
    ⟨(some 38), (.bin .gtr (.s 37) (.c (.int .u64 4095))), (some (36, false)), [11, 10]⟩,
    ⟨(some 39), (.pick (.s 36) (.c (.bool true)) (.s 38)), none, [10, 12]⟩] false)
  (.cond (.s 39)
   (.seq (.region [
     ⟨(some 2), (.mv (.c (.int .i64 0))), none, []⟩,
     ⟨(some 3), (.mv (.c (.int .i64 3))), none, [0, 0]⟩] false)
   .ret)
   .skip))
  (.seq (.region [
    ⟨(some 40), (.mv (.s 4)), none, []⟩,
    ⟨(some 41), (.cvi .i64 (.s 40)), none, [0]⟩,
    ⟨(some 2), (.mv (.s 41)), none, [1, 0, 1]⟩,
    ⟨(some 3), (.mv (.c (.int .i64 0))), none, [2, 0, 1, 2]⟩] false)
  .ret))))))), false, (some [(Sh.sl (Sh.int .u8))]), (some (Sh.tu (Sh.pr (Sh.int .i64) (Sh.int .i64)))), false⟩

/-- euphroe/euphroeref18.Length -/
def k344 : Fun := ⟨1, 39, [0, 2, 3, 4, 7, 11, 37], [(.tmp 2), (.tmp 3)],
  (.seq (.region [
    ⟨(some 2), (.mv (.c (.int .i64 0))), none, []⟩,
    ⟨(some 3), (.mv (.c (.int .i64 0))), none, [0]⟩] false)
  (.seq (.seq (.region [
    ⟨(some 5), (.mv (.s 0)), none, []⟩,
    ⟨(some 6), (.len false (.s 5)), none, [0]⟩,
    ⟨(some 7), (.bin .lss (.s 6) (.c (.int .i64 4))), none, [1]⟩] false)
  (.cond (.s 7)
   (.seq (.region [
     ⟨(some 2), (.mv (.c (.int .i64 0))), none, []⟩,
     ⟨(some 3), (.mv (.c (.int .i64 4))), none, [0, 0]⟩] false)
   .ret)
   .skip))
  (.seq (.seq (.region [
    ⟨(some 8), (.mv (.s 0)), none, []⟩,
    ⟨(some 9), (.iad 1 (.s 8) (.c (.int .i64 0))), none, [0]⟩,
    ⟨(some 10), (.ldc (.s 9)), none, [1]⟩,
    ⟨(some 11), (.bin .neq (.s 10) (.c (.int .u8 16))), none, [2]⟩] false)
  (.cond (.s 11)
   (.seq (.region [
     ⟨(some 2), (.mv (.c (.int .i64 0))), none, []⟩,
     ⟨(some 3), (.mv (.c (.int .i64 15))), none, [0, 0]⟩] false)
   .ret)
   .skip))
  (.seq (.region [
    ⟨(some 12), (.mv (.s 0)), none, []⟩,
    ⟨(some 13), (.sls 1 (.s 12) (some (.c (.int .i64 2))) (some (.c (.int .i64 4))) none), none, [0]⟩,
    ⟨(some 14), (.call (.c (.fn 51 [])) [(.s 13)]), none, [1]⟩,
    ⟨(some 15), (.cvi .i64 (.s 14)), none, [2]⟩,
    ⟨(some 4), (.mv (.s 15)), none, [3, 2, 0, 1, 2, 3]⟩] false)
  (.seq (.seq (.region [
    ⟨(some 16), (.mv (.s 0)), none, []⟩,
    ⟨(some 17), (.iad 1 (.s 16) (.c (.int .i64 1))), none, [0]⟩,
    ⟨(some 18), (.ldc (.s 17)), none, [1]⟩,
    ⟨(some 19), (.bin .gtr (.s 18) (.c (.int .u8 1))), none, [2]⟩,
    ⟨(some 20), (.mv (.s 19)), none, [3]⟩,
    ⟨(some 21), (.mv (.s 4)), (some (20, false)), [4]⟩,
    ⟨(some 22), (.bin .lss (.s 21) (.c (.int .i64 5))), (some (20, false)), [5, 4]⟩,
    ⟨(some 23), (.pick (.s 20) (.c (.bool true)) (.s 22)), none, [4, 6]⟩,
    ⟨(some 24), (.mv (.s 23)), none, [7, 4]⟩,
    ⟨(some 25), (.mv (.s 0)), (some (24, false)), [8]⟩,
    ⟨(some 26), (.iad 1 (.s 25) (.c (.int .i64 1))), (some (24, false)), [9, 8]⟩,
    ⟨(some 27), (.ldc (.s 26)), (some (24, false)), [10, 8]⟩,
    ⟨(some 28), (.bin .eql (.s 27) (.c (.int .u8 1))), (some (24, false)), [11, 8]⟩,
    ⟨(some 29), (.mv (.s 28)), (some (24, false)), [12, 8, 8]⟩,
    ⟨(some 30), (.mv (.s 4)), (some (29, true)), [13]⟩,
    ⟨(some 31), (.bin .lss (.s 30) (.c (.int .i64 8))), (some (29, true)), [14, 13]⟩,
    ⟨(some 32), (.pick (.s 29) (.s 31) (.c (.bool false))), (some (24, false)), [13, 15, 8]⟩,
    ⟨(some 33), (.pick (.s 24) (.c (.bool true)) (.s 32)), none, [8, 16]⟩,
    ⟨(some 34), (.mv (.s 33)), none, [17, 13]⟩,
    ⟨(some 35), (.mv (.s 4)), (some (34, false)), [18]⟩,
    ⟨(some 36), (.bin .gtr (.s 35) (.c (.int .i64 4095))), (some (34, false)), [19, 18]⟩,
    ⟨(some 37), (.pick (.s 34) (.c (.bool true)) (.s 36)), none, [18, 20]⟩] false)
  (.cond (.s 37)
   (.seq (.region [
     ⟨(some 2), (.mv (.c (.int .i64 0))), none, []⟩,
     ⟨(some 3), (.mv (.c (.int .i64 3))), none, [0, 0]⟩] false)
   .ret)
   .skip))
  (.seq (.region [
    ⟨(some 38), (.mv (.s 4)), none, []⟩,
    ⟨(some 2), (.mv (.s 38)), none, [0, 0]⟩,
    ⟨(some 3), (.mv (.c (.int .i64 0))), none, [1, 0, 1]⟩] false)
  .ret)))))), false, (some [(Sh.sl (Sh.int .u8))]), (some (Sh.tu (Sh.pr (Sh.int .i64) (Sh.int .i64)))), false⟩

/-- euphroe/packet.OfData -/
def k346 : Fun := ⟨1, 6, [0, 2], [(.cell 2 4 true none)],
  (.seq (.region [
    ⟨(some 2), (.new (.vals [(.bool false), (.int .u16 0), .nils, .nils])), none, []⟩] false)
  (.seq (.region [
    ⟨(some 3), (.mv (.s 0)), none, []⟩,
    ⟨(some 4), (.call (.c (.fn 108 [])) [(.s 3)]), none, [0]⟩,
    ⟨(some 5), (.build (.vals [(.bool false), (.int .u16 0), .nils, .nils]) [(3, 1, (.s 4))]), none, [1]⟩,
    ⟨none, (.stc 4 (.s 2) (.s 5)), none, [2, 1, 0, 1, 2]⟩] false)
  .ret)), false, (some [(Sh.sl (Sh.int .u8))]), (some (Sh.st (Sh.pr Sh.bool (Sh.pr (Sh.int .u16) (Sh.pr (Sh.sl (Sh.pr (Sh.int .u8) (Sh.sl (Sh.int .u8)))) (Sh.sl (Sh.int .u8))))))), false⟩

/-- euphroe/euphroelaw19.alive -/
def k347 : Fun := ⟨0, 84, [0, 1, 2, 3, 4, 5, 6, 7, 8, 25], [(.tmp 0)],
  (.seq (.region [
    ⟨(some 0), (.mv (.c (.bool false))), none, []⟩] false)
  (.seq (.region [
    ⟨(some 10), (.call (.c (.fn 316 [])) [(.c (.int .u16 8)), (.c .nils)]), none, []⟩,
    ⟨(some 11), (.call (.c (.fn 317 [])) [(.s 10)]), none, [0, 0]⟩,
    ⟨(some 9), (.mv (.s 11)), none, [1]⟩,
    ⟨(some 12), (.ext (.s 9) 0), none, [2]⟩,
    ⟨(some 13), (.ext (.s 9) 1), none, [2]⟩,
    ⟨(some 1), (.mv (.s 12)), none, [3, 1, 0, 1, 2, 3]⟩,
    ⟨(some 2), (.mv (.s 13)), none, [4, 5, 0, 1, 2, 3, 4, 5]⟩] false)
  (.seq (.region [
    ⟨(some 14), (.call (.c (.fn 353 [])) []), none, []⟩,
    ⟨(some 3), (.mv (.s 14)), none, [0, 0, 0]⟩] false)
  (.seq (.seq (.region [
    ⟨(some 15), (.mv (.s 3)), none, []⟩,
    ⟨(some 16), (.eqn .p false (.s 15) (.c .nilp)), none, [0]⟩,
    ⟨(some 17), (.mv (.s 16)), none, [1]⟩,
    ⟨(some 18), (.mv (.s 1)), (some (17, false)), [2]⟩,
    ⟨(some 19), (.len false (.s 18)), (some (17, false)), [3, 2]⟩,
    ⟨(some 20), (.bin .neq (.s 19) (.c (.int .i64 8))), (some (17, false)), [4, 2]⟩,
    ⟨(some 21), (.pick (.s 17) (.c (.bool true)) (.s 20)), none, [2, 5]⟩,
    ⟨(some 22), (.mv (.s 21)), none, [6, 2]⟩,
    ⟨(some 23), (.mv (.s 2)), (some (22, false)), [7]⟩,
    ⟨(some 24), (.bin .neq (.s 23) (.c (.int .i64 0))), (some (22, false)), [8, 7]⟩,
    ⟨(some 25), (.pick (.s 22) (.c (.bool true)) (.s 24)), none, [7, 9]⟩] false)
  (.cond (.s 25)
   (.seq (.region [
     ⟨(some 0), (.mv (.c (.bool false))), none, []⟩] false)
   .ret)
   .skip))
  (.seq (.region [
    ⟨(some 27), (.mv (.s 3)), none, []⟩,
    ⟨(some 28), (.mv (.s 1)), none, []⟩,
    ⟨(some 29), (.sls 1 (.s 28) none (some (.c (.int .i64 1))) none), none, [1]⟩,
    ⟨(some 30), (.call (.c (.fn 348 [])) [(.s 27), (.s 29)]), none, [0, 2]⟩,
    ⟨(some 26), (.mv (.s 30)), none, [3]⟩,
    ⟨(some 31), (.ext (.s 26) 0), none, [4]⟩,
    ⟨(some 32), (.ext (.s 26) 1), none, [4]⟩,
    ⟨(some 4), (.mv (.s 31)), none, [5, 3, 0, 1, 2, 3, 4, 5]⟩,
    ⟨(some 5), (.mv (.s 32)), none, [6, 7, 0, 1, 2, 3, 4, 5, 6, 7]⟩] false)
  (.seq (.region [
    ⟨(some 33), (.mv (.s 3)), none, []⟩,
    ⟨(some 34), (.call (.c (.fn 352 [])) [(.s 33)]), none, [0]⟩,
    ⟨(some 6), (.mv (.s 34)), none, [1, 1, 0, 1]⟩] false)
  (.seq (.region [
    ⟨(some 36), (.mv (.s 3)), none, []⟩,
    ⟨(some 37), (.mv (.s 1)), none, []⟩,
    ⟨(some 38), (.sls 1 (.s 37) (some (.c (.int .i64 1))) none none), none, [1]⟩,
    ⟨(some 39), (.call (.c (.fn 348 [])) [(.s 36), (.s 38)]), none, [0, 2]⟩,
    ⟨(some 35), (.mv (.s 39)), none, [3]⟩,
    ⟨(some 40), (.ext (.s 35) 0), none, [4]⟩,
    ⟨(some 41), (.ext (.s 35) 1), none, [4]⟩,
    ⟨(some 7), (.mv (.s 40)), none, [5, 3, 0, 1, 2, 3, 4, 5]⟩,
    ⟨(some 8), (.mv (.s 41)), none, [6, 7, 0, 1, 2, 3, 4, 5, 6, 7]⟩] false)
  (.seq (.region [
    ⟨(some 42), (.mv (.s 4)), none, []⟩,
    ⟨(some 43), (.len false (.s 42)), none, [0]⟩,
    ⟨(some 44), (.bin .eql (.s 43) (.c (.int .i64 0))), none, [1]⟩,
    ⟨(some 45), (.mv (.s 44)), none, [2]⟩,
    ⟨(some 46), (.mv (.s 5)), (some (45, true)), [3]⟩,
    ⟨(some 47), (.bin .eql (.s 46) (.c (.int .i64 0))), (some (45, true)), [4, 3]⟩,
    ⟨(some 48), (.pick (.s 45) (.s 47) (.c (.bool false))), none, [3, 5]⟩,
    ⟨(some 49), (.mv (.s 48)), none, [6, 3]⟩,
    ⟨(some 50), (.mv (.s 6)), (some (49, true)), [7]⟩,
    ⟨(some 51), (.bin .eql (.s 50) (.c (.int .i64 3))), (some (49, true)), [8, 7]⟩,
    ⟨(some 52), (.pick (.s 49) (.s 51) (.c (.bool false))), none, [7, 9]⟩,
    ⟨(some 53), (.mv (.s 52)), none, [10, 7]⟩,
    ⟨(some 54), (.mv (.s 7)), (some (53, true)), [11]⟩,
    ⟨(some 55), (.len false (.s 54)), (some (53, true)), [12, 11]⟩,
    ⟨(some 56), (.bin .eql (.s 55) (.c (.int .i64 1))), (some (53, true)), [13, 11]⟩,
    ⟨(some 57), (.pick (.s 53) (.s 56) (.c (.bool false))), none, [11, 14]⟩,
    ⟨(some 58), (.mv (.s 57)), none, [15, 11]⟩,
    ⟨(some 59), (.mv (.s 7)), (some (58, true)), [16]⟩,
    ⟨(some 60), (.iad 4 (.s 59) (.c (.int .i64 0))), (some (58, true)), [17, 16]⟩,
    ⟨(some 61), (.fad 1 (.s 60)), (some (58, true)), [18, 16]⟩,
    ⟨(some 62), (.ldc (.s 61)), (some (58, true)), [19, 16]⟩,
    ⟨(some 63), (.bin .eql (.s 62) (.c (.int .u16 8))), (some (58, true)), [20, 16]⟩,
    ⟨(some 64), (.pick (.s 58) (.s 63) (.c (.bool false))), none, [16, 21]⟩,
    ⟨(some 65), (.mv (.s 64)), none, [22, 16]⟩,
    ⟨(some 66), (.mv (.s 8)), (some (65, true)), [23]⟩,
    ⟨(some 67), (.bin .eql (.s 66) (.c (.int .i64 0))), (some (65, true)), [24, 23]⟩,
    ⟨(some 68), (.pick (.s 65) (.s 67) (.c (.bool false))), none, [23, 25]⟩,
    ⟨(some 69), (.mv (.s 68)), none, [26, 23]⟩,
    ⟨(some 70), (.mv (.s 3)), (some (69, true)), [27]⟩,
    ⟨(some 71), (.call (.c (.fn 351 [])) [(.s 70)]), (some (69, true)), [28, 27, 27]⟩,
    ⟨(some 72), (.bin .eql (.s 71) (.c (.int .i64 8))), (some (69, true)), [29, 27]⟩,
    ⟨(some 73), (.pick (.s 69) (.s 72) (.c (.bool false))), none, [27, 30]⟩,
    ⟨(some 74), (.mv (.s 73)), none, [31, 29]⟩,
    ⟨(some 75), (.mv (.s 3)), (some (74, true)), [32]⟩,
    ⟨(some 76), (.call (.c (.fn 349 [])) [(.s 75)]), (some (74, true)), [33, 32, 32]⟩,
    ⟨(some 77), (.bin .eql (.s 76) (.c (.int .i64 0))), (some (74, true)), [34, 32]⟩,
    ⟨(some 78), (.pick (.s 74) (.s 77) (.c (.bool false))), none, [32, 35]⟩,
    ⟨(some 79), (.mv (.s 78)), none, [36, 34]⟩,
    ⟨(some 80), (.mv (.s 3)), (some (79, true)), [37]⟩,
    ⟨(some 81), (.call (.c (.fn 350 [])) [(.s 80)]), (some (79, true)), [38, 37, 37]⟩,
    ⟨(some 82), (.bin .eql (.s 81) (.c (.int .i64 1))), (some (79, true)), [39, 37]⟩,
    ⟨(some 83), (.pick (.s 79) (.s 82) (.c (.bool false))), none, [37, 40]⟩,
    ⟨(some 0), (.mv (.s 83)), none, [41, 39, 0, 1, 2, 3, 4, 5, 6, 7, 8, 9, 10, 11, 12, 13, 14, 15, 16, 17, 18, 19, 20, 21, 22, 23, 24, 25, 26, 27, 28, 29, 30, 31, 32, 33, 34, 35, 36, 37, 38, 39, 40, 41]⟩] false)
  .ret)))))))), false, (some []), (some Sh.bool), false⟩

/-- (*euphroe/reframe.Stream).Write -/
def k348 : Fun := ⟨2, 60, [0, 1, 4, 5, 6, 7, 8, 9, 12, 17, 38, 48], [(.tmp 4), (.tmp 5)],
  (.seq (.region [
    ⟨(some 4), (.mv (.c .nils)), none, []⟩,
    ⟨(some 5), (.mv (.c (.int .i64 0))), none, [0]⟩] false)
  (.scope
   (.seq (.seq (.region [
     ⟨(some 10), (.mv (.s 0)), none, []⟩,
     ⟨(some 11), (.call (.c (.fn 361 [])) [(.s 10)]), none, [0]⟩,
     ⟨(some 12), (.un .not (.s 11)), none, [1]⟩] false)
   (.cond (.s 12)
    (.seq (.region [
      ⟨(some 4), (.mv (.c .nils)), none, []⟩,
      ⟨(some 5), (.mv (.c (.int .i64 2))), none, [0, 0]⟩] false)
    (.pre ⟨0, [(0, (Sh.st (Sh.pr Sh.bool (Sh.pr (Sh.sl (Sh.int .u8)) (Sh.pr (Sh.int .i64) (Sh.pr (Sh.int .i64) (Sh.int .i64))))))), (4, (Sh.sl (Sh.pr Sh.bool (Sh.pr (Sh.int .u16) (Sh.pr (Sh.sl (Sh.pr (Sh.int .u8) (Sh.sl (Sh.int .u8)))) (Sh.sl (Sh.int .u8)))))))], true, [], []⟩ .ret))
    .skip))
   (.seq (.seq (.region [
     ⟨(some 13), (.mv (.s 0)), none, []⟩,
     ⟨(some 14), (.nilc (.s 13)), none, [0]⟩,
     ⟨(some 15), (.fad 2 (.s 14)), none, [1]⟩,
     ⟨(some 16), (.ldc (.s 15)), none, [2]⟩,
     ⟨(some 17), (.bin .neq (.s 16) (.c (.int .i64 0))), none, [3]⟩] false)
   (.cond (.s 17)
    (.seq (.region [
      ⟨(some 18), (.mv (.s 0)), none, []⟩,
      ⟨(some 19), (.nilc (.s 18)), none, [0]⟩,
      ⟨(some 20), (.fad 2 (.s 19)), none, [1]⟩,
      ⟨(some 21), (.ldc (.s 20)), none, [2]⟩,
      ⟨(some 4), (.mv (.c .nils)), none, []⟩,
      ⟨(some 5), (.mv (.s 21)), none, [3, 4, 0, 1, 2, 3, 4]⟩] true)
    (.pre ⟨0, [(0, (Sh.st (Sh.pr Sh.bool (Sh.pr (Sh.sl (Sh.int .u8)) (Sh.pr (Sh.int .i64) (Sh.pr (Sh.int .i64) (Sh.int .i64))))))), (4, (Sh.sl (Sh.pr Sh.bool (Sh.pr (Sh.int .u16) (Sh.pr (Sh.sl (Sh.pr (Sh.int .u8) (Sh.sl (Sh.int .u8)))) (Sh.sl (Sh.int .u8)))))))], true, [], []⟩ .ret))
    .skip))
   (.seq (.region [
     ⟨(some 22), (.mv (.s 0)), none, []⟩,
     ⟨(some 23), (.mv (.s 0)), none, []⟩,
     ⟨(some 24), (.nilc (.s 23)), none, [1]⟩,
     ⟨(some 25), (.fad 1 (.s 24)), none, [2]⟩,
     ⟨(some 26), (.ldc (.s 25)), none, [3]⟩,
     ⟨(some 27), (.call (.c (.fn 108 [])) [(.s 26)]), none, [4]⟩,
     ⟨(some 28), (.mv (.s 1)), none, []⟩,
     ⟨(some 29), (.app 1 1 (.s 27) (.s 28)), none, [5, 6, 5]⟩,
     ⟨(some 30), (.nilc (.s 22)), none, [0, 0, 1, 2, 3, 4, 5, 6, 7]⟩,
     ⟨(some 31), (.fad 1 (.s 30)), none, [8, 0, 1, 2, 3, 4, 5, 6, 7]⟩,
     ⟨none, (.stc 1 (.s 31) (.s 29)), none, [9, 7, 7, 0, 1, 2, 3, 4, 5, 6, 7]⟩] false)
   (.seq (.region [
     ⟨(some 6), (.mv (.c .nils)), none, []⟩] false)
   (.seq (.label 0)
   (.seq (.block 0
    (.loop ⟨0, [(0, (Sh.st (Sh.pr Sh.bool (Sh.pr (Sh.sl (Sh.int .u8)) (Sh.pr Sh.bool (Sh.pr Sh.bool Sh.bool))))))], false, [0, 6], [(6, (.imm []), 4)]⟩
     (.block 1
      (.seq (.region [
        ⟨(some 33), (.mv (.s 0)), none, []⟩,
        ⟨(some 34), (.call (.c (.fn 362 [])) [(.s 33)]), none, [0]⟩,
        ⟨(some 32), (.mv (.s 34)), none, [1]⟩,
        ⟨(some 35), (.ext (.s 32) 0), none, [2]⟩,
        ⟨(some 36), (.ext (.s 32) 1), none, [2]⟩,
        ⟨(some 37), (.ext (.s 32) 2), none, [2]⟩,
        ⟨(some 7), (.new (.vals [(.bool false), (.int .u16 0), .nils, .nils])), none, []⟩,
        ⟨none, (.stc 4 (.s 7) (.s 35)), none, [6, 3, 1, 0, 1, 2, 3, 6]⟩,
        ⟨(some 8), (.mv (.s 36)), none, [4, 7, 0, 1, 2, 3, 4, 6, 7]⟩,
        ⟨(some 9), (.mv (.s 37)), none, [5, 8, 0, 1, 2, 3, 4, 5, 6, 7, 8]⟩] false)
      (.seq (.block 2
       (.seq (.region [
         ⟨(some 39), (.mv (.s 9)), none, []⟩,
         ⟨(some 40), (.bin .neq (.s 39) (.c (.int .i64 0))), none, [0]⟩,
         ⟨(some 38), (.mv (.s 40)), none, [1]⟩] false)
       (.cond (.s 38)
        (.seq (.region [
          ⟨(some 41), (.mv (.s 0)), none, []⟩,
          ⟨(some 42), (.mv (.s 0)), none, []⟩,
          ⟨(some 43), (.mv (.s 9)), none, []⟩,
          ⟨(some 44), (.nilc (.s 41)), none, [0, 0, 2]⟩,
          ⟨(some 45), (.fad 2 (.s 44)), none, [3, 0, 2]⟩,
          ⟨none, (.stc 1 (.s 45) (.s 43)), none, [4, 2, 0, 2]⟩,
          ⟨(some 46), (.nilc (.s 42)), none, [1, 0, 1, 2, 3, 4, 5]⟩,
          ⟨(some 47), (.fad 1 (.s 46)), none, [6, 0, 1, 2, 3, 4, 5]⟩,
          ⟨none, (.stc 1 (.s 47) (.c .nils)), none, [7, 5, 0, 1, 2, 3, 4, 5]⟩] false)
        (.pre ⟨0, [(0, (Sh.st (Sh.pr Sh.bool (Sh.pr (Sh.sl (Sh.int .u8)) (Sh.pr (Sh.int .i64) (Sh.pr (Sh.int .i64) (Sh.int .i64)))))))], false, [0, 6], []⟩ (.exit 0)))
        (.seq (.region [
          ⟨(some 49), (.mv (.s 8)), none, []⟩,
          ⟨(some 50), (.un .not (.s 49)), none, [0]⟩,
          ⟨(some 48), (.mv (.s 50)), none, [1]⟩] false)
        (.cond (.s 48)
         (.pre ⟨0, [(0, (Sh.st (Sh.pr Sh.bool (Sh.pr (Sh.sl (Sh.int .u8)) (Sh.pr (Sh.int .i64) (Sh.pr (Sh.int .i64) (Sh.int .i64)))))))], false, [0, 6], []⟩ (.exit 0))
         .skip)))))
      (.region [
        ⟨(some 51), (.mv (.s 6)), none, []⟩,
        ⟨(some 52), (.lda 4 none (.s 7)), none, []⟩,
        ⟨(some 53), (.bsl 1 4 (.vals [(.bool false), (.int .u16 0), .nils, .nils]) [(0, 4, (.s 52))]), none, [1]⟩,
        ⟨(some 54), (.app 4 56 (.s 51) (.s 53)), none, [0, 2]⟩,
        ⟨(some 6), (.mv (.s 54)), none, [3, 3, 0, 1, 2, 3]⟩] false))))))
   (.seq (.region [
     ⟨(some 55), (.mv (.s 6)), none, []⟩,
     ⟨(some 56), (.mv (.s 0)), none, []⟩,
     ⟨(some 57), (.nilc (.s 56)), none, [1]⟩,
     ⟨(some 58), (.fad 2 (.s 57)), none, [2]⟩,
     ⟨(some 59), (.ldc (.s 58)), none, [3]⟩,
     ⟨(some 4), (.mv (.s 55)), none, [0, 0]⟩,
     ⟨(some 5), (.mv (.s 59)), none, [4, 5, 0, 1, 2, 3, 4, 5]⟩] true)
   (.pre ⟨0, [(0, (Sh.st (Sh.pr Sh.bool (Sh.pr (Sh.sl (Sh.int .u8)) (Sh.pr (Sh.int .i64) (Sh.pr (Sh.int .i64) (Sh.int .i64))))))), (4, (Sh.sl (Sh.pr Sh.bool (Sh.pr (Sh.int .u16) (Sh.pr (Sh.sl (Sh.pr (Sh.int .u8) (Sh.sl (Sh.int .u8)))) (Sh.sl (Sh.int .u8)))))))], true, [], []⟩ .ret)))))))))), false, none, none, false⟩

/-- (*euphroe/reframe.Stream).Held -/
def k349 : Fun := ⟨1, 11, [0, 2, 5], [(.tmp 2)],
  (.seq (.region [
    ⟨(some 2), (.mv (.c (.int .i64 0))), none, []⟩] false)
  (.seq (.seq (.region [
    ⟨(some 3), (.mv (.s 0)), none, []⟩,
    ⟨(some 4), (.call (.c (.fn 361 [])) [(.s 3)]), none, [0]⟩,
    ⟨(some 5), (.un .not (.s 4)), none, [1]⟩] false)
  (.cond (.s 5)
   (.seq (.region [
     ⟨(some 2), (.mv (.c (.int .i64 0))), none, []⟩] false)
   .ret)
   .skip))
  (.seq (.region [
    ⟨(some 6), (.mv (.s 0)), none, []⟩,
    ⟨(some 7), (.nilc (.s 6)), none, [0]⟩,
    ⟨(some 8), (.fad 1 (.s 7)), none, [1]⟩,
    ⟨(some 9), (.ldc (.s 8)), none, [2]⟩,
    ⟨(some 10), (.len false (.s 9)), none, [3]⟩,
    ⟨(some 2), (.mv (.s 10)), none, [4, 0, 1, 2, 3, 4]⟩] false)
  .ret))), false, none, none, false⟩

/-- (*euphroe/reframe.Stream).Count -/
def k350 : Fun := ⟨1, 10, [0, 2, 5], [(.tmp 2)],
  (.seq (.region [
    ⟨(some 2), (.mv (.c (.int .i64 0))), none, []⟩] false)
  (.seq (.seq (.region [
    ⟨(some 3), (.mv (.s 0)), none, []⟩,
    ⟨(some 4), (.call (.c (.fn 361 [])) [(.s 3)]), none, [0]⟩,
    ⟨(some 5), (.un .not (.s 4)), none, [1]⟩] false)
  (.cond (.s 5)
   (.seq (.region [
     ⟨(some 2), (.mv (.c (.int .i64 0))), none, []⟩] false)
   .ret)
   .skip))
  (.seq (.region [
    ⟨(some 6), (.mv (.s 0)), none, []⟩,
    ⟨(some 7), (.nilc (.s 6)), none, [0]⟩,
    ⟨(some 8), (.fad 3 (.s 7)), none, [1]⟩,
    ⟨(some 9), (.ldc (.s 8)), none, [2]⟩,
    ⟨(some 2), (.mv (.s 9)), none, [3, 0, 1, 2, 3]⟩] false)
  .ret))), false, none, none, false⟩

/-- (*euphroe/reframe.Stream).At -/
def k351 : Fun := ⟨1, 10, [0, 2, 5], [(.tmp 2)],
  (.seq (.region [
    ⟨(some 2), (.mv (.c (.int .i64 0))), none, []⟩] false)
  (.seq (.seq (.region [
    ⟨(some 3), (.mv (.s 0)), none, []⟩,
    ⟨(some 4), (.call (.c (.fn 361 [])) [(.s 3)]), none, [0]⟩,
    ⟨(some 5), (.un .not (.s 4)), none, [1]⟩] false)
  (.cond (.s 5)
   (.seq (.region [
     ⟨(some 2), (.mv (.c (.int .i64 0))), none, []⟩] false)
   .ret)
   .skip))
  (.seq (.region [
    ⟨(some 6), (.mv (.s 0)), none, []⟩,
    ⟨(some 7), (.nilc (.s 6)), none, [0]⟩,
    ⟨(some 8), (.fad 4 (.s 7)), none, [1]⟩,
    ⟨(some 9), (.ldc (.s 8)), none, [2]⟩,
    ⟨(some 2), (.mv (.s 9)), none, [3, 0, 1, 2, 3]⟩] false)
  .ret))), false, none, none, false⟩

/-- (*euphroe/reframe.Stream).Wants -/
def k352 : Fun := ⟨1, 32, [0, 2, 3, 4, 14, 24], [(.tmp 2)],
  (.seq (.region [
    ⟨(some 2), (.mv (.c (.int .i64 0))), none, []⟩] false)
  (.seq (.seq (.region [
    ⟨(some 5), (.mv (.s 0)), none, []⟩,
    ⟨(some 6), (.call (.c (.fn 361 [])) [(.s 5)]), none, [0]⟩,
    ⟨(some 7), (.un .not (.s 6)), none, [1]⟩,
    ⟨(some 8), (.mv (.s 7)), none, [2, 1]⟩,
    ⟨(some 9), (.mv (.s 0)), (some (8, false)), [3]⟩,
    ⟨(some 10), (.nilc (.s 9)), (some (8, false)), [4, 3]⟩,
    ⟨(some 11), (.fad 2 (.s 10)), (some (8, false)), [5, 3]⟩,
    ⟨(some 12), (.ldc (.s 11)), (some (8, false)), [6, 3]⟩,
    ⟨(some 13), (.bin .neq (.s 12) (.c (.int .i64 0))), (some (8, false)), [7, 3]⟩,
    ⟨(some 14), (.pick (.s 8) (.c (.bool true)) (.s 13)), none, [3, 8]⟩] false)
  (.cond (.s 14)
   (.seq (.region [
     ⟨(some 2), (.mv (.c (.int .i64 0))), none, []⟩] false)
   .ret)
   .skip))
  (.seq (.region [
    ⟨(some 16), (.mv (.s 0)), none, []⟩,
    ⟨(some 17), (.nilc (.s 16)), none, [0]⟩,
    ⟨(some 18), (.fad 1 (.s 17)), none, [1]⟩,
    ⟨(some 19), (.ldc (.s 18)), none, [2]⟩,
    ⟨(some 20), (.call (.c (.fn 343 [])) [(.s 19)]), none, [3]⟩,
    ⟨(some 15), (.mv (.s 20)), none, [4]⟩,
    ⟨(some 21), (.ext (.s 15) 0), none, [5]⟩,
    ⟨(some 22), (.ext (.s 15) 1), none, [5]⟩,
    ⟨(some 3), (.mv (.s 21)), none, [6, 4, 0, 1, 2, 3, 4, 5, 6]⟩,
    ⟨(some 4), (.mv (.s 22)), none, [7, 8, 0, 1, 2, 3, 4, 5, 6, 7, 8]⟩] false)
  (.seq (.seq (.region [
    ⟨(some 23), (.mv (.s 4)), none, []⟩,
    ⟨(some 24), (.bin .neq (.s 23) (.c (.int .i64 0))), none, [0]⟩] false)
  (.cond (.s 24)
   (.region [
     ⟨(some 3), (.mv (.c (.int .i64 4))), none, []⟩] false)
   .skip))
  (.seq (.region [
    ⟨(some 25), (.mv (.s 3)), none, []⟩,
    ⟨(some 26), (.mv (.s 0)), none, []⟩,
    ⟨(some 27), (.nilc (.s 26)), none, [1]⟩,
    ⟨(some 28), (.fad 1 (.s 27)), none, [2]⟩,
    ⟨(some 29), (.ldc (.s 28)), none, [3]⟩,
    ⟨(some 30), (.len false (.s 29)), none, [4]⟩,
    ⟨(some 31), (.bin .sub (.s 25) (.s 30)), none, [0, 5]⟩,
    ⟨(some 2), (.mv (.s 31)), none, [6, 0, 1, 2, 3, 4, 5, 6]⟩] false)
  .ret))))), false, none, none, false⟩

/-- euphroe/reframe.New -/
def k353 : Fun := ⟨0, 3, [0], [(.tmp 0)],
  (.seq (.region [
    ⟨(some 0), (.mv (.c .nilp)), none, []⟩] false)
  (.seq (.region [
    ⟨(some 1), (.build (.vals [(.bool false), .nils, (.int .i64 0), (.int .i64 0), (.int .i64 0)]) [(0, 1, (.c (.bool true)))]), none, []⟩,
    ⟨(some 2), (.box (.s 1)), none, [0]⟩,
    ⟨(some 0), (.mv (.s 2)), none, [1, 0, 1]⟩] false)
  (.pre ⟨0, [(0, (Sh.st (Sh.pr Sh.bool (Sh.pr (Sh.sl (Sh.int .u8)) (Sh.pr (Sh.int .i64) (Sh.pr (Sh.int .i64) (Sh.int .i64)))))))], true, [], []⟩ .ret))), false, none, none, false⟩

/-- euphroe/euphroelaw19.cuts -/
def k354 : Fun := ⟨2, 39, [0, 1, 4, 5, 7, 8, 13, 14, 15, 16], [(.tmp 4)],
  (.seq (.region [
    ⟨(some 4), (.mv (.c .nils)), none, []⟩] false)
  (.seq (.region [
    ⟨(some 5), (.mv (.c .nils)), none, []⟩] false)
  (.seq (.seq (.region [
    ⟨(some 9), (.mv (.s 1)), none, []⟩,
    ⟨(some 10), (.mv (.s 1)), none, []⟩,
    ⟨(some 11), (.len false (.s 10)), none, [1]⟩,
    ⟨(some 12), (.mnx false [(.s 11), (.c (.int .i64 20))]), none, [2]⟩,
    ⟨(some 13), (.sls 1 (.s 9) none (some (.s 12)) none), none, [0, 3]⟩,
    ⟨(some 14), (.len false (.s 13)), none, [4]⟩,
    ⟨(some 15), (.mv (.c (.int .i64 0))), none, []⟩] false)
  (.block 0
   (.loop ⟨0, [], false, [0, 5, 13, 14, 15], [(5, (.imm []), 1)]⟩
    (.seq (.region [
      ⟨(some 16), (.bin .lss (.s 15) (.s 14)), none, []⟩] false)
    (.seq (.cond (.s 16)
     .skip
     (.pre ⟨0, [], false, [0, 5], []⟩ (.exit 0)))
    (.seq (.block 1
     (.seq (.region [
       ⟨(some 17), (.iad 1 (.s 13) (.s 15)), none, []⟩,
       ⟨(some 18), (.ldc (.s 17)), none, [0]⟩,
       ⟨(some 7), (.mv (.s 18)), none, [1, 0, 1]⟩] false)
     (.seq (.region [
       ⟨(some 19), (.mv (.s 7)), none, []⟩,
       ⟨(some 20), (.cvi .i64 (.s 19)), none, [0]⟩,
       ⟨(some 21), (.mv (.s 0)), none, []⟩,
       ⟨(some 22), (.len false (.s 21)), none, [2]⟩,
       ⟨(some 23), (.bin .add (.s 22) (.c (.int .i64 1))), none, [3]⟩,
       ⟨(some 24), (.bin .rem (.s 20) (.s 23)), none, [1, 4]⟩,
       ⟨(some 8), (.mv (.s 24)), none, [5, 0, 1, 2, 3, 4, 5]⟩] false)
     (.seq (.region [
       ⟨(some 25), (.mv (.s 5)), none, []⟩,
       ⟨(some 26), (.mv (.s 0)), none, []⟩,
       ⟨(some 27), (.mv (.s 8)), none, []⟩,
       ⟨(some 28), (.sls 1 (.s 26) none (some (.s 27)) none), none, [1, 2]⟩,
       ⟨(some 29), (.bsl 1 1 (.vals [.nils]) [(0, 1, (.s 28))]), none, [3]⟩,
       ⟨(some 30), (.app 1 24 (.s 25) (.s 29)), none, [0, 4]⟩,
       ⟨(some 5), (.mv (.s 30)), none, [5, 5, 0, 1, 2, 3, 4, 5]⟩] false)
     (.region [
       ⟨(some 31), (.mv (.s 0)), none, []⟩,
       ⟨(some 32), (.mv (.s 8)), none, []⟩,
       ⟨(some 33), (.sls 1 (.s 31) (some (.s 32)) none none), none, [0, 1]⟩,
       ⟨(some 0), (.mv (.s 33)), none, [2, 0, 1, 2]⟩] false)))))
    (.region [
      ⟨(some 34), (.bin .add (.s 15) (.c (.int .i64 1))), none, []⟩,
      ⟨(some 15), (.mv (.s 34)), none, [0]⟩] false)))))))
  (.seq (.region [
    ⟨(some 35), (.mv (.s 5)), none, []⟩,
    ⟨(some 36), (.mv (.s 0)), none, []⟩,
    ⟨(some 37), (.bsl 1 1 (.vals [.nils]) [(0, 1, (.s 36))]), none, [1]⟩,
    ⟨(some 38), (.app 1 24 (.s 35) (.s 37)), none, [0, 2]⟩,
    ⟨(some 4), (.mv (.s 38)), none, [3, 3, 0, 1, 2, 3]⟩] false)
  .ret)))), false, (some [(Sh.sl (Sh.int .u8)), (Sh.sl (Sh.int .u16))]), (some (Sh.sl (Sh.sl (Sh.int .u8)))), false⟩

/-- euphroe/euphroeref19.All -/
def k355 : Fun := ⟨1, 60, [0, 2, 3, 4, 5, 6, 7, 8, 9, 14, 23, 32, 46], [(.tmp 2), (.tmp 3), (.tmp 4)],
  (.seq (.region [
    ⟨(some 2), (.mv (.c .nils)), none, []⟩,
    ⟨(some 3), (.mv (.c (.int .i64 0))), none, [0]⟩,
    ⟨(some 4), (.mv (.c (.int .i64 0))), none, [1]⟩] false)
  (.seq (.region [
    ⟨(some 5), (.mv (.c .nils)), none, []⟩] false)
  (.seq (.region [
    ⟨(some 6), (.mv (.c (.int .i64 0))), none, []⟩] false)
  (.seq (.block 0
   (.loop ⟨0, [], false, [0, 5, 6], [(5, (.imm []), 4)]⟩
    (.seq (.seq (.region [
      ⟨(some 10), (.mv (.s 0)), none, []⟩,
      ⟨(some 11), (.len false (.s 10)), none, [0]⟩,
      ⟨(some 12), (.mv (.s 6)), none, []⟩,
      ⟨(some 13), (.bin .sub (.s 11) (.s 12)), none, [1, 2]⟩,
      ⟨(some 14), (.bin .geq (.s 13) (.c (.int .i64 4))), none, [3]⟩] false)
    (.cond (.s 14)
     .skip
     (.pre ⟨0, [], false, [5, 6], []⟩ (.exit 0))))
    (.block 1
     (.seq (.region [
       ⟨(some 16), (.mv (.s 0)), none, []⟩,
       ⟨(some 17), (.mv (.s 6)), none, []⟩,
       ⟨(some 18), (.sls 1 (.s 16) (some (.s 17)) none none), none, [0, 1]⟩,
       ⟨(some 19), (.call (.c (.fn 344 [])) [(.s 18)]), none, [2]⟩,
       ⟨(some 15), (.mv (.s 19)), none, [3]⟩,
       ⟨(some 20), (.ext (.s 15) 0), none, [4]⟩,
       ⟨(some 21), (.ext (.s 15) 1), none, [4]⟩,
       ⟨(some 7), (.mv (.s 20)), none, [5, 3, 0, 1, 2, 3, 4, 5]⟩,
       ⟨(some 8), (.mv (.s 21)), none, [6, 7, 0, 1, 2, 3, 4, 5, 6, 7]⟩] false)
     (.seq (.seq (.region [
       ⟨(some 22), (.mv (.s 8)), none, []⟩,
       ⟨(some 23), (.bin .neq (.s 22) (.c (.int .i64 0))), none, [0]⟩] false)
     (.cond (.s 23)
      (.seq (.region [
        ⟨(some 24), (.mv (.s 5)), none, []⟩,
        ⟨(some 25), (.mv (.s 6)), none, []⟩,
        ⟨(some 26), (.mv (.s 8)), none, []⟩,
        ⟨(some 2), (.mv (.s 24)), none, [0, 0]⟩,
        ⟨(some 3), (.mv (.s 25)), none, [1, 3, 0, 1, 3]⟩,
        ⟨(some 4), (.mv (.s 26)), none, [2, 4, 0, 1, 2, 3, 4]⟩] false)
      .ret)
      .skip))
     (.seq (.seq (.region [
       ⟨(some 27), (.mv (.s 0)), none, []⟩,
       ⟨(some 28), (.len false (.s 27)), none, [0]⟩,
       ⟨(some 29), (.mv (.s 6)), none, []⟩,
       ⟨(some 30), (.bin .sub (.s 28) (.s 29)), none, [1, 2]⟩,
       ⟨(some 31), (.mv (.s 7)), none, []⟩,
       ⟨(some 32), (.bin .lss (.s 30) (.s 31)), none, [3, 4]⟩] false)
     (.cond (.s 32)
      (.seq (.region [
        ⟨(some 33), (.mv (.s 5)), none, []⟩,
        ⟨(some 34), (.mv (.s 6)), none, []⟩,
        ⟨(some 2), (.mv (.s 33)), none, [0, 0]⟩,
        ⟨(some 3), (.mv (.s 34)), none, [1, 2, 0, 1, 2]⟩,
        ⟨(some 4), (.mv (.c (.int .i64 0))), none, [3, 0, 1, 2, 3]⟩] false)
      .ret)
      .skip))
     (.seq (.region [
       ⟨(some 36), (.mv (.s 0)), none, []⟩,
       ⟨(some 37), (.mv (.s 6)), none, []⟩,
       ⟨(some 38), (.mv (.s 6)), none, []⟩,
       ⟨(some 39), (.mv (.s 7)), none, []⟩,
       ⟨(some 40), (.bin .add (.s 38) (.s 39)), none, [2, 3]⟩,
       ⟨(some 41), (.sls 1 (.s 36) (some (.s 37)) (some (.s 40)) none), none, [0, 1, 4]⟩,
       ⟨(some 42), (.call (.c (.fn 342 [])) [(.s 41)]), none, [5]⟩,
       ⟨(some 35), (.mv (.s 42)), none, [6]⟩,
       ⟨(some 43), (.ext (.s 35) 0), none, [7]⟩,
       ⟨(some 44), (.ext (.s 35) 1), none, [7]⟩,
       ⟨(some 9), (.new (.vals [(.bool false), (.int .u16 0), .nils, .nils])), none, []⟩,
       ⟨none, (.stc 4 (.s 9) (.s 43)), none, [10, 8, 6, 0, 1, 2, 3, 4, 5, 6, 7, 8, 10]⟩,
       ⟨(some 8), (.mv (.s 44)), none, [9, 11, 0, 1, 2, 3, 4, 5, 6, 7, 8, 9, 10, 11]⟩] false)
     (.seq (.seq (.region [
       ⟨(some 45), (.mv (.s 8)), none, []⟩,
       ⟨(some 46), (.bin .neq (.s 45) (.c (.int .i64 0))), none, [0]⟩] false)
     (.cond (.s 46)
      (.seq (.region [
        ⟨(some 47), (.mv (.s 5)), none, []⟩,
        ⟨(some 48), (.mv (.s 6)), none, []⟩,
        ⟨(some 49), (.mv (.s 8)), none, []⟩,
        ⟨(some 2), (.mv (.s 47)), none, [0, 0]⟩,
        ⟨(some 3), (.mv (.s 48)), none, [1, 3, 0, 1, 3]⟩,
        ⟨(some 4), (.mv (.s 49)), none, [2, 4, 0, 1, 2, 3, 4]⟩] false)
      .ret)
      .skip))
     (.seq (.region [
       ⟨(some 50), (.mv (.s 5)), none, []⟩,
       ⟨(some 51), (.lda 4 none (.s 9)), none, []⟩,
       ⟨(some 52), (.bsl 1 4 (.vals [(.bool false), (.int .u16 0), .nils, .nils]) [(0, 4, (.s 51))]), none, [1]⟩,
       ⟨(some 53), (.app 4 56 (.s 50) (.s 52)), none, [0, 2]⟩,
       ⟨(some 5), (.mv (.s 53)), none, [3, 3, 0, 1, 2, 3]⟩] false)
     (.region [
       ⟨(some 54), (.mv (.s 6)), none, []⟩,
       ⟨(some 55), (.mv (.s 7)), none, []⟩,
       ⟨(some 56), (.mnx true [(.s 55), (.c (.int .i64 1))]), none, [1]⟩,
       ⟨(some 57), (.bin .add (.s 54) (.s 56)), none, [0, 2]⟩,
       ⟨(some 6), (.mv (.s 57)), none, [3, 0, 1, 2, 3]⟩] false)))))))))))
  (.seq (.region [
    ⟨(some 58), (.mv (.s 5)), none, []⟩,
    ⟨(some 59), (.mv (.s 6)), none, []⟩,
    ⟨(some 2), (.mv (.s 58)), none, [0, 0]⟩,
    ⟨(some 3), (.mv (.s 59)), none, [1, 2, 0, 1, 2]⟩,
    ⟨(some 4), (.mv (.c (.int .i64 0))), none, [3, 0, 1, 2, 3]⟩] false)
  .ret))))), false, (some [(Sh.sl (Sh.int .u8))]), (some (Sh.tu (Sh.pr (Sh.sl (Sh.pr Sh.bool (Sh.pr (Sh.int .u16) (Sh.pr (Sh.sl (Sh.pr (Sh.int .u8) (Sh.sl (Sh.int .u8)))) (Sh.sl (Sh.int .u8)))))) (Sh.pr (Sh.int .i64) (Sh.int .i64))))), false⟩

/-- euphroe/euphroeref19.Wants -/
def k356 : Fun := ⟨1, 20, [0, 2, 3, 7], [(.tmp 2)],
  (.seq (.region [
    ⟨(some 2), (.mv (.c (.int .i64 0))), none, []⟩] false)
  (.seq (.seq (.region [
    ⟨(some 5), (.mv (.s 0)), none, []⟩,
    ⟨(some 6), (.len false (.s 5)), none, [0]⟩,
    ⟨(some 7), (.bin .lss (.s 6) (.c (.int .i64 4))), none, [1]⟩] false)
  (.cond (.s 7)
   (.seq (.region [
     ⟨(some 8), (.mv (.s 0)), none, []⟩,
     ⟨(some 9), (.len false (.s 8)), none, [0]⟩,
     ⟨(some 10), (.bin .sub (.c (.int .i64 4)) (.s 9)), none, [1]⟩,
     ⟨(some 2), (.mv (.s 10)), none, [2, 0, 1, 2]⟩] false)
   .ret)
   .skip))
  (.seq (.region [
    ⟨(some 12), (.mv (.s 0)), none, []⟩,
    ⟨(some 13), (.call (.c (.fn 344 [])) [(.s 12)]), none, [0]⟩,
    ⟨(some 11), (.mv (.s 13)), none, [1]⟩,
    ⟨(some 14), (.ext (.s 11) 0), none, [2]⟩,
    ⟨(some 15), (.ext (.s 11) 1), none, [2]⟩,
    ⟨(some 3), (.mv (.s 14)), none, [3, 1, 0, 1, 2, 3]⟩,
    ⟨(some 4), (.mv (.s 15)), none, [4, 5, 0, 1, 2, 3, 4, 5]⟩] false)
  (.seq (.region [
    ⟨(some 16), (.mv (.s 3)), none, []⟩,
    ⟨(some 17), (.mv (.s 0)), none, []⟩,
    ⟨(some 18), (.len false (.s 17)), none, [1]⟩,
    ⟨(some 19), (.bin .sub (.s 16) (.s 18)), none, [0, 2]⟩,
    ⟨(some 2), (.mv (.s 19)), none, [3, 0, 1, 2, 3]⟩] false)
  .ret)))), false, (some [(Sh.sl (Sh.int .u8))]), (some (Sh.int .i64)), false⟩

/-- euphroe/euphroelaw19.theirs -/
def k357 : Fun := ⟨1, 32, [0, 1, 2, 3, 5, 14, 15, 16, 17], [(.cell 2 4 true none)],
  (.seq (.region [
    ⟨(some 1), (.box (.s 0)), none, []⟩,
    ⟨(some 2), (.new (.vals [(.bool false), (.int .u16 0), .nils, .nils])), none, []⟩] false)
  (.seq (.region [
    ⟨(some 6), (.fad 0 (.s 1)), none, []⟩,
    ⟨(some 7), (.ldc (.s 6)), none, [0]⟩,
    ⟨(some 8), (.fad 1 (.s 1)), none, []⟩,
    ⟨(some 9), (.ldc (.s 8)), none, [2]⟩,
    ⟨(some 10), (.fad 3 (.s 1)), none, []⟩,
    ⟨(some 11), (.ldc (.s 10)), none, [4]⟩,
    ⟨(some 12), (.build (.vals [(.bool false), (.int .u16 0), .nils, .nils]) [(0, 1, (.s 7)), (1, 1, (.s 9)), (3, 1, (.s 11))]), none, [1, 3, 5]⟩,
    ⟨(some 3), (.new (.vals [(.bool false), (.int .u16 0), .nils, .nils])), none, []⟩,
    ⟨none, (.stc 4 (.s 3) (.s 12)), none, [7, 6, 0, 1, 2, 3, 4, 5, 6, 7]⟩] false)
  (.seq (.seq (.region [
    ⟨(some 13), (.fad 2 (.s 1)), none, []⟩,
    ⟨(some 14), (.ldc (.s 13)), none, [0]⟩,
    ⟨(some 15), (.len false (.s 14)), none, [1]⟩,
    ⟨(some 16), (.mv (.c (.int .i64 0))), none, []⟩] false)
  (.block 0
   (.loop ⟨0, [], false, [2, 3, 14, 15, 16], [(3, (.imm []), 2002)]⟩
    (.seq (.region [
      ⟨(some 17), (.bin .lss (.s 16) (.s 15)), none, []⟩] false)
    (.seq (.cond (.s 17)
     .skip
     (.pre ⟨0, [], false, [2, 3], []⟩ (.exit 0)))
    (.seq (.block 1
     (.seq (.region [
       ⟨(some 18), (.iad 2 (.s 14) (.s 16)), none, []⟩,
       ⟨(some 19), (.lda 2 none (.s 18)), none, [0]⟩,
       ⟨(some 5), (.new (.vals [(.int .u8 0), .nils])), none, []⟩,
       ⟨none, (.stc 2 (.s 5) (.s 19)), none, [2, 1, 0, 1, 2]⟩] false)
     (.region [
       ⟨(some 20), (.fad 2 (.s 3)), none, []⟩,
       ⟨(some 21), (.ldc (.s 20)), none, [0]⟩,
       ⟨(some 22), (.fad 0 (.s 5)), none, []⟩,
       ⟨(some 23), (.ldc (.s 22)), none, [2]⟩,
       ⟨(some 24), (.fad 1 (.s 5)), none, []⟩,
       ⟨(some 25), (.ldc (.s 24)), none, [4]⟩,
       ⟨(some 26), (.build (.vals [(.int .u8 0), .nils]) [(0, 1, (.s 23)), (1, 1, (.s 25))]), none, [3, 5]⟩,
       ⟨(some 27), (.bsl 1 2 (.vals [(.int .u8 0), .nils]) [(0, 2, (.s 26))]), none, [6]⟩,
       ⟨(some 28), (.app 2 32 (.s 21) (.s 27)), none, [1, 7]⟩,
       ⟨(some 29), (.fad 2 (.s 3)), none, [0, 1, 2, 3, 4, 5, 6, 7, 8]⟩,
       ⟨none, (.stc 1 (.s 29) (.s 28)), none, [9, 8, 8, 0, 1, 2, 3, 4, 5, 6, 7, 8]⟩] false)))
    (.region [
      ⟨(some 30), (.bin .add (.s 16) (.c (.int .i64 1))), none, []⟩,
      ⟨(some 16), (.mv (.s 30)), none, [0]⟩] false)))))))
  (.seq (.region [
    ⟨(some 31), (.lda 4 none (.s 3)), none, []⟩,
    ⟨none, (.stc 4 (.s 2) (.s 31)), none, [0, 0]⟩] false)
  .ret)))), false, (some [(Sh.st (Sh.pr Sh.bool (Sh.pr (Sh.int .u16) (Sh.pr (Sh.sl (Sh.pr (Sh.int .u8) (Sh.sl (Sh.int .u8)))) (Sh.sl (Sh.int .u8))))))]), (some (Sh.st (Sh.pr Sh.bool (Sh.pr (Sh.int .u16) (Sh.pr (Sh.sl (Sh.pr (Sh.int .u8) (Sh.sl (Sh.int .u8)))) (Sh.sl (Sh.int .u8))))))), false⟩

/-- euphroe/packet.attrs -/
def k359 : Fun := ⟨2, 36, [0, 1, 4, 5, 6, 7, 8, 9, 11, 12, 13, 14, 22, 34], [(.tmp 4), (.tmp 5)],
  (.seq (.region [
    ⟨(some 4), (.mv (.c .nils)), none, []⟩,
    ⟨(some 5), (.mv (.c (.int .i64 0))), none, [0]⟩] false)
  (.seq (.seq (.region [
    ⟨(some 10), (.mv (.s 1)), none, []⟩,
    ⟨(some 11), (.bin .gtr (.s 10) (.c (.int .u64 8))), none, [0]⟩] false)
  (.cond (.s 11)
   (.seq (.region [
     ⟨(some 4), (.mv (.c .nils)), none, []⟩,
     ⟨(some 5), (.mv (.c (.int .i64 5))), none, [0, 0]⟩] false)
   .ret)
   .skip))
  (.seq (.region [
    ⟨(some 6), (.mv (.c .nils)), none, []⟩] false)
  (.seq (.seq (.region [
    ⟨(some 12), (.mv (.s 1)), none, []⟩,
    ⟨(some 13), (.mv (.c (.int .u64 0))), none, []⟩] false)
  (.block 0
   (.loop ⟨0, [], false, [0, 6, 12, 13], [(6, (.imm []), 2)]⟩
    (.seq (.region [
      ⟨(some 14), (.bin .lss (.s 13) (.s 12)), none, []⟩] false)
    (.seq (.cond (.s 14)
     .skip
     (.pre ⟨0, [], false, [0, 6], []⟩ (.exit 0)))
    (.seq (.block 1
     (.seq (.region [
       ⟨(some 16), (.mv (.s 0)), none, []⟩,
       ⟨(some 17), (.call (.c (.fn 142 [])) [(.s 16)]), none, [0]⟩,
       ⟨(some 15), (.mv (.s 17)), none, [1]⟩,
       ⟨(some 18), (.ext (.s 15) 0), none, [2]⟩,
       ⟨(some 19), (.ext (.s 15) 1), none, [2]⟩,
       ⟨(some 20), (.ext (.s 15) 2), none, [2]⟩,
       ⟨(some 7), (.new (.vals [(.int .u8 0), .nils])), none, []⟩,
       ⟨none, (.stc 2 (.s 7) (.s 18)), none, [6, 3, 1, 0, 1, 2, 3, 6]⟩,
       ⟨(some 8), (.mv (.s 19)), none, [4, 7, 0, 1, 2, 3, 4, 6, 7]⟩,
       ⟨(some 9), (.mv (.s 20)), none, [5, 8, 0, 1, 2, 3, 4, 5, 6, 7, 8]⟩] false)
     (.seq (.seq (.region [
       ⟨(some 21), (.mv (.s 9)), none, []⟩,
       ⟨(some 22), (.bin .neq (.s 21) (.c (.int .i64 0))), none, [0]⟩] false)
     (.cond (.s 22)
      (.seq (.region [
        ⟨(some 23), (.mv (.s 9)), none, []⟩,
        ⟨(some 4), (.mv (.c .nils)), none, []⟩,
        ⟨(some 5), (.mv (.s 23)), none, [0, 1, 0, 1]⟩] false)
      .ret)
      .skip))
     (.seq (.region [
       ⟨(some 24), (.mv (.s 6)), none, []⟩,
       ⟨(some 25), (.lda 2 none (.s 7)), none, []⟩,
       ⟨(some 26), (.bsl 1 2 (.vals [(.int .u8 0), .nils]) [(0, 2, (.s 25))]), none, [1]⟩,
       ⟨(some 27), (.app 2 32 (.s 24) (.s 26)), none, [0, 2]⟩,
       ⟨(some 6), (.mv (.s 27)), none, [3, 3, 0, 1, 2, 3]⟩] false)
     (.region [
       ⟨(some 28), (.mv (.s 0)), none, []⟩,
       ⟨(some 29), (.mv (.s 8)), none, []⟩,
       ⟨(some 30), (.sls 1 (.s 28) (some (.s 29)) none none), none, [0, 1]⟩,
       ⟨(some 0), (.mv (.s 30)), none, [2, 0, 1, 2]⟩] false)))))
    (.region [
      ⟨(some 31), (.bin .add (.s 13) (.c (.int .u64 1))), none, []⟩,
      ⟨(some 13), (.mv (.s 31)), none, [0]⟩] false)))))))
  (.seq (.seq (.region [
    ⟨(some 32), (.mv (.s 0)), none, []⟩,
    ⟨(some 33), (.len false (.s 32)), none, [0]⟩,
    ⟨(some 34), (.bin .gtr (.s 33) (.c (.int .i64 0))), none, [1]⟩] false)
  (.cond (.s 34)
   (.seq (.region [
     ⟨(some 4), (.mv (.c .nils)), none, []⟩,
     ⟨(some 5), (.mv (.c (.int .i64 3))), none, [0, 0]⟩] false)
   .ret)
   .skip))
  (.seq (.region [
    ⟨(some 35), (.mv (.s 6)), none, []⟩,
    ⟨(some 4), (.mv (.s 35)), none, [0, 0]⟩,
    ⟨(some 5), (.mv (.c (.int .i64 0))), none, [1, 0, 1]⟩] false)
  .ret)))))), false, (some [(Sh.sl (Sh.int .u8)), (Sh.int .u64)]), (some (Sh.tu (Sh.pr (Sh.sl (Sh.pr (Sh.int .u8) (Sh.sl (Sh.int .u8)))) (Sh.int .i64)))), false⟩

/-- (*euphroe/reframe.Stream).ok -/
def k361 : Fun := ⟨1, 11, [0, 2], [(.tmp 2)],
  (.seq (.region [
    ⟨(some 2), (.mv (.c (.bool false))), none, []⟩] false)
  (.seq (.region [
    ⟨(some 3), (.mv (.s 0)), none, []⟩,
    ⟨(some 4), (.eqn .p true (.s 3) (.c .nilp)), none, [0]⟩,
    ⟨(some 5), (.mv (.s 4)), none, [1]⟩,
    ⟨(some 6), (.mv (.s 0)), (some (5, true)), [2]⟩,
    ⟨(some 7), (.nilc (.s 6)), (some (5, true)), [3, 2]⟩,
    ⟨(some 8), (.fad 0 (.s 7)), (some (5, true)), [4, 2]⟩,
    ⟨(some 9), (.ldc (.s 8)), (some (5, true)), [5, 2]⟩,
    ⟨(some 10), (.pick (.s 5) (.s 9) (.c (.bool false))), none, [2, 6]⟩,
    ⟨(some 2), (.mv (.s 10)), none, [7, 2, 0, 1, 2, 3, 4, 5, 6, 7]⟩] false)
  .ret)), false, none, none, true⟩

/-- (*euphroe/reframe.Stream).next -/
def k362 : Fun := ⟨1, 73, [0, 2, 3, 4, 5, 6, 7, 16, 20, 45], [(.cell 2 4 true none), (.tmp 3), (.tmp 4)],
  (.seq (.region [
    ⟨(some 2), (.new (.vals [(.bool false), (.int .u16 0), .nils, .nils])), none, []⟩,
    ⟨(some 3), (.mv (.c (.bool false))), none, []⟩,
    ⟨(some 4), (.mv (.c (.int .i64 0))), none, [1]⟩] false)
  (.seq (.region [
    ⟨(some 9), (.mv (.s 0)), none, []⟩,
    ⟨(some 10), (.nilc (.s 9)), none, [0]⟩,
    ⟨(some 11), (.fad 1 (.s 10)), none, [1]⟩,
    ⟨(some 12), (.ldc (.s 11)), none, [2]⟩,
    ⟨(some 13), (.call (.c (.fn 343 [])) [(.s 12)]), none, [3]⟩,
    ⟨(some 8), (.mv (.s 13)), none, [4]⟩,
    ⟨(some 14), (.ext (.s 8) 0), none, [5]⟩,
    ⟨(some 15), (.ext (.s 8) 1), none, [5]⟩,
    ⟨(some 5), (.mv (.s 14)), none, [6, 4, 0, 1, 2, 3, 4, 5, 6]⟩,
    ⟨(some 6), (.mv (.s 15)), none, [7, 8, 0, 1, 2, 3, 4, 5, 6, 7, 8]⟩] false)
  (.seq (.block 0
   (.seq (.region [
     ⟨(some 17), (.mv (.s 6)), none, []⟩,
     ⟨(some 18), (.bin .eql (.s 17) (.c (.int .i64 4))), none, [0]⟩,
     ⟨(some 16), (.mv (.s 18)), none, [1]⟩] false)
   (.cond (.s 16)
    (.seq (.region [
      ⟨(some 19), (.build (.vals [(.bool false), (.int .u16 0), .nils, .nils]) []), none, []⟩,
      ⟨none, (.stc 4 (.s 2) (.s 19)), none, [0, 0]⟩,
      ⟨(some 3), (.mv (.c (.bool false))), none, [1, 0, 1]⟩,
      ⟨(some 4), (.mv (.c (.int .i64 0))), none, [2, 0, 1, 2]⟩] false)
    (.pre ⟨0, [(0, (Sh.st (Sh.pr Sh.bool (Sh.pr (Sh.sl (Sh.int .u8)) (Sh.pr (Sh.int .i64) (Sh.pr (Sh.int .i64) (Sh.int .i64)))))))], true, [], []⟩ .ret))
    (.seq (.region [
      ⟨(some 21), (.mv (.s 6)), none, []⟩,
      ⟨(some 22), (.bin .neq (.s 21) (.c (.int .i64 0))), none, [0]⟩,
      ⟨(some 23), (.mv (.s 22)), none, [1]⟩,
      ⟨(some 24), (.mv (.s 0)), (some (23, false)), [2]⟩,
      ⟨(some 25), (.nilc (.s 24)), (some (23, false)), [3, 2]⟩,
      ⟨(some 26), (.fad 1 (.s 25)), (some (23, false)), [4, 2]⟩,
      ⟨(some 27), (.ldc (.s 26)), (some (23, false)), [5, 2]⟩,
      ⟨(some 28), (.len false (.s 27)), (some (23, false)), [6, 2]⟩,
      ⟨(some 29), (.mv (.s 5)), (some (23, false)), [2]⟩,
      ⟨(some 30), (.bin .lss (.s 28) (.s 29)), (some (23, false)), [7, 8, 2]⟩,
      ⟨(some 31), (.pick (.s 23) (.c (.bool true)) (.s 30)), none, [2, 9]⟩,
      ⟨(some 20), (.mv (.s 31)), none, [10, 2]⟩] false)
    (.cond (.s 20)
     (.seq (.region [
       ⟨(some 32), (.build (.vals [(.bool false), (.int .u16 0), .nils, .nils]) []), none, []⟩,
       ⟨(some 33), (.mv (.s 6)), none, []⟩,
       ⟨none, (.stc 4 (.s 2) (.s 32)), none, [0, 0]⟩,
       ⟨(some 3), (.mv (.c (.bool false))), none, [2, 0, 2]⟩,
       ⟨(some 4), (.mv (.s 33)), none, [1, 3, 0, 1, 2, 3]⟩] false)
     (.pre ⟨0, [(0, (Sh.st (Sh.pr Sh.bool (Sh.pr (Sh.sl (Sh.int .u8)) (Sh.pr (Sh.int .i64) (Sh.pr (Sh.int .i64) (Sh.int .i64)))))))], true, [], []⟩ .ret))
     .skip)))))
  (.seq (.region [
    ⟨(some 35), (.mv (.s 0)), none, []⟩,
    ⟨(some 36), (.nilc (.s 35)), none, [0]⟩,
    ⟨(some 37), (.fad 1 (.s 36)), none, [1]⟩,
    ⟨(some 38), (.ldc (.s 37)), none, [2]⟩,
    ⟨(some 39), (.mv (.s 5)), none, []⟩,
    ⟨(some 40), (.sls 1 (.s 38) none (some (.s 39)) none), none, [3, 4]⟩,
    ⟨(some 41), (.call (.c (.fn 341 [])) [(.s 40)]), none, [5]⟩,
    ⟨(some 34), (.mv (.s 41)), none, [6]⟩,
    ⟨(some 42), (.ext (.s 34) 0), none, [7]⟩,
    ⟨(some 43), (.ext (.s 34) 1), none, [7]⟩,
    ⟨(some 7), (.new (.vals [(.bool false), (.int .u16 0), .nils, .nils])), none, []⟩,
    ⟨none, (.stc 4 (.s 7) (.s 42)), none, [10, 8, 6, 0, 1, 2, 3, 4, 5, 6, 7, 8, 10]⟩,
    ⟨(some 6), (.mv (.s 43)), none, [9, 11, 0, 1, 2, 3, 4, 5, 6, 7, 8, 9, 10, 11]⟩] false)
  (.seq (.seq (.region [
    ⟨(some 44), (.mv (.s 6)), none, []⟩,
    ⟨(some 45), (.bin .neq (.s 44) (.c (.int .i64 0))), none, [0]⟩] false)
  (.cond (.s 45)
   (.seq (.region [
     ⟨(some 46), (.build (.vals [(.bool false), (.int .u16 0), .nils, .nils]) []), none, []⟩,
     ⟨(some 47), (.mv (.s 6)), none, []⟩,
     ⟨none, (.stc 4 (.s 2) (.s 46)), none, [0, 0]⟩,
     ⟨(some 3), (.mv (.c (.bool false))), none, [2, 0, 2]⟩,
     ⟨(some 4), (.mv (.s 47)), none, [1, 3, 0, 1, 2, 3]⟩] false)
   (.pre ⟨0, [(0, (Sh.st (Sh.pr Sh.bool (Sh.pr (Sh.sl (Sh.int .u8)) (Sh.pr (Sh.int .i64) (Sh.pr (Sh.int .i64) (Sh.int .i64)))))))], true, [], []⟩ .ret))
   .skip))
  (.seq (.region [
    ⟨(some 48), (.mv (.s 0)), none, []⟩,
    ⟨(some 49), (.mv (.s 0)), none, []⟩,
    ⟨(some 50), (.nilc (.s 49)), none, [1]⟩,
    ⟨(some 51), (.fad 1 (.s 50)), none, [2]⟩,
    ⟨(some 52), (.ldc (.s 51)), none, [3]⟩,
    ⟨(some 53), (.mv (.s 5)), none, []⟩,
    ⟨(some 54), (.sls 1 (.s 52) (some (.s 53)) none none), none, [4, 5]⟩,
    ⟨(some 55), (.nilc (.s 48)), none, [0, 0, 1, 2, 3, 4, 5, 6]⟩,
    ⟨(some 56), (.fad 1 (.s 55)), none, [7, 0, 1, 2, 3, 4, 5, 6]⟩,
    ⟨none, (.stc 1 (.s 56) (.s 54)), none, [8, 6, 0, 1, 2, 3, 4, 5, 6]⟩] false)
  (.seq (.region [
    ⟨(some 57), (.mv (.s 0)), none, []⟩,
    ⟨(some 58), (.nilc (.s 57)), none, [0]⟩,
    ⟨(some 59), (.fad 4 (.s 58)), none, [1]⟩,
    ⟨(some 60), (.ldc (.s 59)), none, [2]⟩,
    ⟨(some 61), (.mv (.s 5)), none, []⟩,
    ⟨(some 62), (.bin .add (.s 60) (.s 61)), none, [3, 4]⟩,
    ⟨(some 63), (.nilc (.s 57)), none, [0, 0, 1, 2, 3, 4, 5]⟩,
    ⟨(some 64), (.fad 4 (.s 63)), none, [6, 0, 1, 2, 3, 4, 5]⟩,
    ⟨none, (.stc 1 (.s 64) (.s 62)), none, [7, 5, 0, 1, 2, 3, 4, 5]⟩] false)
  (.seq (.region [
    ⟨(some 65), (.mv (.s 0)), none, []⟩,
    ⟨(some 66), (.nilc (.s 65)), none, [0]⟩,
    ⟨(some 67), (.fad 3 (.s 66)), none, [1]⟩,
    ⟨(some 68), (.ldc (.s 67)), none, [2]⟩,
    ⟨(some 69), (.bin .add (.s 68) (.c (.int .i64 1))), none, [3]⟩,
    ⟨(some 70), (.nilc (.s 65)), none, [0, 0, 1, 2, 3, 4]⟩,
    ⟨(some 71), (.fad 3 (.s 70)), none, [5, 0, 1, 2, 3, 4]⟩,
    ⟨none, (.stc 1 (.s 71) (.s 69)), none, [6, 4, 0, 1, 2, 3, 4]⟩] false)
  (.seq (.region [
    ⟨(some 72), (.lda 4 none (.s 7)), none, []⟩,
    ⟨none, (.stc 4 (.s 2) (.s 72)), none, [0, 0]⟩,
    ⟨(some 3), (.mv (.c (.bool true))), none, [1, 0, 1]⟩,
    ⟨(some 4), (.mv (.c (.int .i64 0))), none, [2, 0, 1, 2]⟩] false)
  (.pre ⟨0, [(0, (Sh.st (Sh.pr Sh.bool (Sh.pr (Sh.sl (Sh.int .u8)) (Sh.pr (Sh.int .i64) (Sh.pr (Sh.int .i64) (Sh.int .i64)))))))], true, [], []⟩ .ret)))))))))), false, none, none, false⟩

def FT : Nat → Option Fun
  | 1 => some k1
  | 19 => some k19
  | 21 => some k21
  | 46 => some k46
  | 48 => some k48
  | 51 => some k51
  | 64 => some k64
  | 139 => some k139
  | 142 => some k142
  | 143 => some k143
  | 144 => some k144
  | 160 => some k160
  | 161 => some k161
  | 162 => some k162
  | 302 => some k302
  | 313 => some k313
  | 316 => some k316
  | 317 => some k317
  | 321 => some k321
  | 322 => some k322
  | 333 => some k333
  | 334 => some k334
  | 335 => some k335
  | 336 => some k336
  | 341 => some k341
  | 342 => some k342
  | 343 => some k343
  | 344 => some k344
  | 346 => some k346
  | 347 => some k347
  | 348 => some k348
  | 349 => some k349
  | 350 => some k350
  | 351 => some k351
  | 352 => some k352
  | 353 => some k353
  | 354 => some k354
  | 355 => some k355
  | 356 => some k356
  | 357 => some k357
  | 359 => some k359
  | 361 => some k361
  | 362 => some k362
  | _ => none
end Go.Proofs.YteagngpgghnlmaaE
