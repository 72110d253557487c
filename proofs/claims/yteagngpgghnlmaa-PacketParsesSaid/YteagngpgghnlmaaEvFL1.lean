/- The evaluator's functions. -/
import Derived.Test.YteagngpgghnlmaaEvXT
namespace Go.Proofs.YteagngpgghnlmaaE
open Go
set_option linter.unusedVariables false
set_option linter.unusedSimpArgs false

/-- slices.Concat[[]byte,byte] -/
def k1 : Fun := ⟨1, 36, [0, 2, 3, 5, 6, 8, 9, 10, 11, 12, 20, 25, 26, 27, 28], [(.tmp 2)],
  (.seq (.region [
    ⟨(some 2), (.mv (.c .nils)), none, []⟩] false)
  (.seq (.region [
    ⟨(some 3), (.mv (.c (.int .i64 0))), none, []⟩] false)
  (.seq (.seq (.region [
    ⟨(some 9), (.mv (.s 0)), none, []⟩,
    ⟨(some 10), (.len false (.s 9)), none, [0]⟩,
    ⟨(some 11), (.mv (.c (.int .i64 0))), none, []⟩] false)
  (.block 0
   (.loop ⟨0, [], false, [0, 3, 9, 10, 11], []⟩
    (.seq (.region [
      ⟨(some 12), (.bin .lss (.s 11) (.s 10)), none, []⟩] false)
    (.seq (.cond (.s 12)
     .skip
     (.pre ⟨0, [], false, [0, 3], []⟩ (.exit 0)))
    (.seq (.block 1
     (.seq (.region [
       ⟨(some 13), (.iad 1 (.s 9) (.s 11)), none, []⟩,
       ⟨(some 14), (.ldc (.s 13)), none, [0]⟩,
       ⟨(some 5), (.mv (.s 14)), none, [1, 0, 1]⟩] false)
     (.seq (.region [
       ⟨(some 15), (.mv (.s 3)), none, []⟩,
       ⟨(some 16), (.mv (.s 5)), none, []⟩,
       ⟨(some 17), (.len false (.s 16)), none, [1]⟩,
       ⟨(some 18), (.bin .add (.s 15) (.s 17)), none, [0, 2]⟩,
       ⟨(some 3), (.mv (.s 18)), none, [3, 0, 1, 2, 3]⟩] false)
     (.seq (.region [
       ⟨(some 19), (.mv (.s 3)), none, []⟩,
       ⟨(some 20), (.bin .lss (.s 19) (.c (.int .i64 0))), none, [0]⟩] false)
     (.cond (.s 20)
      (.region [
        ⟨(some 21), .bad, none, []⟩,
        ⟨none, .bad, none, [0]⟩] false)
      .skip)))))
    (.region [
      ⟨(some 22), (.bin .add (.s 11) (.c (.int .i64 1))), none, []⟩,
      ⟨(some 11), (.mv (.s 22)), none, [0]⟩] false)))))))
  (.seq (.region [
    ⟨(some 23), (.mv (.s 3)), none, []⟩,
    ⟨(some 24), (.call (.c (.fn 64 [])) [(.c .nils), (.s 23)]), none, [0]⟩,
    ⟨(some 6), (.mv (.s 24)), none, [1, 1, 0, 1]⟩] false)
  (.seq (.seq (.region [
    ⟨(some 25), (.mv (.s 0)), none, []⟩,
    ⟨(some 26), (.len false (.s 25)), none, [0]⟩,
    ⟨(some 27), (.mv (.c (.int .i64 0))), none, []⟩] false)
  (.block 2
   (.loop ⟨1, [], false, [6, 25, 26, 27], []⟩
    (.seq (.region [
      ⟨(some 28), (.bin .lss (.s 27) (.s 26)), none, []⟩] false)
    (.seq (.cond (.s 28)
     .skip
     (.pre ⟨0, [], false, [6], []⟩ (.exit 2)))
    (.seq (.block 3
     (.seq (.region [
       ⟨(some 29), (.iad 1 (.s 25) (.s 27)), none, []⟩,
       ⟨(some 30), (.ldc (.s 29)), none, [0]⟩,
       ⟨(some 8), (.mv (.s 30)), none, [1, 0, 1]⟩] false)
     (.region [
       ⟨(some 31), (.mv (.s 6)), none, []⟩,
       ⟨(some 32), (.mv (.s 8)), none, []⟩,
       ⟨(some 33), (.app 1 1 (.s 31) (.s 32)), none, [0, 1]⟩,
       ⟨(some 6), (.mv (.s 33)), none, [2, 2, 0, 1, 2]⟩] false)))
    (.region [
      ⟨(some 34), (.bin .add (.s 27) (.c (.int .i64 1))), none, []⟩,
      ⟨(some 27), (.mv (.s 34)), none, [0]⟩] false)))))))
  (.seq (.region [
    ⟨(some 35), (.mv (.s 6)), none, []⟩,
    ⟨(some 2), (.mv (.s 35)), none, [0, 0]⟩] false)
  .ret)))))), false, (some [(Sh.sl (Sh.sl (Sh.int .u8)))]), none, false⟩

/-- euphroe/octs.Put -/
def k19 : Fun := ⟨3, 37, [0, 1, 2, 6, 7, 8, 9, 15, 19, 20, 21, 33], [(.tmp 6), (.tmp 7)],
  (.seq (.region [
    ⟨(some 6), (.mv (.c .nils)), none, []⟩,
    ⟨(some 7), (.mv (.c (.int .i64 0))), none, [0]⟩] false)
  (.seq (.seq (.region [
    ⟨(some 10), (.mv (.s 1)), none, []⟩,
    ⟨(some 11), (.bin .lss (.s 10) (.c (.int .i64 1))), none, [0]⟩,
    ⟨(some 12), (.mv (.s 11)), none, [1]⟩,
    ⟨(some 13), (.mv (.s 1)), (some (12, false)), [2]⟩,
    ⟨(some 14), (.bin .gtr (.s 13) (.c (.int .i64 8))), (some (12, false)), [3, 2]⟩,
    ⟨(some 15), (.pick (.s 12) (.c (.bool true)) (.s 14)), none, [2, 4]⟩] false)
  (.cond (.s 15)
   (.seq (.region [
     ⟨(some 6), (.mv (.c .nils)), none, []⟩,
     ⟨(some 7), (.mv (.c (.int .i64 1))), none, [0, 0]⟩] false)
   .ret)
   .skip))
  (.seq (.region [
    ⟨(some 16), (.mv (.s 1)), none, []⟩,
    ⟨(some 17), (.mks (.ints .u8 [0]) 1 1 (.s 16) (.s 16)), none, [0, 0]⟩,
    ⟨(some 8), (.mv (.s 17)), none, [1, 0, 1]⟩] false)
  (.seq (.seq (.region [
    ⟨(some 18), (.mv (.s 8)), none, []⟩,
    ⟨(some 19), (.len false (.s 18)), none, [0]⟩,
    ⟨(some 20), (.mv (.c (.int .i64 0))), none, []⟩] false)
  (.block 0
   (.loop ⟨0, [], false, [0, 2, 8, 19, 20], []⟩
    (.seq (.region [
      ⟨(some 21), (.bin .lss (.s 20) (.s 19)), none, []⟩] false)
    (.seq (.cond (.s 21)
     .skip
     (.pre ⟨0, [], false, [2, 8], []⟩ (.exit 0)))
    (.seq (.block 1
     (.seq (.region [
       ⟨(some 22), (.mv (.s 20)), none, []⟩,
       ⟨(some 9), (.mv (.s 22)), none, [0, 0]⟩] false)
     (.region [
       ⟨(some 23), (.mv (.s 8)), none, []⟩,
       ⟨(some 24), (.mv (.s 9)), none, []⟩,
       ⟨(some 25), (.mv (.s 0)), none, []⟩,
       ⟨(some 26), (.mv (.s 9)), none, []⟩,
       ⟨(some 27), (.bin .mul (.c (.int .i64 8)) (.s 26)), none, [3]⟩,
       ⟨(some 28), (.bin .shr (.s 25) (.s 27)), none, [2, 4]⟩,
       ⟨(some 29), (.cvi .u8 (.s 28)), none, [5]⟩,
       ⟨(some 30), (.iad 1 (.s 23) (.s 24)), none, [0, 1, 0, 1, 2, 3, 4, 5, 6]⟩,
       ⟨none, (.stc 1 (.s 30) (.s 29)), none, [7, 6, 0, 1, 2, 3, 4, 5, 6]⟩] false)))
    (.region [
      ⟨(some 31), (.bin .add (.s 20) (.c (.int .i64 1))), none, []⟩,
      ⟨(some 20), (.mv (.s 31)), none, [0]⟩] false)))))))
  (.seq (.seq (.region [
    ⟨(some 32), (.mv (.s 2)), none, []⟩,
    ⟨(some 33), (.un .not (.s 32)), none, [0]⟩] false)
  (.cond (.s 33)
   (.region [
     ⟨(some 34), (.mv (.s 8)), none, []⟩,
     ⟨(some 35), (.call (.c (.fn 48 [])) [(.s 34)]), none, [0]⟩] false)
   .skip))
  (.seq (.region [
    ⟨(some 36), (.mv (.s 8)), none, []⟩,
    ⟨(some 6), (.mv (.s 36)), none, [0, 0]⟩,
    ⟨(some 7), (.mv (.c (.int .i64 0))), none, [1, 0, 1]⟩] false)
  .ret)))))), false, (some [(Sh.int .u64), (Sh.int .i64), Sh.bool]), (some (Sh.tu (Sh.pr (Sh.sl (Sh.int .u8)) (Sh.int .i64)))), false⟩

/-- euphroe/octs.Get -/
def k21 : Fun := ⟨2, 39, [0, 1, 4, 5, 6, 7, 8, 16, 17, 18, 19, 20, 24], [(.tmp 4), (.tmp 5)],
  (.seq (.region [
    ⟨(some 4), (.mv (.c (.int .u64 0))), none, []⟩,
    ⟨(some 5), (.mv (.c (.int .i64 0))), none, [0]⟩] false)
  (.seq (.seq (.region [
    ⟨(some 9), (.mv (.s 0)), none, []⟩,
    ⟨(some 10), (.len false (.s 9)), none, [0]⟩,
    ⟨(some 11), (.bin .lss (.s 10) (.c (.int .i64 1))), none, [1]⟩,
    ⟨(some 12), (.mv (.s 11)), none, [2]⟩,
    ⟨(some 13), (.mv (.s 0)), (some (12, false)), [3]⟩,
    ⟨(some 14), (.len false (.s 13)), (some (12, false)), [4, 3]⟩,
    ⟨(some 15), (.bin .gtr (.s 14) (.c (.int .i64 8))), (some (12, false)), [5, 3]⟩,
    ⟨(some 16), (.pick (.s 12) (.c (.bool true)) (.s 15)), none, [3, 6]⟩] false)
  (.cond (.s 16)
   (.seq (.region [
     ⟨(some 4), (.mv (.c (.int .u64 0))), none, []⟩,
     ⟨(some 5), (.mv (.c (.int .i64 1))), none, [0, 0]⟩] false)
   .ret)
   .skip))
  (.seq (.region [
    ⟨(some 6), (.mv (.c (.int .u64 0))), none, []⟩] false)
  (.seq (.seq (.region [
    ⟨(some 17), (.mv (.s 0)), none, []⟩,
    ⟨(some 18), (.len false (.s 17)), none, [0]⟩,
    ⟨(some 19), (.mv (.c (.int .i64 0))), none, []⟩] false)
  (.block 0
   (.loop ⟨0, [], false, [1, 6, 17, 18, 19], []⟩
    (.seq (.region [
      ⟨(some 20), (.bin .lss (.s 19) (.s 18)), none, []⟩] false)
    (.seq (.cond (.s 20)
     .skip
     (.pre ⟨0, [], false, [6], []⟩ (.exit 0)))
    (.seq (.block 1
     (.seq (.region [
       ⟨(some 21), (.mv (.s 19)), none, []⟩,
       ⟨(some 22), (.iad 1 (.s 17) (.s 19)), none, []⟩,
       ⟨(some 23), (.ldc (.s 22)), none, [1]⟩,
       ⟨(some 7), (.mv (.s 21)), none, [0, 0, 1, 2]⟩,
       ⟨(some 8), (.mv (.s 23)), none, [2, 3, 0, 1, 2, 3]⟩] false)
     (.seq (.region [
       ⟨(some 24), (.mv (.s 1)), none, []⟩] false)
     (.cond (.s 24)
      (.region [
        ⟨(some 25), (.mv (.s 6)), none, []⟩,
        ⟨(some 26), (.mv (.s 8)), none, []⟩,
        ⟨(some 27), (.cvi .u64 (.s 26)), none, [1]⟩,
        ⟨(some 28), (.mv (.s 7)), none, []⟩,
        ⟨(some 29), (.bin .mul (.c (.int .i64 8)) (.s 28)), none, [3]⟩,
        ⟨(some 30), (.bin .shl (.s 27) (.s 29)), none, [2, 4]⟩,
        ⟨(some 31), (.bin .or (.s 25) (.s 30)), none, [0, 5]⟩,
        ⟨(some 6), (.mv (.s 31)), none, [6, 0, 1, 2, 3, 4, 5, 6]⟩] false)
      (.region [
        ⟨(some 32), (.mv (.s 6)), none, []⟩,
        ⟨(some 33), (.bin .shl (.s 32) (.c (.int .u64 8))), none, [0]⟩,
        ⟨(some 34), (.mv (.s 8)), none, []⟩,
        ⟨(some 35), (.cvi .u64 (.s 34)), none, [2]⟩,
        ⟨(some 36), (.bin .or (.s 33) (.s 35)), none, [1, 3]⟩,
        ⟨(some 6), (.mv (.s 36)), none, [4, 0, 1, 2, 3, 4]⟩] false)))))
    (.region [
      ⟨(some 37), (.bin .add (.s 19) (.c (.int .i64 1))), none, []⟩,
      ⟨(some 19), (.mv (.s 37)), none, [0]⟩] false)))))))
  (.seq (.region [
    ⟨(some 38), (.mv (.s 6)), none, []⟩,
    ⟨(some 4), (.mv (.s 38)), none, [0, 0]⟩,
    ⟨(some 5), (.mv (.c (.int .i64 0))), none, [1, 0, 1]⟩] false)
  .ret))))), false, (some [(Sh.sl (Sh.int .u8)), Sh.bool]), (some (Sh.tu (Sh.pr (Sh.int .u64) (Sh.int .i64)))), false⟩

/-- euphroe/euphroeref01.Same -/
def k23 : Fun := ⟨2, 26, [0, 1, 4, 5, 10, 14, 25], [(.tmp 4)],
  (.seq (.region [
    ⟨(some 4), (.mv (.c (.bool false))), none, []⟩] false)
  (.seq (.seq (.region [
    ⟨(some 6), (.mv (.s 0)), none, []⟩,
    ⟨(some 7), (.len false (.s 6)), none, [0]⟩,
    ⟨(some 8), (.mv (.s 1)), none, []⟩,
    ⟨(some 9), (.len false (.s 8)), none, [2]⟩,
    ⟨(some 10), (.bin .neq (.s 7) (.s 9)), none, [1, 3]⟩] false)
  (.cond (.s 10)
   (.seq (.region [
     ⟨(some 4), (.mv (.c (.bool false))), none, []⟩] false)
   .ret)
   .skip))
  (.seq (.seq (.region [
    ⟨(some 5), (.mv (.c (.int .i64 0))), none, []⟩] false)
  (.block 0
   (.loop ⟨0, [], false, [0, 1, 5], []⟩
    (.seq (.seq (.region [
      ⟨(some 11), (.mv (.s 5)), none, []⟩,
      ⟨(some 12), (.mv (.s 0)), none, []⟩,
      ⟨(some 13), (.len false (.s 12)), none, [1]⟩,
      ⟨(some 14), (.bin .lss (.s 11) (.s 13)), none, [0, 2]⟩] false)
    (.cond (.s 14)
     .skip
     (.pre ⟨0, [], false, [], []⟩ (.exit 0))))
    (.seq (.block 1
     (.seq (.region [
       ⟨(some 17), (.mv (.s 0)), none, []⟩,
       ⟨(some 18), (.mv (.s 5)), none, []⟩,
       ⟨(some 19), (.iad 1 (.s 17) (.s 18)), none, [0, 1]⟩,
       ⟨(some 20), (.ldc (.s 19)), none, [2]⟩,
       ⟨(some 21), (.mv (.s 1)), none, []⟩,
       ⟨(some 22), (.mv (.s 5)), none, []⟩,
       ⟨(some 23), (.iad 1 (.s 21) (.s 22)), none, [4, 5]⟩,
       ⟨(some 24), (.ldc (.s 23)), none, [6]⟩,
       ⟨(some 25), (.bin .neq (.s 20) (.s 24)), none, [3, 7]⟩] true)
     (.cond (.s 25)
      (.seq (.region [
        ⟨(some 4), (.mv (.c (.bool false))), none, []⟩] false)
      .ret)
      .skip)))
    (.region [
      ⟨(some 15), (.mv (.s 5)), none, []⟩,
      ⟨(some 16), (.bin .add (.s 15) (.c (.int .i64 1))), none, [0]⟩,
      ⟨(some 5), (.mv (.s 16)), none, [1, 0, 1]⟩] false))))))
  (.seq (.region [
    ⟨(some 4), (.mv (.c (.bool true))), none, []⟩] false)
  .ret)))), false, (some [(Sh.sl (Sh.int .u8)), (Sh.sl (Sh.int .u8))]), (some Sh.bool), false⟩

/-- euphroe/octs.Join -/
def k46 : Fun := ⟨1, 5, [0, 2], [(.tmp 2)],
  (.seq (.region [
    ⟨(some 2), (.mv (.c .nils)), none, []⟩] false)
  (.seq (.region [
    ⟨(some 3), (.mv (.s 0)), none, []⟩,
    ⟨(some 4), (.call (.c (.fn 1 [])) [(.s 3)]), none, [0]⟩,
    ⟨(some 2), (.mv (.s 4)), none, [1, 1, 0, 1]⟩] false)
  .ret)), false, (some [(Sh.sl (Sh.sl (Sh.int .u8)))]), none, false⟩

/-- slices.Reverse[[]byte,byte] -/
def k48 : Fun := ⟨1, 28, [0, 2, 3, 9], [],
  (.seq (.region [
    ⟨(some 4), (.mv (.s 0)), none, []⟩,
    ⟨(some 5), (.len false (.s 4)), none, [0]⟩,
    ⟨(some 6), (.bin .sub (.s 5) (.c (.int .i64 1))), none, [1]⟩,
    ⟨(some 2), (.mv (.c (.int .i64 0))), none, []⟩,
    ⟨(some 3), (.mv (.s 6)), none, [2, 3, 0, 1, 2, 3]⟩] false)
  (.block 0
   (.loop ⟨0, [], false, [0, 2, 3], []⟩
    (.seq (.seq (.region [
      ⟨(some 7), (.mv (.s 2)), none, []⟩,
      ⟨(some 8), (.mv (.s 3)), none, []⟩,
      ⟨(some 9), (.bin .lss (.s 7) (.s 8)), none, [0, 1]⟩] false)
    (.cond (.s 9)
     .skip
     (.pre ⟨0, [], false, [], []⟩ (.exit 0))))
    (.seq (.block 1
     (.region [
       ⟨(some 14), (.mv (.s 0)), none, []⟩,
       ⟨(some 15), (.mv (.s 2)), none, []⟩,
       ⟨(some 16), (.mv (.s 0)), none, []⟩,
       ⟨(some 17), (.mv (.s 3)), none, []⟩,
       ⟨(some 18), (.mv (.s 0)), none, []⟩,
       ⟨(some 19), (.mv (.s 3)), none, []⟩,
       ⟨(some 20), (.iad 1 (.s 18) (.s 19)), none, [4, 5]⟩,
       ⟨(some 21), (.ldc (.s 20)), none, [6]⟩,
       ⟨(some 22), (.mv (.s 0)), none, []⟩,
       ⟨(some 23), (.mv (.s 2)), none, []⟩,
       ⟨(some 24), (.iad 1 (.s 22) (.s 23)), none, [8, 9]⟩,
       ⟨(some 25), (.ldc (.s 24)), none, [10]⟩,
       ⟨(some 26), (.iad 1 (.s 14) (.s 15)), none, [0, 1, 0, 1, 4, 5, 6, 7, 11]⟩,
       ⟨none, (.stc 1 (.s 26) (.s 21)), none, [12, 7, 0, 1, 4, 5, 6, 7, 11]⟩,
       ⟨(some 27), (.iad 1 (.s 16) (.s 17)), none, [2, 3, 0, 1, 2, 3, 4, 5, 6, 7, 8, 9, 10, 11, 12, 13]⟩,
       ⟨none, (.stc 1 (.s 27) (.s 25)), none, [14, 11, 13, 0, 1, 2, 3, 4, 5, 6, 7, 8, 9, 10, 11, 12, 13]⟩] true))
    (.region [
      ⟨(some 10), (.mv (.s 2)), none, []⟩,
      ⟨(some 11), (.bin .add (.s 10) (.c (.int .i64 1))), none, [0]⟩,
      ⟨(some 12), (.mv (.s 3)), none, []⟩,
      ⟨(some 13), (.bin .sub (.s 12) (.c (.int .i64 1))), none, [2]⟩,
      ⟨(some 2), (.mv (.s 11)), none, [1, 0, 1]⟩,
      ⟨(some 3), (.mv (.s 13)), none, [3, 4, 0, 1, 2, 3, 4]⟩] false)))))), true, none, none, false⟩

/-- euphroe/euphroeref01.Big -/
def k50 : Fun := ⟨2, 24, [0, 1, 4, 5, 6, 12], [(.tmp 4)],
  (.seq (.region [
    ⟨(some 4), (.mv (.c .nils)), none, []⟩] false)
  (.seq (.region [
    ⟨(some 7), (.mv (.s 1)), none, []⟩,
    ⟨(some 8), (.mks (.ints .u8 [0]) 1 1 (.s 7) (.s 7)), none, [0, 0]⟩,
    ⟨(some 5), (.mv (.s 8)), none, [1, 0, 1]⟩] false)
  (.seq (.seq (.region [
    ⟨(some 9), (.mv (.s 1)), none, []⟩,
    ⟨(some 10), (.bin .sub (.s 9) (.c (.int .i64 1))), none, [0]⟩,
    ⟨(some 6), (.mv (.s 10)), none, [1, 0, 1]⟩] false)
  (.block 0
   (.loop ⟨0, [], false, [0, 5, 6], []⟩
    (.seq (.seq (.region [
      ⟨(some 11), (.mv (.s 6)), none, []⟩,
      ⟨(some 12), (.bin .geq (.s 11) (.c (.int .i64 0))), none, [0]⟩] false)
    (.cond (.s 12)
     .skip
     (.pre ⟨0, [], false, [5], []⟩ (.exit 0))))
    (.seq (.block 1
     (.seq (.region [
       ⟨(some 15), (.mv (.s 5)), none, []⟩,
       ⟨(some 16), (.mv (.s 6)), none, []⟩,
       ⟨(some 17), (.mv (.s 0)), none, []⟩,
       ⟨(some 18), (.bin .rem (.s 17) (.c (.int .u64 256))), none, [2]⟩,
       ⟨(some 19), (.cvi .u8 (.s 18)), none, [3]⟩,
       ⟨(some 20), (.iad 1 (.s 15) (.s 16)), none, [0, 1, 0, 1, 2, 3, 4]⟩,
       ⟨none, (.stc 1 (.s 20) (.s 19)), none, [5, 4, 0, 1, 2, 3, 4]⟩] false)
     (.region [
       ⟨(some 21), (.mv (.s 0)), none, []⟩,
       ⟨(some 22), (.bin .quo (.s 21) (.c (.int .u64 256))), none, [0]⟩,
       ⟨(some 0), (.mv (.s 22)), none, [1, 0, 1]⟩] false)))
    (.region [
      ⟨(some 13), (.mv (.s 6)), none, []⟩,
      ⟨(some 14), (.bin .sub (.s 13) (.c (.int .i64 1))), none, [0]⟩,
      ⟨(some 6), (.mv (.s 14)), none, [1, 0, 1]⟩] false))))))
  (.seq (.region [
    ⟨(some 23), (.mv (.s 5)), none, []⟩,
    ⟨(some 4), (.mv (.s 23)), none, [0, 0]⟩] false)
  (.pre ⟨0, [], true, [], [(4, (.ints .u8 []), 1)]⟩ .ret))))), false, (some [(Sh.int .u64), (Sh.int .i64)]), none, false⟩

/-- euphroe/euphroeref01.Num -/
def k51 : Fun := ⟨1, 20, [0, 2, 3, 4, 8], [(.tmp 2)],
  (.seq (.region [
    ⟨(some 2), (.mv (.c (.int .u64 0))), none, []⟩] false)
  (.seq (.region [
    ⟨(some 3), (.mv (.c (.int .u64 0))), none, []⟩] false)
  (.seq (.seq (.region [
    ⟨(some 4), (.mv (.c (.int .i64 0))), none, []⟩] false)
  (.block 0
   (.loop ⟨0, [], false, [0, 3, 4], []⟩
    (.seq (.seq (.region [
      ⟨(some 5), (.mv (.s 4)), none, []⟩,
      ⟨(some 6), (.mv (.s 0)), none, []⟩,
      ⟨(some 7), (.len false (.s 6)), none, [1]⟩,
      ⟨(some 8), (.bin .lss (.s 5) (.s 7)), none, [0, 2]⟩] false)
    (.cond (.s 8)
     .skip
     (.pre ⟨0, [], false, [3], []⟩ (.exit 0))))
    (.seq (.block 1
     (.region [
       ⟨(some 11), (.mv (.s 3)), none, []⟩,
       ⟨(some 12), (.bin .mul (.s 11) (.c (.int .u64 256))), none, [0]⟩,
       ⟨(some 13), (.mv (.s 0)), none, []⟩,
       ⟨(some 14), (.mv (.s 4)), none, []⟩,
       ⟨(some 15), (.iad 1 (.s 13) (.s 14)), none, [2, 3]⟩,
       ⟨(some 16), (.ldc (.s 15)), none, [4]⟩,
       ⟨(some 17), (.cvi .u64 (.s 16)), none, [5]⟩,
       ⟨(some 18), (.bin .add (.s 12) (.s 17)), none, [1, 6]⟩,
       ⟨(some 3), (.mv (.s 18)), none, [7, 0, 1, 2, 3, 4, 5, 6, 7]⟩] false))
    (.region [
      ⟨(some 9), (.mv (.s 4)), none, []⟩,
      ⟨(some 10), (.bin .add (.s 9) (.c (.int .i64 1))), none, [0]⟩,
      ⟨(some 4), (.mv (.s 10)), none, [1, 0, 1]⟩] false))))))
  (.seq (.region [
    ⟨(some 19), (.mv (.s 3)), none, []⟩,
    ⟨(some 2), (.mv (.s 19)), none, [0, 0]⟩] false)
  .ret)))), false, (some [(Sh.sl (Sh.int .u8))]), (some (Sh.int .u64)), false⟩

/-- slices.Grow[[]byte,byte] -/
def k64 : Fun := ⟨2, 27, [0, 1, 4, 6, 16], [(.tmp 4)],
  (.seq (.region [
    ⟨(some 4), (.mv (.c .nils)), none, []⟩] false)
  (.seq (.seq (.region [
    ⟨(some 5), (.mv (.s 1)), none, []⟩,
    ⟨(some 6), (.bin .lss (.s 5) (.c (.int .i64 0))), none, [0]⟩] false)
  (.cond (.s 6)
   (.region [
     ⟨(some 7), .bad, none, []⟩,
     ⟨none, .bad, none, [0]⟩] false)
   .skip))
  (.seq (.seq (.region [
    ⟨(some 8), (.mv (.s 1)), none, []⟩,
    ⟨(some 9), (.mv (.s 0)), none, []⟩,
    ⟨(some 10), (.cap (.s 9)), none, [1]⟩,
    ⟨(some 11), (.mv (.s 0)), none, []⟩,
    ⟨(some 12), (.len false (.s 11)), none, [3]⟩,
    ⟨(some 13), (.bin .sub (.s 10) (.s 12)), none, [2, 4]⟩,
    ⟨(some 14), (.bin .sub (.s 8) (.s 13)), none, [0, 5]⟩,
    ⟨(some 1), (.mv (.s 14)), none, [6, 0, 1, 2, 3, 4, 5, 6]⟩] false)
  (.seq (.region [
    ⟨(some 15), (.mv (.s 1)), none, []⟩,
    ⟨(some 16), (.bin .gtr (.s 15) (.c (.int .i64 0))), none, [0]⟩] false)
  (.cond (.s 16)
   (.region [
     ⟨(some 17), (.mv (.s 0)), none, []⟩,
     ⟨(some 18), (.mv (.s 0)), none, []⟩,
     ⟨(some 19), (.cap (.s 18)), none, [1]⟩,
     ⟨(some 20), (.sls 1 (.s 17) none (some (.s 19)) none), none, [0, 2]⟩,
     ⟨(some 21), (.mv (.s 1)), none, []⟩,
     ⟨(some 22), (.apz 1 1 (.ints .u8 [0]) (.s 20) (.s 21)), none, [3, 4]⟩,
     ⟨(some 23), (.mv (.s 0)), none, []⟩,
     ⟨(some 24), (.len false (.s 23)), none, [6]⟩,
     ⟨(some 25), (.sls 1 (.s 22) none (some (.s 24)) none), none, [5, 7]⟩,
     ⟨(some 0), (.mv (.s 25)), none, [8, 5, 0, 1, 2, 3, 4, 5, 6, 7, 8]⟩] false)
   .skip)))
  (.seq (.region [
    ⟨(some 26), (.mv (.s 0)), none, []⟩,
    ⟨(some 4), (.mv (.s 26)), none, [0, 0]⟩] false)
  (.pre ⟨0, [], true, [], [(4, (.ints .u8 []), 1)]⟩ .ret))))), false, none, none, false⟩

/-- euphroe/attr.Lay -/
def k139 : Fun := ⟨1, 33, [0, 1, 2, 3, 4, 5, 11, 16], [(.tmp 2), (.tmp 3)],
  (.seq (.region [
    ⟨(some 1), (.box (.s 0)), none, []⟩,
    ⟨(some 2), (.mv (.c .nils)), none, []⟩,
    ⟨(some 3), (.mv (.c (.int .i64 0))), none, [1]⟩] false)
  (.seq (.region [
    ⟨(some 7), (.fad 1 (.s 1)), none, []⟩,
    ⟨(some 8), (.ldc (.s 7)), none, [0]⟩,
    ⟨(some 9), (.len false (.s 8)), none, [1]⟩,
    ⟨(some 10), (.bin .add (.c (.int .i64 4)) (.s 9)), none, [2]⟩,
    ⟨(some 4), (.mv (.s 10)), none, [3, 0, 1, 2, 3]⟩] false)
  (.seq (.block 0
   (.seq (.region [
     ⟨(some 12), (.fad 0 (.s 1)), none, []⟩,
     ⟨(some 13), (.ldc (.s 12)), none, [0]⟩,
     ⟨(some 14), (.call (.c (.fn 161 [])) [(.s 13)]), none, [1]⟩,
     ⟨(some 15), (.un .not (.s 14)), none, [2]⟩,
     ⟨(some 11), (.mv (.s 15)), none, [3, 2]⟩] false)
   (.cond (.s 11)
    (.seq (.region [
      ⟨(some 2), (.mv (.c .nils)), none, []⟩,
      ⟨(some 3), (.mv (.c (.int .i64 9))), none, [0, 0]⟩] false)
    .ret)
    (.seq (.region [
      ⟨(some 17), (.mv (.s 4)), none, []⟩,
      ⟨(some 18), (.bin .gtr (.s 17) (.c (.int .i64 4095))), none, [0]⟩,
      ⟨(some 16), (.mv (.s 18)), none, [1]⟩] false)
    (.cond (.s 16)
     (.seq (.region [
       ⟨(some 2), (.mv (.c .nils)), none, []⟩,
       ⟨(some 3), (.mv (.c (.int .i64 8))), none, [0, 0]⟩] false)
     .ret)
     .skip)))))
  (.seq (.region [
    ⟨(some 20), (.mv (.s 4)), none, []⟩,
    ⟨(some 21), (.cvi .u64 (.s 20)), none, [0]⟩,
    ⟨(some 22), (.call (.c (.fn 19 [])) [(.s 21), (.c (.int .i64 2)), (.c (.bool false))]), none, [1]⟩,
    ⟨(some 19), (.mv (.s 22)), none, [2]⟩,
    ⟨(some 23), (.ext (.s 19) 0), none, [3]⟩,
    ⟨(some 24), (.ext (.s 19) 1), none, [3]⟩,
    ⟨(some 5), (.mv (.s 23)), none, [4, 2, 0, 1, 2, 3, 4]⟩,
    ⟨(some 6), (.mv (.s 24)), none, [5, 6, 0, 1, 2, 3, 4, 5, 6]⟩] false)
  (.seq (.region [
    ⟨(some 25), (.fad 0 (.s 1)), none, []⟩,
    ⟨(some 26), (.ldc (.s 25)), none, [0]⟩,
    ⟨(some 27), (.bsl 2 1 (.ints .u8 [0, 0]) [(0, 1, (.c (.int .u8 0))), (1, 1, (.s 26))]), none, [1]⟩,
    ⟨(some 28), (.mv (.s 5)), none, []⟩,
    ⟨(some 29), (.fad 1 (.s 1)), none, []⟩,
    ⟨(some 30), (.ldc (.s 29)), none, [4]⟩,
    ⟨(some 31), (.bsl 3 1 (.vals [.nils, .nils, .nils]) [(0, 1, (.s 27)), (1, 1, (.s 28)), (2, 1, (.s 30))]), none, [2, 3, 5]⟩,
    ⟨(some 32), (.call (.c (.fn 46 [])) [(.s 31)]), none, [6]⟩,
    ⟨(some 2), (.mv (.s 32)), none, [7, 7, 0, 1, 2, 3, 4, 5, 6, 7]⟩,
    ⟨(some 3), (.mv (.c (.int .i64 0))), none, [8, 0, 1, 2, 3, 4, 5, 6, 7, 8]⟩] false)
  .ret))))), false, (some [(Sh.st (Sh.pr (Sh.int .u8) (Sh.sl (Sh.int .u8))))]), (some (Sh.tu (Sh.pr (Sh.sl (Sh.int .u8)) (Sh.int .i64)))), false⟩

/-- euphroe/euphroeref17.Lay -/
def k141 : Fun := ⟨1, 25, [0, 1, 2, 3, 7, 11], [(.tmp 2), (.tmp 3)],
  (.seq (.region [
    ⟨(some 1), (.box (.s 0)), none, []⟩,
    ⟨(some 2), (.mv (.c .nils)), none, []⟩,
    ⟨(some 3), (.mv (.c (.int .i64 0))), none, [1]⟩] false)
  (.seq (.seq (.region [
    ⟨(some 4), (.fad 0 (.s 1)), none, []⟩,
    ⟨(some 5), (.ldc (.s 4)), none, [0]⟩,
    ⟨(some 6), (.call (.c (.fn 162 [])) [(.s 5)]), none, [1]⟩,
    ⟨(some 7), (.un .not (.s 6)), none, [2]⟩] false)
  (.cond (.s 7)
   (.seq (.region [
     ⟨(some 2), (.mv (.c .nils)), none, []⟩,
     ⟨(some 3), (.mv (.c (.int .i64 9))), none, [0, 0]⟩] false)
   .ret)
   .skip))
  (.seq (.seq (.region [
    ⟨(some 8), (.fad 1 (.s 1)), none, []⟩,
    ⟨(some 9), (.ldc (.s 8)), none, [0]⟩,
    ⟨(some 10), (.len false (.s 9)), none, [1]⟩,
    ⟨(some 11), (.bin .gtr (.s 10) (.c (.int .i64 4091))), none, [2]⟩] false)
  (.cond (.s 11)
   (.seq (.region [
     ⟨(some 2), (.mv (.c .nils)), none, []⟩,
     ⟨(some 3), (.mv (.c (.int .i64 8))), none, [0, 0]⟩] false)
   .ret)
   .skip))
  (.seq (.pre ⟨0, [(1, Sh.bool)], true, [23], []⟩ (.region [
    ⟨(some 12), (.fad 0 (.s 1)), none, []⟩,
    ⟨(some 13), (.ldc (.s 12)), none, [0]⟩,
    ⟨(some 14), (.bsl 2 1 (.ints .u8 [0, 0]) [(0, 1, (.c (.int .u8 0))), (1, 1, (.s 13))]), none, [1]⟩,
    ⟨(some 15), (.fad 1 (.s 1)), none, []⟩,
    ⟨(some 16), (.ldc (.s 15)), none, [3]⟩,
    ⟨(some 17), (.len false (.s 16)), none, [4]⟩,
    ⟨(some 18), (.bin .add (.c (.int .i64 4)) (.s 17)), none, [5]⟩,
    ⟨(some 19), (.cvi .u64 (.s 18)), none, [6]⟩,
    ⟨(some 20), (.call (.c (.fn 50 [])) [(.s 19), (.c (.int .i64 2))]), none, [7]⟩,
    ⟨(some 21), (.app 1 1 (.s 14) (.s 20)), none, [2, 8, 8]⟩,
    ⟨(some 22), (.fad 1 (.s 1)), none, []⟩,
    ⟨(some 23), (.ldr (.s 22)), none, [10]⟩,
    ⟨(some 24), (.app 1 1 (.s 21) (.s 23)), none, [9, 11, 9]⟩,
    ⟨(some 2), (.mv (.s 24)), none, [12, 12, 0, 1, 2, 3, 4, 5, 6, 7, 8, 9, 10, 11, 12]⟩,
    ⟨(some 3), (.mv (.c (.int .i64 0))), none, [13, 0, 1, 2, 3, 4, 5, 6, 7, 8, 9, 10, 11, 12, 13]⟩] true))
  .ret)))), false, (some [(Sh.st (Sh.pr (Sh.int .u8) (Sh.sl (Sh.int .u8))))]), (some (Sh.tu (Sh.pr (Sh.sl (Sh.int .u8)) (Sh.int .i64)))), false⟩

/-- euphroe/attr.Parse -/
def k142 : Fun := ⟨1, 56, [0, 2, 3, 4, 5, 7, 10, 20, 34, 41], [(.cell 2 2 true none), (.tmp 3), (.tmp 4)],
  (.seq (.region [
    ⟨(some 2), (.new (.vals [(.int .u8 0), .nils])), none, []⟩,
    ⟨(some 3), (.mv (.c (.int .i64 0))), none, []⟩,
    ⟨(some 4), (.mv (.c (.int .i64 0))), none, [1]⟩] false)
  (.seq (.seq (.region [
    ⟨(some 8), (.mv (.s 0)), none, []⟩,
    ⟨(some 9), (.len false (.s 8)), none, [0]⟩,
    ⟨(some 10), (.bin .lss (.s 9) (.c (.int .i64 4))), none, [1]⟩] false)
  (.cond (.s 10)
   (.seq (.region [
     ⟨(some 11), (.build (.vals [(.int .u8 0), .nils]) []), none, []⟩,
     ⟨none, (.stc 2 (.s 2) (.s 11)), none, [0, 0]⟩,
     ⟨(some 3), (.mv (.c (.int .i64 0))), none, [1, 0, 1]⟩,
     ⟨(some 4), (.mv (.c (.int .i64 4))), none, [2, 0, 1, 2]⟩] false)
   .ret)
   .skip))
  (.seq (.region [
    ⟨(some 13), (.mv (.s 0)), none, []⟩,
    ⟨(some 14), (.sls 1 (.s 13) (some (.c (.int .i64 2))) (some (.c (.int .i64 4))) none), none, [0]⟩,
    ⟨(some 15), (.call (.c (.fn 21 [])) [(.s 14), (.c (.bool false))]), none, [1]⟩,
    ⟨(some 12), (.mv (.s 15)), none, [2]⟩,
    ⟨(some 16), (.ext (.s 12) 0), none, [3]⟩,
    ⟨(some 17), (.ext (.s 12) 1), none, [3]⟩,
    ⟨(some 5), (.mv (.s 16)), none, [4, 2, 0, 1, 2, 3, 4]⟩,
    ⟨(some 6), (.mv (.s 17)), none, [5, 6, 0, 1, 2, 3, 4, 5, 6]⟩] false)
  (.seq (.region [
    ⟨(some 18), (.mv (.s 5)), none, []⟩,
    ⟨(some 19), (.cvi .i64 (.s 18)), none, [0]⟩,
    ⟨(some 7), (.mv (.s 19)), none, [1, 0, 1]⟩] false)
  (.seq (.block 0
   (.seq (.region [
     ⟨(some 21), (.mv (.s 0)), none, []⟩,
     ⟨(some 22), (.iad 1 (.s 21) (.c (.int .i64 0))), none, [0]⟩,
     ⟨(some 23), (.ldc (.s 22)), none, [1]⟩,
     ⟨(some 24), (.bin .neq (.s 23) (.c (.int .u8 0))), none, [2]⟩,
     ⟨(some 25), (.mv (.s 24)), none, [3]⟩,
     ⟨(some 26), (.mv (.s 7)), (some (25, false)), [4]⟩,
     ⟨(some 27), (.bin .lss (.s 26) (.c (.int .i64 4))), (some (25, false)), [5, 4]⟩,
     ⟨(some 28), (.pick (.s 25) (.c (.bool true)) (.s 27)), none, [4, 6]⟩,
     ⟨(some 29), (.mv (.s 28)), none, [7, 4]⟩,
     ⟨(some 30), (.mv (.s 7)), (some (29, false)), [8]⟩,
     ⟨(some 31), (.bin .gtr (.s 30) (.c (.int .i64 4095))), (some (29, false)), [9, 8]⟩,
     ⟨(some 32), (.pick (.s 29) (.c (.bool true)) (.s 31)), none, [8, 10]⟩,
     ⟨(some 20), (.mv (.s 32)), none, [11, 8]⟩] false)
   (.cond (.s 20)
    (.seq (.region [
      ⟨(some 33), (.build (.vals [(.int .u8 0), .nils]) []), none, []⟩,
      ⟨none, (.stc 2 (.s 2) (.s 33)), none, [0, 0]⟩,
      ⟨(some 3), (.mv (.c (.int .i64 0))), none, [1, 0, 1]⟩,
      ⟨(some 4), (.mv (.c (.int .i64 3))), none, [2, 0, 1, 2]⟩] false)
    .ret)
    (.seq (.region [
      ⟨(some 35), (.mv (.s 0)), none, []⟩,
      ⟨(some 36), (.iad 1 (.s 35) (.c (.int .i64 1))), none, [0]⟩,
      ⟨(some 37), (.ldc (.s 36)), none, [1]⟩,
      ⟨(some 38), (.call (.c (.fn 161 [])) [(.s 37)]), none, [2]⟩,
      ⟨(some 39), (.un .not (.s 38)), none, [3]⟩,
      ⟨(some 34), (.mv (.s 39)), none, [4, 3]⟩] false)
    (.cond (.s 34)
     (.seq (.region [
       ⟨(some 40), (.build (.vals [(.int .u8 0), .nils]) []), none, []⟩,
       ⟨none, (.stc 2 (.s 2) (.s 40)), none, [0, 0]⟩,
       ⟨(some 3), (.mv (.c (.int .i64 0))), none, [1, 0, 1]⟩,
       ⟨(some 4), (.mv (.c (.int .i64 9))), none, [2, 0, 1, 2]⟩] false)
     .ret)
     (.seq (.region [
       ⟨(some 42), (.mv (.s 0)), none, []⟩,
       ⟨(some 43), (.len false (.s 42)), none, [0]⟩,
       ⟨(some 44), (.mv (.s 7)), none, []⟩,
       ⟨(some 45), (.bin .lss (.s 43) (.s 44)), none, [1, 2]⟩,
       ⟨(some 41), (.mv (.s 45)), none, [3]⟩] false)
     (.cond (.s 41)
      (.seq (.region [
        ⟨(some 46), (.build (.vals [(.int .u8 0), .nils]) []), none, []⟩,
        ⟨none, (.stc 2 (.s 2) (.s 46)), none, [0, 0]⟩,
        ⟨(some 3), (.mv (.c (.int .i64 0))), none, [1, 0, 1]⟩,
        ⟨(some 4), (.mv (.c (.int .i64 4))), none, [2, 0, 1, 2]⟩] false)
      .ret)
      .skip)))))))
  (.seq (.region [
    ⟨(some 47), (.mv (.s 0)), none, []⟩,
    ⟨(some 48), (.iad 1 (.s 47) (.c (.int .i64 1))), none, [0]⟩,
    ⟨(some 49), (.ldc (.s 48)), none, [1]⟩,
    ⟨(some 50), (.mv (.s 0)), none, []⟩,
    ⟨(some 51), (.mv (.s 7)), none, []⟩,
    ⟨(some 52), (.sls 1 (.s 50) (some (.c (.int .i64 4))) (some (.s 51)) none), none, [3, 4]⟩,
    ⟨(some 53), (.call (.c (.fn 108 [])) [(.s 52)]), none, [5]⟩,
    ⟨(some 54), (.build (.vals [(.int .u8 0), .nils]) [(0, 1, (.s 49)), (1, 1, (.s 53))]), none, [2, 6]⟩,
    ⟨(some 55), (.mv (.s 7)), none, []⟩,
    ⟨none, (.stc 2 (.s 2) (.s 54)), none, [7, 6, 0, 1, 2, 3, 4, 5, 6, 7]⟩,
    ⟨(some 3), (.mv (.s 55)), none, [8, 9, 0, 1, 2, 3, 4, 5, 6, 7, 8, 9]⟩,
    ⟨(some 4), (.mv (.c (.int .i64 0))), none, [10, 0, 1, 2, 3, 4, 5, 6, 7, 8, 9, 10]⟩] true)
  .ret)))))), false, (some [(Sh.sl (Sh.int .u8))]), (some (Sh.tu (Sh.pr (Sh.st (Sh.pr (Sh.int .u8) (Sh.sl (Sh.int .u8)))) (Sh.pr (Sh.int .i64) (Sh.int .i64))))), false⟩

/-- euphroe/euphroeref17.Parse -/
def k143 : Fun := ⟨1, 46, [0, 2, 3, 4, 5, 8, 25, 31, 36], [(.cell 2 2 true none), (.tmp 3), (.tmp 4)],
  (.seq (.region [
    ⟨(some 2), (.new (.vals [(.int .u8 0), .nils])), none, []⟩,
    ⟨(some 3), (.mv (.c (.int .i64 0))), none, []⟩,
    ⟨(some 4), (.mv (.c (.int .i64 0))), none, [1]⟩] false)
  (.seq (.seq (.region [
    ⟨(some 6), (.mv (.s 0)), none, []⟩,
    ⟨(some 7), (.len false (.s 6)), none, [0]⟩,
    ⟨(some 8), (.bin .lss (.s 7) (.c (.int .i64 4))), none, [1]⟩] false)
  (.cond (.s 8)
   (.seq (.region [
     ⟨(some 9), (.build (.vals [(.int .u8 0), .nils]) []), none, []⟩,
     ⟨none, (.stc 2 (.s 2) (.s 9)), none, [0, 0]⟩,
     ⟨(some 3), (.mv (.c (.int .i64 0))), none, [1, 0, 1]⟩,
     ⟨(some 4), (.mv (.c (.int .i64 4))), none, [2, 0, 1, 2]⟩] false)
   .ret)
   .skip))
  (.seq (.region [
    ⟨(some 10), (.mv (.s 0)), none, []⟩,
    ⟨(some 11), (.sls 1 (.s 10) (some (.c (.int .i64 2))) (some (.c (.int .i64 4))) none), none, [0]⟩,
    ⟨(some 12), (.call (.c (.fn 51 [])) [(.s 11)]), none, [1]⟩,
    ⟨(some 13), (.cvi .i64 (.s 12)), none, [2]⟩,
    ⟨(some 5), (.mv (.s 13)), none, [3, 2, 0, 1, 2, 3]⟩] false)
  (.seq (.seq (.region [
    ⟨(some 14), (.mv (.s 0)), none, []⟩,
    ⟨(some 15), (.iad 1 (.s 14) (.c (.int .i64 0))), none, [0]⟩,
    ⟨(some 16), (.ldc (.s 15)), none, [1]⟩,
    ⟨(some 17), (.bin .neq (.s 16) (.c (.int .u8 0))), none, [2]⟩,
    ⟨(some 18), (.mv (.s 17)), none, [3]⟩,
    ⟨(some 19), (.mv (.s 5)), (some (18, false)), [4]⟩,
    ⟨(some 20), (.bin .lss (.s 19) (.c (.int .i64 4))), (some (18, false)), [5, 4]⟩,
    ⟨(some 21), (.pick (.s 18) (.c (.bool true)) (.s 20)), none, [4, 6]⟩,
    ⟨(some 22), (.mv (.s 21)), none, [7, 4]⟩,
    ⟨(some 23), (.mv (.s 5)), (some (22, false)), [8]⟩,
    ⟨(some 24), (.bin .gtr (.s 23) (.c (.int .i64 4095))), (some (22, false)), [9, 8]⟩,
    ⟨(some 25), (.pick (.s 22) (.c (.bool true)) (.s 24)), none, [8, 10]⟩] false)
  (.cond (.s 25)
   (.seq (.region [
     ⟨(some 26), (.build (.vals [(.int .u8 0), .nils]) []), none, []⟩,
     ⟨none, (.stc 2 (.s 2) (.s 26)), none, [0, 0]⟩,
     ⟨(some 3), (.mv (.c (.int .i64 0))), none, [1, 0, 1]⟩,
     ⟨(some 4), (.mv (.c (.int .i64 3))), none, [2, 0, 1, 2]⟩] false)
   .ret)
   .skip))
  (.seq (.seq (.region [
    ⟨(some 27), (.mv (.s 0)), none, []⟩,
    ⟨(some 28), (.iad 1 (.s 27) (.c (.int .i64 1))), none, [0]⟩,
    ⟨(some 29), (.ldc (.s 28)), none, [1]⟩,
    ⟨(some 30), (.call (.c (.fn 162 [])) [(.s 29)]), none, [2]⟩,
    ⟨(some 31), (.un .not (.s 30)), none, [3]⟩] false)
  (.cond (.s 31)
   (.seq (.region [
     ⟨(some 32), (.build (.vals [(.int .u8 0), .nils]) []), none, []⟩,
     ⟨none, (.stc 2 (.s 2) (.s 32)), none, [0, 0]⟩,
     ⟨(some 3), (.mv (.c (.int .i64 0))), none, [1, 0, 1]⟩,
     ⟨(some 4), (.mv (.c (.int .i64 9))), none, [2, 0, 1, 2]⟩] false)
   .ret)
   .skip))
  (.seq (.seq (.region [
    ⟨(some 33), (.mv (.s 0)), none, []⟩,
    ⟨(some 34), (.len false (.s 33)), none, [0]⟩,
    ⟨(some 35), (.mv (.s 5)), none, []⟩,
    ⟨(some 36), (.bin .lss (.s 34) (.s 35)), none, [1, 2]⟩] false)
  (.cond (.s 36)
   (.seq (.region [
     ⟨(some 37), (.build (.vals [(.int .u8 0), .nils]) []), none, []⟩,
     ⟨none, (.stc 2 (.s 2) (.s 37)), none, [0, 0]⟩,
     ⟨(some 3), (.mv (.c (.int .i64 0))), none, [1, 0, 1]⟩,
     ⟨(some 4), (.mv (.c (.int .i64 4))), none, [2, 0, 1, 2]⟩] false)
   .ret)
   .skip))
  (.seq (.region [
    ⟨(some 38), (.mv (.s 0)), none, []⟩,
    ⟨(some 39), (.iad 1 (.s 38) (.c (.int .i64 1))), none, [0]⟩,
    ⟨(some 40), (.ldc (.s 39)), none, [1]⟩,
    ⟨(some 41), (.mv (.s 0)), none, []⟩,
    ⟨(some 42), (.mv (.s 5)), none, []⟩,
    ⟨(some 43), (.sls 1 (.s 41) (some (.c (.int .i64 4))) (some (.s 42)) none), none, [3, 4]⟩,
    ⟨(some 44), (.build (.vals [(.int .u8 0), .nils]) [(0, 1, (.s 40)), (1, 1, (.s 43))]), none, [2, 5]⟩,
    ⟨(some 45), (.mv (.s 5)), none, []⟩,
    ⟨none, (.stc 2 (.s 2) (.s 44)), none, [6, 0, 1, 2, 3, 4, 5, 6]⟩,
    ⟨(some 3), (.mv (.s 45)), none, [7, 8, 0, 1, 2, 3, 4, 5, 6, 7, 8]⟩,
    ⟨(some 4), (.mv (.c (.int .i64 0))), none, [9, 0, 1, 2, 3, 4, 5, 6, 7, 8, 9]⟩] true)
  .ret))))))), false, (some [(Sh.sl (Sh.int .u8))]), (some (Sh.tu (Sh.pr (Sh.st (Sh.pr (Sh.int .u8) (Sh.sl (Sh.int .u8)))) (Sh.pr (Sh.int .i64) (Sh.int .i64))))), false⟩

/-- euphroe/attr.Same -/
def k144 : Fun := ⟨2, 17, [0, 1, 2, 3, 4], [(.tmp 4)],
  (.seq (.region [
    ⟨(some 2), (.box (.s 0)), none, []⟩,
    ⟨(some 3), (.box (.s 1)), none, []⟩,
    ⟨(some 4), (.mv (.c (.bool false))), none, []⟩] false)
  (.seq (.region [
    ⟨(some 5), (.fad 0 (.s 2)), none, []⟩,
    ⟨(some 6), (.ldc (.s 5)), none, [0]⟩,
    ⟨(some 7), (.fad 0 (.s 3)), none, []⟩,
    ⟨(some 8), (.ldc (.s 7)), none, [2]⟩,
    ⟨(some 9), (.bin .eql (.s 6) (.s 8)), none, [1, 3]⟩,
    ⟨(some 10), (.mv (.s 9)), none, [4]⟩,
    ⟨(some 11), (.fad 1 (.s 2)), (some (10, true)), [5]⟩,
    ⟨(some 12), (.ldc (.s 11)), (some (10, true)), [6, 5]⟩,
    ⟨(some 13), (.fad 1 (.s 3)), (some (10, true)), [5]⟩,
    ⟨(some 14), (.ldc (.s 13)), (some (10, true)), [8, 5]⟩,
    ⟨(some 15), (.call (.c (.fn 160 [])) [(.s 12), (.s 14)]), (some (10, true)), [7, 9, 5, 5]⟩,
    ⟨(some 16), (.pick (.s 10) (.s 15) (.c (.bool false))), none, [5, 10]⟩,
    ⟨(some 4), (.mv (.s 16)), none, [11, 10, 0, 1, 2, 3, 4, 5, 6, 7, 8, 9, 10, 11]⟩] false)
  .ret)), false, (some [(Sh.st (Sh.pr (Sh.int .u8) (Sh.sl (Sh.int .u8)))), (Sh.st (Sh.pr (Sh.int .u8) (Sh.sl (Sh.int .u8))))]), (some Sh.bool), false⟩

/-- euphroe/attr.Check -/
def k145 : Fun := ⟨1, 56, [0, 1, 2, 3, 4, 5, 6, 7, 16, 21, 27, 33, 55], [(.tmp 2)],
  (.seq (.region [
    ⟨(some 1), (.box (.s 0)), none, []⟩,
    ⟨(some 2), (.mv (.c (.int .i64 0))), none, []⟩] false)
  (.seq (.region [
    ⟨(some 9), (.fad 0 (.s 1)), none, []⟩,
    ⟨(some 10), (.ldc (.s 9)), none, [0]⟩,
    ⟨(some 11), (.call (.c (.fn 163 [])) [(.s 10)]), none, [1]⟩,
    ⟨(some 8), (.mv (.s 11)), none, [2]⟩,
    ⟨(some 12), (.ext (.s 8) 0), none, [3]⟩,
    ⟨(some 13), (.ext (.s 8) 1), none, [3]⟩,
    ⟨(some 14), (.ext (.s 8) 2), none, [3]⟩,
    ⟨(some 15), (.ext (.s 8) 3), none, [3]⟩,
    ⟨(some 3), (.mv (.s 12)), none, [4, 2, 0, 1, 2, 3, 4]⟩,
    ⟨(some 4), (.mv (.s 13)), none, [5, 8, 0, 1, 2, 3, 4, 5, 8]⟩,
    ⟨(some 5), (.mv (.s 14)), none, [6, 9, 0, 1, 2, 3, 4, 5, 6, 8, 9]⟩,
    ⟨(some 6), (.mv (.s 15)), none, [7, 10, 0, 1, 2, 3, 4, 5, 6, 7, 8, 9, 10]⟩] false)
  (.seq (.block 0
   (.seq (.region [
     ⟨(some 17), (.fad 0 (.s 1)), none, []⟩,
     ⟨(some 18), (.ldc (.s 17)), none, [0]⟩,
     ⟨(some 19), (.call (.c (.fn 161 [])) [(.s 18)]), none, [1]⟩,
     ⟨(some 20), (.un .not (.s 19)), none, [2]⟩,
     ⟨(some 16), (.mv (.s 20)), none, [3, 2]⟩] false)
   (.cond (.s 16)
    (.seq (.region [
      ⟨(some 2), (.mv (.c (.int .i64 9))), none, []⟩] false)
    .ret)
    (.seq (.region [
      ⟨(some 22), (.fad 1 (.s 1)), none, []⟩,
      ⟨(some 23), (.ldc (.s 22)), none, [0]⟩,
      ⟨(some 24), (.len false (.s 23)), none, [1]⟩,
      ⟨(some 25), (.mv (.s 3)), none, []⟩,
      ⟨(some 26), (.bin .lss (.s 24) (.s 25)), none, [2, 3]⟩,
      ⟨(some 21), (.mv (.s 26)), none, [4]⟩] false)
    (.cond (.s 21)
     (.seq (.region [
       ⟨(some 2), (.mv (.c (.int .i64 4))), none, []⟩] false)
     .ret)
     (.seq (.region [
       ⟨(some 28), (.fad 1 (.s 1)), none, []⟩,
       ⟨(some 29), (.ldc (.s 28)), none, [0]⟩,
       ⟨(some 30), (.len false (.s 29)), none, [1]⟩,
       ⟨(some 31), (.mv (.s 4)), none, []⟩,
       ⟨(some 32), (.bin .gtr (.s 30) (.s 31)), none, [2, 3]⟩,
       ⟨(some 27), (.mv (.s 32)), none, [4]⟩] false)
     (.cond (.s 27)
      (.seq (.region [
        ⟨(some 2), (.mv (.c (.int .i64 3))), none, []⟩] false)
      .ret)
      (.seq (.region [
        ⟨(some 34), (.fad 0 (.s 1)), none, []⟩,
        ⟨(some 35), (.ldc (.s 34)), none, [0]⟩,
        ⟨(some 36), (.bin .eql (.s 35) (.c (.int .u8 1))), none, [1]⟩,
        ⟨(some 33), (.mv (.s 36)), none, [2]⟩] false)
      (.cond (.s 33)
       (.seq (.region [
         ⟨(some 2), (.mv (.c (.int .i64 0))), none, []⟩] false)
       .ret)
       .skip)))))))))
  (.seq (.region [
    ⟨(some 37), (.fad 1 (.s 1)), none, []⟩,
    ⟨(some 38), (.ldc (.s 37)), none, [0]⟩,
    ⟨(some 39), (.iad 1 (.s 38) (.c (.int .i64 3))), none, [1]⟩,
    ⟨(some 40), (.ldc (.s 39)), none, [2]⟩,
    ⟨(some 7), (.mv (.s 40)), none, [3, 0, 1, 2, 3]⟩] false)
  (.seq (.seq (.region [
    ⟨(some 41), (.fad 1 (.s 1)), none, []⟩,
    ⟨(some 42), (.ldc (.s 41)), none, [0]⟩,
    ⟨(some 43), (.mks (.ints .u8 [0]) 1 1 (.c (.int .i64 3)) (.c (.int .i64 3))), none, []⟩,
    ⟨(some 44), (.call (.c (.fn 164 [])) [(.s 42), (.s 43)]), none, [1, 2]⟩,
    ⟨(some 45), (.un .not (.s 44)), none, [3]⟩,
    ⟨(some 46), (.mv (.s 45)), none, [4, 3]⟩,
    ⟨(some 47), (.mv (.s 7)), (some (46, false)), [5]⟩,
    ⟨(some 48), (.mv (.s 5)), (some (46, false)), [5]⟩,
    ⟨(some 49), (.bin .lss (.s 47) (.s 48)), (some (46, false)), [6, 7, 5]⟩,
    ⟨(some 50), (.pick (.s 46) (.c (.bool true)) (.s 49)), none, [5, 8]⟩,
    ⟨(some 51), (.mv (.s 50)), none, [9, 5]⟩,
    ⟨(some 52), (.mv (.s 7)), (some (51, false)), [10]⟩,
    ⟨(some 53), (.mv (.s 6)), (some (51, false)), [10]⟩,
    ⟨(some 54), (.bin .gtr (.s 52) (.s 53)), (some (51, false)), [11, 12, 10]⟩,
    ⟨(some 55), (.pick (.s 51) (.c (.bool true)) (.s 54)), none, [10, 13]⟩] true)
  (.cond (.s 55)
   (.seq (.region [
     ⟨(some 2), (.mv (.c (.int .i64 3))), none, []⟩] false)
   .ret)
   .skip))
  (.seq (.region [
    ⟨(some 2), (.mv (.c (.int .i64 0))), none, []⟩] false)
  .ret)))))), false, (some [(Sh.st (Sh.pr (Sh.int .u8) (Sh.sl (Sh.int .u8))))]), (some (Sh.int .i64)), false⟩

/-- euphroe/euphroeref17.Check -/
def k146 : Fun := ⟨1, 79, [0, 1, 2, 3, 4, 5, 9, 26, 31, 34, 78], [(.tmp 2)],
  (.seq (.region [
    ⟨(some 1), (.box (.s 0)), none, []⟩,
    ⟨(some 2), (.mv (.c (.int .i64 0))), none, []⟩] false)
  (.seq (.seq (.region [
    ⟨(some 6), (.fad 0 (.s 1)), none, []⟩,
    ⟨(some 7), (.ldc (.s 6)), none, [0]⟩,
    ⟨(some 8), (.call (.c (.fn 162 [])) [(.s 7)]), none, [1]⟩,
    ⟨(some 9), (.un .not (.s 8)), none, [2]⟩] false)
  (.cond (.s 9)
   (.seq (.region [
     ⟨(some 2), (.mv (.c (.int .i64 9))), none, []⟩] false)
   .ret)
   .skip))
  (.seq (.region [
    ⟨(some 10), (.bsl 4 1 (.ints .i64 [0, 0, 0, 0]) [(0, 1, (.c (.int .i64 2))), (1, 1, (.c (.int .i64 8))), (2, 1, (.c (.int .i64 100))), (3, 1, (.c (.int .i64 36)))]), none, []⟩,
    ⟨(some 11), (.fad 0 (.s 1)), none, []⟩,
    ⟨(some 12), (.ldc (.s 11)), none, [1]⟩,
    ⟨(some 13), (.bin .sub (.s 12) (.c (.int .u8 1))), none, [2]⟩,
    ⟨(some 14), (.iad 1 (.s 10) (.s 13)), none, [0, 3]⟩,
    ⟨(some 15), (.ldc (.s 14)), none, [4]⟩,
    ⟨(some 3), (.mv (.s 15)), none, [5, 0, 1, 2, 3, 4, 5]⟩] false)
  (.seq (.region [
    ⟨(some 16), (.bsl 4 1 (.ints .i64 [0, 0, 0, 0]) [(0, 1, (.c (.int .i64 2))), (1, 1, (.c (.int .i64 72))), (2, 1, (.c (.int .i64 100))), (3, 1, (.c (.int .i64 36)))]), none, []⟩,
    ⟨(some 17), (.fad 0 (.s 1)), none, []⟩,
    ⟨(some 18), (.ldc (.s 17)), none, [1]⟩,
    ⟨(some 19), (.bin .sub (.s 18) (.c (.int .u8 1))), none, [2]⟩,
    ⟨(some 20), (.iad 1 (.s 16) (.s 19)), none, [0, 3]⟩,
    ⟨(some 21), (.ldc (.s 20)), none, [4]⟩,
    ⟨(some 4), (.mv (.s 21)), none, [5, 0, 1, 2, 3, 4, 5]⟩] false)
  (.seq (.seq (.region [
    ⟨(some 22), (.fad 1 (.s 1)), none, []⟩,
    ⟨(some 23), (.ldc (.s 22)), none, [0]⟩,
    ⟨(some 24), (.len false (.s 23)), none, [1]⟩,
    ⟨(some 25), (.mv (.s 3)), none, []⟩,
    ⟨(some 26), (.bin .lss (.s 24) (.s 25)), none, [2, 3]⟩] false)
  (.cond (.s 26)
   (.seq (.region [
     ⟨(some 2), (.mv (.c (.int .i64 4))), none, []⟩] false)
   .ret)
   .skip))
  (.seq (.seq (.region [
    ⟨(some 27), (.fad 1 (.s 1)), none, []⟩,
    ⟨(some 28), (.ldc (.s 27)), none, [0]⟩,
    ⟨(some 29), (.len false (.s 28)), none, [1]⟩,
    ⟨(some 30), (.mv (.s 4)), none, []⟩,
    ⟨(some 31), (.bin .gtr (.s 29) (.s 30)), none, [2, 3]⟩] false)
  (.cond (.s 31)
   (.seq (.region [
     ⟨(some 2), (.mv (.c (.int .i64 3))), none, []⟩] false)
   .ret)
   .skip))
  (.seq (.seq (.region [
    ⟨(some 32), (.fad 0 (.s 1)), none, []⟩,
    ⟨(some 33), (.ldc (.s 32)), none, [0]⟩,
    ⟨(some 34), (.bin .eql (.s 33) (.c (.int .u8 1))), none, [1]⟩] false)
  (.cond (.s 34)
   (.seq (.region [
     ⟨(some 2), (.mv (.c (.int .i64 0))), none, []⟩] false)
   .ret)
   .skip))
  (.seq (.region [
    ⟨(some 35), (.fad 1 (.s 1)), none, []⟩,
    ⟨(some 36), (.ldc (.s 35)), none, [0]⟩,
    ⟨(some 37), (.iad 1 (.s 36) (.c (.int .i64 3))), none, [1]⟩,
    ⟨(some 38), (.ldc (.s 37)), none, [2]⟩,
    ⟨(some 5), (.mv (.s 38)), none, [3, 0, 1, 2, 3]⟩] false)
  (.seq (.seq (.region [
    ⟨(some 39), (.fad 1 (.s 1)), none, []⟩,
    ⟨(some 40), (.ldc (.s 39)), none, [0]⟩,
    ⟨(some 41), (.sls 1 (.s 40) none (some (.c (.int .i64 3))) none), none, [1]⟩,
    ⟨(some 42), (.call (.c (.fn 165 [])) [(.s 41)]), none, [2]⟩,
    ⟨(some 43), (.un .not (.s 42)), none, [3]⟩,
    ⟨(some 44), (.mv (.s 43)), none, [4, 3]⟩,
    ⟨(some 45), (.fad 0 (.s 1)), (some (44, false)), [5]⟩,
    ⟨(some 46), (.ldc (.s 45)), (some (44, false)), [6, 5]⟩,
    ⟨(some 47), (.bin .eql (.s 46) (.c (.int .u8 2))), (some (44, false)), [7, 5]⟩,
    ⟨(some 48), (.mv (.s 47)), (some (44, false)), [8, 5, 5]⟩,
    ⟨(some 49), (.mv (.s 5)), (some (48, true)), [9]⟩,
    ⟨(some 50), (.bin .gtr (.s 49) (.c (.int .u8 4))), (some (48, true)), [10, 9]⟩,
    ⟨(some 51), (.pick (.s 48) (.s 50) (.c (.bool false))), (some (44, false)), [9, 11, 5]⟩,
    ⟨(some 52), (.pick (.s 44) (.c (.bool true)) (.s 51)), none, [5, 12]⟩,
    ⟨(some 53), (.mv (.s 52)), none, [13, 9]⟩,
    ⟨(some 54), (.fad 0 (.s 1)), (some (53, false)), [14]⟩,
    ⟨(some 55), (.ldc (.s 54)), (some (53, false)), [15, 14]⟩,
    ⟨(some 56), (.bin .eql (.s 55) (.c (.int .u8 3))), (some (53, false)), [16, 14]⟩,
    ⟨(some 57), (.mv (.s 56)), (some (53, false)), [17, 14, 14]⟩,
    ⟨(some 58), (.mv (.s 5)), (some (57, true)), [18]⟩,
    ⟨(some 59), (.bin .neq (.s 58) (.c (.int .u8 1))), (some (57, true)), [19, 18]⟩,
    ⟨(some 60), (.pick (.s 57) (.s 59) (.c (.bool false))), (some (53, false)), [18, 20, 14]⟩,
    ⟨(some 61), (.mv (.s 60)), (some (53, false)), [21, 18, 14]⟩,
    ⟨(some 62), (.mv (.s 5)), (some (61, true)), [22]⟩,
    ⟨(some 63), (.bin .neq (.s 62) (.c (.int .u8 2))), (some (61, true)), [23, 22]⟩,
    ⟨(some 64), (.pick (.s 61) (.s 63) (.c (.bool false))), (some (53, false)), [22, 24, 14]⟩,
    ⟨(some 65), (.pick (.s 53) (.c (.bool true)) (.s 64)), none, [14, 25]⟩,
    ⟨(some 66), (.mv (.s 65)), none, [26, 22]⟩,
    ⟨(some 67), (.fad 0 (.s 1)), (some (66, false)), [27]⟩,
    ⟨(some 68), (.ldc (.s 67)), (some (66, false)), [28, 27]⟩,
    ⟨(some 69), (.bin .eql (.s 68) (.c (.int .u8 4))), (some (66, false)), [29, 27]⟩,
    ⟨(some 70), (.mv (.s 69)), (some (66, false)), [30, 27, 27]⟩,
    ⟨(some 71), (.mv (.s 5)), (some (70, true)), [31]⟩,
    ⟨(some 72), (.bin .lss (.s 71) (.c (.int .u8 1))), (some (70, true)), [32, 31]⟩,
    ⟨(some 73), (.mv (.s 72)), (some (70, true)), [33, 31, 31]⟩,
    ⟨(some 74), (.mv (.s 5)), (some (73, false)), [34]⟩,
    ⟨(some 75), (.bin .gtr (.s 74) (.c (.int .u8 3))), (some (73, false)), [35, 34]⟩,
    ⟨(some 76), (.pick (.s 73) (.c (.bool true)) (.s 75)), (some (70, true)), [34, 36, 31]⟩,
    ⟨(some 77), (.pick (.s 70) (.s 76) (.c (.bool false))), (some (66, false)), [31, 37, 27]⟩,
    ⟨(some 78), (.pick (.s 66) (.c (.bool true)) (.s 77)), none, [27, 38]⟩] false)
  (.cond (.s 78)
   (.seq (.region [
     ⟨(some 2), (.mv (.c (.int .i64 3))), none, []⟩] false)
   .ret)
   .skip))
  (.seq (.region [
    ⟨(some 2), (.mv (.c (.int .i64 0))), none, []⟩] false)
  .ret)))))))))), false, (some [(Sh.st (Sh.pr (Sh.int .u8) (Sh.sl (Sh.int .u8))))]), (some (Sh.int .i64)), false⟩

/-- bytes.Equal -/
def k160 : Fun := ⟨2, 10, [0, 1, 4], [(.tmp 4)],
  (.seq (.region [
    ⟨(some 4), (.mv (.c (.bool false))), none, []⟩] false)
  (.seq (.region [
    ⟨(some 5), (.mv (.s 0)), none, []⟩,
    ⟨(some 6), (.b2s (.s 5)), none, [0]⟩,
    ⟨(some 7), (.mv (.s 1)), none, []⟩,
    ⟨(some 8), (.b2s (.s 7)), none, [2]⟩,
    ⟨(some 9), (.bin .eql (.s 6) (.s 8)), none, [1, 3]⟩,
    ⟨(some 4), (.mv (.s 9)), none, [4, 0, 1, 2, 3, 4]⟩] false)
  .ret)), false, (some [(Sh.sl (Sh.int .u8)), (Sh.sl (Sh.int .u8))]), (some Sh.bool), false⟩

/-- euphroe/attr.isKind -/
def k161 : Fun := ⟨1, 9, [0, 2], [(.tmp 2)],
  (.seq (.region [
    ⟨(some 2), (.mv (.c (.bool false))), none, []⟩] false)
  (.seq (.region [
    ⟨(some 3), (.mv (.s 0)), none, []⟩,
    ⟨(some 4), (.bin .geq (.s 3) (.c (.int .u8 1))), none, [0]⟩,
    ⟨(some 5), (.mv (.s 4)), none, [1]⟩,
    ⟨(some 6), (.mv (.s 0)), (some (5, true)), [2]⟩,
    ⟨(some 7), (.bin .leq (.s 6) (.c (.int .u8 4))), (some (5, true)), [3, 2]⟩,
    ⟨(some 8), (.pick (.s 5) (.s 7) (.c (.bool false))), none, [2, 4]⟩,
    ⟨(some 2), (.mv (.s 8)), none, [5, 2, 0, 1, 2, 3, 4, 5]⟩] false)
  .ret)), false, (some [(Sh.int .u8)]), (some Sh.bool), false⟩

/-- euphroe/euphroeref17.kind -/
def k162 : Fun := ⟨1, 9, [0, 2], [(.tmp 2)],
  (.seq (.region [
    ⟨(some 2), (.mv (.c (.bool false))), none, []⟩] false)
  (.seq (.region [
    ⟨(some 3), (.mv (.s 0)), none, []⟩,
    ⟨(some 4), (.bin .geq (.s 3) (.c (.int .u8 1))), none, [0]⟩,
    ⟨(some 5), (.mv (.s 4)), none, [1]⟩,
    ⟨(some 6), (.mv (.s 0)), (some (5, true)), [2]⟩,
    ⟨(some 7), (.bin .leq (.s 6) (.c (.int .u8 4))), (some (5, true)), [3, 2]⟩,
    ⟨(some 8), (.pick (.s 5) (.s 7) (.c (.bool false))), none, [2, 4]⟩,
    ⟨(some 2), (.mv (.s 8)), none, [5, 2, 0, 1, 2, 3, 4, 5]⟩] false)
  .ret)), false, (some [(Sh.int .u8)]), (some Sh.bool), false⟩

/-- euphroe/attr.limits -/
def k163 : Fun := ⟨1, 13, [0, 2, 3, 4, 5, 6, 7, 9, 11], [(.tmp 2), (.tmp 3), (.tmp 4), (.tmp 5)],
  (.seq (.region [
    ⟨(some 2), (.mv (.c (.int .i64 0))), none, []⟩,
    ⟨(some 3), (.mv (.c (.int .i64 0))), none, [0]⟩,
    ⟨(some 4), (.mv (.c (.int .u8 0))), none, [1]⟩,
    ⟨(some 5), (.mv (.c (.int .u8 0))), none, [2]⟩] false)
  (.seq (.region [
    ⟨(some 6), (.mv (.s 0)), none, []⟩] false)
  (.block 0
   (.seq (.region [
     ⟨(some 8), (.bin .eql (.s 6) (.c (.int .u8 2))), none, []⟩,
     ⟨(some 7), (.mv (.s 8)), none, [0]⟩] false)
   (.cond (.s 7)
    (.seq (.region [
      ⟨(some 2), (.mv (.c (.int .i64 8))), none, []⟩,
      ⟨(some 3), (.mv (.c (.int .i64 72))), none, [0, 0]⟩,
      ⟨(some 4), (.mv (.c (.int .u8 0))), none, [1, 0, 1]⟩,
      ⟨(some 5), (.mv (.c (.int .u8 4))), none, [2, 0, 1, 2]⟩] false)
    .ret)
    (.seq (.region [
      ⟨(some 10), (.bin .eql (.s 6) (.c (.int .u8 3))), none, []⟩,
      ⟨(some 9), (.mv (.s 10)), none, [0]⟩] false)
    (.cond (.s 9)
     (.seq (.region [
       ⟨(some 2), (.mv (.c (.int .i64 100))), none, []⟩,
       ⟨(some 3), (.mv (.c (.int .i64 100))), none, [0, 0]⟩,
       ⟨(some 4), (.mv (.c (.int .u8 1))), none, [1, 0, 1]⟩,
       ⟨(some 5), (.mv (.c (.int .u8 2))), none, [2, 0, 1, 2]⟩] false)
     .ret)
     (.seq (.region [
       ⟨(some 12), (.bin .eql (.s 6) (.c (.int .u8 4))), none, []⟩,
       ⟨(some 11), (.mv (.s 12)), none, [0]⟩] false)
     (.cond (.s 11)
      (.seq (.region [
        ⟨(some 2), (.mv (.c (.int .i64 36))), none, []⟩,
        ⟨(some 3), (.mv (.c (.int .i64 36))), none, [0, 0]⟩,
        ⟨(some 4), (.mv (.c (.int .u8 1))), none, [1, 0, 1]⟩,
        ⟨(some 5), (.mv (.c (.int .u8 3))), none, [2, 0, 1, 2]⟩] false)
      .ret)
      (.seq (.region [
        ⟨(some 2), (.mv (.c (.int .i64 2))), none, []⟩,
        ⟨(some 3), (.mv (.c (.int .i64 2))), none, [0, 0]⟩,
        ⟨(some 4), (.mv (.c (.int .u8 0))), none, [1, 0, 1]⟩,
        ⟨(some 5), (.mv (.c (.int .u8 0))), none, [2, 0, 1, 2]⟩] false)
      .ret)))))))))), false, (some [(Sh.int .u8)]), (some (Sh.tu (Sh.pr (Sh.int .i64) (Sh.pr (Sh.int .i64) (Sh.pr (Sh.int .u8) (Sh.int .u8)))))), false⟩

/-- bytes.HasPrefix -/
def k164 : Fun := ⟨2, 18, [0, 1, 4], [(.tmp 4)],
  (.seq (.region [
    ⟨(some 4), (.mv (.c (.bool false))), none, []⟩] false)
  (.seq (.region [
    ⟨(some 5), (.mv (.s 0)), none, []⟩,
    ⟨(some 6), (.len false (.s 5)), none, [0]⟩,
    ⟨(some 7), (.mv (.s 1)), none, []⟩,
    ⟨(some 8), (.len false (.s 7)), none, [2]⟩,
    ⟨(some 9), (.bin .geq (.s 6) (.s 8)), none, [1, 3]⟩,
    ⟨(some 10), (.mv (.s 9)), none, [4]⟩,
    ⟨(some 11), (.mv (.s 0)), (some (10, true)), [5]⟩,
    ⟨(some 12), (.mv (.s 1)), (some (10, true)), [5]⟩,
    ⟨(some 13), (.len false (.s 12)), (some (10, true)), [7, 5]⟩,
    ⟨(some 14), (.sls 1 (.s 11) none (some (.s 13)) none), (some (10, true)), [6, 8, 5]⟩,
    ⟨(some 15), (.mv (.s 1)), (some (10, true)), [5]⟩,
    ⟨(some 16), (.call (.c (.fn 160 [])) [(.s 14), (.s 15)]), (some (10, true)), [9, 10, 5, 5]⟩,
    ⟨(some 17), (.pick (.s 10) (.s 16) (.c (.bool false))), none, [5, 11]⟩,
    ⟨(some 4), (.mv (.s 17)), none, [12, 11, 0, 1, 2, 3, 4, 5, 6, 7, 8, 9, 10, 11, 12]⟩] false)
  .ret)), false, (some [(Sh.sl (Sh.int .u8)), (Sh.sl (Sh.int .u8))]), (some Sh.bool), false⟩

/-- euphroe/euphroeref17.zeros -/
def k165 : Fun := ⟨1, 15, [0, 2, 3, 7, 14], [(.tmp 2)],
  (.seq (.region [
    ⟨(some 2), (.mv (.c (.bool false))), none, []⟩] false)
  (.seq (.seq (.region [
    ⟨(some 3), (.mv (.c (.int .i64 0))), none, []⟩] false)
  (.block 0
   (.loop ⟨0, [], false, [0, 3], []⟩
    (.seq (.seq (.region [
      ⟨(some 4), (.mv (.s 3)), none, []⟩,
      ⟨(some 5), (.mv (.s 0)), none, []⟩,
      ⟨(some 6), (.len false (.s 5)), none, [1]⟩,
      ⟨(some 7), (.bin .lss (.s 4) (.s 6)), none, [0, 2]⟩] false)
    (.cond (.s 7)
     .skip
     (.pre ⟨0, [], false, [], []⟩ (.exit 0))))
    (.seq (.block 1
     (.seq (.region [
       ⟨(some 10), (.mv (.s 0)), none, []⟩,
       ⟨(some 11), (.mv (.s 3)), none, []⟩,
       ⟨(some 12), (.iad 1 (.s 10) (.s 11)), none, [0, 1]⟩,
       ⟨(some 13), (.ldc (.s 12)), none, [2]⟩,
       ⟨(some 14), (.bin .neq (.s 13) (.c (.int .u8 0))), none, [3]⟩] false)
     (.cond (.s 14)
      (.seq (.region [
        ⟨(some 2), (.mv (.c (.bool false))), none, []⟩] false)
      .ret)
      .skip)))
    (.region [
      ⟨(some 8), (.mv (.s 3)), none, []⟩,
      ⟨(some 9), (.bin .add (.s 8) (.c (.int .i64 1))), none, [0]⟩,
      ⟨(some 3), (.mv (.s 9)), none, [1, 0, 1]⟩] false))))))
  (.seq (.region [
    ⟨(some 2), (.mv (.c (.bool true))), none, []⟩] false)
  .ret))), false, (some [(Sh.sl (Sh.int .u8))]), (some Sh.bool), false⟩

/-- euphroe/packet.Same -/
def k302 : Fun := ⟨2, 31, [0, 1, 2, 3, 4], [(.tmp 4)],
  (.seq (.region [
    ⟨(some 2), (.box (.s 0)), none, []⟩,
    ⟨(some 3), (.box (.s 1)), none, []⟩,
    ⟨(some 4), (.mv (.c (.bool false))), none, []⟩] false)
  (.seq (.region [
    ⟨(some 5), (.fad 0 (.s 2)), none, []⟩,
    ⟨(some 6), (.ldc (.s 5)), none, [0]⟩,
    ⟨(some 7), (.fad 0 (.s 3)), none, []⟩,
    ⟨(some 8), (.ldc (.s 7)), none, [2]⟩,
    ⟨(some 9), (.eqn .b false (.s 6) (.s 8)), none, [1, 3]⟩,
    ⟨(some 10), (.mv (.s 9)), none, [4]⟩,
    ⟨(some 11), (.fad 1 (.s 2)), (some (10, true)), [5]⟩,
    ⟨(some 12), (.ldc (.s 11)), (some (10, true)), [6, 5]⟩,
    ⟨(some 13), (.fad 1 (.s 3)), (some (10, true)), [5]⟩,
    ⟨(some 14), (.ldc (.s 13)), (some (10, true)), [8, 5]⟩,
    ⟨(some 15), (.bin .eql (.s 12) (.s 14)), (some (10, true)), [7, 9, 5]⟩,
    ⟨(some 16), (.pick (.s 10) (.s 15) (.c (.bool false))), none, [5, 10]⟩,
    ⟨(some 17), (.mv (.s 16)), none, [11, 5]⟩,
    ⟨(some 18), (.fad 2 (.s 2)), (some (17, true)), [12]⟩,
    ⟨(some 19), (.ldc (.s 18)), (some (17, true)), [13, 12]⟩,
    ⟨(some 20), (.fad 2 (.s 3)), (some (17, true)), [12]⟩,
    ⟨(some 21), (.ldc (.s 20)), (some (17, true)), [15, 12]⟩,
    ⟨(some 22), (.call (.c (.fn 313 [])) [(.s 19), (.s 21), (.c (.fn 144 []))]), (some (17, true)), [14, 16, 12, 12]⟩,
    ⟨(some 23), (.pick (.s 17) (.s 22) (.c (.bool false))), none, [12, 17]⟩,
    ⟨(some 24), (.mv (.s 23)), none, [18, 17]⟩,
    ⟨(some 25), (.fad 3 (.s 2)), (some (24, true)), [19]⟩,
    ⟨(some 26), (.ldc (.s 25)), (some (24, true)), [20, 19]⟩,
    ⟨(some 27), (.fad 3 (.s 3)), (some (24, true)), [19]⟩,
    ⟨(some 28), (.ldc (.s 27)), (some (24, true)), [22, 19]⟩,
    ⟨(some 29), (.call (.c (.fn 160 [])) [(.s 26), (.s 28)]), (some (24, true)), [21, 23, 19, 19]⟩,
    ⟨(some 30), (.pick (.s 24) (.s 29) (.c (.bool false))), none, [19, 24]⟩,
    ⟨(some 4), (.mv (.s 30)), none, [25, 24, 0, 1, 2, 3, 4, 5, 6, 7, 8, 9, 10, 11, 12, 13, 14, 15, 16, 17, 18, 19, 20, 21, 22, 23, 24, 25]⟩] false)
  .ret)), false, (some [(Sh.st (Sh.pr Sh.bool (Sh.pr (Sh.int .u16) (Sh.pr (Sh.sl (Sh.pr (Sh.int .u8) (Sh.sl (Sh.int .u8)))) (Sh.sl (Sh.int .u8)))))), (Sh.st (Sh.pr Sh.bool (Sh.pr (Sh.int .u16) (Sh.pr (Sh.sl (Sh.pr (Sh.int .u8) (Sh.sl (Sh.int .u8)))) (Sh.sl (Sh.int .u8))))))]), (some Sh.bool), false⟩

/-- slices.EqualFunc[[]euphroe/api.Attr,[]euphroe/api.Attr,euphroe/api.Attr,euphroe/api.Attr] -/
def k313 : Fun := ⟨3, 32, [0, 1, 2, 6, 7, 8, 9, 14, 15, 16, 17, 18, 30], [(.tmp 6)],
  (.seq (.region [
    ⟨(some 6), (.mv (.c (.bool false))), none, []⟩] false)
  (.seq (.seq (.region [
    ⟨(some 10), (.mv (.s 0)), none, []⟩,
    ⟨(some 11), (.len false (.s 10)), none, [0]⟩,
    ⟨(some 12), (.mv (.s 1)), none, []⟩,
    ⟨(some 13), (.len false (.s 12)), none, [2]⟩,
    ⟨(some 14), (.bin .neq (.s 11) (.s 13)), none, [1, 3]⟩] false)
  (.cond (.s 14)
   (.seq (.region [
     ⟨(some 6), (.mv (.c (.bool false))), none, []⟩] false)
   .ret)
   .skip))
  (.seq (.seq (.region [
    ⟨(some 15), (.mv (.s 0)), none, []⟩,
    ⟨(some 16), (.len false (.s 15)), none, [0]⟩,
    ⟨(some 17), (.mv (.c (.int .i64 0))), none, []⟩] false)
  (.block 0
   (.loop ⟨0, [], false, [1, 2, 15, 16, 17], []⟩
    (.seq (.region [
      ⟨(some 18), (.bin .lss (.s 17) (.s 16)), none, []⟩] false)
    (.seq (.cond (.s 18)
     .skip
     (.pre ⟨0, [], false, [], []⟩ (.exit 0)))
    (.seq (.block 1
     (.seq (.region [
       ⟨(some 19), (.mv (.s 17)), none, []⟩,
       ⟨(some 20), (.iad 2 (.s 15) (.s 17)), none, []⟩,
       ⟨(some 21), (.lda 2 none (.s 20)), none, [1]⟩,
       ⟨(some 8), (.new (.vals [(.int .u8 0), .nils])), none, []⟩,
       ⟨(some 7), (.mv (.s 19)), none, [0, 0, 1, 2, 3]⟩,
       ⟨none, (.stc 2 (.s 8) (.s 21)), none, [3, 2, 4, 0, 1, 2, 3, 4]⟩] false)
     (.seq (.region [
       ⟨(some 22), (.mv (.s 1)), none, []⟩,
       ⟨(some 23), (.mv (.s 7)), none, []⟩,
       ⟨(some 24), (.iad 2 (.s 22) (.s 23)), none, [0, 1]⟩,
       ⟨(some 25), (.lda 2 none (.s 24)), none, [2]⟩,
       ⟨(some 9), (.new (.vals [(.int .u8 0), .nils])), none, []⟩,
       ⟨none, (.stc 2 (.s 9) (.s 25)), none, [4, 3, 0, 1, 2, 3, 4]⟩] false)
     (.seq (.region [
       ⟨(some 26), (.mv (.s 2)), none, []⟩,
       ⟨(some 27), (.lda 2 none (.s 8)), none, []⟩,
       ⟨(some 28), (.lda 2 none (.s 9)), none, []⟩,
       ⟨(some 29), (.call (.s 26) [(.s 27), (.s 28)]), none, [0, 1, 2]⟩,
       ⟨(some 30), (.un .not (.s 29)), none, [3]⟩] false)
     (.cond (.s 30)
      (.seq (.region [
        ⟨(some 6), (.mv (.c (.bool false))), none, []⟩] false)
      .ret)
      .skip)))))
    (.region [
      ⟨(some 31), (.bin .add (.s 17) (.c (.int .i64 1))), none, []⟩,
      ⟨(some 17), (.mv (.s 31)), none, [0]⟩] false)))))))
  (.seq (.region [
    ⟨(some 6), (.mv (.c (.bool true))), none, []⟩] false)
  .ret)))), false, none, none, false⟩

/-- euphroe/packet.Of -/
def k316 : Fun := ⟨2, 9, [0, 1, 4], [(.cell 4 4 true none)],
  (.seq (.region [
    ⟨(some 4), (.new (.vals [(.bool false), (.int .u16 0), .nils, .nils])), none, []⟩] false)
  (.seq (.region [
    ⟨(some 5), (.mv (.s 0)), none, []⟩,
    ⟨(some 6), (.mv (.s 1)), none, []⟩,
    ⟨(some 7), (.call (.c (.fn 320 [])) [(.s 6)]), none, [1]⟩,
    ⟨(some 8), (.build (.vals [(.bool false), (.int .u16 0), .nils, .nils]) [(0, 1, (.c (.bool true))), (1, 1, (.s 5)), (2, 1, (.s 7))]), none, [0, 2]⟩,
    ⟨none, (.stc 4 (.s 4) (.s 8)), none, [3, 2, 0, 1, 2, 3]⟩] false)
  .ret)), false, (some [(Sh.int .u16), (Sh.sl (Sh.pr (Sh.int .u8) (Sh.sl (Sh.int .u8))))]), (some (Sh.st (Sh.pr Sh.bool (Sh.pr (Sh.int .u16) (Sh.pr (Sh.sl (Sh.pr (Sh.int .u8) (Sh.sl (Sh.int .u8)))) (Sh.sl (Sh.int .u8))))))), false⟩

/-- euphroe/packet.Lay -/
def k317 : Fun := ⟨1, 32, [0, 1, 2, 3, 4, 5, 6, 12, 16, 22], [(.tmp 2), (.tmp 3)],
  (.seq (.region [
    ⟨(some 1), (.box (.s 0)), none, []⟩,
    ⟨(some 2), (.mv (.c .nils)), none, []⟩,
    ⟨(some 3), (.mv (.c (.int .i64 0))), none, [1]⟩] false)
  (.seq (.region [
    ⟨(some 8), (.lda 4 none (.s 1)), none, []⟩,
    ⟨(some 9), (.call (.c (.fn 321 [])) [(.s 8)]), none, [0]⟩,
    ⟨(some 7), (.mv (.s 9)), none, [1]⟩,
    ⟨(some 10), (.ext (.s 7) 0), none, [2]⟩,
    ⟨(some 11), (.ext (.s 7) 1), none, [2]⟩,
    ⟨(some 4), (.mv (.s 10)), none, [3, 1, 0, 1, 2, 3]⟩,
    ⟨(some 5), (.mv (.s 11)), none, [4, 5, 0, 1, 2, 3, 4, 5]⟩] false)
  (.seq (.block 0
   (.seq (.region [
     ⟨(some 13), (.mv (.s 5)), none, []⟩,
     ⟨(some 14), (.bin .neq (.s 13) (.c (.int .i64 0))), none, [0]⟩,
     ⟨(some 12), (.mv (.s 14)), none, [1]⟩] false)
   (.cond (.s 12)
    (.seq (.region [
      ⟨(some 15), (.mv (.s 5)), none, []⟩,
      ⟨(some 2), (.mv (.c .nils)), none, []⟩,
      ⟨(some 3), (.mv (.s 15)), none, [0, 1, 0, 1]⟩] false)
    .ret)
    (.seq (.region [
      ⟨(some 17), (.mv (.s 4)), none, []⟩,
      ⟨(some 18), (.len false (.s 17)), none, [0]⟩,
      ⟨(some 19), (.bin .add (.c (.int .i64 4)) (.s 18)), none, [1]⟩,
      ⟨(some 20), (.bin .gtr (.s 19) (.c (.int .i64 4095))), none, [2]⟩,
      ⟨(some 16), (.mv (.s 20)), none, [3]⟩] false)
    (.cond (.s 16)
     (.seq (.region [
       ⟨(some 2), (.mv (.c .nils)), none, []⟩,
       ⟨(some 3), (.mv (.c (.int .i64 8))), none, [0, 0]⟩] false)
     .ret)
     .skip)))))
  (.seq (.region [
    ⟨(some 6), (.mv (.c (.int .u8 0))), none, []⟩] false)
  (.seq (.seq (.region [
    ⟨(some 21), (.fad 0 (.s 1)), none, []⟩,
    ⟨(some 22), (.ldc (.s 21)), none, [0]⟩] false)
  (.cond (.s 22)
   (.region [
     ⟨(some 6), (.mv (.c (.int .u8 1))), none, []⟩] false)
   .skip))
  (.seq (.region [
    ⟨(some 23), (.mv (.s 6)), none, []⟩,
    ⟨(some 24), (.bsl 2 1 (.ints .u8 [0, 0]) [(0, 1, (.c (.int .u8 16))), (1, 1, (.s 23))]), none, [0]⟩,
    ⟨(some 25), (.mv (.s 4)), none, []⟩,
    ⟨(some 26), (.len false (.s 25)), none, [2]⟩,
    ⟨(some 27), (.bin .add (.c (.int .i64 4)) (.s 26)), none, [3]⟩,
    ⟨(some 28), (.call (.c (.fn 322 [])) [(.s 27)]), none, [4]⟩,
    ⟨(some 29), (.mv (.s 4)), none, []⟩,
    ⟨(some 30), (.bsl 3 1 (.vals [.nils, .nils, .nils]) [(0, 1, (.s 24)), (1, 1, (.s 28)), (2, 1, (.s 29))]), none, [1, 5, 6]⟩,
    ⟨(some 31), (.call (.c (.fn 46 [])) [(.s 30)]), none, [7, 5]⟩,
    ⟨(some 2), (.mv (.s 31)), none, [8, 8, 0, 1, 2, 3, 4, 5, 6, 7, 8]⟩,
    ⟨(some 3), (.mv (.c (.int .i64 0))), none, [9, 0, 1, 2, 3, 4, 5, 6, 7, 8, 9]⟩] false)
  .ret)))))), false, (some [(Sh.st (Sh.pr Sh.bool (Sh.pr (Sh.int .u16) (Sh.pr (Sh.sl (Sh.pr (Sh.int .u8) (Sh.sl (Sh.int .u8)))) (Sh.sl (Sh.int .u8))))))]), (some (Sh.tu (Sh.pr (Sh.sl (Sh.int .u8)) (Sh.int .i64)))), false⟩

/-- euphroe/euphroeref18.Lay -/
def k319 : Fun := ⟨1, 66, [0, 1, 2, 3, 4, 5, 6, 7, 8, 12, 16, 31, 44, 51, 55], [(.tmp 2), (.tmp 3)],
  (.seq (.region [
    ⟨(some 1), (.box (.s 0)), none, []⟩,
    ⟨(some 2), (.mv (.c .nils)), none, []⟩,
    ⟨(some 3), (.mv (.c (.int .i64 0))), none, [1]⟩] false)
  (.seq (.region [
    ⟨(some 9), (.fad 3 (.s 1)), none, []⟩,
    ⟨(some 10), (.ldc (.s 9)), none, [0]⟩,
    ⟨(some 4), (.mv (.s 10)), none, [1, 0, 1]⟩] false)
  (.seq (.region [
    ⟨(some 5), (.mv (.c (.int .u8 0))), none, []⟩] false)
  (.seq (.seq (.region [
    ⟨(some 11), (.fad 0 (.s 1)), none, []⟩,
    ⟨(some 12), (.ldc (.s 11)), none, [0]⟩] false)
  (.cond (.s 12)
   (.seq (.seq (.region [
     ⟨(some 13), (.fad 2 (.s 1)), none, []⟩,
     ⟨(some 14), (.ldc (.s 13)), none, [0]⟩,
     ⟨(some 15), (.len false (.s 14)), none, [1]⟩,
     ⟨(some 16), (.bin .gtr (.s 15) (.c (.int .i64 8))), none, [2]⟩] false)
   (.cond (.s 16)
    (.seq (.region [
      ⟨(some 2), (.mv (.c .nils)), none, []⟩,
      ⟨(some 3), (.mv (.c (.int .i64 5))), none, [0, 0]⟩] false)
    .ret)
    .skip))
   (.seq (.region [
     ⟨(some 5), (.mv (.c (.int .u8 1))), none, []⟩] false)
   (.seq (.region [
     ⟨(some 17), (.fad 1 (.s 1)), none, []⟩,
     ⟨(some 18), (.ldc (.s 17)), none, [0]⟩,
     ⟨(some 19), (.cvi .u64 (.s 18)), none, [1]⟩,
     ⟨(some 20), (.call (.c (.fn 50 [])) [(.s 19), (.c (.int .i64 2))]), none, [2]⟩,
     ⟨(some 21), (.fad 2 (.s 1)), none, []⟩,
     ⟨(some 22), (.ldc (.s 21)), none, [4]⟩,
     ⟨(some 23), (.len false (.s 22)), none, [5]⟩,
     ⟨(some 24), (.cvi .u64 (.s 23)), none, [6]⟩,
     ⟨(some 25), (.call (.c (.fn 50 [])) [(.s 24), (.c (.int .i64 2))]), none, [7, 3]⟩,
     ⟨(some 26), (.app 1 1 (.s 20) (.s 25)), none, [3, 8, 8]⟩,
     ⟨(some 4), (.mv (.s 26)), none, [9, 9, 0, 1, 2, 3, 4, 5, 6, 7, 8, 9]⟩] true)
   (.seq (.region [
     ⟨(some 6), (.mv (.c (.int .i64 0))), none, []⟩] false)
   (.block 0
    (.loop ⟨0, [], false, [1, 4, 5, 6], []⟩
     (.seq (.seq (.region [
       ⟨(some 27), (.mv (.s 6)), none, []⟩,
       ⟨(some 28), (.fad 2 (.s 1)), none, []⟩,
       ⟨(some 29), (.ldc (.s 28)), none, [1]⟩,
       ⟨(some 30), (.len false (.s 29)), none, [2]⟩,
       ⟨(some 31), (.bin .lss (.s 27) (.s 30)), none, [0, 3]⟩] false)
     (.cond (.s 31)
      .skip
      (.pre ⟨0, [], false, [4, 5], []⟩ (.exit 0))))
     (.seq (.block 1
      (.seq (.region [
        ⟨(some 35), (.fad 2 (.s 1)), none, []⟩,
        ⟨(some 36), (.ldc (.s 35)), none, [0]⟩,
        ⟨(some 37), (.mv (.s 6)), none, []⟩,
        ⟨(some 38), (.iad 2 (.s 36) (.s 37)), none, [1, 2]⟩,
        ⟨(some 39), (.lda 2 none (.s 38)), none, [3]⟩,
        ⟨(some 40), (.call (.c (.fn 141 [])) [(.s 39)]), none, [4]⟩,
        ⟨(some 34), (.mv (.s 40)), none, [5]⟩,
        ⟨(some 41), (.ext (.s 34) 0), none, [6]⟩,
        ⟨(some 42), (.ext (.s 34) 1), none, [6]⟩,
        ⟨(some 7), (.mv (.s 41)), none, [7, 5, 0, 1, 2, 3, 4, 5, 6, 7]⟩,
        ⟨(some 8), (.mv (.s 42)), none, [8, 9, 0, 1, 2, 3, 4, 5, 6, 7, 8, 9]⟩] false)
      (.seq (.seq (.region [
        ⟨(some 43), (.mv (.s 8)), none, []⟩,
        ⟨(some 44), (.bin .neq (.s 43) (.c (.int .i64 0))), none, [0]⟩] false)
      (.cond (.s 44)
       (.seq (.region [
         ⟨(some 45), (.mv (.s 8)), none, []⟩,
         ⟨(some 2), (.mv (.c .nils)), none, []⟩,
         ⟨(some 3), (.mv (.s 45)), none, [0, 1, 0, 1]⟩] false)
       .ret)
       .skip))
      (.region [
        ⟨(some 46), (.mv (.s 4)), none, []⟩,
        ⟨(some 47), (.mv (.s 7)), none, []⟩,
        ⟨(some 48), (.app 1 1 (.s 46) (.s 47)), none, [0, 1]⟩,
        ⟨(some 4), (.mv (.s 48)), none, [2, 2, 0, 1, 2]⟩] false))))
     (.region [
       ⟨(some 32), (.mv (.s 6)), none, []⟩,
       ⟨(some 33), (.bin .add (.s 32) (.c (.int .i64 1))), none, [0]⟩,
       ⟨(some 6), (.mv (.s 33)), none, [1, 0, 1]⟩] false)))))))))
   .skip))
  (.seq (.seq (.region [
    ⟨(some 49), (.mv (.s 4)), none, []⟩,
    ⟨(some 50), (.len false (.s 49)), none, [0]⟩,
    ⟨(some 51), (.bin .eql (.s 50) (.c (.int .i64 0))), none, [1]⟩] false)
  (.cond (.s 51)
   (.seq (.region [
     ⟨(some 2), (.mv (.c .nils)), none, []⟩,
     ⟨(some 3), (.mv (.c (.int .i64 4))), none, [0, 0]⟩] false)
   .ret)
   .skip))
  (.seq (.seq (.region [
    ⟨(some 52), (.mv (.s 4)), none, []⟩,
    ⟨(some 53), (.len false (.s 52)), none, [0]⟩,
    ⟨(some 54), (.bin .add (.c (.int .i64 4)) (.s 53)), none, [1]⟩,
    ⟨(some 55), (.bin .gtr (.s 54) (.c (.int .i64 4095))), none, [2]⟩] false)
  (.cond (.s 55)
   (.seq (.region [
     ⟨(some 2), (.mv (.c .nils)), none, []⟩,
     ⟨(some 3), (.mv (.c (.int .i64 8))), none, [0, 0]⟩] false)
   .ret)
   .skip))
  (.seq (.region [
    ⟨(some 56), (.mv (.s 5)), none, []⟩,
    ⟨(some 57), (.bsl 2 1 (.ints .u8 [0, 0]) [(0, 1, (.c (.int .u8 16))), (1, 1, (.s 56))]), none, [0]⟩,
    ⟨(some 58), (.mv (.s 4)), none, []⟩,
    ⟨(some 59), (.len false (.s 58)), none, [2]⟩,
    ⟨(some 60), (.bin .add (.c (.int .i64 4)) (.s 59)), none, [3]⟩,
    ⟨(some 61), (.cvi .u64 (.s 60)), none, [4]⟩,
    ⟨(some 62), (.call (.c (.fn 50 [])) [(.s 61), (.c (.int .i64 2))]), none, [5]⟩,
    ⟨(some 63), (.app 1 1 (.s 57) (.s 62)), none, [1, 6, 6]⟩,
    ⟨(some 64), (.mv (.s 4)), none, []⟩,
    ⟨(some 65), (.app 1 1 (.s 63) (.s 64)), none, [7, 8, 7]⟩,
    ⟨(some 2), (.mv (.s 65)), none, [9, 9, 0, 1, 2, 3, 4, 5, 6, 7, 8, 9]⟩,
    ⟨(some 3), (.mv (.c (.int .i64 0))), none, [10, 0, 1, 2, 3, 4, 5, 6, 7, 8, 9, 10]⟩] false)
  .ret))))))), false, (some [(Sh.st (Sh.pr Sh.bool (Sh.pr (Sh.int .u16) (Sh.pr (Sh.sl (Sh.pr (Sh.int .u8) (Sh.sl (Sh.int .u8)))) (Sh.sl (Sh.int .u8))))))]), (some (Sh.tu (Sh.pr (Sh.sl (Sh.int .u8)) (Sh.int .i64)))), false⟩

/-- euphroe/packet.body -/
def k321 : Fun := ⟨1, 60, [0, 1, 2, 3, 4, 6, 7, 8, 9, 19, 25, 41, 42, 43, 44, 53], [(.tmp 2), (.tmp 3)],
  (.seq (.region [
    ⟨(some 1), (.box (.s 0)), none, []⟩,
    ⟨(some 2), (.mv (.c .nils)), none, []⟩,
    ⟨(some 3), (.mv (.c (.int .i64 0))), none, [1]⟩] false)
  (.seq (.block 0
   (.seq (.region [
     ⟨(some 10), (.fad 0 (.s 1)), none, []⟩,
     ⟨(some 11), (.ldc (.s 10)), none, [0]⟩,
     ⟨(some 12), (.un .not (.s 11)), none, [1]⟩,
     ⟨(some 13), (.mv (.s 12)), none, [2]⟩,
     ⟨(some 14), (.fad 3 (.s 1)), (some (13, true)), [3]⟩,
     ⟨(some 15), (.ldc (.s 14)), (some (13, true)), [4, 3]⟩,
     ⟨(some 16), (.len false (.s 15)), (some (13, true)), [5, 3]⟩,
     ⟨(some 17), (.bin .eql (.s 16) (.c (.int .i64 0))), (some (13, true)), [6, 3]⟩,
     ⟨(some 18), (.pick (.s 13) (.s 17) (.c (.bool false))), none, [3, 7]⟩,
     ⟨(some 9), (.mv (.s 18)), none, [8, 3]⟩] false)
   (.cond (.s 9)
    (.seq (.region [
      ⟨(some 2), (.mv (.c .nils)), none, []⟩,
      ⟨(some 3), (.mv (.c (.int .i64 4))), none, [0, 0]⟩] false)
    .ret)
    (.seq (.region [
      ⟨(some 20), (.fad 0 (.s 1)), none, []⟩,
      ⟨(some 21), (.ldc (.s 20)), none, [0]⟩,
      ⟨(some 22), (.un .not (.s 21)), none, [1]⟩,
      ⟨(some 19), (.mv (.s 22)), none, [2]⟩] false)
    (.cond (.s 19)
     (.seq (.region [
       ⟨(some 23), (.fad 3 (.s 1)), none, []⟩,
       ⟨(some 24), (.ldc (.s 23)), none, [0]⟩,
       ⟨(some 2), (.mv (.s 24)), none, [1, 0, 1]⟩,
       ⟨(some 3), (.mv (.c (.int .i64 0))), none, [2, 0, 1, 2]⟩] false)
     .ret)
     (.seq (.region [
       ⟨(some 26), (.fad 2 (.s 1)), none, []⟩,
       ⟨(some 27), (.ldc (.s 26)), none, [0]⟩,
       ⟨(some 28), (.len false (.s 27)), none, [1]⟩,
       ⟨(some 29), (.bin .gtr (.s 28) (.c (.int .i64 8))), none, [2]⟩,
       ⟨(some 25), (.mv (.s 29)), none, [3]⟩] false)
     (.cond (.s 25)
      (.seq (.region [
        ⟨(some 2), (.mv (.c .nils)), none, []⟩,
        ⟨(some 3), (.mv (.c (.int .i64 5))), none, [0, 0]⟩] false)
      .ret)
      .skip)))))))
  (.seq (.region [
    ⟨(some 30), (.fad 1 (.s 1)), none, []⟩,
    ⟨(some 31), (.ldc (.s 30)), none, [0]⟩,
    ⟨(some 32), (.cvi .i64 (.s 31)), none, [1]⟩,
    ⟨(some 33), (.call (.c (.fn 322 [])) [(.s 32)]), none, [2]⟩,
    ⟨(some 34), (.fad 2 (.s 1)), none, []⟩,
    ⟨(some 35), (.ldc (.s 34)), none, [4]⟩,
    ⟨(some 36), (.len false (.s 35)), none, [5]⟩,
    ⟨(some 37), (.call (.c (.fn 322 [])) [(.s 36)]), none, [6, 3]⟩,
    ⟨(some 38), (.bsl 2 1 (.vals [.nils, .nils]) [(0, 1, (.s 33)), (1, 1, (.s 37))]), none, [3, 7]⟩,
    ⟨(some 39), (.call (.c (.fn 46 [])) [(.s 38)]), none, [8, 7]⟩,
    ⟨(some 4), (.mv (.s 39)), none, [9, 9, 0, 1, 2, 3, 4, 5, 6, 7, 8, 9]⟩] true)
  (.seq (.seq (.region [
    ⟨(some 40), (.fad 2 (.s 1)), none, []⟩,
    ⟨(some 41), (.ldc (.s 40)), none, [0]⟩,
    ⟨(some 42), (.len false (.s 41)), none, [1]⟩,
    ⟨(some 43), (.mv (.c (.int .i64 0))), none, []⟩] false)
  (.block 1
   (.loop ⟨0, [], false, [4, 41, 42, 43], []⟩
    (.seq (.region [
      ⟨(some 44), (.bin .lss (.s 43) (.s 42)), none, []⟩] false)
    (.seq (.cond (.s 44)
     .skip
     (.pre ⟨0, [], false, [4], []⟩ (.exit 1)))
    (.seq (.block 2
     (.seq (.region [
       ⟨(some 45), (.iad 2 (.s 41) (.s 43)), none, []⟩,
       ⟨(some 46), (.lda 2 none (.s 45)), none, [0]⟩,
       ⟨(some 6), (.new (.vals [(.int .u8 0), .nils])), none, []⟩,
       ⟨none, (.stc 2 (.s 6) (.s 46)), none, [2, 1, 0, 1, 2]⟩] false)
     (.seq (.region [
       ⟨(some 48), (.lda 2 none (.s 6)), none, []⟩,
       ⟨(some 49), (.call (.c (.fn 139 [])) [(.s 48)]), none, [0]⟩,
       ⟨(some 47), (.mv (.s 49)), none, [1]⟩,
       ⟨(some 50), (.ext (.s 47) 0), none, [2]⟩,
       ⟨(some 51), (.ext (.s 47) 1), none, [2]⟩,
       ⟨(some 7), (.mv (.s 50)), none, [3, 1, 0, 1, 2, 3]⟩,
       ⟨(some 8), (.mv (.s 51)), none, [4, 5, 0, 1, 2, 3, 4, 5]⟩] false)
     (.seq (.seq (.region [
       ⟨(some 52), (.mv (.s 8)), none, []⟩,
       ⟨(some 53), (.bin .neq (.s 52) (.c (.int .i64 0))), none, [0]⟩] false)
     (.cond (.s 53)
      (.seq (.region [
        ⟨(some 54), (.mv (.s 8)), none, []⟩,
        ⟨(some 2), (.mv (.c .nils)), none, []⟩,
        ⟨(some 3), (.mv (.s 54)), none, [0, 1, 0, 1]⟩] false)
      .ret)
      .skip))
     (.region [
       ⟨(some 55), (.mv (.s 4)), none, []⟩,
       ⟨(some 56), (.mv (.s 7)), none, []⟩,
       ⟨(some 57), (.app 1 1 (.s 55) (.s 56)), none, [0, 1]⟩,
       ⟨(some 4), (.mv (.s 57)), none, [2, 2, 0, 1, 2]⟩] false)))))
    (.region [
      ⟨(some 58), (.bin .add (.s 43) (.c (.int .i64 1))), none, []⟩,
      ⟨(some 43), (.mv (.s 58)), none, [0]⟩] false)))))))
  (.seq (.region [
    ⟨(some 59), (.mv (.s 4)), none, []⟩,
    ⟨(some 2), (.mv (.s 59)), none, [0, 0]⟩,
    ⟨(some 3), (.mv (.c (.int .i64 0))), none, [1, 0, 1]⟩] false)
  .ret))))), false, (some [(Sh.st (Sh.pr Sh.bool (Sh.pr (Sh.int .u16) (Sh.pr (Sh.sl (Sh.pr (Sh.int .u8) (Sh.sl (Sh.int .u8)))) (Sh.sl (Sh.int .u8))))))]), (some (Sh.tu (Sh.pr (Sh.sl (Sh.int .u8)) (Sh.int .i64)))), false⟩

/-- euphroe/packet.number -/
def k322 : Fun := ⟨1, 12, [0, 2, 3], [(.tmp 2)],
  (.seq (.region [
    ⟨(some 2), (.mv (.c .nils)), none, []⟩] false)
  (.seq (.region [
    ⟨(some 6), (.mv (.s 0)), none, []⟩,
    ⟨(some 7), (.cvi .u64 (.s 6)), none, [0]⟩,
    ⟨(some 8), (.call (.c (.fn 19 [])) [(.s 7), (.c (.int .i64 2)), (.c (.bool false))]), none, [1]⟩,
    ⟨(some 5), (.mv (.s 8)), none, [2]⟩,
    ⟨(some 9), (.ext (.s 5) 0), none, [3]⟩,
    ⟨(some 10), (.ext (.s 5) 1), none, [3]⟩,
    ⟨(some 3), (.mv (.s 9)), none, [4, 2, 0, 1, 2, 3, 4]⟩,
    ⟨(some 4), (.mv (.s 10)), none, [5, 6, 0, 1, 2, 3, 4, 5, 6]⟩] false)
  (.seq (.region [
    ⟨(some 11), (.mv (.s 3)), none, []⟩,
    ⟨(some 2), (.mv (.s 11)), none, [0, 0]⟩] false)
  .ret))), false, (some [(Sh.int .i64)]), (some (Sh.sl (Sh.int .u8))), false⟩

/-- euphroe/packet.Check -/
def k323 : Fun := ⟨1, 61, [0, 1, 2, 3, 4, 5, 6, 8, 9, 20, 24, 33, 49, 50, 51, 52, 58], [(.tmp 2)],
  (.seq (.region [
    ⟨(some 1), (.box (.s 0)), none, []⟩,
    ⟨(some 2), (.mv (.c (.int .i64 0))), none, []⟩] false)
  (.seq (.region [
    ⟨(some 11), (.fad 1 (.s 1)), none, []⟩,
    ⟨(some 12), (.ldc (.s 11)), none, [0]⟩,
    ⟨(some 13), (.call (.c (.fn 324 [])) [(.s 12)]), none, [1]⟩,
    ⟨(some 10), (.mv (.s 13)), none, [2]⟩,
    ⟨(some 14), (.ext (.s 10) 0), none, [3]⟩,
    ⟨(some 15), (.ext (.s 10) 1), none, [3]⟩,
    ⟨(some 16), (.ext (.s 10) 2), none, [3]⟩,
    ⟨(some 3), (.new (.ints .u8 [0])), none, []⟩,
    ⟨none, (.stc 1 (.s 3) (.s 14)), none, [7, 4, 2, 0, 1, 2, 3, 4, 7]⟩,
    ⟨(some 4), (.mv (.s 15)), none, [5, 8, 0, 1, 2, 3, 4, 5, 7, 8]⟩,
    ⟨(some 5), (.mv (.s 16)), none, [6, 9, 0, 1, 2, 3, 4, 5, 6, 7, 8, 9]⟩] false)
  (.seq (.region [
    ⟨(some 17), (.fad 2 (.s 1)), none, []⟩,
    ⟨(some 18), (.ldc (.s 17)), none, [0]⟩,
    ⟨(some 19), (.len false (.s 18)), none, [1]⟩,
    ⟨(some 6), (.mv (.s 19)), none, [2, 0, 1, 2]⟩] false)
  (.seq (.block 0
   (.seq (.region [
     ⟨(some 21), (.fad 0 (.s 1)), none, []⟩,
     ⟨(some 22), (.ldc (.s 21)), none, [0]⟩,
     ⟨(some 23), (.un .not (.s 22)), none, [1]⟩,
     ⟨(some 20), (.mv (.s 23)), none, [2]⟩] false)
   (.cond (.s 20)
    (.seq (.region [
      ⟨(some 2), (.mv (.c (.int .i64 0))), none, []⟩] false)
    .ret)
    (.seq (.region [
      ⟨(some 25), (.fad 1 (.s 1)), none, []⟩,
      ⟨(some 26), (.ldc (.s 25)), none, [0]⟩,
      ⟨(some 27), (.bin .lss (.s 26) (.c (.int .u16 1))), none, [1]⟩,
      ⟨(some 28), (.mv (.s 27)), none, [2]⟩,
      ⟨(some 29), (.fad 1 (.s 1)), (some (28, false)), [3]⟩,
      ⟨(some 30), (.ldc (.s 29)), (some (28, false)), [4, 3]⟩,
      ⟨(some 31), (.bin .gtr (.s 30) (.c (.int .u16 9))), (some (28, false)), [5, 3]⟩,
      ⟨(some 32), (.pick (.s 28) (.c (.bool true)) (.s 31)), none, [3, 6]⟩,
      ⟨(some 24), (.mv (.s 32)), none, [7, 3]⟩] false)
    (.cond (.s 24)
     (.seq (.region [
       ⟨(some 2), (.mv (.c (.int .i64 9))), none, []⟩] false)
     .ret)
     (.seq (.region [
       ⟨(some 34), (.mv (.s 6)), none, []⟩,
       ⟨(some 35), (.mv (.s 4)), none, []⟩,
       ⟨(some 36), (.bin .lss (.s 34) (.s 35)), none, [0, 1]⟩,
       ⟨(some 37), (.mv (.s 36)), none, [2]⟩,
       ⟨(some 38), (.mv (.s 6)), (some (37, false)), [3]⟩,
       ⟨(some 39), (.mv (.s 5)), (some (37, false)), [3]⟩,
       ⟨(some 40), (.bin .gtr (.s 38) (.s 39)), (some (37, false)), [4, 5, 3]⟩,
       ⟨(some 41), (.pick (.s 37) (.c (.bool true)) (.s 40)), none, [3, 6]⟩,
       ⟨(some 42), (.mv (.s 41)), none, [7, 3]⟩,
       ⟨(some 43), (.fad 2 (.s 1)), (some (42, false)), [8]⟩,
       ⟨(some 44), (.ldc (.s 43)), (some (42, false)), [9, 8]⟩,
       ⟨(some 45), (.mkf 326 [(.s 3)]), (some (42, false)), [8]⟩,
       ⟨(some 46), (.call (.c (.fn 325 [])) [(.s 44), (.s 45)]), (some (42, false)), [10, 11, 8, 8]⟩,
       ⟨(some 47), (.pick (.s 42) (.c (.bool true)) (.s 46)), none, [8, 12]⟩,
       ⟨(some 33), (.mv (.s 47)), none, [13, 12]⟩] false)
     (.cond (.s 33)
      (.seq (.region [
        ⟨(some 2), (.mv (.c (.int .i64 1))), none, []⟩] false)
      .ret)
      .skip)))))))
  (.seq (.seq (.region [
    ⟨(some 48), (.fad 2 (.s 1)), none, []⟩,
    ⟨(some 49), (.ldc (.s 48)), none, [0]⟩,
    ⟨(some 50), (.len false (.s 49)), none, [1]⟩,
    ⟨(some 51), (.mv (.c (.int .i64 0))), none, []⟩] false)
  (.block 1
   (.loop ⟨0, [], false, [49, 50, 51], []⟩
    (.seq (.region [
      ⟨(some 52), (.bin .lss (.s 51) (.s 50)), none, []⟩] false)
    (.seq (.cond (.s 52)
     .skip
     (.pre ⟨0, [], false, [], []⟩ (.exit 1)))
    (.seq (.block 2
     (.seq (.region [
       ⟨(some 53), (.iad 2 (.s 49) (.s 51)), none, []⟩,
       ⟨(some 54), (.lda 2 none (.s 53)), none, [0]⟩,
       ⟨(some 8), (.new (.vals [(.int .u8 0), .nils])), none, []⟩,
       ⟨none, (.stc 2 (.s 8) (.s 54)), none, [2, 1, 0, 1, 2]⟩] false)
     (.seq (.region [
       ⟨(some 55), (.lda 2 none (.s 8)), none, []⟩,
       ⟨(some 56), (.call (.c (.fn 145 [])) [(.s 55)]), none, [0]⟩,
       ⟨(some 9), (.mv (.s 56)), none, [1, 1, 0, 1]⟩] false)
     (.seq (.region [
       ⟨(some 57), (.mv (.s 9)), none, []⟩,
       ⟨(some 58), (.bin .neq (.s 57) (.c (.int .i64 0))), none, [0]⟩] false)
     (.cond (.s 58)
      (.seq (.region [
        ⟨(some 59), (.mv (.s 9)), none, []⟩,
        ⟨(some 2), (.mv (.s 59)), none, [0, 0]⟩] false)
      .ret)
      .skip)))))
    (.region [
      ⟨(some 60), (.bin .add (.s 51) (.c (.int .i64 1))), none, []⟩,
      ⟨(some 51), (.mv (.s 60)), none, [0]⟩] false)))))))
  (.seq (.region [
    ⟨(some 2), (.mv (.c (.int .i64 0))), none, []⟩] false)
  .ret)))))), false, (some [(Sh.st (Sh.pr Sh.bool (Sh.pr (Sh.int .u16) (Sh.pr (Sh.sl (Sh.pr (Sh.int .u8) (Sh.sl (Sh.int .u8)))) (Sh.sl (Sh.int .u8))))))]), (some (Sh.int .i64)), false⟩

/-- euphroe/packet.wants -/
def k324 : Fun := ⟨1, 17, [0, 2, 3, 4, 5, 6, 8, 10, 12, 14], [(.tmp 2), (.tmp 3), (.tmp 4)],
  (.seq (.region [
    ⟨(some 2), (.mv (.c (.int .u8 0))), none, []⟩,
    ⟨(some 3), (.mv (.c (.int .i64 0))), none, [0]⟩,
    ⟨(some 4), (.mv (.c (.int .i64 0))), none, [1]⟩] false)
  (.seq (.region [
    ⟨(some 5), (.mv (.s 0)), none, []⟩] false)
  (.block 0
   (.seq (.region [
     ⟨(some 7), (.bin .eql (.s 5) (.c (.int .u16 1))), none, []⟩,
     ⟨(some 6), (.mv (.s 7)), none, [0]⟩] false)
   (.cond (.s 6)
    (.seq (.region [
      ⟨(some 2), (.mv (.c (.int .u8 1))), none, []⟩,
      ⟨(some 3), (.mv (.c (.int .i64 1))), none, [0, 0]⟩,
      ⟨(some 4), (.mv (.c (.int .i64 1))), none, [1, 0, 1]⟩] false)
    .ret)
    (.seq (.region [
      ⟨(some 9), (.bin .eql (.s 5) (.c (.int .u16 2))), none, []⟩,
      ⟨(some 8), (.mv (.s 9)), none, [0]⟩] false)
    (.cond (.s 8)
     (.seq (.region [
       ⟨(some 2), (.mv (.c (.int .u8 4))), none, []⟩,
       ⟨(some 3), (.mv (.c (.int .i64 1))), none, [0, 0]⟩,
       ⟨(some 4), (.mv (.c (.int .i64 1))), none, [1, 0, 1]⟩] false)
     .ret)
     (.seq (.region [
       ⟨(some 11), (.bin .eql (.s 5) (.c (.int .u16 3))), none, []⟩,
       ⟨(some 10), (.mv (.s 11)), none, [0]⟩] false)
     (.cond (.s 10)
      (.seq (.region [
        ⟨(some 2), (.mv (.c (.int .u8 2))), none, []⟩,
        ⟨(some 3), (.mv (.c (.int .i64 1))), none, [0, 0]⟩,
        ⟨(some 4), (.mv (.c (.int .i64 3))), none, [1, 0, 1]⟩] false)
      .ret)
      (.seq (.region [
        ⟨(some 13), (.bin .eql (.s 5) (.c (.int .u16 4))), none, []⟩,
        ⟨(some 12), (.mv (.s 13)), none, [0]⟩] false)
      (.cond (.s 12)
       (.seq (.region [
         ⟨(some 2), (.mv (.c (.int .u8 3))), none, []⟩,
         ⟨(some 3), (.mv (.c (.int .i64 1))), none, [0, 0]⟩,
         ⟨(some 4), (.mv (.c (.int .i64 1))), none, [1, 0, 1]⟩] false)
       .ret)
       (.seq (.seq (.region [
         ⟨(some 15), (.bin .eql (.s 5) (.c (.int .u16 5))), none, []⟩,
         ⟨(some 14), (.mv (.s 15)), none, [0]⟩] false)
       (.cond (.s 14)
        .skip
        (.region [
          ⟨(some 16), (.bin .eql (.s 5) (.c (.int .u16 6))), none, []⟩,
          ⟨(some 14), (.mv (.s 16)), none, [0]⟩] false)))
       (.cond (.s 14)
        (.seq (.region [
          ⟨(some 2), (.mv (.c (.int .u8 2))), none, []⟩,
          ⟨(some 3), (.mv (.c (.int .i64 0))), none, [0, 0]⟩,
          ⟨(some 4), (.mv (.c (.int .i64 1))), none, [1, 0, 1]⟩] false)
        .ret)
        (.seq (.region [
          ⟨(some 2), (.mv (.c (.int .u8 0))), none, []⟩,
          ⟨(some 3), (.mv (.c (.int .i64 0))), none, [0, 0]⟩,
          ⟨(some 4), (.mv (.c (.int .i64 0))), none, [1, 0, 1]⟩] false)
        .ret)))))))))))))), false, (some [(Sh.int .u16)]), (some (Sh.tu (Sh.pr (Sh.int .u8) (Sh.pr (Sh.int .i64) (Sh.int .i64))))), false⟩

/-- slices.ContainsFunc[[]euphroe/api.Attr,euphroe/api.Attr] -/
def k325 : Fun := ⟨2, 9, [0, 1, 4], [(.tmp 4)],
  (.seq (.region [
    ⟨(some 4), (.mv (.c (.bool false))), none, []⟩] false)
  (.seq (.region [
    ⟨(some 5), (.mv (.s 0)), none, []⟩,
    ⟨(some 6), (.mv (.s 1)), none, []⟩,
    ⟨(some 7), (.call (.c (.fn 327 [])) [(.s 5), (.s 6)]), none, [0, 1]⟩,
    ⟨(some 8), (.bin .geq (.s 7) (.c (.int .i64 0))), none, [2]⟩,
    ⟨(some 4), (.mv (.s 8)), none, [3, 2, 0, 1, 2, 3]⟩] false)
  .ret)), false, none, none, false⟩

/-- euphroe/packet.Check$1 -/
def k326 : Fun := ⟨2, 8, [0, 1, 2, 3], [(.tmp 3)],
  (.seq (.region [
    ⟨(some 2), (.box (.s 0)), none, []⟩,
    ⟨(some 3), (.mv (.c (.bool false))), none, []⟩] false)
  (.seq (.region [
    ⟨(some 4), (.fad 0 (.s 2)), none, []⟩,
    ⟨(some 5), (.ldc (.s 4)), none, [0]⟩,
    ⟨(some 6), (.ldc (.s 1)), none, []⟩,
    ⟨(some 7), (.bin .neq (.s 5) (.s 6)), none, [1, 2]⟩,
    ⟨(some 3), (.mv (.s 7)), none, [3, 0, 1, 2, 3]⟩] false)
  .ret)), false, none, none, false⟩

/-- slices.IndexFunc[[]euphroe/api.Attr,euphroe/api.Attr] -/
def k327 : Fun := ⟨2, 19, [0, 1, 4, 5, 7, 8, 9, 16], [(.tmp 4)],
  (.seq (.region [
    ⟨(some 4), (.mv (.c (.int .i64 0))), none, []⟩] false)
  (.seq (.seq (.region [
    ⟨(some 6), (.mv (.s 0)), none, []⟩,
    ⟨(some 7), (.len false (.s 6)), none, [0]⟩,
    ⟨(some 8), (.mv (.c (.int .i64 0))), none, []⟩] false)
  (.block 0
   (.loop ⟨0, [], false, [0, 1, 7, 8], []⟩
    (.seq (.region [
      ⟨(some 9), (.bin .lss (.s 8) (.s 7)), none, []⟩] false)
    (.seq (.cond (.s 9)
     .skip
     (.pre ⟨0, [], false, [], []⟩ (.exit 0)))
    (.seq (.block 1
     (.seq (.region [
       ⟨(some 10), (.mv (.s 8)), none, []⟩,
       ⟨(some 5), (.mv (.s 10)), none, [0, 0]⟩] false)
     (.seq (.region [
       ⟨(some 11), (.mv (.s 1)), none, []⟩,
       ⟨(some 12), (.mv (.s 0)), none, []⟩,
       ⟨(some 13), (.mv (.s 5)), none, []⟩,
       ⟨(some 14), (.iad 2 (.s 12) (.s 13)), none, [1, 2]⟩,
       ⟨(some 15), (.lda 2 none (.s 14)), none, [3]⟩,
       ⟨(some 16), (.call (.s 11) [(.s 15)]), none, [0, 4]⟩] false)
     (.cond (.s 16)
      (.seq (.region [
        ⟨(some 17), (.mv (.s 5)), none, []⟩,
        ⟨(some 4), (.mv (.s 17)), none, [0, 0]⟩] false)
      .ret)
      .skip))))
    (.region [
      ⟨(some 18), (.bin .add (.s 8) (.c (.int .i64 1))), none, []⟩,
      ⟨(some 8), (.mv (.s 18)), none, [0]⟩] false)))))))
  (.seq (.region [
    ⟨(some 4), (.mv (.c (.int .i64 (-1)))), none, []⟩] false)
  .ret))), false, none, none, false⟩

/-- euphroe/euphroelaw18.PacketLays -/
def k328 : Fun := ⟨1, 40, [0, 1, 2, 3, 4, 5, 6, 8], [(.tmp 2)],
  (.seq (.region [
    ⟨(some 1), (.box (.s 0)), none, []⟩,
    ⟨(some 2), (.mv (.c (.bool false))), none, []⟩] false)
  (.seq (.seq (.region [
    ⟨(some 7), (.lda 4 none (.s 1)), none, []⟩,
    ⟨(some 8), (.call (.c (.fn 337 [])) [(.s 7)]), none, [0]⟩] false)
  (.cond (.s 8)
   (.seq (.region [
     ⟨(some 9), (.call (.c (.fn 338 [])) []), none, []⟩,
     ⟨(some 2), (.mv (.s 9)), none, [0, 0, 0]⟩] false)
   .ret)
   .skip))
  (.seq (.region [
    ⟨(some 11), (.lda 4 none (.s 1)), none, []⟩,
    ⟨(some 12), (.call (.c (.fn 339 [])) [(.s 11)]), none, [0]⟩,
    ⟨(some 13), (.call (.c (.fn 317 [])) [(.s 12)]), none, [1, 1]⟩,
    ⟨(some 10), (.mv (.s 13)), none, [2]⟩,
    ⟨(some 14), (.ext (.s 10) 0), none, [3]⟩,
    ⟨(some 15), (.ext (.s 10) 1), none, [3]⟩,
    ⟨(some 3), (.mv (.s 14)), none, [4, 2, 0, 1, 2, 3, 4]⟩,
    ⟨(some 4), (.mv (.s 15)), none, [5, 6, 0, 1, 2, 3, 4, 5, 6]⟩] false)
  (.seq (.region [
    ⟨(some 17), (.lda 4 none (.s 1)), none, []⟩,
    ⟨(some 18), (.call (.c (.fn 319 [])) [(.s 17)]), none, [0]⟩,
    ⟨(some 16), (.mv (.s 18)), none, [1]⟩,
    ⟨(some 19), (.ext (.s 16) 0), none, [2]⟩,
    ⟨(some 20), (.ext (.s 16) 1), none, [2]⟩,
    ⟨(some 5), (.mv (.s 19)), none, [3, 1, 0, 1, 2, 3]⟩,
    ⟨(some 6), (.mv (.s 20)), none, [4, 5, 0, 1, 2, 3, 4, 5]⟩] false)
  (.seq (.region [
    ⟨(some 21), (.mv (.s 3)), none, []⟩,
    ⟨(some 22), (.mv (.s 5)), none, []⟩,
    ⟨(some 23), (.call (.c (.fn 23 [])) [(.s 21), (.s 22)]), none, [0, 1]⟩,
    ⟨(some 24), (.mv (.s 23)), none, [2, 2]⟩,
    ⟨(some 25), (.mv (.s 4)), (some (24, true)), [3]⟩,
    ⟨(some 26), (.mv (.s 6)), (some (24, true)), [3]⟩,
    ⟨(some 27), (.bin .eql (.s 25) (.s 26)), (some (24, true)), [4, 5, 3]⟩,
    ⟨(some 28), (.pick (.s 24) (.s 27) (.c (.bool false))), none, [3, 6]⟩,
    ⟨(some 29), (.mv (.s 28)), none, [7, 3]⟩,
    ⟨(some 30), (.lda 4 none (.s 1)), (some (29, true)), [8]⟩,
    ⟨(some 31), (.call (.c (.fn 339 [])) [(.s 30)]), (some (29, true)), [9, 8, 8]⟩,
    ⟨(some 32), (.call (.c (.fn 323 [])) [(.s 31)]), (some (29, true)), [10, 10, 8]⟩,
    ⟨(some 33), (.lda 4 none (.s 1)), (some (29, true)), [8]⟩,
    ⟨(some 34), (.call (.c (.fn 340 [])) [(.s 33)]), (some (29, true)), [12, 11, 8]⟩,
    ⟨(some 35), (.bin .eql (.s 32) (.s 34)), (some (29, true)), [11, 13, 8]⟩,
    ⟨(some 36), (.pick (.s 29) (.s 35) (.c (.bool false))), none, [8, 14]⟩,
    ⟨(some 37), (.mv (.s 36)), none, [15, 13]⟩,
    ⟨(some 38), (.call (.c (.fn 338 [])) []), (some (37, true)), [16, 16]⟩,
    ⟨(some 39), (.pick (.s 37) (.s 38) (.c (.bool false))), none, [16, 17]⟩,
    ⟨(some 2), (.mv (.s 39)), none, [18, 17, 0, 1, 2, 3, 4, 5, 6, 7, 8, 9, 10, 11, 12, 13, 14, 15, 16, 17, 18]⟩] true)
  .ret))))), false, (some [(Sh.st (Sh.pr Sh.bool (Sh.pr (Sh.int .u16) (Sh.pr (Sh.sl (Sh.pr (Sh.int .u8) (Sh.sl (Sh.int .u8)))) (Sh.sl (Sh.int .u8))))))]), (some Sh.bool), false⟩

/-- euphroe/euphroelaw18.PacketParses -/
def k329 : Fun := ⟨1, 57, [0, 2, 3, 4, 5, 6, 7, 8, 9, 10, 13], [(.tmp 2)],
  (.seq (.region [
    ⟨(some 2), (.mv (.c (.bool false))), none, []⟩] false)
  (.seq (.seq (.region [
    ⟨(some 11), (.mv (.s 0)), none, []⟩,
    ⟨(some 12), (.len false (.s 11)), none, [0]⟩,
    ⟨(some 13), (.bin .gtr (.s 12) (.c (.int .i64 5000))), none, [1]⟩] false)
  (.cond (.s 13)
   (.seq (.region [
     ⟨(some 14), (.call (.c (.fn 338 [])) []), none, []⟩,
     ⟨(some 2), (.mv (.s 14)), none, [0, 0, 0]⟩] false)
   .ret)
   .skip))
  (.seq (.region [
    ⟨(some 16), (.mv (.s 0)), none, []⟩,
    ⟨(some 17), (.call (.c (.fn 341 [])) [(.s 16)]), none, [0]⟩,
    ⟨(some 15), (.mv (.s 17)), none, [1]⟩,
    ⟨(some 18), (.ext (.s 15) 0), none, [2]⟩,
    ⟨(some 19), (.ext (.s 15) 1), none, [2]⟩,
    ⟨(some 3), (.new (.vals [(.bool false), (.int .u16 0), .nils, .nils])), none, []⟩,
    ⟨none, (.stc 4 (.s 3) (.s 18)), none, [5, 3, 1, 0, 1, 2, 3, 5]⟩,
    ⟨(some 4), (.mv (.s 19)), none, [4, 6, 0, 1, 2, 3, 4, 5, 6]⟩] false)
  (.seq (.region [
    ⟨(some 21), (.mv (.s 0)), none, []⟩,
    ⟨(some 22), (.call (.c (.fn 342 [])) [(.s 21)]), none, [0]⟩,
    ⟨(some 20), (.mv (.s 22)), none, [1]⟩,
    ⟨(some 23), (.ext (.s 20) 0), none, [2]⟩,
    ⟨(some 24), (.ext (.s 20) 1), none, [2]⟩,
    ⟨(some 5), (.new (.vals [(.bool false), (.int .u16 0), .nils, .nils])), none, []⟩,
    ⟨none, (.stc 4 (.s 5) (.s 23)), none, [5, 3, 1, 0, 1, 2, 3, 5]⟩,
    ⟨(some 6), (.mv (.s 24)), none, [4, 6, 0, 1, 2, 3, 4, 5, 6]⟩] false)
  (.seq (.region [
    ⟨(some 26), (.mv (.s 0)), none, []⟩,
    ⟨(some 27), (.call (.c (.fn 343 [])) [(.s 26)]), none, [0]⟩,
    ⟨(some 25), (.mv (.s 27)), none, [1]⟩,
    ⟨(some 28), (.ext (.s 25) 0), none, [2]⟩,
    ⟨(some 29), (.ext (.s 25) 1), none, [2]⟩,
    ⟨(some 7), (.mv (.s 28)), none, [3, 1, 0, 1, 2, 3]⟩,
    ⟨(some 8), (.mv (.s 29)), none, [4, 5, 0, 1, 2, 3, 4, 5]⟩] false)
  (.seq (.region [
    ⟨(some 31), (.mv (.s 0)), none, []⟩,
    ⟨(some 32), (.call (.c (.fn 344 [])) [(.s 31)]), none, [0]⟩,
    ⟨(some 30), (.mv (.s 32)), none, [1]⟩,
    ⟨(some 33), (.ext (.s 30) 0), none, [2]⟩,
    ⟨(some 34), (.ext (.s 30) 1), none, [2]⟩,
    ⟨(some 9), (.mv (.s 33)), none, [3, 1, 0, 1, 2, 3]⟩,
    ⟨(some 10), (.mv (.s 34)), none, [4, 5, 0, 1, 2, 3, 4, 5]⟩] false)
  (.seq (.region [
    ⟨(some 35), (.lda 4 none (.s 3)), none, []⟩,
    ⟨(some 36), (.lda 4 none (.s 5)), none, []⟩,
    ⟨(some 37), (.call (.c (.fn 339 [])) [(.s 36)]), none, [1]⟩,
    ⟨(some 38), (.call (.c (.fn 302 [])) [(.s 35), (.s 37)]), none, [0, 2, 2]⟩,
    ⟨(some 39), (.mv (.s 38)), none, [3, 3]⟩,
    ⟨(some 40), (.mv (.s 4)), (some (39, true)), [4]⟩,
    ⟨(some 41), (.mv (.s 6)), (some (39, true)), [4]⟩,
    ⟨(some 42), (.bin .eql (.s 40) (.s 41)), (some (39, true)), [5, 6, 4]⟩,
    ⟨(some 43), (.pick (.s 39) (.s 42) (.c (.bool false))), none, [4, 7]⟩,
    ⟨(some 44), (.mv (.s 43)), none, [8, 4]⟩,
    ⟨(some 45), (.mv (.s 7)), (some (44, true)), [9]⟩,
    ⟨(some 46), (.mv (.s 9)), (some (44, true)), [9]⟩,
    ⟨(some 47), (.bin .eql (.s 45) (.s 46)), (some (44, true)), [10, 11, 9]⟩,
    ⟨(some 48), (.pick (.s 44) (.s 47) (.c (.bool false))), none, [9, 12]⟩,
    ⟨(some 49), (.mv (.s 48)), none, [13, 9]⟩,
    ⟨(some 50), (.mv (.s 8)), (some (49, true)), [14]⟩,
    ⟨(some 51), (.mv (.s 10)), (some (49, true)), [14]⟩,
    ⟨(some 52), (.bin .eql (.s 50) (.s 51)), (some (49, true)), [15, 16, 14]⟩,
    ⟨(some 53), (.pick (.s 49) (.s 52) (.c (.bool false))), none, [14, 17]⟩,
    ⟨(some 54), (.mv (.s 53)), none, [18, 14]⟩,
    ⟨(some 55), (.call (.c (.fn 338 [])) []), (some (54, true)), [19, 19]⟩,
    ⟨(some 56), (.pick (.s 54) (.s 55) (.c (.bool false))), none, [19, 20]⟩,
    ⟨(some 2), (.mv (.s 56)), none, [21, 20, 0, 1, 2, 3, 4, 5, 6, 7, 8, 9, 10, 11, 12, 13, 14, 15, 16, 17, 18, 19, 20, 21]⟩] true)
  .ret))))))), false, (some [(Sh.sl (Sh.int .u8))]), (some Sh.bool), false⟩

/-- euphroe/euphroelaw18.PacketBack -/
def k330 : Fun := ⟨3, 93, [0, 1, 2, 3, 4, 6, 7, 8, 9, 10, 11, 12, 13, 14, 15, 26, 36, 40, 51, 64, 71], [(.tmp 6)],
  (.seq (.region [
    ⟨(some 3), (.box (.s 0)), none, []⟩,
    ⟨(some 4), (.box (.s 1)), none, []⟩,
    ⟨(some 6), (.mv (.c (.bool false))), none, []⟩] false)
  (.seq (.seq (.region [
    ⟨(some 16), (.lda 4 none (.s 3)), none, []⟩,
    ⟨(some 17), (.call (.c (.fn 337 [])) [(.s 16)]), none, [0]⟩,
    ⟨(some 18), (.mv (.s 17)), none, [1, 1]⟩,
    ⟨(some 19), (.lda 4 none (.s 4)), (some (18, false)), [2]⟩,
    ⟨(some 20), (.call (.c (.fn 337 [])) [(.s 19)]), (some (18, false)), [3, 2, 2]⟩,
    ⟨(some 21), (.pick (.s 18) (.c (.bool true)) (.s 20)), none, [2, 4]⟩,
    ⟨(some 22), (.mv (.s 21)), none, [5, 4]⟩,
    ⟨(some 23), (.mv (.s 2)), (some (22, false)), [6]⟩,
    ⟨(some 24), (.len false (.s 23)), (some (22, false)), [7, 6]⟩,
    ⟨(some 25), (.bin .gtr (.s 24) (.c (.int .i64 5000))), (some (22, false)), [8, 6]⟩,
    ⟨(some 26), (.pick (.s 22) (.c (.bool true)) (.s 25)), none, [6, 9]⟩] false)
  (.cond (.s 26)
   (.seq (.region [
     ⟨(some 27), (.call (.c (.fn 338 [])) []), none, []⟩,
     ⟨(some 6), (.mv (.s 27)), none, [0, 0, 0]⟩] false)
   .ret)
   .skip))
  (.seq (.seq (.region [
    ⟨(some 28), (.lda 4 none (.s 3)), none, []⟩,
    ⟨(some 29), (.call (.c (.fn 339 [])) [(.s 28)]), none, [0]⟩,
    ⟨(some 30), (.lda 4 none (.s 4)), none, []⟩,
    ⟨(some 31), (.call (.c (.fn 339 [])) [(.s 30)]), none, [2, 1]⟩,
    ⟨(some 32), (.call (.c (.fn 302 [])) [(.s 29), (.s 31)]), none, [1, 3, 3]⟩,
    ⟨(some 33), (.lda 4 none (.s 3)), none, []⟩,
    ⟨(some 34), (.lda 4 none (.s 4)), none, []⟩,
    ⟨(some 35), (.call (.c (.fn 345 [])) [(.s 33), (.s 34)]), none, [5, 6, 4]⟩,
    ⟨(some 36), (.eqn .b true (.s 32) (.s 35)), none, [4, 7]⟩] true)
  (.cond (.s 36)
   (.seq (.region [
     ⟨(some 6), (.mv (.c (.bool false))), none, []⟩] false)
   .ret)
   .skip))
  (.seq (.region [
    ⟨(some 37), (.lda 4 none (.s 3)), none, []⟩,
    ⟨(some 38), (.call (.c (.fn 339 [])) [(.s 37)]), none, [0]⟩,
    ⟨(some 7), (.new (.vals [(.bool false), (.int .u16 0), .nils, .nils])), none, []⟩,
    ⟨none, (.stc 4 (.s 7) (.s 38)), none, [2, 1, 1, 0, 1, 2]⟩] false)
  (.seq (.seq (.region [
    ⟨(some 39), (.fad 0 (.s 3)), none, []⟩,
    ⟨(some 40), (.ldc (.s 39)), none, [0]⟩] false)
  (.cond (.s 40)
   (.region [
     ⟨(some 41), (.fad 3 (.s 7)), none, []⟩,
     ⟨none, (.stc 1 (.s 41) (.c .nils)), none, [0]⟩] false)
   (.region [
     ⟨(some 42), (.fad 1 (.s 7)), none, []⟩,
     ⟨none, (.stc 1 (.s 42) (.c (.int .u16 0))), none, [0]⟩,
     ⟨(some 43), (.fad 2 (.s 7)), none, [0, 1]⟩,
     ⟨none, (.stc 1 (.s 43) (.c .nils)), none, [2, 1, 0, 1]⟩] false)))
  (.seq (.region [
    ⟨(some 45), (.lda 4 none (.s 3)), none, []⟩,
    ⟨(some 46), (.call (.c (.fn 339 [])) [(.s 45)]), none, [0]⟩,
    ⟨(some 47), (.call (.c (.fn 317 [])) [(.s 46)]), none, [1, 1]⟩,
    ⟨(some 44), (.mv (.s 47)), none, [2]⟩,
    ⟨(some 48), (.ext (.s 44) 0), none, [3]⟩,
    ⟨(some 49), (.ext (.s 44) 1), none, [3]⟩,
    ⟨(some 8), (.mv (.s 48)), none, [4, 2, 0, 1, 2, 3, 4]⟩,
    ⟨(some 9), (.mv (.s 49)), none, [5, 6, 0, 1, 2, 3, 4, 5, 6]⟩] false)
  (.seq (.seq (.region [
    ⟨(some 50), (.mv (.s 9)), none, []⟩,
    ⟨(some 51), (.bin .eql (.s 50) (.c (.int .i64 0))), none, [0]⟩] false)
  (.cond (.s 51)
   (.seq (.region [
     ⟨(some 53), (.mv (.s 8)), none, []⟩,
     ⟨(some 54), (.call (.c (.fn 341 [])) [(.s 53)]), none, [0]⟩,
     ⟨(some 52), (.mv (.s 54)), none, [1]⟩,
     ⟨(some 55), (.ext (.s 52) 0), none, [2]⟩,
     ⟨(some 56), (.ext (.s 52) 1), none, [2]⟩,
     ⟨(some 10), (.new (.vals [(.bool false), (.int .u16 0), .nils, .nils])), none, []⟩,
     ⟨none, (.stc 4 (.s 10) (.s 55)), none, [5, 3, 1, 0, 1, 2, 3, 5]⟩,
     ⟨(some 11), (.mv (.s 56)), none, [4, 6, 0, 1, 2, 3, 4, 5, 6]⟩] false)
   (.seq (.region [
     ⟨(some 57), (.lda 4 none (.s 10)), none, []⟩,
     ⟨(some 58), (.lda 4 none (.s 7)), none, []⟩,
     ⟨(some 59), (.call (.c (.fn 302 [])) [(.s 57), (.s 58)]), none, [0, 1]⟩,
     ⟨(some 60), (.un .not (.s 59)), none, [2]⟩,
     ⟨(some 61), (.mv (.s 60)), none, [3, 2]⟩,
     ⟨(some 62), (.mv (.s 11)), (some (61, false)), [4]⟩,
     ⟨(some 63), (.bin .neq (.s 62) (.c (.int .i64 0))), (some (61, false)), [5, 4]⟩,
     ⟨(some 64), (.pick (.s 61) (.c (.bool true)) (.s 63)), none, [4, 6]⟩] false)
   (.cond (.s 64)
    (.seq (.region [
      ⟨(some 6), (.mv (.c (.bool false))), none, []⟩] false)
    .ret)
    .skip)))
   .skip))
  (.seq (.region [
    ⟨(some 66), (.mv (.s 2)), none, []⟩,
    ⟨(some 67), (.call (.c (.fn 341 [])) [(.s 66)]), none, [0]⟩,
    ⟨(some 65), (.mv (.s 67)), none, [1]⟩,
    ⟨(some 68), (.ext (.s 65) 0), none, [2]⟩,
    ⟨(some 69), (.ext (.s 65) 1), none, [2]⟩,
    ⟨(some 12), (.new (.vals [(.bool false), (.int .u16 0), .nils, .nils])), none, []⟩,
    ⟨none, (.stc 4 (.s 12) (.s 68)), none, [5, 3, 1, 0, 1, 2, 3, 5]⟩,
    ⟨(some 13), (.mv (.s 69)), none, [4, 6, 0, 1, 2, 3, 4, 5, 6]⟩] false)
  (.seq (.seq (.region [
    ⟨(some 70), (.mv (.s 13)), none, []⟩,
    ⟨(some 71), (.bin .neq (.s 70) (.c (.int .i64 0))), none, [0]⟩] false)
  (.cond (.s 71)
   (.seq (.region [
     ⟨(some 72), (.lda 4 none (.s 12)), none, []⟩,
     ⟨(some 73), (.build (.vals [(.bool false), (.int .u16 0), .nils, .nils]) []), none, []⟩,
     ⟨(some 74), (.call (.c (.fn 302 [])) [(.s 72), (.s 73)]), none, [0, 1]⟩,
     ⟨(some 75), (.mv (.s 74)), none, [2, 2]⟩,
     ⟨(some 76), (.call (.c (.fn 338 [])) []), (some (75, true)), [3, 3]⟩,
     ⟨(some 77), (.pick (.s 75) (.s 76) (.c (.bool false))), none, [3, 4]⟩,
     ⟨(some 6), (.mv (.s 77)), none, [5, 4, 0, 1, 2, 3, 4, 5]⟩] false)
   .ret)
   .skip))
  (.seq (.region [
    ⟨(some 79), (.lda 4 none (.s 12)), none, []⟩,
    ⟨(some 80), (.call (.c (.fn 317 [])) [(.s 79)]), none, [0]⟩,
    ⟨(some 78), (.mv (.s 80)), none, [1]⟩,
    ⟨(some 81), (.ext (.s 78) 0), none, [2]⟩,
    ⟨(some 82), (.ext (.s 78) 1), none, [2]⟩,
    ⟨(some 14), (.mv (.s 81)), none, [3, 1, 0, 1, 2, 3]⟩,
    ⟨(some 15), (.mv (.s 82)), none, [4, 5, 0, 1, 2, 3, 4, 5]⟩] false)
  (.seq (.region [
    ⟨(some 83), (.mv (.s 15)), none, []⟩,
    ⟨(some 84), (.bin .eql (.s 83) (.c (.int .i64 0))), none, [0]⟩,
    ⟨(some 85), (.mv (.s 84)), none, [1]⟩,
    ⟨(some 86), (.mv (.s 14)), (some (85, true)), [2]⟩,
    ⟨(some 87), (.mv (.s 2)), (some (85, true)), [2]⟩,
    ⟨(some 88), (.call (.c (.fn 23 [])) [(.s 86), (.s 87)]), (some (85, true)), [3, 4, 2, 2]⟩,
    ⟨(some 89), (.pick (.s 85) (.s 88) (.c (.bool false))), none, [2, 5]⟩,
    ⟨(some 90), (.mv (.s 89)), none, [6, 5]⟩,
    ⟨(some 91), (.call (.c (.fn 338 [])) []), (some (90, true)), [7, 7]⟩,
    ⟨(some 92), (.pick (.s 90) (.s 91) (.c (.bool false))), none, [7, 8]⟩,
    ⟨(some 6), (.mv (.s 92)), none, [9, 8, 0, 1, 2, 3, 4, 5, 6, 7, 8, 9]⟩] false)
  .ret))))))))))), false, (some [(Sh.st (Sh.pr Sh.bool (Sh.pr (Sh.int .u16) (Sh.pr (Sh.sl (Sh.pr (Sh.int .u8) (Sh.sl (Sh.int .u8)))) (Sh.sl (Sh.int .u8)))))), (Sh.st (Sh.pr Sh.bool (Sh.pr (Sh.int .u16) (Sh.pr (Sh.sl (Sh.pr (Sh.int .u8) (Sh.sl (Sh.int .u8)))) (Sh.sl (Sh.int .u8)))))), (Sh.sl (Sh.int .u8))]), (some Sh.bool), false⟩

/-- euphroe/euphroelaw18.PacketMakes -/
def k331 : Fun := ⟨2, 50, [0, 1, 3, 4, 5, 6, 7, 9], [(.tmp 4)],
  (.seq (.region [
    ⟨(some 3), (.box (.s 1)), none, []⟩,
    ⟨(some 4), (.mv (.c (.bool false))), none, []⟩] false)
  (.seq (.seq (.region [
    ⟨(some 8), (.lda 4 none (.s 3)), none, []⟩,
    ⟨(some 9), (.call (.c (.fn 337 [])) [(.s 8)]), none, [0]⟩] false)
  (.cond (.s 9)
   (.seq (.region [
     ⟨(some 10), (.call (.c (.fn 338 [])) []), none, []⟩,
     ⟨(some 4), (.mv (.s 10)), none, [0, 0, 0]⟩] false)
   .ret)
   .skip))
  (.seq (.region [
    ⟨(some 11), (.lda 4 none (.s 3)), none, []⟩,
    ⟨(some 12), (.call (.c (.fn 339 [])) [(.s 11)]), none, [0]⟩,
    ⟨(some 13), (.fld 2 1 false none (.s 12)), none, [1]⟩,
    ⟨(some 5), (.mv (.s 13)), none, [2, 1, 0, 1, 2]⟩] false)
  (.seq (.region [
    ⟨(some 14), (.mv (.s 0)), none, []⟩,
    ⟨(some 15), (.mv (.s 5)), none, []⟩,
    ⟨(some 16), (.call (.c (.fn 316 [])) [(.s 14), (.s 15)]), none, [0, 1]⟩,
    ⟨(some 6), (.new (.vals [(.bool false), (.int .u16 0), .nils, .nils])), none, []⟩,
    ⟨none, (.stc 4 (.s 6) (.s 16)), none, [3, 2, 2, 0, 1, 2, 3]⟩] false)
  (.seq (.region [
    ⟨(some 17), (.fad 3 (.s 3)), none, []⟩,
    ⟨(some 18), (.ldc (.s 17)), none, [0]⟩,
    ⟨(some 19), (.call (.c (.fn 346 [])) [(.s 18)]), none, [1]⟩,
    ⟨(some 7), (.new (.vals [(.bool false), (.int .u16 0), .nils, .nils])), none, []⟩,
    ⟨none, (.stc 4 (.s 7) (.s 19)), none, [3, 2, 2, 0, 1, 2, 3]⟩] false)
  (.seq (.region [
    ⟨(some 20), (.lda 4 none (.s 6)), none, []⟩,
    ⟨(some 21), (.mv (.s 0)), none, []⟩,
    ⟨(some 22), (.mv (.s 5)), none, []⟩,
    ⟨(some 23), (.build (.vals [(.bool false), (.int .u16 0), .nils, .nils]) [(0, 1, (.c (.bool true))), (1, 1, (.s 21)), (2, 1, (.s 22))]), none, [1, 2]⟩,
    ⟨(some 24), (.call (.c (.fn 302 [])) [(.s 20), (.s 23)]), none, [0, 3]⟩,
    ⟨(some 25), (.mv (.s 24)), none, [4, 4]⟩,
    ⟨(some 26), (.lda 4 none (.s 7)), (some (25, true)), [5]⟩,
    ⟨(some 27), (.fad 3 (.s 3)), (some (25, true)), [5]⟩,
    ⟨(some 28), (.ldc (.s 27)), (some (25, true)), [7, 5]⟩,
    ⟨(some 29), (.build (.vals [(.bool false), (.int .u16 0), .nils, .nils]) [(3, 1, (.s 28))]), (some (25, true)), [8, 5]⟩,
    ⟨(some 30), (.call (.c (.fn 302 [])) [(.s 26), (.s 29)]), (some (25, true)), [6, 9, 5, 5]⟩,
    ⟨(some 31), (.pick (.s 25) (.s 30) (.c (.bool false))), none, [5, 10]⟩,
    ⟨(some 32), (.mv (.s 31)), none, [11, 10]⟩,
    ⟨(some 33), (.lda 4 none (.s 6)), (some (32, true)), [12]⟩,
    ⟨(some 34), (.call (.c (.fn 323 [])) [(.s 33)]), (some (32, true)), [13, 12, 12]⟩,
    ⟨(some 35), (.mv (.s 0)), (some (32, true)), [12]⟩,
    ⟨(some 36), (.fad 2 (.s 3)), (some (32, true)), [12]⟩,
    ⟨(some 37), (.ldc (.s 36)), (some (32, true)), [16, 12]⟩,
    ⟨(some 38), (.build (.vals [(.bool false), (.int .u16 0), .nils, .nils]) [(0, 1, (.c (.bool true))), (1, 1, (.s 35)), (2, 1, (.s 37))]), (some (32, true)), [15, 17, 12]⟩,
    ⟨(some 39), (.call (.c (.fn 340 [])) [(.s 38)]), (some (32, true)), [18, 14, 12]⟩,
    ⟨(some 40), (.bin .eql (.s 34) (.s 39)), (some (32, true)), [14, 19, 12]⟩,
    ⟨(some 41), (.pick (.s 32) (.s 40) (.c (.bool false))), none, [12, 20]⟩,
    ⟨(some 42), (.mv (.s 41)), none, [21, 19]⟩,
    ⟨(some 43), (.lda 4 none (.s 7)), (some (42, true)), [22]⟩,
    ⟨(some 44), (.call (.c (.fn 323 [])) [(.s 43)]), (some (42, true)), [23, 22, 22]⟩,
    ⟨(some 45), (.bin .eql (.s 44) (.c (.int .i64 0))), (some (42, true)), [24, 22]⟩,
    ⟨(some 46), (.pick (.s 42) (.s 45) (.c (.bool false))), none, [22, 25]⟩,
    ⟨(some 47), (.mv (.s 46)), none, [26, 24]⟩,
    ⟨(some 48), (.call (.c (.fn 338 [])) []), (some (47, true)), [27, 27]⟩,
    ⟨(some 49), (.pick (.s 47) (.s 48) (.c (.bool false))), none, [27, 28]⟩,
    ⟨(some 4), (.mv (.s 49)), none, [29, 28, 0, 1, 2, 3, 4, 5, 6, 7, 8, 9, 10, 11, 12, 13, 14, 15, 16, 17, 18, 19, 20, 21, 22, 23, 24, 25, 26, 27, 28, 29]⟩] true)
  .ret)))))), false, (some [(Sh.int .u16), (Sh.st (Sh.pr Sh.bool (Sh.pr (Sh.int .u16) (Sh.pr (Sh.sl (Sh.pr (Sh.int .u8) (Sh.sl (Sh.int .u8)))) (Sh.sl (Sh.int .u8))))))]), (some Sh.bool), false⟩

/-- euphroe/euphroelaw18.PacketLength -/
def k332 : Fun := ⟨2, 88, [0, 1, 2, 4, 5, 6, 7, 8, 9, 11, 13, 27], [(.tmp 4)],
  (.seq (.region [
    ⟨(some 2), (.box (.s 0)), none, []⟩,
    ⟨(some 4), (.mv (.c (.bool false))), none, []⟩] false)
  (.seq (.seq (.region [
    ⟨(some 12), (.lda 4 none (.s 2)), none, []⟩,
    ⟨(some 13), (.call (.c (.fn 337 [])) [(.s 12)]), none, [0]⟩] false)
  (.cond (.s 13)
   (.seq (.region [
     ⟨(some 14), (.call (.c (.fn 338 [])) []), none, []⟩,
     ⟨(some 4), (.mv (.s 14)), none, [0, 0, 0]⟩] false)
   .ret)
   .skip))
  (.seq (.region [
    ⟨(some 16), (.lda 4 none (.s 2)), none, []⟩,
    ⟨(some 17), (.call (.c (.fn 339 [])) [(.s 16)]), none, [0]⟩,
    ⟨(some 18), (.call (.c (.fn 317 [])) [(.s 17)]), none, [1, 1]⟩,
    ⟨(some 15), (.mv (.s 18)), none, [2]⟩,
    ⟨(some 19), (.ext (.s 15) 0), none, [3]⟩,
    ⟨(some 20), (.ext (.s 15) 1), none, [3]⟩,
    ⟨(some 5), (.mv (.s 19)), none, [4, 2, 0, 1, 2, 3, 4]⟩,
    ⟨(some 6), (.mv (.s 20)), none, [5, 6, 0, 1, 2, 3, 4, 5, 6]⟩] false)
  (.seq (.seq (.region [
    ⟨(some 21), (.mv (.s 6)), none, []⟩,
    ⟨(some 22), (.bin .neq (.s 21) (.c (.int .i64 0))), none, [0]⟩,
    ⟨(some 23), (.mv (.s 22)), none, [1]⟩,
    ⟨(some 24), (.mv (.s 5)), (some (23, false)), [2]⟩,
    ⟨(some 25), (.len false (.s 24)), (some (23, false)), [3, 2]⟩,
    ⟨(some 26), (.bin .eql (.s 25) (.c (.int .i64 0))), (some (23, false)), [4, 2]⟩,
    ⟨(some 27), (.pick (.s 23) (.c (.bool true)) (.s 26)), none, [2, 5]⟩] false)
  (.cond (.s 27)
   (.seq (.region [
     ⟨(some 28), (.mv (.s 6)), none, []⟩,
     ⟨(some 29), (.bin .neq (.s 28) (.c (.int .i64 0))), none, [0]⟩,
     ⟨(some 30), (.mv (.s 29)), none, [1]⟩,
     ⟨(some 31), (.mv (.s 5)), (some (30, true)), [2]⟩,
     ⟨(some 32), (.len false (.s 31)), (some (30, true)), [3, 2]⟩,
     ⟨(some 33), (.bin .eql (.s 32) (.c (.int .i64 0))), (some (30, true)), [4, 2]⟩,
     ⟨(some 34), (.pick (.s 30) (.s 33) (.c (.bool false))), none, [2, 5]⟩,
     ⟨(some 35), (.mv (.s 34)), none, [6, 2]⟩,
     ⟨(some 36), (.call (.c (.fn 338 [])) []), (some (35, true)), [7, 7]⟩,
     ⟨(some 37), (.pick (.s 35) (.s 36) (.c (.bool false))), none, [7, 8]⟩,
     ⟨(some 4), (.mv (.s 37)), none, [9, 8, 0, 1, 2, 3, 4, 5, 6, 7, 8, 9]⟩] false)
   .ret)
   .skip))
  (.seq (.region [
    ⟨(some 38), (.mv (.s 1)), none, []⟩,
    ⟨(some 39), (.cvi .i64 (.s 38)), none, [0]⟩,
    ⟨(some 40), (.mv (.s 5)), none, []⟩,
    ⟨(some 41), (.len false (.s 40)), none, [2]⟩,
    ⟨(some 42), (.bin .rem (.s 39) (.s 41)), none, [1, 3]⟩,
    ⟨(some 7), (.mv (.s 42)), none, [4, 0, 1, 2, 3, 4]⟩] false)
  (.seq (.region [
    ⟨(some 44), (.mv (.s 5)), none, []⟩,
    ⟨(some 45), (.mv (.s 7)), none, []⟩,
    ⟨(some 46), (.sls 1 (.s 44) none (some (.s 45)) none), none, [0, 1]⟩,
    ⟨(some 47), (.call (.c (.fn 343 [])) [(.s 46)]), none, [2]⟩,
    ⟨(some 43), (.mv (.s 47)), none, [3]⟩,
    ⟨(some 48), (.ext (.s 43) 0), none, [4]⟩,
    ⟨(some 49), (.ext (.s 43) 1), none, [4]⟩,
    ⟨(some 8), (.mv (.s 48)), none, [5, 3, 0, 1, 2, 3, 4, 5]⟩,
    ⟨(some 9), (.mv (.s 49)), none, [6, 7, 0, 1, 2, 3, 4, 5, 6, 7]⟩] false)
  (.seq (.region [
    ⟨(some 51), (.mv (.s 5)), none, []⟩,
    ⟨(some 52), (.mv (.s 7)), none, []⟩,
    ⟨(some 53), (.sls 1 (.s 51) none (some (.s 52)) none), none, [0, 1]⟩,
    ⟨(some 54), (.call (.c (.fn 341 [])) [(.s 53)]), none, [2]⟩,
    ⟨(some 50), (.mv (.s 54)), none, [3]⟩,
    ⟨(some 55), (.ext (.s 50) 0), none, [4]⟩,
    ⟨(some 56), (.ext (.s 50) 1), none, [4]⟩,
    ⟨(some 10), (.new (.vals [(.bool false), (.int .u16 0), .nils, .nils])), none, []⟩,
    ⟨none, (.stc 4 (.s 10) (.s 55)), none, [7, 5, 3, 0, 1, 2, 3, 4, 5, 7]⟩,
    ⟨(some 11), (.mv (.s 56)), none, [6, 8, 0, 1, 2, 3, 4, 5, 6, 7, 8]⟩] false)
  (.seq (.region [
    ⟨(some 57), (.mv (.s 7)), none, []⟩,
    ⟨(some 58), (.bin .lss (.s 57) (.c (.int .i64 4))), none, [0]⟩,
    ⟨(some 59), (.mv (.s 9)), none, []⟩,
    ⟨(some 60), (.bin .eql (.s 59) (.c (.int .i64 4))), none, [2]⟩,
    ⟨(some 61), (.eqn .b false (.s 58) (.s 60)), none, [1, 3]⟩,
    ⟨(some 62), (.mv (.s 61)), none, [4]⟩,
    ⟨(some 63), (.mv (.s 7)), (some (62, true)), [5]⟩,
    ⟨(some 64), (.bin .lss (.s 63) (.c (.int .i64 4))), (some (62, true)), [6, 5]⟩,
    ⟨(some 65), (.mv (.s 64)), (some (62, true)), [7, 5, 5]⟩,
    ⟨(some 66), (.mv (.s 8)), (some (65, false)), [8]⟩,
    ⟨(some 67), (.mv (.s 5)), (some (65, false)), [8]⟩,
    ⟨(some 68), (.len false (.s 67)), (some (65, false)), [10, 8]⟩,
    ⟨(some 69), (.bin .eql (.s 66) (.s 68)), (some (65, false)), [9, 11, 8]⟩,
    ⟨(some 70), (.mv (.s 69)), (some (65, false)), [12, 8, 8]⟩,
    ⟨(some 71), (.mv (.s 9)), (some (70, true)), [13]⟩,
    ⟨(some 72), (.bin .eql (.s 71) (.c (.int .i64 0))), (some (70, true)), [14, 13]⟩,
    ⟨(some 73), (.pick (.s 70) (.s 72) (.c (.bool false))), (some (65, false)), [13, 15, 8]⟩,
    ⟨(some 74), (.pick (.s 65) (.c (.bool true)) (.s 73)), (some (62, true)), [8, 16, 5]⟩,
    ⟨(some 75), (.pick (.s 62) (.s 74) (.c (.bool false))), none, [5, 17]⟩,
    ⟨(some 76), (.mv (.s 75)), none, [18, 13]⟩,
    ⟨(some 77), (.mv (.s 11)), (some (76, true)), [19]⟩,
    ⟨(some 78), (.bin .eql (.s 77) (.c (.int .i64 4))), (some (76, true)), [20, 19]⟩,
    ⟨(some 79), (.pick (.s 76) (.s 78) (.c (.bool false))), none, [19, 21]⟩,
    ⟨(some 80), (.mv (.s 79)), none, [22, 19]⟩,
    ⟨(some 81), (.mv (.s 5)), (some (80, true)), [23]⟩,
    ⟨(some 82), (.len false (.s 81)), (some (80, true)), [24, 23]⟩,
    ⟨(some 83), (.bin .leq (.s 82) (.c (.int .i64 4095))), (some (80, true)), [25, 23]⟩,
    ⟨(some 84), (.pick (.s 80) (.s 83) (.c (.bool false))), none, [23, 26]⟩,
    ⟨(some 85), (.mv (.s 84)), none, [27, 23]⟩,
    ⟨(some 86), (.call (.c (.fn 338 [])) []), (some (85, true)), [28, 28]⟩,
    ⟨(some 87), (.pick (.s 85) (.s 86) (.c (.bool false))), none, [28, 29]⟩,
    ⟨(some 4), (.mv (.s 87)), none, [30, 29, 0, 1, 2, 3, 4, 5, 6, 7, 8, 9, 10, 11, 12, 13, 14, 15, 16, 17, 18, 19, 20, 21, 22, 23, 24, 25, 26, 27, 28, 29, 30]⟩] false)
  .ret)))))))), false, (some [(Sh.st (Sh.pr Sh.bool (Sh.pr (Sh.int .u16) (Sh.pr (Sh.sl (Sh.pr (Sh.int .u8) (Sh.sl (Sh.int .u8)))) (Sh.sl (Sh.int .u8)))))), (Sh.int .u16)]), (some Sh.bool), false⟩

/-- euphroe/euphroelaw18.far -/
def k337 : Fun := ⟨1, 32, [0, 1, 2, 4, 11, 12, 13, 14, 20], [(.tmp 2)],
  (.seq (.region [
    ⟨(some 1), (.box (.s 0)), none, []⟩,
    ⟨(some 2), (.mv (.c (.bool false))), none, []⟩] false)
  (.seq (.seq (.region [
    ⟨(some 5), (.fad 2 (.s 1)), none, []⟩,
    ⟨(some 6), (.ldc (.s 5)), none, [0]⟩,
    ⟨(some 7), (.fad 2 (.s 1)), none, []⟩,
    ⟨(some 8), (.ldc (.s 7)), none, [2]⟩,
    ⟨(some 9), (.len false (.s 8)), none, [3]⟩,
    ⟨(some 10), (.mnx false [(.s 9), (.c (.int .i64 12))]), none, [4]⟩,
    ⟨(some 11), (.sls 2 (.s 6) none (some (.s 10)) none), none, [1, 5]⟩,
    ⟨(some 12), (.len false (.s 11)), none, [6]⟩,
    ⟨(some 13), (.mv (.c (.int .i64 0))), none, []⟩] false)
  (.block 0
   (.loop ⟨0, [], false, [1, 11, 12, 13], []⟩
    (.seq (.region [
      ⟨(some 14), (.bin .lss (.s 13) (.s 12)), none, []⟩] false)
    (.seq (.cond (.s 14)
     .skip
     (.pre ⟨0, [], false, [1], []⟩ (.exit 0)))
    (.seq (.block 1
     (.seq (.region [
       ⟨(some 15), (.iad 2 (.s 11) (.s 13)), none, []⟩,
       ⟨(some 16), (.lda 2 none (.s 15)), none, [0]⟩,
       ⟨(some 4), (.new (.vals [(.int .u8 0), .nils])), none, []⟩,
       ⟨none, (.stc 2 (.s 4) (.s 16)), none, [2, 1, 0, 1, 2]⟩] false)
     (.seq (.region [
       ⟨(some 17), (.fad 1 (.s 4)), none, []⟩,
       ⟨(some 18), (.ldc (.s 17)), none, [0]⟩,
       ⟨(some 19), (.len false (.s 18)), none, [1]⟩,
       ⟨(some 20), (.bin .gtr (.s 19) (.c (.int .i64 4200))), none, [2]⟩] false)
     (.cond (.s 20)
      (.seq (.region [
        ⟨(some 2), (.mv (.c (.bool true))), none, []⟩] false)
      .ret)
      .skip))))
    (.region [
      ⟨(some 21), (.bin .add (.s 13) (.c (.int .i64 1))), none, []⟩,
      ⟨(some 13), (.mv (.s 21)), none, [0]⟩] false)))))))
  (.seq (.region [
    ⟨(some 22), (.fad 2 (.s 1)), none, []⟩,
    ⟨(some 23), (.ldc (.s 22)), none, [0]⟩,
    ⟨(some 24), (.len false (.s 23)), none, [1]⟩,
    ⟨(some 25), (.bin .gtr (.s 24) (.c (.int .i64 12))), none, [2]⟩,
    ⟨(some 26), (.mv (.s 25)), none, [3]⟩,
    ⟨(some 27), (.fad 3 (.s 1)), (some (26, false)), [4]⟩,
    ⟨(some 28), (.ldc (.s 27)), (some (26, false)), [5, 4]⟩,
    ⟨(some 29), (.len false (.s 28)), (some (26, false)), [6, 4]⟩,
    ⟨(some 30), (.bin .gtr (.s 29) (.c (.int .i64 5000))), (some (26, false)), [7, 4]⟩,
    ⟨(some 31), (.pick (.s 26) (.c (.bool true)) (.s 30)), none, [4, 8]⟩,
    ⟨(some 2), (.mv (.s 31)), none, [9, 4, 0, 1, 2, 3, 4, 5, 6, 7, 8, 9]⟩] false)
  .ret))), false, (some [(Sh.st (Sh.pr Sh.bool (Sh.pr (Sh.int .u16) (Sh.pr (Sh.sl (Sh.pr (Sh.int .u8) (Sh.sl (Sh.int .u8)))) (Sh.sl (Sh.int .u8))))))]), (some Sh.bool), false⟩

/-- euphroe/euphroelaw18.alive -/
def k338 : Fun := ⟨0, 71, [0, 1, 2, 3, 4, 5, 6, 7, 8, 9], [(.tmp 0)],
  (.seq (.region [
    ⟨(some 0), (.mv (.c (.bool false))), none, []⟩] false)
  (.seq (.region [
    ⟨(some 10), (.call (.c (.fn 316 [])) [(.c (.int .u16 8)), (.c .nils)]), none, []⟩,
    ⟨(some 1), (.new (.vals [(.bool false), (.int .u16 0), .nils, .nils])), none, []⟩,
    ⟨none, (.stc 4 (.s 1) (.s 10)), none, [1, 0, 0, 0, 1]⟩] false)
  (.seq (.region [
    ⟨(some 12), (.lda 4 none (.s 1)), none, []⟩,
    ⟨(some 13), (.call (.c (.fn 317 [])) [(.s 12)]), none, [0]⟩,
    ⟨(some 11), (.mv (.s 13)), none, [1]⟩,
    ⟨(some 14), (.ext (.s 11) 0), none, [2]⟩,
    ⟨(some 15), (.ext (.s 11) 1), none, [2]⟩,
    ⟨(some 2), (.mv (.s 14)), none, [3, 1, 0, 1, 2, 3]⟩,
    ⟨(some 3), (.mv (.s 15)), none, [4, 5, 0, 1, 2, 3, 4, 5]⟩] false)
  (.seq (.region [
    ⟨(some 17), (.mv (.s 2)), none, []⟩,
    ⟨(some 18), (.call (.c (.fn 341 [])) [(.s 17)]), none, [0]⟩,
    ⟨(some 16), (.mv (.s 18)), none, [1]⟩,
    ⟨(some 19), (.ext (.s 16) 0), none, [2]⟩,
    ⟨(some 20), (.ext (.s 16) 1), none, [2]⟩,
    ⟨(some 4), (.new (.vals [(.bool false), (.int .u16 0), .nils, .nils])), none, []⟩,
    ⟨none, (.stc 4 (.s 4) (.s 19)), none, [5, 3, 1, 0, 1, 2, 3, 5]⟩,
    ⟨(some 5), (.mv (.s 20)), none, [4, 6, 0, 1, 2, 3, 4, 5, 6]⟩] false)
  (.seq (.region [
    ⟨(some 22), (.mv (.s 2)), none, []⟩,
    ⟨(some 23), (.call (.c (.fn 343 [])) [(.s 22)]), none, [0]⟩,
    ⟨(some 21), (.mv (.s 23)), none, [1]⟩,
    ⟨(some 24), (.ext (.s 21) 0), none, [2]⟩,
    ⟨(some 25), (.ext (.s 21) 1), none, [2]⟩,
    ⟨(some 6), (.mv (.s 24)), none, [3, 1, 0, 1, 2, 3]⟩,
    ⟨(some 7), (.mv (.s 25)), none, [4, 5, 0, 1, 2, 3, 4, 5]⟩] false)
  (.seq (.region [
    ⟨(some 27), (.bsl 1 1 (.ints .u8 [0]) [(0, 1, (.c (.int .u8 120)))]), none, []⟩,
    ⟨(some 28), (.cvs (.s 27)), none, [0]⟩,
    ⟨(some 29), (.call (.c (.fn 346 [])) [(.s 28)]), none, [1]⟩,
    ⟨(some 30), (.call (.c (.fn 317 [])) [(.s 29)]), none, [2, 2]⟩,
    ⟨(some 26), (.mv (.s 30)), none, [3]⟩,
    ⟨(some 31), (.ext (.s 26) 0), none, [4]⟩,
    ⟨(some 32), (.ext (.s 26) 1), none, [4]⟩,
    ⟨(some 8), (.mv (.s 31)), none, [5, 3, 0, 1, 2, 3, 4, 5]⟩,
    ⟨(some 9), (.mv (.s 32)), none, [6, 7, 0, 1, 2, 3, 4, 5, 6, 7]⟩] false)
  (.seq (.region [
    ⟨(some 33), (.mv (.s 2)), none, []⟩,
    ⟨(some 34), (.b2s (.s 33)), none, [0]⟩,
    ⟨(some 35), (.bin .eql (.s 34) (.c (.str [16, 1, 0, 8, 0, 8, 0, 0]))), none, [1]⟩,
    ⟨(some 36), (.mv (.s 35)), none, [2]⟩,
    ⟨(some 37), (.mv (.s 3)), (some (36, true)), [3]⟩,
    ⟨(some 38), (.bin .eql (.s 37) (.c (.int .i64 0))), (some (36, true)), [4, 3]⟩,
    ⟨(some 39), (.pick (.s 36) (.s 38) (.c (.bool false))), none, [3, 5]⟩,
    ⟨(some 40), (.mv (.s 39)), none, [6, 3]⟩,
    ⟨(some 41), (.lda 4 none (.s 1)), (some (40, true)), [7]⟩,
    ⟨(some 42), (.lda 4 none (.s 4)), (some (40, true)), [7]⟩,
    ⟨(some 43), (.call (.c (.fn 302 [])) [(.s 41), (.s 42)]), (some (40, true)), [8, 9, 7, 7]⟩,
    ⟨(some 44), (.pick (.s 40) (.s 43) (.c (.bool false))), none, [7, 10]⟩,
    ⟨(some 45), (.mv (.s 44)), none, [11, 10]⟩,
    ⟨(some 46), (.mv (.s 5)), (some (45, true)), [12]⟩,
    ⟨(some 47), (.bin .eql (.s 46) (.c (.int .i64 0))), (some (45, true)), [13, 12]⟩,
    ⟨(some 48), (.pick (.s 45) (.s 47) (.c (.bool false))), none, [12, 14]⟩,
    ⟨(some 49), (.mv (.s 48)), none, [15, 12]⟩,
    ⟨(some 50), (.mv (.s 6)), (some (49, true)), [16]⟩,
    ⟨(some 51), (.bin .eql (.s 50) (.c (.int .i64 8))), (some (49, true)), [17, 16]⟩,
    ⟨(some 52), (.pick (.s 49) (.s 51) (.c (.bool false))), none, [16, 18]⟩,
    ⟨(some 53), (.mv (.s 52)), none, [19, 16]⟩,
    ⟨(some 54), (.mv (.s 7)), (some (53, true)), [20]⟩,
    ⟨(some 55), (.bin .eql (.s 54) (.c (.int .i64 0))), (some (53, true)), [21, 20]⟩,
    ⟨(some 56), (.pick (.s 53) (.s 55) (.c (.bool false))), none, [20, 22]⟩,
    ⟨(some 57), (.mv (.s 56)), none, [23, 20]⟩,
    ⟨(some 58), (.mv (.s 8)), (some (57, true)), [24]⟩,
    ⟨(some 59), (.len false (.s 58)), (some (57, true)), [25, 24]⟩,
    ⟨(some 60), (.bin .eql (.s 59) (.c (.int .i64 5))), (some (57, true)), [26, 24]⟩,
    ⟨(some 61), (.pick (.s 57) (.s 60) (.c (.bool false))), none, [24, 27]⟩,
    ⟨(some 62), (.mv (.s 61)), none, [28, 24]⟩,
    ⟨(some 63), (.mv (.s 9)), (some (62, true)), [29]⟩,
    ⟨(some 64), (.bin .eql (.s 63) (.c (.int .i64 0))), (some (62, true)), [30, 29]⟩,
    ⟨(some 65), (.pick (.s 62) (.s 64) (.c (.bool false))), none, [29, 31]⟩,
    ⟨(some 66), (.mv (.s 65)), none, [32, 29]⟩,
    ⟨(some 67), (.lda 4 none (.s 1)), (some (66, true)), [33]⟩,
    ⟨(some 68), (.call (.c (.fn 323 [])) [(.s 67)]), (some (66, true)), [34, 33, 33]⟩,
    ⟨(some 69), (.bin .eql (.s 68) (.c (.int .i64 0))), (some (66, true)), [35, 33]⟩,
    ⟨(some 70), (.pick (.s 66) (.s 69) (.c (.bool false))), none, [33, 36]⟩,
    ⟨(some 0), (.mv (.s 70)), none, [37, 35, 0, 1, 2, 3, 4, 5, 6, 7, 8, 9, 10, 11, 12, 13, 14, 15, 16, 17, 18, 19, 20, 21, 22, 23, 24, 25, 26, 27, 28, 29, 30, 31, 32, 33, 34, 35, 36, 37]⟩] false)
  .ret))))))), false, (some []), (some Sh.bool), false⟩

/-- euphroe/euphroelaw18.theirs -/
def k339 : Fun := ⟨1, 32, [0, 1, 2, 3, 5, 14, 15, 16, 17], [(.cell 2 4 true none)],
  (.seq (.region [
    ⟨(some 1), (.box (.s 0)), none, []⟩,
    ⟨(some 2), (.new (.vals [(.bool false), (.int .u16 0), .nils, .nils])), none, []⟩] false)
  (.seq (.region [
    ⟨(some 6), (.fad 0 (.s 1)), none, []⟩,
    ⟨(some 7), (.ldc (.s 6)), none, [0]⟩,
    ⟨(some 8), (.fad 1 (.s 1)), none, []⟩,
    ⟨(some 9), (.ldc (.s 8)), none, [2]⟩,
    ⟨(some 10), (.fad 3 (.s 1)), none, []⟩,
    ⟨(some 11), (.ldc (.s 10)), none, [4]⟩,
    ⟨(some 12), (.build (.vals [(.bool false), (.int .u16 0), .nils, .nils]) [(0, 1, (.s 7)), (1, 1, (.s 9)), (3, 1, (.s 11))]), none, [1, 3, 5]⟩,
    ⟨(some 3), (.new (.vals [(.bool false), (.int .u16 0), .nils, .nils])), none, []⟩,
    ⟨none, (.stc 4 (.s 3) (.s 12)), none, [7, 6, 0, 1, 2, 3, 4, 5, 6, 7]⟩] false)
  (.seq (.seq (.region [
    ⟨(some 13), (.fad 2 (.s 1)), none, []⟩,
    ⟨(some 14), (.ldc (.s 13)), none, [0]⟩,
    ⟨(some 15), (.len false (.s 14)), none, [1]⟩,
    ⟨(some 16), (.mv (.c (.int .i64 0))), none, []⟩] false)
  (.block 0
   (.loop ⟨0, [], false, [2, 3, 14, 15, 16], [(3, (.imm []), 2002)]⟩
    (.seq (.region [
      ⟨(some 17), (.bin .lss (.s 16) (.s 15)), none, []⟩] false)
    (.seq (.cond (.s 17)
     .skip
     (.pre ⟨0, [], false, [2, 3], []⟩ (.exit 0)))
    (.seq (.block 1
     (.seq (.region [
       ⟨(some 18), (.iad 2 (.s 14) (.s 16)), none, []⟩,
       ⟨(some 19), (.lda 2 none (.s 18)), none, [0]⟩,
       ⟨(some 5), (.new (.vals [(.int .u8 0), .nils])), none, []⟩,
       ⟨none, (.stc 2 (.s 5) (.s 19)), none, [2, 1, 0, 1, 2]⟩] false)
     (.region [
       ⟨(some 20), (.fad 2 (.s 3)), none, []⟩,
       ⟨(some 21), (.ldc (.s 20)), none, [0]⟩,
       ⟨(some 22), (.fad 0 (.s 5)), none, []⟩,
       ⟨(some 23), (.ldc (.s 22)), none, [2]⟩,
       ⟨(some 24), (.fad 1 (.s 5)), none, []⟩,
       ⟨(some 25), (.ldc (.s 24)), none, [4]⟩,
       ⟨(some 26), (.build (.vals [(.int .u8 0), .nils]) [(0, 1, (.s 23)), (1, 1, (.s 25))]), none, [3, 5]⟩,
       ⟨(some 27), (.bsl 1 2 (.vals [(.int .u8 0), .nils]) [(0, 2, (.s 26))]), none, [6]⟩,
       ⟨(some 28), (.app 2 32 (.s 21) (.s 27)), none, [1, 7]⟩,
       ⟨(some 29), (.fad 2 (.s 3)), none, [0, 1, 2, 3, 4, 5, 6, 7, 8]⟩,
       ⟨none, (.stc 1 (.s 29) (.s 28)), none, [9, 8, 8, 0, 1, 2, 3, 4, 5, 6, 7, 8]⟩] false)))
    (.region [
      ⟨(some 30), (.bin .add (.s 16) (.c (.int .i64 1))), none, []⟩,
      ⟨(some 16), (.mv (.s 30)), none, [0]⟩] false)))))))
  (.seq (.region [
    ⟨(some 31), (.lda 4 none (.s 3)), none, []⟩,
    ⟨none, (.stc 4 (.s 2) (.s 31)), none, [0, 0]⟩] false)
  .ret)))), false, (some [(Sh.st (Sh.pr Sh.bool (Sh.pr (Sh.int .u16) (Sh.pr (Sh.sl (Sh.pr (Sh.int .u8) (Sh.sl (Sh.int .u8)))) (Sh.sl (Sh.int .u8))))))]), (some (Sh.st (Sh.pr Sh.bool (Sh.pr (Sh.int .u16) (Sh.pr (Sh.sl (Sh.pr (Sh.int .u8) (Sh.sl (Sh.int .u8)))) (Sh.sl (Sh.int .u8))))))), false⟩

/-- euphroe/euphroeref18.Check -/
def k340 : Fun := ⟨1, 35, [0, 1, 2, 3, 4, 7, 15, 18, 23, 33], [(.tmp 2)],
  (.seq (.region [
    ⟨(some 1), (.box (.s 0)), none, []⟩,
    ⟨(some 2), (.mv (.c (.int .i64 0))), none, []⟩] false)
  (.seq (.seq (.region [
    ⟨(some 5), (.fad 0 (.s 1)), none, []⟩,
    ⟨(some 6), (.ldc (.s 5)), none, [0]⟩,
    ⟨(some 7), (.un .not (.s 6)), none, [1]⟩] false)
  (.cond (.s 7)
   (.seq (.region [
     ⟨(some 2), (.mv (.c (.int .i64 0))), none, []⟩] false)
   .ret)
   .skip))
  (.seq (.seq (.region [
    ⟨(some 8), (.fad 1 (.s 1)), none, []⟩,
    ⟨(some 9), (.ldc (.s 8)), none, [0]⟩,
    ⟨(some 10), (.bin .lss (.s 9) (.c (.int .u16 1))), none, [1]⟩,
    ⟨(some 11), (.mv (.s 10)), none, [2]⟩,
    ⟨(some 12), (.fad 1 (.s 1)), (some (11, false)), [3]⟩,
    ⟨(some 13), (.ldc (.s 12)), (some (11, false)), [4, 3]⟩,
    ⟨(some 14), (.bin .gtr (.s 13) (.c (.int .u16 9))), (some (11, false)), [5, 3]⟩,
    ⟨(some 15), (.pick (.s 11) (.c (.bool true)) (.s 14)), none, [3, 6]⟩] false)
  (.cond (.s 15)
   (.seq (.region [
     ⟨(some 2), (.mv (.c (.int .i64 9))), none, []⟩] false)
   .ret)
   .skip))
  (.seq (.seq (.region [
    ⟨(some 16), (.lda 4 none (.s 1)), none, []⟩,
    ⟨(some 17), (.call (.c (.fn 358 [])) [(.s 16)]), none, [0]⟩,
    ⟨(some 18), (.un .not (.s 17)), none, [1]⟩] false)
  (.cond (.s 18)
   (.seq (.region [
     ⟨(some 2), (.mv (.c (.int .i64 1))), none, []⟩] false)
   .ret)
   .skip))
  (.seq (.seq (.region [
    ⟨(some 3), (.mv (.c (.int .i64 0))), none, []⟩] false)
  (.block 0
   (.loop ⟨0, [], false, [1, 3], []⟩
    (.seq (.seq (.region [
      ⟨(some 19), (.mv (.s 3)), none, []⟩,
      ⟨(some 20), (.fad 2 (.s 1)), none, []⟩,
      ⟨(some 21), (.ldc (.s 20)), none, [1]⟩,
      ⟨(some 22), (.len false (.s 21)), none, [2]⟩,
      ⟨(some 23), (.bin .lss (.s 19) (.s 22)), none, [0, 3]⟩] false)
    (.cond (.s 23)
     .skip
     (.pre ⟨0, [], false, [], []⟩ (.exit 0))))
    (.seq (.block 1
     (.seq (.region [
       ⟨(some 26), (.fad 2 (.s 1)), none, []⟩,
       ⟨(some 27), (.ldc (.s 26)), none, [0]⟩,
       ⟨(some 28), (.mv (.s 3)), none, []⟩,
       ⟨(some 29), (.iad 2 (.s 27) (.s 28)), none, [1, 2]⟩,
       ⟨(some 30), (.lda 2 none (.s 29)), none, [3]⟩,
       ⟨(some 31), (.call (.c (.fn 146 [])) [(.s 30)]), none, [4]⟩,
       ⟨(some 4), (.mv (.s 31)), none, [5, 5, 0, 1, 2, 3, 4, 5]⟩] false)
     (.seq (.region [
       ⟨(some 32), (.mv (.s 4)), none, []⟩,
       ⟨(some 33), (.bin .neq (.s 32) (.c (.int .i64 0))), none, [0]⟩] false)
     (.cond (.s 33)
      (.seq (.region [
        ⟨(some 34), (.mv (.s 4)), none, []⟩,
        ⟨(some 2), (.mv (.s 34)), none, [0, 0]⟩] false)
      .ret)
      .skip))))
    (.region [
      ⟨(some 24), (.mv (.s 3)), none, []⟩,
      ⟨(some 25), (.bin .add (.s 24) (.c (.int .i64 1))), none, [0]⟩,
      ⟨(some 3), (.mv (.s 25)), none, [1, 0, 1]⟩] false))))))
  (.seq (.region [
    ⟨(some 2), (.mv (.c (.int .i64 0))), none, []⟩] false)
  .ret)))))), false, (some [(Sh.st (Sh.pr Sh.bool (Sh.pr (Sh.int .u16) (Sh.pr (Sh.sl (Sh.pr (Sh.int .u8) (Sh.sl (Sh.int .u8)))) (Sh.sl (Sh.int .u8))))))]), (some (Sh.int .i64)), false⟩

/-- euphroe/packet.Parse -/
def k341 : Fun := ⟨1, 68, [0, 2, 3, 4, 5, 6, 8, 10, 16, 21, 27, 33, 61], [(.cell 2 4 true none), (.tmp 3)],
  (.seq (.region [
    ⟨(some 2), (.new (.vals [(.bool false), (.int .u16 0), .nils, .nils])), none, []⟩,
    ⟨(some 3), (.mv (.c (.int .i64 0))), none, []⟩] false)
  (.seq (.region [
    ⟨(some 12), (.mv (.s 0)), none, []⟩,
    ⟨(some 13), (.call (.c (.fn 343 [])) [(.s 12)]), none, [0]⟩,
    ⟨(some 11), (.mv (.s 13)), none, [1]⟩,
    ⟨(some 14), (.ext (.s 11) 0), none, [2]⟩,
    ⟨(some 15), (.ext (.s 11) 1), none, [2]⟩,
    ⟨(some 4), (.mv (.s 14)), none, [3, 1, 0, 1, 2, 3]⟩,
    ⟨(some 5), (.mv (.s 15)), none, [4, 5, 0, 1, 2, 3, 4, 5]⟩] false)
  (.seq (.block 0
   (.seq (.region [
     ⟨(some 17), (.mv (.s 5)), none, []⟩,
     ⟨(some 18), (.bin .neq (.s 17) (.c (.int .i64 0))), none, [0]⟩,
     ⟨(some 16), (.mv (.s 18)), none, [1]⟩] false)
   (.cond (.s 16)
    (.seq (.region [
      ⟨(some 19), (.build (.vals [(.bool false), (.int .u16 0), .nils, .nils]) []), none, []⟩,
      ⟨(some 20), (.mv (.s 5)), none, []⟩,
      ⟨none, (.stc 4 (.s 2) (.s 19)), none, [0, 0]⟩,
      ⟨(some 3), (.mv (.s 20)), none, [1, 2, 0, 1, 2]⟩] false)
    .ret)
    (.seq (.region [
      ⟨(some 22), (.mv (.s 0)), none, []⟩,
      ⟨(some 23), (.len false (.s 22)), none, [0]⟩,
      ⟨(some 24), (.mv (.s 4)), none, []⟩,
      ⟨(some 25), (.bin .lss (.s 23) (.s 24)), none, [1, 2]⟩,
      ⟨(some 21), (.mv (.s 25)), none, [3]⟩] false)
    (.cond (.s 21)
     (.seq (.region [
       ⟨(some 26), (.build (.vals [(.bool false), (.int .u16 0), .nils, .nils]) []), none, []⟩,
       ⟨none, (.stc 4 (.s 2) (.s 26)), none, [0, 0]⟩,
       ⟨(some 3), (.mv (.c (.int .i64 4))), none, [1, 0, 1]⟩] false)
     .ret)
     (.seq (.region [
       ⟨(some 28), (.mv (.s 0)), none, []⟩,
       ⟨(some 29), (.len false (.s 28)), none, [0]⟩,
       ⟨(some 30), (.mv (.s 4)), none, []⟩,
       ⟨(some 31), (.bin .gtr (.s 29) (.s 30)), none, [1, 2]⟩,
       ⟨(some 27), (.mv (.s 31)), none, [3]⟩] false)
     (.cond (.s 27)
      (.seq (.region [
        ⟨(some 32), (.build (.vals [(.bool false), (.int .u16 0), .nils, .nils]) []), none, []⟩,
        ⟨none, (.stc 4 (.s 2) (.s 32)), none, [0, 0]⟩,
        ⟨(some 3), (.mv (.c (.int .i64 3))), none, [1, 0, 1]⟩] false)
      .ret)
      (.seq (.region [
        ⟨(some 34), (.mv (.s 0)), none, []⟩,
        ⟨(some 35), (.iad 1 (.s 34) (.c (.int .i64 1))), none, [0]⟩,
        ⟨(some 36), (.ldc (.s 35)), none, [1]⟩,
        ⟨(some 37), (.bin .eql (.s 36) (.c (.int .u8 0))), none, [2]⟩,
        ⟨(some 33), (.mv (.s 37)), none, [3]⟩] false)
      (.cond (.s 33)
       (.seq (.region [
         ⟨(some 38), (.mv (.s 0)), none, []⟩,
         ⟨(some 39), (.sls 1 (.s 38) (some (.c (.int .i64 4))) none none), none, [0]⟩,
         ⟨(some 40), (.call (.c (.fn 346 [])) [(.s 39)]), none, [1]⟩,
         ⟨none, (.stc 4 (.s 2) (.s 40)), none, [2, 2, 0, 1, 2]⟩,
         ⟨(some 3), (.mv (.c (.int .i64 0))), none, [3, 0, 1, 2, 3]⟩] false)
       .ret)
       .skip)))))))))
  (.seq (.region [
    ⟨(some 42), (.mv (.s 0)), none, []⟩,
    ⟨(some 43), (.sls 1 (.s 42) (some (.c (.int .i64 4))) (some (.c (.int .i64 6))) none), none, [0]⟩,
    ⟨(some 44), (.call (.c (.fn 21 [])) [(.s 43), (.c (.bool false))]), none, [1]⟩,
    ⟨(some 41), (.mv (.s 44)), none, [2]⟩,
    ⟨(some 45), (.ext (.s 41) 0), none, [3]⟩,
    ⟨(some 46), (.ext (.s 41) 1), none, [3]⟩,
    ⟨(some 6), (.mv (.s 45)), none, [4, 2, 0, 1, 2, 3, 4]⟩,
    ⟨(some 7), (.mv (.s 46)), none, [5, 6, 0, 1, 2, 3, 4, 5, 6]⟩] false)
  (.seq (.region [
    ⟨(some 48), (.mv (.s 0)), none, []⟩,
    ⟨(some 49), (.sls 1 (.s 48) (some (.c (.int .i64 6))) (some (.c (.int .i64 8))) none), none, [0]⟩,
    ⟨(some 50), (.call (.c (.fn 21 [])) [(.s 49), (.c (.bool false))]), none, [1]⟩,
    ⟨(some 47), (.mv (.s 50)), none, [2]⟩,
    ⟨(some 51), (.ext (.s 47) 0), none, [3]⟩,
    ⟨(some 52), (.ext (.s 47) 1), none, [3]⟩,
    ⟨(some 8), (.mv (.s 51)), none, [4, 2, 0, 1, 2, 3, 4]⟩,
    ⟨(some 9), (.mv (.s 52)), none, [5, 6, 0, 1, 2, 3, 4, 5, 6]⟩] false)
  (.seq (.region [
    ⟨(some 54), (.mv (.s 0)), none, []⟩,
    ⟨(some 55), (.sls 1 (.s 54) (some (.c (.int .i64 8))) none none), none, [0]⟩,
    ⟨(some 56), (.mv (.s 8)), none, []⟩,
    ⟨(some 57), (.call (.c (.fn 359 [])) [(.s 55), (.s 56)]), none, [1, 2]⟩,
    ⟨(some 53), (.mv (.s 57)), none, [3]⟩,
    ⟨(some 58), (.ext (.s 53) 0), none, [4]⟩,
    ⟨(some 59), (.ext (.s 53) 1), none, [4]⟩,
    ⟨(some 10), (.mv (.s 58)), none, [5, 3, 0, 1, 2, 3, 4, 5]⟩,
    ⟨(some 5), (.mv (.s 59)), none, [6, 7, 0, 1, 2, 3, 4, 5, 6, 7]⟩] false)
  (.seq (.seq (.region [
    ⟨(some 60), (.mv (.s 5)), none, []⟩,
    ⟨(some 61), (.bin .neq (.s 60) (.c (.int .i64 0))), none, [0]⟩] false)
  (.cond (.s 61)
   (.seq (.region [
     ⟨(some 62), (.build (.vals [(.bool false), (.int .u16 0), .nils, .nils]) []), none, []⟩,
     ⟨(some 63), (.mv (.s 5)), none, []⟩,
     ⟨none, (.stc 4 (.s 2) (.s 62)), none, [0, 0]⟩,
     ⟨(some 3), (.mv (.s 63)), none, [1, 2, 0, 1, 2]⟩] false)
   .ret)
   .skip))
  (.seq (.region [
    ⟨(some 64), (.mv (.s 6)), none, []⟩,
    ⟨(some 65), (.cvi .u16 (.s 64)), none, [0]⟩,
    ⟨(some 66), (.mv (.s 10)), none, []⟩,
    ⟨(some 67), (.call (.c (.fn 316 [])) [(.s 65), (.s 66)]), none, [1, 2]⟩,
    ⟨none, (.stc 4 (.s 2) (.s 67)), none, [3, 3, 0, 1, 2, 3]⟩,
    ⟨(some 3), (.mv (.c (.int .i64 0))), none, [4, 0, 1, 2, 3, 4]⟩] false)
  .ret)))))))), false, (some [(Sh.sl (Sh.int .u8))]), (some (Sh.tu (Sh.pr (Sh.st (Sh.pr Sh.bool (Sh.pr (Sh.int .u16) (Sh.pr (Sh.sl (Sh.pr (Sh.int .u8) (Sh.sl (Sh.int .u8)))) (Sh.sl (Sh.int .u8)))))) (Sh.int .i64)))), false⟩

/-- euphroe/euphroeref18.Parse -/
def k342 : Fun := ⟨1, 82, [0, 2, 3, 4, 5, 6, 7, 8, 9, 10, 11, 12, 19, 25, 30, 35, 44, 55, 65, 79], [(.cell 2 4 true none), (.tmp 3)],
  (.seq (.region [
    ⟨(some 2), (.new (.vals [(.bool false), (.int .u16 0), .nils, .nils])), none, []⟩,
    ⟨(some 3), (.mv (.c (.int .i64 0))), none, []⟩] false)
  (.seq (.region [
    ⟨(some 14), (.mv (.s 0)), none, []⟩,
    ⟨(some 15), (.call (.c (.fn 344 [])) [(.s 14)]), none, [0]⟩,
    ⟨(some 13), (.mv (.s 15)), none, [1]⟩,
    ⟨(some 16), (.ext (.s 13) 0), none, [2]⟩,
    ⟨(some 17), (.ext (.s 13) 1), none, [2]⟩,
    ⟨(some 4), (.mv (.s 16)), none, [3, 1, 0, 1, 2, 3]⟩,
    ⟨(some 5), (.mv (.s 17)), none, [4, 5, 0, 1, 2, 3, 4, 5]⟩] false)
  (.seq (.seq (.region [
    ⟨(some 18), (.mv (.s 5)), none, []⟩,
    ⟨(some 19), (.bin .neq (.s 18) (.c (.int .i64 0))), none, [0]⟩] false)
  (.cond (.s 19)
   (.seq (.region [
     ⟨(some 20), (.build (.vals [(.bool false), (.int .u16 0), .nils, .nils]) []), none, []⟩,
     ⟨(some 21), (.mv (.s 5)), none, []⟩,
     ⟨none, (.stc 4 (.s 2) (.s 20)), none, [0, 0]⟩,
     ⟨(some 3), (.mv (.s 21)), none, [1, 2, 0, 1, 2]⟩] false)
   .ret)
   .skip))
  (.seq (.seq (.region [
    ⟨(some 22), (.mv (.s 0)), none, []⟩,
    ⟨(some 23), (.len false (.s 22)), none, [0]⟩,
    ⟨(some 24), (.mv (.s 4)), none, []⟩,
    ⟨(some 25), (.bin .lss (.s 23) (.s 24)), none, [1, 2]⟩] false)
  (.cond (.s 25)
   (.seq (.region [
     ⟨(some 26), (.build (.vals [(.bool false), (.int .u16 0), .nils, .nils]) []), none, []⟩,
     ⟨none, (.stc 4 (.s 2) (.s 26)), none, [0, 0]⟩,
     ⟨(some 3), (.mv (.c (.int .i64 4))), none, [1, 0, 1]⟩] false)
   .ret)
   .skip))
  (.seq (.seq (.region [
    ⟨(some 27), (.mv (.s 0)), none, []⟩,
    ⟨(some 28), (.len false (.s 27)), none, [0]⟩,
    ⟨(some 29), (.mv (.s 4)), none, []⟩,
    ⟨(some 30), (.bin .gtr (.s 28) (.s 29)), none, [1, 2]⟩] false)
  (.cond (.s 30)
   (.seq (.region [
     ⟨(some 31), (.build (.vals [(.bool false), (.int .u16 0), .nils, .nils]) []), none, []⟩,
     ⟨none, (.stc 4 (.s 2) (.s 31)), none, [0, 0]⟩,
     ⟨(some 3), (.mv (.c (.int .i64 3))), none, [1, 0, 1]⟩] false)
   .ret)
   .skip))
  (.seq (.seq (.region [
    ⟨(some 32), (.mv (.s 0)), none, []⟩,
    ⟨(some 33), (.iad 1 (.s 32) (.c (.int .i64 1))), none, [0]⟩,
    ⟨(some 34), (.ldc (.s 33)), none, [1]⟩,
    ⟨(some 35), (.bin .eql (.s 34) (.c (.int .u8 0))), none, [2]⟩] false)
  (.cond (.s 35)
   (.seq (.region [
     ⟨(some 36), (.mv (.s 0)), none, []⟩,
     ⟨(some 37), (.sls 1 (.s 36) (some (.c (.int .i64 4))) none none), none, [0]⟩,
     ⟨(some 38), (.build (.vals [(.bool false), (.int .u16 0), .nils, .nils]) [(3, 1, (.s 37))]), none, [1]⟩,
     ⟨none, (.stc 4 (.s 2) (.s 38)), none, [2, 0, 1, 2]⟩,
     ⟨(some 3), (.mv (.c (.int .i64 0))), none, [3, 0, 1, 2, 3]⟩] false)
   .ret)
   .skip))
  (.seq (.region [
    ⟨(some 39), (.mv (.s 0)), none, []⟩,
    ⟨(some 40), (.sls 1 (.s 39) (some (.c (.int .i64 6))) (some (.c (.int .i64 8))) none), none, [0]⟩,
    ⟨(some 41), (.call (.c (.fn 51 [])) [(.s 40)]), none, [1]⟩,
    ⟨(some 42), (.cvi .i64 (.s 41)), none, [2]⟩,
    ⟨(some 6), (.mv (.s 42)), none, [3, 2, 0, 1, 2, 3]⟩] false)
  (.seq (.seq (.region [
    ⟨(some 43), (.mv (.s 6)), none, []⟩,
    ⟨(some 44), (.bin .gtr (.s 43) (.c (.int .i64 8))), none, [0]⟩] false)
  (.cond (.s 44)
   (.seq (.region [
     ⟨(some 45), (.build (.vals [(.bool false), (.int .u16 0), .nils, .nils]) []), none, []⟩,
     ⟨none, (.stc 4 (.s 2) (.s 45)), none, [0, 0]⟩,
     ⟨(some 3), (.mv (.c (.int .i64 5))), none, [1, 0, 1]⟩] false)
   .ret)
   .skip))
  (.seq (.region [
    ⟨(some 46), (.mv (.s 0)), none, []⟩,
    ⟨(some 47), (.sls 1 (.s 46) (some (.c (.int .i64 4))) (some (.c (.int .i64 6))) none), none, [0]⟩,
    ⟨(some 48), (.call (.c (.fn 51 [])) [(.s 47)]), none, [1]⟩,
    ⟨(some 49), (.cvi .u16 (.s 48)), none, [2]⟩,
    ⟨(some 50), (.build (.vals [(.bool false), (.int .u16 0), .nils, .nils]) [(0, 1, (.c (.bool true))), (1, 1, (.s 49))]), none, [3]⟩,
    ⟨(some 7), (.new (.vals [(.bool false), (.int .u16 0), .nils, .nils])), none, []⟩,
    ⟨none, (.stc 4 (.s 7) (.s 50)), none, [5, 4, 2, 0, 1, 2, 3, 4, 5]⟩] false)
  (.seq (.region [
    ⟨(some 51), (.mv (.s 0)), none, []⟩,
    ⟨(some 52), (.sls 1 (.s 51) (some (.c (.int .i64 8))) none none), none, [0]⟩,
    ⟨(some 8), (.mv (.s 52)), none, [1, 0, 1]⟩] false)
  (.seq (.seq (.region [
    ⟨(some 9), (.mv (.c (.int .i64 0))), none, []⟩] false)
  (.block 0
   (.loop ⟨0, [], false, [2, 6, 7, 8, 9], [(7, (.imm []), 2002)]⟩
    (.seq (.seq (.region [
      ⟨(some 53), (.mv (.s 9)), none, []⟩,
      ⟨(some 54), (.mv (.s 6)), none, []⟩,
      ⟨(some 55), (.bin .lss (.s 53) (.s 54)), none, [0, 1]⟩] false)
    (.cond (.s 55)
     .skip
     (.pre ⟨0, [], false, [2, 7, 8], []⟩ (.exit 0))))
    (.seq (.block 1
     (.seq (.region [
       ⟨(some 59), (.mv (.s 8)), none, []⟩,
       ⟨(some 60), (.call (.c (.fn 143 [])) [(.s 59)]), none, [0]⟩,
       ⟨(some 58), (.mv (.s 60)), none, [1]⟩,
       ⟨(some 61), (.ext (.s 58) 0), none, [2]⟩,
       ⟨(some 62), (.ext (.s 58) 1), none, [2]⟩,
       ⟨(some 63), (.ext (.s 58) 2), none, [2]⟩,
       ⟨(some 10), (.new (.vals [(.int .u8 0), .nils])), none, []⟩,
       ⟨none, (.stc 2 (.s 10) (.s 61)), none, [6, 3, 1, 0, 1, 2, 3, 6]⟩,
       ⟨(some 11), (.mv (.s 62)), none, [4, 7, 0, 1, 2, 3, 4, 6, 7]⟩,
       ⟨(some 12), (.mv (.s 63)), none, [5, 8, 0, 1, 2, 3, 4, 5, 6, 7, 8]⟩] false)
     (.seq (.seq (.region [
       ⟨(some 64), (.mv (.s 12)), none, []⟩,
       ⟨(some 65), (.bin .neq (.s 64) (.c (.int .i64 0))), none, [0]⟩] false)
     (.cond (.s 65)
      (.seq (.region [
        ⟨(some 66), (.build (.vals [(.bool false), (.int .u16 0), .nils, .nils]) []), none, []⟩,
        ⟨(some 67), (.mv (.s 12)), none, []⟩,
        ⟨none, (.stc 4 (.s 2) (.s 66)), none, [0, 0]⟩,
        ⟨(some 3), (.mv (.s 67)), none, [1, 2, 0, 1, 2]⟩] false)
      .ret)
      .skip))
     (.seq (.region [
       ⟨(some 68), (.fad 2 (.s 7)), none, []⟩,
       ⟨(some 69), (.ldc (.s 68)), none, [0]⟩,
       ⟨(some 70), (.lda 2 none (.s 10)), none, []⟩,
       ⟨(some 71), (.bsl 1 2 (.vals [(.int .u8 0), .nils]) [(0, 2, (.s 70))]), none, [2]⟩,
       ⟨(some 72), (.app 2 32 (.s 69) (.s 71)), none, [1, 3]⟩,
       ⟨(some 73), (.fad 2 (.s 7)), none, [0, 1, 2, 3, 4]⟩,
       ⟨none, (.stc 1 (.s 73) (.s 72)), none, [5, 4, 4, 0, 1, 2, 3, 4]⟩] false)
     (.region [
       ⟨(some 74), (.mv (.s 8)), none, []⟩,
       ⟨(some 75), (.mv (.s 11)), none, []⟩,
       ⟨(some 76), (.sls 1 (.s 74) (some (.s 75)) none none), none, [0, 1]⟩,
       ⟨(some 8), (.mv (.s 76)), none, [2, 0, 1, 2]⟩] false)))))
    (.region [
      ⟨(some 56), (.mv (.s 9)), none, []⟩,
      ⟨(some 57), (.bin .add (.s 56) (.c (.int .i64 1))), none, [0]⟩,
      ⟨(some 9), (.mv (.s 57)), none, [1, 0, 1]⟩] false))))))
  (.seq (.seq (.region [
    ⟨(some 77), (.mv (.s 8)), none, []⟩,
    ⟨(some 78), (.len false (.s 77)), none, [0]⟩,
    ⟨(some 79), (.bin .gtr (.s 78) (.c (.int .i64 0))), none, [1]⟩] false)
  (.cond (.s 79)
   (.seq (.region [
     ⟨(some 80), (.build (.vals [(.bool false), (.int .u16 0), .nils, .nils]) []), none, []⟩,
     ⟨none, (.stc 4 (.s 2) (.s 80)), none, [0, 0]⟩,
     ⟨(some 3), (.mv (.c (.int .i64 3))), none, [1, 0, 1]⟩] false)
   .ret)
   .skip))
  (.seq (.region [
    ⟨(some 81), (.lda 4 none (.s 7)), none, []⟩,
    ⟨none, (.stc 4 (.s 2) (.s 81)), none, [0, 0]⟩,
    ⟨(some 3), (.mv (.c (.int .i64 0))), none, [1, 0, 1]⟩] false)
  .ret))))))))))))), false, (some [(Sh.sl (Sh.int .u8))]), (some (Sh.tu (Sh.pr (Sh.st (Sh.pr Sh.bool (Sh.pr (Sh.int .u16) (Sh.pr (Sh.sl (Sh.pr (Sh.int .u8) (Sh.sl (Sh.int .u8)))) (Sh.sl (Sh.int .u8)))))) (Sh.int .i64)))), false⟩

/-- euphroe/packet.Length -/
def k343 : Fun := ⟨1, 42, [0, 2, 3, 4, 6, 7, 11, 25, 39], [(.tmp 2), (.tmp 3)],
  (.seq (.region [
    ⟨(some 2), (.mv (.c (.int .i64 0))), none, []⟩,
    ⟨(some 3), (.mv (.c (.int .i64 0))), none, [0]⟩] false)
  (.seq (.block 0
   (.seq (.region [
     ⟨(some 8), (.mv (.s 0)), none, []⟩,
     ⟨(some 9), (.len false (.s 8)), none, [0]⟩,
     ⟨(some 10), (.bin .lss (.s 9) (.c (.int .i64 4))), none, [1]⟩,
     ⟨(some 7), (.mv (.s 10)), none, [2]⟩] false)
   (.cond (.s 7)
    (.seq (.region [
      ⟨(some 2), (.mv (.c (.int .i64 0))), none, []⟩,
      ⟨(some 3), (.mv (.c (.int .i64 4))), none, [0, 0]⟩] false)
    .ret)
    (.seq (.region [
      ⟨(some 12), (.mv (.s 0)), none, []⟩,
      ⟨(some 13), (.iad 1 (.s 12) (.c (.int .i64 0))), none, [0]⟩,
      ⟨(some 14), (.ldc (.s 13)), none, [1]⟩,
      ⟨(some 15), (.bin .neq (.s 14) (.c (.int .u8 16))), none, [2]⟩,
      ⟨(some 11), (.mv (.s 15)), none, [3]⟩] false)
    (.cond (.s 11)
     (.seq (.region [
       ⟨(some 2), (.mv (.c (.int .i64 0))), none, []⟩,
       ⟨(some 3), (.mv (.c (.int .i64 15))), none, [0, 0]⟩] false)
     .ret)
     .skip)))))
  (.seq (.region [
    ⟨(some 17), (.mv (.s 0)), none, []⟩,
    ⟨(some 18), (.sls 1 (.s 17) (some (.c (.int .i64 2))) (some (.c (.int .i64 4))) none), none, [0]⟩,
    ⟨(some 19), (.call (.c (.fn 21 [])) [(.s 18), (.c (.bool false))]), none, [1]⟩,
    ⟨(some 16), (.mv (.s 19)), none, [2]⟩,
    ⟨(some 20), (.ext (.s 16) 0), none, [3]⟩,
    ⟨(some 21), (.ext (.s 16) 1), none, [3]⟩,
    ⟨(some 4), (.mv (.s 20)), none, [4, 2, 0, 1, 2, 3, 4]⟩,
    ⟨(some 5), (.mv (.s 21)), none, [5, 6, 0, 1, 2, 3, 4, 5, 6]⟩] false)
  (.seq (.region [
    ⟨(some 6), (.mv (.c (.int .i64 5))), none, []⟩] false)
  (.seq (.seq (.region [
    ⟨(some 22), (.mv (.s 0)), none, []⟩,
    ⟨(some 23), (.iad 1 (.s 22) (.c (.int .i64 1))), none, [0]⟩,
    ⟨(some 24), (.ldc (.s 23)), none, [1]⟩,
    ⟨(some 25), (.bin .eql (.s 24) (.c (.int .u8 1))), none, [2]⟩] false)
  (.cond (.s 25)
   (.region [
     ⟨(some 6), (.mv (.c (.int .i64 8))), none, []⟩] false)
   .skip))
  (.seq (.seq (.region [
    ⟨(some 26), (.mv (.s 0)), none, []⟩,
    ⟨(some 27), (.iad 1 (.s 26) (.c (.int .i64 1))), none, [0]⟩,
    ⟨(some 28), (.ldc (.s 27)), none, [1]⟩,
    ⟨(some 29), (.bin .gtr (.s 28) (.c (.int .u8 1))), none, [2]⟩,
    ⟨(some 30), (.mv (.s 29)), none, [3]⟩,
    ⟨(some 31), (.mv (.s 4)), (some (30, false)), [4]⟩,
    ⟨(some 32), (.cvi .i64 (.s 31)), (some (30, false)), [5, 4]⟩,
    ⟨(some 33), (.mv (.s 6)), (some (30, false)), [4]⟩,
    ⟨(some 34), (.bin .lss (.s 32) (.s 33)), (some (30, false)), [6, 7, 4]⟩,
    ⟨(some 35), (.pick (.s 30) (.c (.bool true)) (.s 34)), none, [4, 8]⟩,
    ⟨(some 36), (.mv (.s 35)), none, [9, 4]⟩,
    ⟨(some 37), (.mv (.s 4)), (some (36, false)), [10]⟩,
    ⟨(some 38), (.bin .gtr (.s 37) (.c (.int .u64 4095))), (some (36, false)), [11, 10]⟩,
    ⟨(some 39), (.pick (.s 36) (.c (.bool true)) (.s 38)), none, [10, 12]⟩] false)
  (.cond (.s 39)
   (.seq (.region [
     ⟨(some 2), (.mv (.c (.int .i64 0))), none, []⟩,
     ⟨(some 3), (.mv (.c (.int .i64 3))), none, [0, 0]⟩] false)
   .ret)
   .skip))
  (.seq (.region [
    ⟨(some 40), (.mv (.s 4)), none, []⟩,
    ⟨(some 41), (.cvi .i64 (.s 40)), none, [0]⟩,
    ⟨(some 2), (.mv (.s 41)), none, [1, 0, 1]⟩,
    ⟨(some 3), (.mv (.c (.int .i64 0))), none, [2, 0, 1, 2]⟩] false)
  .ret))))))), false, (some [(Sh.sl (Sh.int .u8))]), (some (Sh.tu (Sh.pr (Sh.int .i64) (Sh.int .i64)))), false⟩

/-- euphroe/euphroeref18.Length -/
def k344 : Fun := ⟨1, 39, [0, 2, 3, 4, 7, 11, 37], [(.tmp 2), (.tmp 3)],
  (.seq (.region [
    ⟨(some 2), (.mv (.c (.int .i64 0))), none, []⟩,
    ⟨(some 3), (.mv (.c (.int .i64 0))), none, [0]⟩] false)
  (.seq (.seq (.region [
    ⟨(some 5), (.mv (.s 0)), none, []⟩,
    ⟨(some 6), (.len false (.s 5)), none, [0]⟩,
    ⟨(some 7), (.bin .lss (.s 6) (.c (.int .i64 4))), none, [1]⟩] false)
  (.cond (.s 7)
   (.seq (.region [
     ⟨(some 2), (.mv (.c (.int .i64 0))), none, []⟩,
     ⟨(some 3), (.mv (.c (.int .i64 4))), none, [0, 0]⟩] false)
   .ret)
   .skip))
  (.seq (.seq (.region [
    ⟨(some 8), (.mv (.s 0)), none, []⟩,
    ⟨(some 9), (.iad 1 (.s 8) (.c (.int .i64 0))), none, [0]⟩,
    ⟨(some 10), (.ldc (.s 9)), none, [1]⟩,
    ⟨(some 11), (.bin .neq (.s 10) (.c (.int .u8 16))), none, [2]⟩] false)
  (.cond (.s 11)
   (.seq (.region [
     ⟨(some 2), (.mv (.c (.int .i64 0))), none, []⟩,
     ⟨(some 3), (.mv (.c (.int .i64 15))), none, [0, 0]⟩] false)
   .ret)
   .skip))
  (.seq (.region [
    ⟨(some 12), (.mv (.s 0)), none, []⟩,
    ⟨(some 13), (.sls 1 (.s 12) (some (.c (.int .i64 2))) (some (.c (.int .i64 4))) none), none, [0]⟩,
    ⟨(some 14), (.call (.c (.fn 51 [])) [(.s 13)]), none, [1]⟩,
    ⟨(some 15), (.cvi .i64 (.s 14)), none, [2]⟩,
    ⟨(some 4), (.mv (.s 15)), none, [3, 2, 0, 1, 2, 3]⟩] false)
  (.seq (.seq (.region [
    ⟨(some 16), (.mv (.s 0)), none, []⟩,
    ⟨(some 17), (.iad 1 (.s 16) (.c (.int .i64 1))), none, [0]⟩,
    ⟨(some 18), (.ldc (.s 17)), none, [1]⟩,
    ⟨(some 19), (.bin .gtr (.s 18) (.c (.int .u8 1))), none, [2]⟩,
    ⟨(some 20), (.mv (.s 19)), none, [3]⟩,
    ⟨(some 21), (.mv (.s 4)), (some (20, false)), [4]⟩,
    ⟨(some 22), (.bin .lss (.s 21) (.c (.int .i64 5))), (some (20, false)), [5, 4]⟩,
    ⟨(some 23), (.pick (.s 20) (.c (.bool true)) (.s 22)), none, [4, 6]⟩,
    ⟨(some 24), (.mv (.s 23)), none, [7, 4]⟩,
    ⟨(some 25), (.mv (.s 0)), (some (24, false)), [8]⟩,
    ⟨(some 26), (.iad 1 (.s 25) (.c (.int .i64 1))), (some (24, false)), [9, 8]⟩,
    ⟨(some 27), (.ldc (.s 26)), (some (24, false)), [10, 8]⟩,
    ⟨(some 28), (.bin .eql (.s 27) (.c (.int .u8 1))), (some (24, false)), [11, 8]⟩,
    ⟨(some 29), (.mv (.s 28)), (some (24, false)), [12, 8, 8]⟩,
    ⟨(some 30), (.mv (.s 4)), (some (29, true)), [13]⟩,
    ⟨(some 31), (.bin .lss (.s 30) (.c (.int .i64 8))), (some (29, true)), [14, 13]⟩,
    ⟨(some 32), (.pick (.s 29) (.s 31) (.c (.bool false))), (some (24, false)), [13, 15, 8]⟩,
    ⟨(some 33), (.pick (.s 24) (.c (.bool true)) (.s 32)), none, [8, 16]⟩,
    ⟨(some 34), (.mv (.s 33)), none, [17, 13]⟩,
    ⟨(some 35), (.mv (.s 4)), (some (34, false)), [18]⟩,
    ⟨(some 36), (.bin .gtr (.s 35) (.c (.int .i64 4095))), (some (34, false)), [19, 18]⟩,
    ⟨(some 37), (.pick (.s 34) (.c (.bool true)) (.s 36)), none, [18, 20]⟩] false)
  (.cond (.s 37)
   (.seq (.region [
     ⟨(some 2), (.mv (.c (.int .i64 0))), none, []⟩,
     ⟨(some 3), (.mv (.c (.int .i64 3))), none, [0, 0]⟩] false)
   .ret)
   .skip))
  (.seq (.region [
    ⟨(some 38), (.mv (.s 4)), none, []⟩,
    ⟨(some 2), (.mv (.s 38)), none, [0, 0]⟩,
    ⟨(some 3), (.mv (.c (.int .i64 0))), none, [1, 0, 1]⟩] false)
  .ret)))))), false, (some [(Sh.sl (Sh.int .u8))]), (some (Sh.tu (Sh.pr (Sh.int .i64) (Sh.int .i64)))), false⟩

/-- euphroe/euphroeref18.Same -/
def k345 : Fun := ⟨2, 51, [0, 1, 2, 3, 4, 5, 12, 17, 31], [(.tmp 4)],
  (.seq (.region [
    ⟨(some 2), (.box (.s 0)), none, []⟩,
    ⟨(some 3), (.box (.s 1)), none, []⟩,
    ⟨(some 4), (.mv (.c (.bool false))), none, []⟩] false)
  (.seq (.seq (.region [
    ⟨(some 6), (.fad 2 (.s 2)), none, []⟩,
    ⟨(some 7), (.ldc (.s 6)), none, [0]⟩,
    ⟨(some 8), (.len false (.s 7)), none, [1]⟩,
    ⟨(some 9), (.fad 2 (.s 3)), none, []⟩,
    ⟨(some 10), (.ldc (.s 9)), none, [3]⟩,
    ⟨(some 11), (.len false (.s 10)), none, [4]⟩,
    ⟨(some 12), (.bin .neq (.s 8) (.s 11)), none, [2, 5]⟩] false)
  (.cond (.s 12)
   (.seq (.region [
     ⟨(some 4), (.mv (.c (.bool false))), none, []⟩] false)
   .ret)
   .skip))
  (.seq (.seq (.region [
    ⟨(some 5), (.mv (.c (.int .i64 0))), none, []⟩] false)
  (.block 0
   (.loop ⟨0, [], false, [2, 3, 5], []⟩
    (.seq (.seq (.region [
      ⟨(some 13), (.mv (.s 5)), none, []⟩,
      ⟨(some 14), (.fad 2 (.s 2)), none, []⟩,
      ⟨(some 15), (.ldc (.s 14)), none, [1]⟩,
      ⟨(some 16), (.len false (.s 15)), none, [2]⟩,
      ⟨(some 17), (.bin .lss (.s 13) (.s 16)), none, [0, 3]⟩] false)
    (.cond (.s 17)
     .skip
     (.pre ⟨0, [], false, [2, 3], []⟩ (.exit 0))))
    (.seq (.block 1
     (.seq (.region [
       ⟨(some 20), (.fad 2 (.s 2)), none, []⟩,
       ⟨(some 21), (.ldc (.s 20)), none, [0]⟩,
       ⟨(some 22), (.mv (.s 5)), none, []⟩,
       ⟨(some 23), (.iad 2 (.s 21) (.s 22)), none, [1, 2]⟩,
       ⟨(some 24), (.lda 2 none (.s 23)), none, [3]⟩,
       ⟨(some 25), (.fad 2 (.s 3)), none, []⟩,
       ⟨(some 26), (.ldc (.s 25)), none, [5]⟩,
       ⟨(some 27), (.mv (.s 5)), none, []⟩,
       ⟨(some 28), (.iad 2 (.s 26) (.s 27)), none, [6, 7]⟩,
       ⟨(some 29), (.lda 2 none (.s 28)), none, [8]⟩,
       ⟨(some 30), (.call (.c (.fn 360 [])) [(.s 24), (.s 29)]), none, [4, 9]⟩,
       ⟨(some 31), (.un .not (.s 30)), none, [10]⟩] true)
     (.cond (.s 31)
      (.seq (.region [
        ⟨(some 4), (.mv (.c (.bool false))), none, []⟩] false)
      .ret)
      .skip)))
    (.region [
      ⟨(some 18), (.mv (.s 5)), none, []⟩,
      ⟨(some 19), (.bin .add (.s 18) (.c (.int .i64 1))), none, [0]⟩,
      ⟨(some 5), (.mv (.s 19)), none, [1, 0, 1]⟩] false))))))
  (.seq (.region [
    ⟨(some 32), (.fad 0 (.s 2)), none, []⟩,
    ⟨(some 33), (.ldc (.s 32)), none, [0]⟩,
    ⟨(some 34), (.fad 0 (.s 3)), none, []⟩,
    ⟨(some 35), (.ldc (.s 34)), none, [2]⟩,
    ⟨(some 36), (.eqn .b false (.s 33) (.s 35)), none, [1, 3]⟩,
    ⟨(some 37), (.mv (.s 36)), none, [4]⟩,
    ⟨(some 38), (.fad 1 (.s 2)), (some (37, true)), [5]⟩,
    ⟨(some 39), (.ldc (.s 38)), (some (37, true)), [6, 5]⟩,
    ⟨(some 40), (.fad 1 (.s 3)), (some (37, true)), [5]⟩,
    ⟨(some 41), (.ldc (.s 40)), (some (37, true)), [8, 5]⟩,
    ⟨(some 42), (.bin .eql (.s 39) (.s 41)), (some (37, true)), [7, 9, 5]⟩,
    ⟨(some 43), (.pick (.s 37) (.s 42) (.c (.bool false))), none, [5, 10]⟩,
    ⟨(some 44), (.mv (.s 43)), none, [11, 5]⟩,
    ⟨(some 45), (.fad 3 (.s 2)), (some (44, true)), [12]⟩,
    ⟨(some 46), (.ldc (.s 45)), (some (44, true)), [13, 12]⟩,
    ⟨(some 47), (.fad 3 (.s 3)), (some (44, true)), [12]⟩,
    ⟨(some 48), (.ldc (.s 47)), (some (44, true)), [15, 12]⟩,
    ⟨(some 49), (.call (.c (.fn 23 [])) [(.s 46), (.s 48)]), (some (44, true)), [14, 16, 12, 12]⟩,
    ⟨(some 50), (.pick (.s 44) (.s 49) (.c (.bool false))), none, [12, 17]⟩,
    ⟨(some 4), (.mv (.s 50)), none, [18, 17, 0, 1, 2, 3, 4, 5, 6, 7, 8, 9, 10, 11, 12, 13, 14, 15, 16, 17, 18]⟩] false)
  .ret)))), false, (some [(Sh.st (Sh.pr Sh.bool (Sh.pr (Sh.int .u16) (Sh.pr (Sh.sl (Sh.pr (Sh.int .u8) (Sh.sl (Sh.int .u8)))) (Sh.sl (Sh.int .u8)))))), (Sh.st (Sh.pr Sh.bool (Sh.pr (Sh.int .u16) (Sh.pr (Sh.sl (Sh.pr (Sh.int .u8) (Sh.sl (Sh.int .u8)))) (Sh.sl (Sh.int .u8))))))]), (some Sh.bool), false⟩

/-- euphroe/packet.OfData -/
def k346 : Fun := ⟨1, 6, [0, 2], [(.cell 2 4 true none)],
  (.seq (.region [
    ⟨(some 2), (.new (.vals [(.bool false), (.int .u16 0), .nils, .nils])), none, []⟩] false)
  (.seq (.region [
    ⟨(some 3), (.mv (.s 0)), none, []⟩,
    ⟨(some 4), (.call (.c (.fn 108 [])) [(.s 3)]), none, [0]⟩,
    ⟨(some 5), (.build (.vals [(.bool false), (.int .u16 0), .nils, .nils]) [(3, 1, (.s 4))]), none, [1]⟩,
    ⟨none, (.stc 4 (.s 2) (.s 5)), none, [2, 1, 0, 1, 2]⟩] false)
  .ret)), false, (some [(Sh.sl (Sh.int .u8))]), (some (Sh.st (Sh.pr Sh.bool (Sh.pr (Sh.int .u16) (Sh.pr (Sh.sl (Sh.pr (Sh.int .u8) (Sh.sl (Sh.int .u8)))) (Sh.sl (Sh.int .u8))))))), false⟩

/-- euphroe/euphroeref18.has -/
def k358 : Fun := ⟨1, 56, [0, 1, 2, 4, 5, 11, 17, 35, 41], [(.tmp 2)],
  (.seq (.region [
    ⟨(some 1), (.box (.s 0)), none, []⟩,
    ⟨(some 2), (.mv (.c (.bool false))), none, []⟩] false)
  (.seq (.seq (.region [
    ⟨(some 3), (.fad 1 (.s 1)), none, []⟩,
    ⟨(some 4), (.ldc (.s 3)), none, [0]⟩] false)
  (.block 0
   (.seq (.region [
     ⟨(some 6), (.bin .eql (.s 4) (.c (.int .u16 1))), none, []⟩,
     ⟨(some 5), (.mv (.s 6)), none, [0]⟩] false)
   (.cond (.s 5)
    (.seq (.region [
      ⟨(some 7), (.fad 2 (.s 1)), none, []⟩,
      ⟨(some 8), (.ldc (.s 7)), none, [0]⟩,
      ⟨(some 9), (.bsl 1 1 (.ints .u8 [0]) [(0, 1, (.c (.int .u8 1)))]), none, []⟩,
      ⟨(some 10), (.call (.c (.fn 363 [])) [(.s 8), (.s 9)]), none, [1, 2]⟩,
      ⟨(some 2), (.mv (.s 10)), none, [3, 3, 0, 1, 2, 3]⟩] false)
    .ret)
    (.seq (.region [
      ⟨(some 12), (.bin .eql (.s 4) (.c (.int .u16 2))), none, []⟩,
      ⟨(some 11), (.mv (.s 12)), none, [0]⟩] false)
    (.cond (.s 11)
     (.seq (.region [
       ⟨(some 13), (.fad 2 (.s 1)), none, []⟩,
       ⟨(some 14), (.ldc (.s 13)), none, [0]⟩,
       ⟨(some 15), (.bsl 1 1 (.ints .u8 [0]) [(0, 1, (.c (.int .u8 4)))]), none, []⟩,
       ⟨(some 16), (.call (.c (.fn 363 [])) [(.s 14), (.s 15)]), none, [1, 2]⟩,
       ⟨(some 2), (.mv (.s 16)), none, [3, 3, 0, 1, 2, 3]⟩] false)
     .ret)
     (.seq (.region [
       ⟨(some 18), (.bin .eql (.s 4) (.c (.int .u16 3))), none, []⟩,
       ⟨(some 17), (.mv (.s 18)), none, [0]⟩] false)
     (.cond (.s 17)
      (.seq (.region [
        ⟨(some 19), (.fad 2 (.s 1)), none, []⟩,
        ⟨(some 20), (.ldc (.s 19)), none, [0]⟩,
        ⟨(some 21), (.bsl 1 1 (.ints .u8 [0]) [(0, 1, (.c (.int .u8 2)))]), none, []⟩,
        ⟨(some 22), (.call (.c (.fn 363 [])) [(.s 20), (.s 21)]), none, [1, 2]⟩,
        ⟨(some 23), (.mv (.s 22)), none, [3, 3]⟩,
        ⟨(some 24), (.fad 2 (.s 1)), (some (23, false)), [4]⟩,
        ⟨(some 25), (.ldc (.s 24)), (some (23, false)), [5, 4]⟩,
        ⟨(some 26), (.bsl 2 1 (.ints .u8 [0, 0]) [(0, 1, (.c (.int .u8 2))), (1, 1, (.c (.int .u8 2)))]), (some (23, false)), [4]⟩,
        ⟨(some 27), (.call (.c (.fn 363 [])) [(.s 25), (.s 26)]), (some (23, false)), [6, 7, 4, 4]⟩,
        ⟨(some 28), (.pick (.s 23) (.c (.bool true)) (.s 27)), none, [4, 8]⟩,
        ⟨(some 29), (.mv (.s 28)), none, [9, 8]⟩,
        ⟨(some 30), (.fad 2 (.s 1)), (some (29, false)), [10]⟩,
        ⟨(some 31), (.ldc (.s 30)), (some (29, false)), [11, 10]⟩,
        ⟨(some 32), (.bsl 3 1 (.ints .u8 [0, 0, 0]) [(0, 1, (.c (.int .u8 2))), (1, 1, (.c (.int .u8 2))), (2, 1, (.c (.int .u8 2)))]), (some (29, false)), [10]⟩,
        ⟨(some 33), (.call (.c (.fn 363 [])) [(.s 31), (.s 32)]), (some (29, false)), [12, 13, 10, 10]⟩,
        ⟨(some 34), (.pick (.s 29) (.c (.bool true)) (.s 33)), none, [10, 14]⟩,
        ⟨(some 2), (.mv (.s 34)), none, [15, 14, 0, 1, 2, 3, 4, 5, 6, 7, 8, 9, 10, 11, 12, 13, 14, 15]⟩] false)
      .ret)
      (.seq (.region [
        ⟨(some 36), (.bin .eql (.s 4) (.c (.int .u16 4))), none, []⟩,
        ⟨(some 35), (.mv (.s 36)), none, [0]⟩] false)
      (.cond (.s 35)
       (.seq (.region [
         ⟨(some 37), (.fad 2 (.s 1)), none, []⟩,
         ⟨(some 38), (.ldc (.s 37)), none, [0]⟩,
         ⟨(some 39), (.bsl 1 1 (.ints .u8 [0]) [(0, 1, (.c (.int .u8 3)))]), none, []⟩,
         ⟨(some 40), (.call (.c (.fn 363 [])) [(.s 38), (.s 39)]), none, [1, 2]⟩,
         ⟨(some 2), (.mv (.s 40)), none, [3, 3, 0, 1, 2, 3]⟩] false)
       .ret)
       (.seq (.seq (.region [
         ⟨(some 42), (.bin .eql (.s 4) (.c (.int .u16 5))), none, []⟩,
         ⟨(some 41), (.mv (.s 42)), none, [0]⟩] false)
       (.cond (.s 41)
        .skip
        (.region [
          ⟨(some 43), (.bin .eql (.s 4) (.c (.int .u16 6))), none, []⟩,
          ⟨(some 41), (.mv (.s 43)), none, [0]⟩] false)))
       (.cond (.s 41)
        (.seq (.region [
          ⟨(some 44), (.fad 2 (.s 1)), none, []⟩,
          ⟨(some 45), (.ldc (.s 44)), none, [0]⟩,
          ⟨(some 46), (.call (.c (.fn 363 [])) [(.s 45), (.c .nils)]), none, [1]⟩,
          ⟨(some 47), (.mv (.s 46)), none, [2, 2]⟩,
          ⟨(some 48), (.fad 2 (.s 1)), (some (47, false)), [3]⟩,
          ⟨(some 49), (.ldc (.s 48)), (some (47, false)), [4, 3]⟩,
          ⟨(some 50), (.bsl 1 1 (.ints .u8 [0]) [(0, 1, (.c (.int .u8 2)))]), (some (47, false)), [3]⟩,
          ⟨(some 51), (.call (.c (.fn 363 [])) [(.s 49), (.s 50)]), (some (47, false)), [5, 6, 3, 3]⟩,
          ⟨(some 52), (.pick (.s 47) (.c (.bool true)) (.s 51)), none, [3, 7]⟩,
          ⟨(some 2), (.mv (.s 52)), none, [8, 7, 0, 1, 2, 3, 4, 5, 6, 7, 8]⟩] false)
        .ret)
        .skip))))))))))))
  (.seq (.region [
    ⟨(some 53), (.fad 2 (.s 1)), none, []⟩,
    ⟨(some 54), (.ldc (.s 53)), none, [0]⟩,
    ⟨(some 55), (.call (.c (.fn 363 [])) [(.s 54), (.c .nils)]), none, [1]⟩,
    ⟨(some 2), (.mv (.s 55)), none, [2, 2, 0, 1, 2]⟩] false)
  .ret))), false, (some [(Sh.st (Sh.pr Sh.bool (Sh.pr (Sh.int .u16) (Sh.pr (Sh.sl (Sh.pr (Sh.int .u8) (Sh.sl (Sh.int .u8)))) (Sh.sl (Sh.int .u8))))))]), (some Sh.bool), false⟩

/-- euphroe/packet.attrs -/
def k359 : Fun := ⟨2, 36, [0, 1, 4, 5, 6, 7, 8, 9, 11, 12, 13, 14, 22, 34], [(.tmp 4), (.tmp 5)],
  (.seq (.region [
    ⟨(some 4), (.mv (.c .nils)), none, []⟩,
    ⟨(some 5), (.mv (.c (.int .i64 0))), none, [0]⟩] false)
  (.seq (.seq (.region [
    ⟨(some 10), (.mv (.s 1)), none, []⟩,
    ⟨(some 11), (.bin .gtr (.s 10) (.c (.int .u64 8))), none, [0]⟩] false)
  (.cond (.s 11)
   (.seq (.region [
     ⟨(some 4), (.mv (.c .nils)), none, []⟩,
     ⟨(some 5), (.mv (.c (.int .i64 5))), none, [0, 0]⟩] false)
   .ret)
   .skip))
  (.seq (.region [
    ⟨(some 6), (.mv (.c .nils)), none, []⟩] false)
  (.seq (.seq (.region [
    ⟨(some 12), (.mv (.s 1)), none, []⟩,
    ⟨(some 13), (.mv (.c (.int .u64 0))), none, []⟩] false)
  (.block 0
   (.loop ⟨0, [], false, [0, 6, 12, 13], [(6, (.imm []), 2)]⟩
    (.seq (.region [
      ⟨(some 14), (.bin .lss (.s 13) (.s 12)), none, []⟩] false)
    (.seq (.cond (.s 14)
     .skip
     (.pre ⟨0, [], false, [0, 6], []⟩ (.exit 0)))
    (.seq (.block 1
     (.seq (.region [
       ⟨(some 16), (.mv (.s 0)), none, []⟩,
       ⟨(some 17), (.call (.c (.fn 142 [])) [(.s 16)]), none, [0]⟩,
       ⟨(some 15), (.mv (.s 17)), none, [1]⟩,
       ⟨(some 18), (.ext (.s 15) 0), none, [2]⟩,
       ⟨(some 19), (.ext (.s 15) 1), none, [2]⟩,
       ⟨(some 20), (.ext (.s 15) 2), none, [2]⟩,
       ⟨(some 7), (.new (.vals [(.int .u8 0), .nils])), none, []⟩,
       ⟨none, (.stc 2 (.s 7) (.s 18)), none, [6, 3, 1, 0, 1, 2, 3, 6]⟩,
       ⟨(some 8), (.mv (.s 19)), none, [4, 7, 0, 1, 2, 3, 4, 6, 7]⟩,
       ⟨(some 9), (.mv (.s 20)), none, [5, 8, 0, 1, 2, 3, 4, 5, 6, 7, 8]⟩] false)
     (.seq (.seq (.region [
       ⟨(some 21), (.mv (.s 9)), none, []⟩,
       ⟨(some 22), (.bin .neq (.s 21) (.c (.int .i64 0))), none, [0]⟩] false)
     (.cond (.s 22)
      (.seq (.region [
        ⟨(some 23), (.mv (.s 9)), none, []⟩,
        ⟨(some 4), (.mv (.c .nils)), none, []⟩,
        ⟨(some 5), (.mv (.s 23)), none, [0, 1, 0, 1]⟩] false)
      .ret)
      .skip))
     (.seq (.region [
       ⟨(some 24), (.mv (.s 6)), none, []⟩,
       ⟨(some 25), (.lda 2 none (.s 7)), none, []⟩,
       ⟨(some 26), (.bsl 1 2 (.vals [(.int .u8 0), .nils]) [(0, 2, (.s 25))]), none, [1]⟩,
       ⟨(some 27), (.app 2 32 (.s 24) (.s 26)), none, [0, 2]⟩,
       ⟨(some 6), (.mv (.s 27)), none, [3, 3, 0, 1, 2, 3]⟩] false)
     (.region [
       ⟨(some 28), (.mv (.s 0)), none, []⟩,
       ⟨(some 29), (.mv (.s 8)), none, []⟩,
       ⟨(some 30), (.sls 1 (.s 28) (some (.s 29)) none none), none, [0, 1]⟩,
       ⟨(some 0), (.mv (.s 30)), none, [2, 0, 1, 2]⟩] false)))))
    (.region [
      ⟨(some 31), (.bin .add (.s 13) (.c (.int .u64 1))), none, []⟩,
      ⟨(some 13), (.mv (.s 31)), none, [0]⟩] false)))))))
  (.seq (.seq (.region [
    ⟨(some 32), (.mv (.s 0)), none, []⟩,
    ⟨(some 33), (.len false (.s 32)), none, [0]⟩,
    ⟨(some 34), (.bin .gtr (.s 33) (.c (.int .i64 0))), none, [1]⟩] false)
  (.cond (.s 34)
   (.seq (.region [
     ⟨(some 4), (.mv (.c .nils)), none, []⟩,
     ⟨(some 5), (.mv (.c (.int .i64 3))), none, [0, 0]⟩] false)
   .ret)
   .skip))
  (.seq (.region [
    ⟨(some 35), (.mv (.s 6)), none, []⟩,
    ⟨(some 4), (.mv (.s 35)), none, [0, 0]⟩,
    ⟨(some 5), (.mv (.c (.int .i64 0))), none, [1, 0, 1]⟩] false)
  .ret)))))), false, (some [(Sh.sl (Sh.int .u8)), (Sh.int .u64)]), (some (Sh.tu (Sh.pr (Sh.sl (Sh.pr (Sh.int .u8) (Sh.sl (Sh.int .u8)))) (Sh.int .i64)))), false⟩

/-- euphroe/euphroeref17.Same -/
def k360 : Fun := ⟨2, 17, [0, 1, 2, 3, 4], [(.tmp 4)],
  (.seq (.region [
    ⟨(some 2), (.box (.s 0)), none, []⟩,
    ⟨(some 3), (.box (.s 1)), none, []⟩,
    ⟨(some 4), (.mv (.c (.bool false))), none, []⟩] false)
  (.seq (.region [
    ⟨(some 5), (.fad 0 (.s 2)), none, []⟩,
    ⟨(some 6), (.ldc (.s 5)), none, [0]⟩,
    ⟨(some 7), (.fad 0 (.s 3)), none, []⟩,
    ⟨(some 8), (.ldc (.s 7)), none, [2]⟩,
    ⟨(some 9), (.bin .eql (.s 6) (.s 8)), none, [1, 3]⟩,
    ⟨(some 10), (.mv (.s 9)), none, [4]⟩,
    ⟨(some 11), (.fad 1 (.s 2)), (some (10, true)), [5]⟩,
    ⟨(some 12), (.ldc (.s 11)), (some (10, true)), [6, 5]⟩,
    ⟨(some 13), (.fad 1 (.s 3)), (some (10, true)), [5]⟩,
    ⟨(some 14), (.ldc (.s 13)), (some (10, true)), [8, 5]⟩,
    ⟨(some 15), (.call (.c (.fn 23 [])) [(.s 12), (.s 14)]), (some (10, true)), [7, 9, 5, 5]⟩,
    ⟨(some 16), (.pick (.s 10) (.s 15) (.c (.bool false))), none, [5, 10]⟩,
    ⟨(some 4), (.mv (.s 16)), none, [11, 10, 0, 1, 2, 3, 4, 5, 6, 7, 8, 9, 10, 11]⟩] false)
  .ret)), false, (some [(Sh.st (Sh.pr (Sh.int .u8) (Sh.sl (Sh.int .u8)))), (Sh.st (Sh.pr (Sh.int .u8) (Sh.sl (Sh.int .u8))))]), (some Sh.bool), false⟩

/-- euphroe/euphroeref18.kinds -/
def k363 : Fun := ⟨2, 27, [0, 1, 4, 5, 10, 14, 26], [(.tmp 4)],
  (.seq (.region [
    ⟨(some 4), (.mv (.c (.bool false))), none, []⟩] false)
  (.seq (.seq (.region [
    ⟨(some 6), (.mv (.s 0)), none, []⟩,
    ⟨(some 7), (.len false (.s 6)), none, [0]⟩,
    ⟨(some 8), (.mv (.s 1)), none, []⟩,
    ⟨(some 9), (.len false (.s 8)), none, [2]⟩,
    ⟨(some 10), (.bin .neq (.s 7) (.s 9)), none, [1, 3]⟩] false)
  (.cond (.s 10)
   (.seq (.region [
     ⟨(some 4), (.mv (.c (.bool false))), none, []⟩] false)
   .ret)
   .skip))
  (.seq (.seq (.region [
    ⟨(some 5), (.mv (.c (.int .i64 0))), none, []⟩] false)
  (.block 0
   (.loop ⟨0, [], false, [0, 1, 5], []⟩
    (.seq (.seq (.region [
      ⟨(some 11), (.mv (.s 5)), none, []⟩,
      ⟨(some 12), (.mv (.s 0)), none, []⟩,
      ⟨(some 13), (.len false (.s 12)), none, [1]⟩,
      ⟨(some 14), (.bin .lss (.s 11) (.s 13)), none, [0, 2]⟩] false)
    (.cond (.s 14)
     .skip
     (.pre ⟨0, [], false, [], []⟩ (.exit 0))))
    (.seq (.block 1
     (.seq (.region [
       ⟨(some 17), (.mv (.s 0)), none, []⟩,
       ⟨(some 18), (.mv (.s 5)), none, []⟩,
       ⟨(some 19), (.iad 2 (.s 17) (.s 18)), none, [0, 1]⟩,
       ⟨(some 20), (.fad 0 (.s 19)), none, [2]⟩,
       ⟨(some 21), (.ldc (.s 20)), none, [3]⟩,
       ⟨(some 22), (.mv (.s 1)), none, []⟩,
       ⟨(some 23), (.mv (.s 5)), none, []⟩,
       ⟨(some 24), (.iad 1 (.s 22) (.s 23)), none, [5, 6]⟩,
       ⟨(some 25), (.ldc (.s 24)), none, [7]⟩,
       ⟨(some 26), (.bin .neq (.s 21) (.s 25)), none, [4, 8]⟩] true)
     (.cond (.s 26)
      (.seq (.region [
        ⟨(some 4), (.mv (.c (.bool false))), none, []⟩] false)
      .ret)
      .skip)))
    (.region [
      ⟨(some 15), (.mv (.s 5)), none, []⟩,
      ⟨(some 16), (.bin .add (.s 15) (.c (.int .i64 1))), none, [0]⟩,
      ⟨(some 5), (.mv (.s 16)), none, [1, 0, 1]⟩] false))))))
  (.seq (.region [
    ⟨(some 4), (.mv (.c (.bool true))), none, []⟩] false)
  .ret)))), false, (some [(Sh.sl (Sh.pr (Sh.int .u8) (Sh.sl (Sh.int .u8)))), (Sh.sl (Sh.int .u8))]), (some Sh.bool), false⟩

def FT : Nat → Option Fun
  | 1 => some k1
  | 19 => some k19
  | 21 => some k21
  | 23 => some k23
  | 46 => some k46
  | 48 => some k48
  | 50 => some k50
  | 51 => some k51
  | 64 => some k64
  | 139 => some k139
  | 141 => some k141
  | 142 => some k142
  | 143 => some k143
  | 144 => some k144
  | 145 => some k145
  | 146 => some k146
  | 160 => some k160
  | 161 => some k161
  | 162 => some k162
  | 163 => some k163
  | 164 => some k164
  | 165 => some k165
  | 302 => some k302
  | 313 => some k313
  | 316 => some k316
  | 317 => some k317
  | 319 => some k319
  | 321 => some k321
  | 322 => some k322
  | 323 => some k323
  | 324 => some k324
  | 325 => some k325
  | 326 => some k326
  | 327 => some k327
  | 328 => some k328
  | 329 => some k329
  | 330 => some k330
  | 331 => some k331
  | 332 => some k332
  | 337 => some k337
  | 338 => some k338
  | 339 => some k339
  | 340 => some k340
  | 341 => some k341
  | 342 => some k342
  | 343 => some k343
  | 344 => some k344
  | 345 => some k345
  | 346 => some k346
  | 358 => some k358
  | 359 => some k359
  | 360 => some k360
  | 363 => some k363
  | _ => none
end Go.Proofs.YteagngpgghnlmaaE
