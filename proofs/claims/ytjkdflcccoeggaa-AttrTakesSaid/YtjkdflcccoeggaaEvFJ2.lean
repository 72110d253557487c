/- The evaluator's functions. -/
import Derived.Test.YtjkdflcccoeggaaEvXT
namespace Go.Proofs.YtjkdflcccoeggaaE
open Go
set_option linter.unusedVariables false
set_option linter.unusedSimpArgs false

/-- slices.Concat[[]byte,byte] -/
def k1 : Fun := ⟨1, 36, [0, 2, 3, 5, 6, 8, 9, 10, 11, 12, 20, 25, 26, 27, 28], [(.tmp 2)],
  (.seq (.region [
    ⟨(some 2), (.mv (.c .nils)), none, []⟩] false)
  (.seq (.region [
    ⟨(some 3), (.mv (.c (.int .i64 0))), none, []⟩] false)
  (.seq (.seq (.region [
    ⟨(some 9), (.mv (.s 0)), none, []⟩,
    ⟨(some 10), (.len false (.s 9)), none, [0]⟩,
    ⟨(some 11), (.mv (.c (.int .i64 0))), none, []⟩] false)
  (.block 0
   (.loop ⟨0, [], false, [0, 3, 9, 10, 11], []⟩
    (.seq (.region [
      ⟨(some 12), (.bin .lss (.s 11) (.s 10)), none, []⟩] false)
    (.seq (.cond (.s 12)
     .skip
     (.pre ⟨0, [], false, [0, 3], []⟩ (.exit 0)))
    (.seq (.block 1
     (.seq (.region [
       ⟨(some 13), (.iad 1 (.s 9) (.s 11)), none, []⟩,
       ⟨(some 14), (.ldc (.s 13)), none, [0]⟩,
       ⟨(some 5), (.mv (.s 14)), none, [1, 0, 1]⟩] false)
     (.seq (.region [
       ⟨(some 15), (.mv (.s 3)), none, []⟩,
       ⟨(some 16), (.mv (.s 5)), none, []⟩,
       ⟨(some 17), (.len false (.s 16)), none, [1]⟩,
       ⟨(some 18), (.bin .add (.s 15) (.s 17)), none, [0, 2]⟩,
       ⟨(some 3), (.mv (.s 18)), none, [3, 0, 1, 2, 3]⟩] false)
     (.seq (.region [
       ⟨(some 19), (.mv (.s 3)), none, []⟩,
       ⟨(some 20), (.bin .lss (.s 19) (.c (.int .i64 0))), none, [0]⟩] false)
     (.cond (.s 20)
      (.region [
        ⟨(some 21), .bad, none, []⟩,
        ⟨none, .bad, none, [0]⟩] false)
      .skip)))))
    (.region [
      ⟨(some 22), (.bin .add (.s 11) (.c (.int .i64 1))), none, []⟩,
      ⟨(some 11), (.mv (.s 22)), none, [0]⟩] false)))))))
  (.seq (.region [
    ⟨(some 23), (.mv (.s 3)), none, []⟩,
    ⟨(some 24), (.call (.c (.fn 64 [])) [(.c .nils), (.s 23)]), none, [0]⟩,
    ⟨(some 6), (.mv (.s 24)), none, [1, 1, 0, 1]⟩] false)
  (.seq (.seq (.region [
    ⟨(some 25), (.mv (.s 0)), none, []⟩,
    ⟨(some 26), (.len false (.s 25)), none, [0]⟩,
    ⟨(some 27), (.mv (.c (.int .i64 0))), none, []⟩] false)
  (.block 2
   (.loop ⟨1, [], false, [6, 25, 26, 27], []⟩
    (.seq (.region [
      ⟨(some 28), (.bin .lss (.s 27) (.s 26)), none, []⟩] false)
    (.seq (.cond (.s 28)
     .skip
     (.pre ⟨0, [], false, [6], []⟩ (.exit 2)))
    (.seq (.block 3
     (.seq (.region [
       ⟨(some 29), (.iad 1 (.s 25) (.s 27)), none, []⟩,
       ⟨(some 30), (.ldc (.s 29)), none, [0]⟩,
       ⟨(some 8), (.mv (.s 30)), none, [1, 0, 1]⟩] false)
     (.region [
       ⟨(some 31), (.mv (.s 6)), none, []⟩,
       ⟨(some 32), (.mv (.s 8)), none, []⟩,
       ⟨(some 33), (.app 1 1 (.s 31) (.s 32)), none, [0, 1]⟩,
       ⟨(some 6), (.mv (.s 33)), none, [2, 2, 0, 1, 2]⟩] false)))
    (.region [
      ⟨(some 34), (.bin .add (.s 27) (.c (.int .i64 1))), none, []⟩,
      ⟨(some 27), (.mv (.s 34)), none, [0]⟩] false)))))))
  (.seq (.region [
    ⟨(some 35), (.mv (.s 6)), none, []⟩,
    ⟨(some 2), (.mv (.s 35)), none, [0, 0]⟩] false)
  .ret)))))), false, (some [(Sh.sl (Sh.sl (Sh.int .u8)))]), none, false⟩

/-- euphroe/octs.Put -/
def k19 : Fun := ⟨3, 37, [0, 1, 2, 6, 7, 8, 9, 15, 19, 20, 21, 33], [(.tmp 6), (.tmp 7)],
  (.seq (.region [
    ⟨(some 6), (.mv (.c .nils)), none, []⟩,
    ⟨(some 7), (.mv (.c (.int .i64 0))), none, [0]⟩] false)
  (.seq (.seq (.region [
    ⟨(some 10), (.mv (.s 1)), none, []⟩,
    ⟨(some 11), (.bin .lss (.s 10) (.c (.int .i64 1))), none, [0]⟩,
    ⟨(some 12), (.mv (.s 11)), none, [1]⟩,
    ⟨(some 13), (.mv (.s 1)), (some (12, false)), [2]⟩,
    ⟨(some 14), (.bin .gtr (.s 13) (.c (.int .i64 8))), (some (12, false)), [3, 2]⟩,
    ⟨(some 15), (.pick (.s 12) (.c (.bool true)) (.s 14)), none, [2, 4]⟩] false)
  (.cond (.s 15)
   (.seq (.region [
     ⟨(some 6), (.mv (.c .nils)), none, []⟩,
     ⟨(some 7), (.mv (.c (.int .i64 1))), none, [0, 0]⟩] false)
   .ret)
   .skip))
  (.seq (.region [
    ⟨(some 16), (.mv (.s 1)), none, []⟩,
    ⟨(some 17), (.mks (.ints .u8 [0]) 1 1 (.s 16) (.s 16)), none, [0, 0]⟩,
    ⟨(some 8), (.mv (.s 17)), none, [1, 0, 1]⟩] false)
  (.seq (.seq (.region [
    ⟨(some 18), (.mv (.s 8)), none, []⟩,
    ⟨(some 19), (.len false (.s 18)), none, [0]⟩,
    ⟨(some 20), (.mv (.c (.int .i64 0))), none, []⟩] false)
  (.block 0
   (.loop ⟨0, [], false, [0, 2, 8, 19, 20], []⟩
    (.seq (.region [
      ⟨(some 21), (.bin .lss (.s 20) (.s 19)), none, []⟩] false)
    (.seq (.cond (.s 21)
     .skip
     (.pre ⟨0, [], false, [2, 8], []⟩ (.exit 0)))
    (.seq (.block 1
     (.seq (.region [
       ⟨(some 22), (.mv (.s 20)), none, []⟩,
       ⟨(some 9), (.mv (.s 22)), none, [0, 0]⟩] false)
     (.region [
       ⟨(some 23), (.mv (.s 8)), none, []⟩,
       ⟨(some 24), (.mv (.s 9)), none, []⟩,
       ⟨(some 25), (.mv (.s 0)), none, []⟩,
       ⟨(some 26), (.mv (.s 9)), none, []⟩,
       ⟨(some 27), (.bin .mul (.c (.int .i64 8)) (.s 26)), none, [3]⟩,
       ⟨(some 28), (.bin .shr (.s 25) (.s 27)), none, [2, 4]⟩,
       ⟨(some 29), (.cvi .u8 (.s 28)), none, [5]⟩,
       ⟨(some 30), (.iad 1 (.s 23) (.s 24)), none, [0, 1, 0, 1, 2, 3, 4, 5, 6]⟩,
       ⟨none, (.stc 1 (.s 30) (.s 29)), none, [7, 6, 0, 1, 2, 3, 4, 5, 6]⟩] false)))
    (.region [
      ⟨(some 31), (.bin .add (.s 20) (.c (.int .i64 1))), none, []⟩,
      ⟨(some 20), (.mv (.s 31)), none, [0]⟩] false)))))))
  (.seq (.seq (.region [
    ⟨(some 32), (.mv (.s 2)), none, []⟩,
    ⟨(some 33), (.un .not (.s 32)), none, [0]⟩] false)
  (.cond (.s 33)
   (.region [
     ⟨(some 34), (.mv (.s 8)), none, []⟩,
     ⟨(some 35), (.call (.c (.fn 48 [])) [(.s 34)]), none, [0]⟩] false)
   .skip))
  (.seq (.region [
    ⟨(some 36), (.mv (.s 8)), none, []⟩,
    ⟨(some 6), (.mv (.s 36)), none, [0, 0]⟩,
    ⟨(some 7), (.mv (.c (.int .i64 0))), none, [1, 0, 1]⟩] false)
  .ret)))))), false, (some [(Sh.int .u64), (Sh.int .i64), Sh.bool]), (some (Sh.tu (Sh.pr (Sh.sl (Sh.int .u8)) (Sh.int .i64)))), false⟩

/-- euphroe/octs.Get -/
def k21 : Fun := ⟨2, 39, [0, 1, 4, 5, 6, 7, 8, 16, 17, 18, 19, 20, 24], [(.tmp 4), (.tmp 5)],
  (.seq (.region [
    ⟨(some 4), (.mv (.c (.int .u64 0))), none, []⟩,
    ⟨(some 5), (.mv (.c (.int .i64 0))), none, [0]⟩] false)
  (.seq (.seq (.region [
    ⟨(some 9), (.mv (.s 0)), none, []⟩,
    ⟨(some 10), (.len false (.s 9)), none, [0]⟩,
    ⟨(some 11), (.bin .lss (.s 10) (.c (.int .i64 1))), none, [1]⟩,
    ⟨(some 12), (.mv (.s 11)), none, [2]⟩,
    ⟨(some 13), (.mv (.s 0)), (some (12, false)), [3]⟩,
    ⟨(some 14), (.len false (.s 13)), (some (12, false)), [4, 3]⟩,
    ⟨(some 15), (.bin .gtr (.s 14) (.c (.int .i64 8))), (some (12, false)), [5, 3]⟩,
    ⟨(some 16), (.pick (.s 12) (.c (.bool true)) (.s 15)), none, [3, 6]⟩] false)
  (.cond (.s 16)
   (.seq (.region [
     ⟨(some 4), (.mv (.c (.int .u64 0))), none, []⟩,
     ⟨(some 5), (.mv (.c (.int .i64 1))), none, [0, 0]⟩] false)
   .ret)
   .skip))
  (.seq (.region [
    ⟨(some 6), (.mv (.c (.int .u64 0))), none, []⟩] false)
  (.seq (.seq (.region [
    ⟨(some 17), (.mv (.s 0)), none, []⟩,
    ⟨(some 18), (.len false (.s 17)), none, [0]⟩,
    ⟨(some 19), (.mv (.c (.int .i64 0))), none, []⟩] false)
  (.block 0
   (.loop ⟨0, [], false, [1, 6, 17, 18, 19], []⟩
    (.seq (.region [
      ⟨(some 20), (.bin .lss (.s 19) (.s 18)), none, []⟩] false)
    (.seq (.cond (.s 20)
     .skip
     (.pre ⟨0, [], false, [6], []⟩ (.exit 0)))
    (.seq (.block 1
     (.seq (.region [
       ⟨(some 21), (.mv (.s 19)), none, []⟩,
       ⟨(some 22), (.iad 1 (.s 17) (.s 19)), none, []⟩,
       ⟨(some 23), (.ldc (.s 22)), none, [1]⟩,
       ⟨(some 7), (.mv (.s 21)), none, [0, 0, 1, 2]⟩,
       ⟨(some 8), (.mv (.s 23)), none, [2, 3, 0, 1, 2, 3]⟩] false)
     (.seq (.region [
       ⟨(some 24), (.mv (.s 1)), none, []⟩] false)
     (.cond (.s 24)
      (.region [
        ⟨(some 25), (.mv (.s 6)), none, []⟩,
        ⟨(some 26), (.mv (.s 8)), none, []⟩,
        ⟨(some 27), (.cvi .u64 (.s 26)), none, [1]⟩,
        ⟨(some 28), (.mv (.s 7)), none, []⟩,
        ⟨(some 29), (.bin .mul (.c (.int .i64 8)) (.s 28)), none, [3]⟩,
        ⟨(some 30), (.bin .shl (.s 27) (.s 29)), none, [2, 4]⟩,
        ⟨(some 31), (.bin .or (.s 25) (.s 30)), none, [0, 5]⟩,
        ⟨(some 6), (.mv (.s 31)), none, [6, 0, 1, 2, 3, 4, 5, 6]⟩] false)
      (.region [
        ⟨(some 32), (.mv (.s 6)), none, []⟩,
        ⟨(some 33), (.bin .shl (.s 32) (.c (.int .u64 8))), none, [0]⟩,
        ⟨(some 34), (.mv (.s 8)), none, []⟩,
        ⟨(some 35), (.cvi .u64 (.s 34)), none, [2]⟩,
        ⟨(some 36), (.bin .or (.s 33) (.s 35)), none, [1, 3]⟩,
        ⟨(some 6), (.mv (.s 36)), none, [4, 0, 1, 2, 3, 4]⟩] false)))))
    (.region [
      ⟨(some 37), (.bin .add (.s 19) (.c (.int .i64 1))), none, []⟩,
      ⟨(some 19), (.mv (.s 37)), none, [0]⟩] false)))))))
  (.seq (.region [
    ⟨(some 38), (.mv (.s 6)), none, []⟩,
    ⟨(some 4), (.mv (.s 38)), none, [0, 0]⟩,
    ⟨(some 5), (.mv (.c (.int .i64 0))), none, [1, 0, 1]⟩] false)
  .ret))))), false, (some [(Sh.sl (Sh.int .u8)), Sh.bool]), (some (Sh.tu (Sh.pr (Sh.int .u64) (Sh.int .i64)))), false⟩

/-- euphroe/euphroeref01.Same -/
def k23 : Fun := ⟨2, 26, [0, 1, 4, 5, 10, 14, 25], [(.tmp 4)],
  (.seq (.region [
    ⟨(some 4), (.mv (.c (.bool false))), none, []⟩] false)
  (.seq (.seq (.region [
    ⟨(some 6), (.mv (.s 0)), none, []⟩,
    ⟨(some 7), (.len false (.s 6)), none, [0]⟩,
    ⟨(some 8), (.mv (.s 1)), none, []⟩,
    ⟨(some 9), (.len false (.s 8)), none, [2]⟩,
    ⟨(some 10), (.bin .neq (.s 7) (.s 9)), none, [1, 3]⟩] false)
  (.cond (.s 10)
   (.seq (.region [
     ⟨(some 4), (.mv (.c (.bool false))), none, []⟩] false)
   .ret)
   .skip))
  (.seq (.seq (.region [
    ⟨(some 5), (.mv (.c (.int .i64 0))), none, []⟩] false)
  (.block 0
   (.loop ⟨0, [], false, [0, 1, 5], []⟩
    (.seq (.seq (.region [
      ⟨(some 11), (.mv (.s 5)), none, []⟩,
      ⟨(some 12), (.mv (.s 0)), none, []⟩,
      ⟨(some 13), (.len false (.s 12)), none, [1]⟩,
      ⟨(some 14), (.bin .lss (.s 11) (.s 13)), none, [0, 2]⟩] false)
    (.cond (.s 14)
     .skip
     (.pre ⟨0, [], false, [], []⟩ (.exit 0))))
    (.seq (.block 1
     (.seq (.region [
       ⟨(some 17), (.mv (.s 0)), none, []⟩,
       ⟨(some 18), (.mv (.s 5)), none, []⟩,
       ⟨(some 19), (.iad 1 (.s 17) (.s 18)), none, [0, 1]⟩,
       ⟨(some 20), (.ldc (.s 19)), none, [2]⟩,
       ⟨(some 21), (.mv (.s 1)), none, []⟩,
       ⟨(some 22), (.mv (.s 5)), none, []⟩,
       ⟨(some 23), (.iad 1 (.s 21) (.s 22)), none, [4, 5]⟩,
       ⟨(some 24), (.ldc (.s 23)), none, [6]⟩,
       ⟨(some 25), (.bin .neq (.s 20) (.s 24)), none, [3, 7]⟩] true)
     (.cond (.s 25)
      (.seq (.region [
        ⟨(some 4), (.mv (.c (.bool false))), none, []⟩] false)
      .ret)
      .skip)))
    (.region [
      ⟨(some 15), (.mv (.s 5)), none, []⟩,
      ⟨(some 16), (.bin .add (.s 15) (.c (.int .i64 1))), none, [0]⟩,
      ⟨(some 5), (.mv (.s 16)), none, [1, 0, 1]⟩] false))))))
  (.seq (.region [
    ⟨(some 4), (.mv (.c (.bool true))), none, []⟩] false)
  .ret)))), false, (some [(Sh.sl (Sh.int .u8)), (Sh.sl (Sh.int .u8))]), (some Sh.bool), false⟩

/-- euphroe/octs.Join -/
def k46 : Fun := ⟨1, 5, [0, 2], [(.tmp 2)],
  (.seq (.region [
    ⟨(some 2), (.mv (.c .nils)), none, []⟩] false)
  (.seq (.region [
    ⟨(some 3), (.mv (.s 0)), none, []⟩,
    ⟨(some 4), (.call (.c (.fn 1 [])) [(.s 3)]), none, [0]⟩,
    ⟨(some 2), (.mv (.s 4)), none, [1, 1, 0, 1]⟩] false)
  .ret)), false, (some [(Sh.sl (Sh.sl (Sh.int .u8)))]), none, false⟩

/-- slices.Reverse[[]byte,byte] -/
def k48 : Fun := ⟨1, 28, [0, 2, 3, 9], [],
  (.seq (.region [
    ⟨(some 4), (.mv (.s 0)), none, []⟩,
    ⟨(some 5), (.len false (.s 4)), none, [0]⟩,
    ⟨(some 6), (.bin .sub (.s 5) (.c (.int .i64 1))), none, [1]⟩,
    ⟨(some 2), (.mv (.c (.int .i64 0))), none, []⟩,
    ⟨(some 3), (.mv (.s 6)), none, [2, 3, 0, 1, 2, 3]⟩] false)
  (.block 0
   (.loop ⟨0, [], false, [0, 2, 3], []⟩
    (.seq (.seq (.region [
      ⟨(some 7), (.mv (.s 2)), none, []⟩,
      ⟨(some 8), (.mv (.s 3)), none, []⟩,
      ⟨(some 9), (.bin .lss (.s 7) (.s 8)), none, [0, 1]⟩] false)
    (.cond (.s 9)
     .skip
     (.pre ⟨0, [], false, [], []⟩ (.exit 0))))
    (.seq (.block 1
     (.region [
       ⟨(some 14), (.mv (.s 0)), none, []⟩,
       ⟨(some 15), (.mv (.s 2)), none, []⟩,
       ⟨(some 16), (.mv (.s 0)), none, []⟩,
       ⟨(some 17), (.mv (.s 3)), none, []⟩,
       ⟨(some 18), (.mv (.s 0)), none, []⟩,
       ⟨(some 19), (.mv (.s 3)), none, []⟩,
       ⟨(some 20), (.iad 1 (.s 18) (.s 19)), none, [4, 5]⟩,
       ⟨(some 21), (.ldc (.s 20)), none, [6]⟩,
       ⟨(some 22), (.mv (.s 0)), none, []⟩,
       ⟨(some 23), (.mv (.s 2)), none, []⟩,
       ⟨(some 24), (.iad 1 (.s 22) (.s 23)), none, [8, 9]⟩,
       ⟨(some 25), (.ldc (.s 24)), none, [10]⟩,
       ⟨(some 26), (.iad 1 (.s 14) (.s 15)), none, [0, 1, 0, 1, 4, 5, 6, 7, 11]⟩,
       ⟨none, (.stc 1 (.s 26) (.s 21)), none, [12, 7, 0, 1, 4, 5, 6, 7, 11]⟩,
       ⟨(some 27), (.iad 1 (.s 16) (.s 17)), none, [2, 3, 0, 1, 2, 3, 4, 5, 6, 7, 8, 9, 10, 11, 12, 13]⟩,
       ⟨none, (.stc 1 (.s 27) (.s 25)), none, [14, 11, 13, 0, 1, 2, 3, 4, 5, 6, 7, 8, 9, 10, 11, 12, 13]⟩] true))
    (.region [
      ⟨(some 10), (.mv (.s 2)), none, []⟩,
      ⟨(some 11), (.bin .add (.s 10) (.c (.int .i64 1))), none, [0]⟩,
      ⟨(some 12), (.mv (.s 3)), none, []⟩,
      ⟨(some 13), (.bin .sub (.s 12) (.c (.int .i64 1))), none, [2]⟩,
      ⟨(some 2), (.mv (.s 11)), none, [1, 0, 1]⟩,
      ⟨(some 3), (.mv (.s 13)), none, [3, 4, 0, 1, 2, 3, 4]⟩] false)))))), true, none, none, false⟩

/-- euphroe/euphroeref01.Big -/
def k50 : Fun := ⟨2, 24, [0, 1, 4, 5, 6, 12], [(.tmp 4)],
  (.seq (.region [
    ⟨(some 4), (.mv (.c .nils)), none, []⟩] false)
  (.seq (.region [
    ⟨(some 7), (.mv (.s 1)), none, []⟩,
    ⟨(some 8), (.mks (.ints .u8 [0]) 1 1 (.s 7) (.s 7)), none, [0, 0]⟩,
    ⟨(some 5), (.mv (.s 8)), none, [1, 0, 1]⟩] false)
  (.seq (.seq (.region [
    ⟨(some 9), (.mv (.s 1)), none, []⟩,
    ⟨(some 10), (.bin .sub (.s 9) (.c (.int .i64 1))), none, [0]⟩,
    ⟨(some 6), (.mv (.s 10)), none, [1, 0, 1]⟩] false)
  (.block 0
   (.loop ⟨0, [], false, [0, 5, 6], []⟩
    (.seq (.seq (.region [
      ⟨(some 11), (.mv (.s 6)), none, []⟩,
      ⟨(some 12), (.bin .geq (.s 11) (.c (.int .i64 0))), none, [0]⟩] false)
    (.cond (.s 12)
     .skip
     (.pre ⟨0, [], false, [5], []⟩ (.exit 0))))
    (.seq (.block 1
     (.seq (.region [
       ⟨(some 15), (.mv (.s 5)), none, []⟩,
       ⟨(some 16), (.mv (.s 6)), none, []⟩,
       ⟨(some 17), (.mv (.s 0)), none, []⟩,
       ⟨(some 18), (.bin .rem (.s 17) (.c (.int .u64 256))), none, [2]⟩,
       ⟨(some 19), (.cvi .u8 (.s 18)), none, [3]⟩,
       ⟨(some 20), (.iad 1 (.s 15) (.s 16)), none, [0, 1, 0, 1, 2, 3, 4]⟩,
       ⟨none, (.stc 1 (.s 20) (.s 19)), none, [5, 4, 0, 1, 2, 3, 4]⟩] false)
     (.region [
       ⟨(some 21), (.mv (.s 0)), none, []⟩,
       ⟨(some 22), (.bin .quo (.s 21) (.c (.int .u64 256))), none, [0]⟩,
       ⟨(some 0), (.mv (.s 22)), none, [1, 0, 1]⟩] false)))
    (.region [
      ⟨(some 13), (.mv (.s 6)), none, []⟩,
      ⟨(some 14), (.bin .sub (.s 13) (.c (.int .i64 1))), none, [0]⟩,
      ⟨(some 6), (.mv (.s 14)), none, [1, 0, 1]⟩] false))))))
  (.seq (.region [
    ⟨(some 23), (.mv (.s 5)), none, []⟩,
    ⟨(some 4), (.mv (.s 23)), none, [0, 0]⟩] false)
  (.pre ⟨0, [], true, [], [(4, (.ints .u8 []), 1)]⟩ .ret))))), false, (some [(Sh.int .u64), (Sh.int .i64)]), none, false⟩

/-- euphroe/euphroeref01.Num -/
def k51 : Fun := ⟨1, 20, [0, 2, 3, 4, 8], [(.tmp 2)],
  (.seq (.region [
    ⟨(some 2), (.mv (.c (.int .u64 0))), none, []⟩] false)
  (.seq (.region [
    ⟨(some 3), (.mv (.c (.int .u64 0))), none, []⟩] false)
  (.seq (.seq (.region [
    ⟨(some 4), (.mv (.c (.int .i64 0))), none, []⟩] false)
  (.block 0
   (.loop ⟨0, [], false, [0, 3, 4], []⟩
    (.seq (.seq (.region [
      ⟨(some 5), (.mv (.s 4)), none, []⟩,
      ⟨(some 6), (.mv (.s 0)), none, []⟩,
      ⟨(some 7), (.len false (.s 6)), none, [1]⟩,
      ⟨(some 8), (.bin .lss (.s 5) (.s 7)), none, [0, 2]⟩] false)
    (.cond (.s 8)
     .skip
     (.pre ⟨0, [], false, [3], []⟩ (.exit 0))))
    (.seq (.block 1
     (.region [
       ⟨(some 11), (.mv (.s 3)), none, []⟩,
       ⟨(some 12), (.bin .mul (.s 11) (.c (.int .u64 256))), none, [0]⟩,
       ⟨(some 13), (.mv (.s 0)), none, []⟩,
       ⟨(some 14), (.mv (.s 4)), none, []⟩,
       ⟨(some 15), (.iad 1 (.s 13) (.s 14)), none, [2, 3]⟩,
       ⟨(some 16), (.ldc (.s 15)), none, [4]⟩,
       ⟨(some 17), (.cvi .u64 (.s 16)), none, [5]⟩,
       ⟨(some 18), (.bin .add (.s 12) (.s 17)), none, [1, 6]⟩,
       ⟨(some 3), (.mv (.s 18)), none, [7, 0, 1, 2, 3, 4, 5, 6, 7]⟩] false))
    (.region [
      ⟨(some 9), (.mv (.s 4)), none, []⟩,
      ⟨(some 10), (.bin .add (.s 9) (.c (.int .i64 1))), none, [0]⟩,
      ⟨(some 4), (.mv (.s 10)), none, [1, 0, 1]⟩] false))))))
  (.seq (.region [
    ⟨(some 19), (.mv (.s 3)), none, []⟩,
    ⟨(some 2), (.mv (.s 19)), none, [0, 0]⟩] false)
  .ret)))), false, (some [(Sh.sl (Sh.int .u8))]), (some (Sh.int .u64)), false⟩

/-- slices.Grow[[]byte,byte] -/
def k64 : Fun := ⟨2, 27, [0, 1, 4, 6, 16], [(.tmp 4)],
  (.seq (.region [
    ⟨(some 4), (.mv (.c .nils)), none, []⟩] false)
  (.seq (.seq (.region [
    ⟨(some 5), (.mv (.s 1)), none, []⟩,
    ⟨(some 6), (.bin .lss (.s 5) (.c (.int .i64 0))), none, [0]⟩] false)
  (.cond (.s 6)
   (.region [
     ⟨(some 7), .bad, none, []⟩,
     ⟨none, .bad, none, [0]⟩] false)
   .skip))
  (.seq (.seq (.region [
    ⟨(some 8), (.mv (.s 1)), none, []⟩,
    ⟨(some 9), (.mv (.s 0)), none, []⟩,
    ⟨(some 10), (.cap (.s 9)), none, [1]⟩,
    ⟨(some 11), (.mv (.s 0)), none, []⟩,
    ⟨(some 12), (.len false (.s 11)), none, [3]⟩,
    ⟨(some 13), (.bin .sub (.s 10) (.s 12)), none, [2, 4]⟩,
    ⟨(some 14), (.bin .sub (.s 8) (.s 13)), none, [0, 5]⟩,
    ⟨(some 1), (.mv (.s 14)), none, [6, 0, 1, 2, 3, 4, 5, 6]⟩] false)
  (.seq (.region [
    ⟨(some 15), (.mv (.s 1)), none, []⟩,
    ⟨(some 16), (.bin .gtr (.s 15) (.c (.int .i64 0))), none, [0]⟩] false)
  (.cond (.s 16)
   (.region [
     ⟨(some 17), (.mv (.s 0)), none, []⟩,
     ⟨(some 18), (.mv (.s 0)), none, []⟩,
     ⟨(some 19), (.cap (.s 18)), none, [1]⟩,
     ⟨(some 20), (.sls 1 (.s 17) none (some (.s 19)) none), none, [0, 2]⟩,
     ⟨(some 21), (.mv (.s 1)), none, []⟩,
     ⟨(some 22), (.apz 1 1 (.ints .u8 [0]) (.s 20) (.s 21)), none, [3, 4]⟩,
     ⟨(some 23), (.mv (.s 0)), none, []⟩,
     ⟨(some 24), (.len false (.s 23)), none, [6]⟩,
     ⟨(some 25), (.sls 1 (.s 22) none (some (.s 24)) none), none, [5, 7]⟩,
     ⟨(some 0), (.mv (.s 25)), none, [8, 5, 0, 1, 2, 3, 4, 5, 6, 7, 8]⟩] false)
   .skip)))
  (.seq (.region [
    ⟨(some 26), (.mv (.s 0)), none, []⟩,
    ⟨(some 4), (.mv (.s 26)), none, [0, 0]⟩] false)
  (.pre ⟨0, [], true, [], [(4, (.ints .u8 []), 1)]⟩ .ret))))), false, none, none, false⟩

/-- euphroe/euphroelaw17.AttrLays -/
def k124 : Fun := ⟨2, 115, [0, 1, 2, 4, 5, 6, 7, 8, 9, 10, 11, 12, 13, 14, 15, 16, 17, 26], [(.tmp 4)],
  (.seq (.region [
    ⟨(some 2), (.box (.s 0)), none, []⟩,
    ⟨(some 4), (.mv (.c (.bool false))), none, []⟩] false)
  (.seq (.seq (.region [
    ⟨(some 18), (.fad 1 (.s 2)), none, []⟩,
    ⟨(some 19), (.ldc (.s 18)), none, [0]⟩,
    ⟨(some 20), (.len false (.s 19)), none, [1]⟩,
    ⟨(some 21), (.bin .gtr (.s 20) (.c (.int .i64 5000))), none, [2]⟩,
    ⟨(some 22), (.mv (.s 21)), none, [3]⟩,
    ⟨(some 23), (.mv (.s 1)), (some (22, false)), [4]⟩,
    ⟨(some 24), (.len false (.s 23)), (some (22, false)), [5, 4]⟩,
    ⟨(some 25), (.bin .gtr (.s 24) (.c (.int .i64 5000))), (some (22, false)), [6, 4]⟩,
    ⟨(some 26), (.pick (.s 22) (.c (.bool true)) (.s 25)), none, [4, 7]⟩] false)
  (.cond (.s 26)
   (.seq (.region [
     ⟨(some 27), (.call (.c (.fn 138 [])) []), none, []⟩,
     ⟨(some 4), (.mv (.s 27)), none, [0, 0, 0]⟩] false)
   .ret)
   .skip))
  (.seq (.region [
    ⟨(some 29), (.lda 2 none (.s 2)), none, []⟩,
    ⟨(some 30), (.call (.c (.fn 140 [])) [(.s 29)]), none, [0]⟩,
    ⟨(some 31), (.call (.c (.fn 139 [])) [(.s 30)]), none, [1, 1]⟩,
    ⟨(some 28), (.mv (.s 31)), none, [2]⟩,
    ⟨(some 32), (.ext (.s 28) 0), none, [3]⟩,
    ⟨(some 33), (.ext (.s 28) 1), none, [3]⟩,
    ⟨(some 5), (.mv (.s 32)), none, [4, 2, 0, 1, 2, 3, 4]⟩,
    ⟨(some 6), (.mv (.s 33)), none, [5, 6, 0, 1, 2, 3, 4, 5, 6]⟩] false)
  (.seq (.region [
    ⟨(some 35), (.lda 2 none (.s 2)), none, []⟩,
    ⟨(some 36), (.call (.c (.fn 141 [])) [(.s 35)]), none, [0]⟩,
    ⟨(some 34), (.mv (.s 36)), none, [1]⟩,
    ⟨(some 37), (.ext (.s 34) 0), none, [2]⟩,
    ⟨(some 38), (.ext (.s 34) 1), none, [2]⟩,
    ⟨(some 7), (.mv (.s 37)), none, [3, 1, 0, 1, 2, 3]⟩,
    ⟨(some 8), (.mv (.s 38)), none, [4, 5, 0, 1, 2, 3, 4, 5]⟩] false)
  (.seq (.region [
    ⟨(some 40), (.mv (.s 1)), none, []⟩,
    ⟨(some 41), (.call (.c (.fn 142 [])) [(.s 40)]), none, [0]⟩,
    ⟨(some 39), (.mv (.s 41)), none, [1]⟩,
    ⟨(some 42), (.ext (.s 39) 0), none, [2]⟩,
    ⟨(some 43), (.ext (.s 39) 1), none, [2]⟩,
    ⟨(some 44), (.ext (.s 39) 2), none, [2]⟩,
    ⟨(some 9), (.new (.vals [(.int .u8 0), .nils])), none, []⟩,
    ⟨none, (.stc 2 (.s 9) (.s 42)), none, [6, 3, 1, 0, 1, 2, 3, 6]⟩,
    ⟨(some 10), (.mv (.s 43)), none, [4, 7, 0, 1, 2, 3, 4, 6, 7]⟩,
    ⟨(some 11), (.mv (.s 44)), none, [5, 8, 0, 1, 2, 3, 4, 5, 6, 7, 8]⟩] false)
  (.seq (.region [
    ⟨(some 46), (.mv (.s 1)), none, []⟩,
    ⟨(some 47), (.call (.c (.fn 143 [])) [(.s 46)]), none, [0]⟩,
    ⟨(some 45), (.mv (.s 47)), none, [1]⟩,
    ⟨(some 48), (.ext (.s 45) 0), none, [2]⟩,
    ⟨(some 49), (.ext (.s 45) 1), none, [2]⟩,
    ⟨(some 50), (.ext (.s 45) 2), none, [2]⟩,
    ⟨(some 12), (.new (.vals [(.int .u8 0), .nils])), none, []⟩,
    ⟨none, (.stc 2 (.s 12) (.s 48)), none, [6, 3, 1, 0, 1, 2, 3, 6]⟩,
    ⟨(some 13), (.mv (.s 49)), none, [4, 7, 0, 1, 2, 3, 4, 6, 7]⟩,
    ⟨(some 14), (.mv (.s 50)), none, [5, 8, 0, 1, 2, 3, 4, 5, 6, 7, 8]⟩] false)
  (.seq (.region [
    ⟨(some 52), (.mv (.s 5)), none, []⟩,
    ⟨(some 53), (.app 1 1 (.c .nils) (.s 52)), none, [0]⟩,
    ⟨(some 54), (.mv (.s 1)), none, []⟩,
    ⟨(some 55), (.app 1 1 (.s 53) (.s 54)), none, [1, 2, 1]⟩,
    ⟨(some 56), (.call (.c (.fn 142 [])) [(.s 55)]), none, [3, 3]⟩,
    ⟨(some 51), (.mv (.s 56)), none, [4]⟩,
    ⟨(some 57), (.ext (.s 51) 0), none, [5]⟩,
    ⟨(some 58), (.ext (.s 51) 1), none, [5]⟩,
    ⟨(some 59), (.ext (.s 51) 2), none, [5]⟩,
    ⟨(some 15), (.new (.vals [(.int .u8 0), .nils])), none, []⟩,
    ⟨none, (.stc 2 (.s 15) (.s 57)), none, [9, 6, 4, 0, 1, 2, 3, 4, 5, 6, 9]⟩,
    ⟨(some 16), (.mv (.s 58)), none, [7, 10, 0, 1, 2, 3, 4, 5, 6, 7, 9, 10]⟩,
    ⟨(some 17), (.mv (.s 59)), none, [8, 11, 0, 1, 2, 3, 4, 5, 6, 7, 8, 9, 10, 11]⟩] false)
  (.seq (.region [
    ⟨(some 60), (.mv (.s 5)), none, []⟩,
    ⟨(some 61), (.mv (.s 7)), none, []⟩,
    ⟨(some 62), (.call (.c (.fn 23 [])) [(.s 60), (.s 61)]), none, [0, 1]⟩,
    ⟨(some 63), (.mv (.s 62)), none, [2, 2]⟩,
    ⟨(some 64), (.mv (.s 6)), (some (63, true)), [3]⟩,
    ⟨(some 65), (.mv (.s 8)), (some (63, true)), [3]⟩,
    ⟨(some 66), (.bin .eql (.s 64) (.s 65)), (some (63, true)), [4, 5, 3]⟩,
    ⟨(some 67), (.pick (.s 63) (.s 66) (.c (.bool false))), none, [3, 6]⟩,
    ⟨(some 68), (.mv (.s 67)), none, [7, 3]⟩,
    ⟨(some 69), (.lda 2 none (.s 9)), (some (68, true)), [8]⟩,
    ⟨(some 70), (.lda 2 none (.s 12)), (some (68, true)), [8]⟩,
    ⟨(some 71), (.call (.c (.fn 140 [])) [(.s 70)]), (some (68, true)), [10, 8, 8]⟩,
    ⟨(some 72), (.call (.c (.fn 144 [])) [(.s 69), (.s 71)]), (some (68, true)), [9, 11, 11, 8]⟩,
    ⟨(some 73), (.pick (.s 68) (.s 72) (.c (.bool false))), none, [8, 12]⟩,
    ⟨(some 74), (.mv (.s 73)), none, [13, 12]⟩,
    ⟨(some 75), (.mv (.s 10)), (some (74, true)), [14]⟩,
    ⟨(some 76), (.mv (.s 13)), (some (74, true)), [14]⟩,
    ⟨(some 77), (.bin .eql (.s 75) (.s 76)), (some (74, true)), [15, 16, 14]⟩,
    ⟨(some 78), (.pick (.s 74) (.s 77) (.c (.bool false))), none, [14, 17]⟩,
    ⟨(some 79), (.mv (.s 78)), none, [18, 14]⟩,
    ⟨(some 80), (.mv (.s 11)), (some (79, true)), [19]⟩,
    ⟨(some 81), (.mv (.s 14)), (some (79, true)), [19]⟩,
    ⟨(some 82), (.bin .eql (.s 80) (.s 81)), (some (79, true)), [20, 21, 19]⟩,
    ⟨(some 83), (.pick (.s 79) (.s 82) (.c (.bool false))), none, [19, 22]⟩,
    ⟨(some 84), (.mv (.s 83)), none, [23, 19]⟩,
    ⟨(some 85), (.lda 2 none (.s 2)), (some (84, true)), [24]⟩,
    ⟨(some 86), (.call (.c (.fn 140 [])) [(.s 85)]), (some (84, true)), [25, 24, 24]⟩,
    ⟨(some 87), (.call (.c (.fn 145 [])) [(.s 86)]), (some (84, true)), [26, 26, 24]⟩,
    ⟨(some 88), (.lda 2 none (.s 2)), (some (84, true)), [24]⟩,
    ⟨(some 89), (.call (.c (.fn 146 [])) [(.s 88)]), (some (84, true)), [28, 27, 24]⟩,
    ⟨(some 90), (.bin .eql (.s 87) (.s 89)), (some (84, true)), [27, 29, 24]⟩,
    ⟨(some 91), (.pick (.s 84) (.s 90) (.c (.bool false))), none, [24, 30]⟩,
    ⟨(some 92), (.mv (.s 91)), none, [31, 29]⟩,
    ⟨(some 93), (.mv (.s 6)), (some (92, true)), [32]⟩,
    ⟨(some 94), (.bin .neq (.s 93) (.c (.int .i64 0))), (some (92, true)), [33, 32]⟩,
    ⟨(some 95), (.mv (.s 94)), (some (92, true)), [34, 32, 32]⟩,
    ⟨(some 96), (.lda 2 none (.s 15)), (some (95, false)), [35]⟩,
    ⟨(some 97), (.lda 2 none (.s 2)), (some (95, false)), [35]⟩,
    ⟨(some 98), (.call (.c (.fn 140 [])) [(.s 97)]), (some (95, false)), [37, 35, 35]⟩,
    ⟨(some 99), (.call (.c (.fn 144 [])) [(.s 96), (.s 98)]), (some (95, false)), [36, 38, 38, 35]⟩,
    ⟨(some 100), (.mv (.s 99)), (some (95, false)), [39, 39, 35]⟩,
    ⟨(some 101), (.mv (.s 16)), (some (100, true)), [40]⟩,
    ⟨(some 102), (.mv (.s 5)), (some (100, true)), [40]⟩,
    ⟨(some 103), (.len false (.s 102)), (some (100, true)), [42, 40]⟩,
    ⟨(some 104), (.bin .eql (.s 101) (.s 103)), (some (100, true)), [41, 43, 40]⟩,
    ⟨(some 105), (.pick (.s 100) (.s 104) (.c (.bool false))), (some (95, false)), [40, 44, 35]⟩,
    ⟨(some 106), (.mv (.s 105)), (some (95, false)), [45, 40, 35]⟩,
    ⟨(some 107), (.mv (.s 17)), (some (106, true)), [46]⟩,
    ⟨(some 108), (.bin .eql (.s 107) (.c (.int .i64 0))), (some (106, true)), [47, 46]⟩,
    ⟨(some 109), (.pick (.s 106) (.s 108) (.c (.bool false))), (some (95, false)), [46, 48, 35]⟩,
    ⟨(some 110), (.pick (.s 95) (.c (.bool true)) (.s 109)), (some (92, true)), [35, 49, 32]⟩,
    ⟨(some 111), (.pick (.s 92) (.s 110) (.c (.bool false))), none, [32, 50]⟩,
    ⟨(some 112), (.mv (.s 111)), none, [51, 46]⟩,
    ⟨(some 113), (.call (.c (.fn 138 [])) []), (some (112, true)), [52, 52]⟩,
    ⟨(some 114), (.pick (.s 112) (.s 113) (.c (.bool false))), none, [52, 53]⟩,
    ⟨(some 4), (.mv (.s 114)), none, [54, 53, 0, 1, 2, 3, 4, 5, 6, 7, 8, 9, 10, 11, 12, 13, 14, 15, 16, 17, 18, 19, 20, 21, 22, 23, 24, 25, 26, 27, 28, 29, 30, 31, 32, 33, 34, 35, 36, 37, 38, 39, 40, 41, 42, 43, 44, 45, 46, 47, 48, 49, 50, 51, 52, 53, 54]⟩] true)
  .ret)))))))), false, (some [(Sh.st (Sh.pr (Sh.int .u8) (Sh.sl (Sh.int .u8)))), (Sh.sl (Sh.int .u8))]), (some Sh.bool), false⟩

/-- euphroe/euphroelaw17.AttrMakes -/
def k125 : Fun := ⟨3, 181, [0, 1, 2, 3, 4, 5, 6, 7, 8, 9, 10, 11, 12, 13, 14, 15, 16, 17, 21, 65, 112], [(.tmp 6)],
  (.seq (.region [
    ⟨(some 3), (.box (.s 0)), none, []⟩,
    ⟨(some 4), (.box (.s 1)), none, []⟩,
    ⟨(some 5), (.box (.s 2)), none, []⟩,
    ⟨(some 6), (.mv (.c (.bool false))), none, []⟩] false)
  (.seq (.seq (.region [
    ⟨(some 18), (.fad 2 (.s 3)), none, []⟩,
    ⟨(some 19), (.ldc (.s 18)), none, [0]⟩,
    ⟨(some 20), (.len false (.s 19)), none, [1]⟩,
    ⟨(some 21), (.bin .gtr (.s 20) (.c (.int .i64 300))), none, [2]⟩] false)
  (.cond (.s 21)
   (.seq (.region [
     ⟨(some 22), (.call (.c (.fn 138 [])) []), none, []⟩,
     ⟨(some 6), (.mv (.s 22)), none, [0, 0, 0]⟩] false)
   .ret)
   .skip))
  (.seq (.region [
    ⟨(some 23), (.lda 3 none (.s 3)), none, []⟩,
    ⟨(some 24), (.call (.c (.fn 147 [])) [(.s 23)]), none, [0]⟩,
    ⟨(some 25), (.lda 97 (some .u8) (.s 4)), none, []⟩,
    ⟨(some 26), (.call (.c (.fn 148 [])) [(.s 25)]), none, [2, 1]⟩,
    ⟨(some 27), (.lda 33 (some .u8) (.s 5)), none, []⟩,
    ⟨(some 28), (.call (.c (.fn 149 [])) [(.s 27)]), none, [4, 3]⟩,
    ⟨(some 7), (.new (.vals [(.int .u8 0), .nils])), none, []⟩,
    ⟨(some 8), (.new (.vals [(.int .u8 0), .nils])), none, []⟩,
    ⟨(some 9), (.new (.vals [(.int .u8 0), .nils])), none, []⟩,
    ⟨none, (.stc 2 (.s 7) (.s 24)), none, [6, 1, 5, 0, 1, 6, 7, 8]⟩,
    ⟨none, (.stc 2 (.s 8) (.s 26)), none, [7, 3, 9, 0, 1, 2, 3, 6, 7, 8, 9]⟩,
    ⟨none, (.stc 2 (.s 9) (.s 28)), none, [8, 5, 10, 0, 1, 2, 3, 4, 5, 6, 7, 8, 9, 10]⟩] true)
  (.seq (.seq (.region [
    ⟨(some 29), (.lda 2 none (.s 7)), none, []⟩,
    ⟨(some 30), (.fad 0 (.s 3)), none, []⟩,
    ⟨(some 31), (.ldc (.s 30)), none, [1]⟩,
    ⟨(some 32), (.fad 1 (.s 3)), none, []⟩,
    ⟨(some 33), (.ldc (.s 32)), none, [3]⟩,
    ⟨(some 34), (.fad 2 (.s 3)), none, []⟩,
    ⟨(some 35), (.ldc (.s 34)), none, [5]⟩,
    ⟨(some 36), (.call (.c (.fn 150 [])) [(.s 31), (.s 33), (.s 35)]), none, [2, 4, 6]⟩,
    ⟨(some 37), (.call (.c (.fn 140 [])) [(.s 36)]), none, [7, 7]⟩,
    ⟨(some 38), (.call (.c (.fn 144 [])) [(.s 29), (.s 37)]), none, [0, 8, 8]⟩,
    ⟨(some 39), (.un .not (.s 38)), none, [9]⟩,
    ⟨(some 40), (.mv (.s 39)), none, [10, 9]⟩,
    ⟨(some 41), (.lda 2 none (.s 8)), (some (40, false)), [11]⟩,
    ⟨(some 42), (.fad 0 (.s 4)), (some (40, false)), [11]⟩,
    ⟨(some 43), (.ldc (.s 42)), (some (40, false)), [13, 11]⟩,
    ⟨(some 44), (.fad 1 (.s 4)), (some (40, false)), [11]⟩,
    ⟨(some 45), (.lda 32 (some .u8) (.s 44)), (some (40, false)), [15, 11]⟩,
    ⟨(some 46), (.fad 33 (.s 4)), (some (40, false)), [11]⟩,
    ⟨(some 47), (.lda 32 (some .u8) (.s 46)), (some (40, false)), [17, 11]⟩,
    ⟨(some 48), (.fad 65 (.s 4)), (some (40, false)), [11]⟩,
    ⟨(some 49), (.lda 32 (some .u8) (.s 48)), (some (40, false)), [19, 11]⟩,
    ⟨(some 50), (.call (.c (.fn 151 [])) [(.s 43), (.s 45), (.s 47), (.s 49)]), (some (40, false)), [14, 16, 18, 20, 11, 11]⟩,
    ⟨(some 51), (.call (.c (.fn 140 [])) [(.s 50)]), (some (40, false)), [21, 21, 11]⟩,
    ⟨(some 52), (.call (.c (.fn 144 [])) [(.s 41), (.s 51)]), (some (40, false)), [12, 22, 22, 11]⟩,
    ⟨(some 53), (.un .not (.s 52)), (some (40, false)), [23, 11]⟩,
    ⟨(some 54), (.pick (.s 40) (.c (.bool true)) (.s 53)), none, [11, 24]⟩,
    ⟨(some 55), (.mv (.s 54)), none, [25, 23]⟩,
    ⟨(some 56), (.lda 2 none (.s 9)), (some (55, false)), [26]⟩,
    ⟨(some 57), (.fad 0 (.s 5)), (some (55, false)), [26]⟩,
    ⟨(some 58), (.ldc (.s 57)), (some (55, false)), [28, 26]⟩,
    ⟨(some 59), (.fad 1 (.s 5)), (some (55, false)), [26]⟩,
    ⟨(some 60), (.lda 32 (some .u8) (.s 59)), (some (55, false)), [30, 26]⟩,
    ⟨(some 61), (.call (.c (.fn 152 [])) [(.s 58), (.s 60)]), (some (55, false)), [29, 31, 26, 26]⟩,
    ⟨(some 62), (.call (.c (.fn 140 [])) [(.s 61)]), (some (55, false)), [32, 32, 26]⟩,
    ⟨(some 63), (.call (.c (.fn 144 [])) [(.s 56), (.s 62)]), (some (55, false)), [27, 33, 33, 26]⟩,
    ⟨(some 64), (.un .not (.s 63)), (some (55, false)), [34, 26]⟩,
    ⟨(some 65), (.pick (.s 55) (.c (.bool true)) (.s 64)), none, [26, 35]⟩] true)
  (.cond (.s 65)
   (.seq (.region [
     ⟨(some 6), (.mv (.c (.bool false))), none, []⟩] false)
   .ret)
   .skip))
  (.seq (.region [
    ⟨(some 67), (.lda 2 none (.s 7)), none, []⟩,
    ⟨(some 68), (.call (.c (.fn 153 [])) [(.s 67)]), none, [0]⟩,
    ⟨(some 66), (.mv (.s 68)), none, [1]⟩,
    ⟨(some 69), (.ext (.s 66) 0), none, [2]⟩,
    ⟨(some 70), (.ext (.s 66) 1), none, [2]⟩,
    ⟨(some 10), (.new (.vals [(.int .u8 0), (.int .u32 0), .nils])), none, []⟩,
    ⟨none, (.stc 3 (.s 10) (.s 69)), none, [5, 3, 1, 0, 1, 2, 3, 5]⟩,
    ⟨(some 11), (.mv (.s 70)), none, [4, 6, 0, 1, 2, 3, 4, 5, 6]⟩] false)
  (.seq (.region [
    ⟨(some 72), (.lda 2 none (.s 8)), none, []⟩,
    ⟨(some 73), (.call (.c (.fn 154 [])) [(.s 72)]), none, [0]⟩,
    ⟨(some 71), (.mv (.s 73)), none, [1]⟩,
    ⟨(some 74), (.ext (.s 71) 0), none, [2]⟩,
    ⟨(some 75), (.ext (.s 71) 1), none, [2]⟩,
    ⟨(some 12), (.new (.ints .u8 [0, 0, 0, 0, 0, 0, 0, 0, 0, 0, 0, 0, 0, 0, 0, 0, 0, 0, 0, 0, 0, 0, 0, 0, 0, 0, 0, 0, 0, 0, 0, 0, 0, 0, 0, 0, 0, 0, 0, 0, 0, 0, 0, 0, 0, 0, 0, 0, 0, 0, 0, 0, 0, 0, 0, 0, 0, 0, 0, 0, 0, 0, 0, 0, 0, 0, 0, 0, 0, 0, 0, 0, 0, 0, 0, 0, 0, 0, 0, 0, 0, 0, 0, 0, 0, 0, 0, 0, 0, 0, 0, 0, 0, 0, 0, 0, 0])), none, []⟩,
    ⟨none, (.stc 97 (.s 12) (.s 74)), none, [5, 3, 1, 0, 1, 2, 3, 5]⟩,
    ⟨(some 13), (.mv (.s 75)), none, [4, 6, 0, 1, 2, 3, 4, 5, 6]⟩] false)
  (.seq (.region [
    ⟨(some 77), (.lda 2 none (.s 9)), none, []⟩,
    ⟨(some 78), (.call (.c (.fn 155 [])) [(.s 77)]), none, [0]⟩,
    ⟨(some 76), (.mv (.s 78)), none, [1]⟩,
    ⟨(some 79), (.ext (.s 76) 0), none, [2]⟩,
    ⟨(some 80), (.ext (.s 76) 1), none, [2]⟩,
    ⟨(some 14), (.new (.ints .u8 [0, 0, 0, 0, 0, 0, 0, 0, 0, 0, 0, 0, 0, 0, 0, 0, 0, 0, 0, 0, 0, 0, 0, 0, 0, 0, 0, 0, 0, 0, 0, 0, 0])), none, []⟩,
    ⟨none, (.stc 33 (.s 14) (.s 79)), none, [5, 3, 1, 0, 1, 2, 3, 5]⟩,
    ⟨(some 15), (.mv (.s 80)), none, [4, 6, 0, 1, 2, 3, 4, 5, 6]⟩] false)
  (.seq (.seq (.region [
    ⟨(some 81), (.mv (.s 11)), none, []⟩,
    ⟨(some 82), (.bin .eql (.s 81) (.c (.int .i64 0))), none, [0]⟩,
    ⟨(some 83), (.fad 0 (.s 3)), none, []⟩,
    ⟨(some 84), (.ldc (.s 83)), none, [2]⟩,
    ⟨(some 85), (.bin .leq (.s 84) (.c (.int .u8 4))), none, [3]⟩,
    ⟨(some 86), (.eqn .b true (.s 82) (.s 85)), none, [1, 4]⟩,
    ⟨(some 87), (.mv (.s 86)), none, [5]⟩,
    ⟨(some 88), (.mv (.s 13)), (some (87, false)), [6]⟩,
    ⟨(some 89), (.bin .eql (.s 88) (.c (.int .i64 0))), (some (87, false)), [7, 6]⟩,
    ⟨(some 90), (.fad 0 (.s 4)), (some (87, false)), [6]⟩,
    ⟨(some 91), (.ldc (.s 90)), (some (87, false)), [9, 6]⟩,
    ⟨(some 92), (.bin .eql (.s 91) (.c (.int .u8 1))), (some (87, false)), [10, 6]⟩,
    ⟨(some 93), (.mv (.s 92)), (some (87, false)), [11, 6, 6]⟩,
    ⟨(some 94), (.fad 0 (.s 4)), (some (93, false)), [12]⟩,
    ⟨(some 95), (.ldc (.s 94)), (some (93, false)), [13, 12]⟩,
    ⟨(some 96), (.bin .eql (.s 95) (.c (.int .u8 2))), (some (93, false)), [14, 12]⟩,
    ⟨(some 97), (.pick (.s 93) (.c (.bool true)) (.s 96)), (some (87, false)), [12, 15, 6]⟩,
    ⟨(some 98), (.eqn .b true (.s 89) (.s 97)), (some (87, false)), [8, 16, 6]⟩,
    ⟨(some 99), (.pick (.s 87) (.c (.bool true)) (.s 98)), none, [6, 17]⟩,
    ⟨(some 100), (.mv (.s 99)), none, [18, 12]⟩,
    ⟨(some 101), (.mv (.s 15)), (some (100, false)), [19]⟩,
    ⟨(some 102), (.bin .eql (.s 101) (.c (.int .i64 0))), (some (100, false)), [20, 19]⟩,
    ⟨(some 103), (.fad 0 (.s 5)), (some (100, false)), [19]⟩,
    ⟨(some 104), (.ldc (.s 103)), (some (100, false)), [22, 19]⟩,
    ⟨(some 105), (.bin .geq (.s 104) (.c (.int .u8 1))), (some (100, false)), [23, 19]⟩,
    ⟨(some 106), (.mv (.s 105)), (some (100, false)), [24, 19, 19]⟩,
    ⟨(some 107), (.fad 0 (.s 5)), (some (106, true)), [25]⟩,
    ⟨(some 108), (.ldc (.s 107)), (some (106, true)), [26, 25]⟩,
    ⟨(some 109), (.bin .leq (.s 108) (.c (.int .u8 3))), (some (106, true)), [27, 25]⟩,
    ⟨(some 110), (.pick (.s 106) (.s 109) (.c (.bool false))), (some (100, false)), [25, 28, 19]⟩,
    ⟨(some 111), (.eqn .b true (.s 102) (.s 110)), (some (100, false)), [21, 29, 19]⟩,
    ⟨(some 112), (.pick (.s 100) (.c (.bool true)) (.s 111)), none, [19, 30]⟩] false)
  (.cond (.s 112)
   (.seq (.region [
     ⟨(some 6), (.mv (.c (.bool false))), none, []⟩] false)
   .ret)
   .skip))
  (.seq (.region [
    ⟨(some 114), (.fad 1 (.s 3)), none, []⟩,
    ⟨(some 115), (.ldc (.s 114)), none, [0]⟩,
    ⟨(some 116), (.cvi .u16 (.s 115)), none, [1]⟩,
    ⟨(some 117), (.call (.c (.fn 157 [])) [(.s 116)]), none, [2]⟩,
    ⟨(some 118), (.call (.c (.fn 156 [])) [(.s 117)]), none, [3, 3]⟩,
    ⟨(some 113), (.mv (.s 118)), none, [4]⟩,
    ⟨(some 119), (.ext (.s 113) 0), none, [5]⟩,
    ⟨(some 120), (.ext (.s 113) 1), none, [5]⟩,
    ⟨(some 16), (.mv (.s 119)), none, [6, 4, 0, 1, 2, 3, 4, 5, 6]⟩,
    ⟨(some 17), (.mv (.s 120)), none, [7, 8, 0, 1, 2, 3, 4, 5, 6, 7, 8]⟩] false)
  (.seq (.region [
    ⟨(some 121), (.mv (.s 11)), none, []⟩,
    ⟨(some 122), (.bin .neq (.s 121) (.c (.int .i64 0))), none, [0]⟩,
    ⟨(some 123), (.mv (.s 122)), none, [1]⟩,
    ⟨(some 124), (.fad 0 (.s 10)), (some (123, false)), [2]⟩,
    ⟨(some 125), (.ldc (.s 124)), (some (123, false)), [3, 2]⟩,
    ⟨(some 126), (.fad 0 (.s 3)), (some (123, false)), [2]⟩,
    ⟨(some 127), (.ldc (.s 126)), (some (123, false)), [5, 2]⟩,
    ⟨(some 128), (.bin .eql (.s 125) (.s 127)), (some (123, false)), [4, 6, 2]⟩,
    ⟨(some 129), (.mv (.s 128)), (some (123, false)), [7, 2, 2]⟩,
    ⟨(some 130), (.fad 1 (.s 10)), (some (129, true)), [8]⟩,
    ⟨(some 131), (.ldc (.s 130)), (some (129, true)), [9, 8]⟩,
    ⟨(some 132), (.fad 1 (.s 3)), (some (129, true)), [8]⟩,
    ⟨(some 133), (.ldc (.s 132)), (some (129, true)), [11, 8]⟩,
    ⟨(some 134), (.bin .eql (.s 131) (.s 133)), (some (129, true)), [10, 12, 8]⟩,
    ⟨(some 135), (.pick (.s 129) (.s 134) (.c (.bool false))), (some (123, false)), [8, 13, 2]⟩,
    ⟨(some 136), (.mv (.s 135)), (some (123, false)), [14, 8, 2]⟩,
    ⟨(some 137), (.fad 2 (.s 10)), (some (136, true)), [15]⟩,
    ⟨(some 138), (.ldc (.s 137)), (some (136, true)), [16, 15]⟩,
    ⟨(some 139), (.fad 2 (.s 3)), (some (136, true)), [15]⟩,
    ⟨(some 140), (.ldc (.s 139)), (some (136, true)), [18, 15]⟩,
    ⟨(some 141), (.fad 2 (.s 3)), (some (136, true)), [15]⟩,
    ⟨(some 142), (.ldc (.s 141)), (some (136, true)), [20, 15]⟩,
    ⟨(some 143), (.len false (.s 142)), (some (136, true)), [21, 15]⟩,
    ⟨(some 144), (.mnx false [(.s 143), (.c (.int .i64 64))]), (some (136, true)), [22, 15]⟩,
    ⟨(some 145), (.sls 1 (.s 140) none (some (.s 144)) none), (some (136, true)), [19, 23, 15]⟩,
    ⟨(some 146), (.call (.c (.fn 23 [])) [(.s 138), (.s 145)]), (some (136, true)), [17, 24, 15, 15]⟩,
    ⟨(some 147), (.pick (.s 136) (.s 146) (.c (.bool false))), (some (123, false)), [15, 25, 2]⟩,
    ⟨(some 148), (.pick (.s 123) (.c (.bool true)) (.s 147)), none, [2, 26]⟩,
    ⟨(some 149), (.mv (.s 148)), none, [27, 25]⟩,
    ⟨(some 150), (.mv (.s 13)), (some (149, true)), [28]⟩,
    ⟨(some 151), (.bin .neq (.s 150) (.c (.int .i64 0))), (some (149, true)), [29, 28]⟩,
    ⟨(some 152), (.mv (.s 151)), (some (149, true)), [30, 28, 28]⟩,
    ⟨(some 153), (.lda 97 (some .u8) (.s 12)), (some (152, false)), [31]⟩,
    ⟨(some 154), (.lda 97 (some .u8) (.s 4)), (some (152, false)), [31]⟩,
    ⟨(some 155), (.eqa 97 false (.s 153) (.s 154)), (some (152, false)), [32, 33, 31]⟩,
    ⟨(some 156), (.pick (.s 152) (.c (.bool true)) (.s 155)), (some (149, true)), [31, 34, 28]⟩,
    ⟨(some 157), (.pick (.s 149) (.s 156) (.c (.bool false))), none, [28, 35]⟩,
    ⟨(some 158), (.mv (.s 157)), none, [36, 31]⟩,
    ⟨(some 159), (.mv (.s 15)), (some (158, true)), [37]⟩,
    ⟨(some 160), (.bin .neq (.s 159) (.c (.int .i64 0))), (some (158, true)), [38, 37]⟩,
    ⟨(some 161), (.mv (.s 160)), (some (158, true)), [39, 37, 37]⟩,
    ⟨(some 162), (.lda 33 (some .u8) (.s 14)), (some (161, false)), [40]⟩,
    ⟨(some 163), (.lda 33 (some .u8) (.s 5)), (some (161, false)), [40]⟩,
    ⟨(some 164), (.eqa 33 false (.s 162) (.s 163)), (some (161, false)), [41, 42, 40]⟩,
    ⟨(some 165), (.pick (.s 161) (.c (.bool true)) (.s 164)), (some (158, true)), [40, 43, 37]⟩,
    ⟨(some 166), (.pick (.s 158) (.s 165) (.c (.bool false))), none, [37, 44]⟩,
    ⟨(some 167), (.mv (.s 166)), none, [45, 40]⟩,
    ⟨(some 168), (.mv (.s 16)), (some (167, true)), [46]⟩,
    ⟨(some 169), (.fad 1 (.s 3)), (some (167, true)), [46]⟩,
    ⟨(some 170), (.ldc (.s 169)), (some (167, true)), [48, 46]⟩,
    ⟨(some 171), (.cvi .u16 (.s 170)), (some (167, true)), [49, 46]⟩,
    ⟨(some 172), (.bin .eql (.s 168) (.s 171)), (some (167, true)), [47, 50, 46]⟩,
    ⟨(some 173), (.pick (.s 167) (.s 172) (.c (.bool false))), none, [46, 51]⟩,
    ⟨(some 174), (.mv (.s 173)), none, [52, 46]⟩,
    ⟨(some 175), (.mv (.s 17)), (some (174, true)), [53]⟩,
    ⟨(some 176), (.bin .eql (.s 175) (.c (.int .i64 0))), (some (174, true)), [54, 53]⟩,
    ⟨(some 177), (.pick (.s 174) (.s 176) (.c (.bool false))), none, [53, 55]⟩,
    ⟨(some 178), (.mv (.s 177)), none, [56, 53]⟩,
    ⟨(some 179), (.call (.c (.fn 138 [])) []), (some (178, true)), [57, 57]⟩,
    ⟨(some 180), (.pick (.s 178) (.s 179) (.c (.bool false))), none, [57, 58]⟩,
    ⟨(some 6), (.mv (.s 180)), none, [59, 58, 0, 1, 2, 3, 4, 5, 6, 7, 8, 9, 10, 11, 12, 13, 14, 15, 16, 17, 18, 19, 20, 21, 22, 23, 24, 25, 26, 27, 28, 29, 30, 31, 32, 33, 34, 35, 36, 37, 38, 39, 40, 41, 42, 43, 44, 45, 46, 47, 48, 49, 50, 51, 52, 53, 54, 55, 56, 57, 58, 59]⟩] true)
  .ret)))))))))), false, (some [(Sh.st (Sh.pr (Sh.int .u8) (Sh.pr (Sh.int .u32) (Sh.sl (Sh.int .u8))))), (Sh.ar .u8), (Sh.ar .u8)]), (some Sh.bool), false⟩

/-- euphroe/euphroelaw17.AttrTakes -/
def k126 : Fun := ⟨1, 107, [0, 1, 2, 3, 4, 5, 6, 7, 8, 9, 10, 14, 61], [(.tmp 2)],
  (.seq (.region [
    ⟨(some 1), (.box (.s 0)), none, []⟩,
    ⟨(some 2), (.mv (.c (.bool false))), none, []⟩] false)
  (.seq (.seq (.region [
    ⟨(some 11), (.fad 1 (.s 1)), none, []⟩,
    ⟨(some 12), (.ldc (.s 11)), none, [0]⟩,
    ⟨(some 13), (.len false (.s 12)), none, [1]⟩,
    ⟨(some 14), (.bin .gtr (.s 13) (.c (.int .i64 5000))), none, [2]⟩] false)
  (.cond (.s 14)
   (.seq (.region [
     ⟨(some 15), (.call (.c (.fn 138 [])) []), none, []⟩,
     ⟨(some 2), (.mv (.s 15)), none, [0, 0, 0]⟩] false)
   .ret)
   .skip))
  (.seq (.region [
    ⟨(some 17), (.lda 2 none (.s 1)), none, []⟩,
    ⟨(some 18), (.call (.c (.fn 140 [])) [(.s 17)]), none, [0]⟩,
    ⟨(some 19), (.call (.c (.fn 156 [])) [(.s 18)]), none, [1, 1]⟩,
    ⟨(some 16), (.mv (.s 19)), none, [2]⟩,
    ⟨(some 20), (.ext (.s 16) 0), none, [3]⟩,
    ⟨(some 21), (.ext (.s 16) 1), none, [3]⟩,
    ⟨(some 3), (.mv (.s 20)), none, [4, 2, 0, 1, 2, 3, 4]⟩,
    ⟨(some 4), (.mv (.s 21)), none, [5, 6, 0, 1, 2, 3, 4, 5, 6]⟩] false)
  (.seq (.region [
    ⟨(some 23), (.lda 2 none (.s 1)), none, []⟩,
    ⟨(some 24), (.call (.c (.fn 140 [])) [(.s 23)]), none, [0]⟩,
    ⟨(some 25), (.call (.c (.fn 153 [])) [(.s 24)]), none, [1, 1]⟩,
    ⟨(some 22), (.mv (.s 25)), none, [2]⟩,
    ⟨(some 26), (.ext (.s 22) 0), none, [3]⟩,
    ⟨(some 27), (.ext (.s 22) 1), none, [3]⟩,
    ⟨(some 5), (.new (.vals [(.int .u8 0), (.int .u32 0), .nils])), none, []⟩,
    ⟨none, (.stc 3 (.s 5) (.s 26)), none, [6, 4, 2, 0, 1, 2, 3, 4, 6]⟩,
    ⟨(some 6), (.mv (.s 27)), none, [5, 7, 0, 1, 2, 3, 4, 5, 6, 7]⟩] false)
  (.seq (.region [
    ⟨(some 29), (.lda 2 none (.s 1)), none, []⟩,
    ⟨(some 30), (.call (.c (.fn 140 [])) [(.s 29)]), none, [0]⟩,
    ⟨(some 31), (.call (.c (.fn 154 [])) [(.s 30)]), none, [1, 1]⟩,
    ⟨(some 28), (.mv (.s 31)), none, [2]⟩,
    ⟨(some 32), (.ext (.s 28) 0), none, [3]⟩,
    ⟨(some 33), (.ext (.s 28) 1), none, [3]⟩,
    ⟨(some 7), (.new (.ints .u8 [0, 0, 0, 0, 0, 0, 0, 0, 0, 0, 0, 0, 0, 0, 0, 0, 0, 0, 0, 0, 0, 0, 0, 0, 0, 0, 0, 0, 0, 0, 0, 0, 0, 0, 0, 0, 0, 0, 0, 0, 0, 0, 0, 0, 0, 0, 0, 0, 0, 0, 0, 0, 0, 0, 0, 0, 0, 0, 0, 0, 0, 0, 0, 0, 0, 0, 0, 0, 0, 0, 0, 0, 0, 0, 0, 0, 0, 0, 0, 0, 0, 0, 0, 0, 0, 0, 0, 0, 0, 0, 0, 0, 0, 0, 0, 0, 0])), none, []⟩,
    ⟨none, (.stc 97 (.s 7) (.s 32)), none, [6, 4, 2, 0, 1, 2, 3, 4, 6]⟩,
    ⟨(some 8), (.mv (.s 33)), none, [5, 7, 0, 1, 2, 3, 4, 5, 6, 7]⟩] false)
  (.seq (.region [
    ⟨(some 35), (.lda 2 none (.s 1)), none, []⟩,
    ⟨(some 36), (.call (.c (.fn 140 [])) [(.s 35)]), none, [0]⟩,
    ⟨(some 37), (.call (.c (.fn 155 [])) [(.s 36)]), none, [1, 1]⟩,
    ⟨(some 34), (.mv (.s 37)), none, [2]⟩,
    ⟨(some 38), (.ext (.s 34) 0), none, [3]⟩,
    ⟨(some 39), (.ext (.s 34) 1), none, [3]⟩,
    ⟨(some 9), (.new (.ints .u8 [0, 0, 0, 0, 0, 0, 0, 0, 0, 0, 0, 0, 0, 0, 0, 0, 0, 0, 0, 0, 0, 0, 0, 0, 0, 0, 0, 0, 0, 0, 0, 0, 0])), none, []⟩,
    ⟨none, (.stc 33 (.s 9) (.s 38)), none, [6, 4, 2, 0, 1, 2, 3, 4, 6]⟩,
    ⟨(some 10), (.mv (.s 39)), none, [5, 7, 0, 1, 2, 3, 4, 5, 6, 7]⟩] false)
  (.seq (.seq (.region [
    ⟨(some 40), (.mv (.s 4)), none, []⟩,
    ⟨(some 41), (.lda 2 none (.s 1)), none, []⟩,
    ⟨(some 42), (.call (.c (.fn 158 [])) [(.s 41), (.c (.int .u8 1))]), none, [1]⟩,
    ⟨(some 43), (.bin .neq (.s 40) (.s 42)), none, [0, 2]⟩,
    ⟨(some 44), (.mv (.s 43)), none, [3, 2]⟩,
    ⟨(some 45), (.mv (.s 6)), (some (44, false)), [4]⟩,
    ⟨(some 46), (.lda 2 none (.s 1)), (some (44, false)), [4]⟩,
    ⟨(some 47), (.call (.c (.fn 158 [])) [(.s 46), (.c (.int .u8 2))]), (some (44, false)), [6, 4, 4]⟩,
    ⟨(some 48), (.bin .neq (.s 45) (.s 47)), (some (44, false)), [5, 7, 4]⟩,
    ⟨(some 49), (.pick (.s 44) (.c (.bool true)) (.s 48)), none, [4, 8]⟩,
    ⟨(some 50), (.mv (.s 49)), none, [9, 7]⟩,
    ⟨(some 51), (.mv (.s 8)), (some (50, false)), [10]⟩,
    ⟨(some 52), (.lda 2 none (.s 1)), (some (50, false)), [10]⟩,
    ⟨(some 53), (.call (.c (.fn 158 [])) [(.s 52), (.c (.int .u8 3))]), (some (50, false)), [12, 10, 10]⟩,
    ⟨(some 54), (.bin .neq (.s 51) (.s 53)), (some (50, false)), [11, 13, 10]⟩,
    ⟨(some 55), (.pick (.s 50) (.c (.bool true)) (.s 54)), none, [10, 14]⟩,
    ⟨(some 56), (.mv (.s 55)), none, [15, 13]⟩,
    ⟨(some 57), (.mv (.s 10)), (some (56, false)), [16]⟩,
    ⟨(some 58), (.lda 2 none (.s 1)), (some (56, false)), [16]⟩,
    ⟨(some 59), (.call (.c (.fn 158 [])) [(.s 58), (.c (.int .u8 4))]), (some (56, false)), [18, 16, 16]⟩,
    ⟨(some 60), (.bin .neq (.s 57) (.s 59)), (some (56, false)), [17, 19, 16]⟩,
    ⟨(some 61), (.pick (.s 56) (.c (.bool true)) (.s 60)), none, [16, 20]⟩] false)
  (.cond (.s 61)
   (.seq (.region [
     ⟨(some 2), (.mv (.c (.bool false))), none, []⟩] false)
   .ret)
   .skip))
  (.seq (.region [
    ⟨(some 62), (.mv (.s 4)), none, []⟩,
    ⟨(some 63), (.bin .neq (.s 62) (.c (.int .i64 0))), none, [0]⟩,
    ⟨(some 64), (.mv (.s 63)), none, [1]⟩,
    ⟨(some 65), (.mv (.s 3)), (some (64, false)), [2]⟩,
    ⟨(some 66), (.call (.c (.fn 157 [])) [(.s 65)]), (some (64, false)), [3, 2, 2]⟩,
    ⟨(some 67), (.lda 2 none (.s 1)), (some (64, false)), [2]⟩,
    ⟨(some 68), (.call (.c (.fn 140 [])) [(.s 67)]), (some (64, false)), [5, 4, 2]⟩,
    ⟨(some 69), (.call (.c (.fn 144 [])) [(.s 66), (.s 68)]), (some (64, false)), [4, 6, 6, 2]⟩,
    ⟨(some 70), (.pick (.s 64) (.c (.bool true)) (.s 69)), none, [2, 7]⟩,
    ⟨(some 71), (.mv (.s 70)), none, [8, 7]⟩,
    ⟨(some 72), (.mv (.s 6)), (some (71, true)), [9]⟩,
    ⟨(some 73), (.bin .neq (.s 72) (.c (.int .i64 0))), (some (71, true)), [10, 9]⟩,
    ⟨(some 74), (.mv (.s 73)), (some (71, true)), [11, 9, 9]⟩,
    ⟨(some 75), (.lda 3 none (.s 5)), (some (74, false)), [12]⟩,
    ⟨(some 76), (.call (.c (.fn 147 [])) [(.s 75)]), (some (74, false)), [13, 12, 12]⟩,
    ⟨(some 77), (.lda 2 none (.s 1)), (some (74, false)), [12]⟩,
    ⟨(some 78), (.call (.c (.fn 140 [])) [(.s 77)]), (some (74, false)), [15, 14, 12]⟩,
    ⟨(some 79), (.call (.c (.fn 144 [])) [(.s 76), (.s 78)]), (some (74, false)), [14, 16, 16, 12]⟩,
    ⟨(some 80), (.pick (.s 74) (.c (.bool true)) (.s 79)), (some (71, true)), [12, 17, 9]⟩,
    ⟨(some 81), (.pick (.s 71) (.s 80) (.c (.bool false))), none, [9, 18]⟩,
    ⟨(some 82), (.mv (.s 81)), none, [19, 17]⟩,
    ⟨(some 83), (.mv (.s 8)), (some (82, true)), [20]⟩,
    ⟨(some 84), (.bin .neq (.s 83) (.c (.int .i64 0))), (some (82, true)), [21, 20]⟩,
    ⟨(some 85), (.mv (.s 84)), (some (82, true)), [22, 20, 20]⟩,
    ⟨(some 86), (.lda 97 (some .u8) (.s 7)), (some (85, false)), [23]⟩,
    ⟨(some 87), (.call (.c (.fn 148 [])) [(.s 86)]), (some (85, false)), [24, 23, 23]⟩,
    ⟨(some 88), (.lda 2 none (.s 1)), (some (85, false)), [23]⟩,
    ⟨(some 89), (.call (.c (.fn 140 [])) [(.s 88)]), (some (85, false)), [26, 25, 23]⟩,
    ⟨(some 90), (.call (.c (.fn 144 [])) [(.s 87), (.s 89)]), (some (85, false)), [25, 27, 27, 23]⟩,
    ⟨(some 91), (.pick (.s 85) (.c (.bool true)) (.s 90)), (some (82, true)), [23, 28, 20]⟩,
    ⟨(some 92), (.pick (.s 82) (.s 91) (.c (.bool false))), none, [20, 29]⟩,
    ⟨(some 93), (.mv (.s 92)), none, [30, 28]⟩,
    ⟨(some 94), (.mv (.s 10)), (some (93, true)), [31]⟩,
    ⟨(some 95), (.bin .neq (.s 94) (.c (.int .i64 0))), (some (93, true)), [32, 31]⟩,
    ⟨(some 96), (.mv (.s 95)), (some (93, true)), [33, 31, 31]⟩,
    ⟨(some 97), (.lda 33 (some .u8) (.s 9)), (some (96, false)), [34]⟩,
    ⟨(some 98), (.call (.c (.fn 149 [])) [(.s 97)]), (some (96, false)), [35, 34, 34]⟩,
    ⟨(some 99), (.lda 2 none (.s 1)), (some (96, false)), [34]⟩,
    ⟨(some 100), (.call (.c (.fn 140 [])) [(.s 99)]), (some (96, false)), [37, 36, 34]⟩,
    ⟨(some 101), (.call (.c (.fn 144 [])) [(.s 98), (.s 100)]), (some (96, false)), [36, 38, 38, 34]⟩,
    ⟨(some 102), (.pick (.s 96) (.c (.bool true)) (.s 101)), (some (93, true)), [34, 39, 31]⟩,
    ⟨(some 103), (.pick (.s 93) (.s 102) (.c (.bool false))), none, [31, 40]⟩,
    ⟨(some 104), (.mv (.s 103)), none, [41, 39]⟩,
    ⟨(some 105), (.call (.c (.fn 138 [])) []), (some (104, true)), [42, 42]⟩,
    ⟨(some 106), (.pick (.s 104) (.s 105) (.c (.bool false))), none, [42, 43]⟩,
    ⟨(some 2), (.mv (.s 106)), none, [44, 43, 0, 1, 2, 3, 4, 5, 6, 7, 8, 9, 10, 11, 12, 13, 14, 15, 16, 17, 18, 19, 20, 21, 22, 23, 24, 25, 26, 27, 28, 29, 30, 31, 32, 33, 34, 35, 36, 37, 38, 39, 40, 41, 42, 43, 44]⟩] true)
  .ret)))))))), false, (some [(Sh.st (Sh.pr (Sh.int .u8) (Sh.sl (Sh.int .u8))))]), (some Sh.bool), false⟩

/-- euphroe/euphroelaw17.alive -/
def k138 : Fun := ⟨0, 69, [0, 1, 2, 3, 4, 5, 6, 7, 8, 9], [(.tmp 0)],
  (.seq (.region [
    ⟨(some 0), (.mv (.c (.bool false))), none, []⟩] false)
  (.seq (.region [
    ⟨(some 11), (.call (.c (.fn 157 [])) [(.c (.int .u16 1))]), none, []⟩,
    ⟨(some 12), (.call (.c (.fn 139 [])) [(.s 11)]), none, [0, 0]⟩,
    ⟨(some 10), (.mv (.s 12)), none, [1]⟩,
    ⟨(some 13), (.ext (.s 10) 0), none, [2]⟩,
    ⟨(some 14), (.ext (.s 10) 1), none, [2]⟩,
    ⟨(some 1), (.mv (.s 13)), none, [3, 1, 0, 1, 2, 3]⟩,
    ⟨(some 2), (.mv (.s 14)), none, [4, 5, 0, 1, 2, 3, 4, 5]⟩] false)
  (.seq (.region [
    ⟨(some 16), (.mv (.s 1)), none, []⟩,
    ⟨(some 17), (.call (.c (.fn 142 [])) [(.s 16)]), none, [0]⟩,
    ⟨(some 15), (.mv (.s 17)), none, [1]⟩,
    ⟨(some 18), (.ext (.s 15) 0), none, [2]⟩,
    ⟨(some 19), (.ext (.s 15) 1), none, [2]⟩,
    ⟨(some 20), (.ext (.s 15) 2), none, [2]⟩,
    ⟨(some 3), (.new (.vals [(.int .u8 0), .nils])), none, []⟩,
    ⟨none, (.stc 2 (.s 3) (.s 18)), none, [6, 3, 1, 0, 1, 2, 3, 6]⟩,
    ⟨(some 4), (.mv (.s 19)), none, [4, 7, 0, 1, 2, 3, 4, 6, 7]⟩,
    ⟨(some 5), (.mv (.s 20)), none, [5, 8, 0, 1, 2, 3, 4, 5, 6, 7, 8]⟩] false)
  (.seq (.region [
    ⟨(some 22), (.lda 2 none (.s 3)), none, []⟩,
    ⟨(some 23), (.call (.c (.fn 156 [])) [(.s 22)]), none, [0]⟩,
    ⟨(some 21), (.mv (.s 23)), none, [1]⟩,
    ⟨(some 24), (.ext (.s 21) 0), none, [2]⟩,
    ⟨(some 25), (.ext (.s 21) 1), none, [2]⟩,
    ⟨(some 6), (.mv (.s 24)), none, [3, 1, 0, 1, 2, 3]⟩,
    ⟨(some 7), (.mv (.s 25)), none, [4, 5, 0, 1, 2, 3, 4, 5]⟩] false)
  (.seq (.region [
    ⟨(some 27), (.build (.ints .u8 [0, 0, 0, 0, 0, 0, 0, 0, 0, 0, 0, 0, 0, 0, 0, 0, 0, 0, 0, 0, 0, 0, 0, 0, 0, 0, 0, 0, 0, 0, 0, 0, 0]) [(0, 1, (.c (.int .u8 2)))]), none, []⟩,
    ⟨(some 28), (.call (.c (.fn 149 [])) [(.s 27)]), none, [0]⟩,
    ⟨(some 29), (.call (.c (.fn 155 [])) [(.s 28)]), none, [1, 1]⟩,
    ⟨(some 26), (.mv (.s 29)), none, [2]⟩,
    ⟨(some 30), (.ext (.s 26) 0), none, [3]⟩,
    ⟨(some 31), (.ext (.s 26) 1), none, [3]⟩,
    ⟨(some 8), (.new (.ints .u8 [0, 0, 0, 0, 0, 0, 0, 0, 0, 0, 0, 0, 0, 0, 0, 0, 0, 0, 0, 0, 0, 0, 0, 0, 0, 0, 0, 0, 0, 0, 0, 0, 0])), none, []⟩,
    ⟨none, (.stc 33 (.s 8) (.s 30)), none, [6, 4, 2, 0, 1, 2, 3, 4, 6]⟩,
    ⟨(some 9), (.mv (.s 31)), none, [5, 7, 0, 1, 2, 3, 4, 5, 6, 7]⟩] false)
  (.seq (.region [
    ⟨(some 32), (.mv (.s 1)), none, []⟩,
    ⟨(some 33), (.b2s (.s 32)), none, [0]⟩,
    ⟨(some 34), (.bin .eql (.s 33) (.c (.str [0, 1, 0, 6, 0, 1]))), none, [1]⟩,
    ⟨(some 35), (.mv (.s 34)), none, [2]⟩,
    ⟨(some 36), (.mv (.s 2)), (some (35, true)), [3]⟩,
    ⟨(some 37), (.bin .eql (.s 36) (.c (.int .i64 0))), (some (35, true)), [4, 3]⟩,
    ⟨(some 38), (.pick (.s 35) (.s 37) (.c (.bool false))), none, [3, 5]⟩,
    ⟨(some 39), (.mv (.s 38)), none, [6, 3]⟩,
    ⟨(some 40), (.mv (.s 4)), (some (39, true)), [7]⟩,
    ⟨(some 41), (.bin .eql (.s 40) (.c (.int .i64 6))), (some (39, true)), [8, 7]⟩,
    ⟨(some 42), (.pick (.s 39) (.s 41) (.c (.bool false))), none, [7, 9]⟩,
    ⟨(some 43), (.mv (.s 42)), none, [10, 7]⟩,
    ⟨(some 44), (.mv (.s 5)), (some (43, true)), [11]⟩,
    ⟨(some 45), (.bin .eql (.s 44) (.c (.int .i64 0))), (some (43, true)), [12, 11]⟩,
    ⟨(some 46), (.pick (.s 43) (.s 45) (.c (.bool false))), none, [11, 13]⟩,
    ⟨(some 47), (.mv (.s 46)), none, [14, 11]⟩,
    ⟨(some 48), (.mv (.s 6)), (some (47, true)), [15]⟩,
    ⟨(some 49), (.bin .eql (.s 48) (.c (.int .u16 1))), (some (47, true)), [16, 15]⟩,
    ⟨(some 50), (.pick (.s 47) (.s 49) (.c (.bool false))), none, [15, 17]⟩,
    ⟨(some 51), (.mv (.s 50)), none, [18, 15]⟩,
    ⟨(some 52), (.mv (.s 7)), (some (51, true)), [19]⟩,
    ⟨(some 53), (.bin .eql (.s 52) (.c (.int .i64 0))), (some (51, true)), [20, 19]⟩,
    ⟨(some 54), (.pick (.s 51) (.s 53) (.c (.bool false))), none, [19, 21]⟩,
    ⟨(some 55), (.mv (.s 54)), none, [22, 19]⟩,
    ⟨(some 56), (.fad 0 (.s 8)), (some (55, true)), [23]⟩,
    ⟨(some 57), (.ldc (.s 56)), (some (55, true)), [24, 23]⟩,
    ⟨(some 58), (.bin .eql (.s 57) (.c (.int .u8 2))), (some (55, true)), [25, 23]⟩,
    ⟨(some 59), (.pick (.s 55) (.s 58) (.c (.bool false))), none, [23, 26]⟩,
    ⟨(some 60), (.mv (.s 59)), none, [27, 23]⟩,
    ⟨(some 61), (.mv (.s 9)), (some (60, true)), [28]⟩,
    ⟨(some 62), (.bin .eql (.s 61) (.c (.int .i64 0))), (some (60, true)), [29, 28]⟩,
    ⟨(some 63), (.pick (.s 60) (.s 62) (.c (.bool false))), none, [28, 30]⟩,
    ⟨(some 64), (.mv (.s 63)), none, [31, 28]⟩,
    ⟨(some 65), (.lda 2 none (.s 3)), (some (64, true)), [32]⟩,
    ⟨(some 66), (.call (.c (.fn 157 [])) [(.c (.int .u16 1))]), (some (64, true)), [32, 32]⟩,
    ⟨(some 67), (.call (.c (.fn 144 [])) [(.s 65), (.s 66)]), (some (64, true)), [33, 34, 34, 32]⟩,
    ⟨(some 68), (.pick (.s 64) (.s 67) (.c (.bool false))), none, [32, 35]⟩,
    ⟨(some 0), (.mv (.s 68)), none, [36, 35, 0, 1, 2, 3, 4, 5, 6, 7, 8, 9, 10, 11, 12, 13, 14, 15, 16, 17, 18, 19, 20, 21, 22, 23, 24, 25, 26, 27, 28, 29, 30, 31, 32, 33, 34, 35, 36]⟩] true)
  .ret)))))), false, (some []), (some Sh.bool), false⟩

/-- euphroe/attr.Lay -/
def k139 : Fun := ⟨1, 33, [0, 1, 2, 3, 4, 5, 11, 16], [(.tmp 2), (.tmp 3)],
  (.seq (.region [
    ⟨(some 1), (.box (.s 0)), none, []⟩,
    ⟨(some 2), (.mv (.c .nils)), none, []⟩,
    ⟨(some 3), (.mv (.c (.int .i64 0))), none, [1]⟩] false)
  (.seq (.region [
    ⟨(some 7), (.fad 1 (.s 1)), none, []⟩,
    ⟨(some 8), (.ldc (.s 7)), none, [0]⟩,
    ⟨(some 9), (.len false (.s 8)), none, [1]⟩,
    ⟨(some 10), (.bin .add (.c (.int .i64 4)) (.s 9)), none, [2]⟩,
    ⟨(some 4), (.mv (.s 10)), none, [3, 0, 1, 2, 3]⟩] false)
  (.seq (.block 0
   (.seq (.region [
     ⟨(some 12), (.fad 0 (.s 1)), none, []⟩,
     ⟨(some 13), (.ldc (.s 12)), none, [0]⟩,
     ⟨(some 14), (.call (.c (.fn 161 [])) [(.s 13)]), none, [1]⟩,
     ⟨(some 15), (.un .not (.s 14)), none, [2]⟩,
     ⟨(some 11), (.mv (.s 15)), none, [3, 2]⟩] false)
   (.cond (.s 11)
    (.seq (.region [
      ⟨(some 2), (.mv (.c .nils)), none, []⟩,
      ⟨(some 3), (.mv (.c (.int .i64 9))), none, [0, 0]⟩] false)
    .ret)
    (.seq (.region [
      ⟨(some 17), (.mv (.s 4)), none, []⟩,
      ⟨(some 18), (.bin .gtr (.s 17) (.c (.int .i64 4095))), none, [0]⟩,
      ⟨(some 16), (.mv (.s 18)), none, [1]⟩] false)
    (.cond (.s 16)
     (.seq (.region [
       ⟨(some 2), (.mv (.c .nils)), none, []⟩,
       ⟨(some 3), (.mv (.c (.int .i64 8))), none, [0, 0]⟩] false)
     .ret)
     .skip)))))
  (.seq (.region [
    ⟨(some 20), (.mv (.s 4)), none, []⟩,
    ⟨(some 21), (.cvi .u64 (.s 20)), none, [0]⟩,
    ⟨(some 22), (.call (.c (.fn 19 [])) [(.s 21), (.c (.int .i64 2)), (.c (.bool false))]), none, [1]⟩,
    ⟨(some 19), (.mv (.s 22)), none, [2]⟩,
    ⟨(some 23), (.ext (.s 19) 0), none, [3]⟩,
    ⟨(some 24), (.ext (.s 19) 1), none, [3]⟩,
    ⟨(some 5), (.mv (.s 23)), none, [4, 2, 0, 1, 2, 3, 4]⟩,
    ⟨(some 6), (.mv (.s 24)), none, [5, 6, 0, 1, 2, 3, 4, 5, 6]⟩] false)
  (.seq (.region [
    ⟨(some 25), (.fad 0 (.s 1)), none, []⟩,
    ⟨(some 26), (.ldc (.s 25)), none, [0]⟩,
    ⟨(some 27), (.bsl 2 1 (.ints .u8 [0, 0]) [(0, 1, (.c (.int .u8 0))), (1, 1, (.s 26))]), none, [1]⟩,
    ⟨(some 28), (.mv (.s 5)), none, []⟩,
    ⟨(some 29), (.fad 1 (.s 1)), none, []⟩,
    ⟨(some 30), (.ldc (.s 29)), none, [4]⟩,
    ⟨(some 31), (.bsl 3 1 (.vals [.nils, .nils, .nils]) [(0, 1, (.s 27)), (1, 1, (.s 28)), (2, 1, (.s 30))]), none, [2, 3, 5]⟩,
    ⟨(some 32), (.call (.c (.fn 46 [])) [(.s 31)]), none, [6]⟩,
    ⟨(some 2), (.mv (.s 32)), none, [7, 7, 0, 1, 2, 3, 4, 5, 6, 7]⟩,
    ⟨(some 3), (.mv (.c (.int .i64 0))), none, [8, 0, 1, 2, 3, 4, 5, 6, 7, 8]⟩] false)
  .ret))))), false, (some [(Sh.st (Sh.pr (Sh.int .u8) (Sh.sl (Sh.int .u8))))]), (some (Sh.tu (Sh.pr (Sh.sl (Sh.int .u8)) (Sh.int .i64)))), false⟩

/-- euphroe/euphroelaw17.theirs -/
def k140 : Fun := ⟨1, 8, [0, 1, 2], [(.cell 2 2 true none)],
  (.seq (.region [
    ⟨(some 1), (.box (.s 0)), none, []⟩,
    ⟨(some 2), (.new (.vals [(.int .u8 0), .nils])), none, []⟩] false)
  (.seq (.region [
    ⟨(some 3), (.fad 0 (.s 1)), none, []⟩,
    ⟨(some 4), (.ldc (.s 3)), none, [0]⟩,
    ⟨(some 5), (.fad 1 (.s 1)), none, []⟩,
    ⟨(some 6), (.ldc (.s 5)), none, [2]⟩,
    ⟨(some 7), (.build (.vals [(.int .u8 0), .nils]) [(0, 1, (.s 4)), (1, 1, (.s 6))]), none, [1, 3]⟩,
    ⟨none, (.stc 2 (.s 2) (.s 7)), none, [4, 0, 1, 2, 3, 4]⟩] false)
  .ret)), false, (some [(Sh.st (Sh.pr (Sh.int .u8) (Sh.sl (Sh.int .u8))))]), (some (Sh.st (Sh.pr (Sh.int .u8) (Sh.sl (Sh.int .u8))))), false⟩

/-- euphroe/euphroeref17.Lay -/
def k141 : Fun := ⟨1, 25, [0, 1, 2, 3, 7, 11], [(.tmp 2), (.tmp 3)],
  (.seq (.region [
    ⟨(some 1), (.box (.s 0)), none, []⟩,
    ⟨(some 2), (.mv (.c .nils)), none, []⟩,
    ⟨(some 3), (.mv (.c (.int .i64 0))), none, [1]⟩] false)
  (.seq (.seq (.region [
    ⟨(some 4), (.fad 0 (.s 1)), none, []⟩,
    ⟨(some 5), (.ldc (.s 4)), none, [0]⟩,
    ⟨(some 6), (.call (.c (.fn 162 [])) [(.s 5)]), none, [1]⟩,
    ⟨(some 7), (.un .not (.s 6)), none, [2]⟩] false)
  (.cond (.s 7)
   (.seq (.region [
     ⟨(some 2), (.mv (.c .nils)), none, []⟩,
     ⟨(some 3), (.mv (.c (.int .i64 9))), none, [0, 0]⟩] false)
   .ret)
   .skip))
  (.seq (.seq (.region [
    ⟨(some 8), (.fad 1 (.s 1)), none, []⟩,
    ⟨(some 9), (.ldc (.s 8)), none, [0]⟩,
    ⟨(some 10), (.len false (.s 9)), none, [1]⟩,
    ⟨(some 11), (.bin .gtr (.s 10) (.c (.int .i64 4091))), none, [2]⟩] false)
  (.cond (.s 11)
   (.seq (.region [
     ⟨(some 2), (.mv (.c .nils)), none, []⟩,
     ⟨(some 3), (.mv (.c (.int .i64 8))), none, [0, 0]⟩] false)
   .ret)
   .skip))
  (.seq (.pre ⟨0, [(1, Sh.bool)], true, [23], []⟩ (.region [
    ⟨(some 12), (.fad 0 (.s 1)), none, []⟩,
    ⟨(some 13), (.ldc (.s 12)), none, [0]⟩,
    ⟨(some 14), (.bsl 2 1 (.ints .u8 [0, 0]) [(0, 1, (.c (.int .u8 0))), (1, 1, (.s 13))]), none, [1]⟩,
    ⟨(some 15), (.fad 1 (.s 1)), none, []⟩,
    ⟨(some 16), (.ldc (.s 15)), none, [3]⟩,
    ⟨(some 17), (.len false (.s 16)), none, [4]⟩,
    ⟨(some 18), (.bin .add (.c (.int .i64 4)) (.s 17)), none, [5]⟩,
    ⟨(some 19), (.cvi .u64 (.s 18)), none, [6]⟩,
    ⟨(some 20), (.call (.c (.fn 50 [])) [(.s 19), (.c (.int .i64 2))]), none, [7]⟩,
    ⟨(some 21), (.app 1 1 (.s 14) (.s 20)), none, [2, 8, 8]⟩,
    ⟨(some 22), (.fad 1 (.s 1)), none, []⟩,
    ⟨(some 23), (.ldr (.s 22)), none, [10]⟩,
    ⟨(some 24), (.app 1 1 (.s 21) (.s 23)), none, [9, 11, 9]⟩,
    ⟨(some 2), (.mv (.s 24)), none, [12, 12, 0, 1, 2, 3, 4, 5, 6, 7, 8, 9, 10, 11, 12]⟩,
    ⟨(some 3), (.mv (.c (.int .i64 0))), none, [13, 0, 1, 2, 3, 4, 5, 6, 7, 8, 9, 10, 11, 12, 13]⟩] true))
  .ret)))), false, (some [(Sh.st (Sh.pr (Sh.int .u8) (Sh.sl (Sh.int .u8))))]), (some (Sh.tu (Sh.pr (Sh.sl (Sh.int .u8)) (Sh.int .i64)))), false⟩

/-- euphroe/attr.Parse -/
def k142 : Fun := ⟨1, 56, [0, 2, 3, 4, 5, 7, 10, 20, 34, 41], [(.cell 2 2 true none), (.tmp 3), (.tmp 4)],
  (.seq (.region [
    ⟨(some 2), (.new (.vals [(.int .u8 0), .nils])), none, []⟩,
    ⟨(some 3), (.mv (.c (.int .i64 0))), none, []⟩,
    ⟨(some 4), (.mv (.c (.int .i64 0))), none, [1]⟩] false)
  (.seq (.seq (.region [
    ⟨(some 8), (.mv (.s 0)), none, []⟩,
    ⟨(some 9), (.len false (.s 8)), none, [0]⟩,
    ⟨(some 10), (.bin .lss (.s 9) (.c (.int .i64 4))), none, [1]⟩] false)
  (.cond (.s 10)
   (.seq (.region [
     ⟨(some 11), (.build (.vals [(.int .u8 0), .nils]) []), none, []⟩,
     ⟨none, (.stc 2 (.s 2) (.s 11)), none, [0, 0]⟩,
     ⟨(some 3), (.mv (.c (.int .i64 0))), none, [1, 0, 1]⟩,
     ⟨(some 4), (.mv (.c (.int .i64 4))), none, [2, 0, 1, 2]⟩] false)
   .ret)
   .skip))
  (.seq (.region [
    ⟨(some 13), (.mv (.s 0)), none, []⟩,
    ⟨(some 14), (.sls 1 (.s 13) (some (.c (.int .i64 2))) (some (.c (.int .i64 4))) none), none, [0]⟩,
    ⟨(some 15), (.call (.c (.fn 21 [])) [(.s 14), (.c (.bool false))]), none, [1]⟩,
    ⟨(some 12), (.mv (.s 15)), none, [2]⟩,
    ⟨(some 16), (.ext (.s 12) 0), none, [3]⟩,
    ⟨(some 17), (.ext (.s 12) 1), none, [3]⟩,
    ⟨(some 5), (.mv (.s 16)), none, [4, 2, 0, 1, 2, 3, 4]⟩,
    ⟨(some 6), (.mv (.s 17)), none, [5, 6, 0, 1, 2, 3, 4, 5, 6]⟩] false)
  (.seq (.region [
    ⟨(some 18), (.mv (.s 5)), none, []⟩,
    ⟨(some 19), (.cvi .i64 (.s 18)), none, [0]⟩,
    ⟨(some 7), (.mv (.s 19)), none, [1, 0, 1]⟩] false)
  (.seq (.block 0
   (.seq (.region [
     ⟨(some 21), (.mv (.s 0)), none, []⟩,
     ⟨(some 22), (.iad 1 (.s 21) (.c (.int .i64 0))), none, [0]⟩,
     ⟨(some 23), (.ldc (.s 22)), none, [1]⟩,
     ⟨(some 24), (.bin .neq (.s 23) (.c (.int .u8 0))), none, [2]⟩,
     ⟨(some 25), (.mv (.s 24)), none, [3]⟩,
     ⟨(some 26), (.mv (.s 7)), (some (25, false)), [4]⟩,
     ⟨(some 27), (.bin .lss (.s 26) (.c (.int .i64 4))), (some (25, false)), [5, 4]⟩,
     ⟨(some 28), (.pick (.s 25) (.c (.bool true)) (.s 27)), none, [4, 6]⟩,
     ⟨(some 29), (.mv (.s 28)), none, [7, 4]⟩,
     ⟨(some 30), (.mv (.s 7)), (some (29, false)), [8]⟩,
     ⟨(some 31), (.bin .gtr (.s 30) (.c (.int .i64 4095))), (some (29, false)), [9, 8]⟩,
     ⟨(some 32), (.pick (.s 29) (.c (.bool true)) (.s 31)), none, [8, 10]⟩,
     ⟨(some 20), (.mv (.s 32)), none, [11, 8]⟩] false)
   (.cond (.s 20)
    (.seq (.region [
      ⟨(some 33), (.build (.vals [(.int .u8 0), .nils]) []), none, []⟩,
      ⟨none, (.stc 2 (.s 2) (.s 33)), none, [0, 0]⟩,
      ⟨(some 3), (.mv (.c (.int .i64 0))), none, [1, 0, 1]⟩,
      ⟨(some 4), (.mv (.c (.int .i64 3))), none, [2, 0, 1, 2]⟩] false)
    .ret)
    (.seq (.region [
      ⟨(some 35), (.mv (.s 0)), none, []⟩,
      ⟨(some 36), (.iad 1 (.s 35) (.c (.int .i64 1))), none, [0]⟩,
      ⟨(some 37), (.ldc (.s 36)), none, [1]⟩,
      ⟨(some 38), (.call (.c (.fn 161 [])) [(.s 37)]), none, [2]⟩,
      ⟨(some 39), (.un .not (.s 38)), none, [3]⟩,
      ⟨(some 34), (.mv (.s 39)), none, [4, 3]⟩] false)
    (.cond (.s 34)
     (.seq (.region [
       ⟨(some 40), (.build (.vals [(.int .u8 0), .nils]) []), none, []⟩,
       ⟨none, (.stc 2 (.s 2) (.s 40)), none, [0, 0]⟩,
       ⟨(some 3), (.mv (.c (.int .i64 0))), none, [1, 0, 1]⟩,
       ⟨(some 4), (.mv (.c (.int .i64 9))), none, [2, 0, 1, 2]⟩] false)
     .ret)
     (.seq (.region [
       ⟨(some 42), (.mv (.s 0)), none, []⟩,
       ⟨(some 43), (.len false (.s 42)), none, [0]⟩,
       ⟨(some 44), (.mv (.s 7)), none, []⟩,
       ⟨(some 45), (.bin .lss (.s 43) (.s 44)), none, [1, 2]⟩,
       ⟨(some 41), (.mv (.s 45)), none, [3]⟩] false)
     (.cond (.s 41)
      (.seq (.region [
        ⟨(some 46), (.build (.vals [(.int .u8 0), .nils]) []), none, []⟩,
        ⟨none, (.stc 2 (.s 2) (.s 46)), none, [0, 0]⟩,
        ⟨(some 3), (.mv (.c (.int .i64 0))), none, [1, 0, 1]⟩,
        ⟨(some 4), (.mv (.c (.int .i64 4))), none, [2, 0, 1, 2]⟩] false)
      .ret)
      .skip)))))))
  (.seq (.region [
    ⟨(some 47), (.mv (.s 0)), none, []⟩,
    ⟨(some 48), (.iad 1 (.s 47) (.c (.int .i64 1))), none, [0]⟩,
    ⟨(some 49), (.ldc (.s 48)), none, [1]⟩,
    ⟨(some 50), (.mv (.s 0)), none, []⟩,
    ⟨(some 51), (.mv (.s 7)), none, []⟩,
    ⟨(some 52), (.sls 1 (.s 50) (some (.c (.int .i64 4))) (some (.s 51)) none), none, [3, 4]⟩,
    ⟨(some 53), (.call (.c (.fn 108 [])) [(.s 52)]), none, [5]⟩,
    ⟨(some 54), (.build (.vals [(.int .u8 0), .nils]) [(0, 1, (.s 49)), (1, 1, (.s 53))]), none, [2, 6]⟩,
    ⟨(some 55), (.mv (.s 7)), none, []⟩,
    ⟨none, (.stc 2 (.s 2) (.s 54)), none, [7, 6, 0, 1, 2, 3, 4, 5, 6, 7]⟩,
    ⟨(some 3), (.mv (.s 55)), none, [8, 9, 0, 1, 2, 3, 4, 5, 6, 7, 8, 9]⟩,
    ⟨(some 4), (.mv (.c (.int .i64 0))), none, [10, 0, 1, 2, 3, 4, 5, 6, 7, 8, 9, 10]⟩] true)
  .ret)))))), false, (some [(Sh.sl (Sh.int .u8))]), (some (Sh.tu (Sh.pr (Sh.st (Sh.pr (Sh.int .u8) (Sh.sl (Sh.int .u8)))) (Sh.pr (Sh.int .i64) (Sh.int .i64))))), false⟩

/-- euphroe/euphroeref17.Parse -/
def k143 : Fun := ⟨1, 46, [0, 2, 3, 4, 5, 8, 25, 31, 36], [(.cell 2 2 true none), (.tmp 3), (.tmp 4)],
  (.seq (.region [
    ⟨(some 2), (.new (.vals [(.int .u8 0), .nils])), none, []⟩,
    ⟨(some 3), (.mv (.c (.int .i64 0))), none, []⟩,
    ⟨(some 4), (.mv (.c (.int .i64 0))), none, [1]⟩] false)
  (.seq (.seq (.region [
    ⟨(some 6), (.mv (.s 0)), none, []⟩,
    ⟨(some 7), (.len false (.s 6)), none, [0]⟩,
    ⟨(some 8), (.bin .lss (.s 7) (.c (.int .i64 4))), none, [1]⟩] false)
  (.cond (.s 8)
   (.seq (.region [
     ⟨(some 9), (.build (.vals [(.int .u8 0), .nils]) []), none, []⟩,
     ⟨none, (.stc 2 (.s 2) (.s 9)), none, [0, 0]⟩,
     ⟨(some 3), (.mv (.c (.int .i64 0))), none, [1, 0, 1]⟩,
     ⟨(some 4), (.mv (.c (.int .i64 4))), none, [2, 0, 1, 2]⟩] false)
   .ret)
   .skip))
  (.seq (.region [
    ⟨(some 10), (.mv (.s 0)), none, []⟩,
    ⟨(some 11), (.sls 1 (.s 10) (some (.c (.int .i64 2))) (some (.c (.int .i64 4))) none), none, [0]⟩,
    ⟨(some 12), (.call (.c (.fn 51 [])) [(.s 11)]), none, [1]⟩,
    ⟨(some 13), (.cvi .i64 (.s 12)), none, [2]⟩,
    ⟨(some 5), (.mv (.s 13)), none, [3, 2, 0, 1, 2, 3]⟩] false)
  (.seq (.seq (.region [
    ⟨(some 14), (.mv (.s 0)), none, []⟩,
    ⟨(some 15), (.iad 1 (.s 14) (.c (.int .i64 0))), none, [0]⟩,
    ⟨(some 16), (.ldc (.s 15)), none, [1]⟩,
    ⟨(some 17), (.bin .neq (.s 16) (.c (.int .u8 0))), none, [2]⟩,
    ⟨(some 18), (.mv (.s 17)), none, [3]⟩,
    ⟨(some 19), (.mv (.s 5)), (some (18, false)), [4]⟩,
    ⟨(some 20), (.bin .lss (.s 19) (.c (.int .i64 4))), (some (18, false)), [5, 4]⟩,
    ⟨(some 21), (.pick (.s 18) (.c (.bool true)) (.s 20)), none, [4, 6]⟩,
    ⟨(some 22), (.mv (.s 21)), none, [7, 4]⟩,
    ⟨(some 23), (.mv (.s 5)), (some (22, false)), [8]⟩,
    ⟨(some 24), (.bin .gtr (.s 23) (.c (.int .i64 4095))), (some (22, false)), [9, 8]⟩,
    ⟨(some 25), (.pick (.s 22) (.c (.bool true)) (.s 24)), none, [8, 10]⟩] false)
  (.cond (.s 25)
   (.seq (.region [
     ⟨(some 26), (.build (.vals [(.int .u8 0), .nils]) []), none, []⟩,
     ⟨none, (.stc 2 (.s 2) (.s 26)), none, [0, 0]⟩,
     ⟨(some 3), (.mv (.c (.int .i64 0))), none, [1, 0, 1]⟩,
     ⟨(some 4), (.mv (.c (.int .i64 3))), none, [2, 0, 1, 2]⟩] false)
   .ret)
   .skip))
  (.seq (.seq (.region [
    ⟨(some 27), (.mv (.s 0)), none, []⟩,
    ⟨(some 28), (.iad 1 (.s 27) (.c (.int .i64 1))), none, [0]⟩,
    ⟨(some 29), (.ldc (.s 28)), none, [1]⟩,
    ⟨(some 30), (.call (.c (.fn 162 [])) [(.s 29)]), none, [2]⟩,
    ⟨(some 31), (.un .not (.s 30)), none, [3]⟩] false)
  (.cond (.s 31)
   (.seq (.region [
     ⟨(some 32), (.build (.vals [(.int .u8 0), .nils]) []), none, []⟩,
     ⟨none, (.stc 2 (.s 2) (.s 32)), none, [0, 0]⟩,
     ⟨(some 3), (.mv (.c (.int .i64 0))), none, [1, 0, 1]⟩,
     ⟨(some 4), (.mv (.c (.int .i64 9))), none, [2, 0, 1, 2]⟩] false)
   .ret)
   .skip))
  (.seq (.seq (.region [
    ⟨(some 33), (.mv (.s 0)), none, []⟩,
    ⟨(some 34), (.len false (.s 33)), none, [0]⟩,
    ⟨(some 35), (.mv (.s 5)), none, []⟩,
    ⟨(some 36), (.bin .lss (.s 34) (.s 35)), none, [1, 2]⟩] false)
  (.cond (.s 36)
   (.seq (.region [
     ⟨(some 37), (.build (.vals [(.int .u8 0), .nils]) []), none, []⟩,
     ⟨none, (.stc 2 (.s 2) (.s 37)), none, [0, 0]⟩,
     ⟨(some 3), (.mv (.c (.int .i64 0))), none, [1, 0, 1]⟩,
     ⟨(some 4), (.mv (.c (.int .i64 4))), none, [2, 0, 1, 2]⟩] false)
   .ret)
   .skip))
  (.seq (.region [
    ⟨(some 38), (.mv (.s 0)), none, []⟩,
    ⟨(some 39), (.iad 1 (.s 38) (.c (.int .i64 1))), none, [0]⟩,
    ⟨(some 40), (.ldc (.s 39)), none, [1]⟩,
    ⟨(some 41), (.mv (.s 0)), none, []⟩,
    ⟨(some 42), (.mv (.s 5)), none, []⟩,
    ⟨(some 43), (.sls 1 (.s 41) (some (.c (.int .i64 4))) (some (.s 42)) none), none, [3, 4]⟩,
    ⟨(some 44), (.build (.vals [(.int .u8 0), .nils]) [(0, 1, (.s 40)), (1, 1, (.s 43))]), none, [2, 5]⟩,
    ⟨(some 45), (.mv (.s 5)), none, []⟩,
    ⟨none, (.stc 2 (.s 2) (.s 44)), none, [6, 0, 1, 2, 3, 4, 5, 6]⟩,
    ⟨(some 3), (.mv (.s 45)), none, [7, 8, 0, 1, 2, 3, 4, 5, 6, 7, 8]⟩,
    ⟨(some 4), (.mv (.c (.int .i64 0))), none, [9, 0, 1, 2, 3, 4, 5, 6, 7, 8, 9]⟩] true)
  .ret))))))), false, (some [(Sh.sl (Sh.int .u8))]), (some (Sh.tu (Sh.pr (Sh.st (Sh.pr (Sh.int .u8) (Sh.sl (Sh.int .u8)))) (Sh.pr (Sh.int .i64) (Sh.int .i64))))), false⟩

/-- euphroe/attr.Same -/
def k144 : Fun := ⟨2, 17, [0, 1, 2, 3, 4], [(.tmp 4)],
  (.seq (.region [
    ⟨(some 2), (.box (.s 0)), none, []⟩,
    ⟨(some 3), (.box (.s 1)), none, []⟩,
    ⟨(some 4), (.mv (.c (.bool false))), none, []⟩] false)
  (.seq (.region [
    ⟨(some 5), (.fad 0 (.s 2)), none, []⟩,
    ⟨(some 6), (.ldc (.s 5)), none, [0]⟩,
    ⟨(some 7), (.fad 0 (.s 3)), none, []⟩,
    ⟨(some 8), (.ldc (.s 7)), none, [2]⟩,
    ⟨(some 9), (.bin .eql (.s 6) (.s 8)), none, [1, 3]⟩,
    ⟨(some 10), (.mv (.s 9)), none, [4]⟩,
    ⟨(some 11), (.fad 1 (.s 2)), (some (10, true)), [5]⟩,
    ⟨(some 12), (.ldc (.s 11)), (some (10, true)), [6, 5]⟩,
    ⟨(some 13), (.fad 1 (.s 3)), (some (10, true)), [5]⟩,
    ⟨(some 14), (.ldc (.s 13)), (some (10, true)), [8, 5]⟩,
    ⟨(some 15), (.call (.c (.fn 160 [])) [(.s 12), (.s 14)]), (some (10, true)), [7, 9, 5, 5]⟩,
    ⟨(some 16), (.pick (.s 10) (.s 15) (.c (.bool false))), none, [5, 10]⟩,
    ⟨(some 4), (.mv (.s 16)), none, [11, 10, 0, 1, 2, 3, 4, 5, 6, 7, 8, 9, 10, 11]⟩] false)
  .ret)), false, (some [(Sh.st (Sh.pr (Sh.int .u8) (Sh.sl (Sh.int .u8)))), (Sh.st (Sh.pr (Sh.int .u8) (Sh.sl (Sh.int .u8))))]), (some Sh.bool), false⟩

/-- euphroe/attr.Check -/
def k145 : Fun := ⟨1, 56, [0, 1, 2, 3, 4, 5, 6, 7, 16, 21, 27, 33, 55], [(.tmp 2)],
  (.seq (.region [
    ⟨(some 1), (.box (.s 0)), none, []⟩,
    ⟨(some 2), (.mv (.c (.int .i64 0))), none, []⟩] false)
  (.seq (.region [
    ⟨(some 9), (.fad 0 (.s 1)), none, []⟩,
    ⟨(some 10), (.ldc (.s 9)), none, [0]⟩,
    ⟨(some 11), (.call (.c (.fn 163 [])) [(.s 10)]), none, [1]⟩,
    ⟨(some 8), (.mv (.s 11)), none, [2]⟩,
    ⟨(some 12), (.ext (.s 8) 0), none, [3]⟩,
    ⟨(some 13), (.ext (.s 8) 1), none, [3]⟩,
    ⟨(some 14), (.ext (.s 8) 2), none, [3]⟩,
    ⟨(some 15), (.ext (.s 8) 3), none, [3]⟩,
    ⟨(some 3), (.mv (.s 12)), none, [4, 2, 0, 1, 2, 3, 4]⟩,
    ⟨(some 4), (.mv (.s 13)), none, [5, 8, 0, 1, 2, 3, 4, 5, 8]⟩,
    ⟨(some 5), (.mv (.s 14)), none, [6, 9, 0, 1, 2, 3, 4, 5, 6, 8, 9]⟩,
    ⟨(some 6), (.mv (.s 15)), none, [7, 10, 0, 1, 2, 3, 4, 5, 6, 7, 8, 9, 10]⟩] false)
  (.seq (.block 0
   (.seq (.region [
     ⟨(some 17), (.fad 0 (.s 1)), none, []⟩,
     ⟨(some 18), (.ldc (.s 17)), none, [0]⟩,
     ⟨(some 19), (.call (.c (.fn 161 [])) [(.s 18)]), none, [1]⟩,
     ⟨(some 20), (.un .not (.s 19)), none, [2]⟩,
     ⟨(some 16), (.mv (.s 20)), none, [3, 2]⟩] false)
   (.cond (.s 16)
    (.seq (.region [
      ⟨(some 2), (.mv (.c (.int .i64 9))), none, []⟩] false)
    .ret)
    (.seq (.region [
      ⟨(some 22), (.fad 1 (.s 1)), none, []⟩,
      ⟨(some 23), (.ldc (.s 22)), none, [0]⟩,
      ⟨(some 24), (.len false (.s 23)), none, [1]⟩,
      ⟨(some 25), (.mv (.s 3)), none, []⟩,
      ⟨(some 26), (.bin .lss (.s 24) (.s 25)), none, [2, 3]⟩,
      ⟨(some 21), (.mv (.s 26)), none, [4]⟩] false)
    (.cond (.s 21)
     (.seq (.region [
       ⟨(some 2), (.mv (.c (.int .i64 4))), none, []⟩] false)
     .ret)
     (.seq (.region [
       ⟨(some 28), (.fad 1 (.s 1)), none, []⟩,
       ⟨(some 29), (.ldc (.s 28)), none, [0]⟩,
       ⟨(some 30), (.len false (.s 29)), none, [1]⟩,
       ⟨(some 31), (.mv (.s 4)), none, []⟩,
       ⟨(some 32), (.bin .gtr (.s 30) (.s 31)), none, [2, 3]⟩,
       ⟨(some 27), (.mv (.s 32)), none, [4]⟩] false)
     (.cond (.s 27)
      (.seq (.region [
        ⟨(some 2), (.mv (.c (.int .i64 3))), none, []⟩] false)
      .ret)
      (.seq (.region [
        ⟨(some 34), (.fad 0 (.s 1)), none, []⟩,
        ⟨(some 35), (.ldc (.s 34)), none, [0]⟩,
        ⟨(some 36), (.bin .eql (.s 35) (.c (.int .u8 1))), none, [1]⟩,
        ⟨(some 33), (.mv (.s 36)), none, [2]⟩] false)
      (.cond (.s 33)
       (.seq (.region [
         ⟨(some 2), (.mv (.c (.int .i64 0))), none, []⟩] false)
       .ret)
       .skip)))))))))
  (.seq (.region [
    ⟨(some 37), (.fad 1 (.s 1)), none, []⟩,
    ⟨(some 38), (.ldc (.s 37)), none, [0]⟩,
    ⟨(some 39), (.iad 1 (.s 38) (.c (.int .i64 3))), none, [1]⟩,
    ⟨(some 40), (.ldc (.s 39)), none, [2]⟩,
    ⟨(some 7), (.mv (.s 40)), none, [3, 0, 1, 2, 3]⟩] false)
  (.seq (.seq (.region [
    ⟨(some 41), (.fad 1 (.s 1)), none, []⟩,
    ⟨(some 42), (.ldc (.s 41)), none, [0]⟩,
    ⟨(some 43), (.mks (.ints .u8 [0]) 1 1 (.c (.int .i64 3)) (.c (.int .i64 3))), none, []⟩,
    ⟨(some 44), (.call (.c (.fn 164 [])) [(.s 42), (.s 43)]), none, [1, 2]⟩,
    ⟨(some 45), (.un .not (.s 44)), none, [3]⟩,
    ⟨(some 46), (.mv (.s 45)), none, [4, 3]⟩,
    ⟨(some 47), (.mv (.s 7)), (some (46, false)), [5]⟩,
    ⟨(some 48), (.mv (.s 5)), (some (46, false)), [5]⟩,
    ⟨(some 49), (.bin .lss (.s 47) (.s 48)), (some (46, false)), [6, 7, 5]⟩,
    ⟨(some 50), (.pick (.s 46) (.c (.bool true)) (.s 49)), none, [5, 8]⟩,
    ⟨(some 51), (.mv (.s 50)), none, [9, 5]⟩,
    ⟨(some 52), (.mv (.s 7)), (some (51, false)), [10]⟩,
    ⟨(some 53), (.mv (.s 6)), (some (51, false)), [10]⟩,
    ⟨(some 54), (.bin .gtr (.s 52) (.s 53)), (some (51, false)), [11, 12, 10]⟩,
    ⟨(some 55), (.pick (.s 51) (.c (.bool true)) (.s 54)), none, [10, 13]⟩] true)
  (.cond (.s 55)
   (.seq (.region [
     ⟨(some 2), (.mv (.c (.int .i64 3))), none, []⟩] false)
   .ret)
   .skip))
  (.seq (.region [
    ⟨(some 2), (.mv (.c (.int .i64 0))), none, []⟩] false)
  .ret)))))), false, (some [(Sh.st (Sh.pr (Sh.int .u8) (Sh.sl (Sh.int .u8))))]), (some (Sh.int .i64)), false⟩

/-- euphroe/euphroeref17.Check -/
def k146 : Fun := ⟨1, 79, [0, 1, 2, 3, 4, 5, 9, 26, 31, 34, 78], [(.tmp 2)],
  (.seq (.region [
    ⟨(some 1), (.box (.s 0)), none, []⟩,
    ⟨(some 2), (.mv (.c (.int .i64 0))), none, []⟩] false)
  (.seq (.seq (.region [
    ⟨(some 6), (.fad 0 (.s 1)), none, []⟩,
    ⟨(some 7), (.ldc (.s 6)), none, [0]⟩,
    ⟨(some 8), (.call (.c (.fn 162 [])) [(.s 7)]), none, [1]⟩,
    ⟨(some 9), (.un .not (.s 8)), none, [2]⟩] false)
  (.cond (.s 9)
   (.seq (.region [
     ⟨(some 2), (.mv (.c (.int .i64 9))), none, []⟩] false)
   .ret)
   .skip))
  (.seq (.region [
    ⟨(some 10), (.bsl 4 1 (.ints .i64 [0, 0, 0, 0]) [(0, 1, (.c (.int .i64 2))), (1, 1, (.c (.int .i64 8))), (2, 1, (.c (.int .i64 100))), (3, 1, (.c (.int .i64 36)))]), none, []⟩,
    ⟨(some 11), (.fad 0 (.s 1)), none, []⟩,
    ⟨(some 12), (.ldc (.s 11)), none, [1]⟩,
    ⟨(some 13), (.bin .sub (.s 12) (.c (.int .u8 1))), none, [2]⟩,
    ⟨(some 14), (.iad 1 (.s 10) (.s 13)), none, [0, 3]⟩,
    ⟨(some 15), (.ldc (.s 14)), none, [4]⟩,
    ⟨(some 3), (.mv (.s 15)), none, [5, 0, 1, 2, 3, 4, 5]⟩] false)
  (.seq (.region [
    ⟨(some 16), (.bsl 4 1 (.ints .i64 [0, 0, 0, 0]) [(0, 1, (.c (.int .i64 2))), (1, 1, (.c (.int .i64 72))), (2, 1, (.c (.int .i64 100))), (3, 1, (.c (.int .i64 36)))]), none, []⟩,
    ⟨(some 17), (.fad 0 (.s 1)), none, []⟩,
    ⟨(some 18), (.ldc (.s 17)), none, [1]⟩,
    ⟨(some 19), (.bin .sub (.s 18) (.c (.int .u8 1))), none, [2]⟩,
    ⟨(some 20), (.iad 1 (.s 16) (.s 19)), none, [0, 3]⟩,
    ⟨(some 21), (.ldc (.s 20)), none, [4]⟩,
    ⟨(some 4), (.mv (.s 21)), none, [5, 0, 1, 2, 3, 4, 5]⟩] false)
  (.seq (.seq (.region [
    ⟨(some 22), (.fad 1 (.s 1)), none, []⟩,
    ⟨(some 23), (.ldc (.s 22)), none, [0]⟩,
    ⟨(some 24), (.len false (.s 23)), none, [1]⟩,
    ⟨(some 25), (.mv (.s 3)), none, []⟩,
    ⟨(some 26), (.bin .lss (.s 24) (.s 25)), none, [2, 3]⟩] false)
  (.cond (.s 26)
   (.seq (.region [
     ⟨(some 2), (.mv (.c (.int .i64 4))), none, []⟩] false)
   .ret)
   .skip))
  (.seq (.seq (.region [
    ⟨(some 27), (.fad 1 (.s 1)), none, []⟩,
    ⟨(some 28), (.ldc (.s 27)), none, [0]⟩,
    ⟨(some 29), (.len false (.s 28)), none, [1]⟩,
    ⟨(some 30), (.mv (.s 4)), none, []⟩,
    ⟨(some 31), (.bin .gtr (.s 29) (.s 30)), none, [2, 3]⟩] false)
  (.cond (.s 31)
   (.seq (.region [
     ⟨(some 2), (.mv (.c (.int .i64 3))), none, []⟩] false)
   .ret)
   .skip))
  (.seq (.seq (.region [
    ⟨(some 32), (.fad 0 (.s 1)), none, []⟩,
    ⟨(some 33), (.ldc (.s 32)), none, [0]⟩,
    ⟨(some 34), (.bin .eql (.s 33) (.c (.int .u8 1))), none, [1]⟩] false)
  (.cond (.s 34)
   (.seq (.region [
     ⟨(some 2), (.mv (.c (.int .i64 0))), none, []⟩] false)
   .ret)
   .skip))
  (.seq (.region [
    ⟨(some 35), (.fad 1 (.s 1)), none, []⟩,
    ⟨(some 36), (.ldc (.s 35)), none, [0]⟩,
    ⟨(some 37), (.iad 1 (.s 36) (.c (.int .i64 3))), none, [1]⟩,
    ⟨(some 38), (.ldc (.s 37)), none, [2]⟩,
    ⟨(some 5), (.mv (.s 38)), none, [3, 0, 1, 2, 3]⟩] false)
  (.seq (.seq (.region [
    ⟨(some 39), (.fad 1 (.s 1)), none, []⟩,
    ⟨(some 40), (.ldc (.s 39)), none, [0]⟩,
    ⟨(some 41), (.sls 1 (.s 40) none (some (.c (.int .i64 3))) none), none, [1]⟩,
    ⟨(some 42), (.call (.c (.fn 165 [])) [(.s 41)]), none, [2]⟩,
    ⟨(some 43), (.un .not (.s 42)), none, [3]⟩,
    ⟨(some 44), (.mv (.s 43)), none, [4, 3]⟩,
    ⟨(some 45), (.fad 0 (.s 1)), (some (44, false)), [5]⟩,
    ⟨(some 46), (.ldc (.s 45)), (some (44, false)), [6, 5]⟩,
    ⟨(some 47), (.bin .eql (.s 46) (.c (.int .u8 2))), (some (44, false)), [7, 5]⟩,
    ⟨(some 48), (.mv (.s 47)), (some (44, false)), [8, 5, 5]⟩,
    ⟨(some 49), (.mv (.s 5)), (some (48, true)), [9]⟩,
    ⟨(some 50), (.bin .gtr (.s 49) (.c (.int .u8 4))), (some (48, true)), [10, 9]⟩,
    ⟨(some 51), (.pick (.s 48) (.s 50) (.c (.bool false))), (some (44, false)), [9, 11, 5]⟩,
    ⟨(some 52), (.pick (.s 44) (.c (.bool true)) (.s 51)), none, [5, 12]⟩,
    ⟨(some 53), (.mv (.s 52)), none, [13, 9]⟩,
    ⟨(some 54), (.fad 0 (.s 1)), (some (53, false)), [14]⟩,
    ⟨(some 55), (.ldc (.s 54)), (some (53, false)), [15, 14]⟩,
    ⟨(some 56), (.bin .eql (.s 55) (.c (.int .u8 3))), (some (53, false)), [16, 14]⟩,
    ⟨(some 57), (.mv (.s 56)), (some (53, false)), [17, 14, 14]⟩,
    ⟨(some 58), (.mv (.s 5)), (some (57, true)), [18]⟩,
    ⟨(some 59), (.bin .neq (.s 58) (.c (.int .u8 1))), (some (57, true)), [19, 18]⟩,
    ⟨(some 60), (.pick (.s 57) (.s 59) (.c (.bool false))), (some (53, false)), [18, 20, 14]⟩,
    ⟨(some 61), (.mv (.s 60)), (some (53, false)), [21, 18, 14]⟩,
    ⟨(some 62), (.mv (.s 5)), (some (61, true)), [22]⟩,
    ⟨(some 63), (.bin .neq (.s 62) (.c (.int .u8 2))), (some (61, true)), [23, 22]⟩,
    ⟨(some 64), (.pick (.s 61) (.s 63) (.c (.bool false))), (some (53, false)), [22, 24, 14]⟩,
    ⟨(some 65), (.pick (.s 53) (.c (.bool true)) (.s 64)), none, [14, 25]⟩,
    ⟨(some 66), (.mv (.s 65)), none, [26, 22]⟩,
    ⟨(some 67), (.fad 0 (.s 1)), (some (66, false)), [27]⟩,
    ⟨(some 68), (.ldc (.s 67)), (some (66, false)), [28, 27]⟩,
    ⟨(some 69), (.bin .eql (.s 68) (.c (.int .u8 4))), (some (66, false)), [29, 27]⟩,
    ⟨(some 70), (.mv (.s 69)), (some (66, false)), [30, 27, 27]⟩,
    ⟨(some 71), (.mv (.s 5)), (some (70, true)), [31]⟩,
    ⟨(some 72), (.bin .lss (.s 71) (.c (.int .u8 1))), (some (70, true)), [32, 31]⟩,
    ⟨(some 73), (.mv (.s 72)), (some (70, true)), [33, 31, 31]⟩,
    ⟨(some 74), (.mv (.s 5)), (some (73, false)), [34]⟩,
    ⟨(some 75), (.bin .gtr (.s 74) (.c (.int .u8 3))), (some (73, false)), [35, 34]⟩,
    ⟨(some 76), (.pick (.s 73) (.c (.bool true)) (.s 75)), (some (70, true)), [34, 36, 31]⟩,
    ⟨(some 77), (.pick (.s 70) (.s 76) (.c (.bool false))), (some (66, false)), [31, 37, 27]⟩,
    ⟨(some 78), (.pick (.s 66) (.c (.bool true)) (.s 77)), none, [27, 38]⟩] false)
  (.cond (.s 78)
   (.seq (.region [
     ⟨(some 2), (.mv (.c (.int .i64 3))), none, []⟩] false)
   .ret)
   .skip))
  (.seq (.region [
    ⟨(some 2), (.mv (.c (.int .i64 0))), none, []⟩] false)
  .ret)))))))))), false, (some [(Sh.st (Sh.pr (Sh.int .u8) (Sh.sl (Sh.int .u8))))]), (some (Sh.int .i64)), false⟩

/-- euphroe/attr.OfStatus -/
def k147 : Fun := ⟨1, 26, [0, 1, 2, 3], [(.cell 2 2 true none)],
  (.seq (.region [
    ⟨(some 1), (.box (.s 0)), none, []⟩,
    ⟨(some 2), (.new (.vals [(.int .u8 0), .nils])), none, []⟩] false)
  (.seq (.region [
    ⟨(some 6), (.fad 1 (.s 1)), none, []⟩,
    ⟨(some 7), (.ldc (.s 6)), none, [0]⟩,
    ⟨(some 8), (.cvi .u64 (.s 7)), none, [1]⟩,
    ⟨(some 9), (.call (.c (.fn 19 [])) [(.s 8), (.c (.int .i64 4)), (.c (.bool false))]), none, [2]⟩,
    ⟨(some 5), (.mv (.s 9)), none, [3]⟩,
    ⟨(some 10), (.ext (.s 5) 0), none, [4]⟩,
    ⟨(some 11), (.ext (.s 5) 1), none, [4]⟩,
    ⟨(some 3), (.mv (.s 10)), none, [5, 3, 0, 1, 2, 3, 4, 5]⟩,
    ⟨(some 4), (.mv (.s 11)), none, [6, 7, 0, 1, 2, 3, 4, 5, 6, 7]⟩] false)
  (.seq (.region [
    ⟨(some 12), (.fad 0 (.s 1)), none, []⟩,
    ⟨(some 13), (.ldc (.s 12)), none, [0]⟩,
    ⟨(some 14), (.call (.c (.fn 166 [])) [(.s 13)]), none, [1]⟩,
    ⟨(some 15), (.mv (.s 3)), none, []⟩,
    ⟨(some 16), (.fad 2 (.s 1)), none, []⟩,
    ⟨(some 17), (.ldc (.s 16)), none, [4]⟩,
    ⟨(some 18), (.fad 2 (.s 1)), none, []⟩,
    ⟨(some 19), (.ldc (.s 18)), none, [6]⟩,
    ⟨(some 20), (.len false (.s 19)), none, [7]⟩,
    ⟨(some 21), (.mnx false [(.s 20), (.c (.int .i64 64))]), none, [8]⟩,
    ⟨(some 22), (.sls 1 (.s 17) none (some (.s 21)) none), none, [5, 9]⟩,
    ⟨(some 23), (.bsl 3 1 (.vals [.nils, .nils, .nils]) [(0, 1, (.s 14)), (1, 1, (.s 15)), (2, 1, (.s 22))]), none, [2, 3, 10]⟩,
    ⟨(some 24), (.call (.c (.fn 46 [])) [(.s 23)]), none, [11, 2]⟩,
    ⟨(some 25), (.build (.vals [(.int .u8 0), .nils]) [(0, 1, (.c (.int .u8 2))), (1, 1, (.s 24))]), none, [12]⟩,
    ⟨none, (.stc 2 (.s 2) (.s 25)), none, [13, 12, 0, 1, 2, 3, 4, 5, 6, 7, 8, 9, 10, 11, 12, 13]⟩] true)
  .ret))), false, (some [(Sh.st (Sh.pr (Sh.int .u8) (Sh.pr (Sh.int .u32) (Sh.sl (Sh.int .u8)))))]), (some (Sh.st (Sh.pr (Sh.int .u8) (Sh.sl (Sh.int .u8))))), false⟩

/-- euphroe/attr.OfBinding -/
def k148 : Fun := ⟨1, 15, [0, 1, 2], [(.cell 2 2 true none)],
  (.seq (.region [
    ⟨(some 1), (.box (.s 0)), none, []⟩,
    ⟨(some 2), (.new (.vals [(.int .u8 0), .nils])), none, []⟩] false)
  (.seq (.region [
    ⟨(some 3), (.fad 0 (.s 1)), none, []⟩,
    ⟨(some 4), (.ldc (.s 3)), none, [0]⟩,
    ⟨(some 5), (.call (.c (.fn 166 [])) [(.s 4)]), none, [1]⟩,
    ⟨(some 6), (.fad 1 (.s 1)), none, []⟩,
    ⟨(some 7), (.sla 32 1 (.s 6) none none none), none, [3]⟩,
    ⟨(some 8), (.fad 33 (.s 1)), none, []⟩,
    ⟨(some 9), (.sla 32 1 (.s 8) none none none), none, [5]⟩,
    ⟨(some 10), (.fad 65 (.s 1)), none, []⟩,
    ⟨(some 11), (.sla 32 1 (.s 10) none none none), none, [7]⟩,
    ⟨(some 12), (.bsl 4 1 (.vals [.nils, .nils, .nils, .nils]) [(0, 1, (.s 5)), (1, 1, (.s 7)), (2, 1, (.s 9)), (3, 1, (.s 11))]), none, [2, 4, 6, 8]⟩,
    ⟨(some 13), (.call (.c (.fn 46 [])) [(.s 12)]), none, [9, 2]⟩,
    ⟨(some 14), (.build (.vals [(.int .u8 0), .nils]) [(0, 1, (.c (.int .u8 3))), (1, 1, (.s 13))]), none, [10]⟩,
    ⟨none, (.stc 2 (.s 2) (.s 14)), none, [11, 10, 0, 1, 2, 3, 4, 5, 6, 7, 8, 9, 10, 11]⟩] true)
  .ret)), false, (some [(Sh.ar .u8)]), (some (Sh.st (Sh.pr (Sh.int .u8) (Sh.sl (Sh.int .u8))))), false⟩

/-- euphroe/attr.OfAsk -/
def k149 : Fun := ⟨1, 11, [0, 1, 2], [(.cell 2 2 true none)],
  (.seq (.region [
    ⟨(some 1), (.box (.s 0)), none, []⟩,
    ⟨(some 2), (.new (.vals [(.int .u8 0), .nils])), none, []⟩] false)
  (.seq (.region [
    ⟨(some 3), (.fad 0 (.s 1)), none, []⟩,
    ⟨(some 4), (.ldc (.s 3)), none, [0]⟩,
    ⟨(some 5), (.call (.c (.fn 166 [])) [(.s 4)]), none, [1]⟩,
    ⟨(some 6), (.fad 1 (.s 1)), none, []⟩,
    ⟨(some 7), (.sla 32 1 (.s 6) none none none), none, [3]⟩,
    ⟨(some 8), (.bsl 2 1 (.vals [.nils, .nils]) [(0, 1, (.s 5)), (1, 1, (.s 7))]), none, [2, 4]⟩,
    ⟨(some 9), (.call (.c (.fn 46 [])) [(.s 8)]), none, [5, 2]⟩,
    ⟨(some 10), (.build (.vals [(.int .u8 0), .nils]) [(0, 1, (.c (.int .u8 4))), (1, 1, (.s 9))]), none, [6]⟩,
    ⟨none, (.stc 2 (.s 2) (.s 10)), none, [7, 6, 0, 1, 2, 3, 4, 5, 6, 7]⟩] true)
  .ret)), false, (some [(Sh.ar .u8)]), (some (Sh.st (Sh.pr (Sh.int .u8) (Sh.sl (Sh.int .u8))))), false⟩

/-- euphroe/euphroeref17.Status -/
def k150 : Fun := ⟨3, 22, [0, 1, 2, 6, 7], [(.cell 6 2 true none)],
  (.seq (.region [
    ⟨(some 6), (.new (.vals [(.int .u8 0), .nils])), none, []⟩] false)
  (.seq (.region [
    ⟨(some 8), (.mv (.s 0)), none, []⟩,
    ⟨(some 9), (.bsl 4 1 (.ints .u8 [0, 0, 0, 0]) [(0, 1, (.c (.int .u8 0))), (1, 1, (.c (.int .u8 0))), (2, 1, (.c (.int .u8 0))), (3, 1, (.s 8))]), none, [0]⟩,
    ⟨(some 10), (.mv (.s 1)), none, []⟩,
    ⟨(some 11), (.cvi .u64 (.s 10)), none, [2]⟩,
    ⟨(some 12), (.call (.c (.fn 50 [])) [(.s 11), (.c (.int .i64 4))]), none, [3]⟩,
    ⟨(some 13), (.app 1 1 (.s 9) (.s 12)), none, [1, 4, 4]⟩,
    ⟨(some 7), (.mv (.s 13)), none, [5, 5, 0, 1, 2, 3, 4, 5]⟩] false)
  (.seq (.region [
    ⟨(some 14), (.mv (.s 7)), none, []⟩,
    ⟨(some 15), (.mv (.s 2)), none, []⟩,
    ⟨(some 16), (.mv (.s 2)), none, []⟩,
    ⟨(some 17), (.len false (.s 16)), none, [2]⟩,
    ⟨(some 18), (.mnx false [(.s 17), (.c (.int .i64 64))]), none, [3]⟩,
    ⟨(some 19), (.sls 1 (.s 15) none (some (.s 18)) none), none, [1, 4]⟩,
    ⟨(some 20), (.app 1 1 (.s 14) (.s 19)), none, [0, 5]⟩,
    ⟨(some 21), (.build (.vals [(.int .u8 0), .nils]) [(0, 1, (.c (.int .u8 2))), (1, 1, (.s 20))]), none, [6]⟩,
    ⟨none, (.stc 2 (.s 6) (.s 21)), none, [7, 6, 0, 1, 2, 3, 4, 5, 6, 7]⟩] false)
  .ret))), false, (some [(Sh.int .u8), (Sh.int .u32), (Sh.sl (Sh.int .u8))]), (some (Sh.st (Sh.pr (Sh.int .u8) (Sh.sl (Sh.int .u8))))), false⟩

/-- euphroe/euphroeref17.Binding -/
def k151 : Fun := ⟨4, 20, [0, 1, 2, 3, 5, 6, 7, 8, 9], [(.cell 8 2 true none)],
  (.seq (.region [
    ⟨(some 5), (.box (.s 1)), none, []⟩,
    ⟨(some 6), (.box (.s 2)), none, []⟩,
    ⟨(some 7), (.box (.s 3)), none, []⟩,
    ⟨(some 8), (.new (.vals [(.int .u8 0), .nils])), none, []⟩] false)
  (.seq (.region [
    ⟨(some 10), (.mv (.s 0)), none, []⟩,
    ⟨(some 11), (.bsl 4 1 (.ints .u8 [0, 0, 0, 0]) [(0, 1, (.c (.int .u8 0))), (1, 1, (.c (.int .u8 0))), (2, 1, (.c (.int .u8 0))), (3, 1, (.s 10))]), none, [0]⟩,
    ⟨(some 12), (.sla 32 1 (.s 5) none none none), none, []⟩,
    ⟨(some 13), (.app 1 1 (.s 11) (.s 12)), none, [1, 2]⟩,
    ⟨(some 9), (.mv (.s 13)), none, [3, 3, 0, 1, 2, 3]⟩] false)
  (.seq (.pre ⟨0, [(7, Sh.bool)], true, [17], []⟩ (.region [
    ⟨(some 14), (.mv (.s 9)), none, []⟩,
    ⟨(some 15), (.sla 32 1 (.s 6) none none none), none, []⟩,
    ⟨(some 16), (.app 1 1 (.s 14) (.s 15)), none, [0, 1]⟩,
    ⟨(some 17), (.slr 32 1 (.s 7) none none none), none, []⟩,
    ⟨(some 18), (.app 1 1 (.s 16) (.s 17)), none, [2, 3, 2]⟩,
    ⟨(some 19), (.build (.vals [(.int .u8 0), .nils]) [(0, 1, (.c (.int .u8 3))), (1, 1, (.s 18))]), none, [4]⟩,
    ⟨none, (.stc 2 (.s 8) (.s 19)), none, [5, 4, 0, 1, 2, 3, 4, 5]⟩] true))
  .ret))), false, (some [(Sh.int .u8), (Sh.ar .u8), (Sh.ar .u8), (Sh.ar .u8)]), (some (Sh.st (Sh.pr (Sh.int .u8) (Sh.sl (Sh.int .u8))))), false⟩

/-- euphroe/euphroeref17.Ask -/
def k152 : Fun := ⟨2, 10, [0, 1, 3, 4], [(.cell 4 2 true none)],
  (.seq (.region [
    ⟨(some 3), (.box (.s 1)), none, []⟩,
    ⟨(some 4), (.new (.vals [(.int .u8 0), .nils])), none, []⟩] false)
  (.seq (.region [
    ⟨(some 5), (.mv (.s 0)), none, []⟩,
    ⟨(some 6), (.bsl 4 1 (.ints .u8 [0, 0, 0, 0]) [(0, 1, (.c (.int .u8 0))), (1, 1, (.c (.int .u8 0))), (2, 1, (.c (.int .u8 0))), (3, 1, (.s 5))]), none, [0]⟩,
    ⟨(some 7), (.sla 32 1 (.s 3) none none none), none, []⟩,
    ⟨(some 8), (.app 1 1 (.s 6) (.s 7)), none, [1, 2]⟩,
    ⟨(some 9), (.build (.vals [(.int .u8 0), .nils]) [(0, 1, (.c (.int .u8 4))), (1, 1, (.s 8))]), none, [3]⟩,
    ⟨none, (.stc 2 (.s 4) (.s 9)), none, [4, 3, 0, 1, 2, 3, 4]⟩] false)
  .ret)), false, (some [(Sh.int .u8), (Sh.ar .u8)]), (some (Sh.st (Sh.pr (Sh.int .u8) (Sh.sl (Sh.int .u8))))), false⟩

/-- euphroe/attr.ToStatus -/
def k153 : Fun := ⟨1, 31, [0, 1, 2, 3, 4, 5, 10], [(.cell 2 3 true none), (.tmp 3)],
  (.seq (.region [
    ⟨(some 1), (.box (.s 0)), none, []⟩,
    ⟨(some 2), (.new (.vals [(.int .u8 0), (.int .u32 0), .nils])), none, []⟩,
    ⟨(some 3), (.mv (.c (.int .i64 0))), none, []⟩] false)
  (.seq (.seq (.region [
    ⟨(some 7), (.lda 2 none (.s 1)), none, []⟩,
    ⟨(some 8), (.call (.c (.fn 167 [])) [(.s 7), (.c (.int .u8 2))]), none, [0]⟩,
    ⟨(some 4), (.mv (.s 8)), none, [1, 1, 0, 1]⟩] false)
  (.seq (.region [
    ⟨(some 9), (.mv (.s 4)), none, []⟩,
    ⟨(some 10), (.bin .neq (.s 9) (.c (.int .i64 0))), none, [0]⟩] false)
  (.cond (.s 10)
   (.seq (.region [
     ⟨(some 11), (.build (.vals [(.int .u8 0), (.int .u32 0), .nils]) []), none, []⟩,
     ⟨(some 12), (.mv (.s 4)), none, []⟩,
     ⟨none, (.stc 3 (.s 2) (.s 11)), none, [0, 0]⟩,
     ⟨(some 3), (.mv (.s 12)), none, [1, 2, 0, 1, 2]⟩] false)
   .ret)
   .skip)))
  (.seq (.region [
    ⟨(some 14), (.fad 1 (.s 1)), none, []⟩,
    ⟨(some 15), (.ldc (.s 14)), none, [0]⟩,
    ⟨(some 16), (.sls 1 (.s 15) (some (.c (.int .i64 4))) (some (.c (.int .i64 8))) none), none, [1]⟩,
    ⟨(some 17), (.call (.c (.fn 21 [])) [(.s 16), (.c (.bool false))]), none, [2]⟩,
    ⟨(some 13), (.mv (.s 17)), none, [3]⟩,
    ⟨(some 18), (.ext (.s 13) 0), none, [4]⟩,
    ⟨(some 19), (.ext (.s 13) 1), none, [4]⟩,
    ⟨(some 5), (.mv (.s 18)), none, [5, 3, 0, 1, 2, 3, 4, 5]⟩,
    ⟨(some 6), (.mv (.s 19)), none, [6, 7, 0, 1, 2, 3, 4, 5, 6, 7]⟩] false)
  (.seq (.region [
    ⟨(some 20), (.fad 1 (.s 1)), none, []⟩,
    ⟨(some 21), (.ldc (.s 20)), none, [0]⟩,
    ⟨(some 22), (.iad 1 (.s 21) (.c (.int .i64 3))), none, [1]⟩,
    ⟨(some 23), (.ldc (.s 22)), none, [2]⟩,
    ⟨(some 24), (.mv (.s 5)), none, []⟩,
    ⟨(some 25), (.cvi .u32 (.s 24)), none, [4]⟩,
    ⟨(some 26), (.fad 1 (.s 1)), none, []⟩,
    ⟨(some 27), (.ldc (.s 26)), none, [6]⟩,
    ⟨(some 28), (.sls 1 (.s 27) (some (.c (.int .i64 8))) none none), none, [7]⟩,
    ⟨(some 29), (.call (.c (.fn 108 [])) [(.s 28)]), none, [8]⟩,
    ⟨(some 30), (.build (.vals [(.int .u8 0), (.int .u32 0), .nils]) [(0, 1, (.s 23)), (1, 1, (.s 25)), (2, 1, (.s 29))]), none, [3, 5, 9]⟩,
    ⟨none, (.stc 3 (.s 2) (.s 30)), none, [10, 9, 0, 1, 2, 3, 4, 5, 6, 7, 8, 9, 10]⟩,
    ⟨(some 3), (.mv (.c (.int .i64 0))), none, [11, 0, 1, 2, 3, 4, 5, 6, 7, 8, 9, 10, 11]⟩] true)
  .ret)))), false, (some [(Sh.st (Sh.pr (Sh.int .u8) (Sh.sl (Sh.int .u8))))]), (some (Sh.tu (Sh.pr (Sh.st (Sh.pr (Sh.int .u8) (Sh.pr (Sh.int .u32) (Sh.sl (Sh.int .u8))))) (Sh.int .i64)))), false⟩

/-- euphroe/attr.ToBinding -/
def k154 : Fun := ⟨1, 31, [0, 1, 2, 3, 4, 5, 9], [(.cell 2 97 true (some .u8)), (.tmp 3)],
  (.seq (.region [
    ⟨(some 1), (.box (.s 0)), none, []⟩,
    ⟨(some 2), (.new (.ints .u8 [0, 0, 0, 0, 0, 0, 0, 0, 0, 0, 0, 0, 0, 0, 0, 0, 0, 0, 0, 0, 0, 0, 0, 0, 0, 0, 0, 0, 0, 0, 0, 0, 0, 0, 0, 0, 0, 0, 0, 0, 0, 0, 0, 0, 0, 0, 0, 0, 0, 0, 0, 0, 0, 0, 0, 0, 0, 0, 0, 0, 0, 0, 0, 0, 0, 0, 0, 0, 0, 0, 0, 0, 0, 0, 0, 0, 0, 0, 0, 0, 0, 0, 0, 0, 0, 0, 0, 0, 0, 0, 0, 0, 0, 0, 0, 0, 0])), none, []⟩,
    ⟨(some 3), (.mv (.c (.int .i64 0))), none, []⟩] false)
  (.seq (.seq (.region [
    ⟨(some 6), (.lda 2 none (.s 1)), none, []⟩,
    ⟨(some 7), (.call (.c (.fn 167 [])) [(.s 6), (.c (.int .u8 3))]), none, [0]⟩,
    ⟨(some 4), (.mv (.s 7)), none, [1, 1, 0, 1]⟩] false)
  (.seq (.region [
    ⟨(some 8), (.mv (.s 4)), none, []⟩,
    ⟨(some 9), (.bin .neq (.s 8) (.c (.int .i64 0))), none, [0]⟩] false)
  (.cond (.s 9)
   (.seq (.region [
     ⟨(some 10), (.build (.ints .u8 [0, 0, 0, 0, 0, 0, 0, 0, 0, 0, 0, 0, 0, 0, 0, 0, 0, 0, 0, 0, 0, 0, 0, 0, 0, 0, 0, 0, 0, 0, 0, 0, 0, 0, 0, 0, 0, 0, 0, 0, 0, 0, 0, 0, 0, 0, 0, 0, 0, 0, 0, 0, 0, 0, 0, 0, 0, 0, 0, 0, 0, 0, 0, 0, 0, 0, 0, 0, 0, 0, 0, 0, 0, 0, 0, 0, 0, 0, 0, 0, 0, 0, 0, 0, 0, 0, 0, 0, 0, 0, 0, 0, 0, 0, 0, 0, 0]) []), none, []⟩,
     ⟨(some 11), (.mv (.s 4)), none, []⟩,
     ⟨none, (.stc 97 (.s 2) (.s 10)), none, [0, 0]⟩,
     ⟨(some 3), (.mv (.s 11)), none, [1, 2, 0, 1, 2]⟩] false)
   .ret)
   .skip)))
  (.seq (.region [
    ⟨(some 12), (.fad 1 (.s 1)), none, []⟩,
    ⟨(some 13), (.ldc (.s 12)), none, [0]⟩,
    ⟨(some 14), (.sls 1 (.s 13) (some (.c (.int .i64 4))) none none), none, [1]⟩,
    ⟨(some 5), (.mv (.s 14)), none, [2, 0, 1, 2]⟩] false)
  (.seq (.region [
    ⟨(some 15), (.fad 1 (.s 1)), none, []⟩,
    ⟨(some 16), (.ldc (.s 15)), none, [0]⟩,
    ⟨(some 17), (.iad 1 (.s 16) (.c (.int .i64 3))), none, [1]⟩,
    ⟨(some 18), (.ldc (.s 17)), none, [2]⟩,
    ⟨(some 19), (.mv (.s 5)), none, []⟩,
    ⟨(some 20), (.s2a 32 (.s 19)), none, [4]⟩,
    ⟨(some 21), (.lda 32 (some .u8) (.s 20)), none, [5]⟩,
    ⟨(some 22), (.mv (.s 5)), none, []⟩,
    ⟨(some 23), (.sls 1 (.s 22) (some (.c (.int .i64 32))) none none), none, [7]⟩,
    ⟨(some 24), (.s2a 32 (.s 23)), none, [8]⟩,
    ⟨(some 25), (.lda 32 (some .u8) (.s 24)), none, [9]⟩,
    ⟨(some 26), (.mv (.s 5)), none, []⟩,
    ⟨(some 27), (.sls 1 (.s 26) (some (.c (.int .i64 64))) none none), none, [11]⟩,
    ⟨(some 28), (.s2a 32 (.s 27)), none, [12]⟩,
    ⟨(some 29), (.lda 32 (some .u8) (.s 28)), none, [13]⟩,
    ⟨(some 30), (.build (.ints .u8 [0, 0, 0, 0, 0, 0, 0, 0, 0, 0, 0, 0, 0, 0, 0, 0, 0, 0, 0, 0, 0, 0, 0, 0, 0, 0, 0, 0, 0, 0, 0, 0, 0, 0, 0, 0, 0, 0, 0, 0, 0, 0, 0, 0, 0, 0, 0, 0, 0, 0, 0, 0, 0, 0, 0, 0, 0, 0, 0, 0, 0, 0, 0, 0, 0, 0, 0, 0, 0, 0, 0, 0, 0, 0, 0, 0, 0, 0, 0, 0, 0, 0, 0, 0, 0, 0, 0, 0, 0, 0, 0, 0, 0, 0, 0, 0, 0]) [(0, 1, (.s 18)), (1, 32, (.s 21)), (33, 32, (.s 25)), (65, 32, (.s 29))]), none, [3, 6, 10, 14]⟩,
    ⟨none, (.stc 97 (.s 2) (.s 30)), none, [15, 0, 1, 2, 3, 4, 5, 6, 7, 8, 9, 10, 11, 12, 13, 14, 15]⟩,
    ⟨(some 3), (.mv (.c (.int .i64 0))), none, [16, 0, 1, 2, 3, 4, 5, 6, 7, 8, 9, 10, 11, 12, 13, 14, 15, 16]⟩] true)
  .ret)))), false, (some [(Sh.st (Sh.pr (Sh.int .u8) (Sh.sl (Sh.int .u8))))]), (some (Sh.tu (Sh.pr (Sh.ar .u8) (Sh.int .i64)))), false⟩

/-- euphroe/attr.ToAsk -/
def k155 : Fun := ⟨1, 21, [0, 1, 2, 3, 4, 8], [(.cell 2 33 true (some .u8)), (.tmp 3)],
  (.seq (.region [
    ⟨(some 1), (.box (.s 0)), none, []⟩,
    ⟨(some 2), (.new (.ints .u8 [0, 0, 0, 0, 0, 0, 0, 0, 0, 0, 0, 0, 0, 0, 0, 0, 0, 0, 0, 0, 0, 0, 0, 0, 0, 0, 0, 0, 0, 0, 0, 0, 0])), none, []⟩,
    ⟨(some 3), (.mv (.c (.int .i64 0))), none, []⟩] false)
  (.seq (.seq (.region [
    ⟨(some 5), (.lda 2 none (.s 1)), none, []⟩,
    ⟨(some 6), (.call (.c (.fn 167 [])) [(.s 5), (.c (.int .u8 4))]), none, [0]⟩,
    ⟨(some 4), (.mv (.s 6)), none, [1, 1, 0, 1]⟩] false)
  (.seq (.region [
    ⟨(some 7), (.mv (.s 4)), none, []⟩,
    ⟨(some 8), (.bin .neq (.s 7) (.c (.int .i64 0))), none, [0]⟩] false)
  (.cond (.s 8)
   (.seq (.region [
     ⟨(some 9), (.build (.ints .u8 [0, 0, 0, 0, 0, 0, 0, 0, 0, 0, 0, 0, 0, 0, 0, 0, 0, 0, 0, 0, 0, 0, 0, 0, 0, 0, 0, 0, 0, 0, 0, 0, 0]) []), none, []⟩,
     ⟨(some 10), (.mv (.s 4)), none, []⟩,
     ⟨none, (.stc 33 (.s 2) (.s 9)), none, [0, 0]⟩,
     ⟨(some 3), (.mv (.s 10)), none, [1, 2, 0, 1, 2]⟩] false)
   .ret)
   .skip)))
  (.seq (.region [
    ⟨(some 11), (.fad 1 (.s 1)), none, []⟩,
    ⟨(some 12), (.ldc (.s 11)), none, [0]⟩,
    ⟨(some 13), (.iad 1 (.s 12) (.c (.int .i64 3))), none, [1]⟩,
    ⟨(some 14), (.ldc (.s 13)), none, [2]⟩,
    ⟨(some 15), (.fad 1 (.s 1)), none, []⟩,
    ⟨(some 16), (.ldc (.s 15)), none, [4]⟩,
    ⟨(some 17), (.sls 1 (.s 16) (some (.c (.int .i64 4))) none none), none, [5]⟩,
    ⟨(some 18), (.s2a 32 (.s 17)), none, [6]⟩,
    ⟨(some 19), (.lda 32 (some .u8) (.s 18)), none, [7]⟩,
    ⟨(some 20), (.build (.ints .u8 [0, 0, 0, 0, 0, 0, 0, 0, 0, 0, 0, 0, 0, 0, 0, 0, 0, 0, 0, 0, 0, 0, 0, 0, 0, 0, 0, 0, 0, 0, 0, 0, 0]) [(0, 1, (.s 14)), (1, 32, (.s 19))]), none, [3, 8]⟩,
    ⟨none, (.stc 33 (.s 2) (.s 20)), none, [9, 0, 1, 2, 3, 4, 5, 6, 7, 8, 9]⟩,
    ⟨(some 3), (.mv (.c (.int .i64 0))), none, [10, 0, 1, 2, 3, 4, 5, 6, 7, 8, 9, 10]⟩] true)
  .ret))), false, (some [(Sh.st (Sh.pr (Sh.int .u8) (Sh.sl (Sh.int .u8))))]), (some (Sh.tu (Sh.pr (Sh.ar .u8) (Sh.int .i64)))), false⟩

/-- euphroe/attr.ToProto -/
def k156 : Fun := ⟨1, 20, [0, 1, 2, 3, 4, 5, 10], [(.tmp 2), (.tmp 3)],
  (.seq (.region [
    ⟨(some 1), (.box (.s 0)), none, []⟩,
    ⟨(some 2), (.mv (.c (.int .u16 0))), none, []⟩,
    ⟨(some 3), (.mv (.c (.int .i64 0))), none, [1]⟩] false)
  (.seq (.seq (.region [
    ⟨(some 7), (.lda 2 none (.s 1)), none, []⟩,
    ⟨(some 8), (.call (.c (.fn 167 [])) [(.s 7), (.c (.int .u8 1))]), none, [0]⟩,
    ⟨(some 4), (.mv (.s 8)), none, [1, 1, 0, 1]⟩] false)
  (.seq (.region [
    ⟨(some 9), (.mv (.s 4)), none, []⟩,
    ⟨(some 10), (.bin .neq (.s 9) (.c (.int .i64 0))), none, [0]⟩] false)
  (.cond (.s 10)
   (.seq (.region [
     ⟨(some 11), (.mv (.s 4)), none, []⟩,
     ⟨(some 2), (.mv (.c (.int .u16 0))), none, []⟩,
     ⟨(some 3), (.mv (.s 11)), none, [0, 1, 0, 1]⟩] false)
   .ret)
   .skip)))
  (.seq (.region [
    ⟨(some 13), (.fad 1 (.s 1)), none, []⟩,
    ⟨(some 14), (.ldc (.s 13)), none, [0]⟩,
    ⟨(some 15), (.call (.c (.fn 21 [])) [(.s 14), (.c (.bool false))]), none, [1]⟩,
    ⟨(some 12), (.mv (.s 15)), none, [2]⟩,
    ⟨(some 16), (.ext (.s 12) 0), none, [3]⟩,
    ⟨(some 17), (.ext (.s 12) 1), none, [3]⟩,
    ⟨(some 5), (.mv (.s 16)), none, [4, 2, 0, 1, 2, 3, 4]⟩,
    ⟨(some 6), (.mv (.s 17)), none, [5, 6, 0, 1, 2, 3, 4, 5, 6]⟩] false)
  (.seq (.region [
    ⟨(some 18), (.mv (.s 5)), none, []⟩,
    ⟨(some 19), (.cvi .u16 (.s 18)), none, [0]⟩,
    ⟨(some 2), (.mv (.s 19)), none, [1, 0, 1]⟩,
    ⟨(some 3), (.mv (.c (.int .i64 0))), none, [2, 0, 1, 2]⟩] false)
  .ret)))), false, (some [(Sh.st (Sh.pr (Sh.int .u8) (Sh.sl (Sh.int .u8))))]), (some (Sh.tu (Sh.pr (Sh.int .u16) (Sh.int .i64)))), false⟩

/-- euphroe/attr.Proto -/
def k157 : Fun := ⟨1, 13, [0, 2, 3], [(.cell 2 2 true none)],
  (.seq (.region [
    ⟨(some 2), (.new (.vals [(.int .u8 0), .nils])), none, []⟩] false)
  (.seq (.region [
    ⟨(some 6), (.mv (.s 0)), none, []⟩,
    ⟨(some 7), (.cvi .u64 (.s 6)), none, [0]⟩,
    ⟨(some 8), (.call (.c (.fn 19 [])) [(.s 7), (.c (.int .i64 2)), (.c (.bool false))]), none, [1]⟩,
    ⟨(some 5), (.mv (.s 8)), none, [2]⟩,
    ⟨(some 9), (.ext (.s 5) 0), none, [3]⟩,
    ⟨(some 10), (.ext (.s 5) 1), none, [3]⟩,
    ⟨(some 3), (.mv (.s 9)), none, [4, 2, 0, 1, 2, 3, 4]⟩,
    ⟨(some 4), (.mv (.s 10)), none, [5, 6, 0, 1, 2, 3, 4, 5, 6]⟩] false)
  (.seq (.region [
    ⟨(some 11), (.mv (.s 3)), none, []⟩,
    ⟨(some 12), (.build (.vals [(.int .u8 0), .nils]) [(0, 1, (.c (.int .u8 1))), (1, 1, (.s 11))]), none, [0]⟩,
    ⟨none, (.stc 2 (.s 2) (.s 12)), none, [1, 0, 1]⟩] false)
  .ret))), false, (some [(Sh.int .u16)]), (some (Sh.st (Sh.pr (Sh.int .u8) (Sh.sl (Sh.int .u8))))), false⟩

/-- euphroe/euphroeref17.To -/
def k158 : Fun := ⟨2, 11, [0, 1, 2, 4, 8], [(.tmp 4)],
  (.seq (.region [
    ⟨(some 2), (.box (.s 0)), none, []⟩,
    ⟨(some 4), (.mv (.c (.int .i64 0))), none, []⟩] false)
  (.seq (.seq (.region [
    ⟨(some 5), (.fad 0 (.s 2)), none, []⟩,
    ⟨(some 6), (.ldc (.s 5)), none, [0]⟩,
    ⟨(some 7), (.mv (.s 1)), none, []⟩,
    ⟨(some 8), (.bin .neq (.s 6) (.s 7)), none, [1, 2]⟩] false)
  (.cond (.s 8)
   (.seq (.region [
     ⟨(some 4), (.mv (.c (.int .i64 9))), none, []⟩] false)
   .ret)
   .skip))
  (.seq (.region [
    ⟨(some 9), (.lda 2 none (.s 2)), none, []⟩,
    ⟨(some 10), (.call (.c (.fn 146 [])) [(.s 9)]), none, [0]⟩,
    ⟨(some 4), (.mv (.s 10)), none, [1, 1, 0, 1]⟩] false)
  .ret))), false, (some [(Sh.st (Sh.pr (Sh.int .u8) (Sh.sl (Sh.int .u8)))), (Sh.int .u8)]), (some (Sh.int .i64)), false⟩

/-- bytes.Equal -/
def k160 : Fun := ⟨2, 10, [0, 1, 4], [(.tmp 4)],
  (.seq (.region [
    ⟨(some 4), (.mv (.c (.bool false))), none, []⟩] false)
  (.seq (.region [
    ⟨(some 5), (.mv (.s 0)), none, []⟩,
    ⟨(some 6), (.b2s (.s 5)), none, [0]⟩,
    ⟨(some 7), (.mv (.s 1)), none, []⟩,
    ⟨(some 8), (.b2s (.s 7)), none, [2]⟩,
    ⟨(some 9), (.bin .eql (.s 6) (.s 8)), none, [1, 3]⟩,
    ⟨(some 4), (.mv (.s 9)), none, [4, 0, 1, 2, 3, 4]⟩] false)
  .ret)), false, (some [(Sh.sl (Sh.int .u8)), (Sh.sl (Sh.int .u8))]), (some Sh.bool), false⟩

/-- euphroe/attr.isKind -/
def k161 : Fun := ⟨1, 9, [0, 2], [(.tmp 2)],
  (.seq (.region [
    ⟨(some 2), (.mv (.c (.bool false))), none, []⟩] false)
  (.seq (.region [
    ⟨(some 3), (.mv (.s 0)), none, []⟩,
    ⟨(some 4), (.bin .geq (.s 3) (.c (.int .u8 1))), none, [0]⟩,
    ⟨(some 5), (.mv (.s 4)), none, [1]⟩,
    ⟨(some 6), (.mv (.s 0)), (some (5, true)), [2]⟩,
    ⟨(some 7), (.bin .leq (.s 6) (.c (.int .u8 4))), (some (5, true)), [3, 2]⟩,
    ⟨(some 8), (.pick (.s 5) (.s 7) (.c (.bool false))), none, [2, 4]⟩,
    ⟨(some 2), (.mv (.s 8)), none, [5, 2, 0, 1, 2, 3, 4, 5]⟩] false)
  .ret)), false, (some [(Sh.int .u8)]), (some Sh.bool), false⟩

/-- euphroe/euphroeref17.kind -/
def k162 : Fun := ⟨1, 9, [0, 2], [(.tmp 2)],
  (.seq (.region [
    ⟨(some 2), (.mv (.c (.bool false))), none, []⟩] false)
  (.seq (.region [
    ⟨(some 3), (.mv (.s 0)), none, []⟩,
    ⟨(some 4), (.bin .geq (.s 3) (.c (.int .u8 1))), none, [0]⟩,
    ⟨(some 5), (.mv (.s 4)), none, [1]⟩,
    ⟨(some 6), (.mv (.s 0)), (some (5, true)), [2]⟩,
    ⟨(some 7), (.bin .leq (.s 6) (.c (.int .u8 4))), (some (5, true)), [3, 2]⟩,
    ⟨(some 8), (.pick (.s 5) (.s 7) (.c (.bool false))), none, [2, 4]⟩,
    ⟨(some 2), (.mv (.s 8)), none, [5, 2, 0, 1, 2, 3, 4, 5]⟩] false)
  .ret)), false, (some [(Sh.int .u8)]), (some Sh.bool), false⟩

/-- euphroe/attr.limits -/
def k163 : Fun := ⟨1, 13, [0, 2, 3, 4, 5, 6, 7, 9, 11], [(.tmp 2), (.tmp 3), (.tmp 4), (.tmp 5)],
  (.seq (.region [
    ⟨(some 2), (.mv (.c (.int .i64 0))), none, []⟩,
    ⟨(some 3), (.mv (.c (.int .i64 0))), none, [0]⟩,
    ⟨(some 4), (.mv (.c (.int .u8 0))), none, [1]⟩,
    ⟨(some 5), (.mv (.c (.int .u8 0))), none, [2]⟩] false)
  (.seq (.region [
    ⟨(some 6), (.mv (.s 0)), none, []⟩] false)
  (.block 0
   (.seq (.region [
     ⟨(some 8), (.bin .eql (.s 6) (.c (.int .u8 2))), none, []⟩,
     ⟨(some 7), (.mv (.s 8)), none, [0]⟩] false)
   (.cond (.s 7)
    (.seq (.region [
      ⟨(some 2), (.mv (.c (.int .i64 8))), none, []⟩,
      ⟨(some 3), (.mv (.c (.int .i64 72))), none, [0, 0]⟩,
      ⟨(some 4), (.mv (.c (.int .u8 0))), none, [1, 0, 1]⟩,
      ⟨(some 5), (.mv (.c (.int .u8 4))), none, [2, 0, 1, 2]⟩] false)
    .ret)
    (.seq (.region [
      ⟨(some 10), (.bin .eql (.s 6) (.c (.int .u8 3))), none, []⟩,
      ⟨(some 9), (.mv (.s 10)), none, [0]⟩] false)
    (.cond (.s 9)
     (.seq (.region [
       ⟨(some 2), (.mv (.c (.int .i64 100))), none, []⟩,
       ⟨(some 3), (.mv (.c (.int .i64 100))), none, [0, 0]⟩,
       ⟨(some 4), (.mv (.c (.int .u8 1))), none, [1, 0, 1]⟩,
       ⟨(some 5), (.mv (.c (.int .u8 2))), none, [2, 0, 1, 2]⟩] false)
     .ret)
     (.seq (.region [
       ⟨(some 12), (.bin .eql (.s 6) (.c (.int .u8 4))), none, []⟩,
       ⟨(some 11), (.mv (.s 12)), none, [0]⟩] false)
     (.cond (.s 11)
      (.seq (.region [
        ⟨(some 2), (.mv (.c (.int .i64 36))), none, []⟩,
        ⟨(some 3), (.mv (.c (.int .i64 36))), none, [0, 0]⟩,
        ⟨(some 4), (.mv (.c (.int .u8 1))), none, [1, 0, 1]⟩,
        ⟨(some 5), (.mv (.c (.int .u8 3))), none, [2, 0, 1, 2]⟩] false)
      .ret)
      (.seq (.region [
        ⟨(some 2), (.mv (.c (.int .i64 2))), none, []⟩,
        ⟨(some 3), (.mv (.c (.int .i64 2))), none, [0, 0]⟩,
        ⟨(some 4), (.mv (.c (.int .u8 0))), none, [1, 0, 1]⟩,
        ⟨(some 5), (.mv (.c (.int .u8 0))), none, [2, 0, 1, 2]⟩] false)
      .ret)))))))))), false, (some [(Sh.int .u8)]), (some (Sh.tu (Sh.pr (Sh.int .i64) (Sh.pr (Sh.int .i64) (Sh.pr (Sh.int .u8) (Sh.int .u8)))))), false⟩

/-- bytes.HasPrefix -/
def k164 : Fun := ⟨2, 18, [0, 1, 4], [(.tmp 4)],
  (.seq (.region [
    ⟨(some 4), (.mv (.c (.bool false))), none, []⟩] false)
  (.seq (.region [
    ⟨(some 5), (.mv (.s 0)), none, []⟩,
    ⟨(some 6), (.len false (.s 5)), none, [0]⟩,
    ⟨(some 7), (.mv (.s 1)), none, []⟩,
    ⟨(some 8), (.len false (.s 7)), none, [2]⟩,
    ⟨(some 9), (.bin .geq (.s 6) (.s 8)), none, [1, 3]⟩,
    ⟨(some 10), (.mv (.s 9)), none, [4]⟩,
    ⟨(some 11), (.mv (.s 0)), (some (10, true)), [5]⟩,
    ⟨(some 12), (.mv (.s 1)), (some (10, true)), [5]⟩,
    ⟨(some 13), (.len false (.s 12)), (some (10, true)), [7, 5]⟩,
    ⟨(some 14), (.sls 1 (.s 11) none (some (.s 13)) none), (some (10, true)), [6, 8, 5]⟩,
    ⟨(some 15), (.mv (.s 1)), (some (10, true)), [5]⟩,
    ⟨(some 16), (.call (.c (.fn 160 [])) [(.s 14), (.s 15)]), (some (10, true)), [9, 10, 5, 5]⟩,
    ⟨(some 17), (.pick (.s 10) (.s 16) (.c (.bool false))), none, [5, 11]⟩,
    ⟨(some 4), (.mv (.s 17)), none, [12, 11, 0, 1, 2, 3, 4, 5, 6, 7, 8, 9, 10, 11, 12]⟩] false)
  .ret)), false, (some [(Sh.sl (Sh.int .u8)), (Sh.sl (Sh.int .u8))]), (some Sh.bool), false⟩

/-- euphroe/euphroeref17.zeros -/
def k165 : Fun := ⟨1, 15, [0, 2, 3, 7, 14], [(.tmp 2)],
  (.seq (.region [
    ⟨(some 2), (.mv (.c (.bool false))), none, []⟩] false)
  (.seq (.seq (.region [
    ⟨(some 3), (.mv (.c (.int .i64 0))), none, []⟩] false)
  (.block 0
   (.loop ⟨0, [], false, [0, 3], []⟩
    (.seq (.seq (.region [
      ⟨(some 4), (.mv (.s 3)), none, []⟩,
      ⟨(some 5), (.mv (.s 0)), none, []⟩,
      ⟨(some 6), (.len false (.s 5)), none, [1]⟩,
      ⟨(some 7), (.bin .lss (.s 4) (.s 6)), none, [0, 2]⟩] false)
    (.cond (.s 7)
     .skip
     (.pre ⟨0, [], false, [], []⟩ (.exit 0))))
    (.seq (.block 1
     (.seq (.region [
       ⟨(some 10), (.mv (.s 0)), none, []⟩,
       ⟨(some 11), (.mv (.s 3)), none, []⟩,
       ⟨(some 12), (.iad 1 (.s 10) (.s 11)), none, [0, 1]⟩,
       ⟨(some 13), (.ldc (.s 12)), none, [2]⟩,
       ⟨(some 14), (.bin .neq (.s 13) (.c (.int .u8 0))), none, [3]⟩] false)
     (.cond (.s 14)
      (.seq (.region [
        ⟨(some 2), (.mv (.c (.bool false))), none, []⟩] false)
      .ret)
      .skip)))
    (.region [
      ⟨(some 8), (.mv (.s 3)), none, []⟩,
      ⟨(some 9), (.bin .add (.s 8) (.c (.int .i64 1))), none, [0]⟩,
      ⟨(some 3), (.mv (.s 9)), none, [1, 0, 1]⟩] false))))))
  (.seq (.region [
    ⟨(some 2), (.mv (.c (.bool true))), none, []⟩] false)
  .ret))), false, (some [(Sh.sl (Sh.int .u8))]), (some Sh.bool), false⟩

/-- euphroe/attr.ahead -/
def k166 : Fun := ⟨1, 5, [0, 2], [(.tmp 2)],
  (.seq (.region [
    ⟨(some 2), (.mv (.c .nils)), none, []⟩] false)
  (.seq (.region [
    ⟨(some 3), (.mv (.s 0)), none, []⟩,
    ⟨(some 4), (.bsl 4 1 (.ints .u8 [0, 0, 0, 0]) [(0, 1, (.c (.int .u8 0))), (1, 1, (.c (.int .u8 0))), (2, 1, (.c (.int .u8 0))), (3, 1, (.s 3))]), none, [0]⟩,
    ⟨(some 2), (.mv (.s 4)), none, [1, 0, 1]⟩] false)
  .ret)), false, (some [(Sh.int .u8)]), (some (Sh.sl (Sh.int .u8))), false⟩

/-- euphroe/attr.is -/
def k167 : Fun := ⟨2, 11, [0, 1, 2, 4, 8], [(.tmp 4)],
  (.seq (.region [
    ⟨(some 2), (.box (.s 0)), none, []⟩,
    ⟨(some 4), (.mv (.c (.int .i64 0))), none, []⟩] false)
  (.seq (.seq (.region [
    ⟨(some 5), (.fad 0 (.s 2)), none, []⟩,
    ⟨(some 6), (.ldc (.s 5)), none, [0]⟩,
    ⟨(some 7), (.mv (.s 1)), none, []⟩,
    ⟨(some 8), (.bin .neq (.s 6) (.s 7)), none, [1, 2]⟩] false)
  (.cond (.s 8)
   (.seq (.region [
     ⟨(some 4), (.mv (.c (.int .i64 9))), none, []⟩] false)
   .ret)
   .skip))
  (.seq (.region [
    ⟨(some 9), (.lda 2 none (.s 2)), none, []⟩,
    ⟨(some 10), (.call (.c (.fn 145 [])) [(.s 9)]), none, [0]⟩,
    ⟨(some 4), (.mv (.s 10)), none, [1, 1, 0, 1]⟩] false)
  .ret))), false, (some [(Sh.st (Sh.pr (Sh.int .u8) (Sh.sl (Sh.int .u8)))), (Sh.int .u8)]), (some (Sh.int .i64)), false⟩

def FT : Nat → Option Fun
  | 1 => some k1
  | 19 => some k19
  | 21 => some k21
  | 23 => some k23
  | 46 => some k46
  | 48 => some k48
  | 50 => some k50
  | 51 => some k51
  | 64 => some k64
  | 124 => some k124
  | 125 => some k125
  | 126 => some k126
  | 138 => some k138
  | 139 => some k139
  | 140 => some k140
  | 141 => some k141
  | 142 => some k142
  | 143 => some k143
  | 144 => some k144
  | 145 => some k145
  | 146 => some k146
  | 147 => some k147
  | 148 => some k148
  | 149 => some k149
  | 150 => some k150
  | 151 => some k151
  | 152 => some k152
  | 153 => some k153
  | 154 => some k154
  | 155 => some k155
  | 156 => some k156
  | 157 => some k157
  | 158 => some k158
  | 160 => some k160
  | 161 => some k161
  | 162 => some k162
  | 163 => some k163
  | 164 => some k164
  | 165 => some k165
  | 166 => some k166
  | 167 => some k167
  | _ => none
end Go.Proofs.YtjkdflcccoeggaaE
