/- The evaluator's functions. -/
import Derived.Test.YtciafmcbccgggaaEvXT
namespace Go.Proofs.YtciafmcbccgggaaE
open Go
set_option linter.unusedVariables false
set_option linter.unusedSimpArgs false

/-- slices.Concat[[]byte,byte] -/
def k1 : Fun := ⟨1, 36, [0, 2, 3, 5, 6, 8, 9, 10, 11, 12, 20, 25, 26, 27, 28], [(.tmp 2)],
  (.seq (.region [
    ⟨(some 2), (.mv (.c .nils)), none, []⟩] false)
  (.seq (.region [
    ⟨(some 3), (.mv (.c (.int .i64 0))), none, []⟩] false)
  (.seq (.seq (.region [
    ⟨(some 9), (.mv (.s 0)), none, []⟩,
    ⟨(some 10), (.len false (.s 9)), none, [0]⟩,
    ⟨(some 11), (.mv (.c (.int .i64 0))), none, []⟩] false)
  (.block 0
   (.loop ⟨0, [], false, [0, 3, 9, 10, 11], []⟩
    (.seq (.region [
      ⟨(some 12), (.bin .lss (.s 11) (.s 10)), none, []⟩] false)
    (.seq (.cond (.s 12)
     .skip
     (.pre ⟨0, [], false, [0, 3], []⟩ (.exit 0)))
    (.seq (.block 1
     (.seq (.region [
       ⟨(some 13), (.iad 1 (.s 9) (.s 11)), none, []⟩,
       ⟨(some 14), (.ldc (.s 13)), none, [0]⟩,
       ⟨(some 5), (.mv (.s 14)), none, [1, 0, 1]⟩] false)
     (.seq (.region [
       ⟨(some 15), (.mv (.s 3)), none, []⟩,
       ⟨(some 16), (.mv (.s 5)), none, []⟩,
       ⟨(some 17), (.len false (.s 16)), none, [1]⟩,
       ⟨(some 18), (.bin .add (.s 15) (.s 17)), none, [0, 2]⟩,
       ⟨(some 3), (.mv (.s 18)), none, [3, 0, 1, 2, 3]⟩] false)
     (.seq (.region [
       ⟨(some 19), (.mv (.s 3)), none, []⟩,
       ⟨(some 20), (.bin .lss (.s 19) (.c (.int .i64 0))), none, [0]⟩] false)
     (.cond (.s 20)
      (.region [
        ⟨(some 21), .bad, none, []⟩,
        ⟨none, .bad, none, [0]⟩] false)
      .skip)))))
    (.region [
      ⟨(some 22), (.bin .add (.s 11) (.c (.int .i64 1))), none, []⟩,
      ⟨(some 11), (.mv (.s 22)), none, [0]⟩] false)))))))
  (.seq (.region [
    ⟨(some 23), (.mv (.s 3)), none, []⟩,
    ⟨(some 24), (.call (.c (.fn 64 [])) [(.c .nils), (.s 23)]), none, [0]⟩,
    ⟨(some 6), (.mv (.s 24)), none, [1, 1, 0, 1]⟩] false)
  (.seq (.seq (.region [
    ⟨(some 25), (.mv (.s 0)), none, []⟩,
    ⟨(some 26), (.len false (.s 25)), none, [0]⟩,
    ⟨(some 27), (.mv (.c (.int .i64 0))), none, []⟩] false)
  (.block 2
   (.loop ⟨1, [], false, [6, 25, 26, 27], []⟩
    (.seq (.region [
      ⟨(some 28), (.bin .lss (.s 27) (.s 26)), none, []⟩] false)
    (.seq (.cond (.s 28)
     .skip
     (.pre ⟨0, [], false, [6], []⟩ (.exit 2)))
    (.seq (.block 3
     (.seq (.region [
       ⟨(some 29), (.iad 1 (.s 25) (.s 27)), none, []⟩,
       ⟨(some 30), (.ldc (.s 29)), none, [0]⟩,
       ⟨(some 8), (.mv (.s 30)), none, [1, 0, 1]⟩] false)
     (.region [
       ⟨(some 31), (.mv (.s 6)), none, []⟩,
       ⟨(some 32), (.mv (.s 8)), none, []⟩,
       ⟨(some 33), (.app 1 1 (.s 31) (.s 32)), none, [0, 1]⟩,
       ⟨(some 6), (.mv (.s 33)), none, [2, 2, 0, 1, 2]⟩] false)))
    (.region [
      ⟨(some 34), (.bin .add (.s 27) (.c (.int .i64 1))), none, []⟩,
      ⟨(some 27), (.mv (.s 34)), none, [0]⟩] false)))))))
  (.seq (.region [
    ⟨(some 35), (.mv (.s 6)), none, []⟩,
    ⟨(some 2), (.mv (.s 35)), none, [0, 0]⟩] false)
  .ret)))))), false, (some [(Sh.sl (Sh.sl (Sh.int .u8)))]), none, false⟩

/-- euphroe/octs.Put -/
def k19 : Fun := ⟨3, 37, [0, 1, 2, 6, 7, 8, 9, 15, 19, 20, 21, 33], [(.tmp 6), (.tmp 7)],
  (.seq (.region [
    ⟨(some 6), (.mv (.c .nils)), none, []⟩,
    ⟨(some 7), (.mv (.c (.int .i64 0))), none, [0]⟩] false)
  (.seq (.seq (.region [
    ⟨(some 10), (.mv (.s 1)), none, []⟩,
    ⟨(some 11), (.bin .lss (.s 10) (.c (.int .i64 1))), none, [0]⟩,
    ⟨(some 12), (.mv (.s 11)), none, [1]⟩,
    ⟨(some 13), (.mv (.s 1)), (some (12, false)), [2]⟩,
    ⟨(some 14), (.bin .gtr (.s 13) (.c (.int .i64 8))), (some (12, false)), [3, 2]⟩,
    ⟨(some 15), (.pick (.s 12) (.c (.bool true)) (.s 14)), none, [2, 4]⟩] false)
  (.cond (.s 15)
   (.seq (.region [
     ⟨(some 6), (.mv (.c .nils)), none, []⟩,
     ⟨(some 7), (.mv (.c (.int .i64 1))), none, [0, 0]⟩] false)
   .ret)
   .skip))
  (.seq (.region [
    ⟨(some 16), (.mv (.s 1)), none, []⟩,
    ⟨(some 17), (.mks (.ints .u8 [0]) 1 1 (.s 16) (.s 16)), none, [0, 0]⟩,
    ⟨(some 8), (.mv (.s 17)), none, [1, 0, 1]⟩] false)
  (.seq (.seq (.region [
    ⟨(some 18), (.mv (.s 8)), none, []⟩,
    ⟨(some 19), (.len false (.s 18)), none, [0]⟩,
    ⟨(some 20), (.mv (.c (.int .i64 0))), none, []⟩] false)
  (.block 0
   (.loop ⟨0, [], false, [0, 2, 8, 19, 20], []⟩
    (.seq (.region [
      ⟨(some 21), (.bin .lss (.s 20) (.s 19)), none, []⟩] false)
    (.seq (.cond (.s 21)
     .skip
     (.pre ⟨0, [], false, [2, 8], []⟩ (.exit 0)))
    (.seq (.block 1
     (.seq (.region [
       ⟨(some 22), (.mv (.s 20)), none, []⟩,
       ⟨(some 9), (.mv (.s 22)), none, [0, 0]⟩] false)
     (.region [
       ⟨(some 23), (.mv (.s 8)), none, []⟩,
       ⟨(some 24), (.mv (.s 9)), none, []⟩,
       ⟨(some 25), (.mv (.s 0)), none, []⟩,
       ⟨(some 26), (.mv (.s 9)), none, []⟩,
       ⟨(some 27), (.bin .mul (.c (.int .i64 8)) (.s 26)), none, [3]⟩,
       ⟨(some 28), (.bin .shr (.s 25) (.s 27)), none, [2, 4]⟩,
       ⟨(some 29), (.cvi .u8 (.s 28)), none, [5]⟩,
       ⟨(some 30), (.iad 1 (.s 23) (.s 24)), none, [0, 1, 0, 1, 2, 3, 4, 5, 6]⟩,
       ⟨none, (.stc 1 (.s 30) (.s 29)), none, [7, 6, 0, 1, 2, 3, 4, 5, 6]⟩] false)))
    (.region [
      ⟨(some 31), (.bin .add (.s 20) (.c (.int .i64 1))), none, []⟩,
      ⟨(some 20), (.mv (.s 31)), none, [0]⟩] false)))))))
  (.seq (.seq (.region [
    ⟨(some 32), (.mv (.s 2)), none, []⟩,
    ⟨(some 33), (.un .not (.s 32)), none, [0]⟩] false)
  (.cond (.s 33)
   (.region [
     ⟨(some 34), (.mv (.s 8)), none, []⟩,
     ⟨(some 35), (.call (.c (.fn 48 [])) [(.s 34)]), none, [0]⟩] false)
   .skip))
  (.seq (.region [
    ⟨(some 36), (.mv (.s 8)), none, []⟩,
    ⟨(some 6), (.mv (.s 36)), none, [0, 0]⟩,
    ⟨(some 7), (.mv (.c (.int .i64 0))), none, [1, 0, 1]⟩] false)
  .ret)))))), false, (some [(Sh.int .u64), (Sh.int .i64), Sh.bool]), (some (Sh.tu (Sh.pr (Sh.sl (Sh.int .u8)) (Sh.int .i64)))), false⟩

/-- euphroe/octs.Get -/
def k21 : Fun := ⟨2, 39, [0, 1, 4, 5, 6, 7, 8, 16, 17, 18, 19, 20, 24], [(.tmp 4), (.tmp 5)],
  (.seq (.region [
    ⟨(some 4), (.mv (.c (.int .u64 0))), none, []⟩,
    ⟨(some 5), (.mv (.c (.int .i64 0))), none, [0]⟩] false)
  (.seq (.seq (.region [
    ⟨(some 9), (.mv (.s 0)), none, []⟩,
    ⟨(some 10), (.len false (.s 9)), none, [0]⟩,
    ⟨(some 11), (.bin .lss (.s 10) (.c (.int .i64 1))), none, [1]⟩,
    ⟨(some 12), (.mv (.s 11)), none, [2]⟩,
    ⟨(some 13), (.mv (.s 0)), (some (12, false)), [3]⟩,
    ⟨(some 14), (.len false (.s 13)), (some (12, false)), [4, 3]⟩,
    ⟨(some 15), (.bin .gtr (.s 14) (.c (.int .i64 8))), (some (12, false)), [5, 3]⟩,
    ⟨(some 16), (.pick (.s 12) (.c (.bool true)) (.s 15)), none, [3, 6]⟩] false)
  (.cond (.s 16)
   (.seq (.region [
     ⟨(some 4), (.mv (.c (.int .u64 0))), none, []⟩,
     ⟨(some 5), (.mv (.c (.int .i64 1))), none, [0, 0]⟩] false)
   .ret)
   .skip))
  (.seq (.region [
    ⟨(some 6), (.mv (.c (.int .u64 0))), none, []⟩] false)
  (.seq (.seq (.region [
    ⟨(some 17), (.mv (.s 0)), none, []⟩,
    ⟨(some 18), (.len false (.s 17)), none, [0]⟩,
    ⟨(some 19), (.mv (.c (.int .i64 0))), none, []⟩] false)
  (.block 0
   (.loop ⟨0, [], false, [1, 6, 17, 18, 19], []⟩
    (.seq (.region [
      ⟨(some 20), (.bin .lss (.s 19) (.s 18)), none, []⟩] false)
    (.seq (.cond (.s 20)
     .skip
     (.pre ⟨0, [], false, [6], []⟩ (.exit 0)))
    (.seq (.block 1
     (.seq (.region [
       ⟨(some 21), (.mv (.s 19)), none, []⟩,
       ⟨(some 22), (.iad 1 (.s 17) (.s 19)), none, []⟩,
       ⟨(some 23), (.ldc (.s 22)), none, [1]⟩,
       ⟨(some 7), (.mv (.s 21)), none, [0, 0, 1, 2]⟩,
       ⟨(some 8), (.mv (.s 23)), none, [2, 3, 0, 1, 2, 3]⟩] false)
     (.seq (.region [
       ⟨(some 24), (.mv (.s 1)), none, []⟩] false)
     (.cond (.s 24)
      (.region [
        ⟨(some 25), (.mv (.s 6)), none, []⟩,
        ⟨(some 26), (.mv (.s 8)), none, []⟩,
        ⟨(some 27), (.cvi .u64 (.s 26)), none, [1]⟩,
        ⟨(some 28), (.mv (.s 7)), none, []⟩,
        ⟨(some 29), (.bin .mul (.c (.int .i64 8)) (.s 28)), none, [3]⟩,
        ⟨(some 30), (.bin .shl (.s 27) (.s 29)), none, [2, 4]⟩,
        ⟨(some 31), (.bin .or (.s 25) (.s 30)), none, [0, 5]⟩,
        ⟨(some 6), (.mv (.s 31)), none, [6, 0, 1, 2, 3, 4, 5, 6]⟩] false)
      (.region [
        ⟨(some 32), (.mv (.s 6)), none, []⟩,
        ⟨(some 33), (.bin .shl (.s 32) (.c (.int .u64 8))), none, [0]⟩,
        ⟨(some 34), (.mv (.s 8)), none, []⟩,
        ⟨(some 35), (.cvi .u64 (.s 34)), none, [2]⟩,
        ⟨(some 36), (.bin .or (.s 33) (.s 35)), none, [1, 3]⟩,
        ⟨(some 6), (.mv (.s 36)), none, [4, 0, 1, 2, 3, 4]⟩] false)))))
    (.region [
      ⟨(some 37), (.bin .add (.s 19) (.c (.int .i64 1))), none, []⟩,
      ⟨(some 19), (.mv (.s 37)), none, [0]⟩] false)))))))
  (.seq (.region [
    ⟨(some 38), (.mv (.s 6)), none, []⟩,
    ⟨(some 4), (.mv (.s 38)), none, [0, 0]⟩,
    ⟨(some 5), (.mv (.c (.int .i64 0))), none, [1, 0, 1]⟩] false)
  .ret))))), false, (some [(Sh.sl (Sh.int .u8)), Sh.bool]), (some (Sh.tu (Sh.pr (Sh.int .u64) (Sh.int .i64)))), false⟩

/-- euphroe/euphroeref01.Same -/
def k23 : Fun := ⟨2, 26, [0, 1, 4, 5, 10, 14, 25], [(.tmp 4)],
  (.seq (.region [
    ⟨(some 4), (.mv (.c (.bool false))), none, []⟩] false)
  (.seq (.seq (.region [
    ⟨(some 6), (.mv (.s 0)), none, []⟩,
    ⟨(some 7), (.len false (.s 6)), none, [0]⟩,
    ⟨(some 8), (.mv (.s 1)), none, []⟩,
    ⟨(some 9), (.len false (.s 8)), none, [2]⟩,
    ⟨(some 10), (.bin .neq (.s 7) (.s 9)), none, [1, 3]⟩] false)
  (.cond (.s 10)
   (.seq (.region [
     ⟨(some 4), (.mv (.c (.bool false))), none, []⟩] false)
   .ret)
   .skip))
  (.seq (.seq (.region [
    ⟨(some 5), (.mv (.c (.int .i64 0))), none, []⟩] false)
  (.block 0
   (.loop ⟨0, [], false, [0, 1, 5], []⟩
    (.seq (.seq (.region [
      ⟨(some 11), (.mv (.s 5)), none, []⟩,
      ⟨(some 12), (.mv (.s 0)), none, []⟩,
      ⟨(some 13), (.len false (.s 12)), none, [1]⟩,
      ⟨(some 14), (.bin .lss (.s 11) (.s 13)), none, [0, 2]⟩] false)
    (.cond (.s 14)
     .skip
     (.pre ⟨0, [], false, [], []⟩ (.exit 0))))
    (.seq (.block 1
     (.seq (.region [
       ⟨(some 17), (.mv (.s 0)), none, []⟩,
       ⟨(some 18), (.mv (.s 5)), none, []⟩,
       ⟨(some 19), (.iad 1 (.s 17) (.s 18)), none, [0, 1]⟩,
       ⟨(some 20), (.ldc (.s 19)), none, [2]⟩,
       ⟨(some 21), (.mv (.s 1)), none, []⟩,
       ⟨(some 22), (.mv (.s 5)), none, []⟩,
       ⟨(some 23), (.iad 1 (.s 21) (.s 22)), none, [4, 5]⟩,
       ⟨(some 24), (.ldc (.s 23)), none, [6]⟩,
       ⟨(some 25), (.bin .neq (.s 20) (.s 24)), none, [3, 7]⟩] true)
     (.cond (.s 25)
      (.seq (.region [
        ⟨(some 4), (.mv (.c (.bool false))), none, []⟩] false)
      .ret)
      .skip)))
    (.region [
      ⟨(some 15), (.mv (.s 5)), none, []⟩,
      ⟨(some 16), (.bin .add (.s 15) (.c (.int .i64 1))), none, [0]⟩,
      ⟨(some 5), (.mv (.s 16)), none, [1, 0, 1]⟩] false))))))
  (.seq (.region [
    ⟨(some 4), (.mv (.c (.bool true))), none, []⟩] false)
  .ret)))), false, (some [(Sh.sl (Sh.int .u8)), (Sh.sl (Sh.int .u8))]), (some Sh.bool), false⟩

/-- euphroe/octs.Join -/
def k46 : Fun := ⟨1, 5, [0, 2], [(.tmp 2)],
  (.seq (.region [
    ⟨(some 2), (.mv (.c .nils)), none, []⟩] false)
  (.seq (.region [
    ⟨(some 3), (.mv (.s 0)), none, []⟩,
    ⟨(some 4), (.call (.c (.fn 1 [])) [(.s 3)]), none, [0]⟩,
    ⟨(some 2), (.mv (.s 4)), none, [1, 1, 0, 1]⟩] false)
  .ret)), false, (some [(Sh.sl (Sh.sl (Sh.int .u8)))]), none, false⟩

/-- euphroe/octs.Same -/
def k47 : Fun := ⟨2, 31, [0, 1, 4, 5, 6, 7, 12, 13, 14, 15, 16], [(.tmp 4)],
  (.seq (.region [
    ⟨(some 4), (.mv (.c (.bool false))), none, []⟩] false)
  (.seq (.seq (.region [
    ⟨(some 8), (.mv (.s 0)), none, []⟩,
    ⟨(some 9), (.len false (.s 8)), none, [0]⟩,
    ⟨(some 10), (.mv (.s 1)), none, []⟩,
    ⟨(some 11), (.len false (.s 10)), none, [2]⟩,
    ⟨(some 12), (.bin .neq (.s 9) (.s 11)), none, [1, 3]⟩] false)
  (.cond (.s 12)
   (.seq (.region [
     ⟨(some 4), (.mv (.c (.bool false))), none, []⟩] false)
   .ret)
   .skip))
  (.seq (.region [
    ⟨(some 5), (.mv (.c (.int .u8 0))), none, []⟩] false)
  (.seq (.seq (.region [
    ⟨(some 13), (.mv (.s 0)), none, []⟩,
    ⟨(some 14), (.len false (.s 13)), none, [0]⟩,
    ⟨(some 15), (.mv (.c (.int .i64 0))), none, []⟩] false)
  (.block 0
   (.loop ⟨0, [], false, [1, 5, 13, 14, 15], []⟩
    (.seq (.region [
      ⟨(some 16), (.bin .lss (.s 15) (.s 14)), none, []⟩] false)
    (.seq (.cond (.s 16)
     .skip
     (.pre ⟨0, [], false, [5], []⟩ (.exit 0)))
    (.seq (.block 1
     (.seq (.region [
       ⟨(some 17), (.mv (.s 15)), none, []⟩,
       ⟨(some 18), (.iad 1 (.s 13) (.s 15)), none, []⟩,
       ⟨(some 19), (.ldc (.s 18)), none, [1]⟩,
       ⟨(some 6), (.mv (.s 17)), none, [0, 0, 1, 2]⟩,
       ⟨(some 7), (.mv (.s 19)), none, [2, 3, 0, 1, 2, 3]⟩] false)
     (.region [
       ⟨(some 20), (.mv (.s 5)), none, []⟩,
       ⟨(some 21), (.mv (.s 7)), none, []⟩,
       ⟨(some 22), (.mv (.s 1)), none, []⟩,
       ⟨(some 23), (.mv (.s 6)), none, []⟩,
       ⟨(some 24), (.iad 1 (.s 22) (.s 23)), none, [2, 3]⟩,
       ⟨(some 25), (.ldc (.s 24)), none, [4]⟩,
       ⟨(some 26), (.bin .xor (.s 21) (.s 25)), none, [1, 5]⟩,
       ⟨(some 27), (.bin .or (.s 20) (.s 26)), none, [0, 6]⟩,
       ⟨(some 5), (.mv (.s 27)), none, [7, 0, 1, 2, 3, 4, 5, 6, 7]⟩] false)))
    (.region [
      ⟨(some 28), (.bin .add (.s 15) (.c (.int .i64 1))), none, []⟩,
      ⟨(some 15), (.mv (.s 28)), none, [0]⟩] false)))))))
  (.seq (.region [
    ⟨(some 29), (.mv (.s 5)), none, []⟩,
    ⟨(some 30), (.bin .eql (.s 29) (.c (.int .u8 0))), none, [0]⟩,
    ⟨(some 4), (.mv (.s 30)), none, [1, 0, 1]⟩] false)
  .ret))))), false, (some [(Sh.sl (Sh.int .u8)), (Sh.sl (Sh.int .u8))]), (some Sh.bool), false⟩

/-- slices.Reverse[[]byte,byte] -/
def k48 : Fun := ⟨1, 28, [0, 2, 3, 9], [],
  (.seq (.region [
    ⟨(some 4), (.mv (.s 0)), none, []⟩,
    ⟨(some 5), (.len false (.s 4)), none, [0]⟩,
    ⟨(some 6), (.bin .sub (.s 5) (.c (.int .i64 1))), none, [1]⟩,
    ⟨(some 2), (.mv (.c (.int .i64 0))), none, []⟩,
    ⟨(some 3), (.mv (.s 6)), none, [2, 3, 0, 1, 2, 3]⟩] false)
  (.block 0
   (.loop ⟨0, [], false, [0, 2, 3], []⟩
    (.seq (.seq (.region [
      ⟨(some 7), (.mv (.s 2)), none, []⟩,
      ⟨(some 8), (.mv (.s 3)), none, []⟩,
      ⟨(some 9), (.bin .lss (.s 7) (.s 8)), none, [0, 1]⟩] false)
    (.cond (.s 9)
     .skip
     (.pre ⟨0, [], false, [], []⟩ (.exit 0))))
    (.seq (.block 1
     (.region [
       ⟨(some 14), (.mv (.s 0)), none, []⟩,
       ⟨(some 15), (.mv (.s 2)), none, []⟩,
       ⟨(some 16), (.mv (.s 0)), none, []⟩,
       ⟨(some 17), (.mv (.s 3)), none, []⟩,
       ⟨(some 18), (.mv (.s 0)), none, []⟩,
       ⟨(some 19), (.mv (.s 3)), none, []⟩,
       ⟨(some 20), (.iad 1 (.s 18) (.s 19)), none, [4, 5]⟩,
       ⟨(some 21), (.ldc (.s 20)), none, [6]⟩,
       ⟨(some 22), (.mv (.s 0)), none, []⟩,
       ⟨(some 23), (.mv (.s 2)), none, []⟩,
       ⟨(some 24), (.iad 1 (.s 22) (.s 23)), none, [8, 9]⟩,
       ⟨(some 25), (.ldc (.s 24)), none, [10]⟩,
       ⟨(some 26), (.iad 1 (.s 14) (.s 15)), none, [0, 1, 0, 1, 4, 5, 6, 7, 11]⟩,
       ⟨none, (.stc 1 (.s 26) (.s 21)), none, [12, 7, 0, 1, 4, 5, 6, 7, 11]⟩,
       ⟨(some 27), (.iad 1 (.s 16) (.s 17)), none, [2, 3, 0, 1, 2, 3, 4, 5, 6, 7, 8, 9, 10, 11, 12, 13]⟩,
       ⟨none, (.stc 1 (.s 27) (.s 25)), none, [14, 11, 13, 0, 1, 2, 3, 4, 5, 6, 7, 8, 9, 10, 11, 12, 13]⟩] true))
    (.region [
      ⟨(some 10), (.mv (.s 2)), none, []⟩,
      ⟨(some 11), (.bin .add (.s 10) (.c (.int .i64 1))), none, [0]⟩,
      ⟨(some 12), (.mv (.s 3)), none, []⟩,
      ⟨(some 13), (.bin .sub (.s 12) (.c (.int .i64 1))), none, [2]⟩,
      ⟨(some 2), (.mv (.s 11)), none, [1, 0, 1]⟩,
      ⟨(some 3), (.mv (.s 13)), none, [3, 4, 0, 1, 2, 3, 4]⟩] false)))))), true, none, none, false⟩

/-- slices.Grow[[]byte,byte] -/
def k64 : Fun := ⟨2, 27, [0, 1, 4, 6, 16], [(.tmp 4)],
  (.seq (.region [
    ⟨(some 4), (.mv (.c .nils)), none, []⟩] false)
  (.seq (.seq (.region [
    ⟨(some 5), (.mv (.s 1)), none, []⟩,
    ⟨(some 6), (.bin .lss (.s 5) (.c (.int .i64 0))), none, [0]⟩] false)
  (.cond (.s 6)
   (.region [
     ⟨(some 7), .bad, none, []⟩,
     ⟨none, .bad, none, [0]⟩] false)
   .skip))
  (.seq (.seq (.region [
    ⟨(some 8), (.mv (.s 1)), none, []⟩,
    ⟨(some 9), (.mv (.s 0)), none, []⟩,
    ⟨(some 10), (.cap (.s 9)), none, [1]⟩,
    ⟨(some 11), (.mv (.s 0)), none, []⟩,
    ⟨(some 12), (.len false (.s 11)), none, [3]⟩,
    ⟨(some 13), (.bin .sub (.s 10) (.s 12)), none, [2, 4]⟩,
    ⟨(some 14), (.bin .sub (.s 8) (.s 13)), none, [0, 5]⟩,
    ⟨(some 1), (.mv (.s 14)), none, [6, 0, 1, 2, 3, 4, 5, 6]⟩] false)
  (.seq (.region [
    ⟨(some 15), (.mv (.s 1)), none, []⟩,
    ⟨(some 16), (.bin .gtr (.s 15) (.c (.int .i64 0))), none, [0]⟩] false)
  (.cond (.s 16)
   (.region [
     ⟨(some 17), (.mv (.s 0)), none, []⟩,
     ⟨(some 18), (.mv (.s 0)), none, []⟩,
     ⟨(some 19), (.cap (.s 18)), none, [1]⟩,
     ⟨(some 20), (.sls 1 (.s 17) none (some (.s 19)) none), none, [0, 2]⟩,
     ⟨(some 21), (.mv (.s 1)), none, []⟩,
     ⟨(some 22), (.apz 1 1 (.ints .u8 [0]) (.s 20) (.s 21)), none, [3, 4]⟩,
     ⟨(some 23), (.mv (.s 0)), none, []⟩,
     ⟨(some 24), (.len false (.s 23)), none, [6]⟩,
     ⟨(some 25), (.sls 1 (.s 22) none (some (.s 24)) none), none, [5, 7]⟩,
     ⟨(some 0), (.mv (.s 25)), none, [8, 5, 0, 1, 2, 3, 4, 5, 6, 7, 8]⟩] false)
   .skip)))
  (.seq (.region [
    ⟨(some 26), (.mv (.s 0)), none, []⟩,
    ⟨(some 4), (.mv (.s 26)), none, [0, 0]⟩] false)
  (.pre ⟨0, [], true, [], [(4, (.ints .u8 []), 1)]⟩ .ret))))), false, none, none, false⟩

/-- euphroe/roots.Root -/
def k75 : Fun := ⟨3, 19, [0, 1, 2, 6, 7, 12], [(.tmp 6), (.tmp 7)],
  (.seq (.region [
    ⟨(some 6), (.mv (.c (.int .u64 0))), none, []⟩,
    ⟨(some 7), (.mv (.c (.int .i64 0))), none, [0]⟩] false)
  (.seq (.seq (.region [
    ⟨(some 8), (.mv (.s 0)), none, []⟩,
    ⟨(some 9), (.mv (.s 1)), none, []⟩,
    ⟨(some 10), (.mv (.s 2)), none, []⟩,
    ⟨(some 11), (.call (.c (.fn 100 [])) [(.s 8), (.s 9), (.s 10)]), none, [0, 1, 2]⟩,
    ⟨(some 12), (.un .not (.s 11)), none, [3]⟩] false)
  (.cond (.s 12)
   (.seq (.region [
     ⟨(some 6), (.mv (.c (.int .u64 0))), none, []⟩,
     ⟨(some 7), (.mv (.c (.int .i64 1))), none, [0, 0]⟩] false)
   .ret)
   .skip))
  (.seq (.region [
    ⟨(some 13), (.mv (.s 0)), none, []⟩,
    ⟨(some 14), (.mv (.s 1)), none, []⟩,
    ⟨(some 15), (.call (.c (.fn 101 [])) [(.s 13), (.s 14)]), none, [0, 1]⟩,
    ⟨(some 16), (.mv (.s 2)), none, []⟩,
    ⟨(some 17), (.bin .sub (.c (.int .i64 32)) (.s 16)), none, [3]⟩,
    ⟨(some 18), (.bin .shr (.s 15) (.s 17)), none, [2, 4]⟩,
    ⟨(some 6), (.mv (.s 18)), none, [5, 2, 0, 1, 2, 3, 4, 5]⟩,
    ⟨(some 7), (.mv (.c (.int .i64 0))), none, [6, 0, 1, 2, 3, 4, 5, 6]⟩] false)
  .ret))), false, (some [(Sh.int .i64), (Sh.int .i64), (Sh.int .i64)]), (some (Sh.tu (Sh.pr (Sh.int .u64) (Sh.int .i64)))), false⟩

/-- euphroe/roots.Frac -/
def k78 : Fun := ⟨2, 15, [0, 1, 4, 5], [(.tmp 4)],
  (.seq (.region [
    ⟨(some 4), (.mv (.c (.int .u32 0))), none, []⟩] false)
  (.seq (.region [
    ⟨(some 8), (.mv (.s 0)), none, []⟩,
    ⟨(some 9), (.mv (.s 1)), none, []⟩,
    ⟨(some 10), (.call (.c (.fn 75 [])) [(.s 8), (.s 9), (.c (.int .i64 32))]), none, [0, 1]⟩,
    ⟨(some 7), (.mv (.s 10)), none, [2]⟩,
    ⟨(some 11), (.ext (.s 7) 0), none, [3]⟩,
    ⟨(some 12), (.ext (.s 7) 1), none, [3]⟩,
    ⟨(some 5), (.mv (.s 11)), none, [4, 2, 0, 1, 2, 3, 4]⟩,
    ⟨(some 6), (.mv (.s 12)), none, [5, 6, 0, 1, 2, 3, 4, 5, 6]⟩] false)
  (.seq (.region [
    ⟨(some 13), (.mv (.s 5)), none, []⟩,
    ⟨(some 14), (.cvi .u32 (.s 13)), none, [0]⟩,
    ⟨(some 4), (.mv (.s 14)), none, [1, 0, 1]⟩] false)
  .ret))), false, (some [(Sh.int .i64), (Sh.int .i64)]), (some (Sh.int .u32)), false⟩

/-- euphroe/roots.Primes -/
def k81 : Fun := ⟨1, 33, [0, 2, 3, 4, 6, 14, 17, 18, 19, 20, 26], [(.tmp 2)],
  (.seq (.region [
    ⟨(some 2), (.mv (.c .nils)), none, []⟩] false)
  (.scope
   (.seq (.region [
     ⟨(some 3), (.mv (.c .nils)), none, []⟩] false)
   (.seq (.label 0)
   (.seq (.seq (.region [
     ⟨(some 4), (.mv (.c (.int .i64 2))), none, []⟩] false)
   (.block 0
    (.loop ⟨0, [], false, [0, 3, 4], [(3, (.ints .i64 []), 1)]⟩
     (.seq (.seq (.region [
       ⟨(some 7), (.mv (.s 4)), none, []⟩,
       ⟨(some 8), (.bin .lss (.s 7) (.c (.int .i64 1000))), none, [0]⟩,
       ⟨(some 9), (.mv (.s 8)), none, [1]⟩,
       ⟨(some 10), (.mv (.s 3)), (some (9, true)), [2]⟩,
       ⟨(some 11), (.len false (.s 10)), (some (9, true)), [3, 2]⟩,
       ⟨(some 12), (.mv (.s 0)), (some (9, true)), [2]⟩,
       ⟨(some 13), (.bin .lss (.s 11) (.s 12)), (some (9, true)), [4, 5, 2]⟩,
       ⟨(some 14), (.pick (.s 9) (.s 13) (.c (.bool false))), none, [2, 6]⟩] false)
     (.cond (.s 14)
      .skip
      (.pre ⟨0, [], false, [3], []⟩ (.exit 0))))
     (.seq (.block 1
      (.seq (.seq (.region [
        ⟨(some 17), (.mv (.s 3)), none, []⟩,
        ⟨(some 18), (.len false (.s 17)), none, [0]⟩,
        ⟨(some 19), (.mv (.c (.int .i64 0))), none, []⟩] false)
      (.block 2
       (.loop ⟨1, [], false, [0, 3, 4, 17, 18, 19], []⟩
        (.seq (.region [
          ⟨(some 20), (.bin .lss (.s 19) (.s 18)), none, []⟩] false)
        (.seq (.cond (.s 20)
         .skip
         (.pre ⟨0, [], false, [0, 3, 4], []⟩ (.exit 2)))
        (.seq (.block 3
         (.seq (.region [
           ⟨(some 21), (.iad 1 (.s 17) (.s 19)), none, []⟩,
           ⟨(some 22), (.ldc (.s 21)), none, [0]⟩,
           ⟨(some 6), (.mv (.s 22)), none, [1, 0, 1]⟩] false)
         (.seq (.region [
           ⟨(some 23), (.mv (.s 4)), none, []⟩,
           ⟨(some 24), (.mv (.s 6)), none, []⟩,
           ⟨(some 25), (.bin .rem (.s 23) (.s 24)), none, [0, 1]⟩,
           ⟨(some 26), (.bin .eql (.s 25) (.c (.int .i64 0))), none, [2]⟩] false)
         (.cond (.s 26)
          (.pre ⟨0, [], false, [0, 3, 4], []⟩ (.exit 1))
          .skip))))
        (.region [
          ⟨(some 27), (.bin .add (.s 19) (.c (.int .i64 1))), none, []⟩,
          ⟨(some 19), (.mv (.s 27)), none, [0]⟩] false)))))))
      (.region [
        ⟨(some 28), (.mv (.s 3)), none, []⟩,
        ⟨(some 29), (.mv (.s 4)), none, []⟩,
        ⟨(some 30), (.bsl 1 1 (.ints .i64 [0]) [(0, 1, (.s 29))]), none, [1]⟩,
        ⟨(some 31), (.app 1 8 (.s 28) (.s 30)), none, [0, 2]⟩,
        ⟨(some 3), (.mv (.s 31)), none, [3, 3, 0, 1, 2, 3]⟩] false)))
     (.region [
       ⟨(some 15), (.mv (.s 4)), none, []⟩,
       ⟨(some 16), (.bin .add (.s 15) (.c (.int .i64 1))), none, [0]⟩,
       ⟨(some 4), (.mv (.s 16)), none, [1, 0, 1]⟩] false))))))
   (.seq (.region [
     ⟨(some 32), (.mv (.s 3)), none, []⟩,
     ⟨(some 2), (.mv (.s 32)), none, [0, 0]⟩] false)
   .ret)))))), false, (some [(Sh.int .i64)]), (some (Sh.sl (Sh.int .i64))), false⟩

/-- euphroe/roots.Fracs -/
def k83 : Fun := ⟨2, 23, [0, 1, 4, 5, 7, 9, 10, 11, 12], [(.tmp 4)],
  (.seq (.region [
    ⟨(some 4), (.mv (.c .nils)), none, []⟩] false)
  (.seq (.region [
    ⟨(some 5), (.mv (.c .nils)), none, []⟩] false)
  (.seq (.seq (.region [
    ⟨(some 8), (.mv (.s 0)), none, []⟩,
    ⟨(some 9), (.call (.c (.fn 81 [])) [(.s 8)]), none, [0]⟩,
    ⟨(some 10), (.len false (.s 9)), none, [1]⟩,
    ⟨(some 11), (.mv (.c (.int .i64 0))), none, []⟩] false)
  (.block 0
   (.loop ⟨0, [], false, [1, 5, 9, 10, 11], [(5, (.ints .u32 []), 1)]⟩
    (.seq (.region [
      ⟨(some 12), (.bin .lss (.s 11) (.s 10)), none, []⟩] false)
    (.seq (.cond (.s 12)
     .skip
     (.pre ⟨0, [], false, [5], []⟩ (.exit 0)))
    (.seq (.block 1
     (.seq (.region [
       ⟨(some 13), (.iad 1 (.s 9) (.s 11)), none, []⟩,
       ⟨(some 14), (.ldc (.s 13)), none, [0]⟩,
       ⟨(some 7), (.mv (.s 14)), none, [1, 0, 1]⟩] false)
     (.region [
       ⟨(some 15), (.mv (.s 5)), none, []⟩,
       ⟨(some 16), (.mv (.s 7)), none, []⟩,
       ⟨(some 17), (.mv (.s 1)), none, []⟩,
       ⟨(some 18), (.call (.c (.fn 78 [])) [(.s 16), (.s 17)]), none, [1, 2]⟩,
       ⟨(some 19), (.bsl 1 1 (.ints .u32 [0]) [(0, 1, (.s 18))]), none, [3]⟩,
       ⟨(some 20), (.app 1 4 (.s 15) (.s 19)), none, [0, 4, 3]⟩,
       ⟨(some 5), (.mv (.s 20)), none, [5, 5, 0, 1, 2, 3, 4, 5]⟩] false)))
    (.region [
      ⟨(some 21), (.bin .add (.s 11) (.c (.int .i64 1))), none, []⟩,
      ⟨(some 11), (.mv (.s 21)), none, [0]⟩] false)))))))
  (.seq (.region [
    ⟨(some 22), (.mv (.s 5)), none, []⟩,
    ⟨(some 4), (.mv (.s 22)), none, [0, 0]⟩] false)
  .ret)))), false, (some [(Sh.int .i64), (Sh.int .i64)]), (some (Sh.sl (Sh.int .u32))), false⟩

/-- euphroe/roots.may -/
def k100 : Fun := ⟨3, 29, [0, 1, 2, 6], [(.tmp 6)],
  (.seq (.region [
    ⟨(some 6), (.mv (.c (.bool false))), none, []⟩] false)
  (.seq (.region [
    ⟨(some 7), (.mv (.s 0)), none, []⟩,
    ⟨(some 8), (.bin .geq (.s 7) (.c (.int .i64 0))), none, [0]⟩,
    ⟨(some 9), (.mv (.s 8)), none, [1]⟩,
    ⟨(some 10), (.mv (.s 0)), (some (9, true)), [2]⟩,
    ⟨(some 11), (.bin .leq (.s 10) (.c (.int .i64 1000))), (some (9, true)), [3, 2]⟩,
    ⟨(some 12), (.pick (.s 9) (.s 11) (.c (.bool false))), none, [2, 4]⟩,
    ⟨(some 13), (.mv (.s 12)), none, [5, 2]⟩,
    ⟨(some 14), (.mv (.s 1)), (some (13, true)), [6]⟩,
    ⟨(some 15), (.bin .eql (.s 14) (.c (.int .i64 2))), (some (13, true)), [7, 6]⟩,
    ⟨(some 16), (.mv (.s 15)), (some (13, true)), [8, 6, 6]⟩,
    ⟨(some 17), (.mv (.s 1)), (some (16, false)), [9]⟩,
    ⟨(some 18), (.bin .eql (.s 17) (.c (.int .i64 3))), (some (16, false)), [10, 9]⟩,
    ⟨(some 19), (.pick (.s 16) (.c (.bool true)) (.s 18)), (some (13, true)), [9, 11, 6]⟩,
    ⟨(some 20), (.pick (.s 13) (.s 19) (.c (.bool false))), none, [6, 12]⟩,
    ⟨(some 21), (.mv (.s 20)), none, [13, 9]⟩,
    ⟨(some 22), (.mv (.s 2)), (some (21, true)), [14]⟩,
    ⟨(some 23), (.bin .geq (.s 22) (.c (.int .i64 0))), (some (21, true)), [15, 14]⟩,
    ⟨(some 24), (.pick (.s 21) (.s 23) (.c (.bool false))), none, [14, 16]⟩,
    ⟨(some 25), (.mv (.s 24)), none, [17, 14]⟩,
    ⟨(some 26), (.mv (.s 2)), (some (25, true)), [18]⟩,
    ⟨(some 27), (.bin .leq (.s 26) (.c (.int .i64 32))), (some (25, true)), [19, 18]⟩,
    ⟨(some 28), (.pick (.s 25) (.s 27) (.c (.bool false))), none, [18, 20]⟩,
    ⟨(some 6), (.mv (.s 28)), none, [21, 18, 0, 1, 2, 3, 4, 5, 6, 7, 8, 9, 10, 11, 12, 13, 14, 15, 16, 17, 18, 19, 20, 21]⟩] false)
  .ret)), false, (some [(Sh.int .i64), (Sh.int .i64), (Sh.int .i64)]), (some Sh.bool), false⟩

/-- euphroe/roots.full -/
def k101 : Fun := ⟨2, 8, [0, 1, 2, 3, 4], [(.tmp 4)],
  (.seq (.region [
    ⟨(some 2), (.box (.s 0)), none, []⟩,
    ⟨(some 3), (.box (.s 1)), none, []⟩,
    ⟨(some 4), (.mv (.c (.int .u64 0))), none, []⟩] false)
  (.seq (.region [
    ⟨(some 5), (.mkf 115 [(.s 2), (.s 3)]), none, []⟩,
    ⟨(some 6), (.call (.c (.fn 114 [])) [(.c (.int .i64 274877906944)), (.s 5)]), none, [0]⟩,
    ⟨(some 7), (.cvi .u64 (.s 6)), none, [1]⟩,
    ⟨(some 4), (.mv (.s 7)), none, [2, 1, 0, 1, 2]⟩] false)
  .ret)), false, (some [(Sh.int .i64), (Sh.int .i64)]), (some (Sh.int .u64)), false⟩

/-- sort.Search -/
def k114 : Fun := ⟨2, 26, [0, 1, 4, 5, 6, 7, 11, 21], [(.tmp 4)],
  (.seq (.region [
    ⟨(some 4), (.mv (.c (.int .i64 0))), none, []⟩] false)
  (.seq (.region [
    ⟨(some 8), (.mv (.s 0)), none, []⟩,
    ⟨(some 5), (.mv (.c (.int .i64 0))), none, []⟩,
    ⟨(some 6), (.mv (.s 8)), none, [0, 1, 0, 1]⟩] false)
  (.seq (.block 0
   (.loop ⟨0, [], false, [1, 5, 6], []⟩
    (.seq (.seq (.region [
      ⟨(some 9), (.mv (.s 5)), none, []⟩,
      ⟨(some 10), (.mv (.s 6)), none, []⟩,
      ⟨(some 11), (.bin .lss (.s 9) (.s 10)), none, [0, 1]⟩] false)
    (.cond (.s 11)
     .skip
     (.pre ⟨0, [], false, [5], []⟩ (.exit 0))))
    (.block 1
     (.seq (.region [
       ⟨(some 12), (.mv (.s 5)), none, []⟩,
       ⟨(some 13), (.mv (.s 6)), none, []⟩,
       ⟨(some 14), (.bin .add (.s 12) (.s 13)), none, [0, 1]⟩,
       ⟨(some 15), (.cvi .u64 (.s 14)), none, [2]⟩,
       ⟨(some 16), (.bin .shr (.s 15) (.c (.int .u64 1))), none, [3]⟩,
       ⟨(some 17), (.cvi .i64 (.s 16)), none, [4]⟩,
       ⟨(some 7), (.mv (.s 17)), none, [5, 0, 1, 2, 3, 4, 5]⟩] false)
     (.seq (.region [
       ⟨(some 18), (.mv (.s 1)), none, []⟩,
       ⟨(some 19), (.mv (.s 7)), none, []⟩,
       ⟨(some 20), (.call (.s 18) [(.s 19)]), none, [0, 1]⟩,
       ⟨(some 21), (.un .not (.s 20)), none, [2]⟩] false)
     (.cond (.s 21)
      (.region [
        ⟨(some 22), (.mv (.s 7)), none, []⟩,
        ⟨(some 23), (.bin .add (.s 22) (.c (.int .i64 1))), none, [0]⟩,
        ⟨(some 5), (.mv (.s 23)), none, [1, 0, 1]⟩] false)
      (.region [
        ⟨(some 24), (.mv (.s 7)), none, []⟩,
        ⟨(some 6), (.mv (.s 24)), none, [0, 0]⟩] false))))))))
  (.seq (.region [
    ⟨(some 25), (.mv (.s 5)), none, []⟩,
    ⟨(some 4), (.mv (.s 25)), none, [0, 0]⟩] false)
  .ret)))), false, none, none, false⟩

/-- euphroe/roots.full$1 -/
def k115 : Fun := ⟨3, 13, [0, 1, 2, 4], [(.tmp 4)],
  (.seq (.region [
    ⟨(some 4), (.mv (.c (.bool false))), none, []⟩] false)
  (.seq (.region [
    ⟨(some 5), (.mv (.s 0)), none, []⟩,
    ⟨(some 6), (.cvi .u64 (.s 5)), none, [0]⟩,
    ⟨(some 7), (.bin .add (.s 6) (.c (.int .u64 1))), none, [1]⟩,
    ⟨(some 8), (.ldc (.s 1)), none, []⟩,
    ⟨(some 9), (.cvi .u64 (.s 8)), none, [3]⟩,
    ⟨(some 10), (.ldc (.s 2)), none, []⟩,
    ⟨(some 11), (.call (.c (.fn 116 [])) [(.s 7), (.s 9), (.s 10)]), none, [2, 4, 5]⟩,
    ⟨(some 12), (.un .not (.s 11)), none, [6]⟩,
    ⟨(some 4), (.mv (.s 12)), none, [7, 6, 0, 1, 2, 3, 4, 5, 6, 7]⟩] false)
  .ret)), false, none, none, false⟩

/-- euphroe/roots.fits -/
def k116 : Fun := ⟨3, 57, [0, 1, 2, 6, 7, 8, 9, 10, 11, 19], [(.tmp 6)],
  (.seq (.region [
    ⟨(some 6), (.mv (.c (.bool false))), none, []⟩] false)
  (.seq (.region [
    ⟨(some 13), (.mv (.s 0)), none, []⟩,
    ⟨(some 14), (.mv (.s 0)), none, []⟩,
    ⟨(some 15), (.call (.c (.fn 120 [])) [(.s 13), (.s 14)]), none, [0, 1]⟩,
    ⟨(some 12), (.mv (.s 15)), none, [2]⟩,
    ⟨(some 16), (.ext (.s 12) 0), none, [3]⟩,
    ⟨(some 17), (.ext (.s 12) 1), none, [3]⟩,
    ⟨(some 7), (.mv (.s 16)), none, [4, 2, 0, 1, 2, 3, 4]⟩,
    ⟨(some 8), (.mv (.s 17)), none, [5, 6, 0, 1, 2, 3, 4, 5, 6]⟩] false)
  (.seq (.seq (.region [
    ⟨(some 18), (.mv (.s 2)), none, []⟩,
    ⟨(some 19), (.bin .eql (.s 18) (.c (.int .i64 2))), none, [0]⟩] false)
  (.cond (.s 19)
   (.seq (.region [
     ⟨(some 20), (.mv (.s 7)), none, []⟩,
     ⟨(some 21), (.mv (.s 1)), none, []⟩,
     ⟨(some 22), (.bin .lss (.s 20) (.s 21)), none, [0, 1]⟩,
     ⟨(some 23), (.mv (.s 22)), none, [2]⟩,
     ⟨(some 24), (.mv (.s 7)), (some (23, false)), [3]⟩,
     ⟨(some 25), (.mv (.s 1)), (some (23, false)), [3]⟩,
     ⟨(some 26), (.bin .eql (.s 24) (.s 25)), (some (23, false)), [4, 5, 3]⟩,
     ⟨(some 27), (.mv (.s 26)), (some (23, false)), [6, 3, 3]⟩,
     ⟨(some 28), (.mv (.s 8)), (some (27, true)), [7]⟩,
     ⟨(some 29), (.bin .eql (.s 28) (.c (.int .u64 0))), (some (27, true)), [8, 7]⟩,
     ⟨(some 30), (.pick (.s 27) (.s 29) (.c (.bool false))), (some (23, false)), [7, 9, 3]⟩,
     ⟨(some 31), (.pick (.s 23) (.c (.bool true)) (.s 30)), none, [3, 10]⟩,
     ⟨(some 6), (.mv (.s 31)), none, [11, 7, 0, 1, 2, 3, 4, 5, 6, 7, 8, 9, 10, 11]⟩] false)
   .ret)
   .skip))
  (.seq (.region [
    ⟨(some 33), (.mv (.s 8)), none, []⟩,
    ⟨(some 34), (.mv (.s 0)), none, []⟩,
    ⟨(some 35), (.call (.c (.fn 120 [])) [(.s 33), (.s 34)]), none, [0, 1]⟩,
    ⟨(some 32), (.mv (.s 35)), none, [2]⟩,
    ⟨(some 36), (.ext (.s 32) 0), none, [3]⟩,
    ⟨(some 37), (.ext (.s 32) 1), none, [3]⟩,
    ⟨(some 9), (.mv (.s 36)), none, [4, 2, 0, 1, 2, 3, 4]⟩,
    ⟨(some 10), (.mv (.s 37)), none, [5, 6, 0, 1, 2, 3, 4, 5, 6]⟩] false)
  (.seq (.region [
    ⟨(some 38), (.mv (.s 7)), none, []⟩,
    ⟨(some 39), (.mv (.s 0)), none, []⟩,
    ⟨(some 40), (.bin .mul (.s 38) (.s 39)), none, [0, 1]⟩,
    ⟨(some 41), (.mv (.s 9)), none, []⟩,
    ⟨(some 42), (.bin .add (.s 40) (.s 41)), none, [2, 3]⟩,
    ⟨(some 11), (.mv (.s 42)), none, [4, 0, 1, 2, 3, 4]⟩] false)
  (.seq (.region [
    ⟨(some 43), (.mv (.s 11)), none, []⟩,
    ⟨(some 44), (.mv (.s 1)), none, []⟩,
    ⟨(some 45), (.bin .shl (.s 44) (.c (.int .u64 32))), none, [1]⟩,
    ⟨(some 46), (.bin .lss (.s 43) (.s 45)), none, [0, 2]⟩,
    ⟨(some 47), (.mv (.s 46)), none, [3]⟩,
    ⟨(some 48), (.mv (.s 11)), (some (47, false)), [4]⟩,
    ⟨(some 49), (.mv (.s 1)), (some (47, false)), [4]⟩,
    ⟨(some 50), (.bin .shl (.s 49) (.c (.int .u64 32))), (some (47, false)), [6, 4]⟩,
    ⟨(some 51), (.bin .eql (.s 48) (.s 50)), (some (47, false)), [5, 7, 4]⟩,
    ⟨(some 52), (.mv (.s 51)), (some (47, false)), [8, 4, 4]⟩,
    ⟨(some 53), (.mv (.s 10)), (some (52, true)), [9]⟩,
    ⟨(some 54), (.bin .eql (.s 53) (.c (.int .u64 0))), (some (52, true)), [10, 9]⟩,
    ⟨(some 55), (.pick (.s 52) (.s 54) (.c (.bool false))), (some (47, false)), [9, 11, 4]⟩,
    ⟨(some 56), (.pick (.s 47) (.c (.bool true)) (.s 55)), none, [4, 12]⟩,
    ⟨(some 6), (.mv (.s 56)), none, [13, 9, 0, 1, 2, 3, 4, 5, 6, 7, 8, 9, 10, 11, 12, 13]⟩] false)
  .ret)))))), false, (some [(Sh.int .u64), (Sh.int .u64), (Sh.int .i64)]), (some Sh.bool), false⟩

/-- math/bits.Mul64 -/
def k120 : Fun := ⟨2, 51, [0, 1, 4, 5, 6, 7, 8, 9, 10, 11, 12, 13], [(.tmp 4), (.tmp 5)],
  (.seq (.region [
    ⟨(some 4), (.mv (.c (.int .u64 0))), none, []⟩,
    ⟨(some 5), (.mv (.c (.int .u64 0))), none, [0]⟩] false)
  (.seq (.region [
    ⟨(some 14), (.mv (.s 0)), none, []⟩,
    ⟨(some 15), (.bin .and (.s 14) (.c (.int .u64 4294967295))), none, [0]⟩,
    ⟨(some 6), (.mv (.s 15)), none, [1, 0, 1]⟩] false)
  (.seq (.region [
    ⟨(some 16), (.mv (.s 0)), none, []⟩,
    ⟨(some 17), (.bin .shr (.s 16) (.c (.int .u64 32))), none, [0]⟩,
    ⟨(some 7), (.mv (.s 17)), none, [1, 0, 1]⟩] false)
  (.seq (.region [
    ⟨(some 18), (.mv (.s 1)), none, []⟩,
    ⟨(some 19), (.bin .and (.s 18) (.c (.int .u64 4294967295))), none, [0]⟩,
    ⟨(some 8), (.mv (.s 19)), none, [1, 0, 1]⟩] false)
  (.seq (.region [
    ⟨(some 20), (.mv (.s 1)), none, []⟩,
    ⟨(some 21), (.bin .shr (.s 20) (.c (.int .u64 32))), none, [0]⟩,
    ⟨(some 9), (.mv (.s 21)), none, [1, 0, 1]⟩] false)
  (.seq (.region [
    ⟨(some 22), (.mv (.s 6)), none, []⟩,
    ⟨(some 23), (.mv (.s 8)), none, []⟩,
    ⟨(some 24), (.bin .mul (.s 22) (.s 23)), none, [0, 1]⟩,
    ⟨(some 10), (.mv (.s 24)), none, [2, 0, 1, 2]⟩] false)
  (.seq (.region [
    ⟨(some 25), (.mv (.s 7)), none, []⟩,
    ⟨(some 26), (.mv (.s 8)), none, []⟩,
    ⟨(some 27), (.bin .mul (.s 25) (.s 26)), none, [0, 1]⟩,
    ⟨(some 28), (.mv (.s 10)), none, []⟩,
    ⟨(some 29), (.bin .shr (.s 28) (.c (.int .u64 32))), none, [3]⟩,
    ⟨(some 30), (.bin .add (.s 27) (.s 29)), none, [2, 4]⟩,
    ⟨(some 11), (.mv (.s 30)), none, [5, 0, 1, 2, 3, 4, 5]⟩] false)
  (.seq (.region [
    ⟨(some 31), (.mv (.s 11)), none, []⟩,
    ⟨(some 32), (.bin .and (.s 31) (.c (.int .u64 4294967295))), none, [0]⟩,
    ⟨(some 12), (.mv (.s 32)), none, [1, 0, 1]⟩] false)
  (.seq (.region [
    ⟨(some 33), (.mv (.s 11)), none, []⟩,
    ⟨(some 34), (.bin .shr (.s 33) (.c (.int .u64 32))), none, [0]⟩,
    ⟨(some 13), (.mv (.s 34)), none, [1, 0, 1]⟩] false)
  (.seq (.region [
    ⟨(some 35), (.mv (.s 12)), none, []⟩,
    ⟨(some 36), (.mv (.s 6)), none, []⟩,
    ⟨(some 37), (.mv (.s 9)), none, []⟩,
    ⟨(some 38), (.bin .mul (.s 36) (.s 37)), none, [1, 2]⟩,
    ⟨(some 39), (.bin .add (.s 35) (.s 38)), none, [0, 3]⟩,
    ⟨(some 12), (.mv (.s 39)), none, [4, 0, 1, 2, 3, 4]⟩] false)
  (.seq (.region [
    ⟨(some 40), (.mv (.s 7)), none, []⟩,
    ⟨(some 41), (.mv (.s 9)), none, []⟩,
    ⟨(some 42), (.bin .mul (.s 40) (.s 41)), none, [0, 1]⟩,
    ⟨(some 43), (.mv (.s 13)), none, []⟩,
    ⟨(some 44), (.bin .add (.s 42) (.s 43)), none, [2, 3]⟩,
    ⟨(some 45), (.mv (.s 12)), none, []⟩,
    ⟨(some 46), (.bin .shr (.s 45) (.c (.int .u64 32))), none, [5]⟩,
    ⟨(some 47), (.bin .add (.s 44) (.s 46)), none, [4, 6]⟩,
    ⟨(some 4), (.mv (.s 47)), none, [7, 0, 1, 2, 3, 4, 5, 6, 7]⟩] false)
  (.seq (.region [
    ⟨(some 48), (.mv (.s 0)), none, []⟩,
    ⟨(some 49), (.mv (.s 1)), none, []⟩,
    ⟨(some 50), (.bin .mul (.s 48) (.s 49)), none, [0, 1]⟩,
    ⟨(some 5), (.mv (.s 50)), none, [2, 0, 1, 2]⟩] false)
  .ret)))))))))))), false, (some [(Sh.int .u64), (Sh.int .u64)]), (some (Sh.tu (Sh.pr (Sh.int .u64) (Sh.int .u64)))), false⟩

/-- euphroe/euphroeref04.Tail -/
def k177 : Fun := ⟨1, 32, [0, 2, 3, 4, 5, 13, 20], [(.tmp 2)],
  (.seq (.region [
    ⟨(some 2), (.mv (.c .nils)), none, []⟩] false)
  (.seq (.region [
    ⟨(some 6), (.bsl 1 1 (.ints .u8 [0]) [(0, 1, (.c (.int .u8 128)))]), none, []⟩,
    ⟨(some 3), (.mv (.s 6)), none, [0, 0]⟩] false)
  (.seq (.block 0
   (.loop ⟨0, [], false, [0, 3], [(3, (.imm []), 1)]⟩
    (.seq (.seq (.region [
      ⟨(some 7), (.mv (.s 0)), none, []⟩,
      ⟨(some 8), (.mv (.s 3)), none, []⟩,
      ⟨(some 9), (.len false (.s 8)), none, [1]⟩,
      ⟨(some 10), (.cvi .u64 (.s 9)), none, [2]⟩,
      ⟨(some 11), (.bin .add (.s 7) (.s 10)), none, [0, 3]⟩,
      ⟨(some 12), (.bin .rem (.s 11) (.c (.int .u64 64))), none, [4]⟩,
      ⟨(some 13), (.bin .neq (.s 12) (.c (.int .u64 56))), none, [5]⟩] false)
    (.cond (.s 13)
     .skip
     (.pre ⟨0, [], false, [0, 3], []⟩ (.exit 0))))
    (.block 1
     (.region [
       ⟨(some 14), (.mv (.s 3)), none, []⟩,
       ⟨(some 15), (.bsl 1 1 (.ints .u8 [0]) [(0, 1, (.c (.int .u8 0)))]), none, []⟩,
       ⟨(some 16), (.app 1 1 (.s 14) (.s 15)), none, [0, 1]⟩,
       ⟨(some 3), (.mv (.s 16)), none, [2, 2, 0, 1, 2]⟩] false)))))
  (.seq (.region [
    ⟨(some 17), (.mv (.s 0)), none, []⟩,
    ⟨(some 18), (.bin .mul (.c (.int .u64 8)) (.s 17)), none, [0]⟩,
    ⟨(some 4), (.mv (.s 18)), none, [1, 0, 1]⟩] false)
  (.seq (.seq (.region [
    ⟨(some 5), (.mv (.c (.int .i64 0))), none, []⟩] false)
  (.block 2
   (.loop ⟨1, [], false, [3, 4, 5], []⟩
    (.seq (.seq (.region [
      ⟨(some 19), (.mv (.s 5)), none, []⟩,
      ⟨(some 20), (.bin .lss (.s 19) (.c (.int .i64 8))), none, [0]⟩] false)
    (.cond (.s 20)
     .skip
     (.pre ⟨0, [], false, [3], []⟩ (.exit 2))))
    (.seq (.block 3
     (.seq (.region [
       ⟨(some 23), (.mv (.s 3)), none, []⟩,
       ⟨(some 24), (.mv (.s 4)), none, []⟩,
       ⟨(some 25), (.bin .rem (.s 24) (.c (.int .u64 256))), none, [1]⟩,
       ⟨(some 26), (.cvi .u8 (.s 25)), none, [2]⟩,
       ⟨(some 27), (.bsl 1 1 (.ints .u8 [0]) [(0, 1, (.s 26))]), none, [3]⟩,
       ⟨(some 28), (.app 1 1 (.s 23) (.s 27)), none, [0, 4]⟩,
       ⟨(some 3), (.mv (.s 28)), none, [5, 5, 0, 1, 2, 3, 4, 5]⟩] false)
     (.region [
       ⟨(some 29), (.mv (.s 4)), none, []⟩,
       ⟨(some 30), (.bin .quo (.s 29) (.c (.int .u64 256))), none, [0]⟩,
       ⟨(some 4), (.mv (.s 30)), none, [1, 0, 1]⟩] false)))
    (.region [
      ⟨(some 21), (.mv (.s 5)), none, []⟩,
      ⟨(some 22), (.bin .add (.s 21) (.c (.int .i64 1))), none, [0]⟩,
      ⟨(some 5), (.mv (.s 22)), none, [1, 0, 1]⟩] false))))))
  (.seq (.region [
    ⟨(some 31), (.mv (.s 3)), none, []⟩,
    ⟨(some 2), (.mv (.s 31)), none, [0, 0]⟩] false)
  .ret)))))), false, (some [(Sh.int .u64)]), (some (Sh.sl (Sh.int .u8))), false⟩

/-- euphroe/euphroeref05.Tail -/
def k186 : Fun := ⟨1, 30, [0, 2, 3, 4, 5, 6, 17], [(.tmp 2)],
  (.seq (.region [
    ⟨(some 2), (.mv (.c .nils)), none, []⟩] false)
  (.seq (.region [
    ⟨(some 7), (.mv (.s 0)), none, []⟩,
    ⟨(some 8), (.call (.c (.fn 177 [])) [(.s 7)]), none, [0]⟩,
    ⟨(some 3), (.mv (.s 8)), none, [1, 1, 0, 1]⟩] false)
  (.seq (.region [
    ⟨(some 9), (.mv (.s 3)), none, []⟩,
    ⟨(some 10), (.len false (.s 9)), none, [0]⟩,
    ⟨(some 11), (.bin .sub (.s 10) (.c (.int .i64 8))), none, [1]⟩,
    ⟨(some 4), (.mv (.s 11)), none, [2, 0, 1, 2]⟩] false)
  (.seq (.region [
    ⟨(some 12), (.mv (.s 3)), none, []⟩,
    ⟨(some 13), (.mv (.s 4)), none, []⟩,
    ⟨(some 14), (.sls 1 (.s 12) none (some (.s 13)) none), none, [0, 1]⟩,
    ⟨(some 15), (.app 1 1 (.c .nils) (.s 14)), none, [2]⟩,
    ⟨(some 5), (.mv (.s 15)), none, [3, 3, 0, 1, 2, 3]⟩] false)
  (.seq (.seq (.region [
    ⟨(some 6), (.mv (.c (.int .i64 7))), none, []⟩] false)
  (.block 0
   (.loop ⟨0, [], false, [3, 4, 5, 6], []⟩
    (.seq (.seq (.region [
      ⟨(some 16), (.mv (.s 6)), none, []⟩,
      ⟨(some 17), (.bin .geq (.s 16) (.c (.int .i64 0))), none, [0]⟩] false)
    (.cond (.s 17)
     .skip
     (.pre ⟨0, [], false, [5], []⟩ (.exit 0))))
    (.seq (.block 1
     (.region [
       ⟨(some 20), (.mv (.s 5)), none, []⟩,
       ⟨(some 21), (.mv (.s 3)), none, []⟩,
       ⟨(some 22), (.mv (.s 4)), none, []⟩,
       ⟨(some 23), (.mv (.s 6)), none, []⟩,
       ⟨(some 24), (.bin .add (.s 22) (.s 23)), none, [2, 3]⟩,
       ⟨(some 25), (.iad 1 (.s 21) (.s 24)), none, [1, 4]⟩,
       ⟨(some 26), (.ldc (.s 25)), none, [5]⟩,
       ⟨(some 27), (.bsl 1 1 (.ints .u8 [0]) [(0, 1, (.s 26))]), none, [6]⟩,
       ⟨(some 28), (.app 1 1 (.s 20) (.s 27)), none, [0, 7]⟩,
       ⟨(some 5), (.mv (.s 28)), none, [8, 8, 0, 1, 2, 3, 4, 5, 6, 7, 8]⟩] false))
    (.region [
      ⟨(some 18), (.mv (.s 6)), none, []⟩,
      ⟨(some 19), (.bin .sub (.s 18) (.c (.int .i64 1))), none, [0]⟩,
      ⟨(some 6), (.mv (.s 19)), none, [1, 0, 1]⟩] false))))))
  (.seq (.region [
    ⟨(some 29), (.mv (.s 5)), none, []⟩,
    ⟨(some 2), (.mv (.s 29)), none, [0, 0]⟩] false)
  .ret)))))), false, (some [(Sh.int .u64)]), (some (Sh.sl (Sh.int .u8))), false⟩

/-- math/bits.RotateLeft32 -/
def k195 : Fun := ⟨2, 17, [0, 1, 4, 5], [(.tmp 4)],
  (.seq (.region [
    ⟨(some 4), (.mv (.c (.int .u32 0))), none, []⟩] false)
  (.seq (.region [
    ⟨(some 6), (.mv (.s 1)), none, []⟩,
    ⟨(some 7), (.cvi .u64 (.s 6)), none, [0]⟩,
    ⟨(some 8), (.bin .and (.s 7) (.c (.int .u64 31))), none, [1]⟩,
    ⟨(some 5), (.mv (.s 8)), none, [2, 0, 1, 2]⟩] false)
  (.seq (.region [
    ⟨(some 9), (.mv (.s 0)), none, []⟩,
    ⟨(some 10), (.mv (.s 5)), none, []⟩,
    ⟨(some 11), (.bin .shl (.s 9) (.s 10)), none, [0, 1]⟩,
    ⟨(some 12), (.mv (.s 0)), none, []⟩,
    ⟨(some 13), (.mv (.s 5)), none, []⟩,
    ⟨(some 14), (.bin .sub (.c (.int .u64 32)) (.s 13)), none, [4]⟩,
    ⟨(some 15), (.bin .shr (.s 12) (.s 14)), none, [3, 5]⟩,
    ⟨(some 16), (.bin .or (.s 11) (.s 15)), none, [2, 6]⟩,
    ⟨(some 4), (.mv (.s 16)), none, [7, 0, 1, 2, 3, 4, 5, 6, 7]⟩] false)
  .ret))), false, (some [(Sh.int .u32), (Sh.int .i64)]), (some (Sh.int .u32)), false⟩

/-- euphroe/sha256.Of -/
def k213 : Fun := ⟨1, 47, [0, 2, 3, 4, 5, 6, 7, 20, 30, 31], [(.cell 2 32 true (some .u8))],
  (.seq (.region [
    ⟨(some 2), (.new (.ints .u8 [0, 0, 0, 0, 0, 0, 0, 0, 0, 0, 0, 0, 0, 0, 0, 0, 0, 0, 0, 0, 0, 0, 0, 0, 0, 0, 0, 0, 0, 0, 0, 0])), none, []⟩] false)
  (.seq (.region [
    ⟨(some 8), (.mv (.s 0)), none, []⟩,
    ⟨(some 9), (.call (.c (.fn 46 [])) [(.s 8)]), none, [0]⟩,
    ⟨(some 3), (.mv (.s 9)), none, [1, 1, 0, 1]⟩] false)
  (.seq (.region [
    ⟨(some 10), (.mv (.s 3)), none, []⟩,
    ⟨(some 11), (.mv (.s 3)), none, []⟩,
    ⟨(some 12), (.len false (.s 11)), none, [1]⟩,
    ⟨(some 13), (.cvi .u64 (.s 12)), none, [2]⟩,
    ⟨(some 14), (.call (.c (.fn 217 [])) [(.s 13)]), none, [3]⟩,
    ⟨(some 15), (.app 1 1 (.s 10) (.s 14)), none, [0, 4, 4]⟩,
    ⟨(some 3), (.mv (.s 15)), none, [5, 5, 0, 1, 2, 3, 4, 5]⟩] false)
  (.seq (.region [
    ⟨(some 16), (.call (.c (.fn 219 [])) []), none, []⟩,
    ⟨(some 17), (.call (.c (.fn 83 [])) [(.c (.int .i64 64)), (.c (.int .i64 3))]), none, [0]⟩,
    ⟨(some 4), (.new (.ints .u32 [0, 0, 0, 0, 0, 0, 0, 0])), none, []⟩,
    ⟨none, (.stc 8 (.s 4) (.s 16)), none, [2, 0, 1, 0, 2]⟩,
    ⟨(some 5), (.mv (.s 17)), none, [1, 3, 0, 1, 2, 3]⟩] false)
  (.seq (.block 0
   (.loop ⟨0, [(3, (Sh.sl (Sh.int .u8)))], false, [2, 3, 4, 5], []⟩
    (.seq (.seq (.region [
      ⟨(some 18), (.mv (.s 3)), none, []⟩,
      ⟨(some 19), (.len false (.s 18)), none, [0]⟩,
      ⟨(some 20), (.bin .gtr (.s 19) (.c (.int .i64 0))), none, [1]⟩] false)
    (.cond (.s 20)
     .skip
     (.pre ⟨0, [], false, [2, 4], []⟩ (.exit 0))))
    (.seq (.block 1
     (.region [
       ⟨(some 23), (.lda 8 (some .u32) (.s 4)), none, []⟩,
       ⟨(some 24), (.mv (.s 3)), none, []⟩,
       ⟨(some 25), (.sls 1 (.s 24) none (some (.c (.int .i64 64))) none), none, [1]⟩,
       ⟨(some 26), (.s2a 64 (.s 25)), none, [2]⟩,
       ⟨(some 27), (.lda 64 (some .u8) (.s 26)), none, [3]⟩,
       ⟨(some 28), (.mv (.s 5)), none, []⟩,
       ⟨(some 29), (.call (.c (.fn 229 [])) [(.s 23), (.s 27), (.s 28)]), none, [0, 4, 5]⟩,
       ⟨none, (.stc 8 (.s 4) (.s 29)), none, [6, 6, 0, 1, 2, 3, 4, 5, 6]⟩] true))
    (.region [
      ⟨(some 21), (.mv (.s 3)), none, []⟩,
      ⟨(some 22), (.sls 1 (.s 21) (some (.c (.int .i64 64))) none none), none, [0]⟩,
      ⟨(some 3), (.mv (.s 22)), none, [1, 0, 1]⟩] false)))))
  (.seq (.region [
    ⟨(some 6), (.new (.ints .u8 [0, 0, 0, 0, 0, 0, 0, 0, 0, 0, 0, 0, 0, 0, 0, 0, 0, 0, 0, 0, 0, 0, 0, 0, 0, 0, 0, 0, 0, 0, 0, 0])), none, []⟩] false)
  (.seq (.seq (.region [
    ⟨(some 30), (.mv (.c (.int .i64 0))), none, []⟩] false)
  (.block 2
   (.loop ⟨1, [], false, [2, 4, 6, 30], []⟩
    (.seq (.region [
      ⟨(some 31), (.bin .lss (.s 30) (.c (.int .i64 32))), none, []⟩] false)
    (.seq (.cond (.s 31)
     .skip
     (.pre ⟨0, [], false, [2, 6], []⟩ (.exit 2)))
    (.seq (.block 3
     (.seq (.region [
       ⟨(some 32), (.mv (.s 30)), none, []⟩,
       ⟨(some 7), (.mv (.s 32)), none, [0, 0]⟩] false)
     (.region [
       ⟨(some 33), (.mv (.s 7)), none, []⟩,
       ⟨(some 34), (.mv (.s 7)), none, []⟩,
       ⟨(some 35), (.bin .quo (.s 34) (.c (.int .i64 4))), none, [1]⟩,
       ⟨(some 36), (.iaa 8 1 (.s 4) (.s 35)), none, [2]⟩,
       ⟨(some 37), (.ldc (.s 36)), none, [3]⟩,
       ⟨(some 38), (.mv (.s 7)), none, []⟩,
       ⟨(some 39), (.bin .rem (.s 38) (.c (.int .i64 4))), none, [5]⟩,
       ⟨(some 40), (.bin .sub (.c (.int .i64 3)) (.s 39)), none, [6]⟩,
       ⟨(some 41), (.bin .mul (.c (.int .i64 8)) (.s 40)), none, [7]⟩,
       ⟨(some 42), (.bin .shr (.s 37) (.s 41)), none, [4, 8]⟩,
       ⟨(some 43), (.cvi .u8 (.s 42)), none, [9]⟩,
       ⟨(some 44), (.iaa 32 1 (.s 6) (.s 33)), none, [0, 0, 1, 2, 3, 4, 5, 6, 7, 8, 9, 10]⟩,
       ⟨none, (.stc 1 (.s 44) (.s 43)), none, [11, 10, 0, 1, 2, 3, 4, 5, 6, 7, 8, 9, 10]⟩] false)))
    (.region [
      ⟨(some 45), (.bin .add (.s 30) (.c (.int .i64 1))), none, []⟩,
      ⟨(some 30), (.mv (.s 45)), none, [0]⟩] false)))))))
  (.seq (.region [
    ⟨(some 46), (.lda 32 (some .u8) (.s 6)), none, []⟩,
    ⟨none, (.stc 32 (.s 2) (.s 46)), none, [0, 0]⟩] false)
  .ret)))))))), false, (some [(Sh.sl (Sh.sl (Sh.int .u8)))]), (some (Sh.ar .u8)), false⟩

/-- euphroe/euphroeref06.Of -/
def k214 : Fun := ⟨1, 56, [0, 2, 3, 4, 5, 6, 7, 8, 9, 21, 25, 40], [(.cell 2 32 true (some .u8))],
  (.seq (.region [
    ⟨(some 2), (.new (.ints .u8 [0, 0, 0, 0, 0, 0, 0, 0, 0, 0, 0, 0, 0, 0, 0, 0, 0, 0, 0, 0, 0, 0, 0, 0, 0, 0, 0, 0, 0, 0, 0, 0])), none, []⟩] false)
  (.seq (.region [
    ⟨(some 10), (.mv (.s 0)), none, []⟩,
    ⟨(some 11), (.app 1 1 (.c .nils) (.s 10)), none, [0]⟩,
    ⟨(some 12), (.mv (.s 0)), none, []⟩,
    ⟨(some 13), (.len false (.s 12)), none, [2]⟩,
    ⟨(some 14), (.cvi .u64 (.s 13)), none, [3]⟩,
    ⟨(some 15), (.call (.c (.fn 218 [])) [(.s 14)]), none, [4, 1]⟩,
    ⟨(some 16), (.app 1 1 (.s 11) (.s 15)), none, [1, 5, 5]⟩,
    ⟨(some 3), (.mv (.s 16)), none, [6, 6, 0, 1, 2, 3, 4, 5, 6]⟩] false)
  (.seq (.region [
    ⟨(some 17), (.call (.c (.fn 220 [])) []), none, []⟩,
    ⟨(some 4), (.new (.ints .u32 [0, 0, 0, 0, 0, 0, 0, 0])), none, []⟩,
    ⟨none, (.stc 8 (.s 4) (.s 17)), none, [1, 0, 0, 0, 1]⟩] false)
  (.seq (.seq (.region [
    ⟨(some 5), (.mv (.c (.int .i64 0))), none, []⟩] false)
  (.block 0
   (.loop ⟨0, [], false, [2, 3, 4, 5], []⟩
    (.seq (.seq (.region [
      ⟨(some 18), (.mv (.s 5)), none, []⟩,
      ⟨(some 19), (.mv (.s 3)), none, []⟩,
      ⟨(some 20), (.len false (.s 19)), none, [1]⟩,
      ⟨(some 21), (.bin .lss (.s 18) (.s 20)), none, [0, 2]⟩] false)
    (.cond (.s 21)
     .skip
     (.pre ⟨0, [], false, [2, 4], []⟩ (.exit 0))))
    (.seq (.block 1
     (.seq (.region [
       ⟨(some 6), (.new (.ints .u8 [0, 0, 0, 0, 0, 0, 0, 0, 0, 0, 0, 0, 0, 0, 0, 0, 0, 0, 0, 0, 0, 0, 0, 0, 0, 0, 0, 0, 0, 0, 0, 0, 0, 0, 0, 0, 0, 0, 0, 0, 0, 0, 0, 0, 0, 0, 0, 0, 0, 0, 0, 0, 0, 0, 0, 0, 0, 0, 0, 0, 0, 0, 0, 0])), none, []⟩] false)
     (.seq (.seq (.region [
       ⟨(some 7), (.mv (.c (.int .i64 0))), none, []⟩] false)
     (.block 2
      (.loop ⟨1, [], false, [2, 3, 4, 5, 6, 7], []⟩
       (.seq (.seq (.region [
         ⟨(some 24), (.mv (.s 7)), none, []⟩,
         ⟨(some 25), (.bin .lss (.s 24) (.c (.int .i64 64))), none, [0]⟩] false)
       (.cond (.s 25)
        .skip
        (.pre ⟨0, [], false, [2, 3, 4, 5, 6], []⟩ (.exit 2))))
       (.seq (.block 3
        (.region [
          ⟨(some 28), (.mv (.s 7)), none, []⟩,
          ⟨(some 29), (.mv (.s 3)), none, []⟩,
          ⟨(some 30), (.mv (.s 5)), none, []⟩,
          ⟨(some 31), (.mv (.s 7)), none, []⟩,
          ⟨(some 32), (.bin .add (.s 30) (.s 31)), none, [2, 3]⟩,
          ⟨(some 33), (.iad 1 (.s 29) (.s 32)), none, [1, 4]⟩,
          ⟨(some 34), (.ldc (.s 33)), none, [5]⟩,
          ⟨(some 35), (.iaa 64 1 (.s 6) (.s 28)), none, [0, 0, 1, 2, 3, 4, 5, 6]⟩,
          ⟨none, (.stc 1 (.s 35) (.s 34)), none, [7, 6, 0, 1, 2, 3, 4, 5, 6]⟩] false))
       (.region [
         ⟨(some 26), (.mv (.s 7)), none, []⟩,
         ⟨(some 27), (.bin .add (.s 26) (.c (.int .i64 1))), none, [0]⟩,
         ⟨(some 7), (.mv (.s 27)), none, [1, 0, 1]⟩] false))))))
     (.region [
       ⟨(some 36), (.lda 8 (some .u32) (.s 4)), none, []⟩,
       ⟨(some 37), (.lda 64 (some .u8) (.s 6)), none, []⟩,
       ⟨(some 38), (.call (.c (.fn 216 [])) [(.s 36), (.s 37)]), none, [0, 1]⟩,
       ⟨none, (.stc 8 (.s 4) (.s 38)), none, [2, 2, 0, 1, 2]⟩] false))))
    (.region [
      ⟨(some 22), (.mv (.s 5)), none, []⟩,
      ⟨(some 23), (.bin .add (.s 22) (.c (.int .i64 64))), none, [0]⟩,
      ⟨(some 5), (.mv (.s 23)), none, [1, 0, 1]⟩] false))))))
  (.seq (.region [
    ⟨(some 8), (.new (.ints .u8 [0, 0, 0, 0, 0, 0, 0, 0, 0, 0, 0, 0, 0, 0, 0, 0, 0, 0, 0, 0, 0, 0, 0, 0, 0, 0, 0, 0, 0, 0, 0, 0])), none, []⟩] false)
  (.seq (.seq (.region [
    ⟨(some 9), (.mv (.c (.int .i64 0))), none, []⟩] false)
  (.block 4
   (.loop ⟨2, [], false, [2, 4, 8, 9], []⟩
    (.seq (.seq (.region [
      ⟨(some 39), (.mv (.s 9)), none, []⟩,
      ⟨(some 40), (.bin .lss (.s 39) (.c (.int .i64 32))), none, [0]⟩] false)
    (.cond (.s 40)
     .skip
     (.pre ⟨0, [], false, [2, 8], []⟩ (.exit 4))))
    (.seq (.block 5
     (.region [
       ⟨(some 43), (.mv (.s 9)), none, []⟩,
       ⟨(some 44), (.mv (.s 9)), none, []⟩,
       ⟨(some 45), (.bin .quo (.s 44) (.c (.int .i64 4))), none, [1]⟩,
       ⟨(some 46), (.iaa 8 1 (.s 4) (.s 45)), none, [2]⟩,
       ⟨(some 47), (.ldc (.s 46)), none, [3]⟩,
       ⟨(some 48), (.mv (.s 9)), none, []⟩,
       ⟨(some 49), (.bin .rem (.s 48) (.c (.int .i64 4))), none, [5]⟩,
       ⟨(some 50), (.bin .mul (.c (.int .i64 8)) (.s 49)), none, [6]⟩,
       ⟨(some 51), (.bin .sub (.c (.int .i64 24)) (.s 50)), none, [7]⟩,
       ⟨(some 52), (.bin .shr (.s 47) (.s 51)), none, [4, 8]⟩,
       ⟨(some 53), (.cvi .u8 (.s 52)), none, [9]⟩,
       ⟨(some 54), (.iaa 32 1 (.s 8) (.s 43)), none, [0, 0, 1, 2, 3, 4, 5, 6, 7, 8, 9, 10]⟩,
       ⟨none, (.stc 1 (.s 54) (.s 53)), none, [11, 10, 0, 1, 2, 3, 4, 5, 6, 7, 8, 9, 10]⟩] false))
    (.region [
      ⟨(some 41), (.mv (.s 9)), none, []⟩,
      ⟨(some 42), (.bin .add (.s 41) (.c (.int .i64 1))), none, [0]⟩,
      ⟨(some 9), (.mv (.s 42)), none, [1, 0, 1]⟩] false))))))
  (.seq (.region [
    ⟨(some 55), (.lda 32 (some .u8) (.s 8)), none, []⟩,
    ⟨none, (.stc 32 (.s 2) (.s 55)), none, [0, 0]⟩] false)
  .ret))))))), false, (some [(Sh.sl (Sh.int .u8))]), (some (Sh.ar .u8)), false⟩

/-- euphroe/euphroeref06.Block -/
def k216 : Fun := ⟨2, 161, [0, 1, 2, 3, 4, 5, 6, 7, 8, 9, 10, 11, 12, 14, 18, 76, 149], [(.cell 4 8 true (some .u32))],
  (.seq (.region [
    ⟨(some 2), (.box (.s 0)), none, []⟩,
    ⟨(some 3), (.box (.s 1)), none, []⟩,
    ⟨(some 4), (.new (.ints .u32 [0, 0, 0, 0, 0, 0, 0, 0])), none, []⟩] false)
  (.seq (.region [
    ⟨(some 5), (.new (.ints .u32 [0, 0, 0, 0, 0, 0, 0, 0, 0, 0, 0, 0, 0, 0, 0, 0, 0, 0, 0, 0, 0, 0, 0, 0, 0, 0, 0, 0, 0, 0, 0, 0, 0, 0, 0, 0, 0, 0, 0, 0, 0, 0, 0, 0, 0, 0, 0, 0, 0, 0, 0, 0, 0, 0, 0, 0, 0, 0, 0, 0, 0, 0, 0, 0])), none, []⟩] false)
  (.seq (.seq (.region [
    ⟨(some 6), (.mv (.c (.int .i64 0))), none, []⟩] false)
  (.block 0
   (.loop ⟨0, [], false, [2, 3, 4, 5, 6], []⟩
    (.seq (.seq (.region [
      ⟨(some 13), (.mv (.s 6)), none, []⟩,
      ⟨(some 14), (.bin .lss (.s 13) (.c (.int .i64 64))), none, [0]⟩] false)
    (.cond (.s 14)
     .skip
     (.pre ⟨0, [], false, [2, 4, 5], []⟩ (.exit 0))))
    (.seq (.block 1
     (.seq (.region [
       ⟨(some 17), (.mv (.s 6)), none, []⟩,
       ⟨(some 18), (.bin .lss (.s 17) (.c (.int .i64 16))), none, [0]⟩] false)
     (.cond (.s 18)
      (.region [
        ⟨(some 19), (.mv (.s 6)), none, []⟩,
        ⟨(some 20), (.mv (.s 6)), none, []⟩,
        ⟨(some 21), (.bin .mul (.c (.int .i64 4)) (.s 20)), none, [1]⟩,
        ⟨(some 22), (.iaa 64 1 (.s 3) (.s 21)), none, [2]⟩,
        ⟨(some 23), (.ldc (.s 22)), none, [3]⟩,
        ⟨(some 24), (.cvi .u32 (.s 23)), none, [4]⟩,
        ⟨(some 25), (.bin .mul (.s 24) (.c (.int .u32 16777216))), none, [5]⟩,
        ⟨(some 26), (.mv (.s 6)), none, []⟩,
        ⟨(some 27), (.bin .mul (.c (.int .i64 4)) (.s 26)), none, [7]⟩,
        ⟨(some 28), (.bin .add (.s 27) (.c (.int .i64 1))), none, [8]⟩,
        ⟨(some 29), (.iaa 64 1 (.s 3) (.s 28)), none, [9]⟩,
        ⟨(some 30), (.ldc (.s 29)), none, [10]⟩,
        ⟨(some 31), (.cvi .u32 (.s 30)), none, [11]⟩,
        ⟨(some 32), (.bin .mul (.s 31) (.c (.int .u32 65536))), none, [12]⟩,
        ⟨(some 33), (.bin .add (.s 25) (.s 32)), none, [6, 13]⟩,
        ⟨(some 34), (.mv (.s 6)), none, []⟩,
        ⟨(some 35), (.bin .mul (.c (.int .i64 4)) (.s 34)), none, [15]⟩,
        ⟨(some 36), (.bin .add (.s 35) (.c (.int .i64 2))), none, [16]⟩,
        ⟨(some 37), (.iaa 64 1 (.s 3) (.s 36)), none, [17]⟩,
        ⟨(some 38), (.ldc (.s 37)), none, [18]⟩,
        ⟨(some 39), (.cvi .u32 (.s 38)), none, [19]⟩,
        ⟨(some 40), (.bin .mul (.s 39) (.c (.int .u32 256))), none, [20]⟩,
        ⟨(some 41), (.bin .add (.s 33) (.s 40)), none, [14, 21]⟩,
        ⟨(some 42), (.mv (.s 6)), none, []⟩,
        ⟨(some 43), (.bin .mul (.c (.int .i64 4)) (.s 42)), none, [23]⟩,
        ⟨(some 44), (.bin .add (.s 43) (.c (.int .i64 3))), none, [24]⟩,
        ⟨(some 45), (.iaa 64 1 (.s 3) (.s 44)), none, [25]⟩,
        ⟨(some 46), (.ldc (.s 45)), none, [26]⟩,
        ⟨(some 47), (.cvi .u32 (.s 46)), none, [27]⟩,
        ⟨(some 48), (.bin .add (.s 41) (.s 47)), none, [22, 28]⟩,
        ⟨(some 49), (.iaa 64 1 (.s 5) (.s 19)), none, [0, 0, 1, 2, 3, 4, 5, 6, 7, 8, 9, 10, 11, 12, 13, 14, 15, 16, 17, 18, 19, 20, 21, 22, 23, 24, 25, 26, 27, 28, 29]⟩,
        ⟨none, (.stc 1 (.s 49) (.s 48)), none, [30, 29, 0, 1, 2, 3, 4, 5, 6, 7, 8, 9, 10, 11, 12, 13, 14, 15, 16, 17, 18, 19, 20, 21, 22, 23, 24, 25, 26, 27, 28, 29]⟩] true)
      (.region [
        ⟨(some 50), (.mv (.s 6)), none, []⟩,
        ⟨(some 51), (.mv (.s 6)), none, []⟩,
        ⟨(some 52), (.bin .sub (.s 51) (.c (.int .i64 16))), none, [1]⟩,
        ⟨(some 53), (.iaa 64 1 (.s 5) (.s 52)), none, [2]⟩,
        ⟨(some 54), (.ldc (.s 53)), none, [3]⟩,
        ⟨(some 55), (.mv (.s 6)), none, []⟩,
        ⟨(some 56), (.bin .sub (.s 55) (.c (.int .i64 7))), none, [5]⟩,
        ⟨(some 57), (.iaa 64 1 (.s 5) (.s 56)), none, [6]⟩,
        ⟨(some 58), (.ldc (.s 57)), none, [7]⟩,
        ⟨(some 59), (.bin .add (.s 54) (.s 58)), none, [4, 8]⟩,
        ⟨(some 60), (.mv (.s 6)), none, []⟩,
        ⟨(some 61), (.bin .sub (.s 60) (.c (.int .i64 15))), none, [10]⟩,
        ⟨(some 62), (.iaa 64 1 (.s 5) (.s 61)), none, [11]⟩,
        ⟨(some 63), (.ldc (.s 62)), none, [12]⟩,
        ⟨(some 64), (.call (.c (.fn 230 [])) [(.s 63), (.c (.int .i64 7)), (.c (.int .i64 18)), (.c (.int .i64 3))]), none, [13]⟩,
        ⟨(some 65), (.bin .add (.s 59) (.s 64)), none, [9, 14]⟩,
        ⟨(some 66), (.mv (.s 6)), none, []⟩,
        ⟨(some 67), (.bin .sub (.s 66) (.c (.int .i64 2))), none, [16]⟩,
        ⟨(some 68), (.iaa 64 1 (.s 5) (.s 67)), none, [17]⟩,
        ⟨(some 69), (.ldc (.s 68)), none, [18]⟩,
        ⟨(some 70), (.call (.c (.fn 230 [])) [(.s 69), (.c (.int .i64 17)), (.c (.int .i64 19)), (.c (.int .i64 10))]), none, [19, 14]⟩,
        ⟨(some 71), (.bin .add (.s 65) (.s 70)), none, [15, 20]⟩,
        ⟨(some 72), (.iaa 64 1 (.s 5) (.s 50)), none, [0, 0, 1, 2, 3, 4, 5, 6, 7, 8, 9, 10, 11, 12, 13, 14, 15, 16, 17, 18, 19, 20, 21]⟩,
        ⟨none, (.stc 1 (.s 72) (.s 71)), none, [22, 21, 20, 0, 1, 2, 3, 4, 5, 6, 7, 8, 9, 10, 11, 12, 13, 14, 15, 16, 17, 18, 19, 20, 21]⟩] true))))
    (.region [
      ⟨(some 15), (.mv (.s 6)), none, []⟩,
      ⟨(some 16), (.bin .add (.s 15) (.c (.int .i64 1))), none, [0]⟩,
      ⟨(some 6), (.mv (.s 16)), none, [1, 0, 1]⟩] false))))))
  (.seq (.region [
    ⟨(some 73), (.call (.c (.fn 231 [])) []), none, []⟩,
    ⟨(some 7), (.mv (.s 73)), none, [0, 0, 0]⟩] false)
  (.seq (.region [
    ⟨(some 74), (.lda 8 (some .u32) (.s 2)), none, []⟩,
    ⟨(some 8), (.new (.ints .u32 [0, 0, 0, 0, 0, 0, 0, 0])), none, []⟩,
    ⟨none, (.stc 8 (.s 8) (.s 74)), none, [1, 0, 0, 1]⟩] false)
  (.seq (.seq (.region [
    ⟨(some 9), (.mv (.c (.int .i64 0))), none, []⟩] false)
  (.block 2
   (.loop ⟨1, [], false, [2, 4, 5, 7, 8, 9], []⟩
    (.seq (.seq (.region [
      ⟨(some 75), (.mv (.s 9)), none, []⟩,
      ⟨(some 76), (.bin .lss (.s 75) (.c (.int .i64 64))), none, [0]⟩] false)
    (.cond (.s 76)
     .skip
     (.pre ⟨0, [], false, [2, 4, 8], []⟩ (.exit 2))))
    (.seq (.block 3
     (.seq (.region [
       ⟨(some 79), (.iaa 8 1 (.s 8) (.c (.int .i64 7))), none, []⟩,
       ⟨(some 80), (.ldc (.s 79)), none, [0]⟩,
       ⟨(some 81), (.iaa 8 1 (.s 8) (.c (.int .i64 4))), none, []⟩,
       ⟨(some 82), (.ldc (.s 81)), none, [2]⟩,
       ⟨(some 83), (.call (.c (.fn 232 [])) [(.s 82), (.c (.int .i64 6)), (.c (.int .i64 11)), (.c (.int .i64 25))]), none, [3]⟩,
       ⟨(some 84), (.bin .add (.s 80) (.s 83)), none, [1, 4]⟩,
       ⟨(some 85), (.iaa 8 1 (.s 8) (.c (.int .i64 4))), none, []⟩,
       ⟨(some 86), (.ldc (.s 85)), none, [6]⟩,
       ⟨(some 87), (.iaa 8 1 (.s 8) (.c (.int .i64 5))), none, []⟩,
       ⟨(some 88), (.ldc (.s 87)), none, [8]⟩,
       ⟨(some 89), (.bin .and (.s 86) (.s 88)), none, [7, 9]⟩,
       ⟨(some 90), (.iaa 8 1 (.s 8) (.c (.int .i64 4))), none, []⟩,
       ⟨(some 91), (.ldc (.s 90)), none, [11]⟩,
       ⟨(some 92), (.bin .sub (.c (.int .u32 4294967295)) (.s 91)), none, [12]⟩,
       ⟨(some 93), (.iaa 8 1 (.s 8) (.c (.int .i64 6))), none, []⟩,
       ⟨(some 94), (.ldc (.s 93)), none, [14]⟩,
       ⟨(some 95), (.bin .and (.s 92) (.s 94)), none, [13, 15]⟩,
       ⟨(some 96), (.bin .or (.s 89) (.s 95)), none, [10, 16]⟩,
       ⟨(some 97), (.bin .add (.s 84) (.s 96)), none, [5, 17]⟩,
       ⟨(some 98), (.mv (.s 7)), none, []⟩,
       ⟨(some 99), (.mv (.s 9)), none, []⟩,
       ⟨(some 100), (.iad 1 (.s 98) (.s 99)), none, [19, 20]⟩,
       ⟨(some 101), (.ldc (.s 100)), none, [21]⟩,
       ⟨(some 102), (.bin .add (.s 97) (.s 101)), none, [18, 22]⟩,
       ⟨(some 103), (.mv (.s 9)), none, []⟩,
       ⟨(some 104), (.iaa 64 1 (.s 5) (.s 103)), none, [24]⟩,
       ⟨(some 105), (.ldc (.s 104)), none, [25]⟩,
       ⟨(some 106), (.bin .add (.s 102) (.s 105)), none, [23, 26]⟩,
       ⟨(some 10), (.mv (.s 106)), none, [27, 4, 0, 1, 2, 3, 4, 5, 6, 7, 8, 9, 10, 11, 12, 13, 14, 15, 16, 17, 18, 19, 20, 21, 22, 23, 24, 25, 26, 27]⟩] true)
     (.seq (.region [
       ⟨(some 107), (.iaa 8 1 (.s 8) (.c (.int .i64 0))), none, []⟩,
       ⟨(some 108), (.ldc (.s 107)), none, [0]⟩,
       ⟨(some 109), (.call (.c (.fn 232 [])) [(.s 108), (.c (.int .i64 2)), (.c (.int .i64 13)), (.c (.int .i64 22))]), none, [1]⟩,
       ⟨(some 110), (.iaa 8 1 (.s 8) (.c (.int .i64 0))), none, []⟩,
       ⟨(some 111), (.ldc (.s 110)), none, [3]⟩,
       ⟨(some 112), (.iaa 8 1 (.s 8) (.c (.int .i64 1))), none, []⟩,
       ⟨(some 113), (.ldc (.s 112)), none, [5]⟩,
       ⟨(some 114), (.bin .and (.s 111) (.s 113)), none, [4, 6]⟩,
       ⟨(some 115), (.iaa 8 1 (.s 8) (.c (.int .i64 0))), none, []⟩,
       ⟨(some 116), (.ldc (.s 115)), none, [8]⟩,
       ⟨(some 117), (.iaa 8 1 (.s 8) (.c (.int .i64 2))), none, []⟩,
       ⟨(some 118), (.ldc (.s 117)), none, [10]⟩,
       ⟨(some 119), (.bin .and (.s 116) (.s 118)), none, [9, 11]⟩,
       ⟨(some 120), (.bin .or (.s 114) (.s 119)), none, [7, 12]⟩,
       ⟨(some 121), (.iaa 8 1 (.s 8) (.c (.int .i64 1))), none, []⟩,
       ⟨(some 122), (.ldc (.s 121)), none, [14]⟩,
       ⟨(some 123), (.iaa 8 1 (.s 8) (.c (.int .i64 2))), none, []⟩,
       ⟨(some 124), (.ldc (.s 123)), none, [16]⟩,
       ⟨(some 125), (.bin .and (.s 122) (.s 124)), none, [15, 17]⟩,
       ⟨(some 126), (.bin .or (.s 120) (.s 125)), none, [13, 18]⟩,
       ⟨(some 127), (.bin .add (.s 109) (.s 126)), none, [2, 19]⟩,
       ⟨(some 11), (.mv (.s 127)), none, [20, 2, 0, 1, 2, 3, 4, 5, 6, 7, 8, 9, 10, 11, 12, 13, 14, 15, 16, 17, 18, 19, 20]⟩] true)
     (.region [
       ⟨(some 128), (.mv (.s 10)), none, []⟩,
       ⟨(some 129), (.mv (.s 11)), none, []⟩,
       ⟨(some 130), (.bin .add (.s 128) (.s 129)), none, [0, 1]⟩,
       ⟨(some 131), (.iaa 8 1 (.s 8) (.c (.int .i64 0))), none, []⟩,
       ⟨(some 132), (.ldc (.s 131)), none, [3]⟩,
       ⟨(some 133), (.iaa 8 1 (.s 8) (.c (.int .i64 1))), none, []⟩,
       ⟨(some 134), (.ldc (.s 133)), none, [5]⟩,
       ⟨(some 135), (.iaa 8 1 (.s 8) (.c (.int .i64 2))), none, []⟩,
       ⟨(some 136), (.ldc (.s 135)), none, [7]⟩,
       ⟨(some 137), (.iaa 8 1 (.s 8) (.c (.int .i64 3))), none, []⟩,
       ⟨(some 138), (.ldc (.s 137)), none, [9]⟩,
       ⟨(some 139), (.mv (.s 10)), none, []⟩,
       ⟨(some 140), (.bin .add (.s 138) (.s 139)), none, [10, 11]⟩,
       ⟨(some 141), (.iaa 8 1 (.s 8) (.c (.int .i64 4))), none, []⟩,
       ⟨(some 142), (.ldc (.s 141)), none, [13]⟩,
       ⟨(some 143), (.iaa 8 1 (.s 8) (.c (.int .i64 5))), none, []⟩,
       ⟨(some 144), (.ldc (.s 143)), none, [15]⟩,
       ⟨(some 145), (.iaa 8 1 (.s 8) (.c (.int .i64 6))), none, []⟩,
       ⟨(some 146), (.ldc (.s 145)), none, [17]⟩,
       ⟨(some 147), (.build (.ints .u32 [0, 0, 0, 0, 0, 0, 0, 0]) [(0, 1, (.s 130)), (1, 1, (.s 132)), (2, 1, (.s 134)), (3, 1, (.s 136)), (4, 1, (.s 140)), (5, 1, (.s 142)), (6, 1, (.s 144)), (7, 1, (.s 146))]), none, [2, 4, 6, 8, 12, 14, 16, 18]⟩,
       ⟨none, (.stc 8 (.s 8) (.s 147)), none, [19, 0, 1, 2, 3, 4, 5, 6, 7, 8, 9, 10, 11, 12, 13, 14, 15, 16, 17, 18, 19]⟩] false))))
    (.region [
      ⟨(some 77), (.mv (.s 9)), none, []⟩,
      ⟨(some 78), (.bin .add (.s 77) (.c (.int .i64 1))), none, [0]⟩,
      ⟨(some 9), (.mv (.s 78)), none, [1, 0, 1]⟩] false))))))
  (.seq (.seq (.region [
    ⟨(some 12), (.mv (.c (.int .i64 0))), none, []⟩] false)
  (.block 4
   (.loop ⟨2, [], false, [2, 4, 8, 12], []⟩
    (.seq (.seq (.region [
      ⟨(some 148), (.mv (.s 12)), none, []⟩,
      ⟨(some 149), (.bin .lss (.s 148) (.c (.int .i64 8))), none, [0]⟩] false)
    (.cond (.s 149)
     .skip
     (.pre ⟨0, [], false, [4, 8], []⟩ (.exit 4))))
    (.seq (.block 5
     (.region [
       ⟨(some 152), (.mv (.s 12)), none, []⟩,
       ⟨(some 153), (.iaa 8 1 (.s 8) (.s 152)), none, [0]⟩,
       ⟨(some 154), (.ldc (.s 153)), none, [1]⟩,
       ⟨(some 155), (.mv (.s 12)), none, []⟩,
       ⟨(some 156), (.iaa 8 1 (.s 2) (.s 155)), none, [3]⟩,
       ⟨(some 157), (.ldc (.s 156)), none, [4]⟩,
       ⟨(some 158), (.bin .add (.s 154) (.s 157)), none, [2, 5]⟩,
       ⟨(some 159), (.iaa 8 1 (.s 8) (.s 152)), none, [0, 0, 1, 2, 3, 4, 5, 6]⟩,
       ⟨none, (.stc 1 (.s 159) (.s 158)), none, [7, 6, 0, 1, 2, 3, 4, 5, 6]⟩] true))
    (.region [
      ⟨(some 150), (.mv (.s 12)), none, []⟩,
      ⟨(some 151), (.bin .add (.s 150) (.c (.int .i64 1))), none, [0]⟩,
      ⟨(some 12), (.mv (.s 151)), none, [1, 0, 1]⟩] false))))))
  (.seq (.region [
    ⟨(some 160), (.lda 8 (some .u32) (.s 8)), none, []⟩,
    ⟨none, (.stc 8 (.s 4) (.s 160)), none, [0, 0]⟩] false)
  .ret)))))))), false, (some [(Sh.ar .u32), (Sh.ar .u8)]), (some (Sh.ar .u32)), false⟩

/-- euphroe/sha256.Tail -/
def k217 : Fun := ⟨1, 25, [0, 2, 3, 4, 5], [(.tmp 2)],
  (.seq (.region [
    ⟨(some 2), (.mv (.c .nils)), none, []⟩] false)
  (.seq (.region [
    ⟨(some 7), (.mv (.s 0)), none, []⟩,
    ⟨(some 8), (.bin .add (.s 7) (.c (.int .u64 1))), none, [0]⟩,
    ⟨(some 9), (.bin .add (.s 8) (.c (.int .u64 8))), none, [1]⟩,
    ⟨(some 10), (.bin .rem (.s 9) (.c (.int .u64 64))), none, [2]⟩,
    ⟨(some 11), (.bin .sub (.c (.int .u64 64)) (.s 10)), none, [3]⟩,
    ⟨(some 12), (.bin .rem (.s 11) (.c (.int .u64 64))), none, [4]⟩,
    ⟨(some 3), (.mv (.s 12)), none, [5, 0, 1, 2, 3, 4, 5]⟩] false)
  (.seq (.region [
    ⟨(some 13), (.bsl 1 1 (.ints .u8 [0]) [(0, 1, (.c (.int .u8 128)))]), none, []⟩,
    ⟨(some 14), (.mv (.s 3)), none, []⟩,
    ⟨(some 15), (.apz 1 1 (.ints .u8 [0]) (.s 13) (.s 14)), none, [0, 1]⟩,
    ⟨(some 4), (.mv (.s 15)), none, [2, 2, 0, 1, 2]⟩] false)
  (.seq (.region [
    ⟨(some 17), (.mv (.s 0)), none, []⟩,
    ⟨(some 18), (.bin .mul (.s 17) (.c (.int .u64 8))), none, [0]⟩,
    ⟨(some 19), (.call (.c (.fn 19 [])) [(.s 18), (.c (.int .i64 8)), (.c (.bool false))]), none, [1]⟩,
    ⟨(some 16), (.mv (.s 19)), none, [2]⟩,
    ⟨(some 20), (.ext (.s 16) 0), none, [3]⟩,
    ⟨(some 21), (.ext (.s 16) 1), none, [3]⟩,
    ⟨(some 5), (.mv (.s 20)), none, [4, 2, 0, 1, 2, 3, 4]⟩,
    ⟨(some 6), (.mv (.s 21)), none, [5, 6, 0, 1, 2, 3, 4, 5, 6]⟩] false)
  (.seq (.region [
    ⟨(some 22), (.mv (.s 4)), none, []⟩,
    ⟨(some 23), (.mv (.s 5)), none, []⟩,
    ⟨(some 24), (.app 1 1 (.s 22) (.s 23)), none, [0, 1]⟩,
    ⟨(some 2), (.mv (.s 24)), none, [2, 2, 0, 1, 2]⟩] false)
  .ret))))), false, (some [(Sh.int .u64)]), (some (Sh.sl (Sh.int .u8))), false⟩

/-- euphroe/euphroeref06.Tail -/
def k218 : Fun := ⟨1, 5, [0, 2], [(.tmp 2)],
  (.seq (.region [
    ⟨(some 2), (.mv (.c .nils)), none, []⟩] false)
  (.seq (.region [
    ⟨(some 3), (.mv (.s 0)), none, []⟩,
    ⟨(some 4), (.call (.c (.fn 186 [])) [(.s 3)]), none, [0]⟩,
    ⟨(some 2), (.mv (.s 4)), none, [1, 1, 0, 1]⟩] false)
  .ret)), false, (some [(Sh.int .u64)]), (some (Sh.sl (Sh.int .u8))), false⟩

/-- euphroe/sha256.First -/
def k219 : Fun := ⟨0, 4, [0], [(.cell 0 8 true (some .u32))],
  (.seq (.region [
    ⟨(some 0), (.new (.ints .u32 [0, 0, 0, 0, 0, 0, 0, 0])), none, []⟩] false)
  (.seq (.region [
    ⟨(some 1), (.call (.c (.fn 83 [])) [(.c (.int .i64 8)), (.c (.int .i64 2))]), none, []⟩,
    ⟨(some 2), (.s2a 8 (.s 1)), none, [0]⟩,
    ⟨(some 3), (.lda 8 (some .u32) (.s 2)), none, [1]⟩,
    ⟨none, (.stc 8 (.s 0) (.s 3)), none, [2, 0, 0, 1, 2]⟩] false)
  .ret)), false, (some []), (some (Sh.ar .u32)), false⟩

/-- euphroe/euphroeref06.First -/
def k220 : Fun := ⟨0, 2, [0], [(.cell 0 8 true (some .u32))],
  (.seq (.region [
    ⟨(some 0), (.new (.ints .u32 [0, 0, 0, 0, 0, 0, 0, 0])), none, []⟩] false)
  (.seq (.region [
    ⟨(some 1), (.build (.ints .u32 [0, 0, 0, 0, 0, 0, 0, 0]) [(0, 1, (.c (.int .u32 1779033703))), (1, 1, (.c (.int .u32 3144134277))), (2, 1, (.c (.int .u32 1013904242))), (3, 1, (.c (.int .u32 2773480762))), (4, 1, (.c (.int .u32 1359893119))), (5, 1, (.c (.int .u32 2600822924))), (6, 1, (.c (.int .u32 528734635))), (7, 1, (.c (.int .u32 1541459225)))]), none, []⟩,
    ⟨none, (.stc 8 (.s 0) (.s 1)), none, [0, 0]⟩] false)
  .ret)), false, (some []), (some (Sh.ar .u32)), false⟩

/-- euphroe/euphroeref07.Of -/
def k222 : Fun := ⟨2, 19, [0, 1, 4, 5, 6], [(.cell 4 32 true (some .u8))],
  (.seq (.region [
    ⟨(some 4), (.new (.ints .u8 [0, 0, 0, 0, 0, 0, 0, 0, 0, 0, 0, 0, 0, 0, 0, 0, 0, 0, 0, 0, 0, 0, 0, 0, 0, 0, 0, 0, 0, 0, 0, 0])), none, []⟩] false)
  (.seq (.region [
    ⟨(some 7), (.mv (.s 0)), none, []⟩,
    ⟨(some 8), (.call (.c (.fn 225 [])) [(.s 7)]), none, [0]⟩,
    ⟨(some 5), (.new (.ints .u8 [0, 0, 0, 0, 0, 0, 0, 0, 0, 0, 0, 0, 0, 0, 0, 0, 0, 0, 0, 0, 0, 0, 0, 0, 0, 0, 0, 0, 0, 0, 0, 0, 0, 0, 0, 0, 0, 0, 0, 0, 0, 0, 0, 0, 0, 0, 0, 0, 0, 0, 0, 0, 0, 0, 0, 0, 0, 0, 0, 0, 0, 0, 0, 0])), none, []⟩,
    ⟨none, (.stc 64 (.s 5) (.s 8)), none, [2, 1, 1, 0, 1, 2]⟩] false)
  (.seq (.region [
    ⟨(some 9), (.lda 64 (some .u8) (.s 5)), none, []⟩,
    ⟨(some 10), (.call (.c (.fn 233 [])) [(.s 9), (.c (.int .u8 54))]), none, [0]⟩,
    ⟨(some 11), (.mv (.s 1)), none, []⟩,
    ⟨(some 12), (.app 1 1 (.s 10) (.s 11)), none, [1, 2, 1]⟩,
    ⟨(some 13), (.call (.c (.fn 214 [])) [(.s 12)]), none, [3, 3]⟩,
    ⟨(some 6), (.new (.ints .u8 [0, 0, 0, 0, 0, 0, 0, 0, 0, 0, 0, 0, 0, 0, 0, 0, 0, 0, 0, 0, 0, 0, 0, 0, 0, 0, 0, 0, 0, 0, 0, 0])), none, []⟩,
    ⟨none, (.stc 32 (.s 6) (.s 13)), none, [5, 4, 4, 0, 1, 2, 3, 4, 5]⟩] false)
  (.seq (.region [
    ⟨(some 14), (.lda 64 (some .u8) (.s 5)), none, []⟩,
    ⟨(some 15), (.call (.c (.fn 233 [])) [(.s 14), (.c (.int .u8 92))]), none, [0]⟩,
    ⟨(some 16), (.sla 32 1 (.s 6) none none none), none, []⟩,
    ⟨(some 17), (.app 1 1 (.s 15) (.s 16)), none, [1, 2, 1]⟩,
    ⟨(some 18), (.call (.c (.fn 214 [])) [(.s 17)]), none, [3, 3]⟩,
    ⟨none, (.stc 32 (.s 4) (.s 18)), none, [4, 4, 0, 1, 2, 3, 4]⟩] true)
  .ret)))), false, (some [(Sh.sl (Sh.int .u8)), (Sh.sl (Sh.int .u8))]), (some (Sh.ar .u8)), false⟩

/-- euphroe/hmac.Of -/
def k223 : Fun := ⟨2, 17, [0, 1, 4, 5], [(.cell 4 32 true (some .u8))],
  (.seq (.region [
    ⟨(some 4), (.new (.ints .u8 [0, 0, 0, 0, 0, 0, 0, 0, 0, 0, 0, 0, 0, 0, 0, 0, 0, 0, 0, 0, 0, 0, 0, 0, 0, 0, 0, 0, 0, 0, 0, 0])), none, []⟩] false)
  (.seq (.region [
    ⟨(some 6), (.mv (.s 0)), none, []⟩,
    ⟨(some 7), (.call (.c (.fn 234 [])) [(.s 6), (.c (.int .u8 54))]), none, [0]⟩,
    ⟨(some 8), (.mv (.s 1)), none, []⟩,
    ⟨(some 9), (.call (.c (.fn 46 [])) [(.s 8)]), none, [2, 1]⟩,
    ⟨(some 10), (.bsl 2 1 (.vals [.nils, .nils]) [(0, 1, (.s 7)), (1, 1, (.s 9))]), none, [1, 3]⟩,
    ⟨(some 11), (.call (.c (.fn 213 [])) [(.s 10)]), none, [4, 3]⟩,
    ⟨(some 5), (.new (.ints .u8 [0, 0, 0, 0, 0, 0, 0, 0, 0, 0, 0, 0, 0, 0, 0, 0, 0, 0, 0, 0, 0, 0, 0, 0, 0, 0, 0, 0, 0, 0, 0, 0])), none, []⟩,
    ⟨none, (.stc 32 (.s 5) (.s 11)), none, [6, 5, 5, 0, 1, 2, 3, 4, 5, 6]⟩] false)
  (.seq (.region [
    ⟨(some 12), (.mv (.s 0)), none, []⟩,
    ⟨(some 13), (.call (.c (.fn 234 [])) [(.s 12), (.c (.int .u8 92))]), none, [0]⟩,
    ⟨(some 14), (.sla 32 1 (.s 5) none none none), none, []⟩,
    ⟨(some 15), (.bsl 2 1 (.vals [.nils, .nils]) [(0, 1, (.s 13)), (1, 1, (.s 14))]), none, [1, 2]⟩,
    ⟨(some 16), (.call (.c (.fn 213 [])) [(.s 15)]), none, [3, 1]⟩,
    ⟨none, (.stc 32 (.s 4) (.s 16)), none, [4, 4, 0, 1, 2, 3, 4]⟩] true)
  .ret))), false, (some [(Sh.sl (Sh.int .u8)), (Sh.sl (Sh.sl (Sh.int .u8)))]), (some (Sh.ar .u8)), false⟩

/-- euphroe/hmac.Key -/
def k224 : Fun := ⟨1, 16, [0, 2, 3, 4, 7], [(.cell 2 64 true (some .u8))],
  (.seq (.region [
    ⟨(some 2), (.new (.ints .u8 [0, 0, 0, 0, 0, 0, 0, 0, 0, 0, 0, 0, 0, 0, 0, 0, 0, 0, 0, 0, 0, 0, 0, 0, 0, 0, 0, 0, 0, 0, 0, 0, 0, 0, 0, 0, 0, 0, 0, 0, 0, 0, 0, 0, 0, 0, 0, 0, 0, 0, 0, 0, 0, 0, 0, 0, 0, 0, 0, 0, 0, 0, 0, 0])), none, []⟩] false)
  (.seq (.region [
    ⟨(some 3), (.new (.ints .u8 [0, 0, 0, 0, 0, 0, 0, 0, 0, 0, 0, 0, 0, 0, 0, 0, 0, 0, 0, 0, 0, 0, 0, 0, 0, 0, 0, 0, 0, 0, 0, 0, 0, 0, 0, 0, 0, 0, 0, 0, 0, 0, 0, 0, 0, 0, 0, 0, 0, 0, 0, 0, 0, 0, 0, 0, 0, 0, 0, 0, 0, 0, 0, 0])), none, []⟩] false)
  (.seq (.seq (.region [
    ⟨(some 5), (.mv (.s 0)), none, []⟩,
    ⟨(some 6), (.len false (.s 5)), none, [0]⟩,
    ⟨(some 7), (.bin .gtr (.s 6) (.c (.int .i64 64))), none, [1]⟩] false)
  (.cond (.s 7)
   (.seq (.region [
     ⟨(some 8), (.mv (.s 0)), none, []⟩,
     ⟨(some 9), (.bsl 1 1 (.vals [.nils]) [(0, 1, (.s 8))]), none, [0]⟩,
     ⟨(some 10), (.call (.c (.fn 213 [])) [(.s 9)]), none, [1]⟩,
     ⟨(some 4), (.new (.ints .u8 [0, 0, 0, 0, 0, 0, 0, 0, 0, 0, 0, 0, 0, 0, 0, 0, 0, 0, 0, 0, 0, 0, 0, 0, 0, 0, 0, 0, 0, 0, 0, 0])), none, []⟩,
     ⟨none, (.stc 32 (.s 4) (.s 10)), none, [3, 2, 2, 0, 1, 2, 3]⟩] false)
   (.region [
     ⟨(some 11), (.sla 32 1 (.s 4) none none none), none, []⟩,
     ⟨(some 0), (.mv (.s 11)), none, [0, 0]⟩] false))
   .skip))
  (.seq (.region [
    ⟨(some 12), (.sla 64 1 (.s 3) none none none), none, []⟩,
    ⟨(some 13), (.mv (.s 0)), none, []⟩,
    ⟨(some 14), (.cpy 1 (.s 12) (.s 13)), none, [0, 1]⟩] false)
  (.seq (.region [
    ⟨(some 15), (.lda 64 (some .u8) (.s 3)), none, []⟩,
    ⟨none, (.stc 64 (.s 2) (.s 15)), none, [0, 0]⟩] false)
  .ret))))), false, (some [(Sh.sl (Sh.int .u8))]), (some (Sh.ar .u8)), false⟩

/-- euphroe/euphroeref07.Key -/
def k225 : Fun := ⟨1, 25, [0, 2, 3, 4, 5, 8, 15], [(.cell 2 64 true (some .u8))],
  (.seq (.region [
    ⟨(some 2), (.new (.ints .u8 [0, 0, 0, 0, 0, 0, 0, 0, 0, 0, 0, 0, 0, 0, 0, 0, 0, 0, 0, 0, 0, 0, 0, 0, 0, 0, 0, 0, 0, 0, 0, 0, 0, 0, 0, 0, 0, 0, 0, 0, 0, 0, 0, 0, 0, 0, 0, 0, 0, 0, 0, 0, 0, 0, 0, 0, 0, 0, 0, 0, 0, 0, 0, 0])), none, []⟩] false)
  (.seq (.seq (.region [
    ⟨(some 6), (.mv (.s 0)), none, []⟩,
    ⟨(some 7), (.len false (.s 6)), none, [0]⟩,
    ⟨(some 8), (.bin .gtr (.s 7) (.c (.int .i64 64))), none, [1]⟩] false)
  (.cond (.s 8)
   (.seq (.region [
     ⟨(some 9), (.mv (.s 0)), none, []⟩,
     ⟨(some 10), (.call (.c (.fn 214 [])) [(.s 9)]), none, [0]⟩,
     ⟨(some 3), (.new (.ints .u8 [0, 0, 0, 0, 0, 0, 0, 0, 0, 0, 0, 0, 0, 0, 0, 0, 0, 0, 0, 0, 0, 0, 0, 0, 0, 0, 0, 0, 0, 0, 0, 0])), none, []⟩,
     ⟨none, (.stc 32 (.s 3) (.s 10)), none, [2, 1, 1, 0, 1, 2]⟩] false)
   (.region [
     ⟨(some 11), (.sla 32 1 (.s 3) none none none), none, []⟩,
     ⟨(some 0), (.mv (.s 11)), none, [0, 0]⟩] false))
   .skip))
  (.seq (.region [
    ⟨(some 4), (.new (.ints .u8 [0, 0, 0, 0, 0, 0, 0, 0, 0, 0, 0, 0, 0, 0, 0, 0, 0, 0, 0, 0, 0, 0, 0, 0, 0, 0, 0, 0, 0, 0, 0, 0, 0, 0, 0, 0, 0, 0, 0, 0, 0, 0, 0, 0, 0, 0, 0, 0, 0, 0, 0, 0, 0, 0, 0, 0, 0, 0, 0, 0, 0, 0, 0, 0])), none, []⟩] false)
  (.seq (.seq (.region [
    ⟨(some 5), (.mv (.c (.int .i64 0))), none, []⟩] false)
  (.block 0
   (.loop ⟨0, [(0, (Sh.sl (Sh.int .u8)))], false, [0, 2, 4, 5], []⟩
    (.seq (.seq (.region [
      ⟨(some 12), (.mv (.s 5)), none, []⟩,
      ⟨(some 13), (.mv (.s 0)), none, []⟩,
      ⟨(some 14), (.len false (.s 13)), none, [1]⟩,
      ⟨(some 15), (.bin .lss (.s 12) (.s 14)), none, [0, 2]⟩] false)
    (.cond (.s 15)
     .skip
     (.pre ⟨0, [], false, [2, 4], []⟩ (.exit 0))))
    (.seq (.block 1
     (.region [
       ⟨(some 18), (.mv (.s 5)), none, []⟩,
       ⟨(some 19), (.mv (.s 0)), none, []⟩,
       ⟨(some 20), (.mv (.s 5)), none, []⟩,
       ⟨(some 21), (.iad 1 (.s 19) (.s 20)), none, [1, 2]⟩,
       ⟨(some 22), (.ldc (.s 21)), none, [3]⟩,
       ⟨(some 23), (.iaa 64 1 (.s 4) (.s 18)), none, [0, 0, 1, 2, 3, 4]⟩,
       ⟨none, (.stc 1 (.s 23) (.s 22)), none, [5, 4, 0, 1, 2, 3, 4]⟩] false))
    (.region [
      ⟨(some 16), (.mv (.s 5)), none, []⟩,
      ⟨(some 17), (.bin .add (.s 16) (.c (.int .i64 1))), none, [0]⟩,
      ⟨(some 5), (.mv (.s 17)), none, [1, 0, 1]⟩] false))))))
  (.seq (.region [
    ⟨(some 24), (.lda 64 (some .u8) (.s 4)), none, []⟩,
    ⟨none, (.stc 64 (.s 2) (.s 24)), none, [0, 0]⟩] false)
  .ret))))), false, (some [(Sh.sl (Sh.int .u8))]), (some (Sh.ar .u8)), false⟩

/-- euphroe/hmac.Check -/
def k226 : Fun := ⟨3, 14, [0, 1, 2, 6, 7], [(.tmp 6)],
  (.seq (.region [
    ⟨(some 6), (.mv (.c (.bool false))), none, []⟩] false)
  (.seq (.region [
    ⟨(some 8), (.mv (.s 0)), none, []⟩,
    ⟨(some 9), (.mv (.s 2)), none, []⟩,
    ⟨(some 10), (.call (.c (.fn 223 [])) [(.s 8), (.s 9)]), none, [0, 1]⟩,
    ⟨(some 7), (.new (.ints .u8 [0, 0, 0, 0, 0, 0, 0, 0, 0, 0, 0, 0, 0, 0, 0, 0, 0, 0, 0, 0, 0, 0, 0, 0, 0, 0, 0, 0, 0, 0, 0, 0])), none, []⟩,
    ⟨none, (.stc 32 (.s 7) (.s 10)), none, [3, 2, 2, 0, 1, 2, 3]⟩] false)
  (.seq (.region [
    ⟨(some 11), (.sla 32 1 (.s 7) none none none), none, []⟩,
    ⟨(some 12), (.mv (.s 1)), none, []⟩,
    ⟨(some 13), (.call (.c (.fn 47 [])) [(.s 11), (.s 12)]), none, [0, 1]⟩,
    ⟨(some 6), (.mv (.s 13)), none, [2, 2, 0, 1, 2]⟩] false)
  .ret))), false, (some [(Sh.sl (Sh.int .u8)), (Sh.sl (Sh.int .u8)), (Sh.sl (Sh.sl (Sh.int .u8)))]), (some Sh.bool), false⟩

/-- (euphroe/sha256.State).block -/
def k229 : Fun := ⟨3, 40, [0, 1, 2, 3, 4, 6, 7, 8, 9, 10, 13, 14, 15, 27, 28], [(.cell 6 8 true (some .u32))],
  (.seq (.region [
    ⟨(some 3), (.box (.s 0)), none, []⟩,
    ⟨(some 4), (.box (.s 1)), none, []⟩,
    ⟨(some 6), (.new (.ints .u32 [0, 0, 0, 0, 0, 0, 0, 0])), none, []⟩] false)
  (.seq (.region [
    ⟨(some 11), (.lda 8 (some .u32) (.s 3)), none, []⟩,
    ⟨(some 7), (.new (.ints .u32 [0, 0, 0, 0, 0, 0, 0, 0])), none, []⟩,
    ⟨none, (.stc 8 (.s 7) (.s 11)), none, [1, 0, 0, 1]⟩] false)
  (.seq (.seq (.region [
    ⟨(some 12), (.lda 64 (some .u8) (.s 4)), none, []⟩,
    ⟨(some 13), (.call (.c (.fn 235 [])) [(.s 12)]), none, [0]⟩,
    ⟨(some 14), (.mv (.c (.int .i64 0))), none, []⟩] false)
  (.block 0
   (.loop ⟨0, [], false, [2, 3, 6, 7, 13, 14], []⟩
    (.seq (.region [
      ⟨(some 15), (.bin .lss (.s 14) (.c (.int .i64 64))), none, []⟩] false)
    (.seq (.cond (.s 15)
     .skip
     (.pre ⟨0, [], false, [3, 6, 7], []⟩ (.exit 0)))
    (.seq (.block 1
     (.seq (.region [
       ⟨(some 16), (.mv (.s 14)), none, []⟩,
       ⟨(some 17), (.ixa 64 1 false (some .u32) (.s 13) (.s 14)), none, []⟩,
       ⟨(some 8), (.mv (.s 16)), none, [0, 0, 1]⟩,
       ⟨(some 9), (.mv (.s 17)), none, [1, 2, 0, 1, 2]⟩] false)
     (.region [
       ⟨(some 18), (.lda 8 (some .u32) (.s 7)), none, []⟩,
       ⟨(some 19), (.mv (.s 9)), none, []⟩,
       ⟨(some 20), (.mv (.s 2)), none, []⟩,
       ⟨(some 21), (.mv (.s 8)), none, []⟩,
       ⟨(some 22), (.iad 1 (.s 20) (.s 21)), none, [2, 3]⟩,
       ⟨(some 23), (.ldc (.s 22)), none, [4]⟩,
       ⟨(some 24), (.bin .add (.s 19) (.s 23)), none, [1, 5]⟩,
       ⟨(some 25), (.call (.c (.fn 236 [])) [(.s 18), (.s 24)]), none, [0, 6]⟩,
       ⟨none, (.stc 8 (.s 7) (.s 25)), none, [7, 7, 0, 1, 2, 3, 4, 5, 6, 7]⟩] true)))
    (.region [
      ⟨(some 26), (.bin .add (.s 14) (.c (.int .i64 1))), none, []⟩,
      ⟨(some 14), (.mv (.s 26)), none, [0]⟩] false)))))))
  (.seq (.seq (.region [
    ⟨(some 27), (.mv (.c (.int .i64 0))), none, []⟩] false)
  (.block 2
   (.loop ⟨1, [], false, [3, 6, 7, 27], []⟩
    (.seq (.region [
      ⟨(some 28), (.bin .lss (.s 27) (.c (.int .i64 8))), none, []⟩] false)
    (.seq (.cond (.s 28)
     .skip
     (.pre ⟨0, [], false, [6, 7], []⟩ (.exit 2)))
    (.seq (.block 3
     (.seq (.region [
       ⟨(some 29), (.mv (.s 27)), none, []⟩,
       ⟨(some 10), (.mv (.s 29)), none, [0, 0]⟩] false)
     (.region [
       ⟨(some 30), (.mv (.s 10)), none, []⟩,
       ⟨(some 31), (.iaa 8 1 (.s 7) (.s 30)), none, [0]⟩,
       ⟨(some 32), (.ldc (.s 31)), none, [1]⟩,
       ⟨(some 33), (.mv (.s 10)), none, []⟩,
       ⟨(some 34), (.iaa 8 1 (.s 3) (.s 33)), none, [3]⟩,
       ⟨(some 35), (.ldc (.s 34)), none, [4]⟩,
       ⟨(some 36), (.bin .add (.s 32) (.s 35)), none, [2, 5]⟩,
       ⟨(some 37), (.iaa 8 1 (.s 7) (.s 30)), none, [0, 0, 1, 2, 3, 4, 5, 6]⟩,
       ⟨none, (.stc 1 (.s 37) (.s 36)), none, [7, 6, 0, 1, 2, 3, 4, 5, 6]⟩] true)))
    (.region [
      ⟨(some 38), (.bin .add (.s 27) (.c (.int .i64 1))), none, []⟩,
      ⟨(some 27), (.mv (.s 38)), none, [0]⟩] false)))))))
  (.seq (.region [
    ⟨(some 39), (.lda 8 (some .u32) (.s 7)), none, []⟩,
    ⟨none, (.stc 8 (.s 6) (.s 39)), none, [0, 0]⟩] false)
  .ret))))), false, (some [(Sh.ar .u32), (Sh.ar .u8), (Sh.sl (Sh.int .u32))]), (some (Sh.ar .u32)), false⟩

/-- euphroe/euphroeref06.small -/
def k230 : Fun := ⟨4, 20, [0, 1, 2, 3, 8], [(.tmp 8)],
  (.seq (.region [
    ⟨(some 8), (.mv (.c (.int .u32 0))), none, []⟩] false)
  (.seq (.region [
    ⟨(some 9), (.mv (.s 0)), none, []⟩,
    ⟨(some 10), (.mv (.s 1)), none, []⟩,
    ⟨(some 11), (.call (.c (.fn 237 [])) [(.s 9), (.s 10)]), none, [0, 1]⟩,
    ⟨(some 12), (.mv (.s 0)), none, []⟩,
    ⟨(some 13), (.mv (.s 2)), none, []⟩,
    ⟨(some 14), (.call (.c (.fn 237 [])) [(.s 12), (.s 13)]), none, [3, 4, 2]⟩,
    ⟨(some 15), (.bin .xor (.s 11) (.s 14)), none, [2, 5]⟩,
    ⟨(some 16), (.mv (.s 0)), none, []⟩,
    ⟨(some 17), (.mv (.s 3)), none, []⟩,
    ⟨(some 18), (.bin .shr (.s 16) (.s 17)), none, [7, 8]⟩,
    ⟨(some 19), (.bin .xor (.s 15) (.s 18)), none, [6, 9]⟩,
    ⟨(some 8), (.mv (.s 19)), none, [10, 5, 0, 1, 2, 3, 4, 5, 6, 7, 8, 9, 10]⟩] true)
  .ret)), false, (some [(Sh.int .u32), (Sh.int .i64), (Sh.int .i64), (Sh.int .i64)]), (some (Sh.int .u32)), false⟩

/-- euphroe/euphroeref06.constants -/
def k231 : Fun := ⟨0, 2, [0], [(.tmp 0)],
  (.seq (.region [
    ⟨(some 0), (.mv (.c .nils)), none, []⟩] false)
  (.seq (.region [
    ⟨(some 1), (.bsl 64 1 (.ints .u32 [0, 0, 0, 0, 0, 0, 0, 0, 0, 0, 0, 0, 0, 0, 0, 0, 0, 0, 0, 0, 0, 0, 0, 0, 0, 0, 0, 0, 0, 0, 0, 0, 0, 0, 0, 0, 0, 0, 0, 0, 0, 0, 0, 0, 0, 0, 0, 0, 0, 0, 0, 0, 0, 0, 0, 0, 0, 0, 0, 0, 0, 0, 0, 0]) [(0, 1, (.c (.int .u32 1116352408))), (1, 1, (.c (.int .u32 1899447441))), (2, 1, (.c (.int .u32 3049323471))), (3, 1, (.c (.int .u32 3921009573))), (4, 1, (.c (.int .u32 961987163))), (5, 1, (.c (.int .u32 1508970993))), (6, 1, (.c (.int .u32 2453635748))), (7, 1, (.c (.int .u32 2870763221))), (8, 1, (.c (.int .u32 3624381080))), (9, 1, (.c (.int .u32 310598401))), (10, 1, (.c (.int .u32 607225278))), (11, 1, (.c (.int .u32 1426881987))), (12, 1, (.c (.int .u32 1925078388))), (13, 1, (.c (.int .u32 2162078206))), (14, 1, (.c (.int .u32 2614888103))), (15, 1, (.c (.int .u32 3248222580))), (16, 1, (.c (.int .u32 3835390401))), (17, 1, (.c (.int .u32 4022224774))), (18, 1, (.c (.int .u32 264347078))), (19, 1, (.c (.int .u32 604807628))), (20, 1, (.c (.int .u32 770255983))), (21, 1, (.c (.int .u32 1249150122))), (22, 1, (.c (.int .u32 1555081692))), (23, 1, (.c (.int .u32 1996064986))), (24, 1, (.c (.int .u32 2554220882))), (25, 1, (.c (.int .u32 2821834349))), (26, 1, (.c (.int .u32 2952996808))), (27, 1, (.c (.int .u32 3210313671))), (28, 1, (.c (.int .u32 3336571891))), (29, 1, (.c (.int .u32 3584528711))), (30, 1, (.c (.int .u32 113926993))), (31, 1, (.c (.int .u32 338241895))), (32, 1, (.c (.int .u32 666307205))), (33, 1, (.c (.int .u32 773529912))), (34, 1, (.c (.int .u32 1294757372))), (35, 1, (.c (.int .u32 1396182291))), (36, 1, (.c (.int .u32 1695183700))), (37, 1, (.c (.int .u32 1986661051))), (38, 1, (.c (.int .u32 2177026350))), (39, 1, (.c (.int .u32 2456956037))), (40, 1, (.c (.int .u32 2730485921))), (41, 1, (.c (.int .u32 2820302411))), (42, 1, (.c (.int .u32 3259730800))), (43, 1, (.c (.int .u32 3345764771))), (44, 1, (.c (.int .u32 3516065817))), (45, 1, (.c (.int .u32 3600352804))), (46, 1, (.c (.int .u32 4094571909))), (47, 1, (.c (.int .u32 275423344))), (48, 1, (.c (.int .u32 430227734))), (49, 1, (.c (.int .u32 506948616))), (50, 1, (.c (.int .u32 659060556))), (51, 1, (.c (.int .u32 883997877))), (52, 1, (.c (.int .u32 958139571))), (53, 1, (.c (.int .u32 1322822218))), (54, 1, (.c (.int .u32 1537002063))), (55, 1, (.c (.int .u32 1747873779))), (56, 1, (.c (.int .u32 1955562222))), (57, 1, (.c (.int .u32 2024104815))), (58, 1, (.c (.int .u32 2227730452))), (59, 1, (.c (.int .u32 2361852424))), (60, 1, (.c (.int .u32 2428436474))), (61, 1, (.c (.int .u32 2756734187))), (62, 1, (.c (.int .u32 3204031479))), (63, 1, (.c (.int .u32 3329325298)))]), none, []⟩,
    ⟨(some 0), (.mv (.s 1)), none, [0, 0]⟩] false)
  .ret)), false, (some []), (some (Sh.sl (Sh.int .u32))), false⟩

/-- euphroe/euphroeref06.great -/
def k232 : Fun := ⟨4, 20, [0, 1, 2, 3, 8], [(.tmp 8)],
  (.seq (.region [
    ⟨(some 8), (.mv (.c (.int .u32 0))), none, []⟩] false)
  (.seq (.region [
    ⟨(some 9), (.mv (.s 0)), none, []⟩,
    ⟨(some 10), (.mv (.s 1)), none, []⟩,
    ⟨(some 11), (.call (.c (.fn 237 [])) [(.s 9), (.s 10)]), none, [0, 1]⟩,
    ⟨(some 12), (.mv (.s 0)), none, []⟩,
    ⟨(some 13), (.mv (.s 2)), none, []⟩,
    ⟨(some 14), (.call (.c (.fn 237 [])) [(.s 12), (.s 13)]), none, [3, 4, 2]⟩,
    ⟨(some 15), (.bin .xor (.s 11) (.s 14)), none, [2, 5]⟩,
    ⟨(some 16), (.mv (.s 0)), none, []⟩,
    ⟨(some 17), (.mv (.s 3)), none, []⟩,
    ⟨(some 18), (.call (.c (.fn 237 [])) [(.s 16), (.s 17)]), none, [7, 8, 5]⟩,
    ⟨(some 19), (.bin .xor (.s 15) (.s 18)), none, [6, 9]⟩,
    ⟨(some 8), (.mv (.s 19)), none, [10, 9, 0, 1, 2, 3, 4, 5, 6, 7, 8, 9, 10]⟩] false)
  .ret)), false, (some [(Sh.int .u32), (Sh.int .i64), (Sh.int .i64), (Sh.int .i64)]), (some (Sh.int .u32)), false⟩

/-- euphroe/euphroeref07.turned -/
def k233 : Fun := ⟨2, 20, [0, 1, 2, 4, 5, 6, 8], [(.tmp 4)],
  (.seq (.region [
    ⟨(some 2), (.box (.s 0)), none, []⟩,
    ⟨(some 4), (.mv (.c .nils)), none, []⟩] false)
  (.seq (.region [
    ⟨(some 5), (.mv (.c .nils)), none, []⟩] false)
  (.seq (.seq (.region [
    ⟨(some 6), (.mv (.c (.int .i64 0))), none, []⟩] false)
  (.block 0
   (.loop ⟨0, [], false, [1, 2, 5, 6], [(5, (.ints .u8 []), 1)]⟩
    (.seq (.seq (.region [
      ⟨(some 7), (.mv (.s 6)), none, []⟩,
      ⟨(some 8), (.bin .lss (.s 7) (.c (.int .i64 64))), none, [0]⟩] false)
    (.cond (.s 8)
     .skip
     (.pre ⟨0, [], false, [5], []⟩ (.exit 0))))
    (.seq (.block 1
     (.region [
       ⟨(some 11), (.mv (.s 5)), none, []⟩,
       ⟨(some 12), (.mv (.s 6)), none, []⟩,
       ⟨(some 13), (.iaa 64 1 (.s 2) (.s 12)), none, [1]⟩,
       ⟨(some 14), (.ldc (.s 13)), none, [2]⟩,
       ⟨(some 15), (.mv (.s 1)), none, []⟩,
       ⟨(some 16), (.bin .xor (.s 14) (.s 15)), none, [3, 4]⟩,
       ⟨(some 17), (.bsl 1 1 (.ints .u8 [0]) [(0, 1, (.s 16))]), none, [5]⟩,
       ⟨(some 18), (.app 1 1 (.s 11) (.s 17)), none, [0, 6]⟩,
       ⟨(some 5), (.mv (.s 18)), none, [7, 7, 0, 1, 2, 3, 4, 5, 6, 7]⟩] false))
    (.region [
      ⟨(some 9), (.mv (.s 6)), none, []⟩,
      ⟨(some 10), (.bin .add (.s 9) (.c (.int .i64 1))), none, [0]⟩,
      ⟨(some 6), (.mv (.s 10)), none, [1, 0, 1]⟩] false))))))
  (.seq (.region [
    ⟨(some 19), (.mv (.s 5)), none, []⟩,
    ⟨(some 4), (.mv (.s 19)), none, [0, 0]⟩] false)
  .ret)))), false, (some [(Sh.ar .u8), (Sh.int .u8)]), none, false⟩

/-- euphroe/hmac.pad -/
def k234 : Fun := ⟨2, 20, [0, 1, 4, 5, 6, 9, 10], [(.tmp 4)],
  (.seq (.region [
    ⟨(some 4), (.mv (.c .nils)), none, []⟩] false)
  (.seq (.region [
    ⟨(some 7), (.mv (.s 0)), none, []⟩,
    ⟨(some 8), (.call (.c (.fn 224 [])) [(.s 7)]), none, [0]⟩,
    ⟨(some 5), (.new (.ints .u8 [0, 0, 0, 0, 0, 0, 0, 0, 0, 0, 0, 0, 0, 0, 0, 0, 0, 0, 0, 0, 0, 0, 0, 0, 0, 0, 0, 0, 0, 0, 0, 0, 0, 0, 0, 0, 0, 0, 0, 0, 0, 0, 0, 0, 0, 0, 0, 0, 0, 0, 0, 0, 0, 0, 0, 0, 0, 0, 0, 0, 0, 0, 0, 0])), none, []⟩,
    ⟨none, (.stc 64 (.s 5) (.s 8)), none, [2, 1, 1, 0, 1, 2]⟩] false)
  (.seq (.seq (.region [
    ⟨(some 9), (.mv (.c (.int .i64 0))), none, []⟩] false)
  (.block 0
   (.loop ⟨0, [], false, [1, 5, 9], []⟩
    (.seq (.region [
      ⟨(some 10), (.bin .lss (.s 9) (.c (.int .i64 64))), none, []⟩] false)
    (.seq (.cond (.s 10)
     .skip
     (.pre ⟨0, [], false, [5], []⟩ (.exit 0)))
    (.seq (.block 1
     (.seq (.region [
       ⟨(some 11), (.mv (.s 9)), none, []⟩,
       ⟨(some 6), (.mv (.s 11)), none, [0, 0]⟩] false)
     (.region [
       ⟨(some 12), (.mv (.s 6)), none, []⟩,
       ⟨(some 13), (.iaa 64 1 (.s 5) (.s 12)), none, [0]⟩,
       ⟨(some 14), (.ldc (.s 13)), none, [1]⟩,
       ⟨(some 15), (.mv (.s 1)), none, []⟩,
       ⟨(some 16), (.bin .xor (.s 14) (.s 15)), none, [2, 3]⟩,
       ⟨(some 17), (.iaa 64 1 (.s 5) (.s 12)), none, [0, 0, 1, 2, 3, 4]⟩,
       ⟨none, (.stc 1 (.s 17) (.s 16)), none, [5, 4, 0, 1, 2, 3, 4]⟩] false)))
    (.region [
      ⟨(some 18), (.bin .add (.s 9) (.c (.int .i64 1))), none, []⟩,
      ⟨(some 9), (.mv (.s 18)), none, [0]⟩] false)))))))
  (.seq (.region [
    ⟨(some 19), (.sla 64 1 (.s 5) none none none), none, []⟩,
    ⟨(some 4), (.mv (.s 19)), none, [0, 0]⟩] false)
  .ret)))), false, (some [(Sh.sl (Sh.int .u8)), (Sh.int .u8)]), (some (Sh.sl (Sh.int .u8))), false⟩

/-- euphroe/sha256.spread -/
def k235 : Fun := ⟨1, 53, [0, 1, 2, 3, 4, 5, 7, 8, 11], [(.cell 2 64 true (some .u32))],
  (.seq (.region [
    ⟨(some 1), (.box (.s 0)), none, []⟩,
    ⟨(some 2), (.new (.ints .u32 [0, 0, 0, 0, 0, 0, 0, 0, 0, 0, 0, 0, 0, 0, 0, 0, 0, 0, 0, 0, 0, 0, 0, 0, 0, 0, 0, 0, 0, 0, 0, 0, 0, 0, 0, 0, 0, 0, 0, 0, 0, 0, 0, 0, 0, 0, 0, 0, 0, 0, 0, 0, 0, 0, 0, 0, 0, 0, 0, 0, 0, 0, 0, 0])), none, []⟩] false)
  (.seq (.region [
    ⟨(some 3), (.new (.ints .u32 [0, 0, 0, 0, 0, 0, 0, 0, 0, 0, 0, 0, 0, 0, 0, 0, 0, 0, 0, 0, 0, 0, 0, 0, 0, 0, 0, 0, 0, 0, 0, 0, 0, 0, 0, 0, 0, 0, 0, 0, 0, 0, 0, 0, 0, 0, 0, 0, 0, 0, 0, 0, 0, 0, 0, 0, 0, 0, 0, 0, 0, 0, 0, 0])), none, []⟩] false)
  (.seq (.seq (.region [
    ⟨(some 7), (.mv (.c (.int .i64 0))), none, []⟩] false)
  (.block 0
   (.loop ⟨0, [], false, [1, 2, 3, 7], []⟩
    (.seq (.region [
      ⟨(some 8), (.bin .lss (.s 7) (.c (.int .i64 64))), none, []⟩] false)
    (.seq (.cond (.s 8)
     .skip
     (.pre ⟨0, [], false, [2, 3], []⟩ (.exit 0)))
    (.seq (.block 1
     (.seq (.region [
       ⟨(some 9), (.mv (.s 7)), none, []⟩,
       ⟨(some 4), (.mv (.s 9)), none, [0, 0]⟩] false)
     (.seq (.seq (.region [
       ⟨(some 10), (.mv (.s 4)), none, []⟩,
       ⟨(some 11), (.bin .lss (.s 10) (.c (.int .i64 16))), none, [0]⟩] false)
     (.cond (.s 11)
      (.seq (.region [
        ⟨(some 13), (.mv (.s 4)), none, []⟩,
        ⟨(some 14), (.bin .mul (.c (.int .i64 4)) (.s 13)), none, [0]⟩,
        ⟨(some 15), (.mv (.s 4)), none, []⟩,
        ⟨(some 16), (.bin .mul (.c (.int .i64 4)) (.s 15)), none, [2]⟩,
        ⟨(some 17), (.bin .add (.s 16) (.c (.int .i64 4))), none, [3]⟩,
        ⟨(some 18), (.sla 64 1 (.s 1) (some (.s 14)) (some (.s 17)) none), none, [1, 4]⟩,
        ⟨(some 19), (.call (.c (.fn 21 [])) [(.s 18), (.c (.bool false))]), none, [5]⟩,
        ⟨(some 12), (.mv (.s 19)), none, [6]⟩,
        ⟨(some 20), (.ext (.s 12) 0), none, [7]⟩,
        ⟨(some 21), (.ext (.s 12) 1), none, [7]⟩,
        ⟨(some 5), (.mv (.s 20)), none, [8, 6, 0, 1, 2, 3, 4, 5, 6, 7, 8]⟩,
        ⟨(some 6), (.mv (.s 21)), none, [9, 10, 0, 1, 2, 3, 4, 5, 6, 7, 8, 9, 10]⟩] false)
      (.seq (.region [
        ⟨(some 22), (.mv (.s 4)), none, []⟩,
        ⟨(some 23), (.mv (.s 5)), none, []⟩,
        ⟨(some 24), (.cvi .u32 (.s 23)), none, [1]⟩,
        ⟨(some 25), (.iaa 64 1 (.s 3) (.s 22)), none, [0, 0, 1, 2]⟩,
        ⟨none, (.stc 1 (.s 25) (.s 24)), none, [3, 2, 0, 1, 2]⟩] false)
      (.pre ⟨0, [], false, [1, 2, 3, 7], []⟩ (.exit 1))))
      .skip))
     (.region [
       ⟨(some 26), (.mv (.s 4)), none, []⟩,
       ⟨(some 27), (.mv (.s 4)), none, []⟩,
       ⟨(some 28), (.bin .sub (.s 27) (.c (.int .i64 16))), none, [1]⟩,
       ⟨(some 29), (.iaa 64 1 (.s 3) (.s 28)), none, [2]⟩,
       ⟨(some 30), (.ldc (.s 29)), none, [3]⟩,
       ⟨(some 31), (.mv (.s 4)), none, []⟩,
       ⟨(some 32), (.bin .sub (.s 31) (.c (.int .i64 7))), none, [5]⟩,
       ⟨(some 33), (.iaa 64 1 (.s 3) (.s 32)), none, [6]⟩,
       ⟨(some 34), (.ldc (.s 33)), none, [7]⟩,
       ⟨(some 35), (.bin .add (.s 30) (.s 34)), none, [4, 8]⟩,
       ⟨(some 36), (.build (.ints .i64 [0, 0, 0]) [(0, 1, (.c (.int .i64 7))), (1, 1, (.c (.int .i64 18))), (2, 1, (.c (.int .i64 3)))]), none, []⟩,
       ⟨(some 37), (.mv (.s 4)), none, []⟩,
       ⟨(some 38), (.bin .sub (.s 37) (.c (.int .i64 15))), none, [11]⟩,
       ⟨(some 39), (.iaa 64 1 (.s 3) (.s 38)), none, [12]⟩,
       ⟨(some 40), (.ldc (.s 39)), none, [13]⟩,
       ⟨(some 41), (.call (.c (.fn 238 [])) [(.s 36), (.s 40)]), none, [10, 14]⟩,
       ⟨(some 42), (.bin .add (.s 35) (.s 41)), none, [9, 15]⟩,
       ⟨(some 43), (.build (.ints .i64 [0, 0, 0]) [(0, 1, (.c (.int .i64 17))), (1, 1, (.c (.int .i64 19))), (2, 1, (.c (.int .i64 10)))]), none, []⟩,
       ⟨(some 44), (.mv (.s 4)), none, []⟩,
       ⟨(some 45), (.bin .sub (.s 44) (.c (.int .i64 2))), none, [18]⟩,
       ⟨(some 46), (.iaa 64 1 (.s 3) (.s 45)), none, [19]⟩,
       ⟨(some 47), (.ldc (.s 46)), none, [20]⟩,
       ⟨(some 48), (.call (.c (.fn 238 [])) [(.s 43), (.s 47)]), none, [17, 21, 15]⟩,
       ⟨(some 49), (.bin .add (.s 42) (.s 48)), none, [16, 22]⟩,
       ⟨(some 50), (.iaa 64 1 (.s 3) (.s 26)), none, [0, 0, 1, 2, 3, 4, 5, 6, 7, 8, 9, 10, 11, 12, 13, 14, 15, 16, 17, 18, 19, 20, 21, 22, 23]⟩,
       ⟨none, (.stc 1 (.s 50) (.s 49)), none, [24, 23, 22, 0, 1, 2, 3, 4, 5, 6, 7, 8, 9, 10, 11, 12, 13, 14, 15, 16, 17, 18, 19, 20, 21, 22, 23]⟩] true))))
    (.region [
      ⟨(some 51), (.bin .add (.s 7) (.c (.int .i64 1))), none, []⟩,
      ⟨(some 7), (.mv (.s 51)), none, [0]⟩] false)))))))
  (.seq (.region [
    ⟨(some 52), (.lda 64 (some .u32) (.s 3)), none, []⟩,
    ⟨none, (.stc 64 (.s 2) (.s 52)), none, [0, 0]⟩] false)
  .ret)))), false, (some [(Sh.ar .u8)]), (some (Sh.ar .u32)), false⟩

/-- (euphroe/sha256.State).step -/
def k236 : Fun := ⟨2, 68, [0, 1, 2, 4, 5, 6, 7, 8, 9, 10, 11, 12], [(.cell 4 8 true (some .u32))],
  (.seq (.region [
    ⟨(some 2), (.box (.s 0)), none, []⟩,
    ⟨(some 4), (.new (.ints .u32 [0, 0, 0, 0, 0, 0, 0, 0])), none, []⟩] false)
  (.seq (.region [
    ⟨(some 13), (.iaa 8 1 (.s 2) (.c (.int .i64 0))), none, []⟩,
    ⟨(some 14), (.ldc (.s 13)), none, [0]⟩,
    ⟨(some 15), (.iaa 8 1 (.s 2) (.c (.int .i64 1))), none, []⟩,
    ⟨(some 16), (.ldc (.s 15)), none, [2]⟩,
    ⟨(some 17), (.iaa 8 1 (.s 2) (.c (.int .i64 2))), none, []⟩,
    ⟨(some 18), (.ldc (.s 17)), none, [4]⟩,
    ⟨(some 19), (.iaa 8 1 (.s 2) (.c (.int .i64 4))), none, []⟩,
    ⟨(some 20), (.ldc (.s 19)), none, [6]⟩,
    ⟨(some 21), (.iaa 8 1 (.s 2) (.c (.int .i64 5))), none, []⟩,
    ⟨(some 22), (.ldc (.s 21)), none, [8]⟩,
    ⟨(some 23), (.iaa 8 1 (.s 2) (.c (.int .i64 6))), none, []⟩,
    ⟨(some 24), (.ldc (.s 23)), none, [10]⟩,
    ⟨(some 5), (.mv (.s 14)), none, [1, 0, 1]⟩,
    ⟨(some 6), (.mv (.s 16)), none, [3, 12, 0, 1, 2, 3, 12]⟩,
    ⟨(some 7), (.mv (.s 18)), none, [5, 13, 0, 1, 2, 3, 4, 5, 12, 13]⟩,
    ⟨(some 8), (.mv (.s 20)), none, [7, 14, 0, 1, 2, 3, 4, 5, 6, 7, 12, 13, 14]⟩,
    ⟨(some 9), (.mv (.s 22)), none, [9, 15, 0, 1, 2, 3, 4, 5, 6, 7, 8, 9, 12, 13, 14, 15]⟩,
    ⟨(some 10), (.mv (.s 24)), none, [11, 16, 0, 1, 2, 3, 4, 5, 6, 7, 8, 9, 10, 11, 12, 13, 14, 15, 16]⟩] true)
  (.seq (.region [
    ⟨(some 25), (.iaa 8 1 (.s 2) (.c (.int .i64 7))), none, []⟩,
    ⟨(some 26), (.ldc (.s 25)), none, [0]⟩,
    ⟨(some 27), (.build (.ints .i64 [0, 0, 0]) [(0, 1, (.c (.int .i64 6))), (1, 1, (.c (.int .i64 11))), (2, 1, (.c (.int .i64 25)))]), none, []⟩,
    ⟨(some 28), (.mv (.s 8)), none, []⟩,
    ⟨(some 29), (.call (.c (.fn 239 [])) [(.s 27), (.s 28)]), none, [2, 3]⟩,
    ⟨(some 30), (.bin .add (.s 26) (.s 29)), none, [1, 4]⟩,
    ⟨(some 31), (.mv (.s 10)), none, []⟩,
    ⟨(some 32), (.mv (.s 8)), none, []⟩,
    ⟨(some 33), (.mv (.s 9)), none, []⟩,
    ⟨(some 34), (.mv (.s 10)), none, []⟩,
    ⟨(some 35), (.bin .xor (.s 33) (.s 34)), none, [8, 9]⟩,
    ⟨(some 36), (.bin .and (.s 32) (.s 35)), none, [7, 10]⟩,
    ⟨(some 37), (.bin .xor (.s 31) (.s 36)), none, [6, 11]⟩,
    ⟨(some 38), (.bin .add (.s 30) (.s 37)), none, [5, 12]⟩,
    ⟨(some 39), (.mv (.s 1)), none, []⟩,
    ⟨(some 40), (.bin .add (.s 38) (.s 39)), none, [13, 14]⟩,
    ⟨(some 11), (.mv (.s 40)), none, [15, 4, 0, 1, 2, 3, 4, 5, 6, 7, 8, 9, 10, 11, 12, 13, 14, 15]⟩] true)
  (.seq (.region [
    ⟨(some 41), (.build (.ints .i64 [0, 0, 0]) [(0, 1, (.c (.int .i64 2))), (1, 1, (.c (.int .i64 13))), (2, 1, (.c (.int .i64 22)))]), none, []⟩,
    ⟨(some 42), (.mv (.s 5)), none, []⟩,
    ⟨(some 43), (.call (.c (.fn 239 [])) [(.s 41), (.s 42)]), none, [0, 1]⟩,
    ⟨(some 44), (.mv (.s 5)), none, []⟩,
    ⟨(some 45), (.mv (.s 6)), none, []⟩,
    ⟨(some 46), (.bin .and (.s 44) (.s 45)), none, [3, 4]⟩,
    ⟨(some 47), (.mv (.s 7)), none, []⟩,
    ⟨(some 48), (.mv (.s 5)), none, []⟩,
    ⟨(some 49), (.mv (.s 6)), none, []⟩,
    ⟨(some 50), (.bin .or (.s 48) (.s 49)), none, [7, 8]⟩,
    ⟨(some 51), (.bin .and (.s 47) (.s 50)), none, [6, 9]⟩,
    ⟨(some 52), (.bin .or (.s 46) (.s 51)), none, [5, 10]⟩,
    ⟨(some 53), (.bin .add (.s 43) (.s 52)), none, [2, 11]⟩,
    ⟨(some 12), (.mv (.s 53)), none, [12, 2, 0, 1, 2, 3, 4, 5, 6, 7, 8, 9, 10, 11, 12]⟩] false)
  (.seq (.region [
    ⟨(some 54), (.mv (.s 11)), none, []⟩,
    ⟨(some 55), (.mv (.s 12)), none, []⟩,
    ⟨(some 56), (.bin .add (.s 54) (.s 55)), none, [0, 1]⟩,
    ⟨(some 57), (.mv (.s 5)), none, []⟩,
    ⟨(some 58), (.mv (.s 6)), none, []⟩,
    ⟨(some 59), (.mv (.s 7)), none, []⟩,
    ⟨(some 60), (.iaa 8 1 (.s 2) (.c (.int .i64 3))), none, []⟩,
    ⟨(some 61), (.ldc (.s 60)), none, [6]⟩,
    ⟨(some 62), (.mv (.s 11)), none, []⟩,
    ⟨(some 63), (.bin .add (.s 61) (.s 62)), none, [7, 8]⟩,
    ⟨(some 64), (.mv (.s 8)), none, []⟩,
    ⟨(some 65), (.mv (.s 9)), none, []⟩,
    ⟨(some 66), (.mv (.s 10)), none, []⟩,
    ⟨(some 67), (.build (.ints .u32 [0, 0, 0, 0, 0, 0, 0, 0]) [(0, 1, (.s 56)), (1, 1, (.s 57)), (2, 1, (.s 58)), (3, 1, (.s 59)), (4, 1, (.s 63)), (5, 1, (.s 64)), (6, 1, (.s 65)), (7, 1, (.s 66))]), none, [2, 3, 4, 5, 9, 10, 11, 12]⟩,
    ⟨none, (.stc 8 (.s 4) (.s 67)), none, [13, 0, 1, 2, 3, 4, 5, 6, 7, 8, 9, 10, 11, 12, 13]⟩] false)
  .ret))))), false, (some [(Sh.ar .u32), (Sh.int .u32)]), (some (Sh.ar .u32)), false⟩

/-- euphroe/euphroeref06.turn -/
def k237 : Fun := ⟨2, 13, [0, 1, 4], [(.tmp 4)],
  (.seq (.region [
    ⟨(some 4), (.mv (.c (.int .u32 0))), none, []⟩] false)
  (.seq (.region [
    ⟨(some 5), (.mv (.s 0)), none, []⟩,
    ⟨(some 6), (.mv (.s 1)), none, []⟩,
    ⟨(some 7), (.bin .shr (.s 5) (.s 6)), none, [0, 1]⟩,
    ⟨(some 8), (.mv (.s 0)), none, []⟩,
    ⟨(some 9), (.mv (.s 1)), none, []⟩,
    ⟨(some 10), (.bin .sub (.c (.int .i64 32)) (.s 9)), none, [4]⟩,
    ⟨(some 11), (.bin .shl (.s 8) (.s 10)), none, [3, 5]⟩,
    ⟨(some 12), (.bin .or (.s 7) (.s 11)), none, [2, 6]⟩,
    ⟨(some 4), (.mv (.s 12)), none, [7, 0, 1, 2, 3, 4, 5, 6, 7]⟩] true)
  .ret)), false, (some [(Sh.int .u32), (Sh.int .i64)]), (some (Sh.int .u32)), false⟩

/-- (euphroe/sha256.turns).small -/
def k238 : Fun := ⟨2, 21, [0, 1, 2, 4], [(.tmp 4)],
  (.seq (.region [
    ⟨(some 2), (.box (.s 0)), none, []⟩,
    ⟨(some 4), (.mv (.c (.int .u32 0))), none, []⟩] false)
  (.seq (.region [
    ⟨(some 5), (.mv (.s 1)), none, []⟩,
    ⟨(some 6), (.iaa 3 1 (.s 2) (.c (.int .i64 0))), none, []⟩,
    ⟨(some 7), (.ldc (.s 6)), none, [1]⟩,
    ⟨(some 8), (.un .neg (.s 7)), none, [2]⟩,
    ⟨(some 9), (.call (.c (.fn 195 [])) [(.s 5), (.s 8)]), none, [0, 3]⟩,
    ⟨(some 10), (.mv (.s 1)), none, []⟩,
    ⟨(some 11), (.iaa 3 1 (.s 2) (.c (.int .i64 1))), none, []⟩,
    ⟨(some 12), (.ldc (.s 11)), none, [6]⟩,
    ⟨(some 13), (.un .neg (.s 12)), none, [7]⟩,
    ⟨(some 14), (.call (.c (.fn 195 [])) [(.s 10), (.s 13)]), none, [5, 8, 4]⟩,
    ⟨(some 15), (.bin .xor (.s 9) (.s 14)), none, [4, 9]⟩,
    ⟨(some 16), (.mv (.s 1)), none, []⟩,
    ⟨(some 17), (.iaa 3 1 (.s 2) (.c (.int .i64 2))), none, []⟩,
    ⟨(some 18), (.ldc (.s 17)), none, [12]⟩,
    ⟨(some 19), (.bin .shr (.s 16) (.s 18)), none, [11, 13]⟩,
    ⟨(some 20), (.bin .xor (.s 15) (.s 19)), none, [10, 14]⟩,
    ⟨(some 4), (.mv (.s 20)), none, [15, 9, 0, 1, 2, 3, 4, 5, 6, 7, 8, 9, 10, 11, 12, 13, 14, 15]⟩] true)
  .ret)), false, (some [(Sh.ar .i64), (Sh.int .u32)]), (some (Sh.int .u32)), false⟩

/-- (euphroe/sha256.turns).great -/
def k239 : Fun := ⟨2, 22, [0, 1, 2, 4], [(.tmp 4)],
  (.seq (.region [
    ⟨(some 2), (.box (.s 0)), none, []⟩,
    ⟨(some 4), (.mv (.c (.int .u32 0))), none, []⟩] false)
  (.seq (.region [
    ⟨(some 5), (.mv (.s 1)), none, []⟩,
    ⟨(some 6), (.iaa 3 1 (.s 2) (.c (.int .i64 0))), none, []⟩,
    ⟨(some 7), (.ldc (.s 6)), none, [1]⟩,
    ⟨(some 8), (.un .neg (.s 7)), none, [2]⟩,
    ⟨(some 9), (.call (.c (.fn 195 [])) [(.s 5), (.s 8)]), none, [0, 3]⟩,
    ⟨(some 10), (.mv (.s 1)), none, []⟩,
    ⟨(some 11), (.iaa 3 1 (.s 2) (.c (.int .i64 1))), none, []⟩,
    ⟨(some 12), (.ldc (.s 11)), none, [6]⟩,
    ⟨(some 13), (.un .neg (.s 12)), none, [7]⟩,
    ⟨(some 14), (.call (.c (.fn 195 [])) [(.s 10), (.s 13)]), none, [5, 8, 4]⟩,
    ⟨(some 15), (.bin .xor (.s 9) (.s 14)), none, [4, 9]⟩,
    ⟨(some 16), (.mv (.s 1)), none, []⟩,
    ⟨(some 17), (.iaa 3 1 (.s 2) (.c (.int .i64 2))), none, []⟩,
    ⟨(some 18), (.ldc (.s 17)), none, [12]⟩,
    ⟨(some 19), (.un .neg (.s 18)), none, [13]⟩,
    ⟨(some 20), (.call (.c (.fn 195 [])) [(.s 16), (.s 19)]), none, [11, 14, 9]⟩,
    ⟨(some 21), (.bin .xor (.s 15) (.s 20)), none, [10, 15]⟩,
    ⟨(some 4), (.mv (.s 21)), none, [16, 15, 0, 1, 2, 3, 4, 5, 6, 7, 8, 9, 10, 11, 12, 13, 14, 15, 16]⟩] true)
  .ret)), false, (some [(Sh.ar .i64), (Sh.int .u32)]), (some (Sh.int .u32)), false⟩

/-- euphroe/euphroelaw13.PrfDerives -/
def k284 : Fun := ⟨3, 63, [0, 1, 2, 6, 7, 8, 9, 10, 11, 27], [(.tmp 6)],
  (.seq (.region [
    ⟨(some 6), (.mv (.c (.bool false))), none, []⟩] false)
  (.seq (.seq (.region [
    ⟨(some 12), (.mv (.s 0)), none, []⟩,
    ⟨(some 13), (.len false (.s 12)), none, [0]⟩,
    ⟨(some 14), (.bin .gtr (.s 13) (.c (.int .i64 200))), none, [1]⟩,
    ⟨(some 15), (.mv (.s 14)), none, [2]⟩,
    ⟨(some 16), (.mv (.s 1)), (some (15, false)), [3]⟩,
    ⟨(some 17), (.len false (.s 16)), (some (15, false)), [4, 3]⟩,
    ⟨(some 18), (.bin .gtr (.s 17) (.c (.int .i64 200))), (some (15, false)), [5, 3]⟩,
    ⟨(some 19), (.pick (.s 15) (.c (.bool true)) (.s 18)), none, [3, 6]⟩,
    ⟨(some 20), (.mv (.s 19)), none, [7, 3]⟩,
    ⟨(some 21), (.mv (.s 2)), (some (20, false)), [8]⟩,
    ⟨(some 22), (.bin .gtr (.s 21) (.c (.int .i64 700))), (some (20, false)), [9, 8]⟩,
    ⟨(some 23), (.mv (.s 22)), (some (20, false)), [10, 8, 8]⟩,
    ⟨(some 24), (.mv (.s 2)), (some (23, true)), [11]⟩,
    ⟨(some 25), (.bin .leq (.s 24) (.c (.int .i64 8160))), (some (23, true)), [12, 11]⟩,
    ⟨(some 26), (.pick (.s 23) (.s 25) (.c (.bool false))), (some (20, false)), [11, 13, 8]⟩,
    ⟨(some 27), (.pick (.s 20) (.c (.bool true)) (.s 26)), none, [8, 14]⟩] false)
  (.cond (.s 27)
   (.seq (.region [
     ⟨(some 28), (.call (.c (.fn 289 [])) []), none, []⟩,
     ⟨(some 6), (.mv (.s 28)), none, [0, 0, 0]⟩] false)
   .ret)
   .skip))
  (.seq (.region [
    ⟨(some 30), (.mv (.s 0)), none, []⟩,
    ⟨(some 31), (.mv (.s 1)), none, []⟩,
    ⟨(some 32), (.mv (.s 2)), none, []⟩,
    ⟨(some 33), (.call (.c (.fn 290 [])) [(.s 30), (.s 31), (.s 32)]), none, [0, 1, 2]⟩,
    ⟨(some 29), (.mv (.s 33)), none, [3]⟩,
    ⟨(some 34), (.ext (.s 29) 0), none, [4]⟩,
    ⟨(some 35), (.ext (.s 29) 1), none, [4]⟩,
    ⟨(some 7), (.mv (.s 34)), none, [5, 3, 0, 1, 2, 3, 4, 5]⟩,
    ⟨(some 8), (.mv (.s 35)), none, [6, 7, 0, 1, 2, 3, 4, 5, 6, 7]⟩] false)
  (.seq (.region [
    ⟨(some 37), (.mv (.s 0)), none, []⟩,
    ⟨(some 38), (.mv (.s 1)), none, []⟩,
    ⟨(some 39), (.mv (.s 2)), none, []⟩,
    ⟨(some 40), (.call (.c (.fn 291 [])) [(.s 37), (.s 38), (.s 39)]), none, [0, 1, 2]⟩,
    ⟨(some 36), (.mv (.s 40)), none, [3]⟩,
    ⟨(some 41), (.ext (.s 36) 0), none, [4]⟩,
    ⟨(some 42), (.ext (.s 36) 1), none, [4]⟩,
    ⟨(some 43), (.ext (.s 36) 2), none, [4]⟩,
    ⟨(some 9), (.mv (.s 41)), none, [5, 3, 0, 1, 2, 3, 4, 5]⟩,
    ⟨(some 10), (.mv (.s 42)), none, [6, 8, 0, 1, 2, 3, 4, 5, 6, 8]⟩,
    ⟨(some 11), (.mv (.s 43)), none, [7, 9, 0, 1, 2, 3, 4, 5, 6, 7, 8, 9]⟩] false)
  (.seq (.region [
    ⟨(some 44), (.mv (.s 7)), none, []⟩,
    ⟨(some 45), (.mv (.s 9)), none, []⟩,
    ⟨(some 46), (.call (.c (.fn 23 [])) [(.s 44), (.s 45)]), none, [0, 1]⟩,
    ⟨(some 47), (.mv (.s 46)), none, [2, 2]⟩,
    ⟨(some 48), (.mv (.s 8)), (some (47, true)), [3]⟩,
    ⟨(some 49), (.mv (.s 11)), (some (47, true)), [3]⟩,
    ⟨(some 50), (.bin .eql (.s 48) (.s 49)), (some (47, true)), [4, 5, 3]⟩,
    ⟨(some 51), (.pick (.s 47) (.s 50) (.c (.bool false))), none, [3, 6]⟩,
    ⟨(some 52), (.mv (.s 51)), none, [7, 3]⟩,
    ⟨(some 53), (.mv (.s 0)), (some (52, true)), [8]⟩,
    ⟨(some 54), (.mv (.s 1)), (some (52, true)), [8]⟩,
    ⟨(some 55), (.mv (.s 2)), (some (52, true)), [8]⟩,
    ⟨(some 56), (.call (.c (.fn 292 [])) [(.s 53), (.s 54), (.s 55)]), (some (52, true)), [9, 10, 11, 8, 8]⟩,
    ⟨(some 57), (.mv (.s 10)), (some (52, true)), [8]⟩,
    ⟨(some 58), (.bin .eql (.s 56) (.s 57)), (some (52, true)), [12, 13, 8]⟩,
    ⟨(some 59), (.pick (.s 52) (.s 58) (.c (.bool false))), none, [8, 14]⟩,
    ⟨(some 60), (.mv (.s 59)), none, [15, 12]⟩,
    ⟨(some 61), (.call (.c (.fn 289 [])) []), (some (60, true)), [16, 16]⟩,
    ⟨(some 62), (.pick (.s 60) (.s 61) (.c (.bool false))), none, [16, 17]⟩,
    ⟨(some 6), (.mv (.s 62)), none, [18, 17, 0, 1, 2, 3, 4, 5, 6, 7, 8, 9, 10, 11, 12, 13, 14, 15, 16, 17, 18]⟩] false)
  .ret))))), false, (some [(Sh.sl (Sh.int .u8)), (Sh.sl (Sh.int .u8)), (Sh.int .i64)]), (some Sh.bool), false⟩

/-- euphroe/euphroelaw13.PrfBinds -/
def k285 : Fun := ⟨3, 53, [0, 1, 2, 3, 6, 7, 8, 16], [(.tmp 6)],
  (.seq (.region [
    ⟨(some 3), (.box (.s 0)), none, []⟩,
    ⟨(some 6), (.mv (.c (.bool false))), none, []⟩] false)
  (.seq (.seq (.region [
    ⟨(some 9), (.mv (.s 1)), none, []⟩,
    ⟨(some 10), (.len false (.s 9)), none, [0]⟩,
    ⟨(some 11), (.bin .gtr (.s 10) (.c (.int .i64 300))), none, [1]⟩,
    ⟨(some 12), (.mv (.s 11)), none, [2]⟩,
    ⟨(some 13), (.mv (.s 2)), (some (12, false)), [3]⟩,
    ⟨(some 14), (.len false (.s 13)), (some (12, false)), [4, 3]⟩,
    ⟨(some 15), (.bin .gtr (.s 14) (.c (.int .i64 100))), (some (12, false)), [5, 3]⟩,
    ⟨(some 16), (.pick (.s 12) (.c (.bool true)) (.s 15)), none, [3, 6]⟩] false)
  (.cond (.s 16)
   (.seq (.region [
     ⟨(some 17), (.call (.c (.fn 289 [])) []), none, []⟩,
     ⟨(some 6), (.mv (.s 17)), none, [0, 0, 0]⟩] false)
   .ret)
   .skip))
  (.seq (.region [
    ⟨(some 18), (.lda 32 (some .u8) (.s 3)), none, []⟩,
    ⟨(some 19), (.call (.c (.fn 293 [])) [(.s 18)]), none, [0]⟩,
    ⟨(some 7), (.new (.ints .u8 [0, 0, 0, 0, 0, 0, 0, 0, 0, 0, 0, 0, 0, 0, 0, 0, 0, 0, 0, 0, 0, 0, 0, 0, 0, 0, 0, 0, 0, 0, 0, 0])), none, []⟩,
    ⟨none, (.stc 32 (.s 7) (.s 19)), none, [2, 1, 1, 0, 1, 2]⟩] false)
  (.seq (.region [
    ⟨(some 20), (.sla 32 1 (.s 7) none none none), none, []⟩,
    ⟨(some 21), (.mv (.s 1)), none, []⟩,
    ⟨(some 22), (.call (.c (.fn 222 [])) [(.s 20), (.s 21)]), none, [0, 1]⟩,
    ⟨(some 8), (.new (.ints .u8 [0, 0, 0, 0, 0, 0, 0, 0, 0, 0, 0, 0, 0, 0, 0, 0, 0, 0, 0, 0, 0, 0, 0, 0, 0, 0, 0, 0, 0, 0, 0, 0])), none, []⟩,
    ⟨none, (.stc 32 (.s 8) (.s 22)), none, [3, 2, 2, 0, 1, 2, 3]⟩] false)
  (.seq (.region [
    ⟨(some 23), (.lda 32 (some .u8) (.s 7)), none, []⟩,
    ⟨(some 24), (.lda 32 (some .u8) (.s 3)), none, []⟩,
    ⟨(some 25), (.call (.c (.fn 294 [])) [(.s 24)]), none, [1]⟩,
    ⟨(some 26), (.eqa 32 false (.s 23) (.s 25)), none, [0, 2]⟩,
    ⟨(some 27), (.mv (.s 26)), none, [3, 2]⟩,
    ⟨(some 28), (.lda 32 (some .u8) (.s 7)), (some (27, true)), [4]⟩,
    ⟨(some 29), (.mv (.s 1)), (some (27, true)), [4]⟩,
    ⟨(some 30), (.call (.c (.fn 295 [])) [(.s 28), (.s 29)]), (some (27, true)), [5, 6, 4, 4]⟩,
    ⟨(some 31), (.lda 32 (some .u8) (.s 8)), (some (27, true)), [4]⟩,
    ⟨(some 32), (.eqa 32 false (.s 30) (.s 31)), (some (27, true)), [7, 8, 4]⟩,
    ⟨(some 33), (.pick (.s 27) (.s 32) (.c (.bool false))), none, [4, 9]⟩,
    ⟨(some 34), (.mv (.s 33)), none, [10, 7]⟩,
    ⟨(some 35), (.lda 32 (some .u8) (.s 7)), (some (34, true)), [11]⟩,
    ⟨(some 36), (.mv (.s 1)), (some (34, true)), [11]⟩,
    ⟨(some 37), (.mv (.s 2)), (some (34, true)), [11]⟩,
    ⟨(some 38), (.call (.c (.fn 296 [])) [(.s 35), (.s 36), (.s 37)]), (some (34, true)), [12, 13, 14, 11, 11]⟩,
    ⟨(some 39), (.sla 32 1 (.s 8) none none none), (some (34, true)), [11]⟩,
    ⟨(some 40), (.mv (.s 2)), (some (34, true)), [11]⟩,
    ⟨(some 41), (.call (.c (.fn 23 [])) [(.s 39), (.s 40)]), (some (34, true)), [16, 17, 15, 11]⟩,
    ⟨(some 42), (.eqn .b false (.s 38) (.s 41)), (some (34, true)), [15, 18, 11]⟩,
    ⟨(some 43), (.pick (.s 34) (.s 42) (.c (.bool false))), none, [11, 19]⟩,
    ⟨(some 44), (.mv (.s 43)), none, [20, 18]⟩,
    ⟨(some 45), (.lda 32 (some .u8) (.s 7)), (some (44, true)), [21]⟩,
    ⟨(some 46), (.mv (.s 1)), (some (44, true)), [21]⟩,
    ⟨(some 47), (.sla 32 1 (.s 8) none none none), (some (44, true)), [21]⟩,
    ⟨(some 48), (.call (.c (.fn 296 [])) [(.s 45), (.s 46), (.s 47)]), (some (44, true)), [22, 23, 24, 21, 21]⟩,
    ⟨(some 49), (.pick (.s 44) (.s 48) (.c (.bool false))), none, [21, 25]⟩,
    ⟨(some 50), (.mv (.s 49)), none, [26, 25]⟩,
    ⟨(some 51), (.call (.c (.fn 289 [])) []), (some (50, true)), [27, 27]⟩,
    ⟨(some 52), (.pick (.s 50) (.s 51) (.c (.bool false))), none, [27, 28]⟩,
    ⟨(some 6), (.mv (.s 52)), none, [29, 28, 0, 1, 2, 3, 4, 5, 6, 7, 8, 9, 10, 11, 12, 13, 14, 15, 16, 17, 18, 19, 20, 21, 22, 23, 24, 25, 26, 27, 28, 29]⟩] true)
  .ret))))), false, (some [(Sh.ar .u8), (Sh.sl (Sh.int .u8)), (Sh.sl (Sh.int .u8))]), (some Sh.bool), false⟩

/-- euphroe/euphroelaw13.PrfLong -/
def k286 : Fun := ⟨3, 99, [0, 1, 2, 5, 6, 7, 8, 9, 10, 11, 12, 13, 14, 22], [(.tmp 6)],
  (.seq (.region [
    ⟨(some 5), (.box (.s 2)), none, []⟩,
    ⟨(some 6), (.mv (.c (.bool false))), none, []⟩] false)
  (.seq (.seq (.region [
    ⟨(some 15), (.mv (.s 0)), none, []⟩,
    ⟨(some 16), (.len false (.s 15)), none, [0]⟩,
    ⟨(some 17), (.bin .gtr (.s 16) (.c (.int .i64 200))), none, [1]⟩,
    ⟨(some 18), (.mv (.s 17)), none, [2]⟩,
    ⟨(some 19), (.mv (.s 1)), (some (18, false)), [3]⟩,
    ⟨(some 20), (.len false (.s 19)), (some (18, false)), [4, 3]⟩,
    ⟨(some 21), (.bin .gtr (.s 20) (.c (.int .i64 200))), (some (18, false)), [5, 3]⟩,
    ⟨(some 22), (.pick (.s 18) (.c (.bool true)) (.s 21)), none, [3, 6]⟩] false)
  (.cond (.s 22)
   (.seq (.region [
     ⟨(some 23), (.call (.c (.fn 289 [])) []), none, []⟩,
     ⟨(some 6), (.mv (.s 23)), none, [0, 0, 0]⟩] false)
   .ret)
   .skip))
  (.seq (.region [
    ⟨(some 24), (.iaa 2 1 (.s 5) (.c (.int .i64 0))), none, []⟩,
    ⟨(some 25), (.ldc (.s 24)), none, [0]⟩,
    ⟨(some 26), (.bin .rem (.s 25) (.c (.int .u16 300))), none, [1]⟩,
    ⟨(some 27), (.cvi .i64 (.s 26)), none, [2]⟩,
    ⟨(some 28), (.bin .add (.c (.int .i64 1)) (.s 27)), none, [3]⟩,
    ⟨(some 29), (.iaa 2 1 (.s 5) (.c (.int .i64 1))), none, []⟩,
    ⟨(some 30), (.ldc (.s 29)), none, [5]⟩,
    ⟨(some 31), (.bin .rem (.s 30) (.c (.int .u16 300))), none, [6]⟩,
    ⟨(some 32), (.cvi .i64 (.s 31)), none, [7]⟩,
    ⟨(some 33), (.bin .add (.c (.int .i64 1)) (.s 32)), none, [8]⟩,
    ⟨(some 7), (.mv (.s 28)), none, [4, 0, 1, 2, 3, 4]⟩,
    ⟨(some 8), (.mv (.s 33)), none, [9, 10, 0, 1, 2, 3, 4, 5, 6, 7, 8, 9, 10]⟩] true)
  (.seq (.region [
    ⟨(some 35), (.mv (.s 0)), none, []⟩,
    ⟨(some 36), (.mv (.s 1)), none, []⟩,
    ⟨(some 37), (.mv (.s 7)), none, []⟩,
    ⟨(some 38), (.call (.c (.fn 290 [])) [(.s 35), (.s 36), (.s 37)]), none, [0, 1, 2]⟩,
    ⟨(some 34), (.mv (.s 38)), none, [3]⟩,
    ⟨(some 39), (.ext (.s 34) 0), none, [4]⟩,
    ⟨(some 40), (.ext (.s 34) 1), none, [4]⟩,
    ⟨(some 9), (.mv (.s 39)), none, [5, 3, 0, 1, 2, 3, 4, 5]⟩,
    ⟨(some 10), (.mv (.s 40)), none, [6, 7, 0, 1, 2, 3, 4, 5, 6, 7]⟩] false)
  (.seq (.region [
    ⟨(some 42), (.mv (.s 0)), none, []⟩,
    ⟨(some 43), (.mv (.s 1)), none, []⟩,
    ⟨(some 44), (.mv (.s 7)), none, []⟩,
    ⟨(some 45), (.call (.c (.fn 290 [])) [(.s 42), (.s 43), (.s 44)]), none, [0, 1, 2]⟩,
    ⟨(some 41), (.mv (.s 45)), none, [3]⟩,
    ⟨(some 46), (.ext (.s 41) 0), none, [4]⟩,
    ⟨(some 47), (.ext (.s 41) 1), none, [4]⟩,
    ⟨(some 11), (.mv (.s 46)), none, [5, 3, 0, 1, 2, 3, 4, 5]⟩,
    ⟨(some 12), (.mv (.s 47)), none, [6, 7, 0, 1, 2, 3, 4, 5, 6, 7]⟩] false)
  (.seq (.region [
    ⟨(some 48), (.mv (.s 0)), none, []⟩,
    ⟨(some 49), (.mv (.s 1)), none, []⟩,
    ⟨(some 50), (.mv (.s 7)), none, []⟩,
    ⟨(some 51), (.call (.c (.fn 292 [])) [(.s 48), (.s 49), (.s 50)]), none, [0, 1, 2]⟩,
    ⟨(some 52), (.mv (.s 0)), none, []⟩,
    ⟨(some 53), (.mv (.s 1)), none, []⟩,
    ⟨(some 54), (.mv (.s 8)), none, []⟩,
    ⟨(some 55), (.call (.c (.fn 292 [])) [(.s 52), (.s 53), (.s 54)]), none, [4, 5, 6, 3]⟩,
    ⟨(some 13), (.mv (.s 51)), none, [3, 7, 0, 1, 2, 3]⟩,
    ⟨(some 14), (.mv (.s 55)), none, [7, 8, 0, 1, 2, 3, 4, 5, 6, 7, 8]⟩] false)
  (.seq (.region [
    ⟨(some 56), (.mv (.s 10)), none, []⟩,
    ⟨(some 57), (.bin .eql (.s 56) (.c (.int .i64 0))), none, [0]⟩,
    ⟨(some 58), (.mv (.s 57)), none, [1]⟩,
    ⟨(some 59), (.mv (.s 12)), (some (58, true)), [2]⟩,
    ⟨(some 60), (.bin .eql (.s 59) (.c (.int .i64 0))), (some (58, true)), [3, 2]⟩,
    ⟨(some 61), (.pick (.s 58) (.s 60) (.c (.bool false))), none, [2, 4]⟩,
    ⟨(some 62), (.mv (.s 61)), none, [5, 2]⟩,
    ⟨(some 63), (.mv (.s 9)), (some (62, true)), [6]⟩,
    ⟨(some 64), (.len false (.s 63)), (some (62, true)), [7, 6]⟩,
    ⟨(some 65), (.mv (.s 7)), (some (62, true)), [6]⟩,
    ⟨(some 66), (.bin .eql (.s 64) (.s 65)), (some (62, true)), [8, 9, 6]⟩,
    ⟨(some 67), (.pick (.s 62) (.s 66) (.c (.bool false))), none, [6, 10]⟩,
    ⟨(some 68), (.mv (.s 67)), none, [11, 6]⟩,
    ⟨(some 69), (.mv (.s 9)), (some (68, true)), [12]⟩,
    ⟨(some 70), (.mv (.s 11)), (some (68, true)), [12]⟩,
    ⟨(some 71), (.call (.c (.fn 23 [])) [(.s 69), (.s 70)]), (some (68, true)), [13, 14, 12, 12]⟩,
    ⟨(some 72), (.pick (.s 68) (.s 71) (.c (.bool false))), none, [12, 15]⟩,
    ⟨(some 73), (.mv (.s 72)), none, [16, 15]⟩,
    ⟨(some 74), (.mv (.s 8)), (some (73, true)), [17]⟩,
    ⟨(some 75), (.mv (.s 7)), (some (73, true)), [17]⟩,
    ⟨(some 76), (.bin .lss (.s 74) (.s 75)), (some (73, true)), [18, 19, 17]⟩,
    ⟨(some 77), (.mv (.s 76)), (some (73, true)), [20, 17, 17]⟩,
    ⟨(some 78), (.mv (.s 14)), (some (77, false)), [21]⟩,
    ⟨(some 79), (.mv (.s 13)), (some (77, false)), [21]⟩,
    ⟨(some 80), (.bin .geq (.s 78) (.s 79)), (some (77, false)), [22, 23, 21]⟩,
    ⟨(some 81), (.pick (.s 77) (.c (.bool true)) (.s 80)), (some (73, true)), [21, 24, 17]⟩,
    ⟨(some 82), (.pick (.s 73) (.s 81) (.c (.bool false))), none, [17, 25]⟩,
    ⟨(some 83), (.mv (.s 82)), none, [26, 21]⟩,
    ⟨(some 84), (.mv (.s 13)), (some (83, true)), [27]⟩,
    ⟨(some 85), (.bin .mul (.c (.int .i64 32)) (.s 84)), (some (83, true)), [28, 27]⟩,
    ⟨(some 86), (.mv (.s 7)), (some (83, true)), [27]⟩,
    ⟨(some 87), (.bin .geq (.s 85) (.s 86)), (some (83, true)), [29, 30, 27]⟩,
    ⟨(some 88), (.pick (.s 83) (.s 87) (.c (.bool false))), none, [27, 31]⟩,
    ⟨(some 89), (.mv (.s 88)), none, [32, 27]⟩,
    ⟨(some 90), (.mv (.s 13)), (some (89, true)), [33]⟩,
    ⟨(some 91), (.bin .mul (.c (.int .i64 32)) (.s 90)), (some (89, true)), [34, 33]⟩,
    ⟨(some 92), (.mv (.s 7)), (some (89, true)), [33]⟩,
    ⟨(some 93), (.bin .add (.s 92) (.c (.int .i64 32))), (some (89, true)), [36, 33]⟩,
    ⟨(some 94), (.bin .lss (.s 91) (.s 93)), (some (89, true)), [35, 37, 33]⟩,
    ⟨(some 95), (.pick (.s 89) (.s 94) (.c (.bool false))), none, [33, 38]⟩,
    ⟨(some 96), (.mv (.s 95)), none, [39, 33]⟩,
    ⟨(some 97), (.call (.c (.fn 289 [])) []), (some (96, true)), [40, 40]⟩,
    ⟨(some 98), (.pick (.s 96) (.s 97) (.c (.bool false))), none, [40, 41]⟩,
    ⟨(some 6), (.mv (.s 98)), none, [42, 41, 0, 1, 2, 3, 4, 5, 6, 7, 8, 9, 10, 11, 12, 13, 14, 15, 16, 17, 18, 19, 20, 21, 22, 23, 24, 25, 26, 27, 28, 29, 30, 31, 32, 33, 34, 35, 36, 37, 38, 39, 40, 41, 42]⟩] false)
  .ret))))))), false, (some [(Sh.sl (Sh.int .u8)), (Sh.sl (Sh.int .u8)), (Sh.ar .u16)]), (some Sh.bool), false⟩

/-- euphroe/euphroelaw13.alive -/
def k289 : Fun := ⟨0, 36, [0, 1, 2, 3, 4], [(.tmp 0)],
  (.seq (.region [
    ⟨(some 0), (.mv (.c (.bool false))), none, []⟩] false)
  (.seq (.region [
    ⟨(some 6), (.call (.c (.fn 290 [])) [(.c .nils), (.c .nils), (.c (.int .i64 33))]), none, []⟩,
    ⟨(some 5), (.mv (.s 6)), none, [0]⟩,
    ⟨(some 7), (.ext (.s 5) 0), none, [1]⟩,
    ⟨(some 8), (.ext (.s 5) 1), none, [1]⟩,
    ⟨(some 1), (.mv (.s 7)), none, [2, 0, 0, 1, 2]⟩,
    ⟨(some 2), (.mv (.s 8)), none, [3, 4, 0, 1, 2, 3, 4]⟩] false)
  (.seq (.region [
    ⟨(some 9), (.build (.ints .u8 [0, 0, 0, 0, 0, 0, 0, 0, 0, 0, 0, 0, 0, 0, 0, 0, 0, 0, 0, 0, 0, 0, 0, 0, 0, 0, 0, 0, 0, 0, 0, 0]) []), none, []⟩,
    ⟨(some 10), (.call (.c (.fn 293 [])) [(.s 9)]), none, [0]⟩,
    ⟨(some 3), (.new (.ints .u8 [0, 0, 0, 0, 0, 0, 0, 0, 0, 0, 0, 0, 0, 0, 0, 0, 0, 0, 0, 0, 0, 0, 0, 0, 0, 0, 0, 0, 0, 0, 0, 0])), none, []⟩,
    ⟨none, (.stc 32 (.s 3) (.s 10)), none, [2, 1, 1, 0, 1, 2]⟩] false)
  (.seq (.region [
    ⟨(some 11), (.lda 32 (some .u8) (.s 3)), none, []⟩,
    ⟨(some 12), (.call (.c (.fn 295 [])) [(.s 11), (.c .nils)]), none, [0]⟩,
    ⟨(some 4), (.new (.ints .u8 [0, 0, 0, 0, 0, 0, 0, 0, 0, 0, 0, 0, 0, 0, 0, 0, 0, 0, 0, 0, 0, 0, 0, 0, 0, 0, 0, 0, 0, 0, 0, 0])), none, []⟩,
    ⟨none, (.stc 32 (.s 4) (.s 12)), none, [2, 1, 1, 0, 1, 2]⟩] false)
  (.seq (.region [
    ⟨(some 13), (.mv (.s 1)), none, []⟩,
    ⟨(some 14), (.len false (.s 13)), none, [0]⟩,
    ⟨(some 15), (.bin .eql (.s 14) (.c (.int .i64 33))), none, [1]⟩,
    ⟨(some 16), (.mv (.s 15)), none, [2]⟩,
    ⟨(some 17), (.mv (.s 2)), (some (16, true)), [3]⟩,
    ⟨(some 18), (.bin .eql (.s 17) (.c (.int .i64 0))), (some (16, true)), [4, 3]⟩,
    ⟨(some 19), (.pick (.s 16) (.s 18) (.c (.bool false))), none, [3, 5]⟩,
    ⟨(some 20), (.mv (.s 19)), none, [6, 3]⟩,
    ⟨(some 21), (.lda 32 (some .u8) (.s 3)), (some (20, true)), [7]⟩,
    ⟨(some 22), (.build (.ints .u8 [0, 0, 0, 0, 0, 0, 0, 0, 0, 0, 0, 0, 0, 0, 0, 0, 0, 0, 0, 0, 0, 0, 0, 0, 0, 0, 0, 0, 0, 0, 0, 0]) []), (some (20, true)), [7]⟩,
    ⟨(some 23), (.eqa 32 true (.s 21) (.s 22)), (some (20, true)), [8, 9, 7]⟩,
    ⟨(some 24), (.pick (.s 20) (.s 23) (.c (.bool false))), none, [7, 10]⟩,
    ⟨(some 25), (.mv (.s 24)), none, [11, 7]⟩,
    ⟨(some 26), (.lda 32 (some .u8) (.s 3)), (some (25, true)), [12]⟩,
    ⟨(some 27), (.sla 32 1 (.s 4) none none none), (some (25, true)), [12]⟩,
    ⟨(some 28), (.call (.c (.fn 296 [])) [(.s 26), (.c .nils), (.s 27)]), (some (25, true)), [13, 14, 12, 12]⟩,
    ⟨(some 29), (.pick (.s 25) (.s 28) (.c (.bool false))), none, [12, 15]⟩,
    ⟨(some 30), (.mv (.s 29)), none, [16, 15]⟩,
    ⟨(some 31), (.call (.c (.fn 292 [])) [(.c .nils), (.c .nils), (.c (.int .i64 33))]), (some (30, true)), [17, 17]⟩,
    ⟨(some 32), (.bin .eql (.s 31) (.c (.int .i64 2))), (some (30, true)), [18, 17]⟩,
    ⟨(some 33), (.pick (.s 30) (.s 32) (.c (.bool false))), none, [17, 19]⟩,
    ⟨(some 34), (.mv (.s 33)), none, [20, 18]⟩,
    ⟨(some 35), (.pick (.s 34) (.c (.bool true)) (.c (.bool false))), none, [21]⟩,
    ⟨(some 0), (.mv (.s 35)), none, [22, 21, 0, 1, 2, 3, 4, 5, 6, 7, 8, 9, 10, 11, 12, 13, 14, 15, 16, 17, 18, 19, 20, 21, 22]⟩] true)
  .ret))))), false, (some []), (some Sh.bool), false⟩

/-- euphroe/prf.Derive -/
def k290 : Fun := ⟨3, 42, [0, 1, 2, 3, 4, 6, 7, 8, 9, 11, 12, 13, 14, 18, 30, 31, 32], [(.tmp 6), (.tmp 7)],
  (.seq (.region [
    ⟨(some 3), (.box (.s 0)), none, []⟩,
    ⟨(some 4), (.box (.s 1)), none, []⟩,
    ⟨(some 6), (.mv (.c .nils)), none, []⟩,
    ⟨(some 7), (.mv (.c (.int .i64 0))), none, [2]⟩] false)
  (.seq (.seq (.region [
    ⟨(some 15), (.mv (.s 2)), none, []⟩,
    ⟨(some 16), (.call (.c (.fn 307 [])) [(.s 15)]), none, [0]⟩,
    ⟨(some 8), (.mv (.s 16)), none, [1, 1, 0, 1]⟩] false)
  (.seq (.region [
    ⟨(some 17), (.mv (.s 8)), none, []⟩,
    ⟨(some 18), (.bin .neq (.s 17) (.c (.int .i64 0))), none, [0]⟩] false)
  (.cond (.s 18)
   (.seq (.region [
     ⟨(some 19), (.mv (.s 8)), none, []⟩,
     ⟨(some 6), (.mv (.c .nils)), none, []⟩,
     ⟨(some 7), (.mv (.s 19)), none, [0, 1, 0, 1]⟩] false)
   .ret)
   .skip)))
  (.seq (.region [
    ⟨(some 21), (.mv (.s 2)), none, []⟩,
    ⟨(some 22), (.cvi .u64 (.s 21)), none, [0]⟩,
    ⟨(some 23), (.call (.c (.fn 19 [])) [(.s 22), (.c (.int .i64 2)), (.c (.bool true))]), none, [1]⟩,
    ⟨(some 20), (.mv (.s 23)), none, [2]⟩,
    ⟨(some 24), (.ext (.s 20) 0), none, [3]⟩,
    ⟨(some 25), (.ext (.s 20) 1), none, [3]⟩,
    ⟨(some 9), (.new (.vals [.nils])), none, []⟩,
    ⟨none, (.stc 1 (.s 9) (.s 24)), none, [6, 4, 2, 0, 1, 2, 3, 4, 6]⟩,
    ⟨(some 10), (.mv (.s 25)), none, [5, 7, 0, 1, 2, 3, 4, 5, 6, 7]⟩] false)
  (.seq (.region [
    ⟨(some 11), (.new (.vals [.nils])), none, []⟩,
    ⟨(some 12), (.new (.vals [.nils])), none, []⟩] false)
  (.seq (.region [
    ⟨(some 26), (.mkf 308 [(.s 3), (.s 11), (.s 4), (.s 9), (.s 12)]), none, []⟩,
    ⟨(some 13), (.mv (.s 26)), none, [0, 0]⟩] false)
  (.seq (.seq (.region [
    ⟨(some 27), (.ldc (.s 3)), none, []⟩,
    ⟨(some 28), (.ldc (.s 4)), none, []⟩,
    ⟨(some 29), (.mv (.s 2)), none, []⟩,
    ⟨(some 30), (.call (.c (.fn 292 [])) [(.s 27), (.s 28), (.s 29)]), none, [0, 1, 2]⟩,
    ⟨(some 31), (.mv (.c (.int .i64 0))), none, []⟩] false)
  (.block 0
   (.loop ⟨0, [(11, (Sh.sl (Sh.int .u8)))], false, [2, 11, 12, 13, 30, 31], [(12, (.ints .u8 []), 1)]⟩
    (.seq (.region [
      ⟨(some 32), (.bin .lss (.s 31) (.s 30)), none, []⟩] false)
    (.seq (.cond (.s 32)
     .skip
     (.pre ⟨0, [], false, [2, 11, 12], []⟩ (.exit 0)))
    (.seq (.block 1
     (.seq (.region [
       ⟨(some 33), (.mv (.s 31)), none, []⟩,
       ⟨(some 14), (.mv (.s 33)), none, [0, 0]⟩] false)
     (.region [
       ⟨(some 34), (.mv (.s 13)), none, []⟩,
       ⟨(some 35), (.mv (.s 14)), none, []⟩,
       ⟨(some 36), (.bin .add (.s 35) (.c (.int .i64 1))), none, [1]⟩,
       ⟨(some 37), (.call (.s 34) [(.s 36)]), none, [0, 2]⟩] false)))
    (.region [
      ⟨(some 38), (.bin .add (.s 31) (.c (.int .i64 1))), none, []⟩,
      ⟨(some 31), (.mv (.s 38)), none, [0]⟩] false)))))))
  (.seq (.region [
    ⟨(some 39), (.ldc (.s 12)), none, []⟩,
    ⟨(some 40), (.mv (.s 2)), none, []⟩,
    ⟨(some 41), (.sls 1 (.s 39) none (some (.s 40)) none), none, [0, 1]⟩,
    ⟨(some 6), (.mv (.s 41)), none, [2, 0, 1, 2]⟩,
    ⟨(some 7), (.mv (.c (.int .i64 0))), none, [3, 0, 1, 2, 3]⟩] false)
  .ret))))))), false, (some [(Sh.sl (Sh.int .u8)), (Sh.sl (Sh.int .u8)), (Sh.int .i64)]), (some (Sh.tu (Sh.pr (Sh.sl (Sh.int .u8)) (Sh.int .i64)))), false⟩

/-- euphroe/euphroeref13.Derive -/
def k291 : Fun := ⟨3, 50, [0, 1, 2, 6, 7, 8, 9, 10, 11, 12, 13, 15, 17, 21], [(.tmp 6), (.tmp 7), (.tmp 8)],
  (.seq (.region [
    ⟨(some 6), (.mv (.c .nils)), none, []⟩,
    ⟨(some 7), (.mv (.c (.int .i64 0))), none, [0]⟩,
    ⟨(some 8), (.mv (.c (.int .i64 0))), none, [1]⟩] false)
  (.seq (.seq (.region [
    ⟨(some 14), (.mv (.s 2)), none, []⟩,
    ⟨(some 15), (.bin .lss (.s 14) (.c (.int .i64 1))), none, [0]⟩] false)
  (.cond (.s 15)
   (.seq (.region [
     ⟨(some 6), (.mv (.c .nils)), none, []⟩,
     ⟨(some 7), (.mv (.c (.int .i64 0))), none, [0, 0]⟩,
     ⟨(some 8), (.mv (.c (.int .i64 1))), none, [1, 0, 1]⟩] false)
   .ret)
   .skip))
  (.seq (.seq (.region [
    ⟨(some 16), (.mv (.s 2)), none, []⟩,
    ⟨(some 17), (.bin .gtr (.s 16) (.c (.int .i64 8160))), none, [0]⟩] false)
  (.cond (.s 17)
   (.seq (.region [
     ⟨(some 6), (.mv (.c .nils)), none, []⟩,
     ⟨(some 7), (.mv (.c (.int .i64 0))), none, [0, 0]⟩,
     ⟨(some 8), (.mv (.c (.int .i64 8))), none, [1, 0, 1]⟩] false)
   .ret)
   .skip))
  (.seq (.region [
    ⟨(some 9), (.mv (.c .nils)), none, []⟩,
    ⟨(some 10), (.mv (.c .nils)), none, [0]⟩] false)
  (.seq (.region [
    ⟨(some 11), (.mv (.c (.int .i64 0))), none, []⟩] false)
  (.seq (.block 0
   (.loop ⟨0, [(10, (Sh.sl (Sh.int .u8)))], false, [0, 1, 2, 9, 10, 11], [(9, (.ints .u8 []), 1)]⟩
    (.seq (.seq (.region [
      ⟨(some 18), (.mv (.s 9)), none, []⟩,
      ⟨(some 19), (.len false (.s 18)), none, [0]⟩,
      ⟨(some 20), (.mv (.s 2)), none, []⟩,
      ⟨(some 21), (.bin .lss (.s 19) (.s 20)), none, [1, 2]⟩] false)
    (.cond (.s 21)
     .skip
     (.pre ⟨0, [], false, [2, 9, 11], []⟩ (.exit 0))))
    (.block 1
     (.seq (.region [
       ⟨(some 22), (.mv (.s 11)), none, []⟩,
       ⟨(some 23), (.bin .add (.s 22) (.c (.int .i64 1))), none, [0]⟩,
       ⟨(some 11), (.mv (.s 23)), none, [1, 0, 1]⟩] false)
     (.seq (.region [
       ⟨(some 24), (.mv (.s 10)), none, []⟩,
       ⟨(some 25), (.app 1 1 (.c .nils) (.s 24)), none, [0]⟩,
       ⟨(some 26), (.mv (.s 1)), none, []⟩,
       ⟨(some 27), (.app 1 1 (.s 25) (.s 26)), none, [1, 2, 1]⟩,
       ⟨(some 12), (.mv (.s 27)), none, [3, 3, 0, 1, 2, 3]⟩] false)
     (.seq (.region [
       ⟨(some 28), (.mv (.s 12)), none, []⟩,
       ⟨(some 29), (.mv (.s 2)), none, []⟩,
       ⟨(some 30), (.bin .rem (.s 29) (.c (.int .i64 256))), none, [1]⟩,
       ⟨(some 31), (.cvi .u8 (.s 30)), none, [2]⟩,
       ⟨(some 32), (.mv (.s 2)), none, []⟩,
       ⟨(some 33), (.bin .quo (.s 32) (.c (.int .i64 256))), none, [4]⟩,
       ⟨(some 34), (.cvi .u8 (.s 33)), none, [5]⟩,
       ⟨(some 35), (.mv (.s 11)), none, []⟩,
       ⟨(some 36), (.cvi .u8 (.s 35)), none, [7]⟩,
       ⟨(some 37), (.bsl 3 1 (.ints .u8 [0, 0, 0]) [(0, 1, (.s 31)), (1, 1, (.s 34)), (2, 1, (.s 36))]), none, [3, 6, 8]⟩,
       ⟨(some 38), (.app 1 1 (.s 28) (.s 37)), none, [0, 9]⟩,
       ⟨(some 12), (.mv (.s 38)), none, [10, 10, 0, 1, 2, 3, 4, 5, 6, 7, 8, 9, 10]⟩] false)
     (.seq (.region [
       ⟨(some 39), (.mv (.s 0)), none, []⟩,
       ⟨(some 40), (.mv (.s 12)), none, []⟩,
       ⟨(some 41), (.call (.c (.fn 222 [])) [(.s 39), (.s 40)]), none, [0, 1]⟩,
       ⟨(some 13), (.new (.ints .u8 [0, 0, 0, 0, 0, 0, 0, 0, 0, 0, 0, 0, 0, 0, 0, 0, 0, 0, 0, 0, 0, 0, 0, 0, 0, 0, 0, 0, 0, 0, 0, 0])), none, []⟩,
       ⟨none, (.stc 32 (.s 13) (.s 41)), none, [3, 2, 2, 0, 1, 2, 3]⟩] false)
     (.seq (.region [
       ⟨(some 42), (.sla 32 1 (.s 13) none none none), none, []⟩,
       ⟨(some 10), (.mv (.s 42)), none, [0, 0]⟩] false)
     (.region [
       ⟨(some 43), (.mv (.s 9)), none, []⟩,
       ⟨(some 44), (.mv (.s 10)), none, []⟩,
       ⟨(some 45), (.app 1 1 (.s 43) (.s 44)), none, [0, 1]⟩,
       ⟨(some 9), (.mv (.s 45)), none, [2, 2, 0, 1, 2]⟩] false))))))))))
  (.seq (.region [
    ⟨(some 46), (.mv (.s 9)), none, []⟩,
    ⟨(some 47), (.mv (.s 2)), none, []⟩,
    ⟨(some 48), (.sls 1 (.s 46) none (some (.s 47)) none), none, [0, 1]⟩,
    ⟨(some 49), (.mv (.s 11)), none, []⟩,
    ⟨(some 6), (.mv (.s 48)), none, [2, 0, 1, 2]⟩,
    ⟨(some 7), (.mv (.s 49)), none, [3, 4, 0, 1, 2, 3, 4]⟩,
    ⟨(some 8), (.mv (.c (.int .i64 0))), none, [5, 0, 1, 2, 3, 4, 5]⟩] false)
  .ret))))))), false, (some [(Sh.sl (Sh.int .u8)), (Sh.sl (Sh.int .u8)), (Sh.int .i64)]), (some (Sh.tu (Sh.pr (Sh.sl (Sh.int .u8)) (Sh.pr (Sh.int .i64) (Sh.int .i64))))), false⟩

/-- euphroe/prf.Pieces -/
def k292 : Fun := ⟨3, 14, [0, 1, 2, 6, 9], [(.tmp 6)],
  (.seq (.region [
    ⟨(some 6), (.mv (.c (.int .i64 0))), none, []⟩] false)
  (.seq (.seq (.region [
    ⟨(some 7), (.mv (.s 2)), none, []⟩,
    ⟨(some 8), (.call (.c (.fn 307 [])) [(.s 7)]), none, [0]⟩,
    ⟨(some 9), (.bin .neq (.s 8) (.c (.int .i64 0))), none, [1]⟩] false)
  (.cond (.s 9)
   (.seq (.region [
     ⟨(some 6), (.mv (.c (.int .i64 0))), none, []⟩] false)
   .ret)
   .skip))
  (.seq (.region [
    ⟨(some 10), (.mv (.s 2)), none, []⟩,
    ⟨(some 11), (.bin .add (.s 10) (.c (.int .i64 32))), none, [0]⟩,
    ⟨(some 12), (.bin .sub (.s 11) (.c (.int .i64 1))), none, [1]⟩,
    ⟨(some 13), (.bin .quo (.s 12) (.c (.int .i64 32))), none, [2]⟩,
    ⟨(some 6), (.mv (.s 13)), none, [3, 0, 1, 2, 3]⟩] false)
  .ret))), false, (some [(Sh.sl (Sh.int .u8)), (Sh.sl (Sh.int .u8)), (Sh.int .i64)]), (some (Sh.int .i64)), false⟩

/-- euphroe/prf.Bind -/
def k293 : Fun := ⟨1, 15, [0, 1, 2, 3], [(.cell 2 32 true (some .u8))],
  (.seq (.region [
    ⟨(some 1), (.box (.s 0)), none, []⟩,
    ⟨(some 2), (.new (.ints .u8 [0, 0, 0, 0, 0, 0, 0, 0, 0, 0, 0, 0, 0, 0, 0, 0, 0, 0, 0, 0, 0, 0, 0, 0, 0, 0, 0, 0, 0, 0, 0, 0])), none, []⟩] false)
  (.seq (.region [
    ⟨(some 6), (.sla 32 1 (.s 1) none none none), none, []⟩,
    ⟨(some 7), (.bsl 29 1 (.ints .u8 [0, 0, 0, 0, 0, 0, 0, 0, 0, 0, 0, 0, 0, 0, 0, 0, 0, 0, 0, 0, 0, 0, 0, 0, 0, 0, 0, 0, 0]) [(0, 1, (.c (.int .u8 83))), (1, 1, (.c (.int .u8 83))), (2, 1, (.c (.int .u8 84))), (3, 1, (.c (.int .u8 80))), (4, 1, (.c (.int .u8 32))), (5, 1, (.c (.int .u8 105))), (6, 1, (.c (.int .u8 110))), (7, 1, (.c (.int .u8 110))), (8, 1, (.c (.int .u8 101))), (9, 1, (.c (.int .u8 114))), (10, 1, (.c (.int .u8 32))), (11, 1, (.c (.int .u8 109))), (12, 1, (.c (.int .u8 101))), (13, 1, (.c (.int .u8 116))), (14, 1, (.c (.int .u8 104))), (15, 1, (.c (.int .u8 111))), (16, 1, (.c (.int .u8 100))), (17, 1, (.c (.int .u8 32))), (18, 1, (.c (.int .u8 100))), (19, 1, (.c (.int .u8 101))), (20, 1, (.c (.int .u8 114))), (21, 1, (.c (.int .u8 105))), (22, 1, (.c (.int .u8 118))), (23, 1, (.c (.int .u8 101))), (24, 1, (.c (.int .u8 100))), (25, 1, (.c (.int .u8 32))), (26, 1, (.c (.int .u8 67))), (27, 1, (.c (.int .u8 77))), (28, 1, (.c (.int .u8 75)))]), none, []⟩,
    ⟨(some 8), (.cvs (.s 7)), none, [1]⟩,
    ⟨(some 9), (.call (.c (.fn 290 [])) [(.s 6), (.s 8), (.c (.int .i64 32))]), none, [0, 2]⟩,
    ⟨(some 5), (.mv (.s 9)), none, [3]⟩,
    ⟨(some 10), (.ext (.s 5) 0), none, [4]⟩,
    ⟨(some 11), (.ext (.s 5) 1), none, [4]⟩,
    ⟨(some 3), (.mv (.s 10)), none, [5, 3, 0, 1, 2, 3, 4, 5]⟩,
    ⟨(some 4), (.mv (.s 11)), none, [6, 7, 0, 1, 2, 3, 4, 5, 6, 7]⟩] false)
  (.seq (.region [
    ⟨(some 12), (.mv (.s 3)), none, []⟩,
    ⟨(some 13), (.s2a 32 (.s 12)), none, [0]⟩,
    ⟨(some 14), (.lda 32 (some .u8) (.s 13)), none, [1]⟩,
    ⟨none, (.stc 32 (.s 2) (.s 14)), none, [2, 0, 1, 2]⟩] false)
  .ret))), false, (some [(Sh.ar .u8)]), (some (Sh.ar .u8)), false⟩

/-- euphroe/euphroeref13.Bind -/
def k294 : Fun := ⟨1, 27, [0, 1, 2, 3, 6, 7, 17], [(.cell 2 32 true (some .u8))],
  (.seq (.region [
    ⟨(some 1), (.box (.s 0)), none, []⟩,
    ⟨(some 2), (.new (.ints .u8 [0, 0, 0, 0, 0, 0, 0, 0, 0, 0, 0, 0, 0, 0, 0, 0, 0, 0, 0, 0, 0, 0, 0, 0, 0, 0, 0, 0, 0, 0, 0, 0])), none, []⟩] false)
  (.seq (.region [
    ⟨(some 9), (.sla 32 1 (.s 1) none none none), none, []⟩,
    ⟨(some 10), (.bsl 29 1 (.ints .u8 [0, 0, 0, 0, 0, 0, 0, 0, 0, 0, 0, 0, 0, 0, 0, 0, 0, 0, 0, 0, 0, 0, 0, 0, 0, 0, 0, 0, 0]) [(0, 1, (.c (.int .u8 83))), (1, 1, (.c (.int .u8 83))), (2, 1, (.c (.int .u8 84))), (3, 1, (.c (.int .u8 80))), (4, 1, (.c (.int .u8 32))), (5, 1, (.c (.int .u8 105))), (6, 1, (.c (.int .u8 110))), (7, 1, (.c (.int .u8 110))), (8, 1, (.c (.int .u8 101))), (9, 1, (.c (.int .u8 114))), (10, 1, (.c (.int .u8 32))), (11, 1, (.c (.int .u8 109))), (12, 1, (.c (.int .u8 101))), (13, 1, (.c (.int .u8 116))), (14, 1, (.c (.int .u8 104))), (15, 1, (.c (.int .u8 111))), (16, 1, (.c (.int .u8 100))), (17, 1, (.c (.int .u8 32))), (18, 1, (.c (.int .u8 100))), (19, 1, (.c (.int .u8 101))), (20, 1, (.c (.int .u8 114))), (21, 1, (.c (.int .u8 105))), (22, 1, (.c (.int .u8 118))), (23, 1, (.c (.int .u8 101))), (24, 1, (.c (.int .u8 100))), (25, 1, (.c (.int .u8 32))), (26, 1, (.c (.int .u8 67))), (27, 1, (.c (.int .u8 77))), (28, 1, (.c (.int .u8 75)))]), none, []⟩,
    ⟨(some 11), (.cvs (.s 10)), none, [1]⟩,
    ⟨(some 12), (.call (.c (.fn 291 [])) [(.s 9), (.s 11), (.c (.int .i64 32))]), none, [0, 2]⟩,
    ⟨(some 8), (.mv (.s 12)), none, [3]⟩,
    ⟨(some 13), (.ext (.s 8) 0), none, [4]⟩,
    ⟨(some 14), (.ext (.s 8) 1), none, [4]⟩,
    ⟨(some 15), (.ext (.s 8) 2), none, [4]⟩,
    ⟨(some 3), (.mv (.s 13)), none, [5, 3, 0, 1, 2, 3, 4, 5]⟩,
    ⟨(some 4), (.mv (.s 14)), none, [6, 8, 0, 1, 2, 3, 4, 5, 6, 8]⟩,
    ⟨(some 5), (.mv (.s 15)), none, [7, 9, 0, 1, 2, 3, 4, 5, 6, 7, 8, 9]⟩] false)
  (.seq (.region [
    ⟨(some 6), (.new (.ints .u8 [0, 0, 0, 0, 0, 0, 0, 0, 0, 0, 0, 0, 0, 0, 0, 0, 0, 0, 0, 0, 0, 0, 0, 0, 0, 0, 0, 0, 0, 0, 0, 0])), none, []⟩] false)
  (.seq (.seq (.region [
    ⟨(some 7), (.mv (.c (.int .i64 0))), none, []⟩] false)
  (.block 0
   (.loop ⟨0, [], false, [2, 3, 6, 7], []⟩
    (.seq (.seq (.region [
      ⟨(some 16), (.mv (.s 7)), none, []⟩,
      ⟨(some 17), (.bin .lss (.s 16) (.c (.int .i64 32))), none, [0]⟩] false)
    (.cond (.s 17)
     .skip
     (.pre ⟨0, [], false, [2, 6], []⟩ (.exit 0))))
    (.seq (.block 1
     (.region [
       ⟨(some 20), (.mv (.s 7)), none, []⟩,
       ⟨(some 21), (.mv (.s 3)), none, []⟩,
       ⟨(some 22), (.mv (.s 7)), none, []⟩,
       ⟨(some 23), (.iad 1 (.s 21) (.s 22)), none, [1, 2]⟩,
       ⟨(some 24), (.ldc (.s 23)), none, [3]⟩,
       ⟨(some 25), (.iaa 32 1 (.s 6) (.s 20)), none, [0, 0, 1, 2, 3, 4]⟩,
       ⟨none, (.stc 1 (.s 25) (.s 24)), none, [5, 4, 0, 1, 2, 3, 4]⟩] false))
    (.region [
      ⟨(some 18), (.mv (.s 7)), none, []⟩,
      ⟨(some 19), (.bin .add (.s 18) (.c (.int .i64 1))), none, [0]⟩,
      ⟨(some 7), (.mv (.s 19)), none, [1, 0, 1]⟩] false))))))
  (.seq (.region [
    ⟨(some 26), (.lda 32 (some .u8) (.s 6)), none, []⟩,
    ⟨none, (.stc 32 (.s 2) (.s 26)), none, [0, 0]⟩] false)
  .ret))))), false, (some [(Sh.ar .u8)]), (some (Sh.ar .u8)), false⟩

/-- euphroe/prf.Seal -/
def k295 : Fun := ⟨2, 9, [0, 1, 2, 4], [(.cell 4 32 true (some .u8))],
  (.seq (.region [
    ⟨(some 2), (.box (.s 0)), none, []⟩,
    ⟨(some 4), (.new (.ints .u8 [0, 0, 0, 0, 0, 0, 0, 0, 0, 0, 0, 0, 0, 0, 0, 0, 0, 0, 0, 0, 0, 0, 0, 0, 0, 0, 0, 0, 0, 0, 0, 0])), none, []⟩] false)
  (.seq (.region [
    ⟨(some 5), (.sla 32 1 (.s 2) none none none), none, []⟩,
    ⟨(some 6), (.mv (.s 1)), none, []⟩,
    ⟨(some 7), (.bsl 1 1 (.vals [.nils]) [(0, 1, (.s 6))]), none, [1]⟩,
    ⟨(some 8), (.call (.c (.fn 223 [])) [(.s 5), (.s 7)]), none, [0, 2]⟩,
    ⟨none, (.stc 32 (.s 4) (.s 8)), none, [3, 3, 0, 1, 2, 3]⟩] false)
  .ret)), false, (some [(Sh.ar .u8), (Sh.sl (Sh.int .u8))]), (some (Sh.ar .u8)), false⟩

/-- euphroe/prf.Check -/
def k296 : Fun := ⟨3, 12, [0, 1, 2, 3, 6], [(.tmp 6)],
  (.seq (.region [
    ⟨(some 3), (.box (.s 0)), none, []⟩,
    ⟨(some 6), (.mv (.c (.bool false))), none, []⟩] false)
  (.seq (.region [
    ⟨(some 7), (.sla 32 1 (.s 3) none none none), none, []⟩,
    ⟨(some 8), (.mv (.s 2)), none, []⟩,
    ⟨(some 9), (.mv (.s 1)), none, []⟩,
    ⟨(some 10), (.bsl 1 1 (.vals [.nils]) [(0, 1, (.s 9))]), none, [2]⟩,
    ⟨(some 11), (.call (.c (.fn 226 [])) [(.s 7), (.s 8), (.s 10)]), none, [0, 1, 3]⟩,
    ⟨(some 6), (.mv (.s 11)), none, [4, 4, 0, 1, 2, 3, 4]⟩] false)
  .ret)), false, (some [(Sh.ar .u8), (Sh.sl (Sh.int .u8)), (Sh.sl (Sh.int .u8))]), (some Sh.bool), false⟩

/-- euphroe/prf.may -/
def k307 : Fun := ⟨1, 9, [0, 2, 3, 6], [(.tmp 2)],
  (.seq (.region [
    ⟨(some 2), (.mv (.c (.int .i64 0))), none, []⟩] false)
  (.seq (.block 0
   (.seq (.region [
     ⟨(some 4), (.mv (.s 0)), none, []⟩,
     ⟨(some 5), (.bin .lss (.s 4) (.c (.int .i64 1))), none, [0]⟩,
     ⟨(some 3), (.mv (.s 5)), none, [1]⟩] false)
   (.cond (.s 3)
    (.seq (.region [
      ⟨(some 2), (.mv (.c (.int .i64 1))), none, []⟩] false)
    .ret)
    (.seq (.region [
      ⟨(some 7), (.mv (.s 0)), none, []⟩,
      ⟨(some 8), (.bin .gtr (.s 7) (.c (.int .i64 8160))), none, [0]⟩,
      ⟨(some 6), (.mv (.s 8)), none, [1]⟩] false)
    (.cond (.s 6)
     (.seq (.region [
       ⟨(some 2), (.mv (.c (.int .i64 8))), none, []⟩] false)
     .ret)
     .skip)))))
  (.seq (.region [
    ⟨(some 2), (.mv (.c (.int .i64 0))), none, []⟩] false)
  .ret))), false, (some [(Sh.int .i64)]), (some (Sh.int .i64)), false⟩

/-- euphroe/prf.Derive$1 -/
def k308 : Fun := ⟨6, 21, [0, 1, 2, 3, 4, 5, 7], [],
  (.seq (.region [
    ⟨(some 8), (.ldc (.s 1)), none, []⟩,
    ⟨(some 9), (.ldc (.s 2)), none, []⟩,
    ⟨(some 10), (.ldc (.s 3)), none, []⟩,
    ⟨(some 11), (.ldc (.s 4)), none, []⟩,
    ⟨(some 12), (.mv (.s 0)), none, []⟩,
    ⟨(some 13), (.cvi .u8 (.s 12)), none, [4]⟩,
    ⟨(some 14), (.bsl 1 1 (.ints .u8 [0]) [(0, 1, (.s 13))]), none, [5]⟩,
    ⟨(some 15), (.bsl 4 1 (.vals [.nils, .nils, .nils, .nils]) [(0, 1, (.s 9)), (1, 1, (.s 10)), (2, 1, (.s 11)), (3, 1, (.s 14))]), none, [1, 2, 3, 6]⟩,
    ⟨(some 16), (.call (.c (.fn 223 [])) [(.s 8), (.s 15)]), none, [0, 7]⟩,
    ⟨(some 7), (.new (.ints .u8 [0, 0, 0, 0, 0, 0, 0, 0, 0, 0, 0, 0, 0, 0, 0, 0, 0, 0, 0, 0, 0, 0, 0, 0, 0, 0, 0, 0, 0, 0, 0, 0])), none, []⟩,
    ⟨none, (.stc 32 (.s 7) (.s 16)), none, [9, 8, 8, 0, 1, 2, 3, 4, 5, 6, 7, 8, 9]⟩] false)
  (.seq (.region [
    ⟨(some 17), (.sla 32 1 (.s 7) none none none), none, []⟩,
    ⟨none, (.stc 1 (.s 2) (.s 17)), none, [0, 0]⟩] false)
  (.region [
    ⟨(some 18), (.ldc (.s 5)), none, []⟩,
    ⟨(some 19), (.ldc (.s 2)), none, []⟩,
    ⟨(some 20), (.app 1 1 (.s 18) (.s 19)), none, [0, 1]⟩,
    ⟨none, (.stc 1 (.s 5) (.s 20)), none, [2, 2, 0, 1, 2]⟩] false))), false, none, none, false⟩

def FT : Nat → Option Fun
  | 1 => some k1
  | 19 => some k19
  | 21 => some k21
  | 23 => some k23
  | 46 => some k46
  | 47 => some k47
  | 48 => some k48
  | 64 => some k64
  | 75 => some k75
  | 78 => some k78
  | 81 => some k81
  | 83 => some k83
  | 100 => some k100
  | 101 => some k101
  | 114 => some k114
  | 115 => some k115
  | 116 => some k116
  | 120 => some k120
  | 177 => some k177
  | 186 => some k186
  | 195 => some k195
  | 213 => some k213
  | 214 => some k214
  | 216 => some k216
  | 217 => some k217
  | 218 => some k218
  | 219 => some k219
  | 220 => some k220
  | 222 => some k222
  | 223 => some k223
  | 224 => some k224
  | 225 => some k225
  | 226 => some k226
  | 229 => some k229
  | 230 => some k230
  | 231 => some k231
  | 232 => some k232
  | 233 => some k233
  | 234 => some k234
  | 235 => some k235
  | 236 => some k236
  | 237 => some k237
  | 238 => some k238
  | 239 => some k239
  | 284 => some k284
  | 285 => some k285
  | 286 => some k286
  | 289 => some k289
  | 290 => some k290
  | 291 => some k291
  | 292 => some k292
  | 293 => some k293
  | 294 => some k294
  | 295 => some k295
  | 296 => some k296
  | 307 => some k307
  | 308 => some k308
  | _ => none
end Go.Proofs.YtciafmcbccgggaaE
