/- The evaluator's functions. -/
import Derived.Test.YthljmhlpbakahaaEvXT
namespace Go.Proofs.YthljmhlpbakahaaE
open Go
set_option linter.unusedVariables false
set_option linter.unusedSimpArgs false

/-- slices.Concat[[]byte,byte] -/
def k1 : Fun := ⟨1, 36, [0, 2, 3, 5, 6, 8, 9, 10, 11, 12, 20, 25, 26, 27, 28], [(.tmp 2)],
  (.seq (.region [
    ⟨(some 2), (.mv (.c .nils)), none, []⟩] false)
  (.seq (.region [
    ⟨(some 3), (.mv (.c (.int .i64 0))), none, []⟩] false)
  (.seq (.seq (.region [
    ⟨(some 9), (.mv (.s 0)), none, []⟩,
    ⟨(some 10), (.len false (.s 9)), none, [0]⟩,
    ⟨(some 11), (.mv (.c (.int .i64 0))), none, []⟩] false)
  (.block 0
   (.loop ⟨0, [], false, [0, 3, 9, 10, 11], []⟩
    (.seq (.region [
      ⟨(some 12), (.bin .lss (.s 11) (.s 10)), none, []⟩] false)
    (.seq (.cond (.s 12)
     .skip
     (.pre ⟨0, [], false, [0, 3], []⟩ (.exit 0)))
    (.seq (.block 1
     (.seq (.region [
       ⟨(some 13), (.iad 1 (.s 9) (.s 11)), none, []⟩,
       ⟨(some 14), (.ldc (.s 13)), none, [0]⟩,
       ⟨(some 5), (.mv (.s 14)), none, [1, 0, 1]⟩] false)
     (.seq (.region [
       ⟨(some 15), (.mv (.s 3)), none, []⟩,
       ⟨(some 16), (.mv (.s 5)), none, []⟩,
       ⟨(some 17), (.len false (.s 16)), none, [1]⟩,
       ⟨(some 18), (.bin .add (.s 15) (.s 17)), none, [0, 2]⟩,
       ⟨(some 3), (.mv (.s 18)), none, [3, 0, 1, 2, 3]⟩] false)
     (.seq (.region [
       ⟨(some 19), (.mv (.s 3)), none, []⟩,
       ⟨(some 20), (.bin .lss (.s 19) (.c (.int .i64 0))), none, [0]⟩] false)
     (.cond (.s 20)
      (.region [
        ⟨(some 21), .bad, none, []⟩,
        ⟨none, .bad, none, [0]⟩] false)
      .skip)))))
    (.region [
      ⟨(some 22), (.bin .add (.s 11) (.c (.int .i64 1))), none, []⟩,
      ⟨(some 11), (.mv (.s 22)), none, [0]⟩] false)))))))
  (.seq (.region [
    ⟨(some 23), (.mv (.s 3)), none, []⟩,
    ⟨(some 24), (.call (.c (.fn 64 [])) [(.c .nils), (.s 23)]), none, [0]⟩,
    ⟨(some 6), (.mv (.s 24)), none, [1, 1, 0, 1]⟩] false)
  (.seq (.seq (.region [
    ⟨(some 25), (.mv (.s 0)), none, []⟩,
    ⟨(some 26), (.len false (.s 25)), none, [0]⟩,
    ⟨(some 27), (.mv (.c (.int .i64 0))), none, []⟩] false)
  (.block 2
   (.loop ⟨1, [], false, [6, 25, 26, 27], []⟩
    (.seq (.region [
      ⟨(some 28), (.bin .lss (.s 27) (.s 26)), none, []⟩] false)
    (.seq (.cond (.s 28)
     .skip
     (.pre ⟨0, [], false, [6], []⟩ (.exit 2)))
    (.seq (.block 3
     (.seq (.region [
       ⟨(some 29), (.iad 1 (.s 25) (.s 27)), none, []⟩,
       ⟨(some 30), (.ldc (.s 29)), none, [0]⟩,
       ⟨(some 8), (.mv (.s 30)), none, [1, 0, 1]⟩] false)
     (.region [
       ⟨(some 31), (.mv (.s 6)), none, []⟩,
       ⟨(some 32), (.mv (.s 8)), none, []⟩,
       ⟨(some 33), (.app 1 1 (.s 31) (.s 32)), none, [0, 1]⟩,
       ⟨(some 6), (.mv (.s 33)), none, [2, 2, 0, 1, 2]⟩] false)))
    (.region [
      ⟨(some 34), (.bin .add (.s 27) (.c (.int .i64 1))), none, []⟩,
      ⟨(some 27), (.mv (.s 34)), none, [0]⟩] false)))))))
  (.seq (.region [
    ⟨(some 35), (.mv (.s 6)), none, []⟩,
    ⟨(some 2), (.mv (.s 35)), none, [0, 0]⟩] false)
  .ret)))))), false, (some [(Sh.sl (Sh.sl (Sh.int .u8)))]), none⟩

/-- euphroe/octs.Put -/
def k19 : Fun := ⟨3, 37, [0, 1, 2, 6, 7, 8, 9, 15, 19, 20, 21, 33], [(.tmp 6), (.tmp 7)],
  (.seq (.region [
    ⟨(some 6), (.mv (.c .nils)), none, []⟩,
    ⟨(some 7), (.mv (.c (.int .i64 0))), none, [0]⟩] false)
  (.seq (.seq (.region [
    ⟨(some 10), (.mv (.s 1)), none, []⟩,
    ⟨(some 11), (.bin .lss (.s 10) (.c (.int .i64 1))), none, [0]⟩,
    ⟨(some 12), (.mv (.s 11)), none, [1]⟩,
    ⟨(some 13), (.mv (.s 1)), (some (12, false)), [2]⟩,
    ⟨(some 14), (.bin .gtr (.s 13) (.c (.int .i64 8))), (some (12, false)), [3, 2]⟩,
    ⟨(some 15), (.pick (.s 12) (.c (.bool true)) (.s 14)), none, [2, 4]⟩] false)
  (.cond (.s 15)
   (.seq (.region [
     ⟨(some 6), (.mv (.c .nils)), none, []⟩,
     ⟨(some 7), (.mv (.c (.int .i64 1))), none, [0, 0]⟩] false)
   .ret)
   .skip))
  (.seq (.region [
    ⟨(some 16), (.mv (.s 1)), none, []⟩,
    ⟨(some 17), (.mks (.ints .u8 [0]) 1 1 (.s 16) (.s 16)), none, [0, 0]⟩,
    ⟨(some 8), (.mv (.s 17)), none, [1, 0, 1]⟩] false)
  (.seq (.seq (.region [
    ⟨(some 18), (.mv (.s 8)), none, []⟩,
    ⟨(some 19), (.len false (.s 18)), none, [0]⟩,
    ⟨(some 20), (.mv (.c (.int .i64 0))), none, []⟩] false)
  (.block 0
   (.loop ⟨0, [], false, [0, 2, 8, 19, 20], []⟩
    (.seq (.region [
      ⟨(some 21), (.bin .lss (.s 20) (.s 19)), none, []⟩] false)
    (.seq (.cond (.s 21)
     .skip
     (.pre ⟨0, [], false, [2, 8], []⟩ (.exit 0)))
    (.seq (.block 1
     (.seq (.region [
       ⟨(some 22), (.mv (.s 20)), none, []⟩,
       ⟨(some 9), (.mv (.s 22)), none, [0, 0]⟩] false)
     (.region [
       ⟨(some 23), (.mv (.s 8)), none, []⟩,
       ⟨(some 24), (.mv (.s 9)), none, []⟩,
       ⟨(some 25), (.mv (.s 0)), none, []⟩,
       ⟨(some 26), (.mv (.s 9)), none, []⟩,
       ⟨(some 27), (.bin .mul (.c (.int .i64 8)) (.s 26)), none, [3]⟩,
       ⟨(some 28), (.bin .shr (.s 25) (.s 27)), none, [2, 4]⟩,
       ⟨(some 29), (.cvi .u8 (.s 28)), none, [5]⟩,
       ⟨(some 30), (.iad 1 (.s 23) (.s 24)), none, [0, 1, 0, 1, 2, 3, 4, 5, 6]⟩,
       ⟨none, (.stc 1 (.s 30) (.s 29)), none, [7, 6, 0, 1, 2, 3, 4, 5, 6]⟩] false)))
    (.region [
      ⟨(some 31), (.bin .add (.s 20) (.c (.int .i64 1))), none, []⟩,
      ⟨(some 20), (.mv (.s 31)), none, [0]⟩] false)))))))
  (.seq (.seq (.region [
    ⟨(some 32), (.mv (.s 2)), none, []⟩,
    ⟨(some 33), (.un .not (.s 32)), none, [0]⟩] false)
  (.cond (.s 33)
   (.region [
     ⟨(some 34), (.mv (.s 8)), none, []⟩,
     ⟨(some 35), (.call (.c (.fn 48 [])) [(.s 34)]), none, [0]⟩] false)
   .skip))
  (.seq (.region [
    ⟨(some 36), (.mv (.s 8)), none, []⟩,
    ⟨(some 6), (.mv (.s 36)), none, [0, 0]⟩,
    ⟨(some 7), (.mv (.c (.int .i64 0))), none, [1, 0, 1]⟩] false)
  .ret)))))), false, (some [(Sh.int .u64), (Sh.int .i64), Sh.bool]), (some (Sh.tu (Sh.pr (Sh.sl (Sh.int .u8)) (Sh.int .i64))))⟩

/-- euphroe/octs.Get -/
def k21 : Fun := ⟨2, 39, [0, 1, 4, 5, 6, 7, 8, 16, 17, 18, 19, 20, 24], [(.tmp 4), (.tmp 5)],
  (.seq (.region [
    ⟨(some 4), (.mv (.c (.int .u64 0))), none, []⟩,
    ⟨(some 5), (.mv (.c (.int .i64 0))), none, [0]⟩] false)
  (.seq (.seq (.region [
    ⟨(some 9), (.mv (.s 0)), none, []⟩,
    ⟨(some 10), (.len false (.s 9)), none, [0]⟩,
    ⟨(some 11), (.bin .lss (.s 10) (.c (.int .i64 1))), none, [1]⟩,
    ⟨(some 12), (.mv (.s 11)), none, [2]⟩,
    ⟨(some 13), (.mv (.s 0)), (some (12, false)), [3]⟩,
    ⟨(some 14), (.len false (.s 13)), (some (12, false)), [4, 3]⟩,
    ⟨(some 15), (.bin .gtr (.s 14) (.c (.int .i64 8))), (some (12, false)), [5, 3]⟩,
    ⟨(some 16), (.pick (.s 12) (.c (.bool true)) (.s 15)), none, [3, 6]⟩] false)
  (.cond (.s 16)
   (.seq (.region [
     ⟨(some 4), (.mv (.c (.int .u64 0))), none, []⟩,
     ⟨(some 5), (.mv (.c (.int .i64 1))), none, [0, 0]⟩] false)
   .ret)
   .skip))
  (.seq (.region [
    ⟨(some 6), (.mv (.c (.int .u64 0))), none, []⟩] false)
  (.seq (.seq (.region [
    ⟨(some 17), (.mv (.s 0)), none, []⟩,
    ⟨(some 18), (.len false (.s 17)), none, [0]⟩,
    ⟨(some 19), (.mv (.c (.int .i64 0))), none, []⟩] false)
  (.block 0
   (.loop ⟨0, [], false, [1, 6, 17, 18, 19], []⟩
    (.seq (.region [
      ⟨(some 20), (.bin .lss (.s 19) (.s 18)), none, []⟩] false)
    (.seq (.cond (.s 20)
     .skip
     (.pre ⟨0, [], false, [6], []⟩ (.exit 0)))
    (.seq (.block 1
     (.seq (.region [
       ⟨(some 21), (.mv (.s 19)), none, []⟩,
       ⟨(some 22), (.iad 1 (.s 17) (.s 19)), none, []⟩,
       ⟨(some 23), (.ldc (.s 22)), none, [1]⟩,
       ⟨(some 7), (.mv (.s 21)), none, [0, 0, 1, 2]⟩,
       ⟨(some 8), (.mv (.s 23)), none, [2, 3, 0, 1, 2, 3]⟩] false)
     (.seq (.region [
       ⟨(some 24), (.mv (.s 1)), none, []⟩] false)
     (.cond (.s 24)
      (.region [
        ⟨(some 25), (.mv (.s 6)), none, []⟩,
        ⟨(some 26), (.mv (.s 8)), none, []⟩,
        ⟨(some 27), (.cvi .u64 (.s 26)), none, [1]⟩,
        ⟨(some 28), (.mv (.s 7)), none, []⟩,
        ⟨(some 29), (.bin .mul (.c (.int .i64 8)) (.s 28)), none, [3]⟩,
        ⟨(some 30), (.bin .shl (.s 27) (.s 29)), none, [2, 4]⟩,
        ⟨(some 31), (.bin .or (.s 25) (.s 30)), none, [0, 5]⟩,
        ⟨(some 6), (.mv (.s 31)), none, [6, 0, 1, 2, 3, 4, 5, 6]⟩] false)
      (.region [
        ⟨(some 32), (.mv (.s 6)), none, []⟩,
        ⟨(some 33), (.bin .shl (.s 32) (.c (.int .u64 8))), none, [0]⟩,
        ⟨(some 34), (.mv (.s 8)), none, []⟩,
        ⟨(some 35), (.cvi .u64 (.s 34)), none, [2]⟩,
        ⟨(some 36), (.bin .or (.s 33) (.s 35)), none, [1, 3]⟩,
        ⟨(some 6), (.mv (.s 36)), none, [4, 0, 1, 2, 3, 4]⟩] false)))))
    (.region [
      ⟨(some 37), (.bin .add (.s 19) (.c (.int .i64 1))), none, []⟩,
      ⟨(some 19), (.mv (.s 37)), none, [0]⟩] false)))))))
  (.seq (.region [
    ⟨(some 38), (.mv (.s 6)), none, []⟩,
    ⟨(some 4), (.mv (.s 38)), none, [0, 0]⟩,
    ⟨(some 5), (.mv (.c (.int .i64 0))), none, [1, 0, 1]⟩] false)
  .ret))))), false, (some [(Sh.sl (Sh.int .u8)), Sh.bool]), (some (Sh.tu (Sh.pr (Sh.int .u64) (Sh.int .i64))))⟩

/-- euphroe/euphroeref01.Same -/
def k23 : Fun := ⟨2, 26, [0, 1, 4, 5, 10, 14, 25], [(.tmp 4)],
  (.seq (.region [
    ⟨(some 4), (.mv (.c (.bool false))), none, []⟩] false)
  (.seq (.seq (.region [
    ⟨(some 6), (.mv (.s 0)), none, []⟩,
    ⟨(some 7), (.len false (.s 6)), none, [0]⟩,
    ⟨(some 8), (.mv (.s 1)), none, []⟩,
    ⟨(some 9), (.len false (.s 8)), none, [2]⟩,
    ⟨(some 10), (.bin .neq (.s 7) (.s 9)), none, [1, 3]⟩] false)
  (.cond (.s 10)
   (.seq (.region [
     ⟨(some 4), (.mv (.c (.bool false))), none, []⟩] false)
   .ret)
   .skip))
  (.seq (.seq (.region [
    ⟨(some 5), (.mv (.c (.int .i64 0))), none, []⟩] false)
  (.block 0
   (.loop ⟨0, [], false, [0, 1, 5], []⟩
    (.seq (.seq (.region [
      ⟨(some 11), (.mv (.s 5)), none, []⟩,
      ⟨(some 12), (.mv (.s 0)), none, []⟩,
      ⟨(some 13), (.len false (.s 12)), none, [1]⟩,
      ⟨(some 14), (.bin .lss (.s 11) (.s 13)), none, [0, 2]⟩] false)
    (.cond (.s 14)
     .skip
     (.pre ⟨0, [], false, [], []⟩ (.exit 0))))
    (.seq (.block 1
     (.seq (.region [
       ⟨(some 17), (.mv (.s 0)), none, []⟩,
       ⟨(some 18), (.mv (.s 5)), none, []⟩,
       ⟨(some 19), (.iad 1 (.s 17) (.s 18)), none, [0, 1]⟩,
       ⟨(some 20), (.ldc (.s 19)), none, [2]⟩,
       ⟨(some 21), (.mv (.s 1)), none, []⟩,
       ⟨(some 22), (.mv (.s 5)), none, []⟩,
       ⟨(some 23), (.iad 1 (.s 21) (.s 22)), none, [4, 5]⟩,
       ⟨(some 24), (.ldc (.s 23)), none, [6]⟩,
       ⟨(some 25), (.bin .neq (.s 20) (.s 24)), none, [3, 7]⟩] true)
     (.cond (.s 25)
      (.seq (.region [
        ⟨(some 4), (.mv (.c (.bool false))), none, []⟩] false)
      .ret)
      .skip)))
    (.region [
      ⟨(some 15), (.mv (.s 5)), none, []⟩,
      ⟨(some 16), (.bin .add (.s 15) (.c (.int .i64 1))), none, [0]⟩,
      ⟨(some 5), (.mv (.s 16)), none, [1, 0, 1]⟩] false))))))
  (.seq (.region [
    ⟨(some 4), (.mv (.c (.bool true))), none, []⟩] false)
  .ret)))), false, (some [(Sh.sl (Sh.int .u8)), (Sh.sl (Sh.int .u8))]), (some Sh.bool)⟩

/-- euphroe/octs.Join -/
def k46 : Fun := ⟨1, 5, [0, 2], [(.tmp 2)],
  (.seq (.region [
    ⟨(some 2), (.mv (.c .nils)), none, []⟩] false)
  (.seq (.region [
    ⟨(some 3), (.mv (.s 0)), none, []⟩,
    ⟨(some 4), (.call (.c (.fn 1 [])) [(.s 3)]), none, [0]⟩,
    ⟨(some 2), (.mv (.s 4)), none, [1, 1, 0, 1]⟩] false)
  .ret)), false, (some [(Sh.sl (Sh.sl (Sh.int .u8)))]), none⟩

/-- euphroe/octs.Same -/
def k47 : Fun := ⟨2, 31, [0, 1, 4, 5, 6, 7, 12, 13, 14, 15, 16], [(.tmp 4)],
  (.seq (.region [
    ⟨(some 4), (.mv (.c (.bool false))), none, []⟩] false)
  (.seq (.seq (.region [
    ⟨(some 8), (.mv (.s 0)), none, []⟩,
    ⟨(some 9), (.len false (.s 8)), none, [0]⟩,
    ⟨(some 10), (.mv (.s 1)), none, []⟩,
    ⟨(some 11), (.len false (.s 10)), none, [2]⟩,
    ⟨(some 12), (.bin .neq (.s 9) (.s 11)), none, [1, 3]⟩] false)
  (.cond (.s 12)
   (.seq (.region [
     ⟨(some 4), (.mv (.c (.bool false))), none, []⟩] false)
   .ret)
   .skip))
  (.seq (.region [
    ⟨(some 5), (.mv (.c (.int .u8 0))), none, []⟩] false)
  (.seq (.seq (.region [
    ⟨(some 13), (.mv (.s 0)), none, []⟩,
    ⟨(some 14), (.len false (.s 13)), none, [0]⟩,
    ⟨(some 15), (.mv (.c (.int .i64 0))), none, []⟩] false)
  (.block 0
   (.loop ⟨0, [], false, [1, 5, 13, 14, 15], []⟩
    (.seq (.region [
      ⟨(some 16), (.bin .lss (.s 15) (.s 14)), none, []⟩] false)
    (.seq (.cond (.s 16)
     .skip
     (.pre ⟨0, [], false, [5], []⟩ (.exit 0)))
    (.seq (.block 1
     (.seq (.region [
       ⟨(some 17), (.mv (.s 15)), none, []⟩,
       ⟨(some 18), (.iad 1 (.s 13) (.s 15)), none, []⟩,
       ⟨(some 19), (.ldc (.s 18)), none, [1]⟩,
       ⟨(some 6), (.mv (.s 17)), none, [0, 0, 1, 2]⟩,
       ⟨(some 7), (.mv (.s 19)), none, [2, 3, 0, 1, 2, 3]⟩] false)
     (.region [
       ⟨(some 20), (.mv (.s 5)), none, []⟩,
       ⟨(some 21), (.mv (.s 7)), none, []⟩,
       ⟨(some 22), (.mv (.s 1)), none, []⟩,
       ⟨(some 23), (.mv (.s 6)), none, []⟩,
       ⟨(some 24), (.iad 1 (.s 22) (.s 23)), none, [2, 3]⟩,
       ⟨(some 25), (.ldc (.s 24)), none, [4]⟩,
       ⟨(some 26), (.bin .xor (.s 21) (.s 25)), none, [1, 5]⟩,
       ⟨(some 27), (.bin .or (.s 20) (.s 26)), none, [0, 6]⟩,
       ⟨(some 5), (.mv (.s 27)), none, [7, 0, 1, 2, 3, 4, 5, 6, 7]⟩] false)))
    (.region [
      ⟨(some 28), (.bin .add (.s 15) (.c (.int .i64 1))), none, []⟩,
      ⟨(some 15), (.mv (.s 28)), none, [0]⟩] false)))))))
  (.seq (.region [
    ⟨(some 29), (.mv (.s 5)), none, []⟩,
    ⟨(some 30), (.bin .eql (.s 29) (.c (.int .u8 0))), none, [0]⟩,
    ⟨(some 4), (.mv (.s 30)), none, [1, 0, 1]⟩] false)
  .ret))))), false, (some [(Sh.sl (Sh.int .u8)), (Sh.sl (Sh.int .u8))]), (some Sh.bool)⟩

/-- slices.Reverse[[]byte,byte] -/
def k48 : Fun := ⟨1, 28, [0, 2, 3, 9], [],
  (.seq (.region [
    ⟨(some 4), (.mv (.s 0)), none, []⟩,
    ⟨(some 5), (.len false (.s 4)), none, [0]⟩,
    ⟨(some 6), (.bin .sub (.s 5) (.c (.int .i64 1))), none, [1]⟩,
    ⟨(some 2), (.mv (.c (.int .i64 0))), none, []⟩,
    ⟨(some 3), (.mv (.s 6)), none, [2, 3, 0, 1, 2, 3]⟩] false)
  (.block 0
   (.loop ⟨0, [], false, [0, 2, 3], []⟩
    (.seq (.seq (.region [
      ⟨(some 7), (.mv (.s 2)), none, []⟩,
      ⟨(some 8), (.mv (.s 3)), none, []⟩,
      ⟨(some 9), (.bin .lss (.s 7) (.s 8)), none, [0, 1]⟩] false)
    (.cond (.s 9)
     .skip
     (.pre ⟨0, [], false, [], []⟩ (.exit 0))))
    (.seq (.block 1
     (.region [
       ⟨(some 14), (.mv (.s 0)), none, []⟩,
       ⟨(some 15), (.mv (.s 2)), none, []⟩,
       ⟨(some 16), (.mv (.s 0)), none, []⟩,
       ⟨(some 17), (.mv (.s 3)), none, []⟩,
       ⟨(some 18), (.mv (.s 0)), none, []⟩,
       ⟨(some 19), (.mv (.s 3)), none, []⟩,
       ⟨(some 20), (.iad 1 (.s 18) (.s 19)), none, [4, 5]⟩,
       ⟨(some 21), (.ldc (.s 20)), none, [6]⟩,
       ⟨(some 22), (.mv (.s 0)), none, []⟩,
       ⟨(some 23), (.mv (.s 2)), none, []⟩,
       ⟨(some 24), (.iad 1 (.s 22) (.s 23)), none, [8, 9]⟩,
       ⟨(some 25), (.ldc (.s 24)), none, [10]⟩,
       ⟨(some 26), (.iad 1 (.s 14) (.s 15)), none, [0, 1, 0, 1, 4, 5, 6, 7, 11]⟩,
       ⟨none, (.stc 1 (.s 26) (.s 21)), none, [12, 7, 0, 1, 4, 5, 6, 7, 11]⟩,
       ⟨(some 27), (.iad 1 (.s 16) (.s 17)), none, [2, 3, 0, 1, 2, 3, 4, 5, 6, 7, 8, 9, 10, 11, 12, 13]⟩,
       ⟨none, (.stc 1 (.s 27) (.s 25)), none, [14, 11, 13, 0, 1, 2, 3, 4, 5, 6, 7, 8, 9, 10, 11, 12, 13]⟩] true))
    (.region [
      ⟨(some 10), (.mv (.s 2)), none, []⟩,
      ⟨(some 11), (.bin .add (.s 10) (.c (.int .i64 1))), none, [0]⟩,
      ⟨(some 12), (.mv (.s 3)), none, []⟩,
      ⟨(some 13), (.bin .sub (.s 12) (.c (.int .i64 1))), none, [2]⟩,
      ⟨(some 2), (.mv (.s 11)), none, [1, 0, 1]⟩,
      ⟨(some 3), (.mv (.s 13)), none, [3, 4, 0, 1, 2, 3, 4]⟩] false)))))), true, none, none⟩

/-- slices.Grow[[]byte,byte] -/
def k64 : Fun := ⟨2, 27, [0, 1, 4, 6, 16], [(.tmp 4)],
  (.seq (.region [
    ⟨(some 4), (.mv (.c .nils)), none, []⟩] false)
  (.seq (.seq (.region [
    ⟨(some 5), (.mv (.s 1)), none, []⟩,
    ⟨(some 6), (.bin .lss (.s 5) (.c (.int .i64 0))), none, [0]⟩] false)
  (.cond (.s 6)
   (.region [
     ⟨(some 7), .bad, none, []⟩,
     ⟨none, .bad, none, [0]⟩] false)
   .skip))
  (.seq (.seq (.region [
    ⟨(some 8), (.mv (.s 1)), none, []⟩,
    ⟨(some 9), (.mv (.s 0)), none, []⟩,
    ⟨(some 10), (.cap (.s 9)), none, [1]⟩,
    ⟨(some 11), (.mv (.s 0)), none, []⟩,
    ⟨(some 12), (.len false (.s 11)), none, [3]⟩,
    ⟨(some 13), (.bin .sub (.s 10) (.s 12)), none, [2, 4]⟩,
    ⟨(some 14), (.bin .sub (.s 8) (.s 13)), none, [0, 5]⟩,
    ⟨(some 1), (.mv (.s 14)), none, [6, 0, 1, 2, 3, 4, 5, 6]⟩] false)
  (.seq (.region [
    ⟨(some 15), (.mv (.s 1)), none, []⟩,
    ⟨(some 16), (.bin .gtr (.s 15) (.c (.int .i64 0))), none, [0]⟩] false)
  (.cond (.s 16)
   (.region [
     ⟨(some 17), (.mv (.s 0)), none, []⟩,
     ⟨(some 18), (.mv (.s 0)), none, []⟩,
     ⟨(some 19), (.cap (.s 18)), none, [1]⟩,
     ⟨(some 20), (.sls 1 (.s 17) none (some (.s 19)) none), none, [0, 2]⟩,
     ⟨(some 21), (.mv (.s 1)), none, []⟩,
     ⟨(some 22), (.apz 1 1 (.ints .u8 [0]) (.s 20) (.s 21)), none, [3, 4]⟩,
     ⟨(some 23), (.mv (.s 0)), none, []⟩,
     ⟨(some 24), (.len false (.s 23)), none, [6]⟩,
     ⟨(some 25), (.sls 1 (.s 22) none (some (.s 24)) none), none, [5, 7]⟩,
     ⟨(some 0), (.mv (.s 25)), none, [8, 5, 0, 1, 2, 3, 4, 5, 6, 7, 8]⟩] false)
   .skip)))
  (.seq (.region [
    ⟨(some 26), (.mv (.s 0)), none, []⟩,
    ⟨(some 4), (.mv (.s 26)), none, [0, 0]⟩] false)
  (.pre ⟨0, [], true, [], [(4, (.ints .u8 []), 1)]⟩ .ret))))), false, none, none⟩

/-- euphroe/roots.Root -/
def k75 : Fun := ⟨3, 19, [0, 1, 2, 6, 7, 12], [(.tmp 6), (.tmp 7)],
  (.seq (.region [
    ⟨(some 6), (.mv (.c (.int .u64 0))), none, []⟩,
    ⟨(some 7), (.mv (.c (.int .i64 0))), none, [0]⟩] false)
  (.seq (.seq (.region [
    ⟨(some 8), (.mv (.s 0)), none, []⟩,
    ⟨(some 9), (.mv (.s 1)), none, []⟩,
    ⟨(some 10), (.mv (.s 2)), none, []⟩,
    ⟨(some 11), (.call (.c (.fn 100 [])) [(.s 8), (.s 9), (.s 10)]), none, [0, 1, 2]⟩,
    ⟨(some 12), (.un .not (.s 11)), none, [3]⟩] false)
  (.cond (.s 12)
   (.seq (.region [
     ⟨(some 6), (.mv (.c (.int .u64 0))), none, []⟩,
     ⟨(some 7), (.mv (.c (.int .i64 1))), none, [0, 0]⟩] false)
   .ret)
   .skip))
  (.seq (.region [
    ⟨(some 13), (.mv (.s 0)), none, []⟩,
    ⟨(some 14), (.mv (.s 1)), none, []⟩,
    ⟨(some 15), (.call (.c (.fn 101 [])) [(.s 13), (.s 14)]), none, [0, 1]⟩,
    ⟨(some 16), (.mv (.s 2)), none, []⟩,
    ⟨(some 17), (.bin .sub (.c (.int .i64 32)) (.s 16)), none, [3]⟩,
    ⟨(some 18), (.bin .shr (.s 15) (.s 17)), none, [2, 4]⟩,
    ⟨(some 6), (.mv (.s 18)), none, [5, 2, 0, 1, 2, 3, 4, 5]⟩,
    ⟨(some 7), (.mv (.c (.int .i64 0))), none, [6, 0, 1, 2, 3, 4, 5, 6]⟩] false)
  .ret))), false, (some [(Sh.int .i64), (Sh.int .i64), (Sh.int .i64)]), (some (Sh.tu (Sh.pr (Sh.int .u64) (Sh.int .i64))))⟩

/-- euphroe/roots.Frac -/
def k78 : Fun := ⟨2, 15, [0, 1, 4, 5], [(.tmp 4)],
  (.seq (.region [
    ⟨(some 4), (.mv (.c (.int .u32 0))), none, []⟩] false)
  (.seq (.region [
    ⟨(some 8), (.mv (.s 0)), none, []⟩,
    ⟨(some 9), (.mv (.s 1)), none, []⟩,
    ⟨(some 10), (.call (.c (.fn 75 [])) [(.s 8), (.s 9), (.c (.int .i64 32))]), none, [0, 1]⟩,
    ⟨(some 7), (.mv (.s 10)), none, [2]⟩,
    ⟨(some 11), (.ext (.s 7) 0), none, [3]⟩,
    ⟨(some 12), (.ext (.s 7) 1), none, [3]⟩,
    ⟨(some 5), (.mv (.s 11)), none, [4, 2, 0, 1, 2, 3, 4]⟩,
    ⟨(some 6), (.mv (.s 12)), none, [5, 6, 0, 1, 2, 3, 4, 5, 6]⟩] false)
  (.seq (.region [
    ⟨(some 13), (.mv (.s 5)), none, []⟩,
    ⟨(some 14), (.cvi .u32 (.s 13)), none, [0]⟩,
    ⟨(some 4), (.mv (.s 14)), none, [1, 0, 1]⟩] false)
  .ret))), false, (some [(Sh.int .i64), (Sh.int .i64)]), (some (Sh.int .u32))⟩

/-- euphroe/roots.Primes -/
def k81 : Fun := ⟨1, 33, [0, 2, 3, 4, 6, 14, 17, 18, 19, 20, 26], [(.tmp 2)],
  (.seq (.region [
    ⟨(some 2), (.mv (.c .nils)), none, []⟩] false)
  (.scope
   (.seq (.region [
     ⟨(some 3), (.mv (.c .nils)), none, []⟩] false)
   (.seq (.label 0)
   (.seq (.seq (.region [
     ⟨(some 4), (.mv (.c (.int .i64 2))), none, []⟩] false)
   (.block 0
    (.loop ⟨0, [], false, [0, 3, 4], [(3, (.ints .i64 []), 1)]⟩
     (.seq (.seq (.region [
       ⟨(some 7), (.mv (.s 4)), none, []⟩,
       ⟨(some 8), (.bin .lss (.s 7) (.c (.int .i64 1000))), none, [0]⟩,
       ⟨(some 9), (.mv (.s 8)), none, [1]⟩,
       ⟨(some 10), (.mv (.s 3)), (some (9, true)), [2]⟩,
       ⟨(some 11), (.len false (.s 10)), (some (9, true)), [3, 2]⟩,
       ⟨(some 12), (.mv (.s 0)), (some (9, true)), [2]⟩,
       ⟨(some 13), (.bin .lss (.s 11) (.s 12)), (some (9, true)), [4, 5, 2]⟩,
       ⟨(some 14), (.pick (.s 9) (.s 13) (.c (.bool false))), none, [2, 6]⟩] false)
     (.cond (.s 14)
      .skip
      (.pre ⟨0, [], false, [3], []⟩ (.exit 0))))
     (.seq (.block 1
      (.seq (.seq (.region [
        ⟨(some 17), (.mv (.s 3)), none, []⟩,
        ⟨(some 18), (.len false (.s 17)), none, [0]⟩,
        ⟨(some 19), (.mv (.c (.int .i64 0))), none, []⟩] false)
      (.block 2
       (.loop ⟨1, [], false, [0, 3, 4, 17, 18, 19], []⟩
        (.seq (.region [
          ⟨(some 20), (.bin .lss (.s 19) (.s 18)), none, []⟩] false)
        (.seq (.cond (.s 20)
         .skip
         (.pre ⟨0, [], false, [0, 3, 4], []⟩ (.exit 2)))
        (.seq (.block 3
         (.seq (.region [
           ⟨(some 21), (.iad 1 (.s 17) (.s 19)), none, []⟩,
           ⟨(some 22), (.ldc (.s 21)), none, [0]⟩,
           ⟨(some 6), (.mv (.s 22)), none, [1, 0, 1]⟩] false)
         (.seq (.region [
           ⟨(some 23), (.mv (.s 4)), none, []⟩,
           ⟨(some 24), (.mv (.s 6)), none, []⟩,
           ⟨(some 25), (.bin .rem (.s 23) (.s 24)), none, [0, 1]⟩,
           ⟨(some 26), (.bin .eql (.s 25) (.c (.int .i64 0))), none, [2]⟩] false)
         (.cond (.s 26)
          (.pre ⟨0, [], false, [0, 3, 4], []⟩ (.exit 1))
          .skip))))
        (.region [
          ⟨(some 27), (.bin .add (.s 19) (.c (.int .i64 1))), none, []⟩,
          ⟨(some 19), (.mv (.s 27)), none, [0]⟩] false)))))))
      (.region [
        ⟨(some 28), (.mv (.s 3)), none, []⟩,
        ⟨(some 29), (.mv (.s 4)), none, []⟩,
        ⟨(some 30), (.bsl 1 1 (.ints .i64 [0]) [(0, 1, (.s 29))]), none, [1]⟩,
        ⟨(some 31), (.app 1 8 (.s 28) (.s 30)), none, [0, 2]⟩,
        ⟨(some 3), (.mv (.s 31)), none, [3, 3, 0, 1, 2, 3]⟩] false)))
     (.region [
       ⟨(some 15), (.mv (.s 4)), none, []⟩,
       ⟨(some 16), (.bin .add (.s 15) (.c (.int .i64 1))), none, [0]⟩,
       ⟨(some 4), (.mv (.s 16)), none, [1, 0, 1]⟩] false))))))
   (.seq (.region [
     ⟨(some 32), (.mv (.s 3)), none, []⟩,
     ⟨(some 2), (.mv (.s 32)), none, [0, 0]⟩] false)
   .ret)))))), false, (some [(Sh.int .i64)]), (some (Sh.sl (Sh.int .i64)))⟩

/-- euphroe/roots.Fracs -/
def k83 : Fun := ⟨2, 23, [0, 1, 4, 5, 7, 9, 10, 11, 12], [(.tmp 4)],
  (.seq (.region [
    ⟨(some 4), (.mv (.c .nils)), none, []⟩] false)
  (.seq (.region [
    ⟨(some 5), (.mv (.c .nils)), none, []⟩] false)
  (.seq (.seq (.region [
    ⟨(some 8), (.mv (.s 0)), none, []⟩,
    ⟨(some 9), (.call (.c (.fn 81 [])) [(.s 8)]), none, [0]⟩,
    ⟨(some 10), (.len false (.s 9)), none, [1]⟩,
    ⟨(some 11), (.mv (.c (.int .i64 0))), none, []⟩] false)
  (.block 0
   (.loop ⟨0, [], false, [1, 5, 9, 10, 11], [(5, (.ints .u32 []), 1)]⟩
    (.seq (.region [
      ⟨(some 12), (.bin .lss (.s 11) (.s 10)), none, []⟩] false)
    (.seq (.cond (.s 12)
     .skip
     (.pre ⟨0, [], false, [5], []⟩ (.exit 0)))
    (.seq (.block 1
     (.seq (.region [
       ⟨(some 13), (.iad 1 (.s 9) (.s 11)), none, []⟩,
       ⟨(some 14), (.ldc (.s 13)), none, [0]⟩,
       ⟨(some 7), (.mv (.s 14)), none, [1, 0, 1]⟩] false)
     (.region [
       ⟨(some 15), (.mv (.s 5)), none, []⟩,
       ⟨(some 16), (.mv (.s 7)), none, []⟩,
       ⟨(some 17), (.mv (.s 1)), none, []⟩,
       ⟨(some 18), (.call (.c (.fn 78 [])) [(.s 16), (.s 17)]), none, [1, 2]⟩,
       ⟨(some 19), (.bsl 1 1 (.ints .u32 [0]) [(0, 1, (.s 18))]), none, [3]⟩,
       ⟨(some 20), (.app 1 4 (.s 15) (.s 19)), none, [0, 4, 3]⟩,
       ⟨(some 5), (.mv (.s 20)), none, [5, 5, 0, 1, 2, 3, 4, 5]⟩] false)))
    (.region [
      ⟨(some 21), (.bin .add (.s 11) (.c (.int .i64 1))), none, []⟩,
      ⟨(some 11), (.mv (.s 21)), none, [0]⟩] false)))))))
  (.seq (.region [
    ⟨(some 22), (.mv (.s 5)), none, []⟩,
    ⟨(some 4), (.mv (.s 22)), none, [0, 0]⟩] false)
  .ret)))), false, (some [(Sh.int .i64), (Sh.int .i64)]), (some (Sh.sl (Sh.int .u32)))⟩

/-- euphroe/roots.may -/
def k100 : Fun := ⟨3, 29, [0, 1, 2, 6], [(.tmp 6)],
  (.seq (.region [
    ⟨(some 6), (.mv (.c (.bool false))), none, []⟩] false)
  (.seq (.region [
    ⟨(some 7), (.mv (.s 0)), none, []⟩,
    ⟨(some 8), (.bin .geq (.s 7) (.c (.int .i64 0))), none, [0]⟩,
    ⟨(some 9), (.mv (.s 8)), none, [1]⟩,
    ⟨(some 10), (.mv (.s 0)), (some (9, true)), [2]⟩,
    ⟨(some 11), (.bin .leq (.s 10) (.c (.int .i64 1000))), (some (9, true)), [3, 2]⟩,
    ⟨(some 12), (.pick (.s 9) (.s 11) (.c (.bool false))), none, [2, 4]⟩,
    ⟨(some 13), (.mv (.s 12)), none, [5, 2]⟩,
    ⟨(some 14), (.mv (.s 1)), (some (13, true)), [6]⟩,
    ⟨(some 15), (.bin .eql (.s 14) (.c (.int .i64 2))), (some (13, true)), [7, 6]⟩,
    ⟨(some 16), (.mv (.s 15)), (some (13, true)), [8, 6, 6]⟩,
    ⟨(some 17), (.mv (.s 1)), (some (16, false)), [9]⟩,
    ⟨(some 18), (.bin .eql (.s 17) (.c (.int .i64 3))), (some (16, false)), [10, 9]⟩,
    ⟨(some 19), (.pick (.s 16) (.c (.bool true)) (.s 18)), (some (13, true)), [9, 11, 6]⟩,
    ⟨(some 20), (.pick (.s 13) (.s 19) (.c (.bool false))), none, [6, 12]⟩,
    ⟨(some 21), (.mv (.s 20)), none, [13, 9]⟩,
    ⟨(some 22), (.mv (.s 2)), (some (21, true)), [14]⟩,
    ⟨(some 23), (.bin .geq (.s 22) (.c (.int .i64 0))), (some (21, true)), [15, 14]⟩,
    ⟨(some 24), (.pick (.s 21) (.s 23) (.c (.bool false))), none, [14, 16]⟩,
    ⟨(some 25), (.mv (.s 24)), none, [17, 14]⟩,
    ⟨(some 26), (.mv (.s 2)), (some (25, true)), [18]⟩,
    ⟨(some 27), (.bin .leq (.s 26) (.c (.int .i64 32))), (some (25, true)), [19, 18]⟩,
    ⟨(some 28), (.pick (.s 25) (.s 27) (.c (.bool false))), none, [18, 20]⟩,
    ⟨(some 6), (.mv (.s 28)), none, [21, 18, 0, 1, 2, 3, 4, 5, 6, 7, 8, 9, 10, 11, 12, 13, 14, 15, 16, 17, 18, 19, 20, 21]⟩] false)
  .ret)), false, (some [(Sh.int .i64), (Sh.int .i64), (Sh.int .i64)]), (some Sh.bool)⟩

/-- euphroe/roots.full -/
def k101 : Fun := ⟨2, 8, [0, 1, 2, 3, 4], [(.tmp 4)],
  (.seq (.region [
    ⟨(some 2), (.box (.s 0)), none, []⟩,
    ⟨(some 3), (.box (.s 1)), none, []⟩,
    ⟨(some 4), (.mv (.c (.int .u64 0))), none, []⟩] false)
  (.seq (.region [
    ⟨(some 5), (.mkf 115 [(.s 2), (.s 3)]), none, []⟩,
    ⟨(some 6), (.call (.c (.fn 114 [])) [(.c (.int .i64 274877906944)), (.s 5)]), none, [0]⟩,
    ⟨(some 7), (.cvi .u64 (.s 6)), none, [1]⟩,
    ⟨(some 4), (.mv (.s 7)), none, [2, 1, 0, 1, 2]⟩] false)
  .ret)), false, (some [(Sh.int .i64), (Sh.int .i64)]), (some (Sh.int .u64))⟩

/-- sort.Search -/
def k114 : Fun := ⟨2, 26, [0, 1, 4, 5, 6, 7, 11, 21], [(.tmp 4)],
  (.seq (.region [
    ⟨(some 4), (.mv (.c (.int .i64 0))), none, []⟩] false)
  (.seq (.region [
    ⟨(some 8), (.mv (.s 0)), none, []⟩,
    ⟨(some 5), (.mv (.c (.int .i64 0))), none, []⟩,
    ⟨(some 6), (.mv (.s 8)), none, [0, 1, 0, 1]⟩] false)
  (.seq (.block 0
   (.loop ⟨0, [], false, [1, 5, 6], []⟩
    (.seq (.seq (.region [
      ⟨(some 9), (.mv (.s 5)), none, []⟩,
      ⟨(some 10), (.mv (.s 6)), none, []⟩,
      ⟨(some 11), (.bin .lss (.s 9) (.s 10)), none, [0, 1]⟩] false)
    (.cond (.s 11)
     .skip
     (.pre ⟨0, [], false, [5], []⟩ (.exit 0))))
    (.block 1
     (.seq (.region [
       ⟨(some 12), (.mv (.s 5)), none, []⟩,
       ⟨(some 13), (.mv (.s 6)), none, []⟩,
       ⟨(some 14), (.bin .add (.s 12) (.s 13)), none, [0, 1]⟩,
       ⟨(some 15), (.cvi .u64 (.s 14)), none, [2]⟩,
       ⟨(some 16), (.bin .shr (.s 15) (.c (.int .u64 1))), none, [3]⟩,
       ⟨(some 17), (.cvi .i64 (.s 16)), none, [4]⟩,
       ⟨(some 7), (.mv (.s 17)), none, [5, 0, 1, 2, 3, 4, 5]⟩] false)
     (.seq (.region [
       ⟨(some 18), (.mv (.s 1)), none, []⟩,
       ⟨(some 19), (.mv (.s 7)), none, []⟩,
       ⟨(some 20), (.call (.s 18) [(.s 19)]), none, [0, 1]⟩,
       ⟨(some 21), (.un .not (.s 20)), none, [2]⟩] false)
     (.cond (.s 21)
      (.region [
        ⟨(some 22), (.mv (.s 7)), none, []⟩,
        ⟨(some 23), (.bin .add (.s 22) (.c (.int .i64 1))), none, [0]⟩,
        ⟨(some 5), (.mv (.s 23)), none, [1, 0, 1]⟩] false)
      (.region [
        ⟨(some 24), (.mv (.s 7)), none, []⟩,
        ⟨(some 6), (.mv (.s 24)), none, [0, 0]⟩] false))))))))
  (.seq (.region [
    ⟨(some 25), (.mv (.s 5)), none, []⟩,
    ⟨(some 4), (.mv (.s 25)), none, [0, 0]⟩] false)
  .ret)))), false, none, none⟩

/-- euphroe/roots.full$1 -/
def k115 : Fun := ⟨3, 13, [0, 1, 2, 4], [(.tmp 4)],
  (.seq (.region [
    ⟨(some 4), (.mv (.c (.bool false))), none, []⟩] false)
  (.seq (.region [
    ⟨(some 5), (.mv (.s 0)), none, []⟩,
    ⟨(some 6), (.cvi .u64 (.s 5)), none, [0]⟩,
    ⟨(some 7), (.bin .add (.s 6) (.c (.int .u64 1))), none, [1]⟩,
    ⟨(some 8), (.ldc (.s 1)), none, []⟩,
    ⟨(some 9), (.cvi .u64 (.s 8)), none, [3]⟩,
    ⟨(some 10), (.ldc (.s 2)), none, []⟩,
    ⟨(some 11), (.call (.c (.fn 116 [])) [(.s 7), (.s 9), (.s 10)]), none, [2, 4, 5]⟩,
    ⟨(some 12), (.un .not (.s 11)), none, [6]⟩,
    ⟨(some 4), (.mv (.s 12)), none, [7, 6, 0, 1, 2, 3, 4, 5, 6, 7]⟩] false)
  .ret)), false, none, none⟩

/-- euphroe/roots.fits -/
def k116 : Fun := ⟨3, 57, [0, 1, 2, 6, 7, 8, 9, 10, 11, 19], [(.tmp 6)],
  (.seq (.region [
    ⟨(some 6), (.mv (.c (.bool false))), none, []⟩] false)
  (.seq (.region [
    ⟨(some 13), (.mv (.s 0)), none, []⟩,
    ⟨(some 14), (.mv (.s 0)), none, []⟩,
    ⟨(some 15), (.call (.c (.fn 120 [])) [(.s 13), (.s 14)]), none, [0, 1]⟩,
    ⟨(some 12), (.mv (.s 15)), none, [2]⟩,
    ⟨(some 16), (.ext (.s 12) 0), none, [3]⟩,
    ⟨(some 17), (.ext (.s 12) 1), none, [3]⟩,
    ⟨(some 7), (.mv (.s 16)), none, [4, 2, 0, 1, 2, 3, 4]⟩,
    ⟨(some 8), (.mv (.s 17)), none, [5, 6, 0, 1, 2, 3, 4, 5, 6]⟩] false)
  (.seq (.seq (.region [
    ⟨(some 18), (.mv (.s 2)), none, []⟩,
    ⟨(some 19), (.bin .eql (.s 18) (.c (.int .i64 2))), none, [0]⟩] false)
  (.cond (.s 19)
   (.seq (.region [
     ⟨(some 20), (.mv (.s 7)), none, []⟩,
     ⟨(some 21), (.mv (.s 1)), none, []⟩,
     ⟨(some 22), (.bin .lss (.s 20) (.s 21)), none, [0, 1]⟩,
     ⟨(some 23), (.mv (.s 22)), none, [2]⟩,
     ⟨(some 24), (.mv (.s 7)), (some (23, false)), [3]⟩,
     ⟨(some 25), (.mv (.s 1)), (some (23, false)), [3]⟩,
     ⟨(some 26), (.bin .eql (.s 24) (.s 25)), (some (23, false)), [4, 5, 3]⟩,
     ⟨(some 27), (.mv (.s 26)), (some (23, false)), [6, 3, 3]⟩,
     ⟨(some 28), (.mv (.s 8)), (some (27, true)), [7]⟩,
     ⟨(some 29), (.bin .eql (.s 28) (.c (.int .u64 0))), (some (27, true)), [8, 7]⟩,
     ⟨(some 30), (.pick (.s 27) (.s 29) (.c (.bool false))), (some (23, false)), [7, 9, 3]⟩,
     ⟨(some 31), (.pick (.s 23) (.c (.bool true)) (.s 30)), none, [3, 10]⟩,
     ⟨(some 6), (.mv (.s 31)), none, [11, 7, 0, 1, 2, 3, 4, 5, 6, 7, 8, 9, 10, 11]⟩] false)
   .ret)
   .skip))
  (.seq (.region [
    ⟨(some 33), (.mv (.s 8)), none, []⟩,
    ⟨(some 34), (.mv (.s 0)), none, []⟩,
    ⟨(some 35), (.call (.c (.fn 120 [])) [(.s 33), (.s 34)]), none, [0, 1]⟩,
    ⟨(some 32), (.mv (.s 35)), none, [2]⟩,
    ⟨(some 36), (.ext (.s 32) 0), none, [3]⟩,
    ⟨(some 37), (.ext (.s 32) 1), none, [3]⟩,
    ⟨(some 9), (.mv (.s 36)), none, [4, 2, 0, 1, 2, 3, 4]⟩,
    ⟨(some 10), (.mv (.s 37)), none, [5, 6, 0, 1, 2, 3, 4, 5, 6]⟩] false)
  (.seq (.region [
    ⟨(some 38), (.mv (.s 7)), none, []⟩,
    ⟨(some 39), (.mv (.s 0)), none, []⟩,
    ⟨(some 40), (.bin .mul (.s 38) (.s 39)), none, [0, 1]⟩,
    ⟨(some 41), (.mv (.s 9)), none, []⟩,
    ⟨(some 42), (.bin .add (.s 40) (.s 41)), none, [2, 3]⟩,
    ⟨(some 11), (.mv (.s 42)), none, [4, 0, 1, 2, 3, 4]⟩] false)
  (.seq (.region [
    ⟨(some 43), (.mv (.s 11)), none, []⟩,
    ⟨(some 44), (.mv (.s 1)), none, []⟩,
    ⟨(some 45), (.bin .shl (.s 44) (.c (.int .u64 32))), none, [1]⟩,
    ⟨(some 46), (.bin .lss (.s 43) (.s 45)), none, [0, 2]⟩,
    ⟨(some 47), (.mv (.s 46)), none, [3]⟩,
    ⟨(some 48), (.mv (.s 11)), (some (47, false)), [4]⟩,
    ⟨(some 49), (.mv (.s 1)), (some (47, false)), [4]⟩,
    ⟨(some 50), (.bin .shl (.s 49) (.c (.int .u64 32))), (some (47, false)), [6, 4]⟩,
    ⟨(some 51), (.bin .eql (.s 48) (.s 50)), (some (47, false)), [5, 7, 4]⟩,
    ⟨(some 52), (.mv (.s 51)), (some (47, false)), [8, 4, 4]⟩,
    ⟨(some 53), (.mv (.s 10)), (some (52, true)), [9]⟩,
    ⟨(some 54), (.bin .eql (.s 53) (.c (.int .u64 0))), (some (52, true)), [10, 9]⟩,
    ⟨(some 55), (.pick (.s 52) (.s 54) (.c (.bool false))), (some (47, false)), [9, 11, 4]⟩,
    ⟨(some 56), (.pick (.s 47) (.c (.bool true)) (.s 55)), none, [4, 12]⟩,
    ⟨(some 6), (.mv (.s 56)), none, [13, 9, 0, 1, 2, 3, 4, 5, 6, 7, 8, 9, 10, 11, 12, 13]⟩] false)
  .ret)))))), false, (some [(Sh.int .u64), (Sh.int .u64), (Sh.int .i64)]), (some Sh.bool)⟩

/-- math/bits.Mul64 -/
def k120 : Fun := ⟨2, 51, [0, 1, 4, 5, 6, 7, 8, 9, 10, 11, 12, 13], [(.tmp 4), (.tmp 5)],
  (.seq (.region [
    ⟨(some 4), (.mv (.c (.int .u64 0))), none, []⟩,
    ⟨(some 5), (.mv (.c (.int .u64 0))), none, [0]⟩] false)
  (.seq (.region [
    ⟨(some 14), (.mv (.s 0)), none, []⟩,
    ⟨(some 15), (.bin .and (.s 14) (.c (.int .u64 4294967295))), none, [0]⟩,
    ⟨(some 6), (.mv (.s 15)), none, [1, 0, 1]⟩] false)
  (.seq (.region [
    ⟨(some 16), (.mv (.s 0)), none, []⟩,
    ⟨(some 17), (.bin .shr (.s 16) (.c (.int .u64 32))), none, [0]⟩,
    ⟨(some 7), (.mv (.s 17)), none, [1, 0, 1]⟩] false)
  (.seq (.region [
    ⟨(some 18), (.mv (.s 1)), none, []⟩,
    ⟨(some 19), (.bin .and (.s 18) (.c (.int .u64 4294967295))), none, [0]⟩,
    ⟨(some 8), (.mv (.s 19)), none, [1, 0, 1]⟩] false)
  (.seq (.region [
    ⟨(some 20), (.mv (.s 1)), none, []⟩,
    ⟨(some 21), (.bin .shr (.s 20) (.c (.int .u64 32))), none, [0]⟩,
    ⟨(some 9), (.mv (.s 21)), none, [1, 0, 1]⟩] false)
  (.seq (.region [
    ⟨(some 22), (.mv (.s 6)), none, []⟩,
    ⟨(some 23), (.mv (.s 8)), none, []⟩,
    ⟨(some 24), (.bin .mul (.s 22) (.s 23)), none, [0, 1]⟩,
    ⟨(some 10), (.mv (.s 24)), none, [2, 0, 1, 2]⟩] false)
  (.seq (.region [
    ⟨(some 25), (.mv (.s 7)), none, []⟩,
    ⟨(some 26), (.mv (.s 8)), none, []⟩,
    ⟨(some 27), (.bin .mul (.s 25) (.s 26)), none, [0, 1]⟩,
    ⟨(some 28), (.mv (.s 10)), none, []⟩,
    ⟨(some 29), (.bin .shr (.s 28) (.c (.int .u64 32))), none, [3]⟩,
    ⟨(some 30), (.bin .add (.s 27) (.s 29)), none, [2, 4]⟩,
    ⟨(some 11), (.mv (.s 30)), none, [5, 0, 1, 2, 3, 4, 5]⟩] false)
  (.seq (.region [
    ⟨(some 31), (.mv (.s 11)), none, []⟩,
    ⟨(some 32), (.bin .and (.s 31) (.c (.int .u64 4294967295))), none, [0]⟩,
    ⟨(some 12), (.mv (.s 32)), none, [1, 0, 1]⟩] false)
  (.seq (.region [
    ⟨(some 33), (.mv (.s 11)), none, []⟩,
    ⟨(some 34), (.bin .shr (.s 33) (.c (.int .u64 32))), none, [0]⟩,
    ⟨(some 13), (.mv (.s 34)), none, [1, 0, 1]⟩] false)
  (.seq (.region [
    ⟨(some 35), (.mv (.s 12)), none, []⟩,
    ⟨(some 36), (.mv (.s 6)), none, []⟩,
    ⟨(some 37), (.mv (.s 9)), none, []⟩,
    ⟨(some 38), (.bin .mul (.s 36) (.s 37)), none, [1, 2]⟩,
    ⟨(some 39), (.bin .add (.s 35) (.s 38)), none, [0, 3]⟩,
    ⟨(some 12), (.mv (.s 39)), none, [4, 0, 1, 2, 3, 4]⟩] false)
  (.seq (.region [
    ⟨(some 40), (.mv (.s 7)), none, []⟩,
    ⟨(some 41), (.mv (.s 9)), none, []⟩,
    ⟨(some 42), (.bin .mul (.s 40) (.s 41)), none, [0, 1]⟩,
    ⟨(some 43), (.mv (.s 13)), none, []⟩,
    ⟨(some 44), (.bin .add (.s 42) (.s 43)), none, [2, 3]⟩,
    ⟨(some 45), (.mv (.s 12)), none, []⟩,
    ⟨(some 46), (.bin .shr (.s 45) (.c (.int .u64 32))), none, [5]⟩,
    ⟨(some 47), (.bin .add (.s 44) (.s 46)), none, [4, 6]⟩,
    ⟨(some 4), (.mv (.s 47)), none, [7, 0, 1, 2, 3, 4, 5, 6, 7]⟩] false)
  (.seq (.region [
    ⟨(some 48), (.mv (.s 0)), none, []⟩,
    ⟨(some 49), (.mv (.s 1)), none, []⟩,
    ⟨(some 50), (.bin .mul (.s 48) (.s 49)), none, [0, 1]⟩,
    ⟨(some 5), (.mv (.s 50)), none, [2, 0, 1, 2]⟩] false)
  .ret)))))))))))), false, (some [(Sh.int .u64), (Sh.int .u64)]), (some (Sh.tu (Sh.pr (Sh.int .u64) (Sh.int .u64))))⟩

/-- euphroe/euphroeref04.Tail -/
def k177 : Fun := ⟨1, 32, [0, 2, 3, 4, 5, 13, 20], [(.tmp 2)],
  (.seq (.region [
    ⟨(some 2), (.mv (.c .nils)), none, []⟩] false)
  (.seq (.region [
    ⟨(some 6), (.bsl 1 1 (.ints .u8 [0]) [(0, 1, (.c (.int .u8 128)))]), none, []⟩,
    ⟨(some 3), (.mv (.s 6)), none, [0, 0]⟩] false)
  (.seq (.block 0
   (.loop ⟨0, [], false, [0, 3], [(3, (.imm []), 1)]⟩
    (.seq (.seq (.region [
      ⟨(some 7), (.mv (.s 0)), none, []⟩,
      ⟨(some 8), (.mv (.s 3)), none, []⟩,
      ⟨(some 9), (.len false (.s 8)), none, [1]⟩,
      ⟨(some 10), (.cvi .u64 (.s 9)), none, [2]⟩,
      ⟨(some 11), (.bin .add (.s 7) (.s 10)), none, [0, 3]⟩,
      ⟨(some 12), (.bin .rem (.s 11) (.c (.int .u64 64))), none, [4]⟩,
      ⟨(some 13), (.bin .neq (.s 12) (.c (.int .u64 56))), none, [5]⟩] false)
    (.cond (.s 13)
     .skip
     (.pre ⟨0, [], false, [0, 3], []⟩ (.exit 0))))
    (.block 1
     (.region [
       ⟨(some 14), (.mv (.s 3)), none, []⟩,
       ⟨(some 15), (.bsl 1 1 (.ints .u8 [0]) [(0, 1, (.c (.int .u8 0)))]), none, []⟩,
       ⟨(some 16), (.app 1 1 (.s 14) (.s 15)), none, [0, 1]⟩,
       ⟨(some 3), (.mv (.s 16)), none, [2, 2, 0, 1, 2]⟩] false)))))
  (.seq (.region [
    ⟨(some 17), (.mv (.s 0)), none, []⟩,
    ⟨(some 18), (.bin .mul (.c (.int .u64 8)) (.s 17)), none, [0]⟩,
    ⟨(some 4), (.mv (.s 18)), none, [1, 0, 1]⟩] false)
  (.seq (.seq (.region [
    ⟨(some 5), (.mv (.c (.int .i64 0))), none, []⟩] false)
  (.block 2
   (.loop ⟨1, [], false, [3, 4, 5], []⟩
    (.seq (.seq (.region [
      ⟨(some 19), (.mv (.s 5)), none, []⟩,
      ⟨(some 20), (.bin .lss (.s 19) (.c (.int .i64 8))), none, [0]⟩] false)
    (.cond (.s 20)
     .skip
     (.pre ⟨0, [], false, [3], []⟩ (.exit 2))))
    (.seq (.block 3
     (.seq (.region [
       ⟨(some 23), (.mv (.s 3)), none, []⟩,
       ⟨(some 24), (.mv (.s 4)), none, []⟩,
       ⟨(some 25), (.bin .rem (.s 24) (.c (.int .u64 256))), none, [1]⟩,
       ⟨(some 26), (.cvi .u8 (.s 25)), none, [2]⟩,
       ⟨(some 27), (.bsl 1 1 (.ints .u8 [0]) [(0, 1, (.s 26))]), none, [3]⟩,
       ⟨(some 28), (.app 1 1 (.s 23) (.s 27)), none, [0, 4]⟩,
       ⟨(some 3), (.mv (.s 28)), none, [5, 5, 0, 1, 2, 3, 4, 5]⟩] false)
     (.region [
       ⟨(some 29), (.mv (.s 4)), none, []⟩,
       ⟨(some 30), (.bin .quo (.s 29) (.c (.int .u64 256))), none, [0]⟩,
       ⟨(some 4), (.mv (.s 30)), none, [1, 0, 1]⟩] false)))
    (.region [
      ⟨(some 21), (.mv (.s 5)), none, []⟩,
      ⟨(some 22), (.bin .add (.s 21) (.c (.int .i64 1))), none, [0]⟩,
      ⟨(some 5), (.mv (.s 22)), none, [1, 0, 1]⟩] false))))))
  (.seq (.region [
    ⟨(some 31), (.mv (.s 3)), none, []⟩,
    ⟨(some 2), (.mv (.s 31)), none, [0, 0]⟩] false)
  .ret)))))), false, (some [(Sh.int .u64)]), (some (Sh.sl (Sh.int .u8)))⟩

/-- euphroe/euphroeref05.Tail -/
def k186 : Fun := ⟨1, 30, [0, 2, 3, 4, 5, 6, 17], [(.tmp 2)],
  (.seq (.region [
    ⟨(some 2), (.mv (.c .nils)), none, []⟩] false)
  (.seq (.region [
    ⟨(some 7), (.mv (.s 0)), none, []⟩,
    ⟨(some 8), (.call (.c (.fn 177 [])) [(.s 7)]), none, [0]⟩,
    ⟨(some 3), (.mv (.s 8)), none, [1, 1, 0, 1]⟩] false)
  (.seq (.region [
    ⟨(some 9), (.mv (.s 3)), none, []⟩,
    ⟨(some 10), (.len false (.s 9)), none, [0]⟩,
    ⟨(some 11), (.bin .sub (.s 10) (.c (.int .i64 8))), none, [1]⟩,
    ⟨(some 4), (.mv (.s 11)), none, [2, 0, 1, 2]⟩] false)
  (.seq (.region [
    ⟨(some 12), (.mv (.s 3)), none, []⟩,
    ⟨(some 13), (.mv (.s 4)), none, []⟩,
    ⟨(some 14), (.sls 1 (.s 12) none (some (.s 13)) none), none, [0, 1]⟩,
    ⟨(some 15), (.app 1 1 (.c .nils) (.s 14)), none, [2]⟩,
    ⟨(some 5), (.mv (.s 15)), none, [3, 3, 0, 1, 2, 3]⟩] false)
  (.seq (.seq (.region [
    ⟨(some 6), (.mv (.c (.int .i64 7))), none, []⟩] false)
  (.block 0
   (.loop ⟨0, [], false, [3, 4, 5, 6], []⟩
    (.seq (.seq (.region [
      ⟨(some 16), (.mv (.s 6)), none, []⟩,
      ⟨(some 17), (.bin .geq (.s 16) (.c (.int .i64 0))), none, [0]⟩] false)
    (.cond (.s 17)
     .skip
     (.pre ⟨0, [], false, [5], []⟩ (.exit 0))))
    (.seq (.block 1
     (.region [
       ⟨(some 20), (.mv (.s 5)), none, []⟩,
       ⟨(some 21), (.mv (.s 3)), none, []⟩,
       ⟨(some 22), (.mv (.s 4)), none, []⟩,
       ⟨(some 23), (.mv (.s 6)), none, []⟩,
       ⟨(some 24), (.bin .add (.s 22) (.s 23)), none, [2, 3]⟩,
       ⟨(some 25), (.iad 1 (.s 21) (.s 24)), none, [1, 4]⟩,
       ⟨(some 26), (.ldc (.s 25)), none, [5]⟩,
       ⟨(some 27), (.bsl 1 1 (.ints .u8 [0]) [(0, 1, (.s 26))]), none, [6]⟩,
       ⟨(some 28), (.app 1 1 (.s 20) (.s 27)), none, [0, 7]⟩,
       ⟨(some 5), (.mv (.s 28)), none, [8, 8, 0, 1, 2, 3, 4, 5, 6, 7, 8]⟩] false))
    (.region [
      ⟨(some 18), (.mv (.s 6)), none, []⟩,
      ⟨(some 19), (.bin .sub (.s 18) (.c (.int .i64 1))), none, [0]⟩,
      ⟨(some 6), (.mv (.s 19)), none, [1, 0, 1]⟩] false))))))
  (.seq (.region [
    ⟨(some 29), (.mv (.s 5)), none, []⟩,
    ⟨(some 2), (.mv (.s 29)), none, [0, 0]⟩] false)
  .ret)))))), false, (some [(Sh.int .u64)]), (some (Sh.sl (Sh.int .u8)))⟩

/-- math/bits.RotateLeft32 -/
def k195 : Fun := ⟨2, 17, [0, 1, 4, 5], [(.tmp 4)],
  (.seq (.region [
    ⟨(some 4), (.mv (.c (.int .u32 0))), none, []⟩] false)
  (.seq (.region [
    ⟨(some 6), (.mv (.s 1)), none, []⟩,
    ⟨(some 7), (.cvi .u64 (.s 6)), none, [0]⟩,
    ⟨(some 8), (.bin .and (.s 7) (.c (.int .u64 31))), none, [1]⟩,
    ⟨(some 5), (.mv (.s 8)), none, [2, 0, 1, 2]⟩] false)
  (.seq (.region [
    ⟨(some 9), (.mv (.s 0)), none, []⟩,
    ⟨(some 10), (.mv (.s 5)), none, []⟩,
    ⟨(some 11), (.bin .shl (.s 9) (.s 10)), none, [0, 1]⟩,
    ⟨(some 12), (.mv (.s 0)), none, []⟩,
    ⟨(some 13), (.mv (.s 5)), none, []⟩,
    ⟨(some 14), (.bin .sub (.c (.int .u64 32)) (.s 13)), none, [4]⟩,
    ⟨(some 15), (.bin .shr (.s 12) (.s 14)), none, [3, 5]⟩,
    ⟨(some 16), (.bin .or (.s 11) (.s 15)), none, [2, 6]⟩,
    ⟨(some 4), (.mv (.s 16)), none, [7, 0, 1, 2, 3, 4, 5, 6, 7]⟩] false)
  .ret))), false, (some [(Sh.int .u32), (Sh.int .i64)]), (some (Sh.int .u32))⟩

/-- euphroe/euphroelaw06.Sha256Is -/
def k205 : Fun := ⟨1, 16, [0, 2, 5], [(.tmp 2)],
  (.seq (.region [
    ⟨(some 2), (.mv (.c (.bool false))), none, []⟩] false)
  (.seq (.seq (.region [
    ⟨(some 3), (.mv (.s 0)), none, []⟩,
    ⟨(some 4), (.len false (.s 3)), none, [0]⟩,
    ⟨(some 5), (.bin .gtr (.s 4) (.c (.int .i64 400))), none, [1]⟩] false)
  (.cond (.s 5)
   (.seq (.region [
     ⟨(some 6), (.call (.c (.fn 212 [])) []), none, []⟩,
     ⟨(some 2), (.mv (.s 6)), none, [0, 0, 0]⟩] false)
   .ret)
   .skip))
  (.seq (.region [
    ⟨(some 7), (.mv (.s 0)), none, []⟩,
    ⟨(some 8), (.bsl 1 1 (.vals [.nils]) [(0, 1, (.s 7))]), none, [0]⟩,
    ⟨(some 9), (.call (.c (.fn 213 [])) [(.s 8)]), none, [1]⟩,
    ⟨(some 10), (.mv (.s 0)), none, []⟩,
    ⟨(some 11), (.call (.c (.fn 214 [])) [(.s 10)]), none, [3, 2]⟩,
    ⟨(some 12), (.eqa 32 false (.s 9) (.s 11)), none, [2, 4]⟩,
    ⟨(some 13), (.mv (.s 12)), none, [5, 4]⟩,
    ⟨(some 14), (.call (.c (.fn 212 [])) []), (some (13, true)), [6, 6]⟩,
    ⟨(some 15), (.pick (.s 13) (.s 14) (.c (.bool false))), none, [6, 7]⟩,
    ⟨(some 2), (.mv (.s 15)), none, [8, 7, 0, 1, 2, 3, 4, 5, 6, 7, 8]⟩] false)
  .ret))), false, (some [(Sh.sl (Sh.int .u8))]), (some Sh.bool)⟩

/-- euphroe/euphroelaw06.Sha256Blocks -/
def k206 : Fun := ⟨3, 29, [0, 1, 2, 3, 4, 6], [(.tmp 6)],
  (.seq (.region [
    ⟨(some 3), (.box (.s 0)), none, []⟩,
    ⟨(some 4), (.box (.s 1)), none, []⟩,
    ⟨(some 6), (.mv (.c (.bool false))), none, []⟩] false)
  (.seq (.region [
    ⟨(some 7), (.lda 8 (some .u32) (.s 3)), none, []⟩,
    ⟨(some 8), (.lda 64 (some .u8) (.s 4)), none, []⟩,
    ⟨(some 9), (.call (.c (.fn 215 [])) [(.s 7), (.s 8)]), none, [0, 1]⟩,
    ⟨(some 10), (.lda 8 (some .u32) (.s 3)), none, []⟩,
    ⟨(some 11), (.lda 64 (some .u8) (.s 4)), none, []⟩,
    ⟨(some 12), (.call (.c (.fn 216 [])) [(.s 10), (.s 11)]), none, [3, 4, 2]⟩,
    ⟨(some 13), (.eqa 8 false (.s 9) (.s 12)), none, [2, 5]⟩,
    ⟨(some 14), (.mv (.s 13)), none, [6, 5]⟩,
    ⟨(some 15), (.mv (.s 2)), (some (14, true)), [7]⟩,
    ⟨(some 16), (.call (.c (.fn 217 [])) [(.s 15)]), (some (14, true)), [8, 7, 7]⟩,
    ⟨(some 17), (.mv (.s 2)), (some (14, true)), [7]⟩,
    ⟨(some 18), (.call (.c (.fn 218 [])) [(.s 17)]), (some (14, true)), [10, 9, 7]⟩,
    ⟨(some 19), (.call (.c (.fn 23 [])) [(.s 16), (.s 18)]), (some (14, true)), [9, 11, 11, 7]⟩,
    ⟨(some 20), (.pick (.s 14) (.s 19) (.c (.bool false))), none, [7, 12]⟩,
    ⟨(some 21), (.mv (.s 20)), none, [13, 12]⟩,
    ⟨(some 22), (.call (.c (.fn 219 [])) []), (some (21, true)), [14, 14]⟩,
    ⟨(some 23), (.call (.c (.fn 220 [])) []), (some (21, true)), [15, 14]⟩,
    ⟨(some 24), (.eqa 8 false (.s 22) (.s 23)), (some (21, true)), [15, 16, 14]⟩,
    ⟨(some 25), (.pick (.s 21) (.s 24) (.c (.bool false))), none, [14, 17]⟩,
    ⟨(some 26), (.mv (.s 25)), none, [18, 16]⟩,
    ⟨(some 27), (.call (.c (.fn 212 [])) []), (some (26, true)), [19, 19]⟩,
    ⟨(some 28), (.pick (.s 26) (.s 27) (.c (.bool false))), none, [19, 20]⟩,
    ⟨(some 6), (.mv (.s 28)), none, [21, 20, 0, 1, 2, 3, 4, 5, 6, 7, 8, 9, 10, 11, 12, 13, 14, 15, 16, 17, 18, 19, 20, 21]⟩] true)
  .ret)), false, (some [(Sh.ar .u32), (Sh.ar .u8), (Sh.int .u64)]), (some Sh.bool)⟩

/-- euphroe/euphroelaw06.Sha256Parts -/
def k207 : Fun := ⟨1, 99, [0, 2, 3, 5, 6, 7, 8, 9, 10, 13, 15, 16, 17, 18, 23, 55, 63], [(.tmp 2)],
  (.seq (.region [
    ⟨(some 2), (.mv (.c (.bool false))), none, []⟩] false)
  (.seq (.seq (.region [
    ⟨(some 11), (.mv (.s 0)), none, []⟩,
    ⟨(some 12), (.len false (.s 11)), none, [0]⟩,
    ⟨(some 13), (.bin .gtr (.s 12) (.c (.int .i64 20))), none, [1]⟩] false)
  (.cond (.s 13)
   (.seq (.region [
     ⟨(some 14), (.call (.c (.fn 212 [])) []), none, []⟩,
     ⟨(some 2), (.mv (.s 14)), none, [0, 0, 0]⟩] false)
   .ret)
   .skip))
  (.seq (.region [
    ⟨(some 3), (.mv (.c .nils)), none, []⟩] false)
  (.seq (.seq (.region [
    ⟨(some 15), (.mv (.s 0)), none, []⟩,
    ⟨(some 16), (.len false (.s 15)), none, [0]⟩,
    ⟨(some 17), (.mv (.c (.int .i64 0))), none, []⟩] false)
  (.block 0
   (.loop ⟨0, [], false, [0, 3, 15, 16, 17], [(3, (.ints .u8 []), 1)]⟩
    (.seq (.region [
      ⟨(some 18), (.bin .lss (.s 17) (.s 16)), none, []⟩] false)
    (.seq (.cond (.s 18)
     .skip
     (.pre ⟨0, [], false, [0, 3], []⟩ (.exit 0)))
    (.seq (.block 1
     (.seq (.region [
       ⟨(some 19), (.iad 1 (.s 15) (.s 17)), none, []⟩,
       ⟨(some 20), (.ldc (.s 19)), none, [0]⟩,
       ⟨(some 5), (.mv (.s 20)), none, [1, 0, 1]⟩] false)
     (.seq (.seq (.region [
       ⟨(some 21), (.mv (.s 5)), none, []⟩,
       ⟨(some 22), (.len false (.s 21)), none, [0]⟩,
       ⟨(some 23), (.bin .gtr (.s 22) (.c (.int .i64 100))), none, [1]⟩] false)
     (.cond (.s 23)
      (.seq (.region [
        ⟨(some 24), (.call (.c (.fn 212 [])) []), none, []⟩,
        ⟨(some 2), (.mv (.s 24)), none, [0, 0, 0]⟩] false)
      .ret)
      .skip))
     (.region [
       ⟨(some 25), (.mv (.s 3)), none, []⟩,
       ⟨(some 26), (.mv (.s 5)), none, []⟩,
       ⟨(some 27), (.app 1 1 (.s 25) (.s 26)), none, [0, 1]⟩,
       ⟨(some 3), (.mv (.s 27)), none, [2, 2, 0, 1, 2]⟩] false))))
    (.region [
      ⟨(some 28), (.bin .add (.s 17) (.c (.int .i64 1))), none, []⟩,
      ⟨(some 17), (.mv (.s 28)), none, [0]⟩] false)))))))
  (.seq (.region [
    ⟨(some 29), (.mv (.s 3)), none, []⟩,
    ⟨(some 30), (.len false (.s 29)), none, [0]⟩,
    ⟨(some 6), (.mv (.s 30)), none, [1, 0, 1]⟩] false)
  (.seq (.region [
    ⟨(some 31), (.mv (.s 6)), none, []⟩,
    ⟨(some 32), (.cvi .u64 (.s 31)), none, [0]⟩,
    ⟨(some 33), (.call (.c (.fn 217 [])) [(.s 32)]), none, [1]⟩,
    ⟨(some 7), (.mv (.s 33)), none, [2, 2, 0, 1, 2]⟩] false)
  (.seq (.seq (.region [
    ⟨(some 34), (.mv (.s 6)), none, []⟩,
    ⟨(some 35), (.mv (.s 7)), none, []⟩,
    ⟨(some 36), (.len false (.s 35)), none, [1]⟩,
    ⟨(some 37), (.bin .add (.s 34) (.s 36)), none, [0, 2]⟩,
    ⟨(some 38), (.bin .rem (.s 37) (.c (.int .i64 64))), none, [3]⟩,
    ⟨(some 39), (.bin .neq (.s 38) (.c (.int .i64 0))), none, [4]⟩,
    ⟨(some 40), (.mv (.s 39)), none, [5]⟩,
    ⟨(some 41), (.mv (.s 7)), (some (40, false)), [6]⟩,
    ⟨(some 42), (.len false (.s 41)), (some (40, false)), [7, 6]⟩,
    ⟨(some 43), (.bin .lss (.s 42) (.c (.int .i64 9))), (some (40, false)), [8, 6]⟩,
    ⟨(some 44), (.pick (.s 40) (.c (.bool true)) (.s 43)), none, [6, 9]⟩,
    ⟨(some 45), (.mv (.s 44)), none, [10, 6]⟩,
    ⟨(some 46), (.mv (.s 7)), (some (45, false)), [11]⟩,
    ⟨(some 47), (.len false (.s 46)), (some (45, false)), [12, 11]⟩,
    ⟨(some 48), (.bin .gtr (.s 47) (.c (.int .i64 72))), (some (45, false)), [13, 11]⟩,
    ⟨(some 49), (.pick (.s 45) (.c (.bool true)) (.s 48)), none, [11, 14]⟩,
    ⟨(some 50), (.mv (.s 49)), none, [15, 11]⟩,
    ⟨(some 51), (.mv (.s 7)), (some (50, false)), [16]⟩,
    ⟨(some 52), (.iad 1 (.s 51) (.c (.int .i64 0))), (some (50, false)), [17, 16]⟩,
    ⟨(some 53), (.ldc (.s 52)), (some (50, false)), [18, 16]⟩,
    ⟨(some 54), (.bin .neq (.s 53) (.c (.int .u8 128))), (some (50, false)), [19, 16]⟩,
    ⟨(some 55), (.pick (.s 50) (.c (.bool true)) (.s 54)), none, [16, 20]⟩] false)
  (.cond (.s 55)
   (.seq (.region [
     ⟨(some 2), (.mv (.c (.bool false))), none, []⟩] false)
   .ret)
   .skip))
  (.seq (.region [
    ⟨(some 56), (.call (.c (.fn 219 [])) []), none, []⟩,
    ⟨(some 8), (.new (.ints .u32 [0, 0, 0, 0, 0, 0, 0, 0])), none, []⟩,
    ⟨none, (.stc 8 (.s 8) (.s 56)), none, [1, 0, 0, 0, 1]⟩] false)
  (.seq (.seq (.region [
    ⟨(some 57), (.mv (.s 3)), none, []⟩,
    ⟨(some 58), (.app 1 1 (.c .nils) (.s 57)), none, [0]⟩,
    ⟨(some 59), (.mv (.s 7)), none, []⟩,
    ⟨(some 60), (.app 1 1 (.s 58) (.s 59)), none, [1, 2, 1]⟩,
    ⟨(some 9), (.mv (.s 60)), none, [3, 3, 0, 1, 2, 3]⟩] false)
  (.block 2
   (.loop ⟨1, [(9, (Sh.sl (Sh.int .u8)))], false, [0, 3, 8, 9], []⟩
    (.seq (.seq (.region [
      ⟨(some 61), (.mv (.s 9)), none, []⟩,
      ⟨(some 62), (.len false (.s 61)), none, [0]⟩,
      ⟨(some 63), (.bin .gtr (.s 62) (.c (.int .i64 0))), none, [1]⟩] false)
    (.cond (.s 63)
     .skip
     (.pre ⟨0, [], false, [0, 3, 8], []⟩ (.exit 2))))
    (.seq (.block 3
     (.region [
       ⟨(some 66), (.lda 8 (some .u32) (.s 8)), none, []⟩,
       ⟨(some 67), (.mv (.s 9)), none, []⟩,
       ⟨(some 68), (.sls 1 (.s 67) none (some (.c (.int .i64 64))) none), none, [1]⟩,
       ⟨(some 69), (.s2a 64 (.s 68)), none, [2]⟩,
       ⟨(some 70), (.lda 64 (some .u8) (.s 69)), none, [3]⟩,
       ⟨(some 71), (.call (.c (.fn 215 [])) [(.s 66), (.s 70)]), none, [0, 4]⟩,
       ⟨none, (.stc 8 (.s 8) (.s 71)), none, [5, 5, 0, 1, 2, 3, 4, 5]⟩] true))
    (.region [
      ⟨(some 64), (.mv (.s 9)), none, []⟩,
      ⟨(some 65), (.sls 1 (.s 64) (some (.c (.int .i64 64))) none none), none, [0]⟩,
      ⟨(some 9), (.mv (.s 65)), none, [1, 0, 1]⟩] false))))))
  (.seq (.region [
    ⟨(some 72), (.mv (.s 3)), none, []⟩,
    ⟨(some 73), (.bsl 1 1 (.vals [.nils]) [(0, 1, (.s 72))]), none, [0]⟩,
    ⟨(some 74), (.call (.c (.fn 213 [])) [(.s 73)]), none, [1]⟩,
    ⟨(some 10), (.new (.ints .u8 [0, 0, 0, 0, 0, 0, 0, 0, 0, 0, 0, 0, 0, 0, 0, 0, 0, 0, 0, 0, 0, 0, 0, 0, 0, 0, 0, 0, 0, 0, 0, 0])), none, []⟩,
    ⟨none, (.stc 32 (.s 10) (.s 74)), none, [3, 2, 2, 0, 1, 2, 3]⟩] false)
  (.seq (.region [
    ⟨(some 75), (.mv (.s 0)), none, []⟩,
    ⟨(some 76), (.call (.c (.fn 213 [])) [(.s 75)]), none, [0]⟩,
    ⟨(some 77), (.lda 32 (some .u8) (.s 10)), none, []⟩,
    ⟨(some 78), (.eqa 32 false (.s 76) (.s 77)), none, [1, 2]⟩,
    ⟨(some 79), (.mv (.s 78)), none, [3, 1]⟩,
    ⟨(some 80), (.iaa 32 1 (.s 10) (.c (.int .i64 0))), (some (79, true)), [4]⟩,
    ⟨(some 81), (.ldc (.s 80)), (some (79, true)), [5, 4]⟩,
    ⟨(some 82), (.iaa 8 1 (.s 8) (.c (.int .i64 0))), (some (79, true)), [4]⟩,
    ⟨(some 83), (.ldc (.s 82)), (some (79, true)), [7, 4]⟩,
    ⟨(some 84), (.bin .shr (.s 83) (.c (.int .u64 24))), (some (79, true)), [8, 4]⟩,
    ⟨(some 85), (.cvi .u8 (.s 84)), (some (79, true)), [9, 4]⟩,
    ⟨(some 86), (.bin .eql (.s 81) (.s 85)), (some (79, true)), [6, 10, 4]⟩,
    ⟨(some 87), (.pick (.s 79) (.s 86) (.c (.bool false))), none, [4, 11]⟩,
    ⟨(some 88), (.mv (.s 87)), none, [12, 4]⟩,
    ⟨(some 89), (.iaa 32 1 (.s 10) (.c (.int .i64 31))), (some (88, true)), [13]⟩,
    ⟨(some 90), (.ldc (.s 89)), (some (88, true)), [14, 13]⟩,
    ⟨(some 91), (.iaa 8 1 (.s 8) (.c (.int .i64 7))), (some (88, true)), [13]⟩,
    ⟨(some 92), (.ldc (.s 91)), (some (88, true)), [16, 13]⟩,
    ⟨(some 93), (.cvi .u8 (.s 92)), (some (88, true)), [17, 13]⟩,
    ⟨(some 94), (.bin .eql (.s 90) (.s 93)), (some (88, true)), [15, 18, 13]⟩,
    ⟨(some 95), (.pick (.s 88) (.s 94) (.c (.bool false))), none, [13, 19]⟩,
    ⟨(some 96), (.mv (.s 95)), none, [20, 13]⟩,
    ⟨(some 97), (.call (.c (.fn 212 [])) []), (some (96, true)), [21, 21]⟩,
    ⟨(some 98), (.pick (.s 96) (.s 97) (.c (.bool false))), none, [21, 22]⟩,
    ⟨(some 2), (.mv (.s 98)), none, [23, 22, 0, 1, 2, 3, 4, 5, 6, 7, 8, 9, 10, 11, 12, 13, 14, 15, 16, 17, 18, 19, 20, 21, 22, 23]⟩] true)
  .ret))))))))))), false, (some [(Sh.sl (Sh.sl (Sh.int .u8)))]), (some Sh.bool)⟩

/-- euphroe/euphroelaw07.HmacSeals -/
def k208 : Fun := ⟨3, 73, [0, 1, 2, 6, 7, 9, 10, 23, 25, 26, 27, 28, 33], [(.tmp 6)],
  (.seq (.region [
    ⟨(some 6), (.mv (.c (.bool false))), none, []⟩] false)
  (.seq (.seq (.region [
    ⟨(some 11), (.mv (.s 0)), none, []⟩,
    ⟨(some 12), (.len false (.s 11)), none, [0]⟩,
    ⟨(some 13), (.bin .gtr (.s 12) (.c (.int .i64 200))), none, [1]⟩,
    ⟨(some 14), (.mv (.s 13)), none, [2]⟩,
    ⟨(some 15), (.mv (.s 1)), (some (14, false)), [3]⟩,
    ⟨(some 16), (.len false (.s 15)), (some (14, false)), [4, 3]⟩,
    ⟨(some 17), (.bin .gtr (.s 16) (.c (.int .i64 10))), (some (14, false)), [5, 3]⟩,
    ⟨(some 18), (.pick (.s 14) (.c (.bool true)) (.s 17)), none, [3, 6]⟩,
    ⟨(some 19), (.mv (.s 18)), none, [7, 3]⟩,
    ⟨(some 20), (.mv (.s 2)), (some (19, false)), [8]⟩,
    ⟨(some 21), (.len false (.s 20)), (some (19, false)), [9, 8]⟩,
    ⟨(some 22), (.bin .gtr (.s 21) (.c (.int .i64 100))), (some (19, false)), [10, 8]⟩,
    ⟨(some 23), (.pick (.s 19) (.c (.bool true)) (.s 22)), none, [8, 11]⟩] false)
  (.cond (.s 23)
   (.seq (.region [
     ⟨(some 24), (.call (.c (.fn 221 [])) []), none, []⟩,
     ⟨(some 6), (.mv (.s 24)), none, [0, 0, 0]⟩] false)
   .ret)
   .skip))
  (.seq (.region [
    ⟨(some 7), (.mv (.c .nils)), none, []⟩] false)
  (.seq (.seq (.region [
    ⟨(some 25), (.mv (.s 1)), none, []⟩,
    ⟨(some 26), (.len false (.s 25)), none, [0]⟩,
    ⟨(some 27), (.mv (.c (.int .i64 0))), none, []⟩] false)
  (.block 0
   (.loop ⟨0, [], false, [0, 1, 2, 7, 25, 26, 27], [(7, (.ints .u8 []), 1)]⟩
    (.seq (.region [
      ⟨(some 28), (.bin .lss (.s 27) (.s 26)), none, []⟩] false)
    (.seq (.cond (.s 28)
     .skip
     (.pre ⟨0, [], false, [0, 1, 2, 7], []⟩ (.exit 0)))
    (.seq (.block 1
     (.seq (.region [
       ⟨(some 29), (.iad 1 (.s 25) (.s 27)), none, []⟩,
       ⟨(some 30), (.ldc (.s 29)), none, [0]⟩,
       ⟨(some 9), (.mv (.s 30)), none, [1, 0, 1]⟩] false)
     (.seq (.seq (.region [
       ⟨(some 31), (.mv (.s 9)), none, []⟩,
       ⟨(some 32), (.len false (.s 31)), none, [0]⟩,
       ⟨(some 33), (.bin .gtr (.s 32) (.c (.int .i64 100))), none, [1]⟩] false)
     (.cond (.s 33)
      (.seq (.region [
        ⟨(some 34), (.call (.c (.fn 221 [])) []), none, []⟩,
        ⟨(some 6), (.mv (.s 34)), none, [0, 0, 0]⟩] false)
      .ret)
      .skip))
     (.region [
       ⟨(some 35), (.mv (.s 7)), none, []⟩,
       ⟨(some 36), (.mv (.s 9)), none, []⟩,
       ⟨(some 37), (.app 1 1 (.s 35) (.s 36)), none, [0, 1]⟩,
       ⟨(some 7), (.mv (.s 37)), none, [2, 2, 0, 1, 2]⟩] false))))
    (.region [
      ⟨(some 38), (.bin .add (.s 27) (.c (.int .i64 1))), none, []⟩,
      ⟨(some 27), (.mv (.s 38)), none, [0]⟩] false)))))))
  (.seq (.region [
    ⟨(some 39), (.mv (.s 0)), none, []⟩,
    ⟨(some 40), (.mv (.s 7)), none, []⟩,
    ⟨(some 41), (.call (.c (.fn 222 [])) [(.s 39), (.s 40)]), none, [0, 1]⟩,
    ⟨(some 10), (.new (.ints .u8 [0, 0, 0, 0, 0, 0, 0, 0, 0, 0, 0, 0, 0, 0, 0, 0, 0, 0, 0, 0, 0, 0, 0, 0, 0, 0, 0, 0, 0, 0, 0, 0])), none, []⟩,
    ⟨none, (.stc 32 (.s 10) (.s 41)), none, [3, 2, 2, 0, 1, 2, 3]⟩] false)
  (.seq (.region [
    ⟨(some 42), (.mv (.s 0)), none, []⟩,
    ⟨(some 43), (.mv (.s 1)), none, []⟩,
    ⟨(some 44), (.call (.c (.fn 223 [])) [(.s 42), (.s 43)]), none, [0, 1]⟩,
    ⟨(some 45), (.lda 32 (some .u8) (.s 10)), none, []⟩,
    ⟨(some 46), (.eqa 32 false (.s 44) (.s 45)), none, [2, 3]⟩,
    ⟨(some 47), (.mv (.s 46)), none, [4, 2]⟩,
    ⟨(some 48), (.mv (.s 0)), (some (47, true)), [5]⟩,
    ⟨(some 49), (.call (.c (.fn 224 [])) [(.s 48)]), (some (47, true)), [6, 5, 5]⟩,
    ⟨(some 50), (.mv (.s 0)), (some (47, true)), [5]⟩,
    ⟨(some 51), (.call (.c (.fn 225 [])) [(.s 50)]), (some (47, true)), [8, 7, 5]⟩,
    ⟨(some 52), (.eqa 64 false (.s 49) (.s 51)), (some (47, true)), [7, 9, 5]⟩,
    ⟨(some 53), (.pick (.s 47) (.s 52) (.c (.bool false))), none, [5, 10]⟩,
    ⟨(some 54), (.mv (.s 53)), none, [11, 9]⟩,
    ⟨(some 55), (.mv (.s 0)), (some (54, true)), [12]⟩,
    ⟨(some 56), (.mv (.s 2)), (some (54, true)), [12]⟩,
    ⟨(some 57), (.mv (.s 1)), (some (54, true)), [12]⟩,
    ⟨(some 58), (.call (.c (.fn 226 [])) [(.s 55), (.s 56), (.s 57)]), (some (54, true)), [13, 14, 15, 12, 12]⟩,
    ⟨(some 59), (.sla 32 1 (.s 10) none none none), (some (54, true)), [12]⟩,
    ⟨(some 60), (.mv (.s 2)), (some (54, true)), [12]⟩,
    ⟨(some 61), (.call (.c (.fn 23 [])) [(.s 59), (.s 60)]), (some (54, true)), [17, 18, 16, 12]⟩,
    ⟨(some 62), (.eqn .b false (.s 58) (.s 61)), (some (54, true)), [16, 19, 12]⟩,
    ⟨(some 63), (.pick (.s 54) (.s 62) (.c (.bool false))), none, [12, 20]⟩,
    ⟨(some 64), (.mv (.s 63)), none, [21, 19]⟩,
    ⟨(some 65), (.mv (.s 0)), (some (64, true)), [22]⟩,
    ⟨(some 66), (.sla 32 1 (.s 10) none none none), (some (64, true)), [22]⟩,
    ⟨(some 67), (.mv (.s 1)), (some (64, true)), [22]⟩,
    ⟨(some 68), (.call (.c (.fn 226 [])) [(.s 65), (.s 66), (.s 67)]), (some (64, true)), [23, 24, 25, 22, 22]⟩,
    ⟨(some 69), (.pick (.s 64) (.s 68) (.c (.bool false))), none, [22, 26]⟩,
    ⟨(some 70), (.mv (.s 69)), none, [27, 26]⟩,
    ⟨(some 71), (.call (.c (.fn 221 [])) []), (some (70, true)), [28, 28]⟩,
    ⟨(some 72), (.pick (.s 70) (.s 71) (.c (.bool false))), none, [28, 29]⟩,
    ⟨(some 6), (.mv (.s 72)), none, [30, 29, 0, 1, 2, 3, 4, 5, 6, 7, 8, 9, 10, 11, 12, 13, 14, 15, 16, 17, 18, 19, 20, 21, 22, 23, 24, 25, 26, 27, 28, 29, 30]⟩] true)
  .ret)))))), false, (some [(Sh.sl (Sh.int .u8)), (Sh.sl (Sh.sl (Sh.int .u8))), (Sh.sl (Sh.int .u8))]), (some Sh.bool)⟩

/-- euphroe/euphroelaw07.HmacChains -/
def k209 : Fun := ⟨2, 59, [0, 1, 4, 5, 6, 7, 10, 22, 24, 25, 26, 56], [(.tmp 4)],
  (.seq (.region [
    ⟨(some 4), (.mv (.c (.bool false))), none, []⟩] false)
  (.seq (.seq (.region [
    ⟨(some 8), (.mv (.s 0)), none, []⟩,
    ⟨(some 9), (.len false (.s 8)), none, [0]⟩,
    ⟨(some 10), (.bin .gtr (.s 9) (.c (.int .i64 200))), none, [1]⟩] false)
  (.cond (.s 10)
   (.seq (.region [
     ⟨(some 11), (.call (.c (.fn 221 [])) []), none, []⟩,
     ⟨(some 4), (.mv (.s 11)), none, [0, 0, 0]⟩] false)
   .ret)
   .skip))
  (.seq (.region [
    ⟨(some 12), (.mv (.s 0)), none, []⟩,
    ⟨(some 13), (.mv (.s 1)), none, []⟩,
    ⟨(some 14), (.call (.c (.fn 227 [])) [(.s 12), (.s 13)]), none, [0, 1]⟩,
    ⟨(some 15), (.mv (.s 0)), none, []⟩,
    ⟨(some 16), (.mv (.s 1)), none, []⟩,
    ⟨(some 17), (.call (.c (.fn 228 [])) [(.s 15), (.s 16)]), none, [3, 4, 2]⟩,
    ⟨(some 5), (.mv (.s 14)), none, [2, 5, 0, 1, 2]⟩,
    ⟨(some 6), (.mv (.s 17)), none, [5, 6, 0, 1, 2, 3, 4, 5, 6]⟩] false)
  (.seq (.seq (.region [
    ⟨(some 18), (.mv (.s 5)), none, []⟩,
    ⟨(some 19), (.len false (.s 18)), none, [0]⟩,
    ⟨(some 20), (.mv (.s 6)), none, []⟩,
    ⟨(some 21), (.len false (.s 20)), none, [2]⟩,
    ⟨(some 22), (.bin .neq (.s 19) (.s 21)), none, [1, 3]⟩] false)
  (.cond (.s 22)
   (.seq (.region [
     ⟨(some 4), (.mv (.c (.bool false))), none, []⟩] false)
   .ret)
   .skip))
  (.seq (.seq (.region [
    ⟨(some 23), (.mv (.s 5)), none, []⟩,
    ⟨(some 24), (.len false (.s 23)), none, [0]⟩,
    ⟨(some 25), (.mv (.c (.int .i64 0))), none, []⟩] false)
  (.block 0
   (.loop ⟨0, [], false, [0, 5, 6, 24, 25], []⟩
    (.seq (.region [
      ⟨(some 26), (.bin .lss (.s 25) (.s 24)), none, []⟩] false)
    (.seq (.cond (.s 26)
     .skip
     (.pre ⟨0, [], false, [], []⟩ (.exit 0)))
    (.seq (.block 1
     (.seq (.region [
       ⟨(some 27), (.mv (.s 25)), none, []⟩,
       ⟨(some 7), (.mv (.s 27)), none, [0, 0]⟩] false)
     (.seq (.region [
       ⟨(some 28), (.mv (.s 5)), none, []⟩,
       ⟨(some 29), (.mv (.s 7)), none, []⟩,
       ⟨(some 30), (.iad 1 (.s 28) (.s 29)), none, [0, 1]⟩,
       ⟨(some 31), (.ldc (.s 30)), none, [2]⟩,
       ⟨(some 32), (.mv (.s 6)), none, []⟩,
       ⟨(some 33), (.mv (.s 7)), none, []⟩,
       ⟨(some 34), (.iad 1 (.s 32) (.s 33)), none, [4, 5]⟩,
       ⟨(some 35), (.ldc (.s 34)), none, [6]⟩,
       ⟨(some 36), (.call (.c (.fn 23 [])) [(.s 31), (.s 35)]), none, [3, 7]⟩,
       ⟨(some 37), (.un .not (.s 36)), none, [8]⟩,
       ⟨(some 38), (.mv (.s 37)), none, [9, 8]⟩,
       ⟨(some 39), (.mv (.s 7)), (some (38, false)), [10]⟩,
       ⟨(some 40), (.bin .gtr (.s 39) (.c (.int .i64 0))), (some (38, false)), [11, 10]⟩,
       ⟨(some 41), (.mv (.s 40)), (some (38, false)), [12, 10, 10]⟩,
       ⟨(some 42), (.mv (.s 0)), (some (41, true)), [13]⟩,
       ⟨(some 43), (.mv (.s 5)), (some (41, true)), [13]⟩,
       ⟨(some 44), (.mv (.s 7)), (some (41, true)), [13]⟩,
       ⟨(some 45), (.iad 1 (.s 43) (.s 44)), (some (41, true)), [15, 16, 13]⟩,
       ⟨(some 46), (.ldc (.s 45)), (some (41, true)), [17, 13]⟩,
       ⟨(some 47), (.mv (.s 5)), (some (41, true)), [13]⟩,
       ⟨(some 48), (.mv (.s 7)), (some (41, true)), [13]⟩,
       ⟨(some 49), (.bin .sub (.s 48) (.c (.int .i64 1))), (some (41, true)), [20, 13]⟩,
       ⟨(some 50), (.iad 1 (.s 47) (.s 49)), (some (41, true)), [19, 21, 13]⟩,
       ⟨(some 51), (.ldc (.s 50)), (some (41, true)), [22, 13]⟩,
       ⟨(some 52), (.bsl 1 1 (.vals [.nils]) [(0, 1, (.s 51))]), (some (41, true)), [23, 13]⟩,
       ⟨(some 53), (.call (.c (.fn 226 [])) [(.s 42), (.s 46), (.s 52)]), (some (41, true)), [14, 18, 24, 13, 13]⟩,
       ⟨(some 54), (.un .not (.s 53)), (some (41, true)), [25, 13]⟩,
       ⟨(some 55), (.pick (.s 41) (.s 54) (.c (.bool false))), (some (38, false)), [13, 26, 10]⟩,
       ⟨(some 56), (.pick (.s 38) (.c (.bool true)) (.s 55)), none, [10, 27]⟩] true)
     (.cond (.s 56)
      (.seq (.region [
        ⟨(some 4), (.mv (.c (.bool false))), none, []⟩] false)
      .ret)
      .skip))))
    (.region [
      ⟨(some 57), (.bin .add (.s 25) (.c (.int .i64 1))), none, []⟩,
      ⟨(some 25), (.mv (.s 57)), none, [0]⟩] false)))))))
  (.seq (.region [
    ⟨(some 58), (.call (.c (.fn 221 [])) []), none, []⟩,
    ⟨(some 4), (.mv (.s 58)), none, [0, 0, 0]⟩] false)
  .ret)))))), false, (some [(Sh.sl (Sh.int .u8)), (Sh.int .i64)]), (some Sh.bool)⟩

/-- euphroe/euphroelaw07.HmacNoughts -/
def k210 : Fun := ⟨3, 45, [0, 1, 2, 6, 7, 15], [(.tmp 6)],
  (.seq (.region [
    ⟨(some 6), (.mv (.c (.bool false))), none, []⟩] false)
  (.seq (.seq (.region [
    ⟨(some 8), (.mv (.s 0)), none, []⟩,
    ⟨(some 9), (.len false (.s 8)), none, [0]⟩,
    ⟨(some 10), (.bin .gtr (.s 9) (.c (.int .i64 64))), none, [1]⟩,
    ⟨(some 11), (.mv (.s 10)), none, [2]⟩,
    ⟨(some 12), (.mv (.s 2)), (some (11, false)), [3]⟩,
    ⟨(some 13), (.len false (.s 12)), (some (11, false)), [4, 3]⟩,
    ⟨(some 14), (.bin .gtr (.s 13) (.c (.int .i64 200))), (some (11, false)), [5, 3]⟩,
    ⟨(some 15), (.pick (.s 11) (.c (.bool true)) (.s 14)), none, [3, 6]⟩] false)
  (.cond (.s 15)
   (.seq (.region [
     ⟨(some 16), (.call (.c (.fn 221 [])) []), none, []⟩,
     ⟨(some 6), (.mv (.s 16)), none, [0, 0, 0]⟩] false)
   .ret)
   .skip))
  (.seq (.region [
    ⟨(some 17), (.mv (.s 0)), none, []⟩,
    ⟨(some 18), (.app 1 1 (.c .nils) (.s 17)), none, [0]⟩,
    ⟨(some 19), (.mv (.s 1)), none, []⟩,
    ⟨(some 20), (.cvi .i64 (.s 19)), none, [2]⟩,
    ⟨(some 21), (.mv (.s 0)), none, []⟩,
    ⟨(some 22), (.len false (.s 21)), none, [4]⟩,
    ⟨(some 23), (.bin .sub (.c (.int .i64 65)) (.s 22)), none, [5]⟩,
    ⟨(some 24), (.bin .rem (.s 20) (.s 23)), none, [3, 6]⟩,
    ⟨(some 25), (.apz 1 1 (.ints .u8 [0]) (.s 18) (.s 24)), none, [1, 7, 1]⟩,
    ⟨(some 7), (.mv (.s 25)), none, [8, 8, 0, 1, 2, 3, 4, 5, 6, 7, 8]⟩] true)
  (.seq (.region [
    ⟨(some 26), (.mv (.s 0)), none, []⟩,
    ⟨(some 27), (.mv (.s 2)), none, []⟩,
    ⟨(some 28), (.bsl 1 1 (.vals [.nils]) [(0, 1, (.s 27))]), none, [1]⟩,
    ⟨(some 29), (.call (.c (.fn 223 [])) [(.s 26), (.s 28)]), none, [0, 2]⟩,
    ⟨(some 30), (.mv (.s 7)), none, []⟩,
    ⟨(some 31), (.mv (.s 2)), none, []⟩,
    ⟨(some 32), (.bsl 1 1 (.vals [.nils]) [(0, 1, (.s 31))]), none, [5]⟩,
    ⟨(some 33), (.call (.c (.fn 223 [])) [(.s 30), (.s 32)]), none, [4, 6, 3]⟩,
    ⟨(some 34), (.eqa 32 false (.s 29) (.s 33)), none, [3, 7]⟩,
    ⟨(some 35), (.mv (.s 34)), none, [8, 7]⟩,
    ⟨(some 36), (.mv (.s 0)), (some (35, true)), [9]⟩,
    ⟨(some 37), (.call (.c (.fn 224 [])) [(.s 36)]), (some (35, true)), [10, 9, 9]⟩,
    ⟨(some 38), (.mv (.s 7)), (some (35, true)), [9]⟩,
    ⟨(some 39), (.call (.c (.fn 224 [])) [(.s 38)]), (some (35, true)), [12, 11, 9]⟩,
    ⟨(some 40), (.eqa 64 false (.s 37) (.s 39)), (some (35, true)), [11, 13, 9]⟩,
    ⟨(some 41), (.pick (.s 35) (.s 40) (.c (.bool false))), none, [9, 14]⟩,
    ⟨(some 42), (.mv (.s 41)), none, [15, 13]⟩,
    ⟨(some 43), (.call (.c (.fn 221 [])) []), (some (42, true)), [16, 16]⟩,
    ⟨(some 44), (.pick (.s 42) (.s 43) (.c (.bool false))), none, [16, 17]⟩,
    ⟨(some 6), (.mv (.s 44)), none, [18, 17, 0, 1, 2, 3, 4, 5, 6, 7, 8, 9, 10, 11, 12, 13, 14, 15, 16, 17, 18]⟩] false)
  .ret)))), false, (some [(Sh.sl (Sh.int .u8)), (Sh.int .u8), (Sh.sl (Sh.int .u8))]), (some Sh.bool)⟩

/-- euphroe/euphroelaw07.HmacLong -/
def k211 : Fun := ⟨2, 42, [0, 1, 4, 5, 18], [(.tmp 4)],
  (.seq (.region [
    ⟨(some 4), (.mv (.c (.bool false))), none, []⟩] false)
  (.seq (.seq (.region [
    ⟨(some 6), (.mv (.s 0)), none, []⟩,
    ⟨(some 7), (.len false (.s 6)), none, [0]⟩,
    ⟨(some 8), (.bin .gtr (.s 7) (.c (.int .i64 300))), none, [1]⟩,
    ⟨(some 9), (.mv (.s 8)), none, [2]⟩,
    ⟨(some 10), (.mv (.s 1)), (some (9, false)), [3]⟩,
    ⟨(some 11), (.len false (.s 10)), (some (9, false)), [4, 3]⟩,
    ⟨(some 12), (.bin .gtr (.s 11) (.c (.int .i64 200))), (some (9, false)), [5, 3]⟩,
    ⟨(some 13), (.pick (.s 9) (.c (.bool true)) (.s 12)), none, [3, 6]⟩,
    ⟨(some 14), (.mv (.s 13)), none, [7, 3]⟩,
    ⟨(some 15), (.mv (.s 0)), (some (14, false)), [8]⟩,
    ⟨(some 16), (.len false (.s 15)), (some (14, false)), [9, 8]⟩,
    ⟨(some 17), (.bin .leq (.s 16) (.c (.int .i64 64))), (some (14, false)), [10, 8]⟩,
    ⟨(some 18), (.pick (.s 14) (.c (.bool true)) (.s 17)), none, [8, 11]⟩] false)
  (.cond (.s 18)
   (.seq (.region [
     ⟨(some 19), (.call (.c (.fn 221 [])) []), none, []⟩,
     ⟨(some 4), (.mv (.s 19)), none, [0, 0, 0]⟩] false)
   .ret)
   .skip))
  (.seq (.region [
    ⟨(some 20), (.mv (.s 0)), none, []⟩,
    ⟨(some 21), (.bsl 1 1 (.vals [.nils]) [(0, 1, (.s 20))]), none, [0]⟩,
    ⟨(some 22), (.call (.c (.fn 213 [])) [(.s 21)]), none, [1]⟩,
    ⟨(some 5), (.new (.ints .u8 [0, 0, 0, 0, 0, 0, 0, 0, 0, 0, 0, 0, 0, 0, 0, 0, 0, 0, 0, 0, 0, 0, 0, 0, 0, 0, 0, 0, 0, 0, 0, 0])), none, []⟩,
    ⟨none, (.stc 32 (.s 5) (.s 22)), none, [3, 2, 2, 0, 1, 2, 3]⟩] false)
  (.seq (.region [
    ⟨(some 23), (.mv (.s 0)), none, []⟩,
    ⟨(some 24), (.mv (.s 1)), none, []⟩,
    ⟨(some 25), (.bsl 1 1 (.vals [.nils]) [(0, 1, (.s 24))]), none, [1]⟩,
    ⟨(some 26), (.call (.c (.fn 223 [])) [(.s 23), (.s 25)]), none, [0, 2]⟩,
    ⟨(some 27), (.sla 32 1 (.s 5) none none none), none, []⟩,
    ⟨(some 28), (.mv (.s 1)), none, []⟩,
    ⟨(some 29), (.bsl 1 1 (.vals [.nils]) [(0, 1, (.s 28))]), none, [5]⟩,
    ⟨(some 30), (.call (.c (.fn 223 [])) [(.s 27), (.s 29)]), none, [4, 6, 3]⟩,
    ⟨(some 31), (.eqa 32 false (.s 26) (.s 30)), none, [3, 7]⟩,
    ⟨(some 32), (.mv (.s 31)), none, [8, 7]⟩,
    ⟨(some 33), (.mv (.s 0)), (some (32, true)), [9]⟩,
    ⟨(some 34), (.call (.c (.fn 224 [])) [(.s 33)]), (some (32, true)), [10, 9, 9]⟩,
    ⟨(some 35), (.sla 32 1 (.s 5) none none none), (some (32, true)), [9]⟩,
    ⟨(some 36), (.call (.c (.fn 224 [])) [(.s 35)]), (some (32, true)), [12, 11, 9]⟩,
    ⟨(some 37), (.eqa 64 false (.s 34) (.s 36)), (some (32, true)), [11, 13, 9]⟩,
    ⟨(some 38), (.pick (.s 32) (.s 37) (.c (.bool false))), none, [9, 14]⟩,
    ⟨(some 39), (.mv (.s 38)), none, [15, 13]⟩,
    ⟨(some 40), (.call (.c (.fn 221 [])) []), (some (39, true)), [16, 16]⟩,
    ⟨(some 41), (.pick (.s 39) (.s 40) (.c (.bool false))), none, [16, 17]⟩,
    ⟨(some 4), (.mv (.s 41)), none, [18, 17, 0, 1, 2, 3, 4, 5, 6, 7, 8, 9, 10, 11, 12, 13, 14, 15, 16, 17, 18]⟩] true)
  .ret)))), false, (some [(Sh.sl (Sh.int .u8)), (Sh.sl (Sh.int .u8))]), (some Sh.bool)⟩

/-- euphroe/euphroelaw06.alive -/
def k212 : Fun := ⟨0, 31, [0, 1], [(.tmp 0)],
  (.seq (.region [
    ⟨(some 0), (.mv (.c (.bool false))), none, []⟩] false)
  (.seq (.region [
    ⟨(some 2), (.call (.c (.fn 213 [])) [(.c .nils)]), none, []⟩,
    ⟨(some 1), (.new (.ints .u8 [0, 0, 0, 0, 0, 0, 0, 0, 0, 0, 0, 0, 0, 0, 0, 0, 0, 0, 0, 0, 0, 0, 0, 0, 0, 0, 0, 0, 0, 0, 0, 0])), none, []⟩,
    ⟨none, (.stc 32 (.s 1) (.s 2)), none, [1, 0, 0, 0, 1]⟩] false)
  (.seq (.region [
    ⟨(some 3), (.iaa 32 1 (.s 1) (.c (.int .i64 0))), none, []⟩,
    ⟨(some 4), (.ldc (.s 3)), none, [0]⟩,
    ⟨(some 5), (.bin .eql (.s 4) (.c (.int .u8 227))), none, [1]⟩,
    ⟨(some 6), (.mv (.s 5)), none, [2]⟩,
    ⟨(some 7), (.iaa 32 1 (.s 1) (.c (.int .i64 1))), (some (6, true)), [3]⟩,
    ⟨(some 8), (.ldc (.s 7)), (some (6, true)), [4, 3]⟩,
    ⟨(some 9), (.bin .eql (.s 8) (.c (.int .u8 176))), (some (6, true)), [5, 3]⟩,
    ⟨(some 10), (.pick (.s 6) (.s 9) (.c (.bool false))), none, [3, 6]⟩,
    ⟨(some 11), (.mv (.s 10)), none, [7, 3]⟩,
    ⟨(some 12), (.iaa 32 1 (.s 1) (.c (.int .i64 2))), (some (11, true)), [8]⟩,
    ⟨(some 13), (.ldc (.s 12)), (some (11, true)), [9, 8]⟩,
    ⟨(some 14), (.bin .eql (.s 13) (.c (.int .u8 196))), (some (11, true)), [10, 8]⟩,
    ⟨(some 15), (.pick (.s 11) (.s 14) (.c (.bool false))), none, [8, 11]⟩,
    ⟨(some 16), (.mv (.s 15)), none, [12, 8]⟩,
    ⟨(some 17), (.iaa 32 1 (.s 1) (.c (.int .i64 3))), (some (16, true)), [13]⟩,
    ⟨(some 18), (.ldc (.s 17)), (some (16, true)), [14, 13]⟩,
    ⟨(some 19), (.bin .eql (.s 18) (.c (.int .u8 66))), (some (16, true)), [15, 13]⟩,
    ⟨(some 20), (.pick (.s 16) (.s 19) (.c (.bool false))), none, [13, 16]⟩,
    ⟨(some 21), (.mv (.s 20)), none, [17, 13]⟩,
    ⟨(some 22), (.call (.c (.fn 217 [])) [(.c (.int .u64 0))]), (some (21, true)), [18, 18]⟩,
    ⟨(some 23), (.len false (.s 22)), (some (21, true)), [19, 18]⟩,
    ⟨(some 24), (.bin .eql (.s 23) (.c (.int .i64 64))), (some (21, true)), [20, 18]⟩,
    ⟨(some 25), (.pick (.s 21) (.s 24) (.c (.bool false))), none, [18, 21]⟩,
    ⟨(some 26), (.mv (.s 25)), none, [22, 19]⟩,
    ⟨(some 27), (.call (.c (.fn 219 [])) []), (some (26, true)), [23, 23]⟩,
    ⟨(some 28), (.build (.ints .u32 [0, 0, 0, 0, 0, 0, 0, 0]) []), (some (26, true)), [23]⟩,
    ⟨(some 29), (.eqa 8 true (.s 27) (.s 28)), (some (26, true)), [24, 25, 23]⟩,
    ⟨(some 30), (.pick (.s 26) (.s 29) (.c (.bool false))), none, [23, 26]⟩,
    ⟨(some 0), (.mv (.s 30)), none, [27, 24, 0, 1, 2, 3, 4, 5, 6, 7, 8, 9, 10, 11, 12, 13, 14, 15, 16, 17, 18, 19, 20, 21, 22, 23, 24, 25, 26, 27]⟩] false)
  .ret))), false, (some []), (some Sh.bool)⟩

/-- euphroe/sha256.Of -/
def k213 : Fun := ⟨1, 47, [0, 2, 3, 4, 5, 6, 7, 20, 30, 31], [(.cell 2 32 true (some .u8))],
  (.seq (.region [
    ⟨(some 2), (.new (.ints .u8 [0, 0, 0, 0, 0, 0, 0, 0, 0, 0, 0, 0, 0, 0, 0, 0, 0, 0, 0, 0, 0, 0, 0, 0, 0, 0, 0, 0, 0, 0, 0, 0])), none, []⟩] false)
  (.seq (.region [
    ⟨(some 8), (.mv (.s 0)), none, []⟩,
    ⟨(some 9), (.call (.c (.fn 46 [])) [(.s 8)]), none, [0]⟩,
    ⟨(some 3), (.mv (.s 9)), none, [1, 1, 0, 1]⟩] false)
  (.seq (.region [
    ⟨(some 10), (.mv (.s 3)), none, []⟩,
    ⟨(some 11), (.mv (.s 3)), none, []⟩,
    ⟨(some 12), (.len false (.s 11)), none, [1]⟩,
    ⟨(some 13), (.cvi .u64 (.s 12)), none, [2]⟩,
    ⟨(some 14), (.call (.c (.fn 217 [])) [(.s 13)]), none, [3]⟩,
    ⟨(some 15), (.app 1 1 (.s 10) (.s 14)), none, [0, 4, 4]⟩,
    ⟨(some 3), (.mv (.s 15)), none, [5, 5, 0, 1, 2, 3, 4, 5]⟩] false)
  (.seq (.region [
    ⟨(some 16), (.call (.c (.fn 219 [])) []), none, []⟩,
    ⟨(some 17), (.call (.c (.fn 83 [])) [(.c (.int .i64 64)), (.c (.int .i64 3))]), none, [0]⟩,
    ⟨(some 4), (.new (.ints .u32 [0, 0, 0, 0, 0, 0, 0, 0])), none, []⟩,
    ⟨none, (.stc 8 (.s 4) (.s 16)), none, [2, 0, 1, 0, 2]⟩,
    ⟨(some 5), (.mv (.s 17)), none, [1, 3, 0, 1, 2, 3]⟩] false)
  (.seq (.block 0
   (.loop ⟨0, [(3, (Sh.sl (Sh.int .u8)))], false, [2, 3, 4, 5], []⟩
    (.seq (.seq (.region [
      ⟨(some 18), (.mv (.s 3)), none, []⟩,
      ⟨(some 19), (.len false (.s 18)), none, [0]⟩,
      ⟨(some 20), (.bin .gtr (.s 19) (.c (.int .i64 0))), none, [1]⟩] false)
    (.cond (.s 20)
     .skip
     (.pre ⟨0, [], false, [2, 4], []⟩ (.exit 0))))
    (.seq (.block 1
     (.region [
       ⟨(some 23), (.lda 8 (some .u32) (.s 4)), none, []⟩,
       ⟨(some 24), (.mv (.s 3)), none, []⟩,
       ⟨(some 25), (.sls 1 (.s 24) none (some (.c (.int .i64 64))) none), none, [1]⟩,
       ⟨(some 26), (.s2a 64 (.s 25)), none, [2]⟩,
       ⟨(some 27), (.lda 64 (some .u8) (.s 26)), none, [3]⟩,
       ⟨(some 28), (.mv (.s 5)), none, []⟩,
       ⟨(some 29), (.call (.c (.fn 229 [])) [(.s 23), (.s 27), (.s 28)]), none, [0, 4, 5]⟩,
       ⟨none, (.stc 8 (.s 4) (.s 29)), none, [6, 6, 0, 1, 2, 3, 4, 5, 6]⟩] true))
    (.region [
      ⟨(some 21), (.mv (.s 3)), none, []⟩,
      ⟨(some 22), (.sls 1 (.s 21) (some (.c (.int .i64 64))) none none), none, [0]⟩,
      ⟨(some 3), (.mv (.s 22)), none, [1, 0, 1]⟩] false)))))
  (.seq (.region [
    ⟨(some 6), (.new (.ints .u8 [0, 0, 0, 0, 0, 0, 0, 0, 0, 0, 0, 0, 0, 0, 0, 0, 0, 0, 0, 0, 0, 0, 0, 0, 0, 0, 0, 0, 0, 0, 0, 0])), none, []⟩] false)
  (.seq (.seq (.region [
    ⟨(some 30), (.mv (.c (.int .i64 0))), none, []⟩] false)
  (.block 2
   (.loop ⟨1, [], false, [2, 4, 6, 30], []⟩
    (.seq (.region [
      ⟨(some 31), (.bin .lss (.s 30) (.c (.int .i64 32))), none, []⟩] false)
    (.seq (.cond (.s 31)
     .skip
     (.pre ⟨0, [], false, [2, 6], []⟩ (.exit 2)))
    (.seq (.block 3
     (.seq (.region [
       ⟨(some 32), (.mv (.s 30)), none, []⟩,
       ⟨(some 7), (.mv (.s 32)), none, [0, 0]⟩] false)
     (.region [
       ⟨(some 33), (.mv (.s 7)), none, []⟩,
       ⟨(some 34), (.mv (.s 7)), none, []⟩,
       ⟨(some 35), (.bin .quo (.s 34) (.c (.int .i64 4))), none, [1]⟩,
       ⟨(some 36), (.iaa 8 1 (.s 4) (.s 35)), none, [2]⟩,
       ⟨(some 37), (.ldc (.s 36)), none, [3]⟩,
       ⟨(some 38), (.mv (.s 7)), none, []⟩,
       ⟨(some 39), (.bin .rem (.s 38) (.c (.int .i64 4))), none, [5]⟩,
       ⟨(some 40), (.bin .sub (.c (.int .i64 3)) (.s 39)), none, [6]⟩,
       ⟨(some 41), (.bin .mul (.c (.int .i64 8)) (.s 40)), none, [7]⟩,
       ⟨(some 42), (.bin .shr (.s 37) (.s 41)), none, [4, 8]⟩,
       ⟨(some 43), (.cvi .u8 (.s 42)), none, [9]⟩,
       ⟨(some 44), (.iaa 32 1 (.s 6) (.s 33)), none, [0, 0, 1, 2, 3, 4, 5, 6, 7, 8, 9, 10]⟩,
       ⟨none, (.stc 1 (.s 44) (.s 43)), none, [11, 10, 0, 1, 2, 3, 4, 5, 6, 7, 8, 9, 10]⟩] false)))
    (.region [
      ⟨(some 45), (.bin .add (.s 30) (.c (.int .i64 1))), none, []⟩,
      ⟨(some 30), (.mv (.s 45)), none, [0]⟩] false)))))))
  (.seq (.region [
    ⟨(some 46), (.lda 32 (some .u8) (.s 6)), none, []⟩,
    ⟨none, (.stc 32 (.s 2) (.s 46)), none, [0, 0]⟩] false)
  .ret)))))))), false, (some [(Sh.sl (Sh.sl (Sh.int .u8)))]), (some (Sh.ar .u8))⟩

/-- euphroe/euphroeref06.Of -/
def k214 : Fun := ⟨1, 56, [0, 2, 3, 4, 5, 6, 7, 8, 9, 21, 25, 40], [(.cell 2 32 true (some .u8))],
  (.seq (.region [
    ⟨(some 2), (.new (.ints .u8 [0, 0, 0, 0, 0, 0, 0, 0, 0, 0, 0, 0, 0, 0, 0, 0, 0, 0, 0, 0, 0, 0, 0, 0, 0, 0, 0, 0, 0, 0, 0, 0])), none, []⟩] false)
  (.seq (.region [
    ⟨(some 10), (.mv (.s 0)), none, []⟩,
    ⟨(some 11), (.app 1 1 (.c .nils) (.s 10)), none, [0]⟩,
    ⟨(some 12), (.mv (.s 0)), none, []⟩,
    ⟨(some 13), (.len false (.s 12)), none, [2]⟩,
    ⟨(some 14), (.cvi .u64 (.s 13)), none, [3]⟩,
    ⟨(some 15), (.call (.c (.fn 218 [])) [(.s 14)]), none, [4, 1]⟩,
    ⟨(some 16), (.app 1 1 (.s 11) (.s 15)), none, [1, 5, 5]⟩,
    ⟨(some 3), (.mv (.s 16)), none, [6, 6, 0, 1, 2, 3, 4, 5, 6]⟩] false)
  (.seq (.region [
    ⟨(some 17), (.call (.c (.fn 220 [])) []), none, []⟩,
    ⟨(some 4), (.new (.ints .u32 [0, 0, 0, 0, 0, 0, 0, 0])), none, []⟩,
    ⟨none, (.stc 8 (.s 4) (.s 17)), none, [1, 0, 0, 0, 1]⟩] false)
  (.seq (.seq (.region [
    ⟨(some 5), (.mv (.c (.int .i64 0))), none, []⟩] false)
  (.block 0
   (.loop ⟨0, [], false, [2, 3, 4, 5], []⟩
    (.seq (.seq (.region [
      ⟨(some 18), (.mv (.s 5)), none, []⟩,
      ⟨(some 19), (.mv (.s 3)), none, []⟩,
      ⟨(some 20), (.len false (.s 19)), none, [1]⟩,
      ⟨(some 21), (.bin .lss (.s 18) (.s 20)), none, [0, 2]⟩] false)
    (.cond (.s 21)
     .skip
     (.pre ⟨0, [], false, [2, 4], []⟩ (.exit 0))))
    (.seq (.block 1
     (.seq (.region [
       ⟨(some 6), (.new (.ints .u8 [0, 0, 0, 0, 0, 0, 0, 0, 0, 0, 0, 0, 0, 0, 0, 0, 0, 0, 0, 0, 0, 0, 0, 0, 0, 0, 0, 0, 0, 0, 0, 0, 0, 0, 0, 0, 0, 0, 0, 0, 0, 0, 0, 0, 0, 0, 0, 0, 0, 0, 0, 0, 0, 0, 0, 0, 0, 0, 0, 0, 0, 0, 0, 0])), none, []⟩] false)
     (.seq (.seq (.region [
       ⟨(some 7), (.mv (.c (.int .i64 0))), none, []⟩] false)
     (.block 2
      (.loop ⟨1, [], false, [2, 3, 4, 5, 6, 7], []⟩
       (.seq (.seq (.region [
         ⟨(some 24), (.mv (.s 7)), none, []⟩,
         ⟨(some 25), (.bin .lss (.s 24) (.c (.int .i64 64))), none, [0]⟩] false)
       (.cond (.s 25)
        .skip
        (.pre ⟨0, [], false, [2, 3, 4, 5, 6], []⟩ (.exit 2))))
       (.seq (.block 3
        (.region [
          ⟨(some 28), (.mv (.s 7)), none, []⟩,
          ⟨(some 29), (.mv (.s 3)), none, []⟩,
          ⟨(some 30), (.mv (.s 5)), none, []⟩,
          ⟨(some 31), (.mv (.s 7)), none, []⟩,
          ⟨(some 32), (.bin .add (.s 30) (.s 31)), none, [2, 3]⟩,
          ⟨(some 33), (.iad 1 (.s 29) (.s 32)), none, [1, 4]⟩,
          ⟨(some 34), (.ldc (.s 33)), none, [5]⟩,
          ⟨(some 35), (.iaa 64 1 (.s 6) (.s 28)), none, [0, 0, 1, 2, 3, 4, 5, 6]⟩,
          ⟨none, (.stc 1 (.s 35) (.s 34)), none, [7, 6, 0, 1, 2, 3, 4, 5, 6]⟩] false))
       (.region [
         ⟨(some 26), (.mv (.s 7)), none, []⟩,
         ⟨(some 27), (.bin .add (.s 26) (.c (.int .i64 1))), none, [0]⟩,
         ⟨(some 7), (.mv (.s 27)), none, [1, 0, 1]⟩] false))))))
     (.region [
       ⟨(some 36), (.lda 8 (some .u32) (.s 4)), none, []⟩,
       ⟨(some 37), (.lda 64 (some .u8) (.s 6)), none, []⟩,
       ⟨(some 38), (.call (.c (.fn 216 [])) [(.s 36), (.s 37)]), none, [0, 1]⟩,
       ⟨none, (.stc 8 (.s 4) (.s 38)), none, [2, 2, 0, 1, 2]⟩] false))))
    (.region [
      ⟨(some 22), (.mv (.s 5)), none, []⟩,
      ⟨(some 23), (.bin .add (.s 22) (.c (.int .i64 64))), none, [0]⟩,
      ⟨(some 5), (.mv (.s 23)), none, [1, 0, 1]⟩] false))))))
  (.seq (.region [
    ⟨(some 8), (.new (.ints .u8 [0, 0, 0, 0, 0, 0, 0, 0, 0, 0, 0, 0, 0, 0, 0, 0, 0, 0, 0, 0, 0, 0, 0, 0, 0, 0, 0, 0, 0, 0, 0, 0])), none, []⟩] false)
  (.seq (.seq (.region [
    ⟨(some 9), (.mv (.c (.int .i64 0))), none, []⟩] false)
  (.block 4
   (.loop ⟨2, [], false, [2, 4, 8, 9], []⟩
    (.seq (.seq (.region [
      ⟨(some 39), (.mv (.s 9)), none, []⟩,
      ⟨(some 40), (.bin .lss (.s 39) (.c (.int .i64 32))), none, [0]⟩] false)
    (.cond (.s 40)
     .skip
     (.pre ⟨0, [], false, [2, 8], []⟩ (.exit 4))))
    (.seq (.block 5
     (.region [
       ⟨(some 43), (.mv (.s 9)), none, []⟩,
       ⟨(some 44), (.mv (.s 9)), none, []⟩,
       ⟨(some 45), (.bin .quo (.s 44) (.c (.int .i64 4))), none, [1]⟩,
       ⟨(some 46), (.iaa 8 1 (.s 4) (.s 45)), none, [2]⟩,
       ⟨(some 47), (.ldc (.s 46)), none, [3]⟩,
       ⟨(some 48), (.mv (.s 9)), none, []⟩,
       ⟨(some 49), (.bin .rem (.s 48) (.c (.int .i64 4))), none, [5]⟩,
       ⟨(some 50), (.bin .mul (.c (.int .i64 8)) (.s 49)), none, [6]⟩,
       ⟨(some 51), (.bin .sub (.c (.int .i64 24)) (.s 50)), none, [7]⟩,
       ⟨(some 52), (.bin .shr (.s 47) (.s 51)), none, [4, 8]⟩,
       ⟨(some 53), (.cvi .u8 (.s 52)), none, [9]⟩,
       ⟨(some 54), (.iaa 32 1 (.s 8) (.s 43)), none, [0, 0, 1, 2, 3, 4, 5, 6, 7, 8, 9, 10]⟩,
       ⟨none, (.stc 1 (.s 54) (.s 53)), none, [11, 10, 0, 1, 2, 3, 4, 5, 6, 7, 8, 9, 10]⟩] false))
    (.region [
      ⟨(some 41), (.mv (.s 9)), none, []⟩,
      ⟨(some 42), (.bin .add (.s 41) (.c (.int .i64 1))), none, [0]⟩,
      ⟨(some 9), (.mv (.s 42)), none, [1, 0, 1]⟩] false))))))
  (.seq (.region [
    ⟨(some 55), (.lda 32 (some .u8) (.s 8)), none, []⟩,
    ⟨none, (.stc 32 (.s 2) (.s 55)), none, [0, 0]⟩] false)
  .ret))))))), false, (some [(Sh.sl (Sh.int .u8))]), (some (Sh.ar .u8))⟩

/-- euphroe/sha256.Block -/
def k215 : Fun := ⟨2, 9, [0, 1, 2, 3, 4], [(.cell 4 8 true (some .u32))],
  (.seq (.region [
    ⟨(some 2), (.box (.s 0)), none, []⟩,
    ⟨(some 3), (.box (.s 1)), none, []⟩,
    ⟨(some 4), (.new (.ints .u32 [0, 0, 0, 0, 0, 0, 0, 0])), none, []⟩] false)
  (.seq (.region [
    ⟨(some 5), (.lda 8 (some .u32) (.s 2)), none, []⟩,
    ⟨(some 6), (.lda 64 (some .u8) (.s 3)), none, []⟩,
    ⟨(some 7), (.call (.c (.fn 83 [])) [(.c (.int .i64 64)), (.c (.int .i64 3))]), none, []⟩,
    ⟨(some 8), (.call (.c (.fn 229 [])) [(.s 5), (.s 6), (.s 7)]), none, [0, 1, 2, 2]⟩,
    ⟨none, (.stc 8 (.s 4) (.s 8)), none, [3, 3, 0, 1, 2, 3]⟩] true)
  .ret)), false, (some [(Sh.ar .u32), (Sh.ar .u8)]), (some (Sh.ar .u32))⟩

/-- euphroe/euphroeref06.Block -/
def k216 : Fun := ⟨2, 161, [0, 1, 2, 3, 4, 5, 6, 7, 8, 9, 10, 11, 12, 14, 18, 76, 149], [(.cell 4 8 true (some .u32))],
  (.seq (.region [
    ⟨(some 2), (.box (.s 0)), none, []⟩,
    ⟨(some 3), (.box (.s 1)), none, []⟩,
    ⟨(some 4), (.new (.ints .u32 [0, 0, 0, 0, 0, 0, 0, 0])), none, []⟩] false)
  (.seq (.region [
    ⟨(some 5), (.new (.ints .u32 [0, 0, 0, 0, 0, 0, 0, 0, 0, 0, 0, 0, 0, 0, 0, 0, 0, 0, 0, 0, 0, 0, 0, 0, 0, 0, 0, 0, 0, 0, 0, 0, 0, 0, 0, 0, 0, 0, 0, 0, 0, 0, 0, 0, 0, 0, 0, 0, 0, 0, 0, 0, 0, 0, 0, 0, 0, 0, 0, 0, 0, 0, 0, 0])), none, []⟩] false)
  (.seq (.seq (.region [
    ⟨(some 6), (.mv (.c (.int .i64 0))), none, []⟩] false)
  (.block 0
   (.loop ⟨0, [], false, [2, 3, 4, 5, 6], []⟩
    (.seq (.seq (.region [
      ⟨(some 13), (.mv (.s 6)), none, []⟩,
      ⟨(some 14), (.bin .lss (.s 13) (.c (.int .i64 64))), none, [0]⟩] false)
    (.cond (.s 14)
     .skip
     (.pre ⟨0, [], false, [2, 4, 5], []⟩ (.exit 0))))
    (.seq (.block 1
     (.seq (.region [
       ⟨(some 17), (.mv (.s 6)), none, []⟩,
       ⟨(some 18), (.bin .lss (.s 17) (.c (.int .i64 16))), none, [0]⟩] false)
     (.cond (.s 18)
      (.region [
        ⟨(some 19), (.mv (.s 6)), none, []⟩,
        ⟨(some 20), (.mv (.s 6)), none, []⟩,
        ⟨(some 21), (.bin .mul (.c (.int .i64 4)) (.s 20)), none, [1]⟩,
        ⟨(some 22), (.iaa 64 1 (.s 3) (.s 21)), none, [2]⟩,
        ⟨(some 23), (.ldc (.s 22)), none, [3]⟩,
        ⟨(some 24), (.cvi .u32 (.s 23)), none, [4]⟩,
        ⟨(some 25), (.bin .mul (.s 24) (.c (.int .u32 16777216))), none, [5]⟩,
        ⟨(some 26), (.mv (.s 6)), none, []⟩,
        ⟨(some 27), (.bin .mul (.c (.int .i64 4)) (.s 26)), none, [7]⟩,
        ⟨(some 28), (.bin .add (.s 27) (.c (.int .i64 1))), none, [8]⟩,
        ⟨(some 29), (.iaa 64 1 (.s 3) (.s 28)), none, [9]⟩,
        ⟨(some 30), (.ldc (.s 29)), none, [10]⟩,
        ⟨(some 31), (.cvi .u32 (.s 30)), none, [11]⟩,
        ⟨(some 32), (.bin .mul (.s 31) (.c (.int .u32 65536))), none, [12]⟩,
        ⟨(some 33), (.bin .add (.s 25) (.s 32)), none, [6, 13]⟩,
        ⟨(some 34), (.mv (.s 6)), none, []⟩,
        ⟨(some 35), (.bin .mul (.c (.int .i64 4)) (.s 34)), none, [15]⟩,
        ⟨(some 36), (.bin .add (.s 35) (.c (.int .i64 2))), none, [16]⟩,
        ⟨(some 37), (.iaa 64 1 (.s 3) (.s 36)), none, [17]⟩,
        ⟨(some 38), (.ldc (.s 37)), none, [18]⟩,
        ⟨(some 39), (.cvi .u32 (.s 38)), none, [19]⟩,
        ⟨(some 40), (.bin .mul (.s 39) (.c (.int .u32 256))), none, [20]⟩,
        ⟨(some 41), (.bin .add (.s 33) (.s 40)), none, [14, 21]⟩,
        ⟨(some 42), (.mv (.s 6)), none, []⟩,
        ⟨(some 43), (.bin .mul (.c (.int .i64 4)) (.s 42)), none, [23]⟩,
        ⟨(some 44), (.bin .add (.s 43) (.c (.int .i64 3))), none, [24]⟩,
        ⟨(some 45), (.iaa 64 1 (.s 3) (.s 44)), none, [25]⟩,
        ⟨(some 46), (.ldc (.s 45)), none, [26]⟩,
        ⟨(some 47), (.cvi .u32 (.s 46)), none, [27]⟩,
        ⟨(some 48), (.bin .add (.s 41) (.s 47)), none, [22, 28]⟩,
        ⟨(some 49), (.iaa 64 1 (.s 5) (.s 19)), none, [0, 0, 1, 2, 3, 4, 5, 6, 7, 8, 9, 10, 11, 12, 13, 14, 15, 16, 17, 18, 19, 20, 21, 22, 23, 24, 25, 26, 27, 28, 29]⟩,
        ⟨none, (.stc 1 (.s 49) (.s 48)), none, [30, 29, 0, 1, 2, 3, 4, 5, 6, 7, 8, 9, 10, 11, 12, 13, 14, 15, 16, 17, 18, 19, 20, 21, 22, 23, 24, 25, 26, 27, 28, 29]⟩] true)
      (.region [
        ⟨(some 50), (.mv (.s 6)), none, []⟩,
        ⟨(some 51), (.mv (.s 6)), none, []⟩,
        ⟨(some 52), (.bin .sub (.s 51) (.c (.int .i64 16))), none, [1]⟩,
        ⟨(some 53), (.iaa 64 1 (.s 5) (.s 52)), none, [2]⟩,
        ⟨(some 54), (.ldc (.s 53)), none, [3]⟩,
        ⟨(some 55), (.mv (.s 6)), none, []⟩,
        ⟨(some 56), (.bin .sub (.s 55) (.c (.int .i64 7))), none, [5]⟩,
        ⟨(some 57), (.iaa 64 1 (.s 5) (.s 56)), none, [6]⟩,
        ⟨(some 58), (.ldc (.s 57)), none, [7]⟩,
        ⟨(some 59), (.bin .add (.s 54) (.s 58)), none, [4, 8]⟩,
        ⟨(some 60), (.mv (.s 6)), none, []⟩,
        ⟨(some 61), (.bin .sub (.s 60) (.c (.int .i64 15))), none, [10]⟩,
        ⟨(some 62), (.iaa 64 1 (.s 5) (.s 61)), none, [11]⟩,
        ⟨(some 63), (.ldc (.s 62)), none, [12]⟩,
        ⟨(some 64), (.call (.c (.fn 230 [])) [(.s 63), (.c (.int .i64 7)), (.c (.int .i64 18)), (.c (.int .i64 3))]), none, [13]⟩,
        ⟨(some 65), (.bin .add (.s 59) (.s 64)), none, [9, 14]⟩,
        ⟨(some 66), (.mv (.s 6)), none, []⟩,
        ⟨(some 67), (.bin .sub (.s 66) (.c (.int .i64 2))), none, [16]⟩,
        ⟨(some 68), (.iaa 64 1 (.s 5) (.s 67)), none, [17]⟩,
        ⟨(some 69), (.ldc (.s 68)), none, [18]⟩,
        ⟨(some 70), (.call (.c (.fn 230 [])) [(.s 69), (.c (.int .i64 17)), (.c (.int .i64 19)), (.c (.int .i64 10))]), none, [19, 14]⟩,
        ⟨(some 71), (.bin .add (.s 65) (.s 70)), none, [15, 20]⟩,
        ⟨(some 72), (.iaa 64 1 (.s 5) (.s 50)), none, [0, 0, 1, 2, 3, 4, 5, 6, 7, 8, 9, 10, 11, 12, 13, 14, 15, 16, 17, 18, 19, 20, 21]⟩,
        ⟨none, (.stc 1 (.s 72) (.s 71)), none, [22, 21, 20, 0, 1, 2, 3, 4, 5, 6, 7, 8, 9, 10, 11, 12, 13, 14, 15, 16, 17, 18, 19, 20, 21]⟩] true))))
    (.region [
      ⟨(some 15), (.mv (.s 6)), none, []⟩,
      ⟨(some 16), (.bin .add (.s 15) (.c (.int .i64 1))), none, [0]⟩,
      ⟨(some 6), (.mv (.s 16)), none, [1, 0, 1]⟩] false))))))
  (.seq (.region [
    ⟨(some 73), (.call (.c (.fn 231 [])) []), none, []⟩,
    ⟨(some 7), (.mv (.s 73)), none, [0, 0, 0]⟩] false)
  (.seq (.region [
    ⟨(some 74), (.lda 8 (some .u32) (.s 2)), none, []⟩,
    ⟨(some 8), (.new (.ints .u32 [0, 0, 0, 0, 0, 0, 0, 0])), none, []⟩,
    ⟨none, (.stc 8 (.s 8) (.s 74)), none, [1, 0, 0, 1]⟩] false)
  (.seq (.seq (.region [
    ⟨(some 9), (.mv (.c (.int .i64 0))), none, []⟩] false)
  (.block 2
   (.loop ⟨1, [], false, [2, 4, 5, 7, 8, 9], []⟩
    (.seq (.seq (.region [
      ⟨(some 75), (.mv (.s 9)), none, []⟩,
      ⟨(some 76), (.bin .lss (.s 75) (.c (.int .i64 64))), none, [0]⟩] false)
    (.cond (.s 76)
     .skip
     (.pre ⟨0, [], false, [2, 4, 8], []⟩ (.exit 2))))
    (.seq (.block 3
     (.seq (.region [
       ⟨(some 79), (.iaa 8 1 (.s 8) (.c (.int .i64 7))), none, []⟩,
       ⟨(some 80), (.ldc (.s 79)), none, [0]⟩,
       ⟨(some 81), (.iaa 8 1 (.s 8) (.c (.int .i64 4))), none, []⟩,
       ⟨(some 82), (.ldc (.s 81)), none, [2]⟩,
       ⟨(some 83), (.call (.c (.fn 232 [])) [(.s 82), (.c (.int .i64 6)), (.c (.int .i64 11)), (.c (.int .i64 25))]), none, [3]⟩,
       ⟨(some 84), (.bin .add (.s 80) (.s 83)), none, [1, 4]⟩,
       ⟨(some 85), (.iaa 8 1 (.s 8) (.c (.int .i64 4))), none, []⟩,
       ⟨(some 86), (.ldc (.s 85)), none, [6]⟩,
       ⟨(some 87), (.iaa 8 1 (.s 8) (.c (.int .i64 5))), none, []⟩,
       ⟨(some 88), (.ldc (.s 87)), none, [8]⟩,
       ⟨(some 89), (.bin .and (.s 86) (.s 88)), none, [7, 9]⟩,
       ⟨(some 90), (.iaa 8 1 (.s 8) (.c (.int .i64 4))), none, []⟩,
       ⟨(some 91), (.ldc (.s 90)), none, [11]⟩,
       ⟨(some 92), (.bin .sub (.c (.int .u32 4294967295)) (.s 91)), none, [12]⟩,
       ⟨(some 93), (.iaa 8 1 (.s 8) (.c (.int .i64 6))), none, []⟩,
       ⟨(some 94), (.ldc (.s 93)), none, [14]⟩,
       ⟨(some 95), (.bin .and (.s 92) (.s 94)), none, [13, 15]⟩,
       ⟨(some 96), (.bin .or (.s 89) (.s 95)), none, [10, 16]⟩,
       ⟨(some 97), (.bin .add (.s 84) (.s 96)), none, [5, 17]⟩,
       ⟨(some 98), (.mv (.s 7)), none, []⟩,
       ⟨(some 99), (.mv (.s 9)), none, []⟩,
       ⟨(some 100), (.iad 1 (.s 98) (.s 99)), none, [19, 20]⟩,
       ⟨(some 101), (.ldc (.s 100)), none, [21]⟩,
       ⟨(some 102), (.bin .add (.s 97) (.s 101)), none, [18, 22]⟩,
       ⟨(some 103), (.mv (.s 9)), none, []⟩,
       ⟨(some 104), (.iaa 64 1 (.s 5) (.s 103)), none, [24]⟩,
       ⟨(some 105), (.ldc (.s 104)), none, [25]⟩,
       ⟨(some 106), (.bin .add (.s 102) (.s 105)), none, [23, 26]⟩,
       ⟨(some 10), (.mv (.s 106)), none, [27, 4, 0, 1, 2, 3, 4, 5, 6, 7, 8, 9, 10, 11, 12, 13, 14, 15, 16, 17, 18, 19, 20, 21, 22, 23, 24, 25, 26, 27]⟩] true)
     (.seq (.region [
       ⟨(some 107), (.iaa 8 1 (.s 8) (.c (.int .i64 0))), none, []⟩,
       ⟨(some 108), (.ldc (.s 107)), none, [0]⟩,
       ⟨(some 109), (.call (.c (.fn 232 [])) [(.s 108), (.c (.int .i64 2)), (.c (.int .i64 13)), (.c (.int .i64 22))]), none, [1]⟩,
       ⟨(some 110), (.iaa 8 1 (.s 8) (.c (.int .i64 0))), none, []⟩,
       ⟨(some 111), (.ldc (.s 110)), none, [3]⟩,
       ⟨(some 112), (.iaa 8 1 (.s 8) (.c (.int .i64 1))), none, []⟩,
       ⟨(some 113), (.ldc (.s 112)), none, [5]⟩,
       ⟨(some 114), (.bin .and (.s 111) (.s 113)), none, [4, 6]⟩,
       ⟨(some 115), (.iaa 8 1 (.s 8) (.c (.int .i64 0))), none, []⟩,
       ⟨(some 116), (.ldc (.s 115)), none, [8]⟩,
       ⟨(some 117), (.iaa 8 1 (.s 8) (.c (.int .i64 2))), none, []⟩,
       ⟨(some 118), (.ldc (.s 117)), none, [10]⟩,
       ⟨(some 119), (.bin .and (.s 116) (.s 118)), none, [9, 11]⟩,
       ⟨(some 120), (.bin .or (.s 114) (.s 119)), none, [7, 12]⟩,
       ⟨(some 121), (.iaa 8 1 (.s 8) (.c (.int .i64 1))), none, []⟩,
       ⟨(some 122), (.ldc (.s 121)), none, [14]⟩,
       ⟨(some 123), (.iaa 8 1 (.s 8) (.c (.int .i64 2))), none, []⟩,
       ⟨(some 124), (.ldc (.s 123)), none, [16]⟩,
       ⟨(some 125), (.bin .and (.s 122) (.s 124)), none, [15, 17]⟩,
       ⟨(some 126), (.bin .or (.s 120) (.s 125)), none, [13, 18]⟩,
       ⟨(some 127), (.bin .add (.s 109) (.s 126)), none, [2, 19]⟩,
       ⟨(some 11), (.mv (.s 127)), none, [20, 2, 0, 1, 2, 3, 4, 5, 6, 7, 8, 9, 10, 11, 12, 13, 14, 15, 16, 17, 18, 19, 20]⟩] true)
     (.region [
       ⟨(some 128), (.mv (.s 10)), none, []⟩,
       ⟨(some 129), (.mv (.s 11)), none, []⟩,
       ⟨(some 130), (.bin .add (.s 128) (.s 129)), none, [0, 1]⟩,
       ⟨(some 131), (.iaa 8 1 (.s 8) (.c (.int .i64 0))), none, []⟩,
       ⟨(some 132), (.ldc (.s 131)), none, [3]⟩,
       ⟨(some 133), (.iaa 8 1 (.s 8) (.c (.int .i64 1))), none, []⟩,
       ⟨(some 134), (.ldc (.s 133)), none, [5]⟩,
       ⟨(some 135), (.iaa 8 1 (.s 8) (.c (.int .i64 2))), none, []⟩,
       ⟨(some 136), (.ldc (.s 135)), none, [7]⟩,
       ⟨(some 137), (.iaa 8 1 (.s 8) (.c (.int .i64 3))), none, []⟩,
       ⟨(some 138), (.ldc (.s 137)), none, [9]⟩,
       ⟨(some 139), (.mv (.s 10)), none, []⟩,
       ⟨(some 140), (.bin .add (.s 138) (.s 139)), none, [10, 11]⟩,
       ⟨(some 141), (.iaa 8 1 (.s 8) (.c (.int .i64 4))), none, []⟩,
       ⟨(some 142), (.ldc (.s 141)), none, [13]⟩,
       ⟨(some 143), (.iaa 8 1 (.s 8) (.c (.int .i64 5))), none, []⟩,
       ⟨(some 144), (.ldc (.s 143)), none, [15]⟩,
       ⟨(some 145), (.iaa 8 1 (.s 8) (.c (.int .i64 6))), none, []⟩,
       ⟨(some 146), (.ldc (.s 145)), none, [17]⟩,
       ⟨(some 147), (.build (.ints .u32 [0, 0, 0, 0, 0, 0, 0, 0]) [(0, 1, (.s 130)), (1, 1, (.s 132)), (2, 1, (.s 134)), (3, 1, (.s 136)), (4, 1, (.s 140)), (5, 1, (.s 142)), (6, 1, (.s 144)), (7, 1, (.s 146))]), none, [2, 4, 6, 8, 12, 14, 16, 18]⟩,
       ⟨none, (.stc 8 (.s 8) (.s 147)), none, [19, 0, 1, 2, 3, 4, 5, 6, 7, 8, 9, 10, 11, 12, 13, 14, 15, 16, 17, 18, 19]⟩] false))))
    (.region [
      ⟨(some 77), (.mv (.s 9)), none, []⟩,
      ⟨(some 78), (.bin .add (.s 77) (.c (.int .i64 1))), none, [0]⟩,
      ⟨(some 9), (.mv (.s 78)), none, [1, 0, 1]⟩] false))))))
  (.seq (.seq (.region [
    ⟨(some 12), (.mv (.c (.int .i64 0))), none, []⟩] false)
  (.block 4
   (.loop ⟨2, [], false, [2, 4, 8, 12], []⟩
    (.seq (.seq (.region [
      ⟨(some 148), (.mv (.s 12)), none, []⟩,
      ⟨(some 149), (.bin .lss (.s 148) (.c (.int .i64 8))), none, [0]⟩] false)
    (.cond (.s 149)
     .skip
     (.pre ⟨0, [], false, [4, 8], []⟩ (.exit 4))))
    (.seq (.block 5
     (.region [
       ⟨(some 152), (.mv (.s 12)), none, []⟩,
       ⟨(some 153), (.iaa 8 1 (.s 8) (.s 152)), none, [0]⟩,
       ⟨(some 154), (.ldc (.s 153)), none, [1]⟩,
       ⟨(some 155), (.mv (.s 12)), none, []⟩,
       ⟨(some 156), (.iaa 8 1 (.s 2) (.s 155)), none, [3]⟩,
       ⟨(some 157), (.ldc (.s 156)), none, [4]⟩,
       ⟨(some 158), (.bin .add (.s 154) (.s 157)), none, [2, 5]⟩,
       ⟨(some 159), (.iaa 8 1 (.s 8) (.s 152)), none, [0, 0, 1, 2, 3, 4, 5, 6]⟩,
       ⟨none, (.stc 1 (.s 159) (.s 158)), none, [7, 6, 0, 1, 2, 3, 4, 5, 6]⟩] true))
    (.region [
      ⟨(some 150), (.mv (.s 12)), none, []⟩,
      ⟨(some 151), (.bin .add (.s 150) (.c (.int .i64 1))), none, [0]⟩,
      ⟨(some 12), (.mv (.s 151)), none, [1, 0, 1]⟩] false))))))
  (.seq (.region [
    ⟨(some 160), (.lda 8 (some .u32) (.s 8)), none, []⟩,
    ⟨none, (.stc 8 (.s 4) (.s 160)), none, [0, 0]⟩] false)
  .ret)))))))), false, (some [(Sh.ar .u32), (Sh.ar .u8)]), (some (Sh.ar .u32))⟩

/-- euphroe/sha256.Tail -/
def k217 : Fun := ⟨1, 25, [0, 2, 3, 4, 5], [(.tmp 2)],
  (.seq (.region [
    ⟨(some 2), (.mv (.c .nils)), none, []⟩] false)
  (.seq (.region [
    ⟨(some 7), (.mv (.s 0)), none, []⟩,
    ⟨(some 8), (.bin .add (.s 7) (.c (.int .u64 1))), none, [0]⟩,
    ⟨(some 9), (.bin .add (.s 8) (.c (.int .u64 8))), none, [1]⟩,
    ⟨(some 10), (.bin .rem (.s 9) (.c (.int .u64 64))), none, [2]⟩,
    ⟨(some 11), (.bin .sub (.c (.int .u64 64)) (.s 10)), none, [3]⟩,
    ⟨(some 12), (.bin .rem (.s 11) (.c (.int .u64 64))), none, [4]⟩,
    ⟨(some 3), (.mv (.s 12)), none, [5, 0, 1, 2, 3, 4, 5]⟩] false)
  (.seq (.region [
    ⟨(some 13), (.bsl 1 1 (.ints .u8 [0]) [(0, 1, (.c (.int .u8 128)))]), none, []⟩,
    ⟨(some 14), (.mv (.s 3)), none, []⟩,
    ⟨(some 15), (.apz 1 1 (.ints .u8 [0]) (.s 13) (.s 14)), none, [0, 1]⟩,
    ⟨(some 4), (.mv (.s 15)), none, [2, 2, 0, 1, 2]⟩] false)
  (.seq (.region [
    ⟨(some 17), (.mv (.s 0)), none, []⟩,
    ⟨(some 18), (.bin .mul (.s 17) (.c (.int .u64 8))), none, [0]⟩,
    ⟨(some 19), (.call (.c (.fn 19 [])) [(.s 18), (.c (.int .i64 8)), (.c (.bool false))]), none, [1]⟩,
    ⟨(some 16), (.mv (.s 19)), none, [2]⟩,
    ⟨(some 20), (.ext (.s 16) 0), none, [3]⟩,
    ⟨(some 21), (.ext (.s 16) 1), none, [3]⟩,
    ⟨(some 5), (.mv (.s 20)), none, [4, 2, 0, 1, 2, 3, 4]⟩,
    ⟨(some 6), (.mv (.s 21)), none, [5, 6, 0, 1, 2, 3, 4, 5, 6]⟩] false)
  (.seq (.region [
    ⟨(some 22), (.mv (.s 4)), none, []⟩,
    ⟨(some 23), (.mv (.s 5)), none, []⟩,
    ⟨(some 24), (.app 1 1 (.s 22) (.s 23)), none, [0, 1]⟩,
    ⟨(some 2), (.mv (.s 24)), none, [2, 2, 0, 1, 2]⟩] false)
  .ret))))), false, (some [(Sh.int .u64)]), (some (Sh.sl (Sh.int .u8)))⟩

/-- euphroe/euphroeref06.Tail -/
def k218 : Fun := ⟨1, 5, [0, 2], [(.tmp 2)],
  (.seq (.region [
    ⟨(some 2), (.mv (.c .nils)), none, []⟩] false)
  (.seq (.region [
    ⟨(some 3), (.mv (.s 0)), none, []⟩,
    ⟨(some 4), (.call (.c (.fn 186 [])) [(.s 3)]), none, [0]⟩,
    ⟨(some 2), (.mv (.s 4)), none, [1, 1, 0, 1]⟩] false)
  .ret)), false, (some [(Sh.int .u64)]), (some (Sh.sl (Sh.int .u8)))⟩

/-- euphroe/sha256.First -/
def k219 : Fun := ⟨0, 4, [0], [(.cell 0 8 true (some .u32))],
  (.seq (.region [
    ⟨(some 0), (.new (.ints .u32 [0, 0, 0, 0, 0, 0, 0, 0])), none, []⟩] false)
  (.seq (.region [
    ⟨(some 1), (.call (.c (.fn 83 [])) [(.c (.int .i64 8)), (.c (.int .i64 2))]), none, []⟩,
    ⟨(some 2), (.s2a 8 (.s 1)), none, [0]⟩,
    ⟨(some 3), (.lda 8 (some .u32) (.s 2)), none, [1]⟩,
    ⟨none, (.stc 8 (.s 0) (.s 3)), none, [2, 0, 0, 1, 2]⟩] false)
  .ret)), false, (some []), (some (Sh.ar .u32))⟩

/-- euphroe/euphroeref06.First -/
def k220 : Fun := ⟨0, 2, [0], [(.cell 0 8 true (some .u32))],
  (.seq (.region [
    ⟨(some 0), (.new (.ints .u32 [0, 0, 0, 0, 0, 0, 0, 0])), none, []⟩] false)
  (.seq (.region [
    ⟨(some 1), (.build (.ints .u32 [0, 0, 0, 0, 0, 0, 0, 0]) [(0, 1, (.c (.int .u32 1779033703))), (1, 1, (.c (.int .u32 3144134277))), (2, 1, (.c (.int .u32 1013904242))), (3, 1, (.c (.int .u32 2773480762))), (4, 1, (.c (.int .u32 1359893119))), (5, 1, (.c (.int .u32 2600822924))), (6, 1, (.c (.int .u32 528734635))), (7, 1, (.c (.int .u32 1541459225)))]), none, []⟩,
    ⟨none, (.stc 8 (.s 0) (.s 1)), none, [0, 0]⟩] false)
  .ret)), false, (some []), (some (Sh.ar .u32))⟩

/-- euphroe/euphroelaw07.alive -/
def k221 : Fun := ⟨0, 35, [0, 1], [(.tmp 0)],
  (.seq (.region [
    ⟨(some 0), (.mv (.c (.bool false))), none, []⟩] false)
  (.seq (.region [
    ⟨(some 2), (.call (.c (.fn 223 [])) [(.c .nils), (.c .nils)]), none, []⟩,
    ⟨(some 1), (.new (.ints .u8 [0, 0, 0, 0, 0, 0, 0, 0, 0, 0, 0, 0, 0, 0, 0, 0, 0, 0, 0, 0, 0, 0, 0, 0, 0, 0, 0, 0, 0, 0, 0, 0])), none, []⟩,
    ⟨none, (.stc 32 (.s 1) (.s 2)), none, [1, 0, 0, 0, 1]⟩] false)
  (.seq (.region [
    ⟨(some 3), (.iaa 32 1 (.s 1) (.c (.int .i64 0))), none, []⟩,
    ⟨(some 4), (.ldc (.s 3)), none, [0]⟩,
    ⟨(some 5), (.bin .eql (.s 4) (.c (.int .u8 182))), none, [1]⟩,
    ⟨(some 6), (.mv (.s 5)), none, [2]⟩,
    ⟨(some 7), (.iaa 32 1 (.s 1) (.c (.int .i64 1))), (some (6, true)), [3]⟩,
    ⟨(some 8), (.ldc (.s 7)), (some (6, true)), [4, 3]⟩,
    ⟨(some 9), (.bin .eql (.s 8) (.c (.int .u8 19))), (some (6, true)), [5, 3]⟩,
    ⟨(some 10), (.pick (.s 6) (.s 9) (.c (.bool false))), none, [3, 6]⟩,
    ⟨(some 11), (.mv (.s 10)), none, [7, 3]⟩,
    ⟨(some 12), (.iaa 32 1 (.s 1) (.c (.int .i64 2))), (some (11, true)), [8]⟩,
    ⟨(some 13), (.ldc (.s 12)), (some (11, true)), [9, 8]⟩,
    ⟨(some 14), (.bin .eql (.s 13) (.c (.int .u8 103))), (some (11, true)), [10, 8]⟩,
    ⟨(some 15), (.pick (.s 11) (.s 14) (.c (.bool false))), none, [8, 11]⟩,
    ⟨(some 16), (.mv (.s 15)), none, [12, 8]⟩,
    ⟨(some 17), (.iaa 32 1 (.s 1) (.c (.int .i64 3))), (some (16, true)), [13]⟩,
    ⟨(some 18), (.ldc (.s 17)), (some (16, true)), [14, 13]⟩,
    ⟨(some 19), (.bin .eql (.s 18) (.c (.int .u8 154))), (some (16, true)), [15, 13]⟩,
    ⟨(some 20), (.pick (.s 16) (.s 19) (.c (.bool false))), none, [13, 16]⟩,
    ⟨(some 21), (.mv (.s 20)), none, [17, 13]⟩,
    ⟨(some 22), (.sla 32 1 (.s 1) none none none), (some (21, true)), [18]⟩,
    ⟨(some 23), (.call (.c (.fn 226 [])) [(.c .nils), (.s 22), (.c .nils)]), (some (21, true)), [19, 18, 18]⟩,
    ⟨(some 24), (.pick (.s 21) (.s 23) (.c (.bool false))), none, [18, 20]⟩,
    ⟨(some 25), (.mv (.s 24)), none, [21, 20]⟩,
    ⟨(some 26), (.sla 32 1 (.s 1) none (some (.c (.int .i64 31))) none), (some (25, true)), [22]⟩,
    ⟨(some 27), (.call (.c (.fn 226 [])) [(.c .nils), (.s 26), (.c .nils)]), (some (25, true)), [23, 22, 22]⟩,
    ⟨(some 28), (.un .not (.s 27)), (some (25, true)), [24, 22]⟩,
    ⟨(some 29), (.pick (.s 25) (.s 28) (.c (.bool false))), none, [22, 25]⟩,
    ⟨(some 30), (.mv (.s 29)), none, [26, 24]⟩,
    ⟨(some 31), (.call (.c (.fn 227 [])) [(.c .nils), (.c (.int .i64 2))]), (some (30, true)), [27, 27]⟩,
    ⟨(some 32), (.len false (.s 31)), (some (30, true)), [28, 27]⟩,
    ⟨(some 33), (.bin .eql (.s 32) (.c (.int .i64 2))), (some (30, true)), [29, 27]⟩,
    ⟨(some 34), (.pick (.s 30) (.s 33) (.c (.bool false))), none, [27, 30]⟩,
    ⟨(some 0), (.mv (.s 34)), none, [31, 28, 0, 1, 2, 3, 4, 5, 6, 7, 8, 9, 10, 11, 12, 13, 14, 15, 16, 17, 18, 19, 20, 21, 22, 23, 24, 25, 26, 27, 28, 29, 30, 31]⟩] false)
  .ret))), false, (some []), (some Sh.bool)⟩

/-- euphroe/euphroeref07.Of -/
def k222 : Fun := ⟨2, 19, [0, 1, 4, 5, 6], [(.cell 4 32 true (some .u8))],
  (.seq (.region [
    ⟨(some 4), (.new (.ints .u8 [0, 0, 0, 0, 0, 0, 0, 0, 0, 0, 0, 0, 0, 0, 0, 0, 0, 0, 0, 0, 0, 0, 0, 0, 0, 0, 0, 0, 0, 0, 0, 0])), none, []⟩] false)
  (.seq (.region [
    ⟨(some 7), (.mv (.s 0)), none, []⟩,
    ⟨(some 8), (.call (.c (.fn 225 [])) [(.s 7)]), none, [0]⟩,
    ⟨(some 5), (.new (.ints .u8 [0, 0, 0, 0, 0, 0, 0, 0, 0, 0, 0, 0, 0, 0, 0, 0, 0, 0, 0, 0, 0, 0, 0, 0, 0, 0, 0, 0, 0, 0, 0, 0, 0, 0, 0, 0, 0, 0, 0, 0, 0, 0, 0, 0, 0, 0, 0, 0, 0, 0, 0, 0, 0, 0, 0, 0, 0, 0, 0, 0, 0, 0, 0, 0])), none, []⟩,
    ⟨none, (.stc 64 (.s 5) (.s 8)), none, [2, 1, 1, 0, 1, 2]⟩] false)
  (.seq (.region [
    ⟨(some 9), (.lda 64 (some .u8) (.s 5)), none, []⟩,
    ⟨(some 10), (.call (.c (.fn 233 [])) [(.s 9), (.c (.int .u8 54))]), none, [0]⟩,
    ⟨(some 11), (.mv (.s 1)), none, []⟩,
    ⟨(some 12), (.app 1 1 (.s 10) (.s 11)), none, [1, 2, 1]⟩,
    ⟨(some 13), (.call (.c (.fn 214 [])) [(.s 12)]), none, [3, 3]⟩,
    ⟨(some 6), (.new (.ints .u8 [0, 0, 0, 0, 0, 0, 0, 0, 0, 0, 0, 0, 0, 0, 0, 0, 0, 0, 0, 0, 0, 0, 0, 0, 0, 0, 0, 0, 0, 0, 0, 0])), none, []⟩,
    ⟨none, (.stc 32 (.s 6) (.s 13)), none, [5, 4, 4, 0, 1, 2, 3, 4, 5]⟩] false)
  (.seq (.region [
    ⟨(some 14), (.lda 64 (some .u8) (.s 5)), none, []⟩,
    ⟨(some 15), (.call (.c (.fn 233 [])) [(.s 14), (.c (.int .u8 92))]), none, [0]⟩,
    ⟨(some 16), (.sla 32 1 (.s 6) none none none), none, []⟩,
    ⟨(some 17), (.app 1 1 (.s 15) (.s 16)), none, [1, 2, 1]⟩,
    ⟨(some 18), (.call (.c (.fn 214 [])) [(.s 17)]), none, [3, 3]⟩,
    ⟨none, (.stc 32 (.s 4) (.s 18)), none, [4, 4, 0, 1, 2, 3, 4]⟩] true)
  .ret)))), false, (some [(Sh.sl (Sh.int .u8)), (Sh.sl (Sh.int .u8))]), (some (Sh.ar .u8))⟩

/-- euphroe/hmac.Of -/
def k223 : Fun := ⟨2, 17, [0, 1, 4, 5], [(.cell 4 32 true (some .u8))],
  (.seq (.region [
    ⟨(some 4), (.new (.ints .u8 [0, 0, 0, 0, 0, 0, 0, 0, 0, 0, 0, 0, 0, 0, 0, 0, 0, 0, 0, 0, 0, 0, 0, 0, 0, 0, 0, 0, 0, 0, 0, 0])), none, []⟩] false)
  (.seq (.region [
    ⟨(some 6), (.mv (.s 0)), none, []⟩,
    ⟨(some 7), (.call (.c (.fn 234 [])) [(.s 6), (.c (.int .u8 54))]), none, [0]⟩,
    ⟨(some 8), (.mv (.s 1)), none, []⟩,
    ⟨(some 9), (.call (.c (.fn 46 [])) [(.s 8)]), none, [2, 1]⟩,
    ⟨(some 10), (.bsl 2 1 (.vals [.nils, .nils]) [(0, 1, (.s 7)), (1, 1, (.s 9))]), none, [1, 3]⟩,
    ⟨(some 11), (.call (.c (.fn 213 [])) [(.s 10)]), none, [4, 3]⟩,
    ⟨(some 5), (.new (.ints .u8 [0, 0, 0, 0, 0, 0, 0, 0, 0, 0, 0, 0, 0, 0, 0, 0, 0, 0, 0, 0, 0, 0, 0, 0, 0, 0, 0, 0, 0, 0, 0, 0])), none, []⟩,
    ⟨none, (.stc 32 (.s 5) (.s 11)), none, [6, 5, 5, 0, 1, 2, 3, 4, 5, 6]⟩] false)
  (.seq (.region [
    ⟨(some 12), (.mv (.s 0)), none, []⟩,
    ⟨(some 13), (.call (.c (.fn 234 [])) [(.s 12), (.c (.int .u8 92))]), none, [0]⟩,
    ⟨(some 14), (.sla 32 1 (.s 5) none none none), none, []⟩,
    ⟨(some 15), (.bsl 2 1 (.vals [.nils, .nils]) [(0, 1, (.s 13)), (1, 1, (.s 14))]), none, [1, 2]⟩,
    ⟨(some 16), (.call (.c (.fn 213 [])) [(.s 15)]), none, [3, 1]⟩,
    ⟨none, (.stc 32 (.s 4) (.s 16)), none, [4, 4, 0, 1, 2, 3, 4]⟩] true)
  .ret))), false, (some [(Sh.sl (Sh.int .u8)), (Sh.sl (Sh.sl (Sh.int .u8)))]), (some (Sh.ar .u8))⟩

/-- euphroe/hmac.Key -/
def k224 : Fun := ⟨1, 16, [0, 2, 3, 4, 7], [(.cell 2 64 true (some .u8))],
  (.seq (.region [
    ⟨(some 2), (.new (.ints .u8 [0, 0, 0, 0, 0, 0, 0, 0, 0, 0, 0, 0, 0, 0, 0, 0, 0, 0, 0, 0, 0, 0, 0, 0, 0, 0, 0, 0, 0, 0, 0, 0, 0, 0, 0, 0, 0, 0, 0, 0, 0, 0, 0, 0, 0, 0, 0, 0, 0, 0, 0, 0, 0, 0, 0, 0, 0, 0, 0, 0, 0, 0, 0, 0])), none, []⟩] false)
  (.seq (.region [
    ⟨(some 3), (.new (.ints .u8 [0, 0, 0, 0, 0, 0, 0, 0, 0, 0, 0, 0, 0, 0, 0, 0, 0, 0, 0, 0, 0, 0, 0, 0, 0, 0, 0, 0, 0, 0, 0, 0, 0, 0, 0, 0, 0, 0, 0, 0, 0, 0, 0, 0, 0, 0, 0, 0, 0, 0, 0, 0, 0, 0, 0, 0, 0, 0, 0, 0, 0, 0, 0, 0])), none, []⟩] false)
  (.seq (.seq (.region [
    ⟨(some 5), (.mv (.s 0)), none, []⟩,
    ⟨(some 6), (.len false (.s 5)), none, [0]⟩,
    ⟨(some 7), (.bin .gtr (.s 6) (.c (.int .i64 64))), none, [1]⟩] false)
  (.cond (.s 7)
   (.seq (.region [
     ⟨(some 8), (.mv (.s 0)), none, []⟩,
     ⟨(some 9), (.bsl 1 1 (.vals [.nils]) [(0, 1, (.s 8))]), none, [0]⟩,
     ⟨(some 10), (.call (.c (.fn 213 [])) [(.s 9)]), none, [1]⟩,
     ⟨(some 4), (.new (.ints .u8 [0, 0, 0, 0, 0, 0, 0, 0, 0, 0, 0, 0, 0, 0, 0, 0, 0, 0, 0, 0, 0, 0, 0, 0, 0, 0, 0, 0, 0, 0, 0, 0])), none, []⟩,
     ⟨none, (.stc 32 (.s 4) (.s 10)), none, [3, 2, 2, 0, 1, 2, 3]⟩] false)
   (.region [
     ⟨(some 11), (.sla 32 1 (.s 4) none none none), none, []⟩,
     ⟨(some 0), (.mv (.s 11)), none, [0, 0]⟩] false))
   .skip))
  (.seq (.region [
    ⟨(some 12), (.sla 64 1 (.s 3) none none none), none, []⟩,
    ⟨(some 13), (.mv (.s 0)), none, []⟩,
    ⟨(some 14), (.cpy 1 (.s 12) (.s 13)), none, [0, 1]⟩] false)
  (.seq (.region [
    ⟨(some 15), (.lda 64 (some .u8) (.s 3)), none, []⟩,
    ⟨none, (.stc 64 (.s 2) (.s 15)), none, [0, 0]⟩] false)
  .ret))))), false, (some [(Sh.sl (Sh.int .u8))]), (some (Sh.ar .u8))⟩

/-- euphroe/euphroeref07.Key -/
def k225 : Fun := ⟨1, 25, [0, 2, 3, 4, 5, 8, 15], [(.cell 2 64 true (some .u8))],
  (.seq (.region [
    ⟨(some 2), (.new (.ints .u8 [0, 0, 0, 0, 0, 0, 0, 0, 0, 0, 0, 0, 0, 0, 0, 0, 0, 0, 0, 0, 0, 0, 0, 0, 0, 0, 0, 0, 0, 0, 0, 0, 0, 0, 0, 0, 0, 0, 0, 0, 0, 0, 0, 0, 0, 0, 0, 0, 0, 0, 0, 0, 0, 0, 0, 0, 0, 0, 0, 0, 0, 0, 0, 0])), none, []⟩] false)
  (.seq (.seq (.region [
    ⟨(some 6), (.mv (.s 0)), none, []⟩,
    ⟨(some 7), (.len false (.s 6)), none, [0]⟩,
    ⟨(some 8), (.bin .gtr (.s 7) (.c (.int .i64 64))), none, [1]⟩] false)
  (.cond (.s 8)
   (.seq (.region [
     ⟨(some 9), (.mv (.s 0)), none, []⟩,
     ⟨(some 10), (.call (.c (.fn 214 [])) [(.s 9)]), none, [0]⟩,
     ⟨(some 3), (.new (.ints .u8 [0, 0, 0, 0, 0, 0, 0, 0, 0, 0, 0, 0, 0, 0, 0, 0, 0, 0, 0, 0, 0, 0, 0, 0, 0, 0, 0, 0, 0, 0, 0, 0])), none, []⟩,
     ⟨none, (.stc 32 (.s 3) (.s 10)), none, [2, 1, 1, 0, 1, 2]⟩] false)
   (.region [
     ⟨(some 11), (.sla 32 1 (.s 3) none none none), none, []⟩,
     ⟨(some 0), (.mv (.s 11)), none, [0, 0]⟩] false))
   .skip))
  (.seq (.region [
    ⟨(some 4), (.new (.ints .u8 [0, 0, 0, 0, 0, 0, 0, 0, 0, 0, 0, 0, 0, 0, 0, 0, 0, 0, 0, 0, 0, 0, 0, 0, 0, 0, 0, 0, 0, 0, 0, 0, 0, 0, 0, 0, 0, 0, 0, 0, 0, 0, 0, 0, 0, 0, 0, 0, 0, 0, 0, 0, 0, 0, 0, 0, 0, 0, 0, 0, 0, 0, 0, 0])), none, []⟩] false)
  (.seq (.seq (.region [
    ⟨(some 5), (.mv (.c (.int .i64 0))), none, []⟩] false)
  (.block 0
   (.loop ⟨0, [(0, (Sh.sl (Sh.int .u8)))], false, [0, 2, 4, 5], []⟩
    (.seq (.seq (.region [
      ⟨(some 12), (.mv (.s 5)), none, []⟩,
      ⟨(some 13), (.mv (.s 0)), none, []⟩,
      ⟨(some 14), (.len false (.s 13)), none, [1]⟩,
      ⟨(some 15), (.bin .lss (.s 12) (.s 14)), none, [0, 2]⟩] false)
    (.cond (.s 15)
     .skip
     (.pre ⟨0, [], false, [2, 4], []⟩ (.exit 0))))
    (.seq (.block 1
     (.region [
       ⟨(some 18), (.mv (.s 5)), none, []⟩,
       ⟨(some 19), (.mv (.s 0)), none, []⟩,
       ⟨(some 20), (.mv (.s 5)), none, []⟩,
       ⟨(some 21), (.iad 1 (.s 19) (.s 20)), none, [1, 2]⟩,
       ⟨(some 22), (.ldc (.s 21)), none, [3]⟩,
       ⟨(some 23), (.iaa 64 1 (.s 4) (.s 18)), none, [0, 0, 1, 2, 3, 4]⟩,
       ⟨none, (.stc 1 (.s 23) (.s 22)), none, [5, 4, 0, 1, 2, 3, 4]⟩] false))
    (.region [
      ⟨(some 16), (.mv (.s 5)), none, []⟩,
      ⟨(some 17), (.bin .add (.s 16) (.c (.int .i64 1))), none, [0]⟩,
      ⟨(some 5), (.mv (.s 17)), none, [1, 0, 1]⟩] false))))))
  (.seq (.region [
    ⟨(some 24), (.lda 64 (some .u8) (.s 4)), none, []⟩,
    ⟨none, (.stc 64 (.s 2) (.s 24)), none, [0, 0]⟩] false)
  .ret))))), false, (some [(Sh.sl (Sh.int .u8))]), (some (Sh.ar .u8))⟩

/-- euphroe/hmac.Check -/
def k226 : Fun := ⟨3, 14, [0, 1, 2, 6, 7], [(.tmp 6)],
  (.seq (.region [
    ⟨(some 6), (.mv (.c (.bool false))), none, []⟩] false)
  (.seq (.region [
    ⟨(some 8), (.mv (.s 0)), none, []⟩,
    ⟨(some 9), (.mv (.s 2)), none, []⟩,
    ⟨(some 10), (.call (.c (.fn 223 [])) [(.s 8), (.s 9)]), none, [0, 1]⟩,
    ⟨(some 7), (.new (.ints .u8 [0, 0, 0, 0, 0, 0, 0, 0, 0, 0, 0, 0, 0, 0, 0, 0, 0, 0, 0, 0, 0, 0, 0, 0, 0, 0, 0, 0, 0, 0, 0, 0])), none, []⟩,
    ⟨none, (.stc 32 (.s 7) (.s 10)), none, [3, 2, 2, 0, 1, 2, 3]⟩] false)
  (.seq (.region [
    ⟨(some 11), (.sla 32 1 (.s 7) none none none), none, []⟩,
    ⟨(some 12), (.mv (.s 1)), none, []⟩,
    ⟨(some 13), (.call (.c (.fn 47 [])) [(.s 11), (.s 12)]), none, [0, 1]⟩,
    ⟨(some 6), (.mv (.s 13)), none, [2, 2, 0, 1, 2]⟩] false)
  .ret))), false, (some [(Sh.sl (Sh.int .u8)), (Sh.sl (Sh.int .u8)), (Sh.sl (Sh.sl (Sh.int .u8)))]), (some Sh.bool)⟩

/-- euphroe/hmac.Chain -/
def k227 : Fun := ⟨2, 24, [0, 1, 4, 5, 6, 7, 10, 11, 12], [(.tmp 4)],
  (.seq (.region [
    ⟨(some 4), (.mv (.c .nils)), none, []⟩] false)
  (.seq (.region [
    ⟨(some 5), (.mv (.c .nils)), none, []⟩] false)
  (.seq (.region [
    ⟨(some 6), (.mv (.c .nils)), none, []⟩] false)
  (.seq (.seq (.region [
    ⟨(some 8), (.mv (.s 1)), none, []⟩,
    ⟨(some 9), (.mnx true [(.s 8), (.c (.int .i64 0))]), none, [0]⟩,
    ⟨(some 10), (.mnx false [(.s 9), (.c (.int .i64 32))]), none, [1]⟩,
    ⟨(some 11), (.mv (.c (.int .i64 0))), none, []⟩] false)
  (.block 0
   (.loop ⟨0, [(6, (Sh.sl (Sh.int .u8)))], false, [0, 5, 6, 10, 11], [(5, (.imm []), 1)]⟩
    (.seq (.region [
      ⟨(some 12), (.bin .lss (.s 11) (.s 10)), none, []⟩] false)
    (.seq (.cond (.s 12)
     .skip
     (.pre ⟨0, [], false, [5], []⟩ (.exit 0)))
    (.seq (.block 1
     (.seq (.region [
       ⟨(some 13), (.mv (.s 0)), none, []⟩,
       ⟨(some 14), (.mv (.s 6)), none, []⟩,
       ⟨(some 15), (.bsl 1 1 (.vals [.nils]) [(0, 1, (.s 14))]), none, [1]⟩,
       ⟨(some 16), (.call (.c (.fn 223 [])) [(.s 13), (.s 15)]), none, [0, 2]⟩,
       ⟨(some 7), (.new (.ints .u8 [0, 0, 0, 0, 0, 0, 0, 0, 0, 0, 0, 0, 0, 0, 0, 0, 0, 0, 0, 0, 0, 0, 0, 0, 0, 0, 0, 0, 0, 0, 0, 0])), none, []⟩,
       ⟨none, (.stc 32 (.s 7) (.s 16)), none, [4, 3, 3, 0, 1, 2, 3, 4]⟩] false)
     (.seq (.region [
       ⟨(some 17), (.sla 32 1 (.s 7) none none none), none, []⟩,
       ⟨(some 6), (.mv (.s 17)), none, [0, 0]⟩] false)
     (.pre ⟨0, [(6, (Sh.sl (Sh.int .u8)))], true, [], []⟩ (.region [
       ⟨(some 18), (.mv (.s 5)), none, []⟩,
       ⟨(some 19), (.mv (.s 6)), none, []⟩,
       ⟨(some 20), (.bsl 1 1 (.vals [.nils]) [(0, 1, (.s 19))]), none, [1]⟩,
       ⟨(some 21), (.app 1 24 (.s 18) (.s 20)), none, [0, 2]⟩,
       ⟨(some 5), (.mv (.s 21)), none, [3, 3, 0, 1, 2, 3]⟩] false)))))
    (.region [
      ⟨(some 22), (.bin .add (.s 11) (.c (.int .i64 1))), none, []⟩,
      ⟨(some 11), (.mv (.s 22)), none, [0]⟩] false)))))))
  (.seq (.region [
    ⟨(some 23), (.mv (.s 5)), none, []⟩,
    ⟨(some 4), (.mv (.s 23)), none, [0, 0]⟩] false)
  .ret))))), false, (some [(Sh.sl (Sh.int .u8)), (Sh.int .i64)]), (some (Sh.sl (Sh.sl (Sh.int .u8))))⟩

/-- euphroe/euphroeref07.Chain -/
def k228 : Fun := ⟨2, 27, [0, 1, 4, 5, 6, 7, 8, 15], [(.tmp 4)],
  (.seq (.region [
    ⟨(some 4), (.mv (.c .nils)), none, []⟩] false)
  (.seq (.region [
    ⟨(some 5), (.mv (.c .nils)), none, []⟩] false)
  (.seq (.region [
    ⟨(some 6), (.mv (.c .nils)), none, []⟩] false)
  (.seq (.seq (.region [
    ⟨(some 7), (.mv (.c (.int .i64 0))), none, []⟩] false)
  (.block 0
   (.loop ⟨0, [(6, (Sh.sl (Sh.int .u8)))], false, [0, 1, 5, 6, 7], [(5, (.imm []), 1)]⟩
    (.seq (.seq (.region [
      ⟨(some 9), (.mv (.s 7)), none, []⟩,
      ⟨(some 10), (.mv (.s 1)), none, []⟩,
      ⟨(some 11), (.bin .lss (.s 9) (.s 10)), none, [0, 1]⟩,
      ⟨(some 12), (.mv (.s 11)), none, [2]⟩,
      ⟨(some 13), (.mv (.s 7)), (some (12, true)), [3]⟩,
      ⟨(some 14), (.bin .lss (.s 13) (.c (.int .i64 32))), (some (12, true)), [4, 3]⟩,
      ⟨(some 15), (.pick (.s 12) (.s 14) (.c (.bool false))), none, [3, 5]⟩] false)
    (.cond (.s 15)
     .skip
     (.pre ⟨0, [], false, [5], []⟩ (.exit 0))))
    (.seq (.block 1
     (.seq (.region [
       ⟨(some 18), (.mv (.s 0)), none, []⟩,
       ⟨(some 19), (.mv (.s 6)), none, []⟩,
       ⟨(some 20), (.call (.c (.fn 222 [])) [(.s 18), (.s 19)]), none, [0, 1]⟩,
       ⟨(some 8), (.new (.ints .u8 [0, 0, 0, 0, 0, 0, 0, 0, 0, 0, 0, 0, 0, 0, 0, 0, 0, 0, 0, 0, 0, 0, 0, 0, 0, 0, 0, 0, 0, 0, 0, 0])), none, []⟩,
       ⟨none, (.stc 32 (.s 8) (.s 20)), none, [3, 2, 2, 0, 1, 2, 3]⟩] false)
     (.seq (.region [
       ⟨(some 21), (.sla 32 1 (.s 8) none none none), none, []⟩,
       ⟨(some 6), (.mv (.s 21)), none, [0, 0]⟩] false)
     (.pre ⟨0, [(6, (Sh.sl (Sh.int .u8)))], true, [], []⟩ (.region [
       ⟨(some 22), (.mv (.s 5)), none, []⟩,
       ⟨(some 23), (.mv (.s 6)), none, []⟩,
       ⟨(some 24), (.bsl 1 1 (.vals [.nils]) [(0, 1, (.s 23))]), none, [1]⟩,
       ⟨(some 25), (.app 1 24 (.s 22) (.s 24)), none, [0, 2]⟩,
       ⟨(some 5), (.mv (.s 25)), none, [3, 3, 0, 1, 2, 3]⟩] false)))))
    (.region [
      ⟨(some 16), (.mv (.s 7)), none, []⟩,
      ⟨(some 17), (.bin .add (.s 16) (.c (.int .i64 1))), none, [0]⟩,
      ⟨(some 7), (.mv (.s 17)), none, [1, 0, 1]⟩] false))))))
  (.seq (.region [
    ⟨(some 26), (.mv (.s 5)), none, []⟩,
    ⟨(some 4), (.mv (.s 26)), none, [0, 0]⟩] false)
  .ret))))), false, (some [(Sh.sl (Sh.int .u8)), (Sh.int .i64)]), (some (Sh.sl (Sh.sl (Sh.int .u8))))⟩

/-- (euphroe/sha256.State).block -/
def k229 : Fun := ⟨3, 40, [0, 1, 2, 3, 4, 6, 7, 8, 9, 10, 13, 14, 15, 27, 28], [(.cell 6 8 true (some .u32))],
  (.seq (.region [
    ⟨(some 3), (.box (.s 0)), none, []⟩,
    ⟨(some 4), (.box (.s 1)), none, []⟩,
    ⟨(some 6), (.new (.ints .u32 [0, 0, 0, 0, 0, 0, 0, 0])), none, []⟩] false)
  (.seq (.region [
    ⟨(some 11), (.lda 8 (some .u32) (.s 3)), none, []⟩,
    ⟨(some 7), (.new (.ints .u32 [0, 0, 0, 0, 0, 0, 0, 0])), none, []⟩,
    ⟨none, (.stc 8 (.s 7) (.s 11)), none, [1, 0, 0, 1]⟩] false)
  (.seq (.seq (.region [
    ⟨(some 12), (.lda 64 (some .u8) (.s 4)), none, []⟩,
    ⟨(some 13), (.call (.c (.fn 235 [])) [(.s 12)]), none, [0]⟩,
    ⟨(some 14), (.mv (.c (.int .i64 0))), none, []⟩] false)
  (.block 0
   (.loop ⟨0, [], false, [2, 3, 6, 7, 13, 14], []⟩
    (.seq (.region [
      ⟨(some 15), (.bin .lss (.s 14) (.c (.int .i64 64))), none, []⟩] false)
    (.seq (.cond (.s 15)
     .skip
     (.pre ⟨0, [], false, [3, 6, 7], []⟩ (.exit 0)))
    (.seq (.block 1
     (.seq (.region [
       ⟨(some 16), (.mv (.s 14)), none, []⟩,
       ⟨(some 17), (.ixa 64 1 false (some .u32) (.s 13) (.s 14)), none, []⟩,
       ⟨(some 8), (.mv (.s 16)), none, [0, 0, 1]⟩,
       ⟨(some 9), (.mv (.s 17)), none, [1, 2, 0, 1, 2]⟩] false)
     (.region [
       ⟨(some 18), (.lda 8 (some .u32) (.s 7)), none, []⟩,
       ⟨(some 19), (.mv (.s 9)), none, []⟩,
       ⟨(some 20), (.mv (.s 2)), none, []⟩,
       ⟨(some 21), (.mv (.s 8)), none, []⟩,
       ⟨(some 22), (.iad 1 (.s 20) (.s 21)), none, [2, 3]⟩,
       ⟨(some 23), (.ldc (.s 22)), none, [4]⟩,
       ⟨(some 24), (.bin .add (.s 19) (.s 23)), none, [1, 5]⟩,
       ⟨(some 25), (.call (.c (.fn 236 [])) [(.s 18), (.s 24)]), none, [0, 6]⟩,
       ⟨none, (.stc 8 (.s 7) (.s 25)), none, [7, 7, 0, 1, 2, 3, 4, 5, 6, 7]⟩] true)))
    (.region [
      ⟨(some 26), (.bin .add (.s 14) (.c (.int .i64 1))), none, []⟩,
      ⟨(some 14), (.mv (.s 26)), none, [0]⟩] false)))))))
  (.seq (.seq (.region [
    ⟨(some 27), (.mv (.c (.int .i64 0))), none, []⟩] false)
  (.block 2
   (.loop ⟨1, [], false, [3, 6, 7, 27], []⟩
    (.seq (.region [
      ⟨(some 28), (.bin .lss (.s 27) (.c (.int .i64 8))), none, []⟩] false)
    (.seq (.cond (.s 28)
     .skip
     (.pre ⟨0, [], false, [6, 7], []⟩ (.exit 2)))
    (.seq (.block 3
     (.seq (.region [
       ⟨(some 29), (.mv (.s 27)), none, []⟩,
       ⟨(some 10), (.mv (.s 29)), none, [0, 0]⟩] false)
     (.region [
       ⟨(some 30), (.mv (.s 10)), none, []⟩,
       ⟨(some 31), (.iaa 8 1 (.s 7) (.s 30)), none, [0]⟩,
       ⟨(some 32), (.ldc (.s 31)), none, [1]⟩,
       ⟨(some 33), (.mv (.s 10)), none, []⟩,
       ⟨(some 34), (.iaa 8 1 (.s 3) (.s 33)), none, [3]⟩,
       ⟨(some 35), (.ldc (.s 34)), none, [4]⟩,
       ⟨(some 36), (.bin .add (.s 32) (.s 35)), none, [2, 5]⟩,
       ⟨(some 37), (.iaa 8 1 (.s 7) (.s 30)), none, [0, 0, 1, 2, 3, 4, 5, 6]⟩,
       ⟨none, (.stc 1 (.s 37) (.s 36)), none, [7, 6, 0, 1, 2, 3, 4, 5, 6]⟩] true)))
    (.region [
      ⟨(some 38), (.bin .add (.s 27) (.c (.int .i64 1))), none, []⟩,
      ⟨(some 27), (.mv (.s 38)), none, [0]⟩] false)))))))
  (.seq (.region [
    ⟨(some 39), (.lda 8 (some .u32) (.s 7)), none, []⟩,
    ⟨none, (.stc 8 (.s 6) (.s 39)), none, [0, 0]⟩] false)
  .ret))))), false, (some [(Sh.ar .u32), (Sh.ar .u8), (Sh.sl (Sh.int .u32))]), (some (Sh.ar .u32))⟩

/-- euphroe/euphroeref06.small -/
def k230 : Fun := ⟨4, 20, [0, 1, 2, 3, 8], [(.tmp 8)],
  (.seq (.region [
    ⟨(some 8), (.mv (.c (.int .u32 0))), none, []⟩] false)
  (.seq (.region [
    ⟨(some 9), (.mv (.s 0)), none, []⟩,
    ⟨(some 10), (.mv (.s 1)), none, []⟩,
    ⟨(some 11), (.call (.c (.fn 237 [])) [(.s 9), (.s 10)]), none, [0, 1]⟩,
    ⟨(some 12), (.mv (.s 0)), none, []⟩,
    ⟨(some 13), (.mv (.s 2)), none, []⟩,
    ⟨(some 14), (.call (.c (.fn 237 [])) [(.s 12), (.s 13)]), none, [3, 4, 2]⟩,
    ⟨(some 15), (.bin .xor (.s 11) (.s 14)), none, [2, 5]⟩,
    ⟨(some 16), (.mv (.s 0)), none, []⟩,
    ⟨(some 17), (.mv (.s 3)), none, []⟩,
    ⟨(some 18), (.bin .shr (.s 16) (.s 17)), none, [7, 8]⟩,
    ⟨(some 19), (.bin .xor (.s 15) (.s 18)), none, [6, 9]⟩,
    ⟨(some 8), (.mv (.s 19)), none, [10, 5, 0, 1, 2, 3, 4, 5, 6, 7, 8, 9, 10]⟩] true)
  .ret)), false, (some [(Sh.int .u32), (Sh.int .i64), (Sh.int .i64), (Sh.int .i64)]), (some (Sh.int .u32))⟩

/-- euphroe/euphroeref06.constants -/
def k231 : Fun := ⟨0, 2, [0], [(.tmp 0)],
  (.seq (.region [
    ⟨(some 0), (.mv (.c .nils)), none, []⟩] false)
  (.seq (.region [
    ⟨(some 1), (.bsl 64 1 (.ints .u32 [0, 0, 0, 0, 0, 0, 0, 0, 0, 0, 0, 0, 0, 0, 0, 0, 0, 0, 0, 0, 0, 0, 0, 0, 0, 0, 0, 0, 0, 0, 0, 0, 0, 0, 0, 0, 0, 0, 0, 0, 0, 0, 0, 0, 0, 0, 0, 0, 0, 0, 0, 0, 0, 0, 0, 0, 0, 0, 0, 0, 0, 0, 0, 0]) [(0, 1, (.c (.int .u32 1116352408))), (1, 1, (.c (.int .u32 1899447441))), (2, 1, (.c (.int .u32 3049323471))), (3, 1, (.c (.int .u32 3921009573))), (4, 1, (.c (.int .u32 961987163))), (5, 1, (.c (.int .u32 1508970993))), (6, 1, (.c (.int .u32 2453635748))), (7, 1, (.c (.int .u32 2870763221))), (8, 1, (.c (.int .u32 3624381080))), (9, 1, (.c (.int .u32 310598401))), (10, 1, (.c (.int .u32 607225278))), (11, 1, (.c (.int .u32 1426881987))), (12, 1, (.c (.int .u32 1925078388))), (13, 1, (.c (.int .u32 2162078206))), (14, 1, (.c (.int .u32 2614888103))), (15, 1, (.c (.int .u32 3248222580))), (16, 1, (.c (.int .u32 3835390401))), (17, 1, (.c (.int .u32 4022224774))), (18, 1, (.c (.int .u32 264347078))), (19, 1, (.c (.int .u32 604807628))), (20, 1, (.c (.int .u32 770255983))), (21, 1, (.c (.int .u32 1249150122))), (22, 1, (.c (.int .u32 1555081692))), (23, 1, (.c (.int .u32 1996064986))), (24, 1, (.c (.int .u32 2554220882))), (25, 1, (.c (.int .u32 2821834349))), (26, 1, (.c (.int .u32 2952996808))), (27, 1, (.c (.int .u32 3210313671))), (28, 1, (.c (.int .u32 3336571891))), (29, 1, (.c (.int .u32 3584528711))), (30, 1, (.c (.int .u32 113926993))), (31, 1, (.c (.int .u32 338241895))), (32, 1, (.c (.int .u32 666307205))), (33, 1, (.c (.int .u32 773529912))), (34, 1, (.c (.int .u32 1294757372))), (35, 1, (.c (.int .u32 1396182291))), (36, 1, (.c (.int .u32 1695183700))), (37, 1, (.c (.int .u32 1986661051))), (38, 1, (.c (.int .u32 2177026350))), (39, 1, (.c (.int .u32 2456956037))), (40, 1, (.c (.int .u32 2730485921))), (41, 1, (.c (.int .u32 2820302411))), (42, 1, (.c (.int .u32 3259730800))), (43, 1, (.c (.int .u32 3345764771))), (44, 1, (.c (.int .u32 3516065817))), (45, 1, (.c (.int .u32 3600352804))), (46, 1, (.c (.int .u32 4094571909))), (47, 1, (.c (.int .u32 275423344))), (48, 1, (.c (.int .u32 430227734))), (49, 1, (.c (.int .u32 506948616))), (50, 1, (.c (.int .u32 659060556))), (51, 1, (.c (.int .u32 883997877))), (52, 1, (.c (.int .u32 958139571))), (53, 1, (.c (.int .u32 1322822218))), (54, 1, (.c (.int .u32 1537002063))), (55, 1, (.c (.int .u32 1747873779))), (56, 1, (.c (.int .u32 1955562222))), (57, 1, (.c (.int .u32 2024104815))), (58, 1, (.c (.int .u32 2227730452))), (59, 1, (.c (.int .u32 2361852424))), (60, 1, (.c (.int .u32 2428436474))), (61, 1, (.c (.int .u32 2756734187))), (62, 1, (.c (.int .u32 3204031479))), (63, 1, (.c (.int .u32 3329325298)))]), none, []⟩,
    ⟨(some 0), (.mv (.s 1)), none, [0, 0]⟩] false)
  .ret)), false, (some []), (some (Sh.sl (Sh.int .u32)))⟩

/-- euphroe/euphroeref06.great -/
def k232 : Fun := ⟨4, 20, [0, 1, 2, 3, 8], [(.tmp 8)],
  (.seq (.region [
    ⟨(some 8), (.mv (.c (.int .u32 0))), none, []⟩] false)
  (.seq (.region [
    ⟨(some 9), (.mv (.s 0)), none, []⟩,
    ⟨(some 10), (.mv (.s 1)), none, []⟩,
    ⟨(some 11), (.call (.c (.fn 237 [])) [(.s 9), (.s 10)]), none, [0, 1]⟩,
    ⟨(some 12), (.mv (.s 0)), none, []⟩,
    ⟨(some 13), (.mv (.s 2)), none, []⟩,
    ⟨(some 14), (.call (.c (.fn 237 [])) [(.s 12), (.s 13)]), none, [3, 4, 2]⟩,
    ⟨(some 15), (.bin .xor (.s 11) (.s 14)), none, [2, 5]⟩,
    ⟨(some 16), (.mv (.s 0)), none, []⟩,
    ⟨(some 17), (.mv (.s 3)), none, []⟩,
    ⟨(some 18), (.call (.c (.fn 237 [])) [(.s 16), (.s 17)]), none, [7, 8, 5]⟩,
    ⟨(some 19), (.bin .xor (.s 15) (.s 18)), none, [6, 9]⟩,
    ⟨(some 8), (.mv (.s 19)), none, [10, 9, 0, 1, 2, 3, 4, 5, 6, 7, 8, 9, 10]⟩] false)
  .ret)), false, (some [(Sh.int .u32), (Sh.int .i64), (Sh.int .i64), (Sh.int .i64)]), (some (Sh.int .u32))⟩

/-- euphroe/euphroeref07.turned -/
def k233 : Fun := ⟨2, 20, [0, 1, 2, 4, 5, 6, 8], [(.tmp 4)],
  (.seq (.region [
    ⟨(some 2), (.box (.s 0)), none, []⟩,
    ⟨(some 4), (.mv (.c .nils)), none, []⟩] false)
  (.seq (.region [
    ⟨(some 5), (.mv (.c .nils)), none, []⟩] false)
  (.seq (.seq (.region [
    ⟨(some 6), (.mv (.c (.int .i64 0))), none, []⟩] false)
  (.block 0
   (.loop ⟨0, [], false, [1, 2, 5, 6], [(5, (.ints .u8 []), 1)]⟩
    (.seq (.seq (.region [
      ⟨(some 7), (.mv (.s 6)), none, []⟩,
      ⟨(some 8), (.bin .lss (.s 7) (.c (.int .i64 64))), none, [0]⟩] false)
    (.cond (.s 8)
     .skip
     (.pre ⟨0, [], false, [5], []⟩ (.exit 0))))
    (.seq (.block 1
     (.region [
       ⟨(some 11), (.mv (.s 5)), none, []⟩,
       ⟨(some 12), (.mv (.s 6)), none, []⟩,
       ⟨(some 13), (.iaa 64 1 (.s 2) (.s 12)), none, [1]⟩,
       ⟨(some 14), (.ldc (.s 13)), none, [2]⟩,
       ⟨(some 15), (.mv (.s 1)), none, []⟩,
       ⟨(some 16), (.bin .xor (.s 14) (.s 15)), none, [3, 4]⟩,
       ⟨(some 17), (.bsl 1 1 (.ints .u8 [0]) [(0, 1, (.s 16))]), none, [5]⟩,
       ⟨(some 18), (.app 1 1 (.s 11) (.s 17)), none, [0, 6]⟩,
       ⟨(some 5), (.mv (.s 18)), none, [7, 7, 0, 1, 2, 3, 4, 5, 6, 7]⟩] false))
    (.region [
      ⟨(some 9), (.mv (.s 6)), none, []⟩,
      ⟨(some 10), (.bin .add (.s 9) (.c (.int .i64 1))), none, [0]⟩,
      ⟨(some 6), (.mv (.s 10)), none, [1, 0, 1]⟩] false))))))
  (.seq (.region [
    ⟨(some 19), (.mv (.s 5)), none, []⟩,
    ⟨(some 4), (.mv (.s 19)), none, [0, 0]⟩] false)
  .ret)))), false, (some [(Sh.ar .u8), (Sh.int .u8)]), none⟩

/-- euphroe/hmac.pad -/
def k234 : Fun := ⟨2, 20, [0, 1, 4, 5, 6, 9, 10], [(.tmp 4)],
  (.seq (.region [
    ⟨(some 4), (.mv (.c .nils)), none, []⟩] false)
  (.seq (.region [
    ⟨(some 7), (.mv (.s 0)), none, []⟩,
    ⟨(some 8), (.call (.c (.fn 224 [])) [(.s 7)]), none, [0]⟩,
    ⟨(some 5), (.new (.ints .u8 [0, 0, 0, 0, 0, 0, 0, 0, 0, 0, 0, 0, 0, 0, 0, 0, 0, 0, 0, 0, 0, 0, 0, 0, 0, 0, 0, 0, 0, 0, 0, 0, 0, 0, 0, 0, 0, 0, 0, 0, 0, 0, 0, 0, 0, 0, 0, 0, 0, 0, 0, 0, 0, 0, 0, 0, 0, 0, 0, 0, 0, 0, 0, 0])), none, []⟩,
    ⟨none, (.stc 64 (.s 5) (.s 8)), none, [2, 1, 1, 0, 1, 2]⟩] false)
  (.seq (.seq (.region [
    ⟨(some 9), (.mv (.c (.int .i64 0))), none, []⟩] false)
  (.block 0
   (.loop ⟨0, [], false, [1, 5, 9], []⟩
    (.seq (.region [
      ⟨(some 10), (.bin .lss (.s 9) (.c (.int .i64 64))), none, []⟩] false)
    (.seq (.cond (.s 10)
     .skip
     (.pre ⟨0, [], false, [5], []⟩ (.exit 0)))
    (.seq (.block 1
     (.seq (.region [
       ⟨(some 11), (.mv (.s 9)), none, []⟩,
       ⟨(some 6), (.mv (.s 11)), none, [0, 0]⟩] false)
     (.region [
       ⟨(some 12), (.mv (.s 6)), none, []⟩,
       ⟨(some 13), (.iaa 64 1 (.s 5) (.s 12)), none, [0]⟩,
       ⟨(some 14), (.ldc (.s 13)), none, [1]⟩,
       ⟨(some 15), (.mv (.s 1)), none, []⟩,
       ⟨(some 16), (.bin .xor (.s 14) (.s 15)), none, [2, 3]⟩,
       ⟨(some 17), (.iaa 64 1 (.s 5) (.s 12)), none, [0, 0, 1, 2, 3, 4]⟩,
       ⟨none, (.stc 1 (.s 17) (.s 16)), none, [5, 4, 0, 1, 2, 3, 4]⟩] false)))
    (.region [
      ⟨(some 18), (.bin .add (.s 9) (.c (.int .i64 1))), none, []⟩,
      ⟨(some 9), (.mv (.s 18)), none, [0]⟩] false)))))))
  (.seq (.region [
    ⟨(some 19), (.sla 64 1 (.s 5) none none none), none, []⟩,
    ⟨(some 4), (.mv (.s 19)), none, [0, 0]⟩] false)
  .ret)))), false, (some [(Sh.sl (Sh.int .u8)), (Sh.int .u8)]), (some (Sh.sl (Sh.int .u8)))⟩

/-- euphroe/sha256.spread -/
def k235 : Fun := ⟨1, 53, [0, 1, 2, 3, 4, 5, 7, 8, 11], [(.cell 2 64 true (some .u32))],
  (.seq (.region [
    ⟨(some 1), (.box (.s 0)), none, []⟩,
    ⟨(some 2), (.new (.ints .u32 [0, 0, 0, 0, 0, 0, 0, 0, 0, 0, 0, 0, 0, 0, 0, 0, 0, 0, 0, 0, 0, 0, 0, 0, 0, 0, 0, 0, 0, 0, 0, 0, 0, 0, 0, 0, 0, 0, 0, 0, 0, 0, 0, 0, 0, 0, 0, 0, 0, 0, 0, 0, 0, 0, 0, 0, 0, 0, 0, 0, 0, 0, 0, 0])), none, []⟩] false)
  (.seq (.region [
    ⟨(some 3), (.new (.ints .u32 [0, 0, 0, 0, 0, 0, 0, 0, 0, 0, 0, 0, 0, 0, 0, 0, 0, 0, 0, 0, 0, 0, 0, 0, 0, 0, 0, 0, 0, 0, 0, 0, 0, 0, 0, 0, 0, 0, 0, 0, 0, 0, 0, 0, 0, 0, 0, 0, 0, 0, 0, 0, 0, 0, 0, 0, 0, 0, 0, 0, 0, 0, 0, 0])), none, []⟩] false)
  (.seq (.seq (.region [
    ⟨(some 7), (.mv (.c (.int .i64 0))), none, []⟩] false)
  (.block 0
   (.loop ⟨0, [], false, [1, 2, 3, 7], []⟩
    (.seq (.region [
      ⟨(some 8), (.bin .lss (.s 7) (.c (.int .i64 64))), none, []⟩] false)
    (.seq (.cond (.s 8)
     .skip
     (.pre ⟨0, [], false, [2, 3], []⟩ (.exit 0)))
    (.seq (.block 1
     (.seq (.region [
       ⟨(some 9), (.mv (.s 7)), none, []⟩,
       ⟨(some 4), (.mv (.s 9)), none, [0, 0]⟩] false)
     (.seq (.seq (.region [
       ⟨(some 10), (.mv (.s 4)), none, []⟩,
       ⟨(some 11), (.bin .lss (.s 10) (.c (.int .i64 16))), none, [0]⟩] false)
     (.cond (.s 11)
      (.seq (.region [
        ⟨(some 13), (.mv (.s 4)), none, []⟩,
        ⟨(some 14), (.bin .mul (.c (.int .i64 4)) (.s 13)), none, [0]⟩,
        ⟨(some 15), (.mv (.s 4)), none, []⟩,
        ⟨(some 16), (.bin .mul (.c (.int .i64 4)) (.s 15)), none, [2]⟩,
        ⟨(some 17), (.bin .add (.s 16) (.c (.int .i64 4))), none, [3]⟩,
        ⟨(some 18), (.sla 64 1 (.s 1) (some (.s 14)) (some (.s 17)) none), none, [1, 4]⟩,
        ⟨(some 19), (.call (.c (.fn 21 [])) [(.s 18), (.c (.bool false))]), none, [5]⟩,
        ⟨(some 12), (.mv (.s 19)), none, [6]⟩,
        ⟨(some 20), (.ext (.s 12) 0), none, [7]⟩,
        ⟨(some 21), (.ext (.s 12) 1), none, [7]⟩,
        ⟨(some 5), (.mv (.s 20)), none, [8, 6, 0, 1, 2, 3, 4, 5, 6, 7, 8]⟩,
        ⟨(some 6), (.mv (.s 21)), none, [9, 10, 0, 1, 2, 3, 4, 5, 6, 7, 8, 9, 10]⟩] false)
      (.seq (.region [
        ⟨(some 22), (.mv (.s 4)), none, []⟩,
        ⟨(some 23), (.mv (.s 5)), none, []⟩,
        ⟨(some 24), (.cvi .u32 (.s 23)), none, [1]⟩,
        ⟨(some 25), (.iaa 64 1 (.s 3) (.s 22)), none, [0, 0, 1, 2]⟩,
        ⟨none, (.stc 1 (.s 25) (.s 24)), none, [3, 2, 0, 1, 2]⟩] false)
      (.pre ⟨0, [], false, [1, 2, 3, 7], []⟩ (.exit 1))))
      .skip))
     (.region [
       ⟨(some 26), (.mv (.s 4)), none, []⟩,
       ⟨(some 27), (.mv (.s 4)), none, []⟩,
       ⟨(some 28), (.bin .sub (.s 27) (.c (.int .i64 16))), none, [1]⟩,
       ⟨(some 29), (.iaa 64 1 (.s 3) (.s 28)), none, [2]⟩,
       ⟨(some 30), (.ldc (.s 29)), none, [3]⟩,
       ⟨(some 31), (.mv (.s 4)), none, []⟩,
       ⟨(some 32), (.bin .sub (.s 31) (.c (.int .i64 7))), none, [5]⟩,
       ⟨(some 33), (.iaa 64 1 (.s 3) (.s 32)), none, [6]⟩,
       ⟨(some 34), (.ldc (.s 33)), none, [7]⟩,
       ⟨(some 35), (.bin .add (.s 30) (.s 34)), none, [4, 8]⟩,
       ⟨(some 36), (.build (.ints .i64 [0, 0, 0]) [(0, 1, (.c (.int .i64 7))), (1, 1, (.c (.int .i64 18))), (2, 1, (.c (.int .i64 3)))]), none, []⟩,
       ⟨(some 37), (.mv (.s 4)), none, []⟩,
       ⟨(some 38), (.bin .sub (.s 37) (.c (.int .i64 15))), none, [11]⟩,
       ⟨(some 39), (.iaa 64 1 (.s 3) (.s 38)), none, [12]⟩,
       ⟨(some 40), (.ldc (.s 39)), none, [13]⟩,
       ⟨(some 41), (.call (.c (.fn 238 [])) [(.s 36), (.s 40)]), none, [10, 14]⟩,
       ⟨(some 42), (.bin .add (.s 35) (.s 41)), none, [9, 15]⟩,
       ⟨(some 43), (.build (.ints .i64 [0, 0, 0]) [(0, 1, (.c (.int .i64 17))), (1, 1, (.c (.int .i64 19))), (2, 1, (.c (.int .i64 10)))]), none, []⟩,
       ⟨(some 44), (.mv (.s 4)), none, []⟩,
       ⟨(some 45), (.bin .sub (.s 44) (.c (.int .i64 2))), none, [18]⟩,
       ⟨(some 46), (.iaa 64 1 (.s 3) (.s 45)), none, [19]⟩,
       ⟨(some 47), (.ldc (.s 46)), none, [20]⟩,
       ⟨(some 48), (.call (.c (.fn 238 [])) [(.s 43), (.s 47)]), none, [17, 21, 15]⟩,
       ⟨(some 49), (.bin .add (.s 42) (.s 48)), none, [16, 22]⟩,
       ⟨(some 50), (.iaa 64 1 (.s 3) (.s 26)), none, [0, 0, 1, 2, 3, 4, 5, 6, 7, 8, 9, 10, 11, 12, 13, 14, 15, 16, 17, 18, 19, 20, 21, 22, 23]⟩,
       ⟨none, (.stc 1 (.s 50) (.s 49)), none, [24, 23, 22, 0, 1, 2, 3, 4, 5, 6, 7, 8, 9, 10, 11, 12, 13, 14, 15, 16, 17, 18, 19, 20, 21, 22, 23]⟩] true))))
    (.region [
      ⟨(some 51), (.bin .add (.s 7) (.c (.int .i64 1))), none, []⟩,
      ⟨(some 7), (.mv (.s 51)), none, [0]⟩] false)))))))
  (.seq (.region [
    ⟨(some 52), (.lda 64 (some .u32) (.s 3)), none, []⟩,
    ⟨none, (.stc 64 (.s 2) (.s 52)), none, [0, 0]⟩] false)
  .ret)))), false, (some [(Sh.ar .u8)]), (some (Sh.ar .u32))⟩

/-- (euphroe/sha256.State).step -/
def k236 : Fun := ⟨2, 68, [0, 1, 2, 4, 5, 6, 7, 8, 9, 10, 11, 12], [(.cell 4 8 true (some .u32))],
  (.seq (.region [
    ⟨(some 2), (.box (.s 0)), none, []⟩,
    ⟨(some 4), (.new (.ints .u32 [0, 0, 0, 0, 0, 0, 0, 0])), none, []⟩] false)
  (.seq (.region [
    ⟨(some 13), (.iaa 8 1 (.s 2) (.c (.int .i64 0))), none, []⟩,
    ⟨(some 14), (.ldc (.s 13)), none, [0]⟩,
    ⟨(some 15), (.iaa 8 1 (.s 2) (.c (.int .i64 1))), none, []⟩,
    ⟨(some 16), (.ldc (.s 15)), none, [2]⟩,
    ⟨(some 17), (.iaa 8 1 (.s 2) (.c (.int .i64 2))), none, []⟩,
    ⟨(some 18), (.ldc (.s 17)), none, [4]⟩,
    ⟨(some 19), (.iaa 8 1 (.s 2) (.c (.int .i64 4))), none, []⟩,
    ⟨(some 20), (.ldc (.s 19)), none, [6]⟩,
    ⟨(some 21), (.iaa 8 1 (.s 2) (.c (.int .i64 5))), none, []⟩,
    ⟨(some 22), (.ldc (.s 21)), none, [8]⟩,
    ⟨(some 23), (.iaa 8 1 (.s 2) (.c (.int .i64 6))), none, []⟩,
    ⟨(some 24), (.ldc (.s 23)), none, [10]⟩,
    ⟨(some 5), (.mv (.s 14)), none, [1, 0, 1]⟩,
    ⟨(some 6), (.mv (.s 16)), none, [3, 12, 0, 1, 2, 3, 12]⟩,
    ⟨(some 7), (.mv (.s 18)), none, [5, 13, 0, 1, 2, 3, 4, 5, 12, 13]⟩,
    ⟨(some 8), (.mv (.s 20)), none, [7, 14, 0, 1, 2, 3, 4, 5, 6, 7, 12, 13, 14]⟩,
    ⟨(some 9), (.mv (.s 22)), none, [9, 15, 0, 1, 2, 3, 4, 5, 6, 7, 8, 9, 12, 13, 14, 15]⟩,
    ⟨(some 10), (.mv (.s 24)), none, [11, 16, 0, 1, 2, 3, 4, 5, 6, 7, 8, 9, 10, 11, 12, 13, 14, 15, 16]⟩] true)
  (.seq (.region [
    ⟨(some 25), (.iaa 8 1 (.s 2) (.c (.int .i64 7))), none, []⟩,
    ⟨(some 26), (.ldc (.s 25)), none, [0]⟩,
    ⟨(some 27), (.build (.ints .i64 [0, 0, 0]) [(0, 1, (.c (.int .i64 6))), (1, 1, (.c (.int .i64 11))), (2, 1, (.c (.int .i64 25)))]), none, []⟩,
    ⟨(some 28), (.mv (.s 8)), none, []⟩,
    ⟨(some 29), (.call (.c (.fn 239 [])) [(.s 27), (.s 28)]), none, [2, 3]⟩,
    ⟨(some 30), (.bin .add (.s 26) (.s 29)), none, [1, 4]⟩,
    ⟨(some 31), (.mv (.s 10)), none, []⟩,
    ⟨(some 32), (.mv (.s 8)), none, []⟩,
    ⟨(some 33), (.mv (.s 9)), none, []⟩,
    ⟨(some 34), (.mv (.s 10)), none, []⟩,
    ⟨(some 35), (.bin .xor (.s 33) (.s 34)), none, [8, 9]⟩,
    ⟨(some 36), (.bin .and (.s 32) (.s 35)), none, [7, 10]⟩,
    ⟨(some 37), (.bin .xor (.s 31) (.s 36)), none, [6, 11]⟩,
    ⟨(some 38), (.bin .add (.s 30) (.s 37)), none, [5, 12]⟩,
    ⟨(some 39), (.mv (.s 1)), none, []⟩,
    ⟨(some 40), (.bin .add (.s 38) (.s 39)), none, [13, 14]⟩,
    ⟨(some 11), (.mv (.s 40)), none, [15, 4, 0, 1, 2, 3, 4, 5, 6, 7, 8, 9, 10, 11, 12, 13, 14, 15]⟩] true)
  (.seq (.region [
    ⟨(some 41), (.build (.ints .i64 [0, 0, 0]) [(0, 1, (.c (.int .i64 2))), (1, 1, (.c (.int .i64 13))), (2, 1, (.c (.int .i64 22)))]), none, []⟩,
    ⟨(some 42), (.mv (.s 5)), none, []⟩,
    ⟨(some 43), (.call (.c (.fn 239 [])) [(.s 41), (.s 42)]), none, [0, 1]⟩,
    ⟨(some 44), (.mv (.s 5)), none, []⟩,
    ⟨(some 45), (.mv (.s 6)), none, []⟩,
    ⟨(some 46), (.bin .and (.s 44) (.s 45)), none, [3, 4]⟩,
    ⟨(some 47), (.mv (.s 7)), none, []⟩,
    ⟨(some 48), (.mv (.s 5)), none, []⟩,
    ⟨(some 49), (.mv (.s 6)), none, []⟩,
    ⟨(some 50), (.bin .or (.s 48) (.s 49)), none, [7, 8]⟩,
    ⟨(some 51), (.bin .and (.s 47) (.s 50)), none, [6, 9]⟩,
    ⟨(some 52), (.bin .or (.s 46) (.s 51)), none, [5, 10]⟩,
    ⟨(some 53), (.bin .add (.s 43) (.s 52)), none, [2, 11]⟩,
    ⟨(some 12), (.mv (.s 53)), none, [12, 2, 0, 1, 2, 3, 4, 5, 6, 7, 8, 9, 10, 11, 12]⟩] false)
  (.seq (.region [
    ⟨(some 54), (.mv (.s 11)), none, []⟩,
    ⟨(some 55), (.mv (.s 12)), none, []⟩,
    ⟨(some 56), (.bin .add (.s 54) (.s 55)), none, [0, 1]⟩,
    ⟨(some 57), (.mv (.s 5)), none, []⟩,
    ⟨(some 58), (.mv (.s 6)), none, []⟩,
    ⟨(some 59), (.mv (.s 7)), none, []⟩,
    ⟨(some 60), (.iaa 8 1 (.s 2) (.c (.int .i64 3))), none, []⟩,
    ⟨(some 61), (.ldc (.s 60)), none, [6]⟩,
    ⟨(some 62), (.mv (.s 11)), none, []⟩,
    ⟨(some 63), (.bin .add (.s 61) (.s 62)), none, [7, 8]⟩,
    ⟨(some 64), (.mv (.s 8)), none, []⟩,
    ⟨(some 65), (.mv (.s 9)), none, []⟩,
    ⟨(some 66), (.mv (.s 10)), none, []⟩,
    ⟨(some 67), (.build (.ints .u32 [0, 0, 0, 0, 0, 0, 0, 0]) [(0, 1, (.s 56)), (1, 1, (.s 57)), (2, 1, (.s 58)), (3, 1, (.s 59)), (4, 1, (.s 63)), (5, 1, (.s 64)), (6, 1, (.s 65)), (7, 1, (.s 66))]), none, [2, 3, 4, 5, 9, 10, 11, 12]⟩,
    ⟨none, (.stc 8 (.s 4) (.s 67)), none, [13, 0, 1, 2, 3, 4, 5, 6, 7, 8, 9, 10, 11, 12, 13]⟩] false)
  .ret))))), false, (some [(Sh.ar .u32), (Sh.int .u32)]), (some (Sh.ar .u32))⟩

/-- euphroe/euphroeref06.turn -/
def k237 : Fun := ⟨2, 13, [0, 1, 4], [(.tmp 4)],
  (.seq (.region [
    ⟨(some 4), (.mv (.c (.int .u32 0))), none, []⟩] false)
  (.seq (.region [
    ⟨(some 5), (.mv (.s 0)), none, []⟩,
    ⟨(some 6), (.mv (.s 1)), none, []⟩,
    ⟨(some 7), (.bin .shr (.s 5) (.s 6)), none, [0, 1]⟩,
    ⟨(some 8), (.mv (.s 0)), none, []⟩,
    ⟨(some 9), (.mv (.s 1)), none, []⟩,
    ⟨(some 10), (.bin .sub (.c (.int .i64 32)) (.s 9)), none, [4]⟩,
    ⟨(some 11), (.bin .shl (.s 8) (.s 10)), none, [3, 5]⟩,
    ⟨(some 12), (.bin .or (.s 7) (.s 11)), none, [2, 6]⟩,
    ⟨(some 4), (.mv (.s 12)), none, [7, 0, 1, 2, 3, 4, 5, 6, 7]⟩] true)
  .ret)), false, (some [(Sh.int .u32), (Sh.int .i64)]), (some (Sh.int .u32))⟩

/-- (euphroe/sha256.turns).small -/
def k238 : Fun := ⟨2, 21, [0, 1, 2, 4], [(.tmp 4)],
  (.seq (.region [
    ⟨(some 2), (.box (.s 0)), none, []⟩,
    ⟨(some 4), (.mv (.c (.int .u32 0))), none, []⟩] false)
  (.seq (.region [
    ⟨(some 5), (.mv (.s 1)), none, []⟩,
    ⟨(some 6), (.iaa 3 1 (.s 2) (.c (.int .i64 0))), none, []⟩,
    ⟨(some 7), (.ldc (.s 6)), none, [1]⟩,
    ⟨(some 8), (.un .neg (.s 7)), none, [2]⟩,
    ⟨(some 9), (.call (.c (.fn 195 [])) [(.s 5), (.s 8)]), none, [0, 3]⟩,
    ⟨(some 10), (.mv (.s 1)), none, []⟩,
    ⟨(some 11), (.iaa 3 1 (.s 2) (.c (.int .i64 1))), none, []⟩,
    ⟨(some 12), (.ldc (.s 11)), none, [6]⟩,
    ⟨(some 13), (.un .neg (.s 12)), none, [7]⟩,
    ⟨(some 14), (.call (.c (.fn 195 [])) [(.s 10), (.s 13)]), none, [5, 8, 4]⟩,
    ⟨(some 15), (.bin .xor (.s 9) (.s 14)), none, [4, 9]⟩,
    ⟨(some 16), (.mv (.s 1)), none, []⟩,
    ⟨(some 17), (.iaa 3 1 (.s 2) (.c (.int .i64 2))), none, []⟩,
    ⟨(some 18), (.ldc (.s 17)), none, [12]⟩,
    ⟨(some 19), (.bin .shr (.s 16) (.s 18)), none, [11, 13]⟩,
    ⟨(some 20), (.bin .xor (.s 15) (.s 19)), none, [10, 14]⟩,
    ⟨(some 4), (.mv (.s 20)), none, [15, 9, 0, 1, 2, 3, 4, 5, 6, 7, 8, 9, 10, 11, 12, 13, 14, 15]⟩] true)
  .ret)), false, (some [(Sh.ar .i64), (Sh.int .u32)]), (some (Sh.int .u32))⟩

/-- (euphroe/sha256.turns).great -/
def k239 : Fun := ⟨2, 22, [0, 1, 2, 4], [(.tmp 4)],
  (.seq (.region [
    ⟨(some 2), (.box (.s 0)), none, []⟩,
    ⟨(some 4), (.mv (.c (.int .u32 0))), none, []⟩] false)
  (.seq (.region [
    ⟨(some 5), (.mv (.s 1)), none, []⟩,
    ⟨(some 6), (.iaa 3 1 (.s 2) (.c (.int .i64 0))), none, []⟩,
    ⟨(some 7), (.ldc (.s 6)), none, [1]⟩,
    ⟨(some 8), (.un .neg (.s 7)), none, [2]⟩,
    ⟨(some 9), (.call (.c (.fn 195 [])) [(.s 5), (.s 8)]), none, [0, 3]⟩,
    ⟨(some 10), (.mv (.s 1)), none, []⟩,
    ⟨(some 11), (.iaa 3 1 (.s 2) (.c (.int .i64 1))), none, []⟩,
    ⟨(some 12), (.ldc (.s 11)), none, [6]⟩,
    ⟨(some 13), (.un .neg (.s 12)), none, [7]⟩,
    ⟨(some 14), (.call (.c (.fn 195 [])) [(.s 10), (.s 13)]), none, [5, 8, 4]⟩,
    ⟨(some 15), (.bin .xor (.s 9) (.s 14)), none, [4, 9]⟩,
    ⟨(some 16), (.mv (.s 1)), none, []⟩,
    ⟨(some 17), (.iaa 3 1 (.s 2) (.c (.int .i64 2))), none, []⟩,
    ⟨(some 18), (.ldc (.s 17)), none, [12]⟩,
    ⟨(some 19), (.un .neg (.s 18)), none, [13]⟩,
    ⟨(some 20), (.call (.c (.fn 195 [])) [(.s 16), (.s 19)]), none, [11, 14, 9]⟩,
    ⟨(some 21), (.bin .xor (.s 15) (.s 20)), none, [10, 15]⟩,
    ⟨(some 4), (.mv (.s 21)), none, [16, 15, 0, 1, 2, 3, 4, 5, 6, 7, 8, 9, 10, 11, 12, 13, 14, 15, 16]⟩] true)
  .ret)), false, (some [(Sh.ar .i64), (Sh.int .u32)]), (some (Sh.int .u32))⟩

def FT : Nat → Option Fun
  | 1 => some k1
  | 19 => some k19
  | 21 => some k21
  | 23 => some k23
  | 46 => some k46
  | 47 => some k47
  | 48 => some k48
  | 64 => some k64
  | 75 => some k75
  | 78 => some k78
  | 81 => some k81
  | 83 => some k83
  | 100 => some k100
  | 101 => some k101
  | 114 => some k114
  | 115 => some k115
  | 116 => some k116
  | 120 => some k120
  | 177 => some k177
  | 186 => some k186
  | 195 => some k195
  | 205 => some k205
  | 206 => some k206
  | 207 => some k207
  | 208 => some k208
  | 209 => some k209
  | 210 => some k210
  | 211 => some k211
  | 212 => some k212
  | 213 => some k213
  | 214 => some k214
  | 215 => some k215
  | 216 => some k216
  | 217 => some k217
  | 218 => some k218
  | 219 => some k219
  | 220 => some k220
  | 221 => some k221
  | 222 => some k222
  | 223 => some k223
  | 224 => some k224
  | 225 => some k225
  | 226 => some k226
  | 227 => some k227
  | 228 => some k228
  | 229 => some k229
  | 230 => some k230
  | 231 => some k231
  | 232 => some k232
  | 233 => some k233
  | 234 => some k234
  | 235 => some k235
  | 236 => some k236
  | 237 => some k237
  | 238 => some k238
  | 239 => some k239
  | _ => none
end Go.Proofs.YthljmhlpbakahaaE
