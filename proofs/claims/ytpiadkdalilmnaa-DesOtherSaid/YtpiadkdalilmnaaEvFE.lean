/- The evaluator's functions. -/
import Derived.Test.YtpiadkdalilmnaaEvXT
namespace Go.Proofs.YtpiadkdalilmnaaE
open Go
set_option linter.unusedVariables false
set_option linter.unusedSimpArgs false

/-- slices.Concat[[]int,int] -/
def k2 : Fun := ⟨1, 36, [0, 2, 3, 5, 6, 8, 9, 10, 11, 12, 20, 25, 26, 27, 28], [(.tmp 2)],
  (.seq (.region [
    ⟨(some 2), (.mv (.c .nils)), none, []⟩] false)
  (.seq (.region [
    ⟨(some 3), (.mv (.c (.int .i64 0))), none, []⟩] false)
  (.seq (.seq (.region [
    ⟨(some 9), (.mv (.s 0)), none, []⟩,
    ⟨(some 10), (.len false (.s 9)), none, [0]⟩,
    ⟨(some 11), (.mv (.c (.int .i64 0))), none, []⟩] false)
  (.block 0
   (.loop ⟨0, [], false, [0, 3, 9, 10, 11], []⟩
    (.seq (.region [
      ⟨(some 12), (.bin .lss (.s 11) (.s 10)), none, []⟩] false)
    (.seq (.cond (.s 12)
     .skip
     (.pre ⟨0, [], false, [0, 3], []⟩ (.exit 0)))
    (.seq (.block 1
     (.seq (.region [
       ⟨(some 13), (.iad 1 (.s 9) (.s 11)), none, []⟩,
       ⟨(some 14), (.ldc (.s 13)), none, [0]⟩,
       ⟨(some 5), (.mv (.s 14)), none, [1, 0, 1]⟩] false)
     (.seq (.region [
       ⟨(some 15), (.mv (.s 3)), none, []⟩,
       ⟨(some 16), (.mv (.s 5)), none, []⟩,
       ⟨(some 17), (.len false (.s 16)), none, [1]⟩,
       ⟨(some 18), (.bin .add (.s 15) (.s 17)), none, [0, 2]⟩,
       ⟨(some 3), (.mv (.s 18)), none, [3, 0, 1, 2, 3]⟩] false)
     (.seq (.region [
       ⟨(some 19), (.mv (.s 3)), none, []⟩,
       ⟨(some 20), (.bin .lss (.s 19) (.c (.int .i64 0))), none, [0]⟩] false)
     (.cond (.s 20)
      (.region [
        ⟨(some 21), .bad, none, []⟩,
        ⟨none, .bad, none, [0]⟩] false)
      .skip)))))
    (.region [
      ⟨(some 22), (.bin .add (.s 11) (.c (.int .i64 1))), none, []⟩,
      ⟨(some 11), (.mv (.s 22)), none, [0]⟩] false)))))))
  (.seq (.region [
    ⟨(some 23), (.mv (.s 3)), none, []⟩,
    ⟨(some 24), (.call (.c (.fn 283 [])) [(.c .nils), (.s 23)]), none, [0]⟩,
    ⟨(some 6), (.mv (.s 24)), none, [1, 1, 0, 1]⟩] false)
  (.seq (.seq (.region [
    ⟨(some 25), (.mv (.s 0)), none, []⟩,
    ⟨(some 26), (.len false (.s 25)), none, [0]⟩,
    ⟨(some 27), (.mv (.c (.int .i64 0))), none, []⟩] false)
  (.block 2
   (.loop ⟨1, [], false, [6, 25, 26, 27], []⟩
    (.seq (.region [
      ⟨(some 28), (.bin .lss (.s 27) (.s 26)), none, []⟩] false)
    (.seq (.cond (.s 28)
     .skip
     (.pre ⟨0, [], false, [6], []⟩ (.exit 2)))
    (.seq (.block 3
     (.seq (.region [
       ⟨(some 29), (.iad 1 (.s 25) (.s 27)), none, []⟩,
       ⟨(some 30), (.ldc (.s 29)), none, [0]⟩,
       ⟨(some 8), (.mv (.s 30)), none, [1, 0, 1]⟩] false)
     (.region [
       ⟨(some 31), (.mv (.s 6)), none, []⟩,
       ⟨(some 32), (.mv (.s 8)), none, []⟩,
       ⟨(some 33), (.app 1 8 (.s 31) (.s 32)), none, [0, 1]⟩,
       ⟨(some 6), (.mv (.s 33)), none, [2, 2, 0, 1, 2]⟩] false)))
    (.region [
      ⟨(some 34), (.bin .add (.s 27) (.c (.int .i64 1))), none, []⟩,
      ⟨(some 27), (.mv (.s 34)), none, [0]⟩] false)))))))
  (.seq (.region [
    ⟨(some 35), (.mv (.s 6)), none, []⟩,
    ⟨(some 2), (.mv (.s 35)), none, [0, 0]⟩] false)
  .ret)))))), false, (some [(Sh.sl (Sh.sl (Sh.int .i64)))]), none⟩

/-- euphroe/octs.Put -/
def k19 : Fun := ⟨3, 37, [0, 1, 2, 6, 7, 8, 9, 15, 19, 20, 21, 33], [(.tmp 6), (.tmp 7)],
  (.seq (.region [
    ⟨(some 6), (.mv (.c .nils)), none, []⟩,
    ⟨(some 7), (.mv (.c (.int .i64 0))), none, [0]⟩] false)
  (.seq (.seq (.region [
    ⟨(some 10), (.mv (.s 1)), none, []⟩,
    ⟨(some 11), (.bin .lss (.s 10) (.c (.int .i64 1))), none, [0]⟩,
    ⟨(some 12), (.mv (.s 11)), none, [1]⟩,
    ⟨(some 13), (.mv (.s 1)), (some (12, false)), [2]⟩,
    ⟨(some 14), (.bin .gtr (.s 13) (.c (.int .i64 8))), (some (12, false)), [3, 2]⟩,
    ⟨(some 15), (.pick (.s 12) (.c (.bool true)) (.s 14)), none, [2, 4]⟩] false)
  (.cond (.s 15)
   (.seq (.region [
     ⟨(some 6), (.mv (.c .nils)), none, []⟩,
     ⟨(some 7), (.mv (.c (.int .i64 1))), none, [0, 0]⟩] false)
   .ret)
   .skip))
  (.seq (.region [
    ⟨(some 16), (.mv (.s 1)), none, []⟩,
    ⟨(some 17), (.mks (.ints .u8 [0]) 1 1 (.s 16) (.s 16)), none, [0, 0]⟩,
    ⟨(some 8), (.mv (.s 17)), none, [1, 0, 1]⟩] false)
  (.seq (.seq (.region [
    ⟨(some 18), (.mv (.s 8)), none, []⟩,
    ⟨(some 19), (.len false (.s 18)), none, [0]⟩,
    ⟨(some 20), (.mv (.c (.int .i64 0))), none, []⟩] false)
  (.block 0
   (.loop ⟨0, [], false, [0, 2, 8, 19, 20], []⟩
    (.seq (.region [
      ⟨(some 21), (.bin .lss (.s 20) (.s 19)), none, []⟩] false)
    (.seq (.cond (.s 21)
     .skip
     (.pre ⟨0, [], false, [2, 8], []⟩ (.exit 0)))
    (.seq (.block 1
     (.seq (.region [
       ⟨(some 22), (.mv (.s 20)), none, []⟩,
       ⟨(some 9), (.mv (.s 22)), none, [0, 0]⟩] false)
     (.region [
       ⟨(some 23), (.mv (.s 8)), none, []⟩,
       ⟨(some 24), (.mv (.s 9)), none, []⟩,
       ⟨(some 25), (.mv (.s 0)), none, []⟩,
       ⟨(some 26), (.mv (.s 9)), none, []⟩,
       ⟨(some 27), (.bin .mul (.c (.int .i64 8)) (.s 26)), none, [3]⟩,
       ⟨(some 28), (.bin .shr (.s 25) (.s 27)), none, [2, 4]⟩,
       ⟨(some 29), (.cvi .u8 (.s 28)), none, [5]⟩,
       ⟨(some 30), (.iad 1 (.s 23) (.s 24)), none, [0, 1, 0, 1, 2, 3, 4, 5, 6]⟩,
       ⟨none, (.stc 1 (.s 30) (.s 29)), none, [7, 6, 0, 1, 2, 3, 4, 5, 6]⟩] false)))
    (.region [
      ⟨(some 31), (.bin .add (.s 20) (.c (.int .i64 1))), none, []⟩,
      ⟨(some 20), (.mv (.s 31)), none, [0]⟩] false)))))))
  (.seq (.seq (.region [
    ⟨(some 32), (.mv (.s 2)), none, []⟩,
    ⟨(some 33), (.un .not (.s 32)), none, [0]⟩] false)
  (.cond (.s 33)
   (.region [
     ⟨(some 34), (.mv (.s 8)), none, []⟩,
     ⟨(some 35), (.call (.c (.fn 48 [])) [(.s 34)]), none, [0]⟩] false)
   .skip))
  (.seq (.region [
    ⟨(some 36), (.mv (.s 8)), none, []⟩,
    ⟨(some 6), (.mv (.s 36)), none, [0, 0]⟩,
    ⟨(some 7), (.mv (.c (.int .i64 0))), none, [1, 0, 1]⟩] false)
  .ret)))))), false, (some [(Sh.int .u64), (Sh.int .i64), Sh.bool]), (some (Sh.tu (Sh.pr (Sh.sl (Sh.int .u8)) (Sh.int .i64))))⟩

/-- euphroe/octs.Get -/
def k21 : Fun := ⟨2, 39, [0, 1, 4, 5, 6, 7, 8, 16, 17, 18, 19, 20, 24], [(.tmp 4), (.tmp 5)],
  (.seq (.region [
    ⟨(some 4), (.mv (.c (.int .u64 0))), none, []⟩,
    ⟨(some 5), (.mv (.c (.int .i64 0))), none, [0]⟩] false)
  (.seq (.seq (.region [
    ⟨(some 9), (.mv (.s 0)), none, []⟩,
    ⟨(some 10), (.len false (.s 9)), none, [0]⟩,
    ⟨(some 11), (.bin .lss (.s 10) (.c (.int .i64 1))), none, [1]⟩,
    ⟨(some 12), (.mv (.s 11)), none, [2]⟩,
    ⟨(some 13), (.mv (.s 0)), (some (12, false)), [3]⟩,
    ⟨(some 14), (.len false (.s 13)), (some (12, false)), [4, 3]⟩,
    ⟨(some 15), (.bin .gtr (.s 14) (.c (.int .i64 8))), (some (12, false)), [5, 3]⟩,
    ⟨(some 16), (.pick (.s 12) (.c (.bool true)) (.s 15)), none, [3, 6]⟩] false)
  (.cond (.s 16)
   (.seq (.region [
     ⟨(some 4), (.mv (.c (.int .u64 0))), none, []⟩,
     ⟨(some 5), (.mv (.c (.int .i64 1))), none, [0, 0]⟩] false)
   .ret)
   .skip))
  (.seq (.region [
    ⟨(some 6), (.mv (.c (.int .u64 0))), none, []⟩] false)
  (.seq (.seq (.region [
    ⟨(some 17), (.mv (.s 0)), none, []⟩,
    ⟨(some 18), (.len false (.s 17)), none, [0]⟩,
    ⟨(some 19), (.mv (.c (.int .i64 0))), none, []⟩] false)
  (.block 0
   (.loop ⟨0, [], false, [1, 6, 17, 18, 19], []⟩
    (.seq (.region [
      ⟨(some 20), (.bin .lss (.s 19) (.s 18)), none, []⟩] false)
    (.seq (.cond (.s 20)
     .skip
     (.pre ⟨0, [], false, [6], []⟩ (.exit 0)))
    (.seq (.block 1
     (.seq (.region [
       ⟨(some 21), (.mv (.s 19)), none, []⟩,
       ⟨(some 22), (.iad 1 (.s 17) (.s 19)), none, []⟩,
       ⟨(some 23), (.ldc (.s 22)), none, [1]⟩,
       ⟨(some 7), (.mv (.s 21)), none, [0, 0, 1, 2]⟩,
       ⟨(some 8), (.mv (.s 23)), none, [2, 3, 0, 1, 2, 3]⟩] false)
     (.seq (.region [
       ⟨(some 24), (.mv (.s 1)), none, []⟩] false)
     (.cond (.s 24)
      (.region [
        ⟨(some 25), (.mv (.s 6)), none, []⟩,
        ⟨(some 26), (.mv (.s 8)), none, []⟩,
        ⟨(some 27), (.cvi .u64 (.s 26)), none, [1]⟩,
        ⟨(some 28), (.mv (.s 7)), none, []⟩,
        ⟨(some 29), (.bin .mul (.c (.int .i64 8)) (.s 28)), none, [3]⟩,
        ⟨(some 30), (.bin .shl (.s 27) (.s 29)), none, [2, 4]⟩,
        ⟨(some 31), (.bin .or (.s 25) (.s 30)), none, [0, 5]⟩,
        ⟨(some 6), (.mv (.s 31)), none, [6, 0, 1, 2, 3, 4, 5, 6]⟩] false)
      (.region [
        ⟨(some 32), (.mv (.s 6)), none, []⟩,
        ⟨(some 33), (.bin .shl (.s 32) (.c (.int .u64 8))), none, [0]⟩,
        ⟨(some 34), (.mv (.s 8)), none, []⟩,
        ⟨(some 35), (.cvi .u64 (.s 34)), none, [2]⟩,
        ⟨(some 36), (.bin .or (.s 33) (.s 35)), none, [1, 3]⟩,
        ⟨(some 6), (.mv (.s 36)), none, [4, 0, 1, 2, 3, 4]⟩] false)))))
    (.region [
      ⟨(some 37), (.bin .add (.s 19) (.c (.int .i64 1))), none, []⟩,
      ⟨(some 19), (.mv (.s 37)), none, [0]⟩] false)))))))
  (.seq (.region [
    ⟨(some 38), (.mv (.s 6)), none, []⟩,
    ⟨(some 4), (.mv (.s 38)), none, [0, 0]⟩,
    ⟨(some 5), (.mv (.c (.int .i64 0))), none, [1, 0, 1]⟩] false)
  .ret))))), false, (some [(Sh.sl (Sh.int .u8)), Sh.bool]), (some (Sh.tu (Sh.pr (Sh.int .u64) (Sh.int .i64))))⟩

/-- euphroe/euphroeref01.Same -/
def k23 : Fun := ⟨2, 26, [0, 1, 4, 5, 10, 14, 25], [(.tmp 4)],
  (.seq (.region [
    ⟨(some 4), (.mv (.c (.bool false))), none, []⟩] false)
  (.seq (.seq (.region [
    ⟨(some 6), (.mv (.s 0)), none, []⟩,
    ⟨(some 7), (.len false (.s 6)), none, [0]⟩,
    ⟨(some 8), (.mv (.s 1)), none, []⟩,
    ⟨(some 9), (.len false (.s 8)), none, [2]⟩,
    ⟨(some 10), (.bin .neq (.s 7) (.s 9)), none, [1, 3]⟩] false)
  (.cond (.s 10)
   (.seq (.region [
     ⟨(some 4), (.mv (.c (.bool false))), none, []⟩] false)
   .ret)
   .skip))
  (.seq (.seq (.region [
    ⟨(some 5), (.mv (.c (.int .i64 0))), none, []⟩] false)
  (.block 0
   (.loop ⟨0, [], false, [0, 1, 5], []⟩
    (.seq (.seq (.region [
      ⟨(some 11), (.mv (.s 5)), none, []⟩,
      ⟨(some 12), (.mv (.s 0)), none, []⟩,
      ⟨(some 13), (.len false (.s 12)), none, [1]⟩,
      ⟨(some 14), (.bin .lss (.s 11) (.s 13)), none, [0, 2]⟩] false)
    (.cond (.s 14)
     .skip
     (.pre ⟨0, [], false, [], []⟩ (.exit 0))))
    (.seq (.block 1
     (.seq (.region [
       ⟨(some 17), (.mv (.s 0)), none, []⟩,
       ⟨(some 18), (.mv (.s 5)), none, []⟩,
       ⟨(some 19), (.iad 1 (.s 17) (.s 18)), none, [0, 1]⟩,
       ⟨(some 20), (.ldc (.s 19)), none, [2]⟩,
       ⟨(some 21), (.mv (.s 1)), none, []⟩,
       ⟨(some 22), (.mv (.s 5)), none, []⟩,
       ⟨(some 23), (.iad 1 (.s 21) (.s 22)), none, [4, 5]⟩,
       ⟨(some 24), (.ldc (.s 23)), none, [6]⟩,
       ⟨(some 25), (.bin .neq (.s 20) (.s 24)), none, [3, 7]⟩] true)
     (.cond (.s 25)
      (.seq (.region [
        ⟨(some 4), (.mv (.c (.bool false))), none, []⟩] false)
      .ret)
      .skip)))
    (.region [
      ⟨(some 15), (.mv (.s 5)), none, []⟩,
      ⟨(some 16), (.bin .add (.s 15) (.c (.int .i64 1))), none, [0]⟩,
      ⟨(some 5), (.mv (.s 16)), none, [1, 0, 1]⟩] false))))))
  (.seq (.region [
    ⟨(some 4), (.mv (.c (.bool true))), none, []⟩] false)
  .ret)))), false, (some [(Sh.sl (Sh.int .u8)), (Sh.sl (Sh.int .u8))]), (some Sh.bool)⟩

/-- euphroe/bitp.Spread -/
def k24 : Fun := ⟨1, 43, [0, 2, 3, 4, 6, 7, 8, 11, 12, 13, 14, 15, 26, 27, 28], [(.tmp 2), (.tmp 3)],
  (.seq (.region [
    ⟨(some 2), (.mv (.c .nils)), none, []⟩,
    ⟨(some 3), (.mv (.c (.int .i64 0))), none, [0]⟩] false)
  (.seq (.seq (.region [
    ⟨(some 9), (.mv (.s 0)), none, []⟩,
    ⟨(some 10), (.len false (.s 9)), none, [0]⟩,
    ⟨(some 11), (.bin .neq (.s 10) (.c (.int .i64 7))), none, [1]⟩] false)
  (.cond (.s 11)
   (.seq (.region [
     ⟨(some 2), (.mv (.c .nils)), none, []⟩,
     ⟨(some 3), (.mv (.c (.int .i64 1))), none, [0, 0]⟩] false)
   .ret)
   .skip))
  (.seq (.region [
    ⟨(some 4), (.mv (.c (.int .u64 0))), none, []⟩] false)
  (.seq (.seq (.region [
    ⟨(some 12), (.mv (.s 0)), none, []⟩,
    ⟨(some 13), (.len false (.s 12)), none, [0]⟩,
    ⟨(some 14), (.mv (.c (.int .i64 0))), none, []⟩] false)
  (.block 0
   (.loop ⟨0, [], false, [4, 12, 13, 14], []⟩
    (.seq (.region [
      ⟨(some 15), (.bin .lss (.s 14) (.s 13)), none, []⟩] false)
    (.seq (.cond (.s 15)
     .skip
     (.pre ⟨0, [], false, [4], []⟩ (.exit 0)))
    (.seq (.block 1
     (.seq (.region [
       ⟨(some 16), (.iad 1 (.s 12) (.s 14)), none, []⟩,
       ⟨(some 17), (.ldc (.s 16)), none, [0]⟩,
       ⟨(some 6), (.mv (.s 17)), none, [1, 0, 1]⟩] false)
     (.region [
       ⟨(some 18), (.mv (.s 4)), none, []⟩,
       ⟨(some 19), (.bin .shl (.s 18) (.c (.int .u64 8))), none, [0]⟩,
       ⟨(some 20), (.mv (.s 6)), none, []⟩,
       ⟨(some 21), (.cvi .u64 (.s 20)), none, [2]⟩,
       ⟨(some 22), (.bin .or (.s 19) (.s 21)), none, [1, 3]⟩,
       ⟨(some 4), (.mv (.s 22)), none, [4, 0, 1, 2, 3, 4]⟩] false)))
    (.region [
      ⟨(some 23), (.bin .add (.s 14) (.c (.int .i64 1))), none, []⟩,
      ⟨(some 14), (.mv (.s 23)), none, [0]⟩] false)))))))
  (.seq (.region [
    ⟨(some 24), (.mks (.ints .u8 [0]) 1 1 (.c (.int .i64 8)) (.c (.int .i64 8))), none, []⟩,
    ⟨(some 7), (.mv (.s 24)), none, [0, 0]⟩] false)
  (.seq (.seq (.region [
    ⟨(some 25), (.mv (.s 7)), none, []⟩,
    ⟨(some 26), (.len false (.s 25)), none, [0]⟩,
    ⟨(some 27), (.mv (.c (.int .i64 0))), none, []⟩] false)
  (.block 2
   (.loop ⟨1, [], false, [4, 7, 26, 27], []⟩
    (.seq (.region [
      ⟨(some 28), (.bin .lss (.s 27) (.s 26)), none, []⟩] false)
    (.seq (.cond (.s 28)
     .skip
     (.pre ⟨0, [], false, [7], []⟩ (.exit 2)))
    (.seq (.block 3
     (.seq (.region [
       ⟨(some 29), (.mv (.s 27)), none, []⟩,
       ⟨(some 8), (.mv (.s 29)), none, [0, 0]⟩] false)
     (.region [
       ⟨(some 30), (.mv (.s 7)), none, []⟩,
       ⟨(some 31), (.mv (.s 8)), none, []⟩,
       ⟨(some 32), (.mv (.s 4)), none, []⟩,
       ⟨(some 33), (.mv (.s 8)), none, []⟩,
       ⟨(some 34), (.bin .sub (.c (.int .i64 7)) (.s 33)), none, [3]⟩,
       ⟨(some 35), (.bin .mul (.c (.int .i64 7)) (.s 34)), none, [4]⟩,
       ⟨(some 36), (.bin .shr (.s 32) (.s 35)), none, [2, 5]⟩,
       ⟨(some 37), (.bin .shl (.s 36) (.c (.int .u64 1))), none, [6]⟩,
       ⟨(some 38), (.cvi .u8 (.s 37)), none, [7]⟩,
       ⟨(some 39), (.call (.c (.fn 25 [])) [(.s 38)]), none, [8]⟩,
       ⟨(some 40), (.iad 1 (.s 30) (.s 31)), none, [0, 1, 0, 1, 2, 3, 4, 5, 6, 7, 8, 9]⟩,
       ⟨none, (.stc 1 (.s 40) (.s 39)), none, [10, 9, 9, 0, 1, 2, 3, 4, 5, 6, 7, 8, 9]⟩] false)))
    (.region [
      ⟨(some 41), (.bin .add (.s 27) (.c (.int .i64 1))), none, []⟩,
      ⟨(some 27), (.mv (.s 41)), none, [0]⟩] false)))))))
  (.seq (.region [
    ⟨(some 42), (.mv (.s 7)), none, []⟩,
    ⟨(some 2), (.mv (.s 42)), none, [0, 0]⟩,
    ⟨(some 3), (.mv (.c (.int .i64 0))), none, [1, 0, 1]⟩] false)
  .ret))))))), false, (some [(Sh.sl (Sh.int .u8))]), (some (Sh.tu (Sh.pr (Sh.sl (Sh.int .u8)) (Sh.int .i64))))⟩

/-- euphroe/bitp.Odd -/
def k25 : Fun := ⟨1, 12, [0, 2], [(.tmp 2)],
  (.seq (.region [
    ⟨(some 2), (.mv (.c (.int .u8 0))), none, []⟩] false)
  (.seq (.region [
    ⟨(some 3), (.mv (.s 0)), none, []⟩,
    ⟨(some 4), (.bin .andNot (.s 3) (.c (.int .u8 1))), none, [0]⟩,
    ⟨(some 5), (.mv (.s 0)), none, []⟩,
    ⟨(some 6), (.bin .shr (.s 5) (.c (.int .u64 1))), none, [2]⟩,
    ⟨(some 7), (.call (.c (.fn 52 [])) [(.s 6)]), none, [3]⟩,
    ⟨(some 8), (.bin .and (.s 7) (.c (.int .i64 1))), none, [4]⟩,
    ⟨(some 9), (.bin .sub (.c (.int .i64 1)) (.s 8)), none, [5]⟩,
    ⟨(some 10), (.cvi .u8 (.s 9)), none, [6]⟩,
    ⟨(some 11), (.bin .or (.s 4) (.s 10)), none, [1, 7]⟩,
    ⟨(some 2), (.mv (.s 11)), none, [8, 4, 0, 1, 2, 3, 4, 5, 6, 7, 8]⟩] false)
  .ret)), false, (some [(Sh.int .u8)]), (some (Sh.int .u8))⟩

/-- euphroe/bitp.Permute -/
def k27 : Fun := ⟨3, 34, [0, 1, 2, 3, 4, 6, 7, 8, 9, 10, 12, 20, 22, 23, 24, 25, 32], [(.tmp 6), (.tmp 7)],
  (.seq (.region [
    ⟨(some 3), (.box (.s 0)), none, []⟩,
    ⟨(some 4), (.box (.s 1)), none, []⟩,
    ⟨(some 6), (.mv (.c (.int .u64 0))), none, []⟩,
    ⟨(some 7), (.mv (.c (.int .i64 0))), none, [2]⟩] false)
  (.seq (.seq (.region [
    ⟨(some 13), (.ldc (.s 4)), none, []⟩,
    ⟨(some 14), (.call (.c (.fn 53 [])) [(.s 13)]), none, [0]⟩,
    ⟨(some 15), (.un .not (.s 14)), none, [1]⟩,
    ⟨(some 16), (.mv (.s 15)), none, [2, 1]⟩,
    ⟨(some 17), (.mv (.s 2)), (some (16, false)), [3]⟩,
    ⟨(some 18), (.len false (.s 17)), (some (16, false)), [4, 3]⟩,
    ⟨(some 19), (.bin .gtr (.s 18) (.c (.int .i64 64))), (some (16, false)), [5, 3]⟩,
    ⟨(some 20), (.pick (.s 16) (.c (.bool true)) (.s 19)), none, [3, 6]⟩] false)
  (.cond (.s 20)
   (.seq (.region [
     ⟨(some 6), (.mv (.c (.int .u64 0))), none, []⟩,
     ⟨(some 7), (.mv (.c (.int .i64 1))), none, [0, 0]⟩] false)
   .ret)
   .skip))
  (.seq (.region [
    ⟨(some 8), (.new (.ints .u64 [0])), none, []⟩,
    ⟨(some 9), (.new (.vals [(.bool false)])), none, []⟩,
    ⟨none, (.stc 1 (.s 8) (.c (.int .u64 0))), none, [0, 0, 1]⟩,
    ⟨none, (.stc 1 (.s 9) (.c (.bool false))), none, [1, 2, 0, 1, 2]⟩] false)
  (.seq (.region [
    ⟨(some 21), (.mkf 54 [(.s 9), (.s 4), (.s 8), (.s 3)]), none, []⟩,
    ⟨(some 10), (.mv (.s 21)), none, [0, 0]⟩] false)
  (.seq (.seq (.region [
    ⟨(some 22), (.mv (.s 2)), none, []⟩,
    ⟨(some 23), (.len false (.s 22)), none, [0]⟩,
    ⟨(some 24), (.mv (.c (.int .i64 0))), none, []⟩] false)
  (.block 0
   (.loop ⟨0, [], false, [8, 9, 10, 22, 23, 24], []⟩
    (.seq (.region [
      ⟨(some 25), (.bin .lss (.s 24) (.s 23)), none, []⟩] false)
    (.seq (.cond (.s 25)
     .skip
     (.pre ⟨0, [], false, [8, 9], []⟩ (.exit 0)))
    (.seq (.block 1
     (.seq (.region [
       ⟨(some 26), (.iad 1 (.s 22) (.s 24)), none, []⟩,
       ⟨(some 27), (.ldc (.s 26)), none, [0]⟩,
       ⟨(some 12), (.mv (.s 27)), none, [1, 0, 1]⟩] false)
     (.region [
       ⟨(some 28), (.mv (.s 10)), none, []⟩,
       ⟨(some 29), (.mv (.s 12)), none, []⟩,
       ⟨(some 30), (.call (.s 28) [(.s 29)]), none, [0, 1]⟩] false)))
    (.region [
      ⟨(some 31), (.bin .add (.s 24) (.c (.int .i64 1))), none, []⟩,
      ⟨(some 24), (.mv (.s 31)), none, [0]⟩] false)))))))
  (.seq (.seq (.region [
    ⟨(some 32), (.ldc (.s 9)), none, []⟩] false)
  (.cond (.s 32)
   (.seq (.region [
     ⟨(some 6), (.mv (.c (.int .u64 0))), none, []⟩,
     ⟨(some 7), (.mv (.c (.int .i64 1))), none, [0, 0]⟩] false)
   .ret)
   .skip))
  (.seq (.region [
    ⟨(some 33), (.ldc (.s 8)), none, []⟩,
    ⟨(some 6), (.mv (.s 33)), none, [0, 0]⟩,
    ⟨(some 7), (.mv (.c (.int .i64 0))), none, [1, 0, 1]⟩] false)
  .ret))))))), false, (some [(Sh.int .u64), (Sh.int .i64), (Sh.sl (Sh.int .i64))]), (some (Sh.tu (Sh.pr (Sh.int .u64) (Sh.int .i64))))⟩

/-- euphroe/bitp.Turn -/
def k29 : Fun := ⟨3, 35, [0, 1, 2, 6, 7, 10, 15], [(.tmp 6), (.tmp 7)],
  (.seq (.region [
    ⟨(some 6), (.mv (.c (.int .u64 0))), none, []⟩,
    ⟨(some 7), (.mv (.c (.int .i64 0))), none, [0]⟩] false)
  (.seq (.seq (.region [
    ⟨(some 8), (.mv (.s 1)), none, []⟩,
    ⟨(some 9), (.call (.c (.fn 53 [])) [(.s 8)]), none, [0]⟩,
    ⟨(some 10), (.un .not (.s 9)), none, [1]⟩] false)
  (.cond (.s 10)
   (.seq (.region [
     ⟨(some 6), (.mv (.c (.int .u64 0))), none, []⟩,
     ⟨(some 7), (.mv (.c (.int .i64 1))), none, [0, 0]⟩] false)
   .ret)
   .skip))
  (.seq (.region [
    ⟨(some 11), (.mv (.s 2)), none, []⟩,
    ⟨(some 12), (.mv (.s 1)), none, []⟩,
    ⟨(some 13), (.bin .rem (.s 11) (.s 12)), none, [0, 1]⟩,
    ⟨(some 2), (.mv (.s 13)), none, [2, 0, 1, 2]⟩] false)
  (.seq (.seq (.region [
    ⟨(some 14), (.mv (.s 2)), none, []⟩,
    ⟨(some 15), (.bin .lss (.s 14) (.c (.int .i64 0))), none, [0]⟩] false)
  (.cond (.s 15)
   (.region [
     ⟨(some 16), (.mv (.s 2)), none, []⟩,
     ⟨(some 17), (.mv (.s 1)), none, []⟩,
     ⟨(some 18), (.bin .add (.s 16) (.s 17)), none, [0, 1]⟩,
     ⟨(some 2), (.mv (.s 18)), none, [2, 0, 1, 2]⟩] false)
   .skip))
  (.seq (.region [
    ⟨(some 19), (.mv (.s 0)), none, []⟩,
    ⟨(some 20), (.mv (.s 1)), none, []⟩,
    ⟨(some 21), (.call (.c (.fn 58 [])) [(.s 20)]), none, [1]⟩,
    ⟨(some 22), (.bin .and (.s 19) (.s 21)), none, [0, 2]⟩,
    ⟨(some 0), (.mv (.s 22)), none, [3, 2, 0, 1, 2, 3]⟩] false)
  (.seq (.region [
    ⟨(some 23), (.mv (.s 0)), none, []⟩,
    ⟨(some 24), (.mv (.s 2)), none, []⟩,
    ⟨(some 25), (.bin .shl (.s 23) (.s 24)), none, [0, 1]⟩,
    ⟨(some 26), (.mv (.s 0)), none, []⟩,
    ⟨(some 27), (.mv (.s 1)), none, []⟩,
    ⟨(some 28), (.mv (.s 2)), none, []⟩,
    ⟨(some 29), (.bin .sub (.s 27) (.s 28)), none, [4, 5]⟩,
    ⟨(some 30), (.bin .shr (.s 26) (.s 29)), none, [3, 6]⟩,
    ⟨(some 31), (.bin .or (.s 25) (.s 30)), none, [2, 7]⟩,
    ⟨(some 32), (.mv (.s 1)), none, []⟩,
    ⟨(some 33), (.call (.c (.fn 58 [])) [(.s 32)]), none, [9]⟩,
    ⟨(some 34), (.bin .and (.s 31) (.s 33)), none, [8, 10]⟩,
    ⟨(some 6), (.mv (.s 34)), none, [11, 10, 0, 1, 2, 3, 4, 5, 6, 7, 8, 9, 10, 11]⟩,
    ⟨(some 7), (.mv (.c (.int .i64 0))), none, [12, 0, 1, 2, 3, 4, 5, 6, 7, 8, 9, 10, 11, 12]⟩] true)
  .ret)))))), false, (some [(Sh.int .u64), (Sh.int .i64), (Sh.int .i64)]), (some (Sh.tu (Sh.pr (Sh.int .u64) (Sh.int .i64))))⟩

/-- euphroe/bitp.Split -/
def k31 : Fun := ⟨3, 39, [0, 1, 2, 6, 7, 8, 9, 21], [(.tmp 6), (.tmp 7), (.tmp 8)],
  (.seq (.region [
    ⟨(some 6), (.mv (.c (.int .u64 0))), none, []⟩,
    ⟨(some 7), (.mv (.c (.int .u64 0))), none, [0]⟩,
    ⟨(some 8), (.mv (.c (.int .i64 0))), none, [1]⟩] false)
  (.seq (.seq (.region [
    ⟨(some 10), (.mv (.s 1)), none, []⟩,
    ⟨(some 11), (.call (.c (.fn 53 [])) [(.s 10)]), none, [0]⟩,
    ⟨(some 12), (.un .not (.s 11)), none, [1]⟩,
    ⟨(some 13), (.mv (.s 12)), none, [2, 1]⟩,
    ⟨(some 14), (.mv (.s 2)), (some (13, false)), [3]⟩,
    ⟨(some 15), (.bin .lss (.s 14) (.c (.int .i64 0))), (some (13, false)), [4, 3]⟩,
    ⟨(some 16), (.pick (.s 13) (.c (.bool true)) (.s 15)), none, [3, 5]⟩,
    ⟨(some 17), (.mv (.s 16)), none, [6, 3]⟩,
    ⟨(some 18), (.mv (.s 2)), (some (17, false)), [7]⟩,
    ⟨(some 19), (.mv (.s 1)), (some (17, false)), [7]⟩,
    ⟨(some 20), (.bin .gtr (.s 18) (.s 19)), (some (17, false)), [8, 9, 7]⟩,
    ⟨(some 21), (.pick (.s 17) (.c (.bool true)) (.s 20)), none, [7, 10]⟩] false)
  (.cond (.s 21)
   (.seq (.region [
     ⟨(some 6), (.mv (.c (.int .u64 0))), none, []⟩,
     ⟨(some 7), (.mv (.c (.int .u64 0))), none, [0, 0]⟩,
     ⟨(some 8), (.mv (.c (.int .i64 1))), none, [1, 0, 1]⟩] false)
   .ret)
   .skip))
  (.seq (.region [
    ⟨(some 22), (.mv (.s 0)), none, []⟩,
    ⟨(some 23), (.mv (.s 1)), none, []⟩,
    ⟨(some 24), (.call (.c (.fn 58 [])) [(.s 23)]), none, [1]⟩,
    ⟨(some 25), (.bin .and (.s 22) (.s 24)), none, [0, 2]⟩,
    ⟨(some 0), (.mv (.s 25)), none, [3, 2, 0, 1, 2, 3]⟩] false)
  (.seq (.region [
    ⟨(some 26), (.mv (.s 1)), none, []⟩,
    ⟨(some 27), (.mv (.s 2)), none, []⟩,
    ⟨(some 28), (.bin .sub (.s 26) (.s 27)), none, [0, 1]⟩,
    ⟨(some 9), (.mv (.s 28)), none, [2, 0, 1, 2]⟩] false)
  (.seq (.region [
    ⟨(some 29), (.mv (.s 0)), none, []⟩,
    ⟨(some 30), (.mv (.s 9)), none, []⟩,
    ⟨(some 31), (.bin .shr (.s 29) (.s 30)), none, [0, 1]⟩,
    ⟨(some 32), (.mv (.s 0)), none, []⟩,
    ⟨(some 33), (.mv (.s 0)), none, []⟩,
    ⟨(some 34), (.mv (.s 9)), none, []⟩,
    ⟨(some 35), (.bin .shr (.s 33) (.s 34)), none, [4, 5]⟩,
    ⟨(some 36), (.mv (.s 9)), none, []⟩,
    ⟨(some 37), (.bin .shl (.s 35) (.s 36)), none, [6, 7]⟩,
    ⟨(some 38), (.bin .andNot (.s 32) (.s 37)), none, [3, 8]⟩,
    ⟨(some 6), (.mv (.s 31)), none, [2, 0, 1, 2]⟩,
    ⟨(some 7), (.mv (.s 38)), none, [9, 10, 0, 1, 2, 3, 4, 5, 6, 7, 8, 9, 10]⟩,
    ⟨(some 8), (.mv (.c (.int .i64 0))), none, [11, 0, 1, 2, 3, 4, 5, 6, 7, 8, 9, 10, 11]⟩] true)
  .ret))))), false, (some [(Sh.int .u64), (Sh.int .i64), (Sh.int .i64)]), (some (Sh.tu (Sh.pr (Sh.int .u64) (Sh.pr (Sh.int .u64) (Sh.int .i64)))))⟩

/-- euphroe/bitp.Bit -/
def k33 : Fun := ⟨3, 25, [0, 1, 2, 6, 18], [(.tmp 6)],
  (.seq (.region [
    ⟨(some 6), (.mv (.c (.int .u64 0))), none, []⟩] false)
  (.seq (.seq (.region [
    ⟨(some 7), (.mv (.s 1)), none, []⟩,
    ⟨(some 8), (.call (.c (.fn 53 [])) [(.s 7)]), none, [0]⟩,
    ⟨(some 9), (.un .not (.s 8)), none, [1]⟩,
    ⟨(some 10), (.mv (.s 9)), none, [2, 1]⟩,
    ⟨(some 11), (.mv (.s 2)), (some (10, false)), [3]⟩,
    ⟨(some 12), (.bin .lss (.s 11) (.c (.int .i64 1))), (some (10, false)), [4, 3]⟩,
    ⟨(some 13), (.pick (.s 10) (.c (.bool true)) (.s 12)), none, [3, 5]⟩,
    ⟨(some 14), (.mv (.s 13)), none, [6, 3]⟩,
    ⟨(some 15), (.mv (.s 2)), (some (14, false)), [7]⟩,
    ⟨(some 16), (.mv (.s 1)), (some (14, false)), [7]⟩,
    ⟨(some 17), (.bin .gtr (.s 15) (.s 16)), (some (14, false)), [8, 9, 7]⟩,
    ⟨(some 18), (.pick (.s 14) (.c (.bool true)) (.s 17)), none, [7, 10]⟩] false)
  (.cond (.s 18)
   (.seq (.region [
     ⟨(some 6), (.mv (.c (.int .u64 0))), none, []⟩] false)
   .ret)
   .skip))
  (.seq (.region [
    ⟨(some 19), (.mv (.s 0)), none, []⟩,
    ⟨(some 20), (.mv (.s 1)), none, []⟩,
    ⟨(some 21), (.mv (.s 2)), none, []⟩,
    ⟨(some 22), (.bin .sub (.s 20) (.s 21)), none, [1, 2]⟩,
    ⟨(some 23), (.bin .shr (.s 19) (.s 22)), none, [0, 3]⟩,
    ⟨(some 24), (.bin .and (.s 23) (.c (.int .u64 1))), none, [4]⟩,
    ⟨(some 6), (.mv (.s 24)), none, [5, 0, 1, 2, 3, 4, 5]⟩] false)
  .ret))), false, (some [(Sh.int .u64), (Sh.int .i64), (Sh.int .i64)]), (some (Sh.int .u64))⟩

/-- euphroe/euphroeref03.Spread -/
def k36 : Fun := ⟨1, 42, [0, 2, 3, 4, 5, 6, 7, 10, 12, 24], [(.tmp 2), (.tmp 3)],
  (.seq (.region [
    ⟨(some 2), (.mv (.c .nils)), none, []⟩,
    ⟨(some 3), (.mv (.c (.int .i64 0))), none, [0]⟩] false)
  (.seq (.seq (.region [
    ⟨(some 8), (.mv (.s 0)), none, []⟩,
    ⟨(some 9), (.len false (.s 8)), none, [0]⟩,
    ⟨(some 10), (.bin .neq (.s 9) (.c (.int .i64 7))), none, [1]⟩] false)
  (.cond (.s 10)
   (.seq (.region [
     ⟨(some 2), (.mv (.c .nils)), none, []⟩,
     ⟨(some 3), (.mv (.c (.int .i64 1))), none, [0, 0]⟩] false)
   .ret)
   .skip))
  (.seq (.region [
    ⟨(some 4), (.mv (.c .nils)), none, []⟩,
    ⟨(some 5), (.mv (.c .nils)), none, [0]⟩] false)
  (.seq (.seq (.region [
    ⟨(some 6), (.mv (.c (.int .i64 0))), none, []⟩] false)
  (.block 0
   (.loop ⟨0, [], false, [0, 4, 5, 6], [(4, (.ints .u8 []), 1)]⟩
    (.seq (.seq (.region [
      ⟨(some 11), (.mv (.s 6)), none, []⟩,
      ⟨(some 12), (.bin .lss (.s 11) (.c (.int .i64 7))), none, [0]⟩] false)
    (.cond (.s 12)
     .skip
     (.pre ⟨0, [], false, [4, 5], []⟩ (.exit 0))))
    (.seq (.block 1
     (.region [
       ⟨(some 15), (.mv (.s 4)), none, []⟩,
       ⟨(some 16), (.mv (.s 0)), none, []⟩,
       ⟨(some 17), (.mv (.s 6)), none, []⟩,
       ⟨(some 18), (.iad 1 (.s 16) (.s 17)), none, [1, 2]⟩,
       ⟨(some 19), (.ldc (.s 18)), none, [3]⟩,
       ⟨(some 20), (.cvi .u64 (.s 19)), none, [4]⟩,
       ⟨(some 21), (.call (.c (.fn 56 [])) [(.s 20), (.c (.int .i64 8))]), none, [5]⟩,
       ⟨(some 22), (.app 1 1 (.s 15) (.s 21)), none, [0, 6, 6]⟩,
       ⟨(some 4), (.mv (.s 22)), none, [7, 7, 0, 1, 2, 3, 4, 5, 6, 7]⟩] false))
    (.region [
      ⟨(some 13), (.mv (.s 6)), none, []⟩,
      ⟨(some 14), (.bin .add (.s 13) (.c (.int .i64 1))), none, [0]⟩,
      ⟨(some 6), (.mv (.s 14)), none, [1, 0, 1]⟩] false))))))
  (.seq (.seq (.region [
    ⟨(some 7), (.mv (.c (.int .i64 0))), none, []⟩] false)
  (.block 2
   (.loop ⟨1, [], false, [4, 5, 7], [(5, (.ints .u8 []), 1)]⟩
    (.seq (.seq (.region [
      ⟨(some 23), (.mv (.s 7)), none, []⟩,
      ⟨(some 24), (.bin .lss (.s 23) (.c (.int .i64 8))), none, [0]⟩] false)
    (.cond (.s 24)
     .skip
     (.pre ⟨0, [], false, [5], []⟩ (.exit 2))))
    (.seq (.block 3
     (.region [
       ⟨(some 27), (.mv (.s 5)), none, []⟩,
       ⟨(some 28), (.mv (.s 4)), none, []⟩,
       ⟨(some 29), (.mv (.s 7)), none, []⟩,
       ⟨(some 30), (.bin .mul (.c (.int .i64 7)) (.s 29)), none, [2]⟩,
       ⟨(some 31), (.mv (.s 7)), none, []⟩,
       ⟨(some 32), (.bin .mul (.c (.int .i64 7)) (.s 31)), none, [4]⟩,
       ⟨(some 33), (.bin .add (.s 32) (.c (.int .i64 7))), none, [5]⟩,
       ⟨(some 34), (.sls 1 (.s 28) (some (.s 30)) (some (.s 33)) none), none, [1, 3, 6]⟩,
       ⟨(some 35), (.call (.c (.fn 57 [])) [(.s 34)]), none, [7]⟩,
       ⟨(some 36), (.bin .mul (.c (.int .u64 2)) (.s 35)), none, [8]⟩,
       ⟨(some 37), (.cvi .u8 (.s 36)), none, [9]⟩,
       ⟨(some 38), (.call (.c (.fn 39 [])) [(.s 37)]), none, [10, 8]⟩,
       ⟨(some 39), (.bsl 1 1 (.ints .u8 [0]) [(0, 1, (.s 38))]), none, [11]⟩,
       ⟨(some 40), (.app 1 1 (.s 27) (.s 39)), none, [0, 12, 11]⟩,
       ⟨(some 5), (.mv (.s 40)), none, [13, 13, 0, 1, 2, 3, 4, 5, 6, 7, 8, 9, 10, 11, 12, 13]⟩] false))
    (.region [
      ⟨(some 25), (.mv (.s 7)), none, []⟩,
      ⟨(some 26), (.bin .add (.s 25) (.c (.int .i64 1))), none, [0]⟩,
      ⟨(some 7), (.mv (.s 26)), none, [1, 0, 1]⟩] false))))))
  (.seq (.region [
    ⟨(some 41), (.mv (.s 5)), none, []⟩,
    ⟨(some 2), (.mv (.s 41)), none, [0, 0]⟩,
    ⟨(some 3), (.mv (.c (.int .i64 0))), none, [1, 0, 1]⟩] false)
  .ret)))))), false, (some [(Sh.sl (Sh.int .u8))]), (some (Sh.tu (Sh.pr (Sh.sl (Sh.int .u8)) (Sh.int .i64))))⟩

/-- euphroe/euphroeref03.Odd -/
def k39 : Fun := ⟨1, 23, [0, 2, 3, 4, 6], [(.tmp 2)],
  (.seq (.region [
    ⟨(some 2), (.mv (.c (.int .u8 0))), none, []⟩] false)
  (.seq (.region [
    ⟨(some 3), (.mv (.c (.int .u8 0))), none, []⟩] false)
  (.seq (.seq (.region [
    ⟨(some 4), (.mv (.c (.int .i64 1))), none, []⟩] false)
  (.block 0
   (.loop ⟨0, [], false, [0, 3, 4], []⟩
    (.seq (.seq (.region [
      ⟨(some 5), (.mv (.s 4)), none, []⟩,
      ⟨(some 6), (.bin .lss (.s 5) (.c (.int .i64 8))), none, [0]⟩] false)
    (.cond (.s 6)
     .skip
     (.pre ⟨0, [], false, [0, 3], []⟩ (.exit 0))))
    (.seq (.block 1
     (.region [
       ⟨(some 9), (.mv (.s 3)), none, []⟩,
       ⟨(some 10), (.mv (.s 0)), none, []⟩,
       ⟨(some 11), (.mv (.s 4)), none, []⟩,
       ⟨(some 12), (.bin .shr (.s 10) (.s 11)), none, [1, 2]⟩,
       ⟨(some 13), (.bin .rem (.s 12) (.c (.int .u8 2))), none, [3]⟩,
       ⟨(some 14), (.bin .add (.s 9) (.s 13)), none, [0, 4]⟩,
       ⟨(some 3), (.mv (.s 14)), none, [5, 0, 1, 2, 3, 4, 5]⟩] false))
    (.region [
      ⟨(some 7), (.mv (.s 4)), none, []⟩,
      ⟨(some 8), (.bin .add (.s 7) (.c (.int .i64 1))), none, [0]⟩,
      ⟨(some 4), (.mv (.s 8)), none, [1, 0, 1]⟩] false))))))
  (.seq (.region [
    ⟨(some 15), (.mv (.s 0)), none, []⟩,
    ⟨(some 16), (.mv (.s 0)), none, []⟩,
    ⟨(some 17), (.bin .rem (.s 16) (.c (.int .u8 2))), none, [1]⟩,
    ⟨(some 18), (.bin .sub (.s 15) (.s 17)), none, [0, 2]⟩,
    ⟨(some 19), (.mv (.s 3)), none, []⟩,
    ⟨(some 20), (.bin .add (.s 19) (.c (.int .u8 1))), none, [4]⟩,
    ⟨(some 21), (.bin .rem (.s 20) (.c (.int .u8 2))), none, [5]⟩,
    ⟨(some 22), (.bin .add (.s 18) (.s 21)), none, [3, 6]⟩,
    ⟨(some 2), (.mv (.s 22)), none, [7, 0, 1, 2, 3, 4, 5, 6, 7]⟩] false)
  .ret)))), false, (some [(Sh.int .u8)]), (some (Sh.int .u8))⟩

/-- slices.Reverse[[]byte,byte] -/
def k48 : Fun := ⟨1, 28, [0, 2, 3, 9], [],
  (.seq (.region [
    ⟨(some 4), (.mv (.s 0)), none, []⟩,
    ⟨(some 5), (.len false (.s 4)), none, [0]⟩,
    ⟨(some 6), (.bin .sub (.s 5) (.c (.int .i64 1))), none, [1]⟩,
    ⟨(some 2), (.mv (.c (.int .i64 0))), none, []⟩,
    ⟨(some 3), (.mv (.s 6)), none, [2, 3, 0, 1, 2, 3]⟩] false)
  (.block 0
   (.loop ⟨0, [], false, [0, 2, 3], []⟩
    (.seq (.seq (.region [
      ⟨(some 7), (.mv (.s 2)), none, []⟩,
      ⟨(some 8), (.mv (.s 3)), none, []⟩,
      ⟨(some 9), (.bin .lss (.s 7) (.s 8)), none, [0, 1]⟩] false)
    (.cond (.s 9)
     .skip
     (.pre ⟨0, [], false, [], []⟩ (.exit 0))))
    (.seq (.block 1
     (.region [
       ⟨(some 14), (.mv (.s 0)), none, []⟩,
       ⟨(some 15), (.mv (.s 2)), none, []⟩,
       ⟨(some 16), (.mv (.s 0)), none, []⟩,
       ⟨(some 17), (.mv (.s 3)), none, []⟩,
       ⟨(some 18), (.mv (.s 0)), none, []⟩,
       ⟨(some 19), (.mv (.s 3)), none, []⟩,
       ⟨(some 20), (.iad 1 (.s 18) (.s 19)), none, [4, 5]⟩,
       ⟨(some 21), (.ldc (.s 20)), none, [6]⟩,
       ⟨(some 22), (.mv (.s 0)), none, []⟩,
       ⟨(some 23), (.mv (.s 2)), none, []⟩,
       ⟨(some 24), (.iad 1 (.s 22) (.s 23)), none, [8, 9]⟩,
       ⟨(some 25), (.ldc (.s 24)), none, [10]⟩,
       ⟨(some 26), (.iad 1 (.s 14) (.s 15)), none, [0, 1, 0, 1, 4, 5, 6, 7, 11]⟩,
       ⟨none, (.stc 1 (.s 26) (.s 21)), none, [12, 7, 0, 1, 4, 5, 6, 7, 11]⟩,
       ⟨(some 27), (.iad 1 (.s 16) (.s 17)), none, [2, 3, 0, 1, 2, 3, 4, 5, 6, 7, 8, 9, 10, 11, 12, 13]⟩,
       ⟨none, (.stc 1 (.s 27) (.s 25)), none, [14, 11, 13, 0, 1, 2, 3, 4, 5, 6, 7, 8, 9, 10, 11, 12, 13]⟩] true))
    (.region [
      ⟨(some 10), (.mv (.s 2)), none, []⟩,
      ⟨(some 11), (.bin .add (.s 10) (.c (.int .i64 1))), none, [0]⟩,
      ⟨(some 12), (.mv (.s 3)), none, []⟩,
      ⟨(some 13), (.bin .sub (.s 12) (.c (.int .i64 1))), none, [2]⟩,
      ⟨(some 2), (.mv (.s 11)), none, [1, 0, 1]⟩,
      ⟨(some 3), (.mv (.s 13)), none, [3, 4, 0, 1, 2, 3, 4]⟩] false)))))), true, none, none⟩

/-- euphroe/euphroeref01.Big -/
def k50 : Fun := ⟨2, 24, [0, 1, 4, 5, 6, 12], [(.tmp 4)],
  (.seq (.region [
    ⟨(some 4), (.mv (.c .nils)), none, []⟩] false)
  (.seq (.region [
    ⟨(some 7), (.mv (.s 1)), none, []⟩,
    ⟨(some 8), (.mks (.ints .u8 [0]) 1 1 (.s 7) (.s 7)), none, [0, 0]⟩,
    ⟨(some 5), (.mv (.s 8)), none, [1, 0, 1]⟩] false)
  (.seq (.seq (.region [
    ⟨(some 9), (.mv (.s 1)), none, []⟩,
    ⟨(some 10), (.bin .sub (.s 9) (.c (.int .i64 1))), none, [0]⟩,
    ⟨(some 6), (.mv (.s 10)), none, [1, 0, 1]⟩] false)
  (.block 0
   (.loop ⟨0, [], false, [0, 5, 6], []⟩
    (.seq (.seq (.region [
      ⟨(some 11), (.mv (.s 6)), none, []⟩,
      ⟨(some 12), (.bin .geq (.s 11) (.c (.int .i64 0))), none, [0]⟩] false)
    (.cond (.s 12)
     .skip
     (.pre ⟨0, [], false, [5], []⟩ (.exit 0))))
    (.seq (.block 1
     (.seq (.region [
       ⟨(some 15), (.mv (.s 5)), none, []⟩,
       ⟨(some 16), (.mv (.s 6)), none, []⟩,
       ⟨(some 17), (.mv (.s 0)), none, []⟩,
       ⟨(some 18), (.bin .rem (.s 17) (.c (.int .u64 256))), none, [2]⟩,
       ⟨(some 19), (.cvi .u8 (.s 18)), none, [3]⟩,
       ⟨(some 20), (.iad 1 (.s 15) (.s 16)), none, [0, 1, 0, 1, 2, 3, 4]⟩,
       ⟨none, (.stc 1 (.s 20) (.s 19)), none, [5, 4, 0, 1, 2, 3, 4]⟩] false)
     (.region [
       ⟨(some 21), (.mv (.s 0)), none, []⟩,
       ⟨(some 22), (.bin .quo (.s 21) (.c (.int .u64 256))), none, [0]⟩,
       ⟨(some 0), (.mv (.s 22)), none, [1, 0, 1]⟩] false)))
    (.region [
      ⟨(some 13), (.mv (.s 6)), none, []⟩,
      ⟨(some 14), (.bin .sub (.s 13) (.c (.int .i64 1))), none, [0]⟩,
      ⟨(some 6), (.mv (.s 14)), none, [1, 0, 1]⟩] false))))))
  (.seq (.region [
    ⟨(some 23), (.mv (.s 5)), none, []⟩,
    ⟨(some 4), (.mv (.s 23)), none, [0, 0]⟩] false)
  .ret)))), false, (some [(Sh.int .u64), (Sh.int .i64)]), (some (Sh.sl (Sh.int .u8)))⟩

/-- euphroe/euphroeref01.Num -/
def k51 : Fun := ⟨1, 20, [0, 2, 3, 4, 8], [(.tmp 2)],
  (.seq (.region [
    ⟨(some 2), (.mv (.c (.int .u64 0))), none, []⟩] false)
  (.seq (.region [
    ⟨(some 3), (.mv (.c (.int .u64 0))), none, []⟩] false)
  (.seq (.seq (.region [
    ⟨(some 4), (.mv (.c (.int .i64 0))), none, []⟩] false)
  (.block 0
   (.loop ⟨0, [], false, [0, 3, 4], []⟩
    (.seq (.seq (.region [
      ⟨(some 5), (.mv (.s 4)), none, []⟩,
      ⟨(some 6), (.mv (.s 0)), none, []⟩,
      ⟨(some 7), (.len false (.s 6)), none, [1]⟩,
      ⟨(some 8), (.bin .lss (.s 5) (.s 7)), none, [0, 2]⟩] false)
    (.cond (.s 8)
     .skip
     (.pre ⟨0, [], false, [3], []⟩ (.exit 0))))
    (.seq (.block 1
     (.region [
       ⟨(some 11), (.mv (.s 3)), none, []⟩,
       ⟨(some 12), (.bin .mul (.s 11) (.c (.int .u64 256))), none, [0]⟩,
       ⟨(some 13), (.mv (.s 0)), none, []⟩,
       ⟨(some 14), (.mv (.s 4)), none, []⟩,
       ⟨(some 15), (.iad 1 (.s 13) (.s 14)), none, [2, 3]⟩,
       ⟨(some 16), (.ldc (.s 15)), none, [4]⟩,
       ⟨(some 17), (.cvi .u64 (.s 16)), none, [5]⟩,
       ⟨(some 18), (.bin .add (.s 12) (.s 17)), none, [1, 6]⟩,
       ⟨(some 3), (.mv (.s 18)), none, [7, 0, 1, 2, 3, 4, 5, 6, 7]⟩] false))
    (.region [
      ⟨(some 9), (.mv (.s 4)), none, []⟩,
      ⟨(some 10), (.bin .add (.s 9) (.c (.int .i64 1))), none, [0]⟩,
      ⟨(some 4), (.mv (.s 10)), none, [1, 0, 1]⟩] false))))))
  (.seq (.region [
    ⟨(some 19), (.mv (.s 3)), none, []⟩,
    ⟨(some 2), (.mv (.s 19)), none, [0, 0]⟩] false)
  .ret)))), false, (some [(Sh.sl (Sh.int .u8))]), (some (Sh.int .u64))⟩

/-- math/bits.OnesCount8 -/
def k52 : Fun := ⟨1, 6, [0, 2], [(.tmp 2)],
  (.seq (.region [
    ⟨(some 2), (.mv (.c (.int .i64 0))), none, []⟩] false)
  (.seq (.region [
    ⟨(some 3), (.mv (.s 0)), none, []⟩,
    ⟨(some 4), (.ixs (.c (.str [0, 1, 1, 2, 1, 2, 2, 3, 1, 2, 2, 3, 2, 3, 3, 4, 1, 2, 2, 3, 2, 3, 3, 4, 2, 3, 3, 4, 3, 4, 4, 5, 1, 2, 2, 3, 2, 3, 3, 4, 2, 3, 3, 4, 3, 4, 4, 5, 2, 3, 3, 4, 3, 4, 4, 5, 3, 4, 4, 5, 4, 5, 5, 6, 1, 2, 2, 3, 2, 3, 3, 4, 2, 3, 3, 4, 3, 4, 4, 5, 2, 3, 3, 4, 3, 4, 4, 5, 3, 4, 4, 5, 4, 5, 5, 6, 2, 3, 3, 4, 3, 4, 4, 5, 3, 4, 4, 5, 4, 5, 5, 6, 3, 4, 4, 5, 4, 5, 5, 6, 4, 5, 5, 6, 5, 6, 6, 7, 1, 2, 2, 3, 2, 3, 3, 4, 2, 3, 3, 4, 3, 4, 4, 5, 2, 3, 3, 4, 3, 4, 4, 5, 3, 4, 4, 5, 4, 5, 5, 6, 2, 3, 3, 4, 3, 4, 4, 5, 3, 4, 4, 5, 4, 5, 5, 6, 3, 4, 4, 5, 4, 5, 5, 6, 4, 5, 5, 6, 5, 6, 6, 7, 2, 3, 3, 4, 3, 4, 4, 5, 3, 4, 4, 5, 4, 5, 5, 6, 3, 4, 4, 5, 4, 5, 5, 6, 4, 5, 5, 6, 5, 6, 6, 7, 3, 4, 4, 5, 4, 5, 5, 6, 4, 5, 5, 6, 5, 6, 6, 7, 4, 5, 5, 6, 5, 6, 6, 7, 5, 6, 6, 7, 6, 7, 7, 8])) (.s 3)), none, [0]⟩,
    ⟨(some 5), (.cvi .i64 (.s 4)), none, [1]⟩,
    ⟨(some 2), (.mv (.s 5)), none, [2, 0, 1, 2]⟩] false)
  .ret)), false, (some [(Sh.int .u8)]), (some (Sh.int .i64))⟩

/-- euphroe/bitp.isWidth -/
def k53 : Fun := ⟨1, 9, [0, 2], [(.tmp 2)],
  (.seq (.region [
    ⟨(some 2), (.mv (.c (.bool false))), none, []⟩] false)
  (.seq (.region [
    ⟨(some 3), (.mv (.s 0)), none, []⟩,
    ⟨(some 4), (.bin .geq (.s 3) (.c (.int .i64 1))), none, [0]⟩,
    ⟨(some 5), (.mv (.s 4)), none, [1]⟩,
    ⟨(some 6), (.mv (.s 0)), (some (5, true)), [2]⟩,
    ⟨(some 7), (.bin .leq (.s 6) (.c (.int .i64 64))), (some (5, true)), [3, 2]⟩,
    ⟨(some 8), (.pick (.s 5) (.s 7) (.c (.bool false))), none, [2, 4]⟩,
    ⟨(some 2), (.mv (.s 8)), none, [5, 2, 0, 1, 2, 3, 4, 5]⟩] false)
  .ret)), false, (some [(Sh.int .i64)]), (some Sh.bool)⟩

/-- euphroe/bitp.Permute$1 -/
def k54 : Fun := ⟨5, 23, [0, 1, 2, 3, 4], [],
  (.seq (.region [
    ⟨(some 6), (.ldc (.s 1)), none, []⟩,
    ⟨(some 7), (.mv (.s 6)), none, [0]⟩,
    ⟨(some 8), (.mv (.s 0)), (some (7, false)), [1]⟩,
    ⟨(some 9), (.bin .lss (.s 8) (.c (.int .i64 1))), (some (7, false)), [2, 1]⟩,
    ⟨(some 10), (.pick (.s 7) (.c (.bool true)) (.s 9)), none, [1, 3]⟩,
    ⟨(some 11), (.mv (.s 10)), none, [4, 1]⟩,
    ⟨(some 12), (.mv (.s 0)), (some (11, false)), [5]⟩,
    ⟨(some 13), (.ldc (.s 2)), (some (11, false)), [5]⟩,
    ⟨(some 14), (.bin .gtr (.s 12) (.s 13)), (some (11, false)), [6, 7, 5]⟩,
    ⟨(some 15), (.pick (.s 11) (.c (.bool true)) (.s 14)), none, [5, 8]⟩,
    ⟨none, (.stc 1 (.s 1) (.s 15)), none, [9, 5, 0, 1, 2, 3, 4, 5, 6, 7, 8, 9]⟩] false)
  (.region [
    ⟨(some 16), (.ldc (.s 3)), none, []⟩,
    ⟨(some 17), (.bin .shl (.s 16) (.c (.int .u64 1))), none, [0]⟩,
    ⟨(some 18), (.ldc (.s 4)), none, []⟩,
    ⟨(some 19), (.ldc (.s 2)), none, []⟩,
    ⟨(some 20), (.mv (.s 0)), none, []⟩,
    ⟨(some 21), (.call (.c (.fn 33 [])) [(.s 18), (.s 19), (.s 20)]), none, [2, 3, 4]⟩,
    ⟨(some 22), (.bin .or (.s 17) (.s 21)), none, [1, 5]⟩,
    ⟨none, (.stc 1 (.s 3) (.s 22)), none, [6, 5, 0, 1, 2, 3, 4, 5, 6]⟩] true)), false, none, none⟩

/-- euphroe/euphroeref03.Row -/
def k56 : Fun := ⟨2, 24, [0, 1, 4, 5, 6, 12], [(.tmp 4)],
  (.seq (.region [
    ⟨(some 4), (.mv (.c .nils)), none, []⟩] false)
  (.seq (.region [
    ⟨(some 7), (.mv (.s 1)), none, []⟩,
    ⟨(some 8), (.mks (.ints .u8 [0]) 1 1 (.s 7) (.s 7)), none, [0, 0]⟩,
    ⟨(some 5), (.mv (.s 8)), none, [1, 0, 1]⟩] false)
  (.seq (.seq (.region [
    ⟨(some 9), (.mv (.s 1)), none, []⟩,
    ⟨(some 10), (.bin .sub (.s 9) (.c (.int .i64 1))), none, [0]⟩,
    ⟨(some 6), (.mv (.s 10)), none, [1, 0, 1]⟩] false)
  (.block 0
   (.loop ⟨0, [], false, [0, 5, 6], []⟩
    (.seq (.seq (.region [
      ⟨(some 11), (.mv (.s 6)), none, []⟩,
      ⟨(some 12), (.bin .geq (.s 11) (.c (.int .i64 0))), none, [0]⟩] false)
    (.cond (.s 12)
     .skip
     (.pre ⟨0, [], false, [5], []⟩ (.exit 0))))
    (.seq (.block 1
     (.seq (.region [
       ⟨(some 15), (.mv (.s 5)), none, []⟩,
       ⟨(some 16), (.mv (.s 6)), none, []⟩,
       ⟨(some 17), (.mv (.s 0)), none, []⟩,
       ⟨(some 18), (.bin .rem (.s 17) (.c (.int .u64 2))), none, [2]⟩,
       ⟨(some 19), (.cvi .u8 (.s 18)), none, [3]⟩,
       ⟨(some 20), (.iad 1 (.s 15) (.s 16)), none, [0, 1, 0, 1, 2, 3, 4]⟩,
       ⟨none, (.stc 1 (.s 20) (.s 19)), none, [5, 4, 0, 1, 2, 3, 4]⟩] false)
     (.region [
       ⟨(some 21), (.mv (.s 0)), none, []⟩,
       ⟨(some 22), (.bin .quo (.s 21) (.c (.int .u64 2))), none, [0]⟩,
       ⟨(some 0), (.mv (.s 22)), none, [1, 0, 1]⟩] false)))
    (.region [
      ⟨(some 13), (.mv (.s 6)), none, []⟩,
      ⟨(some 14), (.bin .sub (.s 13) (.c (.int .i64 1))), none, [0]⟩,
      ⟨(some 6), (.mv (.s 14)), none, [1, 0, 1]⟩] false))))))
  (.seq (.region [
    ⟨(some 23), (.mv (.s 5)), none, []⟩,
    ⟨(some 4), (.mv (.s 23)), none, [0, 0]⟩] false)
  .ret)))), false, (some [(Sh.int .u64), (Sh.int .i64)]), (some (Sh.sl (Sh.int .u8)))⟩

/-- euphroe/euphroeref03.Word -/
def k57 : Fun := ⟨1, 20, [0, 2, 3, 4, 8], [(.tmp 2)],
  (.seq (.region [
    ⟨(some 2), (.mv (.c (.int .u64 0))), none, []⟩] false)
  (.seq (.region [
    ⟨(some 3), (.mv (.c (.int .u64 0))), none, []⟩] false)
  (.seq (.seq (.region [
    ⟨(some 4), (.mv (.c (.int .i64 0))), none, []⟩] false)
  (.block 0
   (.loop ⟨0, [], false, [0, 3, 4], []⟩
    (.seq (.seq (.region [
      ⟨(some 5), (.mv (.s 4)), none, []⟩,
      ⟨(some 6), (.mv (.s 0)), none, []⟩,
      ⟨(some 7), (.len false (.s 6)), none, [1]⟩,
      ⟨(some 8), (.bin .lss (.s 5) (.s 7)), none, [0, 2]⟩] false)
    (.cond (.s 8)
     .skip
     (.pre ⟨0, [], false, [3], []⟩ (.exit 0))))
    (.seq (.block 1
     (.region [
       ⟨(some 11), (.mv (.s 3)), none, []⟩,
       ⟨(some 12), (.bin .mul (.c (.int .u64 2)) (.s 11)), none, [0]⟩,
       ⟨(some 13), (.mv (.s 0)), none, []⟩,
       ⟨(some 14), (.mv (.s 4)), none, []⟩,
       ⟨(some 15), (.iad 1 (.s 13) (.s 14)), none, [2, 3]⟩,
       ⟨(some 16), (.ldc (.s 15)), none, [4]⟩,
       ⟨(some 17), (.cvi .u64 (.s 16)), none, [5]⟩,
       ⟨(some 18), (.bin .add (.s 12) (.s 17)), none, [1, 6]⟩,
       ⟨(some 3), (.mv (.s 18)), none, [7, 0, 1, 2, 3, 4, 5, 6, 7]⟩] false))
    (.region [
      ⟨(some 9), (.mv (.s 4)), none, []⟩,
      ⟨(some 10), (.bin .add (.s 9) (.c (.int .i64 1))), none, [0]⟩,
      ⟨(some 4), (.mv (.s 10)), none, [1, 0, 1]⟩] false))))))
  (.seq (.region [
    ⟨(some 19), (.mv (.s 3)), none, []⟩,
    ⟨(some 2), (.mv (.s 19)), none, [0, 0]⟩] false)
  .ret)))), false, (some [(Sh.sl (Sh.int .u8))]), (some (Sh.int .u64))⟩

/-- euphroe/bitp.mask -/
def k58 : Fun := ⟨1, 6, [0, 2], [(.tmp 2)],
  (.seq (.region [
    ⟨(some 2), (.mv (.c (.int .u64 0))), none, []⟩] false)
  (.seq (.region [
    ⟨(some 3), (.mv (.s 0)), none, []⟩,
    ⟨(some 4), (.bin .sub (.c (.int .i64 64)) (.s 3)), none, [0]⟩,
    ⟨(some 5), (.bin .shr (.c (.int .u64 18446744073709551615)) (.s 4)), none, [1]⟩,
    ⟨(some 2), (.mv (.s 5)), none, [2, 0, 1, 2]⟩] false)
  .ret)), false, (some [(Sh.int .i64)]), (some (Sh.int .u64))⟩

/-- strings.IndexByte -/
def k63 : Fun := ⟨2, 8, [0, 1, 4], [(.tmp 4)],
  (.seq (.region [
    ⟨(some 4), (.mv (.c (.int .i64 0))), none, []⟩] false)
  (.seq (.region [
    ⟨(some 5), (.mv (.s 0)), none, []⟩,
    ⟨(some 6), (.mv (.s 1)), none, []⟩,
    ⟨(some 7), (.call (.c (.fn 65 [])) [(.s 5), (.s 6)]), none, [0, 1]⟩,
    ⟨(some 4), (.mv (.s 7)), none, [2, 2, 0, 1, 2]⟩] false)
  .ret)), false, (some [Sh.str, (Sh.int .u8)]), (some (Sh.int .i64))⟩

/-- internal/stringslite.IndexByte -/
def k65 : Fun := ⟨2, 8, [0, 1, 4], [(.tmp 4)],
  (.seq (.region [
    ⟨(some 4), (.mv (.c (.int .i64 0))), none, []⟩] false)
  (.seq (.region [
    ⟨(some 5), (.mv (.s 0)), none, []⟩,
    ⟨(some 6), (.mv (.s 1)), none, []⟩,
    ⟨(some 7), (.call (.c (.fn 66 [])) [(.s 5), (.s 6)]), none, [0, 1]⟩,
    ⟨(some 4), (.mv (.s 7)), none, [2, 2, 0, 1, 2]⟩] false)
  .ret)), false, (some [Sh.str, (Sh.int .u8)]), (some (Sh.int .i64))⟩

/-- euphroe/euphroelaw08.DesWords -/
def k240 : Fun := ⟨3, 33, [0, 1, 2, 6], [(.tmp 6)],
  (.seq (.region [
    ⟨(some 6), (.mv (.c (.bool false))), none, []⟩] false)
  (.seq (.region [
    ⟨(some 7), (.mv (.s 0)), none, []⟩,
    ⟨(some 8), (.mv (.s 1)), none, []⟩,
    ⟨(some 9), (.call (.c (.fn 245 [])) [(.s 7), (.s 8)]), none, [0, 1]⟩,
    ⟨(some 10), (.mv (.s 0)), none, []⟩,
    ⟨(some 11), (.mv (.s 1)), none, []⟩,
    ⟨(some 12), (.call (.c (.fn 246 [])) [(.s 10), (.s 11)]), none, [3, 4, 2]⟩,
    ⟨(some 13), (.bin .eql (.s 9) (.s 12)), none, [2, 5]⟩,
    ⟨(some 14), (.mv (.s 13)), none, [6, 5]⟩,
    ⟨(some 15), (.mv (.s 1)), (some (14, true)), [7]⟩,
    ⟨(some 16), (.call (.c (.fn 247 [])) [(.s 15)]), (some (14, true)), [8, 7, 7]⟩,
    ⟨(some 17), (.mv (.s 1)), (some (14, true)), [7]⟩,
    ⟨(some 18), (.call (.c (.fn 248 [])) [(.s 17)]), (some (14, true)), [10, 9, 7]⟩,
    ⟨(some 19), (.eqa 16 false (.s 16) (.s 18)), (some (14, true)), [9, 11, 7]⟩,
    ⟨(some 20), (.pick (.s 14) (.s 19) (.c (.bool false))), none, [7, 12]⟩,
    ⟨(some 21), (.mv (.s 20)), none, [13, 11]⟩,
    ⟨(some 22), (.mv (.s 2)), (some (21, true)), [14]⟩,
    ⟨(some 23), (.mv (.s 1)), (some (21, true)), [14]⟩,
    ⟨(some 24), (.call (.c (.fn 249 [])) [(.s 22), (.s 23)]), (some (21, true)), [15, 16, 14, 14]⟩,
    ⟨(some 25), (.mv (.s 2)), (some (21, true)), [14]⟩,
    ⟨(some 26), (.mv (.s 1)), (some (21, true)), [14]⟩,
    ⟨(some 27), (.call (.c (.fn 250 [])) [(.s 25), (.s 26)]), (some (21, true)), [18, 19, 17, 14]⟩,
    ⟨(some 28), (.bin .eql (.s 24) (.s 27)), (some (21, true)), [17, 20, 14]⟩,
    ⟨(some 29), (.pick (.s 21) (.s 28) (.c (.bool false))), none, [14, 21]⟩,
    ⟨(some 30), (.mv (.s 29)), none, [22, 20]⟩,
    ⟨(some 31), (.call (.c (.fn 251 [])) []), (some (30, true)), [23, 23]⟩,
    ⟨(some 32), (.pick (.s 30) (.s 31) (.c (.bool false))), none, [23, 24]⟩,
    ⟨(some 6), (.mv (.s 32)), none, [25, 24, 0, 1, 2, 3, 4, 5, 6, 7, 8, 9, 10, 11, 12, 13, 14, 15, 16, 17, 18, 19, 20, 21, 22, 23, 24, 25]⟩] false)
  .ret)), false, (some [(Sh.int .i64), (Sh.int .u64), (Sh.int .u32)]), (some Sh.bool)⟩

/-- euphroe/euphroelaw08.DesSeven -/
def k241 : Fun := ⟨2, 41, [0, 1, 4, 5, 6, 7, 8, 16], [(.tmp 4)],
  (.seq (.region [
    ⟨(some 4), (.mv (.c (.bool false))), none, []⟩] false)
  (.seq (.seq (.region [
    ⟨(some 9), (.mv (.s 0)), none, []⟩,
    ⟨(some 10), (.len false (.s 9)), none, [0]⟩,
    ⟨(some 11), (.bin .gtr (.s 10) (.c (.int .i64 100))), none, [1]⟩,
    ⟨(some 12), (.mv (.s 11)), none, [2]⟩,
    ⟨(some 13), (.mv (.s 1)), (some (12, false)), [3]⟩,
    ⟨(some 14), (.len false (.s 13)), (some (12, false)), [4, 3]⟩,
    ⟨(some 15), (.bin .gtr (.s 14) (.c (.int .i64 100))), (some (12, false)), [5, 3]⟩,
    ⟨(some 16), (.pick (.s 12) (.c (.bool true)) (.s 15)), none, [3, 6]⟩] false)
  (.cond (.s 16)
   (.seq (.region [
     ⟨(some 17), (.call (.c (.fn 251 [])) []), none, []⟩,
     ⟨(some 4), (.mv (.s 17)), none, [0, 0, 0]⟩] false)
   .ret)
   .skip))
  (.seq (.region [
    ⟨(some 19), (.mv (.s 0)), none, []⟩,
    ⟨(some 20), (.mv (.s 1)), none, []⟩,
    ⟨(some 21), (.call (.c (.fn 252 [])) [(.s 19), (.s 20)]), none, [0, 1]⟩,
    ⟨(some 18), (.mv (.s 21)), none, [2]⟩,
    ⟨(some 22), (.ext (.s 18) 0), none, [3]⟩,
    ⟨(some 23), (.ext (.s 18) 1), none, [3]⟩,
    ⟨(some 5), (.mv (.s 22)), none, [4, 2, 0, 1, 2, 3, 4]⟩,
    ⟨(some 6), (.mv (.s 23)), none, [5, 6, 0, 1, 2, 3, 4, 5, 6]⟩] false)
  (.seq (.region [
    ⟨(some 25), (.mv (.s 0)), none, []⟩,
    ⟨(some 26), (.mv (.s 1)), none, []⟩,
    ⟨(some 27), (.call (.c (.fn 253 [])) [(.s 25), (.s 26)]), none, [0, 1]⟩,
    ⟨(some 24), (.mv (.s 27)), none, [2]⟩,
    ⟨(some 28), (.ext (.s 24) 0), none, [3]⟩,
    ⟨(some 29), (.ext (.s 24) 1), none, [3]⟩,
    ⟨(some 7), (.mv (.s 28)), none, [4, 2, 0, 1, 2, 3, 4]⟩,
    ⟨(some 8), (.mv (.s 29)), none, [5, 6, 0, 1, 2, 3, 4, 5, 6]⟩] false)
  (.seq (.region [
    ⟨(some 30), (.mv (.s 5)), none, []⟩,
    ⟨(some 31), (.mv (.s 7)), none, []⟩,
    ⟨(some 32), (.call (.c (.fn 23 [])) [(.s 30), (.s 31)]), none, [0, 1]⟩,
    ⟨(some 33), (.mv (.s 32)), none, [2, 2]⟩,
    ⟨(some 34), (.mv (.s 6)), (some (33, true)), [3]⟩,
    ⟨(some 35), (.mv (.s 8)), (some (33, true)), [3]⟩,
    ⟨(some 36), (.bin .eql (.s 34) (.s 35)), (some (33, true)), [4, 5, 3]⟩,
    ⟨(some 37), (.pick (.s 33) (.s 36) (.c (.bool false))), none, [3, 6]⟩,
    ⟨(some 38), (.mv (.s 37)), none, [7, 3]⟩,
    ⟨(some 39), (.call (.c (.fn 251 [])) []), (some (38, true)), [8, 8]⟩,
    ⟨(some 40), (.pick (.s 38) (.s 39) (.c (.bool false))), none, [8, 9]⟩,
    ⟨(some 4), (.mv (.s 40)), none, [10, 9, 0, 1, 2, 3, 4, 5, 6, 7, 8, 9, 10]⟩] false)
  .ret))))), false, (some [(Sh.sl (Sh.int .u8)), (Sh.sl (Sh.int .u8))]), (some Sh.bool)⟩

/-- euphroe/euphroelaw08.DesTurns -/
def k242 : Fun := ⟨2, 24, [0, 1, 4], [(.tmp 4)],
  (.seq (.region [
    ⟨(some 4), (.mv (.c (.bool false))), none, []⟩] false)
  (.seq (.region [
    ⟨(some 5), (.mv (.s 0)), none, []⟩,
    ⟨(some 6), (.mv (.s 1)), none, []⟩,
    ⟨(some 7), (.call (.c (.fn 254 [])) [(.s 5), (.s 6)]), none, [0, 1]⟩,
    ⟨(some 8), (.mv (.s 0)), none, []⟩,
    ⟨(some 9), (.mv (.s 1)), none, []⟩,
    ⟨(some 10), (.call (.c (.fn 255 [])) [(.s 8), (.s 9)]), none, [3, 4, 2]⟩,
    ⟨(some 11), (.bin .eql (.s 7) (.s 10)), none, [2, 5]⟩,
    ⟨(some 12), (.mv (.s 11)), none, [6, 5]⟩,
    ⟨(some 13), (.mv (.s 0)), (some (12, true)), [7]⟩,
    ⟨(some 14), (.mv (.s 1)), (some (12, true)), [7]⟩,
    ⟨(some 15), (.call (.c (.fn 256 [])) [(.s 13), (.s 14)]), (some (12, true)), [8, 9, 7, 7]⟩,
    ⟨(some 16), (.mv (.s 0)), (some (12, true)), [7]⟩,
    ⟨(some 17), (.mv (.s 1)), (some (12, true)), [7]⟩,
    ⟨(some 18), (.call (.c (.fn 257 [])) [(.s 16), (.s 17)]), (some (12, true)), [11, 12, 10, 7]⟩,
    ⟨(some 19), (.bin .eql (.s 15) (.s 18)), (some (12, true)), [10, 13, 7]⟩,
    ⟨(some 20), (.pick (.s 12) (.s 19) (.c (.bool false))), none, [7, 14]⟩,
    ⟨(some 21), (.mv (.s 20)), none, [15, 13]⟩,
    ⟨(some 22), (.call (.c (.fn 251 [])) []), (some (21, true)), [16, 16]⟩,
    ⟨(some 23), (.pick (.s 21) (.s 22) (.c (.bool false))), none, [16, 17]⟩,
    ⟨(some 4), (.mv (.s 23)), none, [18, 17, 0, 1, 2, 3, 4, 5, 6, 7, 8, 9, 10, 11, 12, 13, 14, 15, 16, 17, 18]⟩] false)
  .ret)), false, (some [(Sh.int .u64), (Sh.int .u64)]), (some Sh.bool)⟩

/-- euphroe/euphroelaw08.DesBack -/
def k243 : Fun := ⟨3, 38, [0, 1, 2, 6, 7], [(.tmp 6)],
  (.seq (.region [
    ⟨(some 6), (.mv (.c (.bool false))), none, []⟩] false)
  (.seq (.region [
    ⟨(some 8), (.mv (.s 0)), none, []⟩,
    ⟨(some 9), (.mv (.s 1)), none, []⟩,
    ⟨(some 10), (.call (.c (.fn 254 [])) [(.s 8), (.s 9)]), none, [0, 1]⟩,
    ⟨(some 7), (.mv (.s 10)), none, [2, 2, 0, 1, 2]⟩] false)
  (.seq (.region [
    ⟨(some 11), (.mv (.s 0)), none, []⟩,
    ⟨(some 12), (.mv (.s 7)), none, []⟩,
    ⟨(some 13), (.call (.c (.fn 256 [])) [(.s 11), (.s 12)]), none, [0, 1]⟩,
    ⟨(some 14), (.mv (.s 1)), none, []⟩,
    ⟨(some 15), (.bin .eql (.s 13) (.s 14)), none, [2, 3]⟩,
    ⟨(some 16), (.mv (.s 15)), none, [4, 2]⟩,
    ⟨(some 17), (.mv (.s 0)), (some (16, true)), [5]⟩,
    ⟨(some 18), (.mv (.s 0)), (some (16, true)), [5]⟩,
    ⟨(some 19), (.mv (.s 1)), (some (16, true)), [5]⟩,
    ⟨(some 20), (.call (.c (.fn 256 [])) [(.s 18), (.s 19)]), (some (16, true)), [7, 8, 5, 5]⟩,
    ⟨(some 21), (.call (.c (.fn 254 [])) [(.s 17), (.s 20)]), (some (16, true)), [6, 9, 9, 5]⟩,
    ⟨(some 22), (.mv (.s 1)), (some (16, true)), [5]⟩,
    ⟨(some 23), (.bin .eql (.s 21) (.s 22)), (some (16, true)), [10, 11, 5]⟩,
    ⟨(some 24), (.pick (.s 16) (.s 23) (.c (.bool false))), none, [5, 12]⟩,
    ⟨(some 25), (.mv (.s 24)), none, [13, 10]⟩,
    ⟨(some 26), (.mv (.s 0)), (some (25, true)), [14]⟩,
    ⟨(some 27), (.mv (.s 2)), (some (25, true)), [14]⟩,
    ⟨(some 28), (.bin .and (.s 27) (.c (.int .u64 72340172838076673))), (some (25, true)), [16, 14]⟩,
    ⟨(some 29), (.bin .xor (.s 26) (.s 28)), (some (25, true)), [15, 17, 14]⟩,
    ⟨(some 30), (.mv (.s 1)), (some (25, true)), [14]⟩,
    ⟨(some 31), (.call (.c (.fn 254 [])) [(.s 29), (.s 30)]), (some (25, true)), [18, 19, 14, 14]⟩,
    ⟨(some 32), (.mv (.s 7)), (some (25, true)), [14]⟩,
    ⟨(some 33), (.bin .eql (.s 31) (.s 32)), (some (25, true)), [20, 21, 14]⟩,
    ⟨(some 34), (.pick (.s 25) (.s 33) (.c (.bool false))), none, [14, 22]⟩,
    ⟨(some 35), (.mv (.s 34)), none, [23, 20]⟩,
    ⟨(some 36), (.call (.c (.fn 251 [])) []), (some (35, true)), [24, 24]⟩,
    ⟨(some 37), (.pick (.s 35) (.s 36) (.c (.bool false))), none, [24, 25]⟩,
    ⟨(some 6), (.mv (.s 37)), none, [26, 25, 0, 1, 2, 3, 4, 5, 6, 7, 8, 9, 10, 11, 12, 13, 14, 15, 16, 17, 18, 19, 20, 21, 22, 23, 24, 25, 26]⟩] false)
  .ret))), false, (some [(Sh.int .u64), (Sh.int .u64), (Sh.int .u64)]), (some Sh.bool)⟩

/-- euphroe/euphroelaw08.DesOther -/
def k244 : Fun := ⟨2, 30, [0, 1, 4], [(.tmp 4)],
  (.seq (.region [
    ⟨(some 4), (.mv (.c (.bool false))), none, []⟩] false)
  (.seq (.region [
    ⟨(some 5), (.mv (.s 0)), none, []⟩,
    ⟨(some 6), (.un .xor (.s 5)), none, [0]⟩,
    ⟨(some 7), (.mv (.s 1)), none, []⟩,
    ⟨(some 8), (.un .xor (.s 7)), none, [2]⟩,
    ⟨(some 9), (.call (.c (.fn 254 [])) [(.s 6), (.s 8)]), none, [1, 3]⟩,
    ⟨(some 10), (.mv (.s 0)), none, []⟩,
    ⟨(some 11), (.mv (.s 1)), none, []⟩,
    ⟨(some 12), (.call (.c (.fn 254 [])) [(.s 10), (.s 11)]), none, [5, 6, 4]⟩,
    ⟨(some 13), (.un .xor (.s 12)), none, [7]⟩,
    ⟨(some 14), (.bin .eql (.s 9) (.s 13)), none, [4, 8]⟩,
    ⟨(some 15), (.mv (.s 14)), none, [9, 7]⟩,
    ⟨(some 16), (.mv (.s 0)), (some (15, true)), [10]⟩,
    ⟨(some 17), (.un .xor (.s 16)), (some (15, true)), [11, 10]⟩,
    ⟨(some 18), (.mv (.s 1)), (some (15, true)), [10]⟩,
    ⟨(some 19), (.un .xor (.s 18)), (some (15, true)), [13, 10]⟩,
    ⟨(some 20), (.call (.c (.fn 256 [])) [(.s 17), (.s 19)]), (some (15, true)), [12, 14, 10, 10]⟩,
    ⟨(some 21), (.mv (.s 0)), (some (15, true)), [10]⟩,
    ⟨(some 22), (.mv (.s 1)), (some (15, true)), [10]⟩,
    ⟨(some 23), (.call (.c (.fn 256 [])) [(.s 21), (.s 22)]), (some (15, true)), [16, 17, 15, 10]⟩,
    ⟨(some 24), (.un .xor (.s 23)), (some (15, true)), [18, 10]⟩,
    ⟨(some 25), (.bin .eql (.s 20) (.s 24)), (some (15, true)), [15, 19, 10]⟩,
    ⟨(some 26), (.pick (.s 15) (.s 25) (.c (.bool false))), none, [10, 20]⟩,
    ⟨(some 27), (.mv (.s 26)), none, [21, 18]⟩,
    ⟨(some 28), (.call (.c (.fn 251 [])) []), (some (27, true)), [22, 22]⟩,
    ⟨(some 29), (.pick (.s 27) (.s 28) (.c (.bool false))), none, [22, 23]⟩,
    ⟨(some 4), (.mv (.s 29)), none, [24, 23, 0, 1, 2, 3, 4, 5, 6, 7, 8, 9, 10, 11, 12, 13, 14, 15, 16, 17, 18, 19, 20, 21, 22, 23, 24]⟩] false)
  .ret)), false, (some [(Sh.int .u64), (Sh.int .u64)]), (some Sh.bool)⟩

/-- euphroe/des.Box -/
def k245 : Fun := ⟨2, 33, [0, 1, 4, 5, 6, 12], [(.tmp 4)],
  (.seq (.region [
    ⟨(some 4), (.mv (.c (.int .u64 0))), none, []⟩] false)
  (.seq (.seq (.region [
    ⟨(some 7), (.mv (.s 0)), none, []⟩,
    ⟨(some 8), (.bin .lss (.s 7) (.c (.int .i64 1))), none, [0]⟩,
    ⟨(some 9), (.mv (.s 8)), none, [1]⟩,
    ⟨(some 10), (.mv (.s 0)), (some (9, false)), [2]⟩,
    ⟨(some 11), (.bin .gtr (.s 10) (.c (.int .i64 8))), (some (9, false)), [3, 2]⟩,
    ⟨(some 12), (.pick (.s 9) (.c (.bool true)) (.s 11)), none, [2, 4]⟩] false)
  (.cond (.s 12)
   (.seq (.region [
     ⟨(some 4), (.mv (.c (.int .u64 0))), none, []⟩] false)
   .ret)
   .skip))
  (.seq (.region [
    ⟨(some 13), (.mv (.s 1)), none, []⟩,
    ⟨(some 14), (.bin .shr (.s 13) (.c (.int .u64 4))), none, [0]⟩,
    ⟨(some 15), (.bin .and (.s 14) (.c (.int .u64 2))), none, [1]⟩,
    ⟨(some 16), (.mv (.s 1)), none, []⟩,
    ⟨(some 17), (.bin .and (.s 16) (.c (.int .u64 1))), none, [3]⟩,
    ⟨(some 18), (.bin .or (.s 15) (.s 17)), none, [2, 4]⟩,
    ⟨(some 5), (.mv (.s 18)), none, [5, 0, 1, 2, 3, 4, 5]⟩] false)
  (.seq (.region [
    ⟨(some 19), (.mv (.s 1)), none, []⟩,
    ⟨(some 20), (.bin .shr (.s 19) (.c (.int .u64 1))), none, [0]⟩,
    ⟨(some 21), (.bin .and (.s 20) (.c (.int .u64 15))), none, [1]⟩,
    ⟨(some 6), (.mv (.s 21)), none, [2, 0, 1, 2]⟩] false)
  (.seq (.region [
    ⟨(some 22), (.call (.c (.fn 258 [])) []), none, []⟩,
    ⟨(some 23), (.mv (.s 0)), none, []⟩,
    ⟨(some 24), (.bin .sub (.s 23) (.c (.int .i64 1))), none, [1]⟩,
    ⟨(some 25), (.ixa 8 1 false none (.s 22) (.s 24)), none, [0, 2]⟩,
    ⟨(some 26), (.mv (.s 5)), none, []⟩,
    ⟨(some 27), (.bin .mul (.c (.int .u64 16)) (.s 26)), none, [4]⟩,
    ⟨(some 28), (.mv (.s 6)), none, []⟩,
    ⟨(some 29), (.bin .add (.s 27) (.s 28)), none, [5, 6]⟩,
    ⟨(some 30), (.ixs (.s 25) (.s 29)), none, [3, 7]⟩,
    ⟨(some 31), (.call (.c (.fn 63 [])) [(.c (.str [48, 49, 50, 51, 52, 53, 54, 55, 56, 57, 65, 66, 67, 68, 69, 70])), (.s 30)]), none, [8, 0]⟩,
    ⟨(some 32), (.cvi .u64 (.s 31)), none, [9]⟩,
    ⟨(some 4), (.mv (.s 32)), none, [10, 9, 0, 1, 2, 3, 4, 5, 6, 7, 8, 9, 10]⟩] false)
  .ret))))), false, (some [(Sh.int .i64), (Sh.int .u64)]), (some (Sh.int .u64))⟩

/-- euphroe/euphroeref08.Box -/
def k246 : Fun := ⟨2, 10, [0, 1, 4], [(.tmp 4)],
  (.seq (.region [
    ⟨(some 4), (.mv (.c (.int .u64 0))), none, []⟩] false)
  (.seq (.region [
    ⟨(some 5), (.mv (.s 0)), none, []⟩,
    ⟨(some 6), (.mv (.s 1)), none, []⟩,
    ⟨(some 7), (.call (.c (.fn 56 [])) [(.s 6), (.c (.int .i64 6))]), none, [1]⟩,
    ⟨(some 8), (.call (.c (.fn 259 [])) [(.s 5), (.s 7)]), none, [0, 2, 2]⟩,
    ⟨(some 9), (.cvi .u64 (.s 8)), none, [3]⟩,
    ⟨(some 4), (.mv (.s 9)), none, [4, 3, 0, 1, 2, 3, 4]⟩] false)
  .ret)), false, (some [(Sh.int .i64), (Sh.int .u64)]), (some (Sh.int .u64))⟩

/-- euphroe/des.Keys -/
def k247 : Fun := ⟨1, 43, [0, 2, 3, 4, 5, 7, 16, 17], [(.cell 2 16 true (some .u64))],
  (.seq (.region [
    ⟨(some 2), (.new (.ints .u64 [0, 0, 0, 0, 0, 0, 0, 0, 0, 0, 0, 0, 0, 0, 0, 0])), none, []⟩] false)
  (.seq (.region [
    ⟨(some 3), (.new (.ints .u64 [0, 0, 0, 0, 0, 0, 0, 0, 0, 0, 0, 0, 0, 0, 0, 0])), none, []⟩] false)
  (.seq (.region [
    ⟨(some 9), (.mv (.s 0)), none, []⟩,
    ⟨(some 10), (.call (.c (.fn 261 [])) []), none, []⟩,
    ⟨(some 11), (.call (.c (.fn 260 [])) [(.s 9), (.c (.int .i64 64)), (.s 10)]), none, [0, 1, 1]⟩,
    ⟨(some 12), (.call (.c (.fn 31 [])) [(.s 11), (.c (.int .i64 56)), (.c (.int .i64 28))]), none, [2, 2]⟩,
    ⟨(some 8), (.mv (.s 12)), none, [3]⟩,
    ⟨(some 13), (.ext (.s 8) 0), none, [4]⟩,
    ⟨(some 14), (.ext (.s 8) 1), none, [4]⟩,
    ⟨(some 15), (.ext (.s 8) 2), none, [4]⟩,
    ⟨(some 4), (.mv (.s 13)), none, [5, 3, 0, 1, 2, 3, 4, 5]⟩,
    ⟨(some 5), (.mv (.s 14)), none, [6, 8, 0, 1, 2, 3, 4, 5, 6, 8]⟩,
    ⟨(some 6), (.mv (.s 15)), none, [7, 9, 0, 1, 2, 3, 4, 5, 6, 7, 8, 9]⟩] false)
  (.seq (.seq (.region [
    ⟨(some 16), (.mv (.c (.int .i64 0))), none, []⟩] false)
  (.block 0
   (.loop ⟨0, [], false, [2, 3, 4, 5, 16], []⟩
    (.seq (.region [
      ⟨(some 17), (.bin .lss (.s 16) (.c (.int .i64 16))), none, []⟩] false)
    (.seq (.cond (.s 17)
     .skip
     (.pre ⟨0, [], false, [2, 3], []⟩ (.exit 0)))
    (.seq (.block 1
     (.seq (.region [
       ⟨(some 18), (.mv (.s 16)), none, []⟩,
       ⟨(some 7), (.mv (.s 18)), none, [0, 0]⟩] false)
     (.seq (.region [
       ⟨(some 20), (.mv (.s 4)), none, []⟩,
       ⟨(some 21), (.mv (.s 7)), none, []⟩,
       ⟨(some 22), (.call (.c (.fn 262 [])) [(.s 21)]), none, [1]⟩,
       ⟨(some 23), (.call (.c (.fn 29 [])) [(.s 20), (.c (.int .i64 28)), (.s 22)]), none, [0, 2, 2]⟩,
       ⟨(some 19), (.mv (.s 23)), none, [3]⟩,
       ⟨(some 24), (.ext (.s 19) 0), none, [4]⟩,
       ⟨(some 25), (.ext (.s 19) 1), none, [4]⟩,
       ⟨(some 4), (.mv (.s 24)), none, [5, 3, 0, 1, 2, 3, 4, 5]⟩] false)
     (.seq (.region [
       ⟨(some 27), (.mv (.s 5)), none, []⟩,
       ⟨(some 28), (.mv (.s 7)), none, []⟩,
       ⟨(some 29), (.call (.c (.fn 262 [])) [(.s 28)]), none, [1]⟩,
       ⟨(some 30), (.call (.c (.fn 29 [])) [(.s 27), (.c (.int .i64 28)), (.s 29)]), none, [0, 2, 2]⟩,
       ⟨(some 26), (.mv (.s 30)), none, [3]⟩,
       ⟨(some 31), (.ext (.s 26) 0), none, [4]⟩,
       ⟨(some 32), (.ext (.s 26) 1), none, [4]⟩,
       ⟨(some 5), (.mv (.s 31)), none, [5, 3, 0, 1, 2, 3, 4, 5]⟩] false)
     (.region [
       ⟨(some 33), (.mv (.s 7)), none, []⟩,
       ⟨(some 34), (.mv (.s 4)), none, []⟩,
       ⟨(some 35), (.bin .shl (.s 34) (.c (.int .u64 28))), none, [1]⟩,
       ⟨(some 36), (.mv (.s 5)), none, []⟩,
       ⟨(some 37), (.bin .or (.s 35) (.s 36)), none, [2, 3]⟩,
       ⟨(some 38), (.call (.c (.fn 263 [])) []), none, []⟩,
       ⟨(some 39), (.call (.c (.fn 260 [])) [(.s 37), (.c (.int .i64 56)), (.s 38)]), none, [4, 5, 5]⟩,
       ⟨(some 40), (.iaa 16 1 (.s 3) (.s 33)), none, [0, 0, 1, 2, 3, 4, 5, 6]⟩,
       ⟨none, (.stc 1 (.s 40) (.s 39)), none, [7, 6, 6, 0, 1, 2, 3, 4, 5, 6]⟩] false)))))
    (.region [
      ⟨(some 41), (.bin .add (.s 16) (.c (.int .i64 1))), none, []⟩,
      ⟨(some 16), (.mv (.s 41)), none, [0]⟩] false)))))))
  (.seq (.region [
    ⟨(some 42), (.lda 16 (some .u64) (.s 3)), none, []⟩,
    ⟨none, (.stc 16 (.s 2) (.s 42)), none, [0, 0]⟩] false)
  .ret))))), false, (some [(Sh.int .u64)]), (some (Sh.ar .u64))⟩

/-- euphroe/euphroeref08.Keys -/
def k248 : Fun := ⟨1, 20, [0, 2, 3, 4, 5, 9], [(.cell 2 16 true (some .u64))],
  (.seq (.region [
    ⟨(some 2), (.new (.ints .u64 [0, 0, 0, 0, 0, 0, 0, 0, 0, 0, 0, 0, 0, 0, 0, 0])), none, []⟩] false)
  (.seq (.region [
    ⟨(some 3), (.new (.ints .u64 [0, 0, 0, 0, 0, 0, 0, 0, 0, 0, 0, 0, 0, 0, 0, 0])), none, []⟩] false)
  (.seq (.region [
    ⟨(some 6), (.mv (.s 0)), none, []⟩,
    ⟨(some 7), (.call (.c (.fn 264 [])) [(.s 6)]), none, [0]⟩,
    ⟨(some 4), (.mv (.s 7)), none, [1, 1, 0, 1]⟩] false)
  (.seq (.seq (.region [
    ⟨(some 5), (.mv (.c (.int .i64 0))), none, []⟩] false)
  (.block 0
   (.loop ⟨0, [], false, [2, 3, 4, 5], []⟩
    (.seq (.seq (.region [
      ⟨(some 8), (.mv (.s 5)), none, []⟩,
      ⟨(some 9), (.bin .lss (.s 8) (.c (.int .i64 16))), none, [0]⟩] false)
    (.cond (.s 9)
     .skip
     (.pre ⟨0, [], false, [2, 3], []⟩ (.exit 0))))
    (.seq (.block 1
     (.region [
       ⟨(some 12), (.mv (.s 5)), none, []⟩,
       ⟨(some 13), (.mv (.s 4)), none, []⟩,
       ⟨(some 14), (.mv (.s 5)), none, []⟩,
       ⟨(some 15), (.iad 1 (.s 13) (.s 14)), none, [1, 2]⟩,
       ⟨(some 16), (.ldc (.s 15)), none, [3]⟩,
       ⟨(some 17), (.call (.c (.fn 57 [])) [(.s 16)]), none, [4]⟩,
       ⟨(some 18), (.iaa 16 1 (.s 3) (.s 12)), none, [0, 0, 1, 2, 3, 4, 5]⟩,
       ⟨none, (.stc 1 (.s 18) (.s 17)), none, [6, 5, 5, 0, 1, 2, 3, 4, 5]⟩] false))
    (.region [
      ⟨(some 10), (.mv (.s 5)), none, []⟩,
      ⟨(some 11), (.bin .add (.s 10) (.c (.int .i64 1))), none, [0]⟩,
      ⟨(some 5), (.mv (.s 11)), none, [1, 0, 1]⟩] false))))))
  (.seq (.region [
    ⟨(some 19), (.lda 16 (some .u64) (.s 3)), none, []⟩,
    ⟨none, (.stc 16 (.s 2) (.s 19)), none, [0, 0]⟩] false)
  .ret))))), false, (some [(Sh.int .u64)]), (some (Sh.ar .u64))⟩

/-- euphroe/des.Word -/
def k249 : Fun := ⟨2, 33, [0, 1, 4, 5, 6, 7, 14, 15], [(.tmp 4)],
  (.seq (.region [
    ⟨(some 4), (.mv (.c (.int .u32 0))), none, []⟩] false)
  (.seq (.region [
    ⟨(some 8), (.mv (.s 0)), none, []⟩,
    ⟨(some 9), (.cvi .u64 (.s 8)), none, [0]⟩,
    ⟨(some 10), (.call (.c (.fn 265 [])) []), none, []⟩,
    ⟨(some 11), (.call (.c (.fn 260 [])) [(.s 9), (.c (.int .i64 32)), (.s 10)]), none, [1, 2, 2]⟩,
    ⟨(some 12), (.mv (.s 1)), none, []⟩,
    ⟨(some 13), (.bin .xor (.s 11) (.s 12)), none, [3, 4]⟩,
    ⟨(some 5), (.mv (.s 13)), none, [5, 3, 0, 1, 2, 3, 4, 5]⟩] false)
  (.seq (.region [
    ⟨(some 6), (.mv (.c (.int .u64 0))), none, []⟩] false)
  (.seq (.seq (.region [
    ⟨(some 14), (.mv (.c (.int .i64 0))), none, []⟩] false)
  (.block 0
   (.loop ⟨0, [], false, [5, 6, 14], []⟩
    (.seq (.region [
      ⟨(some 15), (.bin .lss (.s 14) (.c (.int .i64 8))), none, []⟩] false)
    (.seq (.cond (.s 15)
     .skip
     (.pre ⟨0, [], false, [6], []⟩ (.exit 0)))
    (.seq (.block 1
     (.seq (.region [
       ⟨(some 16), (.mv (.s 14)), none, []⟩,
       ⟨(some 7), (.mv (.s 16)), none, [0, 0]⟩] false)
     (.region [
       ⟨(some 17), (.mv (.s 6)), none, []⟩,
       ⟨(some 18), (.bin .shl (.s 17) (.c (.int .u64 4))), none, [0]⟩,
       ⟨(some 19), (.mv (.s 7)), none, []⟩,
       ⟨(some 20), (.bin .add (.s 19) (.c (.int .i64 1))), none, [2]⟩,
       ⟨(some 21), (.mv (.s 5)), none, []⟩,
       ⟨(some 22), (.mv (.s 7)), none, []⟩,
       ⟨(some 23), (.bin .sub (.c (.int .i64 7)) (.s 22)), none, [5]⟩,
       ⟨(some 24), (.bin .mul (.c (.int .i64 6)) (.s 23)), none, [6]⟩,
       ⟨(some 25), (.bin .shr (.s 21) (.s 24)), none, [4, 7]⟩,
       ⟨(some 26), (.call (.c (.fn 245 [])) [(.s 20), (.s 25)]), none, [3, 8]⟩,
       ⟨(some 27), (.bin .or (.s 18) (.s 26)), none, [1, 9]⟩,
       ⟨(some 6), (.mv (.s 27)), none, [10, 9, 0, 1, 2, 3, 4, 5, 6, 7, 8, 9, 10]⟩] false)))
    (.region [
      ⟨(some 28), (.bin .add (.s 14) (.c (.int .i64 1))), none, []⟩,
      ⟨(some 14), (.mv (.s 28)), none, [0]⟩] false)))))))
  (.seq (.region [
    ⟨(some 29), (.mv (.s 6)), none, []⟩,
    ⟨(some 30), (.call (.c (.fn 266 [])) []), none, []⟩,
    ⟨(some 31), (.call (.c (.fn 260 [])) [(.s 29), (.c (.int .i64 32)), (.s 30)]), none, [0, 1, 1]⟩,
    ⟨(some 32), (.cvi .u32 (.s 31)), none, [2]⟩,
    ⟨(some 4), (.mv (.s 32)), none, [3, 2, 0, 1, 2, 3]⟩] false)
  .ret))))), false, (some [(Sh.int .u32), (Sh.int .u64)]), (some (Sh.int .u32))⟩

/-- euphroe/euphroeref08.Word -/
def k250 : Fun := ⟨2, 13, [0, 1, 4], [(.tmp 4)],
  (.seq (.region [
    ⟨(some 4), (.mv (.c (.int .u32 0))), none, []⟩] false)
  (.seq (.region [
    ⟨(some 5), (.mv (.s 0)), none, []⟩,
    ⟨(some 6), (.cvi .u64 (.s 5)), none, [0]⟩,
    ⟨(some 7), (.call (.c (.fn 56 [])) [(.s 6), (.c (.int .i64 32))]), none, [1]⟩,
    ⟨(some 8), (.mv (.s 1)), none, []⟩,
    ⟨(some 9), (.call (.c (.fn 56 [])) [(.s 8), (.c (.int .i64 48))]), none, [3, 2]⟩,
    ⟨(some 10), (.call (.c (.fn 267 [])) [(.s 7), (.s 9)]), none, [2, 4, 4]⟩,
    ⟨(some 11), (.call (.c (.fn 57 [])) [(.s 10)]), none, [5, 5]⟩,
    ⟨(some 12), (.cvi .u32 (.s 11)), none, [6]⟩,
    ⟨(some 4), (.mv (.s 12)), none, [7, 6, 0, 1, 2, 3, 4, 5, 6, 7]⟩] false)
  .ret)), false, (some [(Sh.int .u32), (Sh.int .u64)]), (some (Sh.int .u32))⟩

/-- euphroe/euphroelaw08.alive -/
def k251 : Fun := ⟨0, 24, [0, 1, 2], [(.tmp 0)],
  (.seq (.region [
    ⟨(some 0), (.mv (.c (.bool false))), none, []⟩] false)
  (.seq (.region [
    ⟨(some 4), (.mks (.ints .u8 [0]) 1 1 (.c (.int .i64 7)) (.c (.int .i64 7))), none, []⟩,
    ⟨(some 5), (.mks (.ints .u8 [0]) 1 1 (.c (.int .i64 8)) (.c (.int .i64 8))), none, []⟩,
    ⟨(some 6), (.call (.c (.fn 252 [])) [(.s 4), (.s 5)]), none, [0, 1]⟩,
    ⟨(some 3), (.mv (.s 6)), none, [2]⟩,
    ⟨(some 7), (.ext (.s 3) 0), none, [3]⟩,
    ⟨(some 8), (.ext (.s 3) 1), none, [3]⟩,
    ⟨(some 1), (.mv (.s 7)), none, [4, 2, 0, 1, 2, 3, 4]⟩,
    ⟨(some 2), (.mv (.s 8)), none, [5, 6, 0, 1, 2, 3, 4, 5, 6]⟩] true)
  (.seq (.region [
    ⟨(some 9), (.call (.c (.fn 254 [])) [(.c (.int .u64 1383827165325090801)), (.c (.int .u64 81985529216486895))]), none, []⟩,
    ⟨(some 10), (.bin .eql (.s 9) (.c (.int .u64 9648983453391827973))), none, [0]⟩,
    ⟨(some 11), (.mv (.s 10)), none, [1, 0]⟩,
    ⟨(some 12), (.mv (.s 1)), (some (11, true)), [2]⟩,
    ⟨(some 13), (.len false (.s 12)), (some (11, true)), [3, 2]⟩,
    ⟨(some 14), (.bin .eql (.s 13) (.c (.int .i64 8))), (some (11, true)), [4, 2]⟩,
    ⟨(some 15), (.pick (.s 11) (.s 14) (.c (.bool false))), none, [2, 5]⟩,
    ⟨(some 16), (.mv (.s 15)), none, [6, 2]⟩,
    ⟨(some 17), (.mv (.s 2)), (some (16, true)), [7]⟩,
    ⟨(some 18), (.bin .eql (.s 17) (.c (.int .i64 0))), (some (16, true)), [8, 7]⟩,
    ⟨(some 19), (.pick (.s 16) (.s 18) (.c (.bool false))), none, [7, 9]⟩,
    ⟨(some 20), (.mv (.s 19)), none, [10, 7]⟩,
    ⟨(some 21), (.call (.c (.fn 245 [])) [(.c (.int .i64 1)), (.c (.int .u64 0))]), (some (20, true)), [11, 11]⟩,
    ⟨(some 22), (.bin .eql (.s 21) (.c (.int .u64 14))), (some (20, true)), [12, 11]⟩,
    ⟨(some 23), (.pick (.s 20) (.s 22) (.c (.bool false))), none, [11, 13]⟩,
    ⟨(some 0), (.mv (.s 23)), none, [14, 12, 0, 1, 2, 3, 4, 5, 6, 7, 8, 9, 10, 11, 12, 13, 14]⟩] false)
  .ret))), false, (some []), (some Sh.bool)⟩

/-- euphroe/des.Seven -/
def k252 : Fun := ⟨2, 44, [0, 1, 4, 5, 6, 7, 8, 10, 19, 26], [(.tmp 4), (.tmp 5)],
  (.seq (.region [
    ⟨(some 4), (.mv (.c .nils)), none, []⟩,
    ⟨(some 5), (.mv (.c (.int .i64 0))), none, [0]⟩] false)
  (.seq (.seq (.region [
    ⟨(some 12), (.mv (.s 0)), none, []⟩,
    ⟨(some 13), (.len false (.s 12)), none, [0]⟩,
    ⟨(some 14), (.bin .neq (.s 13) (.c (.int .i64 7))), none, [1]⟩,
    ⟨(some 15), (.mv (.s 14)), none, [2]⟩,
    ⟨(some 16), (.mv (.s 1)), (some (15, false)), [3]⟩,
    ⟨(some 17), (.len false (.s 16)), (some (15, false)), [4, 3]⟩,
    ⟨(some 18), (.bin .neq (.s 17) (.c (.int .i64 8))), (some (15, false)), [5, 3]⟩,
    ⟨(some 19), (.pick (.s 15) (.c (.bool true)) (.s 18)), none, [3, 6]⟩] false)
  (.cond (.s 19)
   (.seq (.region [
     ⟨(some 4), (.mv (.c .nils)), none, []⟩,
     ⟨(some 5), (.mv (.c (.int .i64 1))), none, [0, 0]⟩] false)
   .ret)
   .skip))
  (.seq (.region [
    ⟨(some 21), (.mv (.s 0)), none, []⟩,
    ⟨(some 22), (.call (.c (.fn 24 [])) [(.s 21)]), none, [0]⟩,
    ⟨(some 20), (.mv (.s 22)), none, [1]⟩,
    ⟨(some 23), (.ext (.s 20) 0), none, [2]⟩,
    ⟨(some 24), (.ext (.s 20) 1), none, [2]⟩,
    ⟨(some 6), (.mv (.s 23)), none, [3, 1, 0, 1, 2, 3]⟩,
    ⟨(some 7), (.mv (.s 24)), none, [4, 5, 0, 1, 2, 3, 4, 5]⟩] false)
  (.seq (.seq (.region [
    ⟨(some 25), (.mv (.s 7)), none, []⟩,
    ⟨(some 26), (.bin .neq (.s 25) (.c (.int .i64 0))), none, [0]⟩] false)
  (.cond (.s 26)
   (.seq (.region [
     ⟨(some 27), (.mv (.s 7)), none, []⟩,
     ⟨(some 4), (.mv (.c .nils)), none, []⟩,
     ⟨(some 5), (.mv (.s 27)), none, [0, 1, 0, 1]⟩] false)
   .ret)
   .skip))
  (.seq (.region [
    ⟨(some 29), (.mv (.s 6)), none, []⟩,
    ⟨(some 30), (.call (.c (.fn 21 [])) [(.s 29), (.c (.bool false))]), none, [0]⟩,
    ⟨(some 28), (.mv (.s 30)), none, [1]⟩,
    ⟨(some 31), (.ext (.s 28) 0), none, [2]⟩,
    ⟨(some 32), (.ext (.s 28) 1), none, [2]⟩,
    ⟨(some 8), (.mv (.s 31)), none, [3, 1, 0, 1, 2, 3]⟩,
    ⟨(some 9), (.mv (.s 32)), none, [4, 5, 0, 1, 2, 3, 4, 5]⟩] false)
  (.seq (.region [
    ⟨(some 34), (.mv (.s 1)), none, []⟩,
    ⟨(some 35), (.call (.c (.fn 21 [])) [(.s 34), (.c (.bool false))]), none, [0]⟩,
    ⟨(some 33), (.mv (.s 35)), none, [1]⟩,
    ⟨(some 36), (.ext (.s 33) 0), none, [2]⟩,
    ⟨(some 37), (.ext (.s 33) 1), none, [2]⟩,
    ⟨(some 10), (.mv (.s 36)), none, [3, 1, 0, 1, 2, 3]⟩,
    ⟨(some 11), (.mv (.s 37)), none, [4, 5, 0, 1, 2, 3, 4, 5]⟩] false)
  (.seq (.region [
    ⟨(some 38), (.mv (.s 8)), none, []⟩,
    ⟨(some 39), (.mv (.s 10)), none, []⟩,
    ⟨(some 40), (.call (.c (.fn 254 [])) [(.s 38), (.s 39)]), none, [0, 1]⟩,
    ⟨(some 41), (.call (.c (.fn 19 [])) [(.s 40), (.c (.int .i64 8)), (.c (.bool false))]), none, [2, 2]⟩,
    ⟨(some 42), (.ext (.s 41) 0), none, [3]⟩,
    ⟨(some 43), (.ext (.s 41) 1), none, [3]⟩,
    ⟨(some 4), (.mv (.s 42)), none, [4, 3, 0, 1, 2, 3, 4, 5]⟩,
    ⟨(some 5), (.mv (.s 43)), none, [5, 6, 0, 1, 2, 3, 4, 5, 6]⟩] false)
  .ret))))))), false, (some [(Sh.sl (Sh.int .u8)), (Sh.sl (Sh.int .u8))]), (some (Sh.tu (Sh.pr (Sh.sl (Sh.int .u8)) (Sh.int .i64))))⟩

/-- euphroe/euphroeref08.Seven -/
def k253 : Fun := ⟨2, 27, [0, 1, 4, 5, 6, 15], [(.tmp 4), (.tmp 5)],
  (.seq (.region [
    ⟨(some 4), (.mv (.c .nils)), none, []⟩,
    ⟨(some 5), (.mv (.c (.int .i64 0))), none, [0]⟩] false)
  (.seq (.seq (.region [
    ⟨(some 8), (.mv (.s 0)), none, []⟩,
    ⟨(some 9), (.len false (.s 8)), none, [0]⟩,
    ⟨(some 10), (.bin .neq (.s 9) (.c (.int .i64 7))), none, [1]⟩,
    ⟨(some 11), (.mv (.s 10)), none, [2]⟩,
    ⟨(some 12), (.mv (.s 1)), (some (11, false)), [3]⟩,
    ⟨(some 13), (.len false (.s 12)), (some (11, false)), [4, 3]⟩,
    ⟨(some 14), (.bin .neq (.s 13) (.c (.int .i64 8))), (some (11, false)), [5, 3]⟩,
    ⟨(some 15), (.pick (.s 11) (.c (.bool true)) (.s 14)), none, [3, 6]⟩] false)
  (.cond (.s 15)
   (.seq (.region [
     ⟨(some 4), (.mv (.c .nils)), none, []⟩,
     ⟨(some 5), (.mv (.c (.int .i64 1))), none, [0, 0]⟩] false)
   .ret)
   .skip))
  (.seq (.region [
    ⟨(some 17), (.mv (.s 0)), none, []⟩,
    ⟨(some 18), (.call (.c (.fn 36 [])) [(.s 17)]), none, [0]⟩,
    ⟨(some 16), (.mv (.s 18)), none, [1]⟩,
    ⟨(some 19), (.ext (.s 16) 0), none, [2]⟩,
    ⟨(some 20), (.ext (.s 16) 1), none, [2]⟩,
    ⟨(some 6), (.mv (.s 19)), none, [3, 1, 0, 1, 2, 3]⟩,
    ⟨(some 7), (.mv (.s 20)), none, [4, 5, 0, 1, 2, 3, 4, 5]⟩] false)
  (.seq (.region [
    ⟨(some 21), (.mv (.s 6)), none, []⟩,
    ⟨(some 22), (.call (.c (.fn 51 [])) [(.s 21)]), none, [0]⟩,
    ⟨(some 23), (.mv (.s 1)), none, []⟩,
    ⟨(some 24), (.call (.c (.fn 51 [])) [(.s 23)]), none, [2, 1]⟩,
    ⟨(some 25), (.call (.c (.fn 255 [])) [(.s 22), (.s 24)]), none, [1, 3, 3]⟩,
    ⟨(some 26), (.call (.c (.fn 50 [])) [(.s 25), (.c (.int .i64 8))]), none, [4, 4]⟩,
    ⟨(some 4), (.mv (.s 26)), none, [5, 5, 0, 1, 2, 3, 4, 5]⟩,
    ⟨(some 5), (.mv (.c (.int .i64 0))), none, [6, 0, 1, 2, 3, 4, 5, 6]⟩] false)
  .ret)))), false, (some [(Sh.sl (Sh.int .u8)), (Sh.sl (Sh.int .u8))]), (some (Sh.tu (Sh.pr (Sh.sl (Sh.int .u8)) (Sh.int .i64))))⟩

/-- euphroe/des.Turn -/
def k254 : Fun := ⟨2, 11, [0, 1, 4, 5], [(.tmp 4)],
  (.seq (.region [
    ⟨(some 4), (.mv (.c (.int .u64 0))), none, []⟩] false)
  (.seq (.region [
    ⟨(some 6), (.mv (.s 0)), none, []⟩,
    ⟨(some 7), (.call (.c (.fn 247 [])) [(.s 6)]), none, [0]⟩,
    ⟨(some 5), (.new (.ints .u64 [0, 0, 0, 0, 0, 0, 0, 0, 0, 0, 0, 0, 0, 0, 0, 0])), none, []⟩,
    ⟨none, (.stc 16 (.s 5) (.s 7)), none, [2, 1, 1, 0, 1, 2]⟩] false)
  (.seq (.region [
    ⟨(some 8), (.mv (.s 1)), none, []⟩,
    ⟨(some 9), (.sla 16 1 (.s 5) none none none), none, []⟩,
    ⟨(some 10), (.call (.c (.fn 268 [])) [(.s 8), (.s 9)]), none, [0, 1]⟩,
    ⟨(some 4), (.mv (.s 10)), none, [2, 2, 0, 1, 2]⟩] false)
  .ret))), false, (some [(Sh.int .u64), (Sh.int .u64)]), (some (Sh.int .u64))⟩

/-- euphroe/euphroeref08.Turn -/
def k255 : Fun := ⟨2, 9, [0, 1, 4], [(.tmp 4)],
  (.seq (.region [
    ⟨(some 4), (.mv (.c (.int .u64 0))), none, []⟩] false)
  (.seq (.region [
    ⟨(some 5), (.mv (.s 1)), none, []⟩,
    ⟨(some 6), (.mv (.s 0)), none, []⟩,
    ⟨(some 7), (.call (.c (.fn 264 [])) [(.s 6)]), none, [1]⟩,
    ⟨(some 8), (.call (.c (.fn 269 [])) [(.s 5), (.s 7)]), none, [0, 2, 2]⟩,
    ⟨(some 4), (.mv (.s 8)), none, [3, 3, 0, 1, 2, 3]⟩] false)
  .ret)), false, (some [(Sh.int .u64), (Sh.int .u64)]), (some (Sh.int .u64))⟩

/-- euphroe/des.Back -/
def k256 : Fun := ⟨2, 13, [0, 1, 4, 5], [(.tmp 4)],
  (.seq (.region [
    ⟨(some 4), (.mv (.c (.int .u64 0))), none, []⟩] false)
  (.seq (.region [
    ⟨(some 6), (.mv (.s 0)), none, []⟩,
    ⟨(some 7), (.call (.c (.fn 247 [])) [(.s 6)]), none, [0]⟩,
    ⟨(some 5), (.new (.ints .u64 [0, 0, 0, 0, 0, 0, 0, 0, 0, 0, 0, 0, 0, 0, 0, 0])), none, []⟩,
    ⟨none, (.stc 16 (.s 5) (.s 7)), none, [2, 1, 1, 0, 1, 2]⟩] false)
  (.seq (.region [
    ⟨(some 8), (.sla 16 1 (.s 5) none none none), none, []⟩,
    ⟨(some 9), (.call (.c (.fn 270 [])) [(.s 8)]), none, [0]⟩] false)
  (.seq (.region [
    ⟨(some 10), (.mv (.s 1)), none, []⟩,
    ⟨(some 11), (.sla 16 1 (.s 5) none none none), none, []⟩,
    ⟨(some 12), (.call (.c (.fn 268 [])) [(.s 10), (.s 11)]), none, [0, 1]⟩,
    ⟨(some 4), (.mv (.s 12)), none, [2, 2, 0, 1, 2]⟩] false)
  .ret)))), false, (some [(Sh.int .u64), (Sh.int .u64)]), (some (Sh.int .u64))⟩

/-- euphroe/euphroeref08.Back -/
def k257 : Fun := ⟨2, 27, [0, 1, 4, 5, 6, 7, 14], [(.tmp 4)],
  (.seq (.region [
    ⟨(some 4), (.mv (.c (.int .u64 0))), none, []⟩] false)
  (.seq (.region [
    ⟨(some 8), (.mv (.s 0)), none, []⟩,
    ⟨(some 9), (.call (.c (.fn 264 [])) [(.s 8)]), none, [0]⟩,
    ⟨(some 5), (.mv (.s 9)), none, [1, 1, 0, 1]⟩] false)
  (.seq (.region [
    ⟨(some 6), (.mv (.c .nils)), none, []⟩] false)
  (.seq (.seq (.region [
    ⟨(some 10), (.mv (.s 5)), none, []⟩,
    ⟨(some 11), (.len false (.s 10)), none, [0]⟩,
    ⟨(some 12), (.bin .sub (.s 11) (.c (.int .i64 1))), none, [1]⟩,
    ⟨(some 7), (.mv (.s 12)), none, [2, 0, 1, 2]⟩] false)
  (.block 0
   (.loop ⟨0, [], false, [1, 5, 6, 7], [(6, (.imm []), 1)]⟩
    (.seq (.seq (.region [
      ⟨(some 13), (.mv (.s 7)), none, []⟩,
      ⟨(some 14), (.bin .geq (.s 13) (.c (.int .i64 0))), none, [0]⟩] false)
    (.cond (.s 14)
     .skip
     (.pre ⟨0, [], false, [1, 6], []⟩ (.exit 0))))
    (.seq (.block 1
     (.region [
       ⟨(some 17), (.mv (.s 6)), none, []⟩,
       ⟨(some 18), (.mv (.s 5)), none, []⟩,
       ⟨(some 19), (.mv (.s 7)), none, []⟩,
       ⟨(some 20), (.iad 1 (.s 18) (.s 19)), none, [1, 2]⟩,
       ⟨(some 21), (.ldc (.s 20)), none, [3]⟩,
       ⟨(some 22), (.bsl 1 1 (.vals [.nils]) [(0, 1, (.s 21))]), none, [4]⟩,
       ⟨(some 23), (.app 1 24 (.s 17) (.s 22)), none, [0, 5]⟩,
       ⟨(some 6), (.mv (.s 23)), none, [6, 6, 0, 1, 2, 3, 4, 5, 6]⟩] false))
    (.region [
      ⟨(some 15), (.mv (.s 7)), none, []⟩,
      ⟨(some 16), (.bin .sub (.s 15) (.c (.int .i64 1))), none, [0]⟩,
      ⟨(some 7), (.mv (.s 16)), none, [1, 0, 1]⟩] false))))))
  (.seq (.region [
    ⟨(some 24), (.mv (.s 1)), none, []⟩,
    ⟨(some 25), (.mv (.s 6)), none, []⟩,
    ⟨(some 26), (.call (.c (.fn 269 [])) [(.s 24), (.s 25)]), none, [0, 1]⟩,
    ⟨(some 4), (.mv (.s 26)), none, [2, 2, 0, 1, 2]⟩] false)
  .ret))))), false, (some [(Sh.int .u64), (Sh.int .u64)]), (some (Sh.int .u64))⟩

/-- euphroe/des.rows -/
def k258 : Fun := ⟨0, 2, [0], [(.cell 0 8 true none)],
  (.seq (.region [
    ⟨(some 0), (.new (.vals [(.str []), (.str []), (.str []), (.str []), (.str []), (.str []), (.str []), (.str [])])), none, []⟩] false)
  (.seq (.region [
    ⟨(some 1), (.build (.vals [(.str []), (.str []), (.str []), (.str []), (.str []), (.str []), (.str []), (.str [])]) [(0, 1, (.c (.str [69, 52, 68, 49, 50, 70, 66, 56, 51, 65, 54, 67, 53, 57, 48, 55, 48, 70, 55, 52, 69, 50, 68, 49, 65, 54, 67, 66, 57, 53, 51, 56, 52, 49, 69, 56, 68, 54, 50, 66, 70, 67, 57, 55, 51, 65, 53, 48, 70, 67, 56, 50, 52, 57, 49, 55, 53, 66, 51, 69, 65, 48, 54, 68]))), (1, 1, (.c (.str [70, 49, 56, 69, 54, 66, 51, 52, 57, 55, 50, 68, 67, 48, 53, 65, 51, 68, 52, 55, 70, 50, 56, 69, 67, 48, 49, 65, 54, 57, 66, 53, 48, 69, 55, 66, 65, 52, 68, 49, 53, 56, 67, 54, 57, 51, 50, 70, 68, 56, 65, 49, 51, 70, 52, 50, 66, 54, 55, 67, 48, 53, 69, 57]))), (2, 1, (.c (.str [65, 48, 57, 69, 54, 51, 70, 53, 49, 68, 67, 55, 66, 52, 50, 56, 68, 55, 48, 57, 51, 52, 54, 65, 50, 56, 53, 69, 67, 66, 70, 49, 68, 54, 52, 57, 56, 70, 51, 48, 66, 49, 50, 67, 53, 65, 69, 55, 49, 65, 68, 48, 54, 57, 56, 55, 52, 70, 69, 51, 66, 53, 50, 67]))), (3, 1, (.c (.str [55, 68, 69, 51, 48, 54, 57, 65, 49, 50, 56, 53, 66, 67, 52, 70, 68, 56, 66, 53, 54, 70, 48, 51, 52, 55, 50, 67, 49, 65, 69, 57, 65, 54, 57, 48, 67, 66, 55, 68, 70, 49, 51, 69, 53, 50, 56, 52, 51, 70, 48, 54, 65, 49, 68, 56, 57, 52, 53, 66, 67, 55, 50, 69]))), (4, 1, (.c (.str [50, 67, 52, 49, 55, 65, 66, 54, 56, 53, 51, 70, 68, 48, 69, 57, 69, 66, 50, 67, 52, 55, 68, 49, 53, 48, 70, 65, 51, 57, 56, 54, 52, 50, 49, 66, 65, 68, 55, 56, 70, 57, 67, 53, 54, 51, 48, 69, 66, 56, 67, 55, 49, 69, 50, 68, 54, 70, 48, 57, 65, 52, 53, 51]))), (5, 1, (.c (.str [67, 49, 65, 70, 57, 50, 54, 56, 48, 68, 51, 52, 69, 55, 53, 66, 65, 70, 52, 50, 55, 67, 57, 53, 54, 49, 68, 69, 48, 66, 51, 56, 57, 69, 70, 53, 50, 56, 67, 51, 55, 48, 52, 65, 49, 68, 66, 54, 52, 51, 50, 67, 57, 53, 70, 65, 66, 69, 49, 55, 54, 48, 56, 68]))), (6, 1, (.c (.str [52, 66, 50, 69, 70, 48, 56, 68, 51, 67, 57, 55, 53, 65, 54, 49, 68, 48, 66, 55, 52, 57, 49, 65, 69, 51, 53, 67, 50, 70, 56, 54, 49, 52, 66, 68, 67, 51, 55, 69, 65, 70, 54, 56, 48, 53, 57, 50, 54, 66, 68, 56, 49, 52, 65, 55, 57, 53, 48, 70, 69, 50, 51, 67]))), (7, 1, (.c (.str [68, 50, 56, 52, 54, 70, 66, 49, 65, 57, 51, 69, 53, 48, 67, 55, 49, 70, 68, 56, 65, 51, 55, 52, 67, 53, 54, 66, 48, 69, 57, 50, 55, 66, 52, 49, 57, 67, 69, 50, 48, 54, 65, 68, 70, 51, 53, 56, 50, 49, 69, 55, 52, 65, 56, 68, 70, 67, 57, 48, 51, 53, 54, 66])))]), none, []⟩,
    ⟨none, (.stc 8 (.s 0) (.s 1)), none, [0, 0]⟩] false)
  .ret)), false, (some []), (some (Sh.st (Sh.pr Sh.str (Sh.pr Sh.str (Sh.pr Sh.str (Sh.pr Sh.str (Sh.pr Sh.str (Sh.pr Sh.str (Sh.pr Sh.str Sh.str)))))))))⟩

/-- euphroe/euphroeref08.digit -/
def k259 : Fun := ⟨2, 29, [0, 1, 4, 5, 6], [(.tmp 4)],
  (.seq (.region [
    ⟨(some 4), (.mv (.c (.int .i64 0))), none, []⟩] false)
  (.seq (.region [
    ⟨(some 7), (.mv (.s 1)), none, []⟩,
    ⟨(some 8), (.iad 1 (.s 7) (.c (.int .i64 0))), none, [0]⟩,
    ⟨(some 9), (.ldc (.s 8)), none, [1]⟩,
    ⟨(some 10), (.cvi .i64 (.s 9)), none, [2]⟩,
    ⟨(some 11), (.bin .mul (.c (.int .i64 2)) (.s 10)), none, [3]⟩,
    ⟨(some 12), (.mv (.s 1)), none, []⟩,
    ⟨(some 13), (.iad 1 (.s 12) (.c (.int .i64 5))), none, [5]⟩,
    ⟨(some 14), (.ldc (.s 13)), none, [6]⟩,
    ⟨(some 15), (.cvi .i64 (.s 14)), none, [7]⟩,
    ⟨(some 16), (.bin .add (.s 11) (.s 15)), none, [4, 8]⟩,
    ⟨(some 17), (.mv (.s 1)), none, []⟩,
    ⟨(some 18), (.sls 1 (.s 17) (some (.c (.int .i64 1))) (some (.c (.int .i64 5))) none), none, [10]⟩,
    ⟨(some 19), (.call (.c (.fn 57 [])) [(.s 18)]), none, [11]⟩,
    ⟨(some 20), (.cvi .i64 (.s 19)), none, [12]⟩,
    ⟨(some 5), (.mv (.s 16)), none, [9, 12, 0, 1, 2, 3, 4, 5, 6, 7, 8, 9]⟩,
    ⟨(some 6), (.mv (.s 20)), none, [13, 14, 0, 1, 2, 3, 4, 5, 6, 7, 8, 9, 10, 11, 12, 13, 14]⟩] true)
  (.seq (.region [
    ⟨(some 21), (.mv (.s 0)), none, []⟩,
    ⟨(some 22), (.call (.c (.fn 271 [])) [(.s 21)]), none, [0]⟩,
    ⟨(some 23), (.mv (.s 5)), none, []⟩,
    ⟨(some 24), (.bin .mul (.c (.int .i64 16)) (.s 23)), none, [2]⟩,
    ⟨(some 25), (.mv (.s 6)), none, []⟩,
    ⟨(some 26), (.bin .add (.s 24) (.s 25)), none, [3, 4]⟩,
    ⟨(some 27), (.iad 1 (.s 22) (.s 26)), none, [1, 5]⟩,
    ⟨(some 28), (.ldc (.s 27)), none, [6]⟩,
    ⟨(some 4), (.mv (.s 28)), none, [7, 1, 0, 1, 2, 3, 4, 5, 6, 7]⟩] false)
  .ret))), false, (some [(Sh.int .i64), (Sh.sl (Sh.int .u8))]), (some (Sh.int .i64))⟩

/-- euphroe/des.by -/
def k260 : Fun := ⟨3, 17, [0, 1, 2, 6, 7], [(.tmp 6)],
  (.seq (.region [
    ⟨(some 6), (.mv (.c (.int .u64 0))), none, []⟩] false)
  (.seq (.region [
    ⟨(some 10), (.mv (.s 0)), none, []⟩,
    ⟨(some 11), (.mv (.s 1)), none, []⟩,
    ⟨(some 12), (.mv (.s 2)), none, []⟩,
    ⟨(some 13), (.call (.c (.fn 27 [])) [(.s 10), (.s 11), (.s 12)]), none, [0, 1, 2]⟩,
    ⟨(some 9), (.mv (.s 13)), none, [3]⟩,
    ⟨(some 14), (.ext (.s 9) 0), none, [4]⟩,
    ⟨(some 15), (.ext (.s 9) 1), none, [4]⟩,
    ⟨(some 7), (.mv (.s 14)), none, [5, 3, 0, 1, 2, 3, 4, 5]⟩,
    ⟨(some 8), (.mv (.s 15)), none, [6, 7, 0, 1, 2, 3, 4, 5, 6, 7]⟩] false)
  (.seq (.region [
    ⟨(some 16), (.mv (.s 7)), none, []⟩,
    ⟨(some 6), (.mv (.s 16)), none, [0, 0]⟩] false)
  .ret))), false, (some [(Sh.int .u64), (Sh.int .i64), (Sh.sl (Sh.int .i64))]), (some (Sh.int .u64))⟩

/-- euphroe/des.ofKeys -/
def k261 : Fun := ⟨0, 11, [0], [(.tmp 0)],
  (.seq (.region [
    ⟨(some 0), (.mv (.c .nils)), none, []⟩] false)
  (.seq (.region [
    ⟨(some 1), (.call (.c (.fn 272 [])) [(.c (.int .i64 57)), (.c (.int .i64 1))]), none, []⟩,
    ⟨(some 2), (.call (.c (.fn 272 [])) [(.c (.int .i64 58)), (.c (.int .i64 2))]), none, [0]⟩,
    ⟨(some 3), (.call (.c (.fn 272 [])) [(.c (.int .i64 59)), (.c (.int .i64 3))]), none, [1]⟩,
    ⟨(some 4), (.call (.c (.fn 272 [])) [(.c (.int .i64 60)), (.c (.int .i64 36))]), none, [2]⟩,
    ⟨(some 5), (.call (.c (.fn 272 [])) [(.c (.int .i64 63)), (.c (.int .i64 7))]), none, [3]⟩,
    ⟨(some 6), (.call (.c (.fn 272 [])) [(.c (.int .i64 62)), (.c (.int .i64 6))]), none, [4]⟩,
    ⟨(some 7), (.call (.c (.fn 272 [])) [(.c (.int .i64 61)), (.c (.int .i64 5))]), none, [5]⟩,
    ⟨(some 8), (.call (.c (.fn 272 [])) [(.c (.int .i64 28)), (.c (.int .i64 4))]), none, [6]⟩,
    ⟨(some 9), (.bsl 8 1 (.vals [.nils, .nils, .nils, .nils, .nils, .nils, .nils, .nils]) [(0, 1, (.s 1)), (1, 1, (.s 2)), (2, 1, (.s 3)), (3, 1, (.s 4)), (4, 1, (.s 5)), (5, 1, (.s 6)), (6, 1, (.s 7)), (7, 1, (.s 8))]), none, [0, 1, 2, 3, 4, 5, 6, 7]⟩,
    ⟨(some 10), (.call (.c (.fn 2 [])) [(.s 9)]), none, [8, 7]⟩,
    ⟨(some 0), (.mv (.s 10)), none, [9, 9, 0, 1, 2, 3, 4, 5, 6, 7, 8, 9]⟩] false)
  .ret)), false, (some []), (some (Sh.sl (Sh.int .i64)))⟩

/-- euphroe/des.turns -/
def k262 : Fun := ⟨1, 9, [0, 2, 3, 4], [(.tmp 2)],
  (.seq (.region [
    ⟨(some 2), (.mv (.c (.int .i64 0))), none, []⟩] false)
  (.seq (.seq (.region [
    ⟨(some 3), (.mv (.s 0)), none, []⟩] false)
  (.block 0
   (.seq (.seq (.region [
     ⟨(some 5), (.bin .eql (.s 3) (.c (.int .i64 0))), none, []⟩,
     ⟨(some 4), (.mv (.s 5)), none, [0]⟩] false)
   (.cond (.s 4)
    .skip
    (.seq (.region [
      ⟨(some 6), (.bin .eql (.s 3) (.c (.int .i64 1))), none, []⟩,
      ⟨(some 4), (.mv (.s 6)), none, [0]⟩] false)
    (.cond (.s 4)
     .skip
     (.seq (.region [
       ⟨(some 7), (.bin .eql (.s 3) (.c (.int .i64 8))), none, []⟩,
       ⟨(some 4), (.mv (.s 7)), none, [0]⟩] false)
     (.cond (.s 4)
      .skip
      (.region [
        ⟨(some 8), (.bin .eql (.s 3) (.c (.int .i64 15))), none, []⟩,
        ⟨(some 4), (.mv (.s 8)), none, [0]⟩] false)))))))
   (.cond (.s 4)
    (.seq (.region [
      ⟨(some 2), (.mv (.c (.int .i64 1))), none, []⟩] false)
    .ret)
    .skip))))
  (.seq (.region [
    ⟨(some 2), (.mv (.c (.int .i64 2))), none, []⟩] false)
  .ret))), false, (some [(Sh.int .i64)]), (some (Sh.int .i64))⟩

/-- euphroe/des.ofRounds -/
def k263 : Fun := ⟨0, 2, [0], [(.tmp 0)],
  (.seq (.region [
    ⟨(some 0), (.mv (.c .nils)), none, []⟩] false)
  (.seq (.region [
    ⟨(some 1), (.bsl 48 1 (.ints .i64 [0, 0, 0, 0, 0, 0, 0, 0, 0, 0, 0, 0, 0, 0, 0, 0, 0, 0, 0, 0, 0, 0, 0, 0, 0, 0, 0, 0, 0, 0, 0, 0, 0, 0, 0, 0, 0, 0, 0, 0, 0, 0, 0, 0, 0, 0, 0, 0]) [(0, 1, (.c (.int .i64 14))), (1, 1, (.c (.int .i64 17))), (2, 1, (.c (.int .i64 11))), (3, 1, (.c (.int .i64 24))), (4, 1, (.c (.int .i64 1))), (5, 1, (.c (.int .i64 5))), (6, 1, (.c (.int .i64 3))), (7, 1, (.c (.int .i64 28))), (8, 1, (.c (.int .i64 15))), (9, 1, (.c (.int .i64 6))), (10, 1, (.c (.int .i64 21))), (11, 1, (.c (.int .i64 10))), (12, 1, (.c (.int .i64 23))), (13, 1, (.c (.int .i64 19))), (14, 1, (.c (.int .i64 12))), (15, 1, (.c (.int .i64 4))), (16, 1, (.c (.int .i64 26))), (17, 1, (.c (.int .i64 8))), (18, 1, (.c (.int .i64 16))), (19, 1, (.c (.int .i64 7))), (20, 1, (.c (.int .i64 27))), (21, 1, (.c (.int .i64 20))), (22, 1, (.c (.int .i64 13))), (23, 1, (.c (.int .i64 2))), (24, 1, (.c (.int .i64 41))), (25, 1, (.c (.int .i64 52))), (26, 1, (.c (.int .i64 31))), (27, 1, (.c (.int .i64 37))), (28, 1, (.c (.int .i64 47))), (29, 1, (.c (.int .i64 55))), (30, 1, (.c (.int .i64 30))), (31, 1, (.c (.int .i64 40))), (32, 1, (.c (.int .i64 51))), (33, 1, (.c (.int .i64 45))), (34, 1, (.c (.int .i64 33))), (35, 1, (.c (.int .i64 48))), (36, 1, (.c (.int .i64 44))), (37, 1, (.c (.int .i64 49))), (38, 1, (.c (.int .i64 39))), (39, 1, (.c (.int .i64 56))), (40, 1, (.c (.int .i64 34))), (41, 1, (.c (.int .i64 53))), (42, 1, (.c (.int .i64 46))), (43, 1, (.c (.int .i64 42))), (44, 1, (.c (.int .i64 50))), (45, 1, (.c (.int .i64 36))), (46, 1, (.c (.int .i64 29))), (47, 1, (.c (.int .i64 32)))]), none, []⟩,
    ⟨(some 0), (.mv (.s 1)), none, [0, 0]⟩] false)
  .ret)), false, (some []), (some (Sh.sl (Sh.int .i64)))⟩

/-- euphroe/euphroeref08.keys -/
def k264 : Fun := ⟨1, 61, [0, 2, 3, 4, 5, 6, 7, 8, 18, 34], [(.tmp 2)],
  (.seq (.region [
    ⟨(some 2), (.mv (.c .nils)), none, []⟩] false)
  (.seq (.region [
    ⟨(some 9), (.mv (.s 0)), none, []⟩,
    ⟨(some 10), (.call (.c (.fn 56 [])) [(.s 9), (.c (.int .i64 64))]), none, [0]⟩,
    ⟨(some 11), (.call (.c (.fn 274 [])) []), none, [1]⟩,
    ⟨(some 12), (.call (.c (.fn 273 [])) [(.s 10), (.s 11)]), none, [1, 2, 2]⟩,
    ⟨(some 3), (.mv (.s 12)), none, [3, 3, 0, 1, 2, 3]⟩] false)
  (.seq (.region [
    ⟨(some 13), (.mv (.s 3)), none, []⟩,
    ⟨(some 14), (.sls 1 (.s 13) none (some (.c (.int .i64 28))) none), none, [0]⟩,
    ⟨(some 15), (.mv (.s 3)), none, []⟩,
    ⟨(some 16), (.sls 1 (.s 15) (some (.c (.int .i64 28))) none none), none, [2]⟩,
    ⟨(some 4), (.mv (.s 14)), none, [1, 0, 1]⟩,
    ⟨(some 5), (.mv (.s 16)), none, [3, 4, 0, 1, 2, 3, 4]⟩] true)
  (.seq (.region [
    ⟨(some 6), (.mv (.c .nils)), none, []⟩] false)
  (.seq (.seq (.region [
    ⟨(some 7), (.mv (.c (.int .i64 1))), none, []⟩] false)
  (.block 0
   (.loop ⟨0, [(4, (Sh.sl (Sh.int .u8))), (5, (Sh.sl (Sh.int .u8)))], false, [4, 5, 6, 7], [(6, (.imm []), 1)]⟩
    (.seq (.seq (.region [
      ⟨(some 17), (.mv (.s 7)), none, []⟩,
      ⟨(some 18), (.bin .leq (.s 17) (.c (.int .i64 16))), none, [0]⟩] false)
    (.cond (.s 18)
     .skip
     (.pre ⟨0, [], false, [6], []⟩ (.exit 0))))
    (.seq (.block 1
     (.seq (.region [
       ⟨(some 8), (.mv (.c (.int .i64 2))), none, []⟩] false)
     (.seq (.seq (.region [
       ⟨(some 21), (.mv (.s 7)), none, []⟩,
       ⟨(some 22), (.bin .eql (.s 21) (.c (.int .i64 1))), none, [0]⟩,
       ⟨(some 23), (.mv (.s 22)), none, [1]⟩,
       ⟨(some 24), (.mv (.s 7)), (some (23, false)), [2]⟩,
       ⟨(some 25), (.bin .eql (.s 24) (.c (.int .i64 2))), (some (23, false)), [3, 2]⟩,
       ⟨(some 26), (.pick (.s 23) (.c (.bool true)) (.s 25)), none, [2, 4]⟩,
       ⟨(some 27), (.mv (.s 26)), none, [5, 2]⟩,
       ⟨(some 28), (.mv (.s 7)), (some (27, false)), [6]⟩,
       ⟨(some 29), (.bin .eql (.s 28) (.c (.int .i64 9))), (some (27, false)), [7, 6]⟩,
       ⟨(some 30), (.pick (.s 27) (.c (.bool true)) (.s 29)), none, [6, 8]⟩,
       ⟨(some 31), (.mv (.s 30)), none, [9, 6]⟩,
       ⟨(some 32), (.mv (.s 7)), (some (31, false)), [10]⟩,
       ⟨(some 33), (.bin .eql (.s 32) (.c (.int .i64 16))), (some (31, false)), [11, 10]⟩,
       ⟨(some 34), (.pick (.s 31) (.c (.bool true)) (.s 33)), none, [10, 12]⟩] false)
     (.cond (.s 34)
      (.region [
        ⟨(some 8), (.mv (.c (.int .i64 1))), none, []⟩] false)
      .skip))
     (.seq (.region [
       ⟨(some 35), (.mv (.s 4)), none, []⟩,
       ⟨(some 36), (.mv (.s 8)), none, []⟩,
       ⟨(some 37), (.sls 1 (.s 35) (some (.s 36)) none none), none, [0, 1]⟩,
       ⟨(some 38), (.app 1 1 (.c .nils) (.s 37)), none, [2]⟩,
       ⟨(some 39), (.mv (.s 4)), none, []⟩,
       ⟨(some 40), (.mv (.s 8)), none, []⟩,
       ⟨(some 41), (.sls 1 (.s 39) none (some (.s 40)) none), none, [4, 5]⟩,
       ⟨(some 42), (.app 1 1 (.s 38) (.s 41)), none, [3, 6, 3]⟩,
       ⟨(some 4), (.mv (.s 42)), none, [7, 7, 0, 1, 2, 3, 4, 5, 6, 7]⟩] true)
     (.seq (.region [
       ⟨(some 43), (.mv (.s 5)), none, []⟩,
       ⟨(some 44), (.mv (.s 8)), none, []⟩,
       ⟨(some 45), (.sls 1 (.s 43) (some (.s 44)) none none), none, [0, 1]⟩,
       ⟨(some 46), (.app 1 1 (.c .nils) (.s 45)), none, [2]⟩,
       ⟨(some 47), (.mv (.s 5)), none, []⟩,
       ⟨(some 48), (.mv (.s 8)), none, []⟩,
       ⟨(some 49), (.sls 1 (.s 47) none (some (.s 48)) none), none, [4, 5]⟩,
       ⟨(some 50), (.app 1 1 (.s 46) (.s 49)), none, [3, 6, 3]⟩,
       ⟨(some 5), (.mv (.s 50)), none, [7, 7, 0, 1, 2, 3, 4, 5, 6, 7]⟩] true)
     (.region [
       ⟨(some 51), (.mv (.s 6)), none, []⟩,
       ⟨(some 52), (.mv (.s 4)), none, []⟩,
       ⟨(some 53), (.app 1 1 (.c .nils) (.s 52)), none, [1]⟩,
       ⟨(some 54), (.mv (.s 5)), none, []⟩,
       ⟨(some 55), (.app 1 1 (.s 53) (.s 54)), none, [2, 3, 2]⟩,
       ⟨(some 56), (.call (.c (.fn 275 [])) []), none, [4]⟩,
       ⟨(some 57), (.call (.c (.fn 273 [])) [(.s 55), (.s 56)]), none, [4, 5, 5]⟩,
       ⟨(some 58), (.bsl 1 1 (.vals [.nils]) [(0, 1, (.s 57))]), none, [6]⟩,
       ⟨(some 59), (.app 1 24 (.s 51) (.s 58)), none, [0, 7, 6]⟩,
       ⟨(some 6), (.mv (.s 59)), none, [8, 8, 0, 1, 2, 3, 4, 5, 6, 7, 8]⟩] false))))))
    (.region [
      ⟨(some 19), (.mv (.s 7)), none, []⟩,
      ⟨(some 20), (.bin .add (.s 19) (.c (.int .i64 1))), none, [0]⟩,
      ⟨(some 7), (.mv (.s 20)), none, [1, 0, 1]⟩] false))))))
  (.seq (.region [
    ⟨(some 60), (.mv (.s 6)), none, []⟩,
    ⟨(some 2), (.mv (.s 60)), none, [0, 0]⟩] false)
  .ret)))))), false, (some [(Sh.int .u64)]), (some (Sh.sl (Sh.sl (Sh.int .u8))))⟩

/-- euphroe/des.wide -/
def k265 : Fun := ⟨0, 24, [0, 1, 2, 3, 4, 5, 7, 8], [(.tmp 0)],
  (.seq (.region [
    ⟨(some 0), (.mv (.c .nils)), none, []⟩] false)
  (.seq (.region [
    ⟨(some 1), (.mv (.c .nils)), none, []⟩] false)
  (.seq (.seq (.region [
    ⟨(some 4), (.mv (.c (.int .i64 0))), none, []⟩] false)
  (.block 0
   (.loop ⟨0, [], false, [1, 4], [(1, (.ints .i64 []), 1)]⟩
    (.seq (.region [
      ⟨(some 5), (.bin .lss (.s 4) (.c (.int .i64 8))), none, []⟩] false)
    (.seq (.cond (.s 5)
     .skip
     (.pre ⟨0, [], false, [1], []⟩ (.exit 0)))
    (.seq (.block 1
     (.seq (.region [
       ⟨(some 6), (.mv (.s 4)), none, []⟩,
       ⟨(some 2), (.mv (.s 6)), none, [0, 0]⟩] false)
     (.seq (.region [
       ⟨(some 7), (.mv (.c (.int .i64 0))), none, []⟩] false)
     (.block 2
      (.loop ⟨1, [], false, [1, 2, 4, 7], [(1, (.ints .i64 []), 1)]⟩
       (.seq (.region [
         ⟨(some 8), (.bin .lss (.s 7) (.c (.int .i64 6))), none, []⟩] false)
       (.seq (.cond (.s 8)
        .skip
        (.pre ⟨0, [], false, [1, 4], []⟩ (.exit 2)))
       (.seq (.block 3
        (.seq (.region [
          ⟨(some 9), (.mv (.s 7)), none, []⟩,
          ⟨(some 3), (.mv (.s 9)), none, [0, 0]⟩] false)
        (.region [
          ⟨(some 10), (.mv (.s 1)), none, []⟩,
          ⟨(some 11), (.mv (.s 2)), none, []⟩,
          ⟨(some 12), (.bin .mul (.c (.int .i64 4)) (.s 11)), none, [1]⟩,
          ⟨(some 13), (.mv (.s 3)), none, []⟩,
          ⟨(some 14), (.bin .add (.s 12) (.s 13)), none, [2, 3]⟩,
          ⟨(some 15), (.bin .add (.s 14) (.c (.int .i64 32))), none, [4]⟩,
          ⟨(some 16), (.bin .sub (.s 15) (.c (.int .i64 1))), none, [5]⟩,
          ⟨(some 17), (.bin .rem (.s 16) (.c (.int .i64 32))), none, [6]⟩,
          ⟨(some 18), (.bin .add (.s 17) (.c (.int .i64 1))), none, [7]⟩,
          ⟨(some 19), (.bsl 1 1 (.ints .i64 [0]) [(0, 1, (.s 18))]), none, [8]⟩,
          ⟨(some 20), (.app 1 8 (.s 10) (.s 19)), none, [0, 9]⟩,
          ⟨(some 1), (.mv (.s 20)), none, [10, 10, 0, 1, 2, 3, 4, 5, 6, 7, 8, 9, 10]⟩] false)))
       (.region [
         ⟨(some 21), (.bin .add (.s 7) (.c (.int .i64 1))), none, []⟩,
         ⟨(some 7), (.mv (.s 21)), none, [0]⟩] false)))))))))
    (.region [
      ⟨(some 22), (.bin .add (.s 4) (.c (.int .i64 1))), none, []⟩,
      ⟨(some 4), (.mv (.s 22)), none, [0]⟩] false)))))))
  (.seq (.region [
    ⟨(some 23), (.mv (.s 1)), none, []⟩,
    ⟨(some 0), (.mv (.s 23)), none, [0, 0]⟩] false)
  .ret)))), false, (some []), (some (Sh.sl (Sh.int .i64)))⟩

/-- euphroe/des.mixing -/
def k266 : Fun := ⟨0, 2, [0], [(.tmp 0)],
  (.seq (.region [
    ⟨(some 0), (.mv (.c .nils)), none, []⟩] false)
  (.seq (.region [
    ⟨(some 1), (.bsl 32 1 (.ints .i64 [0, 0, 0, 0, 0, 0, 0, 0, 0, 0, 0, 0, 0, 0, 0, 0, 0, 0, 0, 0, 0, 0, 0, 0, 0, 0, 0, 0, 0, 0, 0, 0]) [(0, 1, (.c (.int .i64 16))), (1, 1, (.c (.int .i64 7))), (2, 1, (.c (.int .i64 20))), (3, 1, (.c (.int .i64 21))), (4, 1, (.c (.int .i64 29))), (5, 1, (.c (.int .i64 12))), (6, 1, (.c (.int .i64 28))), (7, 1, (.c (.int .i64 17))), (8, 1, (.c (.int .i64 1))), (9, 1, (.c (.int .i64 15))), (10, 1, (.c (.int .i64 23))), (11, 1, (.c (.int .i64 26))), (12, 1, (.c (.int .i64 5))), (13, 1, (.c (.int .i64 18))), (14, 1, (.c (.int .i64 31))), (15, 1, (.c (.int .i64 10))), (16, 1, (.c (.int .i64 2))), (17, 1, (.c (.int .i64 8))), (18, 1, (.c (.int .i64 24))), (19, 1, (.c (.int .i64 14))), (20, 1, (.c (.int .i64 32))), (21, 1, (.c (.int .i64 27))), (22, 1, (.c (.int .i64 3))), (23, 1, (.c (.int .i64 9))), (24, 1, (.c (.int .i64 19))), (25, 1, (.c (.int .i64 13))), (26, 1, (.c (.int .i64 30))), (27, 1, (.c (.int .i64 6))), (28, 1, (.c (.int .i64 22))), (29, 1, (.c (.int .i64 11))), (30, 1, (.c (.int .i64 4))), (31, 1, (.c (.int .i64 25)))]), none, []⟩,
    ⟨(some 0), (.mv (.s 1)), none, [0, 0]⟩] false)
  .ret)), false, (some []), (some (Sh.sl (Sh.int .i64)))⟩

/-- euphroe/euphroeref08.word -/
def k267 : Fun := ⟨2, 34, [0, 1, 4, 5, 6, 7, 14], [(.tmp 4)],
  (.seq (.region [
    ⟨(some 4), (.mv (.c .nils)), none, []⟩] false)
  (.seq (.region [
    ⟨(some 8), (.mv (.s 0)), none, []⟩,
    ⟨(some 9), (.call (.c (.fn 277 [])) []), none, []⟩,
    ⟨(some 10), (.call (.c (.fn 273 [])) [(.s 8), (.s 9)]), none, [0, 1, 1]⟩,
    ⟨(some 11), (.mv (.s 1)), none, []⟩,
    ⟨(some 12), (.call (.c (.fn 276 [])) [(.s 10), (.s 11)]), none, [2, 3, 2]⟩,
    ⟨(some 5), (.mv (.s 12)), none, [4, 4, 0, 1, 2, 3, 4]⟩] false)
  (.seq (.region [
    ⟨(some 6), (.mv (.c .nils)), none, []⟩] false)
  (.seq (.seq (.region [
    ⟨(some 7), (.mv (.c (.int .i64 0))), none, []⟩] false)
  (.block 0
   (.loop ⟨0, [], false, [5, 6, 7], [(6, (.ints .u8 []), 1)]⟩
    (.seq (.seq (.region [
      ⟨(some 13), (.mv (.s 7)), none, []⟩,
      ⟨(some 14), (.bin .lss (.s 13) (.c (.int .i64 8))), none, [0]⟩] false)
    (.cond (.s 14)
     .skip
     (.pre ⟨0, [], false, [6], []⟩ (.exit 0))))
    (.seq (.block 1
     (.region [
       ⟨(some 17), (.mv (.s 6)), none, []⟩,
       ⟨(some 18), (.mv (.s 7)), none, []⟩,
       ⟨(some 19), (.bin .add (.s 18) (.c (.int .i64 1))), none, [1]⟩,
       ⟨(some 20), (.mv (.s 5)), none, []⟩,
       ⟨(some 21), (.mv (.s 7)), none, []⟩,
       ⟨(some 22), (.bin .mul (.c (.int .i64 6)) (.s 21)), none, [4]⟩,
       ⟨(some 23), (.mv (.s 7)), none, []⟩,
       ⟨(some 24), (.bin .mul (.c (.int .i64 6)) (.s 23)), none, [6]⟩,
       ⟨(some 25), (.bin .add (.s 24) (.c (.int .i64 6))), none, [7]⟩,
       ⟨(some 26), (.sls 1 (.s 20) (some (.s 22)) (some (.s 25)) none), none, [3, 5, 8]⟩,
       ⟨(some 27), (.call (.c (.fn 259 [])) [(.s 19), (.s 26)]), none, [2, 9]⟩,
       ⟨(some 28), (.cvi .u64 (.s 27)), none, [10]⟩,
       ⟨(some 29), (.call (.c (.fn 56 [])) [(.s 28), (.c (.int .i64 4))]), none, [11, 10]⟩,
       ⟨(some 30), (.app 1 1 (.s 17) (.s 29)), none, [0, 12, 12]⟩,
       ⟨(some 6), (.mv (.s 30)), none, [13, 13, 0, 1, 2, 3, 4, 5, 6, 7, 8, 9, 10, 11, 12, 13]⟩] false))
    (.region [
      ⟨(some 15), (.mv (.s 7)), none, []⟩,
      ⟨(some 16), (.bin .add (.s 15) (.c (.int .i64 1))), none, [0]⟩,
      ⟨(some 7), (.mv (.s 16)), none, [1, 0, 1]⟩] false))))))
  (.seq (.region [
    ⟨(some 31), (.mv (.s 6)), none, []⟩,
    ⟨(some 32), (.call (.c (.fn 278 [])) []), none, []⟩,
    ⟨(some 33), (.call (.c (.fn 273 [])) [(.s 31), (.s 32)]), none, [0, 1, 1]⟩,
    ⟨(some 4), (.mv (.s 33)), none, [2, 2, 0, 1, 2]⟩] false)
  .ret))))), false, (some [(Sh.sl (Sh.int .u8)), (Sh.sl (Sh.int .u8))]), (some (Sh.sl (Sh.int .u8)))⟩

/-- euphroe/des.turn -/
def k268 : Fun := ⟨2, 39, [0, 1, 4, 5, 6, 7, 9, 18, 19, 20, 21], [(.tmp 4)],
  (.seq (.region [
    ⟨(some 4), (.mv (.c (.int .u64 0))), none, []⟩] false)
  (.seq (.region [
    ⟨(some 10), (.mv (.s 0)), none, []⟩,
    ⟨(some 11), (.call (.c (.fn 279 [])) []), none, []⟩,
    ⟨(some 12), (.call (.c (.fn 260 [])) [(.s 10), (.c (.int .i64 64)), (.s 11)]), none, [0, 1, 1]⟩,
    ⟨(some 5), (.mv (.s 12)), none, [2, 2, 0, 1, 2]⟩] false)
  (.seq (.region [
    ⟨(some 13), (.mv (.s 5)), none, []⟩,
    ⟨(some 14), (.bin .shr (.s 13) (.c (.int .u64 32))), none, [0]⟩,
    ⟨(some 15), (.cvi .u32 (.s 14)), none, [1]⟩,
    ⟨(some 16), (.mv (.s 5)), none, []⟩,
    ⟨(some 17), (.cvi .u32 (.s 16)), none, [3]⟩,
    ⟨(some 6), (.mv (.s 15)), none, [2, 0, 1, 2]⟩,
    ⟨(some 7), (.mv (.s 17)), none, [4, 5, 0, 1, 2, 3, 4, 5]⟩] false)
  (.seq (.seq (.region [
    ⟨(some 18), (.mv (.s 1)), none, []⟩,
    ⟨(some 19), (.len false (.s 18)), none, [0]⟩,
    ⟨(some 20), (.mv (.c (.int .i64 0))), none, []⟩] false)
  (.block 0
   (.loop ⟨0, [], false, [6, 7, 18, 19, 20], []⟩
    (.seq (.region [
      ⟨(some 21), (.bin .lss (.s 20) (.s 19)), none, []⟩] false)
    (.seq (.cond (.s 21)
     .skip
     (.pre ⟨0, [], false, [6, 7], []⟩ (.exit 0)))
    (.seq (.block 1
     (.seq (.region [
       ⟨(some 22), (.iad 1 (.s 18) (.s 20)), none, []⟩,
       ⟨(some 23), (.ldc (.s 22)), none, [0]⟩,
       ⟨(some 9), (.mv (.s 23)), none, [1, 0, 1]⟩] false)
     (.region [
       ⟨(some 24), (.mv (.s 7)), none, []⟩,
       ⟨(some 25), (.mv (.s 6)), none, []⟩,
       ⟨(some 26), (.mv (.s 7)), none, []⟩,
       ⟨(some 27), (.mv (.s 9)), none, []⟩,
       ⟨(some 28), (.call (.c (.fn 249 [])) [(.s 26), (.s 27)]), none, [2, 3]⟩,
       ⟨(some 29), (.bin .xor (.s 25) (.s 28)), none, [1, 4]⟩,
       ⟨(some 6), (.mv (.s 24)), none, [0, 4, 0, 1]⟩,
       ⟨(some 7), (.mv (.s 29)), none, [5, 6, 0, 1, 2, 3, 4, 5, 6]⟩] false)))
    (.region [
      ⟨(some 30), (.bin .add (.s 20) (.c (.int .i64 1))), none, []⟩,
      ⟨(some 20), (.mv (.s 30)), none, [0]⟩] false)))))))
  (.seq (.region [
    ⟨(some 31), (.mv (.s 7)), none, []⟩,
    ⟨(some 32), (.cvi .u64 (.s 31)), none, [0]⟩,
    ⟨(some 33), (.bin .shl (.s 32) (.c (.int .u64 32))), none, [1]⟩,
    ⟨(some 34), (.mv (.s 6)), none, []⟩,
    ⟨(some 35), (.cvi .u64 (.s 34)), none, [3]⟩,
    ⟨(some 36), (.bin .or (.s 33) (.s 35)), none, [2, 4]⟩,
    ⟨(some 37), (.call (.c (.fn 280 [])) []), none, []⟩,
    ⟨(some 38), (.call (.c (.fn 260 [])) [(.s 36), (.c (.int .i64 64)), (.s 37)]), none, [5, 6, 6]⟩,
    ⟨(some 4), (.mv (.s 38)), none, [7, 7, 0, 1, 2, 3, 4, 5, 6, 7]⟩] false)
  .ret))))), false, (some [(Sh.int .u64), (Sh.sl (Sh.int .u64))]), (some (Sh.int .u64))⟩

/-- euphroe/euphroeref08.turn -/
def k269 : Fun := ⟨2, 39, [0, 1, 4, 5, 6, 7, 8, 20], [(.tmp 4)],
  (.seq (.region [
    ⟨(some 4), (.mv (.c (.int .u64 0))), none, []⟩] false)
  (.seq (.region [
    ⟨(some 9), (.mv (.s 0)), none, []⟩,
    ⟨(some 10), (.call (.c (.fn 56 [])) [(.s 9), (.c (.int .i64 64))]), none, [0]⟩,
    ⟨(some 11), (.call (.c (.fn 281 [])) []), none, [1]⟩,
    ⟨(some 12), (.call (.c (.fn 273 [])) [(.s 10), (.s 11)]), none, [1, 2, 2]⟩,
    ⟨(some 5), (.mv (.s 12)), none, [3, 3, 0, 1, 2, 3]⟩] false)
  (.seq (.region [
    ⟨(some 13), (.mv (.s 5)), none, []⟩,
    ⟨(some 14), (.sls 1 (.s 13) none (some (.c (.int .i64 32))) none), none, [0]⟩,
    ⟨(some 15), (.mv (.s 5)), none, []⟩,
    ⟨(some 16), (.sls 1 (.s 15) (some (.c (.int .i64 32))) none none), none, [2]⟩,
    ⟨(some 6), (.mv (.s 14)), none, [1, 0, 1]⟩,
    ⟨(some 7), (.mv (.s 16)), none, [3, 4, 0, 1, 2, 3, 4]⟩] true)
  (.seq (.seq (.region [
    ⟨(some 8), (.mv (.c (.int .i64 0))), none, []⟩] false)
  (.block 0
   (.loop ⟨0, [], false, [1, 6, 7, 8], []⟩
    (.seq (.seq (.region [
      ⟨(some 17), (.mv (.s 8)), none, []⟩,
      ⟨(some 18), (.mv (.s 1)), none, []⟩,
      ⟨(some 19), (.len false (.s 18)), none, [1]⟩,
      ⟨(some 20), (.bin .lss (.s 17) (.s 19)), none, [0, 2]⟩] false)
    (.cond (.s 20)
     .skip
     (.pre ⟨0, [], false, [6, 7], []⟩ (.exit 0))))
    (.seq (.block 1
     (.region [
       ⟨(some 23), (.mv (.s 7)), none, []⟩,
       ⟨(some 24), (.mv (.s 6)), none, []⟩,
       ⟨(some 25), (.mv (.s 7)), none, []⟩,
       ⟨(some 26), (.mv (.s 1)), none, []⟩,
       ⟨(some 27), (.mv (.s 8)), none, []⟩,
       ⟨(some 28), (.iad 1 (.s 26) (.s 27)), none, [3, 4]⟩,
       ⟨(some 29), (.ldc (.s 28)), none, [5]⟩,
       ⟨(some 30), (.call (.c (.fn 267 [])) [(.s 25), (.s 29)]), none, [2, 6]⟩,
       ⟨(some 31), (.call (.c (.fn 276 [])) [(.s 24), (.s 30)]), none, [1, 7, 7]⟩,
       ⟨(some 6), (.mv (.s 23)), none, [0, 8, 0, 1]⟩,
       ⟨(some 7), (.mv (.s 31)), none, [8, 9, 0, 1, 2, 3, 4, 5, 6, 7, 8, 9]⟩] false))
    (.region [
      ⟨(some 21), (.mv (.s 8)), none, []⟩,
      ⟨(some 22), (.bin .add (.s 21) (.c (.int .i64 1))), none, [0]⟩,
      ⟨(some 8), (.mv (.s 22)), none, [1, 0, 1]⟩] false))))))
  (.seq (.region [
    ⟨(some 32), (.mv (.s 7)), none, []⟩,
    ⟨(some 33), (.app 1 1 (.c .nils) (.s 32)), none, [0]⟩,
    ⟨(some 34), (.mv (.s 6)), none, []⟩,
    ⟨(some 35), (.app 1 1 (.s 33) (.s 34)), none, [1, 2, 1]⟩,
    ⟨(some 36), (.call (.c (.fn 282 [])) []), none, [3]⟩,
    ⟨(some 37), (.call (.c (.fn 273 [])) [(.s 35), (.s 36)]), none, [3, 4, 4]⟩,
    ⟨(some 38), (.call (.c (.fn 57 [])) [(.s 37)]), none, [5, 5]⟩,
    ⟨(some 4), (.mv (.s 38)), none, [6, 6, 0, 1, 2, 3, 4, 5, 6]⟩] false)
  .ret))))), false, (some [(Sh.int .u64), (Sh.sl (Sh.sl (Sh.int .u8)))]), (some (Sh.int .u64))⟩

/-- slices.Reverse[[]uint64,uint64] -/
def k270 : Fun := ⟨1, 28, [0, 2, 3, 9], [],
  (.seq (.region [
    ⟨(some 4), (.mv (.s 0)), none, []⟩,
    ⟨(some 5), (.len false (.s 4)), none, [0]⟩,
    ⟨(some 6), (.bin .sub (.s 5) (.c (.int .i64 1))), none, [1]⟩,
    ⟨(some 2), (.mv (.c (.int .i64 0))), none, []⟩,
    ⟨(some 3), (.mv (.s 6)), none, [2, 3, 0, 1, 2, 3]⟩] false)
  (.block 0
   (.loop ⟨0, [], false, [0, 2, 3], []⟩
    (.seq (.seq (.region [
      ⟨(some 7), (.mv (.s 2)), none, []⟩,
      ⟨(some 8), (.mv (.s 3)), none, []⟩,
      ⟨(some 9), (.bin .lss (.s 7) (.s 8)), none, [0, 1]⟩] false)
    (.cond (.s 9)
     .skip
     (.pre ⟨0, [], false, [], []⟩ (.exit 0))))
    (.seq (.block 1
     (.region [
       ⟨(some 14), (.mv (.s 0)), none, []⟩,
       ⟨(some 15), (.mv (.s 2)), none, []⟩,
       ⟨(some 16), (.mv (.s 0)), none, []⟩,
       ⟨(some 17), (.mv (.s 3)), none, []⟩,
       ⟨(some 18), (.mv (.s 0)), none, []⟩,
       ⟨(some 19), (.mv (.s 3)), none, []⟩,
       ⟨(some 20), (.iad 1 (.s 18) (.s 19)), none, [4, 5]⟩,
       ⟨(some 21), (.ldc (.s 20)), none, [6]⟩,
       ⟨(some 22), (.mv (.s 0)), none, []⟩,
       ⟨(some 23), (.mv (.s 2)), none, []⟩,
       ⟨(some 24), (.iad 1 (.s 22) (.s 23)), none, [8, 9]⟩,
       ⟨(some 25), (.ldc (.s 24)), none, [10]⟩,
       ⟨(some 26), (.iad 1 (.s 14) (.s 15)), none, [0, 1, 0, 1, 4, 5, 6, 7, 11]⟩,
       ⟨none, (.stc 1 (.s 26) (.s 21)), none, [12, 7, 0, 1, 4, 5, 6, 7, 11]⟩,
       ⟨(some 27), (.iad 1 (.s 16) (.s 17)), none, [2, 3, 0, 1, 2, 3, 4, 5, 6, 7, 8, 9, 10, 11, 12, 13]⟩,
       ⟨none, (.stc 1 (.s 27) (.s 25)), none, [14, 11, 13, 0, 1, 2, 3, 4, 5, 6, 7, 8, 9, 10, 11, 12, 13]⟩] true))
    (.region [
      ⟨(some 10), (.mv (.s 2)), none, []⟩,
      ⟨(some 11), (.bin .add (.s 10) (.c (.int .i64 1))), none, [0]⟩,
      ⟨(some 12), (.mv (.s 3)), none, []⟩,
      ⟨(some 13), (.bin .sub (.s 12) (.c (.int .i64 1))), none, [2]⟩,
      ⟨(some 2), (.mv (.s 11)), none, [1, 0, 1]⟩,
      ⟨(some 3), (.mv (.s 13)), none, [3, 4, 0, 1, 2, 3, 4]⟩] false)))))), true, none, none⟩

/-- euphroe/euphroeref08.box -/
def k271 : Fun := ⟨1, 29, [0, 2, 3, 4, 7, 10, 13, 16, 19, 22, 25], [(.tmp 2)],
  (.seq (.region [
    ⟨(some 2), (.mv (.c .nils)), none, []⟩] false)
  (.seq (.seq (.region [
    ⟨(some 3), (.mv (.s 0)), none, []⟩] false)
  (.block 0
   (.seq (.region [
     ⟨(some 5), (.bin .eql (.s 3) (.c (.int .i64 1))), none, []⟩,
     ⟨(some 4), (.mv (.s 5)), none, [0]⟩] false)
   (.cond (.s 4)
    (.seq (.region [
      ⟨(some 6), (.bsl 64 1 (.ints .i64 [0, 0, 0, 0, 0, 0, 0, 0, 0, 0, 0, 0, 0, 0, 0, 0, 0, 0, 0, 0, 0, 0, 0, 0, 0, 0, 0, 0, 0, 0, 0, 0, 0, 0, 0, 0, 0, 0, 0, 0, 0, 0, 0, 0, 0, 0, 0, 0, 0, 0, 0, 0, 0, 0, 0, 0, 0, 0, 0, 0, 0, 0, 0, 0]) [(0, 1, (.c (.int .i64 14))), (1, 1, (.c (.int .i64 4))), (2, 1, (.c (.int .i64 13))), (3, 1, (.c (.int .i64 1))), (4, 1, (.c (.int .i64 2))), (5, 1, (.c (.int .i64 15))), (6, 1, (.c (.int .i64 11))), (7, 1, (.c (.int .i64 8))), (8, 1, (.c (.int .i64 3))), (9, 1, (.c (.int .i64 10))), (10, 1, (.c (.int .i64 6))), (11, 1, (.c (.int .i64 12))), (12, 1, (.c (.int .i64 5))), (13, 1, (.c (.int .i64 9))), (14, 1, (.c (.int .i64 0))), (15, 1, (.c (.int .i64 7))), (16, 1, (.c (.int .i64 0))), (17, 1, (.c (.int .i64 15))), (18, 1, (.c (.int .i64 7))), (19, 1, (.c (.int .i64 4))), (20, 1, (.c (.int .i64 14))), (21, 1, (.c (.int .i64 2))), (22, 1, (.c (.int .i64 13))), (23, 1, (.c (.int .i64 1))), (24, 1, (.c (.int .i64 10))), (25, 1, (.c (.int .i64 6))), (26, 1, (.c (.int .i64 12))), (27, 1, (.c (.int .i64 11))), (28, 1, (.c (.int .i64 9))), (29, 1, (.c (.int .i64 5))), (30, 1, (.c (.int .i64 3))), (31, 1, (.c (.int .i64 8))), (32, 1, (.c (.int .i64 4))), (33, 1, (.c (.int .i64 1))), (34, 1, (.c (.int .i64 14))), (35, 1, (.c (.int .i64 8))), (36, 1, (.c (.int .i64 13))), (37, 1, (.c (.int .i64 6))), (38, 1, (.c (.int .i64 2))), (39, 1, (.c (.int .i64 11))), (40, 1, (.c (.int .i64 15))), (41, 1, (.c (.int .i64 12))), (42, 1, (.c (.int .i64 9))), (43, 1, (.c (.int .i64 7))), (44, 1, (.c (.int .i64 3))), (45, 1, (.c (.int .i64 10))), (46, 1, (.c (.int .i64 5))), (47, 1, (.c (.int .i64 0))), (48, 1, (.c (.int .i64 15))), (49, 1, (.c (.int .i64 12))), (50, 1, (.c (.int .i64 8))), (51, 1, (.c (.int .i64 2))), (52, 1, (.c (.int .i64 4))), (53, 1, (.c (.int .i64 9))), (54, 1, (.c (.int .i64 1))), (55, 1, (.c (.int .i64 7))), (56, 1, (.c (.int .i64 5))), (57, 1, (.c (.int .i64 11))), (58, 1, (.c (.int .i64 3))), (59, 1, (.c (.int .i64 14))), (60, 1, (.c (.int .i64 10))), (61, 1, (.c (.int .i64 0))), (62, 1, (.c (.int .i64 6))), (63, 1, (.c (.int .i64 13)))]), none, []⟩,
      ⟨(some 2), (.mv (.s 6)), none, [0, 0]⟩] false)
    .ret)
    (.seq (.region [
      ⟨(some 8), (.bin .eql (.s 3) (.c (.int .i64 2))), none, []⟩,
      ⟨(some 7), (.mv (.s 8)), none, [0]⟩] false)
    (.cond (.s 7)
     (.seq (.region [
       ⟨(some 9), (.bsl 64 1 (.ints .i64 [0, 0, 0, 0, 0, 0, 0, 0, 0, 0, 0, 0, 0, 0, 0, 0, 0, 0, 0, 0, 0, 0, 0, 0, 0, 0, 0, 0, 0, 0, 0, 0, 0, 0, 0, 0, 0, 0, 0, 0, 0, 0, 0, 0, 0, 0, 0, 0, 0, 0, 0, 0, 0, 0, 0, 0, 0, 0, 0, 0, 0, 0, 0, 0]) [(0, 1, (.c (.int .i64 15))), (1, 1, (.c (.int .i64 1))), (2, 1, (.c (.int .i64 8))), (3, 1, (.c (.int .i64 14))), (4, 1, (.c (.int .i64 6))), (5, 1, (.c (.int .i64 11))), (6, 1, (.c (.int .i64 3))), (7, 1, (.c (.int .i64 4))), (8, 1, (.c (.int .i64 9))), (9, 1, (.c (.int .i64 7))), (10, 1, (.c (.int .i64 2))), (11, 1, (.c (.int .i64 13))), (12, 1, (.c (.int .i64 12))), (13, 1, (.c (.int .i64 0))), (14, 1, (.c (.int .i64 5))), (15, 1, (.c (.int .i64 10))), (16, 1, (.c (.int .i64 3))), (17, 1, (.c (.int .i64 13))), (18, 1, (.c (.int .i64 4))), (19, 1, (.c (.int .i64 7))), (20, 1, (.c (.int .i64 15))), (21, 1, (.c (.int .i64 2))), (22, 1, (.c (.int .i64 8))), (23, 1, (.c (.int .i64 14))), (24, 1, (.c (.int .i64 12))), (25, 1, (.c (.int .i64 0))), (26, 1, (.c (.int .i64 1))), (27, 1, (.c (.int .i64 10))), (28, 1, (.c (.int .i64 6))), (29, 1, (.c (.int .i64 9))), (30, 1, (.c (.int .i64 11))), (31, 1, (.c (.int .i64 5))), (32, 1, (.c (.int .i64 0))), (33, 1, (.c (.int .i64 14))), (34, 1, (.c (.int .i64 7))), (35, 1, (.c (.int .i64 11))), (36, 1, (.c (.int .i64 10))), (37, 1, (.c (.int .i64 4))), (38, 1, (.c (.int .i64 13))), (39, 1, (.c (.int .i64 1))), (40, 1, (.c (.int .i64 5))), (41, 1, (.c (.int .i64 8))), (42, 1, (.c (.int .i64 12))), (43, 1, (.c (.int .i64 6))), (44, 1, (.c (.int .i64 9))), (45, 1, (.c (.int .i64 3))), (46, 1, (.c (.int .i64 2))), (47, 1, (.c (.int .i64 15))), (48, 1, (.c (.int .i64 13))), (49, 1, (.c (.int .i64 8))), (50, 1, (.c (.int .i64 10))), (51, 1, (.c (.int .i64 1))), (52, 1, (.c (.int .i64 3))), (53, 1, (.c (.int .i64 15))), (54, 1, (.c (.int .i64 4))), (55, 1, (.c (.int .i64 2))), (56, 1, (.c (.int .i64 11))), (57, 1, (.c (.int .i64 6))), (58, 1, (.c (.int .i64 7))), (59, 1, (.c (.int .i64 12))), (60, 1, (.c (.int .i64 0))), (61, 1, (.c (.int .i64 5))), (62, 1, (.c (.int .i64 14))), (63, 1, (.c (.int .i64 9)))]), none, []⟩,
       ⟨(some 2), (.mv (.s 9)), none, [0, 0]⟩] false)
     .ret)
     (.seq (.region [
       ⟨(some 11), (.bin .eql (.s 3) (.c (.int .i64 3))), none, []⟩,
       ⟨(some 10), (.mv (.s 11)), none, [0]⟩] false)
     (.cond (.s 10)
      (.seq (.region [
        ⟨(some 12), (.bsl 64 1 (.ints .i64 [0, 0, 0, 0, 0, 0, 0, 0, 0, 0, 0, 0, 0, 0, 0, 0, 0, 0, 0, 0, 0, 0, 0, 0, 0, 0, 0, 0, 0, 0, 0, 0, 0, 0, 0, 0, 0, 0, 0, 0, 0, 0, 0, 0, 0, 0, 0, 0, 0, 0, 0, 0, 0, 0, 0, 0, 0, 0, 0, 0, 0, 0, 0, 0]) [(0, 1, (.c (.int .i64 10))), (1, 1, (.c (.int .i64 0))), (2, 1, (.c (.int .i64 9))), (3, 1, (.c (.int .i64 14))), (4, 1, (.c (.int .i64 6))), (5, 1, (.c (.int .i64 3))), (6, 1, (.c (.int .i64 15))), (7, 1, (.c (.int .i64 5))), (8, 1, (.c (.int .i64 1))), (9, 1, (.c (.int .i64 13))), (10, 1, (.c (.int .i64 12))), (11, 1, (.c (.int .i64 7))), (12, 1, (.c (.int .i64 11))), (13, 1, (.c (.int .i64 4))), (14, 1, (.c (.int .i64 2))), (15, 1, (.c (.int .i64 8))), (16, 1, (.c (.int .i64 13))), (17, 1, (.c (.int .i64 7))), (18, 1, (.c (.int .i64 0))), (19, 1, (.c (.int .i64 9))), (20, 1, (.c (.int .i64 3))), (21, 1, (.c (.int .i64 4))), (22, 1, (.c (.int .i64 6))), (23, 1, (.c (.int .i64 10))), (24, 1, (.c (.int .i64 2))), (25, 1, (.c (.int .i64 8))), (26, 1, (.c (.int .i64 5))), (27, 1, (.c (.int .i64 14))), (28, 1, (.c (.int .i64 12))), (29, 1, (.c (.int .i64 11))), (30, 1, (.c (.int .i64 15))), (31, 1, (.c (.int .i64 1))), (32, 1, (.c (.int .i64 13))), (33, 1, (.c (.int .i64 6))), (34, 1, (.c (.int .i64 4))), (35, 1, (.c (.int .i64 9))), (36, 1, (.c (.int .i64 8))), (37, 1, (.c (.int .i64 15))), (38, 1, (.c (.int .i64 3))), (39, 1, (.c (.int .i64 0))), (40, 1, (.c (.int .i64 11))), (41, 1, (.c (.int .i64 1))), (42, 1, (.c (.int .i64 2))), (43, 1, (.c (.int .i64 12))), (44, 1, (.c (.int .i64 5))), (45, 1, (.c (.int .i64 10))), (46, 1, (.c (.int .i64 14))), (47, 1, (.c (.int .i64 7))), (48, 1, (.c (.int .i64 1))), (49, 1, (.c (.int .i64 10))), (50, 1, (.c (.int .i64 13))), (51, 1, (.c (.int .i64 0))), (52, 1, (.c (.int .i64 6))), (53, 1, (.c (.int .i64 9))), (54, 1, (.c (.int .i64 8))), (55, 1, (.c (.int .i64 7))), (56, 1, (.c (.int .i64 4))), (57, 1, (.c (.int .i64 15))), (58, 1, (.c (.int .i64 14))), (59, 1, (.c (.int .i64 3))), (60, 1, (.c (.int .i64 11))), (61, 1, (.c (.int .i64 5))), (62, 1, (.c (.int .i64 2))), (63, 1, (.c (.int .i64 12)))]), none, []⟩,
        ⟨(some 2), (.mv (.s 12)), none, [0, 0]⟩] false)
      .ret)
      (.seq (.region [
        ⟨(some 14), (.bin .eql (.s 3) (.c (.int .i64 4))), none, []⟩,
        ⟨(some 13), (.mv (.s 14)), none, [0]⟩] false)
      (.cond (.s 13)
       (.seq (.region [
         ⟨(some 15), (.bsl 64 1 (.ints .i64 [0, 0, 0, 0, 0, 0, 0, 0, 0, 0, 0, 0, 0, 0, 0, 0, 0, 0, 0, 0, 0, 0, 0, 0, 0, 0, 0, 0, 0, 0, 0, 0, 0, 0, 0, 0, 0, 0, 0, 0, 0, 0, 0, 0, 0, 0, 0, 0, 0, 0, 0, 0, 0, 0, 0, 0, 0, 0, 0, 0, 0, 0, 0, 0]) [(0, 1, (.c (.int .i64 7))), (1, 1, (.c (.int .i64 13))), (2, 1, (.c (.int .i64 14))), (3, 1, (.c (.int .i64 3))), (4, 1, (.c (.int .i64 0))), (5, 1, (.c (.int .i64 6))), (6, 1, (.c (.int .i64 9))), (7, 1, (.c (.int .i64 10))), (8, 1, (.c (.int .i64 1))), (9, 1, (.c (.int .i64 2))), (10, 1, (.c (.int .i64 8))), (11, 1, (.c (.int .i64 5))), (12, 1, (.c (.int .i64 11))), (13, 1, (.c (.int .i64 12))), (14, 1, (.c (.int .i64 4))), (15, 1, (.c (.int .i64 15))), (16, 1, (.c (.int .i64 13))), (17, 1, (.c (.int .i64 8))), (18, 1, (.c (.int .i64 11))), (19, 1, (.c (.int .i64 5))), (20, 1, (.c (.int .i64 6))), (21, 1, (.c (.int .i64 15))), (22, 1, (.c (.int .i64 0))), (23, 1, (.c (.int .i64 3))), (24, 1, (.c (.int .i64 4))), (25, 1, (.c (.int .i64 7))), (26, 1, (.c (.int .i64 2))), (27, 1, (.c (.int .i64 12))), (28, 1, (.c (.int .i64 1))), (29, 1, (.c (.int .i64 10))), (30, 1, (.c (.int .i64 14))), (31, 1, (.c (.int .i64 9))), (32, 1, (.c (.int .i64 10))), (33, 1, (.c (.int .i64 6))), (34, 1, (.c (.int .i64 9))), (35, 1, (.c (.int .i64 0))), (36, 1, (.c (.int .i64 12))), (37, 1, (.c (.int .i64 11))), (38, 1, (.c (.int .i64 7))), (39, 1, (.c (.int .i64 13))), (40, 1, (.c (.int .i64 15))), (41, 1, (.c (.int .i64 1))), (42, 1, (.c (.int .i64 3))), (43, 1, (.c (.int .i64 14))), (44, 1, (.c (.int .i64 5))), (45, 1, (.c (.int .i64 2))), (46, 1, (.c (.int .i64 8))), (47, 1, (.c (.int .i64 4))), (48, 1, (.c (.int .i64 3))), (49, 1, (.c (.int .i64 15))), (50, 1, (.c (.int .i64 0))), (51, 1, (.c (.int .i64 6))), (52, 1, (.c (.int .i64 10))), (53, 1, (.c (.int .i64 1))), (54, 1, (.c (.int .i64 13))), (55, 1, (.c (.int .i64 8))), (56, 1, (.c (.int .i64 9))), (57, 1, (.c (.int .i64 4))), (58, 1, (.c (.int .i64 5))), (59, 1, (.c (.int .i64 11))), (60, 1, (.c (.int .i64 12))), (61, 1, (.c (.int .i64 7))), (62, 1, (.c (.int .i64 2))), (63, 1, (.c (.int .i64 14)))]), none, []⟩,
         ⟨(some 2), (.mv (.s 15)), none, [0, 0]⟩] false)
       .ret)
       (.seq (.region [
         ⟨(some 17), (.bin .eql (.s 3) (.c (.int .i64 5))), none, []⟩,
         ⟨(some 16), (.mv (.s 17)), none, [0]⟩] false)
       (.cond (.s 16)
        (.seq (.region [
          ⟨(some 18), (.bsl 64 1 (.ints .i64 [0, 0, 0, 0, 0, 0, 0, 0, 0, 0, 0, 0, 0, 0, 0, 0, 0, 0, 0, 0, 0, 0, 0, 0, 0, 0, 0, 0, 0, 0, 0, 0, 0, 0, 0, 0, 0, 0, 0, 0, 0, 0, 0, 0, 0, 0, 0, 0, 0, 0, 0, 0, 0, 0, 0, 0, 0, 0, 0, 0, 0, 0, 0, 0]) [(0, 1, (.c (.int .i64 2))), (1, 1, (.c (.int .i64 12))), (2, 1, (.c (.int .i64 4))), (3, 1, (.c (.int .i64 1))), (4, 1, (.c (.int .i64 7))), (5, 1, (.c (.int .i64 10))), (6, 1, (.c (.int .i64 11))), (7, 1, (.c (.int .i64 6))), (8, 1, (.c (.int .i64 8))), (9, 1, (.c (.int .i64 5))), (10, 1, (.c (.int .i64 3))), (11, 1, (.c (.int .i64 15))), (12, 1, (.c (.int .i64 13))), (13, 1, (.c (.int .i64 0))), (14, 1, (.c (.int .i64 14))), (15, 1, (.c (.int .i64 9))), (16, 1, (.c (.int .i64 14))), (17, 1, (.c (.int .i64 11))), (18, 1, (.c (.int .i64 2))), (19, 1, (.c (.int .i64 12))), (20, 1, (.c (.int .i64 4))), (21, 1, (.c (.int .i64 7))), (22, 1, (.c (.int .i64 13))), (23, 1, (.c (.int .i64 1))), (24, 1, (.c (.int .i64 5))), (25, 1, (.c (.int .i64 0))), (26, 1, (.c (.int .i64 15))), (27, 1, (.c (.int .i64 10))), (28, 1, (.c (.int .i64 3))), (29, 1, (.c (.int .i64 9))), (30, 1, (.c (.int .i64 8))), (31, 1, (.c (.int .i64 6))), (32, 1, (.c (.int .i64 4))), (33, 1, (.c (.int .i64 2))), (34, 1, (.c (.int .i64 1))), (35, 1, (.c (.int .i64 11))), (36, 1, (.c (.int .i64 10))), (37, 1, (.c (.int .i64 13))), (38, 1, (.c (.int .i64 7))), (39, 1, (.c (.int .i64 8))), (40, 1, (.c (.int .i64 15))), (41, 1, (.c (.int .i64 9))), (42, 1, (.c (.int .i64 12))), (43, 1, (.c (.int .i64 5))), (44, 1, (.c (.int .i64 6))), (45, 1, (.c (.int .i64 3))), (46, 1, (.c (.int .i64 0))), (47, 1, (.c (.int .i64 14))), (48, 1, (.c (.int .i64 11))), (49, 1, (.c (.int .i64 8))), (50, 1, (.c (.int .i64 12))), (51, 1, (.c (.int .i64 7))), (52, 1, (.c (.int .i64 1))), (53, 1, (.c (.int .i64 14))), (54, 1, (.c (.int .i64 2))), (55, 1, (.c (.int .i64 13))), (56, 1, (.c (.int .i64 6))), (57, 1, (.c (.int .i64 15))), (58, 1, (.c (.int .i64 0))), (59, 1, (.c (.int .i64 9))), (60, 1, (.c (.int .i64 10))), (61, 1, (.c (.int .i64 4))), (62, 1, (.c (.int .i64 5))), (63, 1, (.c (.int .i64 3)))]), none, []⟩,
          ⟨(some 2), (.mv (.s 18)), none, [0, 0]⟩] false)
        .ret)
        (.seq (.region [
          ⟨(some 20), (.bin .eql (.s 3) (.c (.int .i64 6))), none, []⟩,
          ⟨(some 19), (.mv (.s 20)), none, [0]⟩] false)
        (.cond (.s 19)
         (.seq (.region [
           ⟨(some 21), (.bsl 64 1 (.ints .i64 [0, 0, 0, 0, 0, 0, 0, 0, 0, 0, 0, 0, 0, 0, 0, 0, 0, 0, 0, 0, 0, 0, 0, 0, 0, 0, 0, 0, 0, 0, 0, 0, 0, 0, 0, 0, 0, 0, 0, 0, 0, 0, 0, 0, 0, 0, 0, 0, 0, 0, 0, 0, 0, 0, 0, 0, 0, 0, 0, 0, 0, 0, 0, 0]) [(0, 1, (.c (.int .i64 12))), (1, 1, (.c (.int .i64 1))), (2, 1, (.c (.int .i64 10))), (3, 1, (.c (.int .i64 15))), (4, 1, (.c (.int .i64 9))), (5, 1, (.c (.int .i64 2))), (6, 1, (.c (.int .i64 6))), (7, 1, (.c (.int .i64 8))), (8, 1, (.c (.int .i64 0))), (9, 1, (.c (.int .i64 13))), (10, 1, (.c (.int .i64 3))), (11, 1, (.c (.int .i64 4))), (12, 1, (.c (.int .i64 14))), (13, 1, (.c (.int .i64 7))), (14, 1, (.c (.int .i64 5))), (15, 1, (.c (.int .i64 11))), (16, 1, (.c (.int .i64 10))), (17, 1, (.c (.int .i64 15))), (18, 1, (.c (.int .i64 4))), (19, 1, (.c (.int .i64 2))), (20, 1, (.c (.int .i64 7))), (21, 1, (.c (.int .i64 12))), (22, 1, (.c (.int .i64 9))), (23, 1, (.c (.int .i64 5))), (24, 1, (.c (.int .i64 6))), (25, 1, (.c (.int .i64 1))), (26, 1, (.c (.int .i64 13))), (27, 1, (.c (.int .i64 14))), (28, 1, (.c (.int .i64 0))), (29, 1, (.c (.int .i64 11))), (30, 1, (.c (.int .i64 3))), (31, 1, (.c (.int .i64 8))), (32, 1, (.c (.int .i64 9))), (33, 1, (.c (.int .i64 14))), (34, 1, (.c (.int .i64 15))), (35, 1, (.c (.int .i64 5))), (36, 1, (.c (.int .i64 2))), (37, 1, (.c (.int .i64 8))), (38, 1, (.c (.int .i64 12))), (39, 1, (.c (.int .i64 3))), (40, 1, (.c (.int .i64 7))), (41, 1, (.c (.int .i64 0))), (42, 1, (.c (.int .i64 4))), (43, 1, (.c (.int .i64 10))), (44, 1, (.c (.int .i64 1))), (45, 1, (.c (.int .i64 13))), (46, 1, (.c (.int .i64 11))), (47, 1, (.c (.int .i64 6))), (48, 1, (.c (.int .i64 4))), (49, 1, (.c (.int .i64 3))), (50, 1, (.c (.int .i64 2))), (51, 1, (.c (.int .i64 12))), (52, 1, (.c (.int .i64 9))), (53, 1, (.c (.int .i64 5))), (54, 1, (.c (.int .i64 15))), (55, 1, (.c (.int .i64 10))), (56, 1, (.c (.int .i64 11))), (57, 1, (.c (.int .i64 14))), (58, 1, (.c (.int .i64 1))), (59, 1, (.c (.int .i64 7))), (60, 1, (.c (.int .i64 6))), (61, 1, (.c (.int .i64 0))), (62, 1, (.c (.int .i64 8))), (63, 1, (.c (.int .i64 13)))]), none, []⟩,
           ⟨(some 2), (.mv (.s 21)), none, [0, 0]⟩] false)
         .ret)
         (.seq (.region [
           ⟨(some 23), (.bin .eql (.s 3) (.c (.int .i64 7))), none, []⟩,
           ⟨(some 22), (.mv (.s 23)), none, [0]⟩] false)
         (.cond (.s 22)
          (.seq (.region [
            ⟨(some 24), (.bsl 64 1 (.ints .i64 [0, 0, 0, 0, 0, 0, 0, 0, 0, 0, 0, 0, 0, 0, 0, 0, 0, 0, 0, 0, 0, 0, 0, 0, 0, 0, 0, 0, 0, 0, 0, 0, 0, 0, 0, 0, 0, 0, 0, 0, 0, 0, 0, 0, 0, 0, 0, 0, 0, 0, 0, 0, 0, 0, 0, 0, 0, 0, 0, 0, 0, 0, 0, 0]) [(0, 1, (.c (.int .i64 4))), (1, 1, (.c (.int .i64 11))), (2, 1, (.c (.int .i64 2))), (3, 1, (.c (.int .i64 14))), (4, 1, (.c (.int .i64 15))), (5, 1, (.c (.int .i64 0))), (6, 1, (.c (.int .i64 8))), (7, 1, (.c (.int .i64 13))), (8, 1, (.c (.int .i64 3))), (9, 1, (.c (.int .i64 12))), (10, 1, (.c (.int .i64 9))), (11, 1, (.c (.int .i64 7))), (12, 1, (.c (.int .i64 5))), (13, 1, (.c (.int .i64 10))), (14, 1, (.c (.int .i64 6))), (15, 1, (.c (.int .i64 1))), (16, 1, (.c (.int .i64 13))), (17, 1, (.c (.int .i64 0))), (18, 1, (.c (.int .i64 11))), (19, 1, (.c (.int .i64 7))), (20, 1, (.c (.int .i64 4))), (21, 1, (.c (.int .i64 9))), (22, 1, (.c (.int .i64 1))), (23, 1, (.c (.int .i64 10))), (24, 1, (.c (.int .i64 14))), (25, 1, (.c (.int .i64 3))), (26, 1, (.c (.int .i64 5))), (27, 1, (.c (.int .i64 12))), (28, 1, (.c (.int .i64 2))), (29, 1, (.c (.int .i64 15))), (30, 1, (.c (.int .i64 8))), (31, 1, (.c (.int .i64 6))), (32, 1, (.c (.int .i64 1))), (33, 1, (.c (.int .i64 4))), (34, 1, (.c (.int .i64 11))), (35, 1, (.c (.int .i64 13))), (36, 1, (.c (.int .i64 12))), (37, 1, (.c (.int .i64 3))), (38, 1, (.c (.int .i64 7))), (39, 1, (.c (.int .i64 14))), (40, 1, (.c (.int .i64 10))), (41, 1, (.c (.int .i64 15))), (42, 1, (.c (.int .i64 6))), (43, 1, (.c (.int .i64 8))), (44, 1, (.c (.int .i64 0))), (45, 1, (.c (.int .i64 5))), (46, 1, (.c (.int .i64 9))), (47, 1, (.c (.int .i64 2))), (48, 1, (.c (.int .i64 6))), (49, 1, (.c (.int .i64 11))), (50, 1, (.c (.int .i64 13))), (51, 1, (.c (.int .i64 8))), (52, 1, (.c (.int .i64 1))), (53, 1, (.c (.int .i64 4))), (54, 1, (.c (.int .i64 10))), (55, 1, (.c (.int .i64 7))), (56, 1, (.c (.int .i64 9))), (57, 1, (.c (.int .i64 5))), (58, 1, (.c (.int .i64 0))), (59, 1, (.c (.int .i64 15))), (60, 1, (.c (.int .i64 14))), (61, 1, (.c (.int .i64 2))), (62, 1, (.c (.int .i64 3))), (63, 1, (.c (.int .i64 12)))]), none, []⟩,
            ⟨(some 2), (.mv (.s 24)), none, [0, 0]⟩] false)
          .ret)
          (.seq (.region [
            ⟨(some 26), (.bin .eql (.s 3) (.c (.int .i64 8))), none, []⟩,
            ⟨(some 25), (.mv (.s 26)), none, [0]⟩] false)
          (.cond (.s 25)
           (.seq (.region [
             ⟨(some 27), (.bsl 64 1 (.ints .i64 [0, 0, 0, 0, 0, 0, 0, 0, 0, 0, 0, 0, 0, 0, 0, 0, 0, 0, 0, 0, 0, 0, 0, 0, 0, 0, 0, 0, 0, 0, 0, 0, 0, 0, 0, 0, 0, 0, 0, 0, 0, 0, 0, 0, 0, 0, 0, 0, 0, 0, 0, 0, 0, 0, 0, 0, 0, 0, 0, 0, 0, 0, 0, 0]) [(0, 1, (.c (.int .i64 13))), (1, 1, (.c (.int .i64 2))), (2, 1, (.c (.int .i64 8))), (3, 1, (.c (.int .i64 4))), (4, 1, (.c (.int .i64 6))), (5, 1, (.c (.int .i64 15))), (6, 1, (.c (.int .i64 11))), (7, 1, (.c (.int .i64 1))), (8, 1, (.c (.int .i64 10))), (9, 1, (.c (.int .i64 9))), (10, 1, (.c (.int .i64 3))), (11, 1, (.c (.int .i64 14))), (12, 1, (.c (.int .i64 5))), (13, 1, (.c (.int .i64 0))), (14, 1, (.c (.int .i64 12))), (15, 1, (.c (.int .i64 7))), (16, 1, (.c (.int .i64 1))), (17, 1, (.c (.int .i64 15))), (18, 1, (.c (.int .i64 13))), (19, 1, (.c (.int .i64 8))), (20, 1, (.c (.int .i64 10))), (21, 1, (.c (.int .i64 3))), (22, 1, (.c (.int .i64 7))), (23, 1, (.c (.int .i64 4))), (24, 1, (.c (.int .i64 12))), (25, 1, (.c (.int .i64 5))), (26, 1, (.c (.int .i64 6))), (27, 1, (.c (.int .i64 11))), (28, 1, (.c (.int .i64 0))), (29, 1, (.c (.int .i64 14))), (30, 1, (.c (.int .i64 9))), (31, 1, (.c (.int .i64 2))), (32, 1, (.c (.int .i64 7))), (33, 1, (.c (.int .i64 11))), (34, 1, (.c (.int .i64 4))), (35, 1, (.c (.int .i64 1))), (36, 1, (.c (.int .i64 9))), (37, 1, (.c (.int .i64 12))), (38, 1, (.c (.int .i64 14))), (39, 1, (.c (.int .i64 2))), (40, 1, (.c (.int .i64 0))), (41, 1, (.c (.int .i64 6))), (42, 1, (.c (.int .i64 10))), (43, 1, (.c (.int .i64 13))), (44, 1, (.c (.int .i64 15))), (45, 1, (.c (.int .i64 3))), (46, 1, (.c (.int .i64 5))), (47, 1, (.c (.int .i64 8))), (48, 1, (.c (.int .i64 2))), (49, 1, (.c (.int .i64 1))), (50, 1, (.c (.int .i64 14))), (51, 1, (.c (.int .i64 7))), (52, 1, (.c (.int .i64 4))), (53, 1, (.c (.int .i64 10))), (54, 1, (.c (.int .i64 8))), (55, 1, (.c (.int .i64 13))), (56, 1, (.c (.int .i64 15))), (57, 1, (.c (.int .i64 12))), (58, 1, (.c (.int .i64 9))), (59, 1, (.c (.int .i64 0))), (60, 1, (.c (.int .i64 3))), (61, 1, (.c (.int .i64 5))), (62, 1, (.c (.int .i64 6))), (63, 1, (.c (.int .i64 11)))]), none, []⟩,
             ⟨(some 2), (.mv (.s 27)), none, [0, 0]⟩] false)
           .ret)
           .skip))))))))))))))))))
  (.seq (.region [
    ⟨(some 28), (.mks (.ints .i64 [0]) 1 8 (.c (.int .i64 64)) (.c (.int .i64 64))), none, []⟩,
    ⟨(some 2), (.mv (.s 28)), none, [0, 0]⟩] false)
  .ret))), false, (some [(Sh.int .i64)]), (some (Sh.sl (Sh.int .i64)))⟩

/-- euphroe/des.down -/
def k272 : Fun := ⟨2, 18, [0, 1, 4, 5, 6, 10], [(.tmp 4)],
  (.seq (.region [
    ⟨(some 4), (.mv (.c .nils)), none, []⟩] false)
  (.seq (.region [
    ⟨(some 5), (.mv (.c .nils)), none, []⟩] false)
  (.seq (.seq (.region [
    ⟨(some 7), (.mv (.s 0)), none, []⟩,
    ⟨(some 6), (.mv (.s 7)), none, [0, 0]⟩] false)
  (.block 0
   (.loop ⟨0, [], false, [1, 5, 6], [(5, (.ints .i64 []), 1)]⟩
    (.seq (.seq (.region [
      ⟨(some 8), (.mv (.s 6)), none, []⟩,
      ⟨(some 9), (.mv (.s 1)), none, []⟩,
      ⟨(some 10), (.bin .geq (.s 8) (.s 9)), none, [0, 1]⟩] false)
    (.cond (.s 10)
     .skip
     (.pre ⟨0, [], false, [5], []⟩ (.exit 0))))
    (.seq (.block 1
     (.region [
       ⟨(some 13), (.mv (.s 5)), none, []⟩,
       ⟨(some 14), (.mv (.s 6)), none, []⟩,
       ⟨(some 15), (.bsl 1 1 (.ints .i64 [0]) [(0, 1, (.s 14))]), none, [1]⟩,
       ⟨(some 16), (.app 1 8 (.s 13) (.s 15)), none, [0, 2]⟩,
       ⟨(some 5), (.mv (.s 16)), none, [3, 3, 0, 1, 2, 3]⟩] false))
    (.region [
      ⟨(some 11), (.mv (.s 6)), none, []⟩,
      ⟨(some 12), (.bin .sub (.s 11) (.c (.int .i64 8))), none, [0]⟩,
      ⟨(some 6), (.mv (.s 12)), none, [1, 0, 1]⟩] false))))))
  (.seq (.region [
    ⟨(some 17), (.mv (.s 5)), none, []⟩,
    ⟨(some 4), (.mv (.s 17)), none, [0, 0]⟩] false)
  .ret)))), false, (some [(Sh.int .i64), (Sh.int .i64)]), (some (Sh.sl (Sh.int .i64)))⟩

/-- euphroe/euphroeref08.by -/
def k273 : Fun := ⟨2, 25, [0, 1, 4, 5, 6, 10], [(.tmp 4)],
  (.seq (.region [
    ⟨(some 4), (.mv (.c .nils)), none, []⟩] false)
  (.seq (.region [
    ⟨(some 5), (.mv (.c .nils)), none, []⟩] false)
  (.seq (.seq (.region [
    ⟨(some 6), (.mv (.c (.int .i64 0))), none, []⟩] false)
  (.block 0
   (.loop ⟨0, [], false, [0, 1, 5, 6], [(5, (.ints .u8 []), 1)]⟩
    (.seq (.seq (.region [
      ⟨(some 7), (.mv (.s 6)), none, []⟩,
      ⟨(some 8), (.mv (.s 1)), none, []⟩,
      ⟨(some 9), (.len false (.s 8)), none, [1]⟩,
      ⟨(some 10), (.bin .lss (.s 7) (.s 9)), none, [0, 2]⟩] false)
    (.cond (.s 10)
     .skip
     (.pre ⟨0, [], false, [5], []⟩ (.exit 0))))
    (.seq (.block 1
     (.region [
       ⟨(some 13), (.mv (.s 5)), none, []⟩,
       ⟨(some 14), (.mv (.s 0)), none, []⟩,
       ⟨(some 15), (.mv (.s 1)), none, []⟩,
       ⟨(some 16), (.mv (.s 6)), none, []⟩,
       ⟨(some 17), (.iad 1 (.s 15) (.s 16)), none, [2, 3]⟩,
       ⟨(some 18), (.ldc (.s 17)), none, [4]⟩,
       ⟨(some 19), (.bin .sub (.s 18) (.c (.int .i64 1))), none, [5]⟩,
       ⟨(some 20), (.iad 1 (.s 14) (.s 19)), none, [1, 6]⟩,
       ⟨(some 21), (.ldc (.s 20)), none, [7]⟩,
       ⟨(some 22), (.bsl 1 1 (.ints .u8 [0]) [(0, 1, (.s 21))]), none, [8]⟩,
       ⟨(some 23), (.app 1 1 (.s 13) (.s 22)), none, [0, 9]⟩,
       ⟨(some 5), (.mv (.s 23)), none, [10, 10, 0, 1, 2, 3, 4, 5, 6, 7, 8, 9, 10]⟩] false))
    (.region [
      ⟨(some 11), (.mv (.s 6)), none, []⟩,
      ⟨(some 12), (.bin .add (.s 11) (.c (.int .i64 1))), none, [0]⟩,
      ⟨(some 6), (.mv (.s 12)), none, [1, 0, 1]⟩] false))))))
  (.seq (.region [
    ⟨(some 24), (.mv (.s 5)), none, []⟩,
    ⟨(some 4), (.mv (.s 24)), none, [0, 0]⟩] false)
  .ret)))), false, (some [(Sh.sl (Sh.int .u8)), (Sh.sl (Sh.int .i64))]), (some (Sh.sl (Sh.int .u8)))⟩

/-- euphroe/euphroeref08.ofKeys -/
def k274 : Fun := ⟨0, 2, [0], [(.tmp 0)],
  (.seq (.region [
    ⟨(some 0), (.mv (.c .nils)), none, []⟩] false)
  (.seq (.region [
    ⟨(some 1), (.bsl 56 1 (.ints .i64 [0, 0, 0, 0, 0, 0, 0, 0, 0, 0, 0, 0, 0, 0, 0, 0, 0, 0, 0, 0, 0, 0, 0, 0, 0, 0, 0, 0, 0, 0, 0, 0, 0, 0, 0, 0, 0, 0, 0, 0, 0, 0, 0, 0, 0, 0, 0, 0, 0, 0, 0, 0, 0, 0, 0, 0]) [(0, 1, (.c (.int .i64 57))), (1, 1, (.c (.int .i64 49))), (2, 1, (.c (.int .i64 41))), (3, 1, (.c (.int .i64 33))), (4, 1, (.c (.int .i64 25))), (5, 1, (.c (.int .i64 17))), (6, 1, (.c (.int .i64 9))), (7, 1, (.c (.int .i64 1))), (8, 1, (.c (.int .i64 58))), (9, 1, (.c (.int .i64 50))), (10, 1, (.c (.int .i64 42))), (11, 1, (.c (.int .i64 34))), (12, 1, (.c (.int .i64 26))), (13, 1, (.c (.int .i64 18))), (14, 1, (.c (.int .i64 10))), (15, 1, (.c (.int .i64 2))), (16, 1, (.c (.int .i64 59))), (17, 1, (.c (.int .i64 51))), (18, 1, (.c (.int .i64 43))), (19, 1, (.c (.int .i64 35))), (20, 1, (.c (.int .i64 27))), (21, 1, (.c (.int .i64 19))), (22, 1, (.c (.int .i64 11))), (23, 1, (.c (.int .i64 3))), (24, 1, (.c (.int .i64 60))), (25, 1, (.c (.int .i64 52))), (26, 1, (.c (.int .i64 44))), (27, 1, (.c (.int .i64 36))), (28, 1, (.c (.int .i64 63))), (29, 1, (.c (.int .i64 55))), (30, 1, (.c (.int .i64 47))), (31, 1, (.c (.int .i64 39))), (32, 1, (.c (.int .i64 31))), (33, 1, (.c (.int .i64 23))), (34, 1, (.c (.int .i64 15))), (35, 1, (.c (.int .i64 7))), (36, 1, (.c (.int .i64 62))), (37, 1, (.c (.int .i64 54))), (38, 1, (.c (.int .i64 46))), (39, 1, (.c (.int .i64 38))), (40, 1, (.c (.int .i64 30))), (41, 1, (.c (.int .i64 22))), (42, 1, (.c (.int .i64 14))), (43, 1, (.c (.int .i64 6))), (44, 1, (.c (.int .i64 61))), (45, 1, (.c (.int .i64 53))), (46, 1, (.c (.int .i64 45))), (47, 1, (.c (.int .i64 37))), (48, 1, (.c (.int .i64 29))), (49, 1, (.c (.int .i64 21))), (50, 1, (.c (.int .i64 13))), (51, 1, (.c (.int .i64 5))), (52, 1, (.c (.int .i64 28))), (53, 1, (.c (.int .i64 20))), (54, 1, (.c (.int .i64 12))), (55, 1, (.c (.int .i64 4)))]), none, []⟩,
    ⟨(some 0), (.mv (.s 1)), none, [0, 0]⟩] false)
  .ret)), false, (some []), (some (Sh.sl (Sh.int .i64)))⟩

/-- euphroe/euphroeref08.ofRounds -/
def k275 : Fun := ⟨0, 2, [0], [(.tmp 0)],
  (.seq (.region [
    ⟨(some 0), (.mv (.c .nils)), none, []⟩] false)
  (.seq (.region [
    ⟨(some 1), (.bsl 48 1 (.ints .i64 [0, 0, 0, 0, 0, 0, 0, 0, 0, 0, 0, 0, 0, 0, 0, 0, 0, 0, 0, 0, 0, 0, 0, 0, 0, 0, 0, 0, 0, 0, 0, 0, 0, 0, 0, 0, 0, 0, 0, 0, 0, 0, 0, 0, 0, 0, 0, 0]) [(0, 1, (.c (.int .i64 14))), (1, 1, (.c (.int .i64 17))), (2, 1, (.c (.int .i64 11))), (3, 1, (.c (.int .i64 24))), (4, 1, (.c (.int .i64 1))), (5, 1, (.c (.int .i64 5))), (6, 1, (.c (.int .i64 3))), (7, 1, (.c (.int .i64 28))), (8, 1, (.c (.int .i64 15))), (9, 1, (.c (.int .i64 6))), (10, 1, (.c (.int .i64 21))), (11, 1, (.c (.int .i64 10))), (12, 1, (.c (.int .i64 23))), (13, 1, (.c (.int .i64 19))), (14, 1, (.c (.int .i64 12))), (15, 1, (.c (.int .i64 4))), (16, 1, (.c (.int .i64 26))), (17, 1, (.c (.int .i64 8))), (18, 1, (.c (.int .i64 16))), (19, 1, (.c (.int .i64 7))), (20, 1, (.c (.int .i64 27))), (21, 1, (.c (.int .i64 20))), (22, 1, (.c (.int .i64 13))), (23, 1, (.c (.int .i64 2))), (24, 1, (.c (.int .i64 41))), (25, 1, (.c (.int .i64 52))), (26, 1, (.c (.int .i64 31))), (27, 1, (.c (.int .i64 37))), (28, 1, (.c (.int .i64 47))), (29, 1, (.c (.int .i64 55))), (30, 1, (.c (.int .i64 30))), (31, 1, (.c (.int .i64 40))), (32, 1, (.c (.int .i64 51))), (33, 1, (.c (.int .i64 45))), (34, 1, (.c (.int .i64 33))), (35, 1, (.c (.int .i64 48))), (36, 1, (.c (.int .i64 44))), (37, 1, (.c (.int .i64 49))), (38, 1, (.c (.int .i64 39))), (39, 1, (.c (.int .i64 56))), (40, 1, (.c (.int .i64 34))), (41, 1, (.c (.int .i64 53))), (42, 1, (.c (.int .i64 46))), (43, 1, (.c (.int .i64 42))), (44, 1, (.c (.int .i64 50))), (45, 1, (.c (.int .i64 36))), (46, 1, (.c (.int .i64 29))), (47, 1, (.c (.int .i64 32)))]), none, []⟩,
    ⟨(some 0), (.mv (.s 1)), none, [0, 0]⟩] false)
  .ret)), false, (some []), (some (Sh.sl (Sh.int .i64)))⟩

/-- euphroe/euphroeref08.turned -/
def k276 : Fun := ⟨2, 29, [0, 1, 4, 5, 6, 13], [(.tmp 4)],
  (.seq (.region [
    ⟨(some 4), (.mv (.c .nils)), none, []⟩] false)
  (.seq (.region [
    ⟨(some 7), (.mv (.s 0)), none, []⟩,
    ⟨(some 8), (.len false (.s 7)), none, [0]⟩,
    ⟨(some 9), (.mks (.ints .u8 [0]) 1 1 (.s 8) (.s 8)), none, [1, 1]⟩,
    ⟨(some 5), (.mv (.s 9)), none, [2, 0, 1, 2]⟩] false)
  (.seq (.seq (.region [
    ⟨(some 6), (.mv (.c (.int .i64 0))), none, []⟩] false)
  (.block 0
   (.loop ⟨0, [], false, [0, 1, 5, 6], []⟩
    (.seq (.seq (.region [
      ⟨(some 10), (.mv (.s 6)), none, []⟩,
      ⟨(some 11), (.mv (.s 0)), none, []⟩,
      ⟨(some 12), (.len false (.s 11)), none, [1]⟩,
      ⟨(some 13), (.bin .lss (.s 10) (.s 12)), none, [0, 2]⟩] false)
    (.cond (.s 13)
     .skip
     (.pre ⟨0, [], false, [5], []⟩ (.exit 0))))
    (.seq (.block 1
     (.region [
       ⟨(some 16), (.mv (.s 5)), none, []⟩,
       ⟨(some 17), (.mv (.s 6)), none, []⟩,
       ⟨(some 18), (.mv (.s 0)), none, []⟩,
       ⟨(some 19), (.mv (.s 6)), none, []⟩,
       ⟨(some 20), (.iad 1 (.s 18) (.s 19)), none, [2, 3]⟩,
       ⟨(some 21), (.ldc (.s 20)), none, [4]⟩,
       ⟨(some 22), (.mv (.s 1)), none, []⟩,
       ⟨(some 23), (.mv (.s 6)), none, []⟩,
       ⟨(some 24), (.iad 1 (.s 22) (.s 23)), none, [6, 7]⟩,
       ⟨(some 25), (.ldc (.s 24)), none, [8]⟩,
       ⟨(some 26), (.bin .xor (.s 21) (.s 25)), none, [5, 9]⟩,
       ⟨(some 27), (.iad 1 (.s 16) (.s 17)), none, [0, 1, 0, 1, 2, 3, 4, 5, 6, 7, 8, 9, 10]⟩,
       ⟨none, (.stc 1 (.s 27) (.s 26)), none, [11, 10, 0, 1, 2, 3, 4, 5, 6, 7, 8, 9, 10]⟩] true))
    (.region [
      ⟨(some 14), (.mv (.s 6)), none, []⟩,
      ⟨(some 15), (.bin .add (.s 14) (.c (.int .i64 1))), none, [0]⟩,
      ⟨(some 6), (.mv (.s 15)), none, [1, 0, 1]⟩] false))))))
  (.seq (.region [
    ⟨(some 28), (.mv (.s 5)), none, []⟩,
    ⟨(some 4), (.mv (.s 28)), none, [0, 0]⟩] false)
  .ret)))), false, (some [(Sh.sl (Sh.int .u8)), (Sh.sl (Sh.int .u8))]), (some (Sh.sl (Sh.int .u8)))⟩

/-- euphroe/euphroeref08.wide -/
def k277 : Fun := ⟨0, 2, [0], [(.tmp 0)],
  (.seq (.region [
    ⟨(some 0), (.mv (.c .nils)), none, []⟩] false)
  (.seq (.region [
    ⟨(some 1), (.bsl 48 1 (.ints .i64 [0, 0, 0, 0, 0, 0, 0, 0, 0, 0, 0, 0, 0, 0, 0, 0, 0, 0, 0, 0, 0, 0, 0, 0, 0, 0, 0, 0, 0, 0, 0, 0, 0, 0, 0, 0, 0, 0, 0, 0, 0, 0, 0, 0, 0, 0, 0, 0]) [(0, 1, (.c (.int .i64 32))), (1, 1, (.c (.int .i64 1))), (2, 1, (.c (.int .i64 2))), (3, 1, (.c (.int .i64 3))), (4, 1, (.c (.int .i64 4))), (5, 1, (.c (.int .i64 5))), (6, 1, (.c (.int .i64 4))), (7, 1, (.c (.int .i64 5))), (8, 1, (.c (.int .i64 6))), (9, 1, (.c (.int .i64 7))), (10, 1, (.c (.int .i64 8))), (11, 1, (.c (.int .i64 9))), (12, 1, (.c (.int .i64 8))), (13, 1, (.c (.int .i64 9))), (14, 1, (.c (.int .i64 10))), (15, 1, (.c (.int .i64 11))), (16, 1, (.c (.int .i64 12))), (17, 1, (.c (.int .i64 13))), (18, 1, (.c (.int .i64 12))), (19, 1, (.c (.int .i64 13))), (20, 1, (.c (.int .i64 14))), (21, 1, (.c (.int .i64 15))), (22, 1, (.c (.int .i64 16))), (23, 1, (.c (.int .i64 17))), (24, 1, (.c (.int .i64 16))), (25, 1, (.c (.int .i64 17))), (26, 1, (.c (.int .i64 18))), (27, 1, (.c (.int .i64 19))), (28, 1, (.c (.int .i64 20))), (29, 1, (.c (.int .i64 21))), (30, 1, (.c (.int .i64 20))), (31, 1, (.c (.int .i64 21))), (32, 1, (.c (.int .i64 22))), (33, 1, (.c (.int .i64 23))), (34, 1, (.c (.int .i64 24))), (35, 1, (.c (.int .i64 25))), (36, 1, (.c (.int .i64 24))), (37, 1, (.c (.int .i64 25))), (38, 1, (.c (.int .i64 26))), (39, 1, (.c (.int .i64 27))), (40, 1, (.c (.int .i64 28))), (41, 1, (.c (.int .i64 29))), (42, 1, (.c (.int .i64 28))), (43, 1, (.c (.int .i64 29))), (44, 1, (.c (.int .i64 30))), (45, 1, (.c (.int .i64 31))), (46, 1, (.c (.int .i64 32))), (47, 1, (.c (.int .i64 1)))]), none, []⟩,
    ⟨(some 0), (.mv (.s 1)), none, [0, 0]⟩] false)
  .ret)), false, (some []), (some (Sh.sl (Sh.int .i64)))⟩

/-- euphroe/euphroeref08.mixing -/
def k278 : Fun := ⟨0, 2, [0], [(.tmp 0)],
  (.seq (.region [
    ⟨(some 0), (.mv (.c .nils)), none, []⟩] false)
  (.seq (.region [
    ⟨(some 1), (.bsl 32 1 (.ints .i64 [0, 0, 0, 0, 0, 0, 0, 0, 0, 0, 0, 0, 0, 0, 0, 0, 0, 0, 0, 0, 0, 0, 0, 0, 0, 0, 0, 0, 0, 0, 0, 0]) [(0, 1, (.c (.int .i64 16))), (1, 1, (.c (.int .i64 7))), (2, 1, (.c (.int .i64 20))), (3, 1, (.c (.int .i64 21))), (4, 1, (.c (.int .i64 29))), (5, 1, (.c (.int .i64 12))), (6, 1, (.c (.int .i64 28))), (7, 1, (.c (.int .i64 17))), (8, 1, (.c (.int .i64 1))), (9, 1, (.c (.int .i64 15))), (10, 1, (.c (.int .i64 23))), (11, 1, (.c (.int .i64 26))), (12, 1, (.c (.int .i64 5))), (13, 1, (.c (.int .i64 18))), (14, 1, (.c (.int .i64 31))), (15, 1, (.c (.int .i64 10))), (16, 1, (.c (.int .i64 2))), (17, 1, (.c (.int .i64 8))), (18, 1, (.c (.int .i64 24))), (19, 1, (.c (.int .i64 14))), (20, 1, (.c (.int .i64 32))), (21, 1, (.c (.int .i64 27))), (22, 1, (.c (.int .i64 3))), (23, 1, (.c (.int .i64 9))), (24, 1, (.c (.int .i64 19))), (25, 1, (.c (.int .i64 13))), (26, 1, (.c (.int .i64 30))), (27, 1, (.c (.int .i64 6))), (28, 1, (.c (.int .i64 22))), (29, 1, (.c (.int .i64 11))), (30, 1, (.c (.int .i64 4))), (31, 1, (.c (.int .i64 25)))]), none, []⟩,
    ⟨(some 0), (.mv (.s 1)), none, [0, 0]⟩] false)
  .ret)), false, (some []), (some (Sh.sl (Sh.int .i64)))⟩

/-- euphroe/des.first -/
def k279 : Fun := ⟨0, 16, [0, 1, 3, 4, 5, 6], [(.tmp 0)],
  (.seq (.region [
    ⟨(some 0), (.mv (.c .nils)), none, []⟩] false)
  (.seq (.region [
    ⟨(some 1), (.mv (.c .nils)), none, []⟩] false)
  (.seq (.seq (.region [
    ⟨(some 4), (.build (.ints .i64 [0, 0, 0, 0, 0, 0, 0, 0]) [(0, 1, (.c (.int .i64 58))), (1, 1, (.c (.int .i64 60))), (2, 1, (.c (.int .i64 62))), (3, 1, (.c (.int .i64 64))), (4, 1, (.c (.int .i64 57))), (5, 1, (.c (.int .i64 59))), (6, 1, (.c (.int .i64 61))), (7, 1, (.c (.int .i64 63)))]), none, []⟩,
    ⟨(some 5), (.mv (.c (.int .i64 0))), none, []⟩] false)
  (.block 0
   (.loop ⟨0, [], false, [1, 4, 5], [(1, (.ints .i64 []), 1)]⟩
    (.seq (.region [
      ⟨(some 6), (.bin .lss (.s 5) (.c (.int .i64 8))), none, []⟩] false)
    (.seq (.cond (.s 6)
     .skip
     (.pre ⟨0, [], false, [1], []⟩ (.exit 0)))
    (.seq (.block 1
     (.seq (.region [
       ⟨(some 7), (.ixa 8 1 false (some .i64) (.s 4) (.s 5)), none, []⟩,
       ⟨(some 3), (.mv (.s 7)), none, [0, 0]⟩] false)
     (.region [
       ⟨(some 8), (.mv (.s 1)), none, []⟩,
       ⟨(some 9), (.mv (.s 3)), none, []⟩,
       ⟨(some 10), (.mv (.s 3)), none, []⟩,
       ⟨(some 11), (.bin .sub (.s 10) (.c (.int .i64 56))), none, [2]⟩,
       ⟨(some 12), (.call (.c (.fn 272 [])) [(.s 9), (.s 11)]), none, [1, 3]⟩,
       ⟨(some 13), (.app 1 8 (.s 8) (.s 12)), none, [0, 4, 4]⟩,
       ⟨(some 1), (.mv (.s 13)), none, [5, 5, 0, 1, 2, 3, 4, 5]⟩] false)))
    (.region [
      ⟨(some 14), (.bin .add (.s 5) (.c (.int .i64 1))), none, []⟩,
      ⟨(some 5), (.mv (.s 14)), none, [0]⟩] false)))))))
  (.seq (.region [
    ⟨(some 15), (.mv (.s 1)), none, []⟩,
    ⟨(some 0), (.mv (.s 15)), none, [0, 0]⟩] false)
  .ret)))), false, (some []), (some (Sh.sl (Sh.int .i64)))⟩

/-- euphroe/des.last -/
def k280 : Fun := ⟨0, 20, [0, 1, 2, 3, 5, 6, 7, 8], [(.tmp 0)],
  (.seq (.region [
    ⟨(some 0), (.mv (.c .nils)), none, []⟩] false)
  (.seq (.region [
    ⟨(some 4), (.mks (.ints .i64 [0]) 1 8 (.c (.int .i64 64)) (.c (.int .i64 64))), none, []⟩,
    ⟨(some 1), (.mv (.s 4)), none, [0, 0]⟩] false)
  (.seq (.seq (.region [
    ⟨(some 5), (.call (.c (.fn 279 [])) []), none, []⟩,
    ⟨(some 6), (.len false (.s 5)), none, [0]⟩,
    ⟨(some 7), (.mv (.c (.int .i64 0))), none, []⟩] false)
  (.block 0
   (.loop ⟨0, [], false, [1, 5, 6, 7], []⟩
    (.seq (.region [
      ⟨(some 8), (.bin .lss (.s 7) (.s 6)), none, []⟩] false)
    (.seq (.cond (.s 8)
     .skip
     (.pre ⟨0, [], false, [1], []⟩ (.exit 0)))
    (.seq (.block 1
     (.seq (.region [
       ⟨(some 9), (.mv (.s 7)), none, []⟩,
       ⟨(some 10), (.iad 1 (.s 5) (.s 7)), none, []⟩,
       ⟨(some 11), (.ldc (.s 10)), none, [1]⟩,
       ⟨(some 2), (.mv (.s 9)), none, [0, 0, 1, 2]⟩,
       ⟨(some 3), (.mv (.s 11)), none, [2, 3, 0, 1, 2, 3]⟩] false)
     (.region [
       ⟨(some 12), (.mv (.s 1)), none, []⟩,
       ⟨(some 13), (.mv (.s 3)), none, []⟩,
       ⟨(some 14), (.bin .sub (.s 13) (.c (.int .i64 1))), none, [1]⟩,
       ⟨(some 15), (.mv (.s 2)), none, []⟩,
       ⟨(some 16), (.bin .add (.s 15) (.c (.int .i64 1))), none, [3]⟩,
       ⟨(some 17), (.iad 1 (.s 12) (.s 14)), none, [0, 2, 0, 1, 2, 3, 4]⟩,
       ⟨none, (.stc 1 (.s 17) (.s 16)), none, [5, 4, 0, 1, 2, 3, 4]⟩] false)))
    (.region [
      ⟨(some 18), (.bin .add (.s 7) (.c (.int .i64 1))), none, []⟩,
      ⟨(some 7), (.mv (.s 18)), none, [0]⟩] false)))))))
  (.seq (.region [
    ⟨(some 19), (.mv (.s 1)), none, []⟩,
    ⟨(some 0), (.mv (.s 19)), none, [0, 0]⟩] false)
  .ret)))), false, (some []), (some (Sh.sl (Sh.int .i64)))⟩

/-- euphroe/euphroeref08.first -/
def k281 : Fun := ⟨0, 2, [0], [(.tmp 0)],
  (.seq (.region [
    ⟨(some 0), (.mv (.c .nils)), none, []⟩] false)
  (.seq (.region [
    ⟨(some 1), (.bsl 64 1 (.ints .i64 [0, 0, 0, 0, 0, 0, 0, 0, 0, 0, 0, 0, 0, 0, 0, 0, 0, 0, 0, 0, 0, 0, 0, 0, 0, 0, 0, 0, 0, 0, 0, 0, 0, 0, 0, 0, 0, 0, 0, 0, 0, 0, 0, 0, 0, 0, 0, 0, 0, 0, 0, 0, 0, 0, 0, 0, 0, 0, 0, 0, 0, 0, 0, 0]) [(0, 1, (.c (.int .i64 58))), (1, 1, (.c (.int .i64 50))), (2, 1, (.c (.int .i64 42))), (3, 1, (.c (.int .i64 34))), (4, 1, (.c (.int .i64 26))), (5, 1, (.c (.int .i64 18))), (6, 1, (.c (.int .i64 10))), (7, 1, (.c (.int .i64 2))), (8, 1, (.c (.int .i64 60))), (9, 1, (.c (.int .i64 52))), (10, 1, (.c (.int .i64 44))), (11, 1, (.c (.int .i64 36))), (12, 1, (.c (.int .i64 28))), (13, 1, (.c (.int .i64 20))), (14, 1, (.c (.int .i64 12))), (15, 1, (.c (.int .i64 4))), (16, 1, (.c (.int .i64 62))), (17, 1, (.c (.int .i64 54))), (18, 1, (.c (.int .i64 46))), (19, 1, (.c (.int .i64 38))), (20, 1, (.c (.int .i64 30))), (21, 1, (.c (.int .i64 22))), (22, 1, (.c (.int .i64 14))), (23, 1, (.c (.int .i64 6))), (24, 1, (.c (.int .i64 64))), (25, 1, (.c (.int .i64 56))), (26, 1, (.c (.int .i64 48))), (27, 1, (.c (.int .i64 40))), (28, 1, (.c (.int .i64 32))), (29, 1, (.c (.int .i64 24))), (30, 1, (.c (.int .i64 16))), (31, 1, (.c (.int .i64 8))), (32, 1, (.c (.int .i64 57))), (33, 1, (.c (.int .i64 49))), (34, 1, (.c (.int .i64 41))), (35, 1, (.c (.int .i64 33))), (36, 1, (.c (.int .i64 25))), (37, 1, (.c (.int .i64 17))), (38, 1, (.c (.int .i64 9))), (39, 1, (.c (.int .i64 1))), (40, 1, (.c (.int .i64 59))), (41, 1, (.c (.int .i64 51))), (42, 1, (.c (.int .i64 43))), (43, 1, (.c (.int .i64 35))), (44, 1, (.c (.int .i64 27))), (45, 1, (.c (.int .i64 19))), (46, 1, (.c (.int .i64 11))), (47, 1, (.c (.int .i64 3))), (48, 1, (.c (.int .i64 61))), (49, 1, (.c (.int .i64 53))), (50, 1, (.c (.int .i64 45))), (51, 1, (.c (.int .i64 37))), (52, 1, (.c (.int .i64 29))), (53, 1, (.c (.int .i64 21))), (54, 1, (.c (.int .i64 13))), (55, 1, (.c (.int .i64 5))), (56, 1, (.c (.int .i64 63))), (57, 1, (.c (.int .i64 55))), (58, 1, (.c (.int .i64 47))), (59, 1, (.c (.int .i64 39))), (60, 1, (.c (.int .i64 31))), (61, 1, (.c (.int .i64 23))), (62, 1, (.c (.int .i64 15))), (63, 1, (.c (.int .i64 7)))]), none, []⟩,
    ⟨(some 0), (.mv (.s 1)), none, [0, 0]⟩] false)
  .ret)), false, (some []), (some (Sh.sl (Sh.int .i64)))⟩

/-- euphroe/euphroeref08.last -/
def k282 : Fun := ⟨0, 2, [0], [(.tmp 0)],
  (.seq (.region [
    ⟨(some 0), (.mv (.c .nils)), none, []⟩] false)
  (.seq (.region [
    ⟨(some 1), (.bsl 64 1 (.ints .i64 [0, 0, 0, 0, 0, 0, 0, 0, 0, 0, 0, 0, 0, 0, 0, 0, 0, 0, 0, 0, 0, 0, 0, 0, 0, 0, 0, 0, 0, 0, 0, 0, 0, 0, 0, 0, 0, 0, 0, 0, 0, 0, 0, 0, 0, 0, 0, 0, 0, 0, 0, 0, 0, 0, 0, 0, 0, 0, 0, 0, 0, 0, 0, 0]) [(0, 1, (.c (.int .i64 40))), (1, 1, (.c (.int .i64 8))), (2, 1, (.c (.int .i64 48))), (3, 1, (.c (.int .i64 16))), (4, 1, (.c (.int .i64 56))), (5, 1, (.c (.int .i64 24))), (6, 1, (.c (.int .i64 64))), (7, 1, (.c (.int .i64 32))), (8, 1, (.c (.int .i64 39))), (9, 1, (.c (.int .i64 7))), (10, 1, (.c (.int .i64 47))), (11, 1, (.c (.int .i64 15))), (12, 1, (.c (.int .i64 55))), (13, 1, (.c (.int .i64 23))), (14, 1, (.c (.int .i64 63))), (15, 1, (.c (.int .i64 31))), (16, 1, (.c (.int .i64 38))), (17, 1, (.c (.int .i64 6))), (18, 1, (.c (.int .i64 46))), (19, 1, (.c (.int .i64 14))), (20, 1, (.c (.int .i64 54))), (21, 1, (.c (.int .i64 22))), (22, 1, (.c (.int .i64 62))), (23, 1, (.c (.int .i64 30))), (24, 1, (.c (.int .i64 37))), (25, 1, (.c (.int .i64 5))), (26, 1, (.c (.int .i64 45))), (27, 1, (.c (.int .i64 13))), (28, 1, (.c (.int .i64 53))), (29, 1, (.c (.int .i64 21))), (30, 1, (.c (.int .i64 61))), (31, 1, (.c (.int .i64 29))), (32, 1, (.c (.int .i64 36))), (33, 1, (.c (.int .i64 4))), (34, 1, (.c (.int .i64 44))), (35, 1, (.c (.int .i64 12))), (36, 1, (.c (.int .i64 52))), (37, 1, (.c (.int .i64 20))), (38, 1, (.c (.int .i64 60))), (39, 1, (.c (.int .i64 28))), (40, 1, (.c (.int .i64 35))), (41, 1, (.c (.int .i64 3))), (42, 1, (.c (.int .i64 43))), (43, 1, (.c (.int .i64 11))), (44, 1, (.c (.int .i64 51))), (45, 1, (.c (.int .i64 19))), (46, 1, (.c (.int .i64 59))), (47, 1, (.c (.int .i64 27))), (48, 1, (.c (.int .i64 34))), (49, 1, (.c (.int .i64 2))), (50, 1, (.c (.int .i64 42))), (51, 1, (.c (.int .i64 10))), (52, 1, (.c (.int .i64 50))), (53, 1, (.c (.int .i64 18))), (54, 1, (.c (.int .i64 58))), (55, 1, (.c (.int .i64 26))), (56, 1, (.c (.int .i64 33))), (57, 1, (.c (.int .i64 1))), (58, 1, (.c (.int .i64 41))), (59, 1, (.c (.int .i64 9))), (60, 1, (.c (.int .i64 49))), (61, 1, (.c (.int .i64 17))), (62, 1, (.c (.int .i64 57))), (63, 1, (.c (.int .i64 25)))]), none, []⟩,
    ⟨(some 0), (.mv (.s 1)), none, [0, 0]⟩] false)
  .ret)), false, (some []), (some (Sh.sl (Sh.int .i64)))⟩

/-- slices.Grow[[]int,int] -/
def k283 : Fun := ⟨2, 27, [0, 1, 4, 6, 16], [(.tmp 4)],
  (.seq (.region [
    ⟨(some 4), (.mv (.c .nils)), none, []⟩] false)
  (.seq (.seq (.region [
    ⟨(some 5), (.mv (.s 1)), none, []⟩,
    ⟨(some 6), (.bin .lss (.s 5) (.c (.int .i64 0))), none, [0]⟩] false)
  (.cond (.s 6)
   (.region [
     ⟨(some 7), .bad, none, []⟩,
     ⟨none, .bad, none, [0]⟩] false)
   .skip))
  (.seq (.seq (.region [
    ⟨(some 8), (.mv (.s 1)), none, []⟩,
    ⟨(some 9), (.mv (.s 0)), none, []⟩,
    ⟨(some 10), (.cap (.s 9)), none, [1]⟩,
    ⟨(some 11), (.mv (.s 0)), none, []⟩,
    ⟨(some 12), (.len false (.s 11)), none, [3]⟩,
    ⟨(some 13), (.bin .sub (.s 10) (.s 12)), none, [2, 4]⟩,
    ⟨(some 14), (.bin .sub (.s 8) (.s 13)), none, [0, 5]⟩,
    ⟨(some 1), (.mv (.s 14)), none, [6, 0, 1, 2, 3, 4, 5, 6]⟩] false)
  (.seq (.region [
    ⟨(some 15), (.mv (.s 1)), none, []⟩,
    ⟨(some 16), (.bin .gtr (.s 15) (.c (.int .i64 0))), none, [0]⟩] false)
  (.cond (.s 16)
   (.region [
     ⟨(some 17), (.mv (.s 0)), none, []⟩,
     ⟨(some 18), (.mv (.s 0)), none, []⟩,
     ⟨(some 19), (.cap (.s 18)), none, [1]⟩,
     ⟨(some 20), (.sls 1 (.s 17) none (some (.s 19)) none), none, [0, 2]⟩,
     ⟨(some 21), (.mv (.s 1)), none, []⟩,
     ⟨(some 22), (.apz 1 8 (.ints .i64 [0]) (.s 20) (.s 21)), none, [3, 4]⟩,
     ⟨(some 23), (.mv (.s 0)), none, []⟩,
     ⟨(some 24), (.len false (.s 23)), none, [6]⟩,
     ⟨(some 25), (.sls 1 (.s 22) none (some (.s 24)) none), none, [5, 7]⟩,
     ⟨(some 0), (.mv (.s 25)), none, [8, 5, 0, 1, 2, 3, 4, 5, 6, 7, 8]⟩] false)
   .skip)))
  (.seq (.region [
    ⟨(some 26), (.mv (.s 0)), none, []⟩,
    ⟨(some 4), (.mv (.s 26)), none, [0, 0]⟩] false)
  (.pre ⟨0, [], true, [], [(4, (.ints .i64 []), 1)]⟩ .ret))))), false, none, none⟩

def FT : Nat → Option Fun
  | 2 => some k2
  | 19 => some k19
  | 21 => some k21
  | 23 => some k23
  | 24 => some k24
  | 25 => some k25
  | 27 => some k27
  | 29 => some k29
  | 31 => some k31
  | 33 => some k33
  | 36 => some k36
  | 39 => some k39
  | 48 => some k48
  | 50 => some k50
  | 51 => some k51
  | 52 => some k52
  | 53 => some k53
  | 54 => some k54
  | 56 => some k56
  | 57 => some k57
  | 58 => some k58
  | 63 => some k63
  | 65 => some k65
  | 240 => some k240
  | 241 => some k241
  | 242 => some k242
  | 243 => some k243
  | 244 => some k244
  | 245 => some k245
  | 246 => some k246
  | 247 => some k247
  | 248 => some k248
  | 249 => some k249
  | 250 => some k250
  | 251 => some k251
  | 252 => some k252
  | 253 => some k253
  | 254 => some k254
  | 255 => some k255
  | 256 => some k256
  | 257 => some k257
  | 258 => some k258
  | 259 => some k259
  | 260 => some k260
  | 261 => some k261
  | 262 => some k262
  | 263 => some k263
  | 264 => some k264
  | 265 => some k265
  | 266 => some k266
  | 267 => some k267
  | 268 => some k268
  | 269 => some k269
  | 270 => some k270
  | 271 => some k271
  | 272 => some k272
  | 273 => some k273
  | 274 => some k274
  | 275 => some k275
  | 276 => some k276
  | 277 => some k277
  | 278 => some k278
  | 279 => some k279
  | 280 => some k280
  | 281 => some k281
  | 282 => some k282
  | 283 => some k283
  | _ => none
end Go.Proofs.YtpiadkdalilmnaaE
