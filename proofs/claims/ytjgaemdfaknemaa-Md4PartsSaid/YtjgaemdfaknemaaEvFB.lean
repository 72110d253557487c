/- The evaluator's functions. -/
import Derived.Test.YtjgaemdfaknemaaEvXT
namespace Go.Proofs.YtjgaemdfaknemaaE
open Go
set_option linter.unusedVariables false
set_option linter.unusedSimpArgs false

/-- slices.Concat[[]byte,byte] -/
def k1 : Fun := ⟨1, 36, [0, 2, 3, 5, 6, 8, 9, 10, 11, 12, 20, 25, 26, 27, 28], [(.tmp 2)],
  (.seq (.region [
    ⟨(some 2), (.mv (.c .nils)), none, []⟩] false)
  (.seq (.region [
    ⟨(some 3), (.mv (.c (.int .i64 0))), none, []⟩] false)
  (.seq (.seq (.region [
    ⟨(some 9), (.mv (.s 0)), none, []⟩,
    ⟨(some 10), (.len false (.s 9)), none, [0]⟩,
    ⟨(some 11), (.mv (.c (.int .i64 0))), none, []⟩] false)
  (.block 0
   (.loop ⟨0, [], false, [0, 3, 9, 10, 11], []⟩
    (.seq (.region [
      ⟨(some 12), (.bin .lss (.s 11) (.s 10)), none, []⟩] false)
    (.seq (.cond (.s 12)
     .skip
     (.pre ⟨0, [], false, [0, 3], []⟩ (.exit 0)))
    (.seq (.block 1
     (.seq (.region [
       ⟨(some 13), (.iad 1 (.s 9) (.s 11)), none, []⟩,
       ⟨(some 14), (.ldc (.s 13)), none, [0]⟩,
       ⟨(some 5), (.mv (.s 14)), none, [1, 0, 1]⟩] false)
     (.seq (.region [
       ⟨(some 15), (.mv (.s 3)), none, []⟩,
       ⟨(some 16), (.mv (.s 5)), none, []⟩,
       ⟨(some 17), (.len false (.s 16)), none, [1]⟩,
       ⟨(some 18), (.bin .add (.s 15) (.s 17)), none, [0, 2]⟩,
       ⟨(some 3), (.mv (.s 18)), none, [3, 0, 1, 2, 3]⟩] false)
     (.seq (.region [
       ⟨(some 19), (.mv (.s 3)), none, []⟩,
       ⟨(some 20), (.bin .lss (.s 19) (.c (.int .i64 0))), none, [0]⟩] false)
     (.cond (.s 20)
      (.region [
        ⟨(some 21), .bad, none, []⟩,
        ⟨none, .bad, none, [0]⟩] false)
      .skip)))))
    (.region [
      ⟨(some 22), (.bin .add (.s 11) (.c (.int .i64 1))), none, []⟩,
      ⟨(some 11), (.mv (.s 22)), none, [0]⟩] false)))))))
  (.seq (.region [
    ⟨(some 23), (.mv (.s 3)), none, []⟩,
    ⟨(some 24), (.call (.c (.fn 64 [])) [(.c .nils), (.s 23)]), none, [0]⟩,
    ⟨(some 6), (.mv (.s 24)), none, [1, 1, 0, 1]⟩] false)
  (.seq (.seq (.region [
    ⟨(some 25), (.mv (.s 0)), none, []⟩,
    ⟨(some 26), (.len false (.s 25)), none, [0]⟩,
    ⟨(some 27), (.mv (.c (.int .i64 0))), none, []⟩] false)
  (.block 2
   (.loop ⟨1, [], false, [6, 25, 26, 27], []⟩
    (.seq (.region [
      ⟨(some 28), (.bin .lss (.s 27) (.s 26)), none, []⟩] false)
    (.seq (.cond (.s 28)
     .skip
     (.pre ⟨0, [], false, [6], []⟩ (.exit 2)))
    (.seq (.block 3
     (.seq (.region [
       ⟨(some 29), (.iad 1 (.s 25) (.s 27)), none, []⟩,
       ⟨(some 30), (.ldc (.s 29)), none, [0]⟩,
       ⟨(some 8), (.mv (.s 30)), none, [1, 0, 1]⟩] false)
     (.region [
       ⟨(some 31), (.mv (.s 6)), none, []⟩,
       ⟨(some 32), (.mv (.s 8)), none, []⟩,
       ⟨(some 33), (.app 1 1 (.s 31) (.s 32)), none, [0, 1]⟩,
       ⟨(some 6), (.mv (.s 33)), none, [2, 2, 0, 1, 2]⟩] false)))
    (.region [
      ⟨(some 34), (.bin .add (.s 27) (.c (.int .i64 1))), none, []⟩,
      ⟨(some 27), (.mv (.s 34)), none, [0]⟩] false)))))))
  (.seq (.region [
    ⟨(some 35), (.mv (.s 6)), none, []⟩,
    ⟨(some 2), (.mv (.s 35)), none, [0, 0]⟩] false)
  .ret)))))), false, (some [(Sh.sl (Sh.sl (Sh.int .u8)))]), none⟩

/-- euphroe/octs.Put -/
def k19 : Fun := ⟨3, 37, [0, 1, 2, 6, 7, 8, 9, 15, 19, 20, 21, 33], [(.tmp 6), (.tmp 7)],
  (.seq (.region [
    ⟨(some 6), (.mv (.c .nils)), none, []⟩,
    ⟨(some 7), (.mv (.c (.int .i64 0))), none, [0]⟩] false)
  (.seq (.seq (.region [
    ⟨(some 10), (.mv (.s 1)), none, []⟩,
    ⟨(some 11), (.bin .lss (.s 10) (.c (.int .i64 1))), none, [0]⟩,
    ⟨(some 12), (.mv (.s 11)), none, [1]⟩,
    ⟨(some 13), (.mv (.s 1)), (some (12, false)), [2]⟩,
    ⟨(some 14), (.bin .gtr (.s 13) (.c (.int .i64 8))), (some (12, false)), [3, 2]⟩,
    ⟨(some 15), (.pick (.s 12) (.c (.bool true)) (.s 14)), none, [2, 4]⟩] false)
  (.cond (.s 15)
   (.seq (.region [
     ⟨(some 6), (.mv (.c .nils)), none, []⟩,
     ⟨(some 7), (.mv (.c (.int .i64 1))), none, [0, 0]⟩] false)
   .ret)
   .skip))
  (.seq (.region [
    ⟨(some 16), (.mv (.s 1)), none, []⟩,
    ⟨(some 17), (.mks (.ints .u8 [0]) 1 1 (.s 16) (.s 16)), none, [0, 0]⟩,
    ⟨(some 8), (.mv (.s 17)), none, [1, 0, 1]⟩] false)
  (.seq (.seq (.region [
    ⟨(some 18), (.mv (.s 8)), none, []⟩,
    ⟨(some 19), (.len false (.s 18)), none, [0]⟩,
    ⟨(some 20), (.mv (.c (.int .i64 0))), none, []⟩] false)
  (.block 0
   (.loop ⟨0, [], false, [0, 2, 8, 19, 20], []⟩
    (.seq (.region [
      ⟨(some 21), (.bin .lss (.s 20) (.s 19)), none, []⟩] false)
    (.seq (.cond (.s 21)
     .skip
     (.pre ⟨0, [], false, [2, 8], []⟩ (.exit 0)))
    (.seq (.block 1
     (.seq (.region [
       ⟨(some 22), (.mv (.s 20)), none, []⟩,
       ⟨(some 9), (.mv (.s 22)), none, [0, 0]⟩] false)
     (.region [
       ⟨(some 23), (.mv (.s 8)), none, []⟩,
       ⟨(some 24), (.mv (.s 9)), none, []⟩,
       ⟨(some 25), (.mv (.s 0)), none, []⟩,
       ⟨(some 26), (.mv (.s 9)), none, []⟩,
       ⟨(some 27), (.bin .mul (.c (.int .i64 8)) (.s 26)), none, [3]⟩,
       ⟨(some 28), (.bin .shr (.s 25) (.s 27)), none, [2, 4]⟩,
       ⟨(some 29), (.cvi .u8 (.s 28)), none, [5]⟩,
       ⟨(some 30), (.iad 1 (.s 23) (.s 24)), none, [0, 1, 0, 1, 2, 3, 4, 5, 6]⟩,
       ⟨none, (.stc 1 (.s 30) (.s 29)), none, [7, 6, 0, 1, 2, 3, 4, 5, 6]⟩] false)))
    (.region [
      ⟨(some 31), (.bin .add (.s 20) (.c (.int .i64 1))), none, []⟩,
      ⟨(some 20), (.mv (.s 31)), none, [0]⟩] false)))))))
  (.seq (.seq (.region [
    ⟨(some 32), (.mv (.s 2)), none, []⟩,
    ⟨(some 33), (.un .not (.s 32)), none, [0]⟩] false)
  (.cond (.s 33)
   (.region [
     ⟨(some 34), (.mv (.s 8)), none, []⟩,
     ⟨(some 35), (.call (.c (.fn 48 [])) [(.s 34)]), none, [0]⟩] false)
   .skip))
  (.seq (.region [
    ⟨(some 36), (.mv (.s 8)), none, []⟩,
    ⟨(some 6), (.mv (.s 36)), none, [0, 0]⟩,
    ⟨(some 7), (.mv (.c (.int .i64 0))), none, [1, 0, 1]⟩] false)
  .ret)))))), false, (some [(Sh.int .u64), (Sh.int .i64), Sh.bool]), (some (Sh.tu (Sh.pr (Sh.sl (Sh.int .u8)) (Sh.int .i64))))⟩

/-- euphroe/octs.Get -/
def k21 : Fun := ⟨2, 39, [0, 1, 4, 5, 6, 7, 8, 16, 17, 18, 19, 20, 24], [(.tmp 4), (.tmp 5)],
  (.seq (.region [
    ⟨(some 4), (.mv (.c (.int .u64 0))), none, []⟩,
    ⟨(some 5), (.mv (.c (.int .i64 0))), none, [0]⟩] false)
  (.seq (.seq (.region [
    ⟨(some 9), (.mv (.s 0)), none, []⟩,
    ⟨(some 10), (.len false (.s 9)), none, [0]⟩,
    ⟨(some 11), (.bin .lss (.s 10) (.c (.int .i64 1))), none, [1]⟩,
    ⟨(some 12), (.mv (.s 11)), none, [2]⟩,
    ⟨(some 13), (.mv (.s 0)), (some (12, false)), [3]⟩,
    ⟨(some 14), (.len false (.s 13)), (some (12, false)), [4, 3]⟩,
    ⟨(some 15), (.bin .gtr (.s 14) (.c (.int .i64 8))), (some (12, false)), [5, 3]⟩,
    ⟨(some 16), (.pick (.s 12) (.c (.bool true)) (.s 15)), none, [3, 6]⟩] false)
  (.cond (.s 16)
   (.seq (.region [
     ⟨(some 4), (.mv (.c (.int .u64 0))), none, []⟩,
     ⟨(some 5), (.mv (.c (.int .i64 1))), none, [0, 0]⟩] false)
   .ret)
   .skip))
  (.seq (.region [
    ⟨(some 6), (.mv (.c (.int .u64 0))), none, []⟩] false)
  (.seq (.seq (.region [
    ⟨(some 17), (.mv (.s 0)), none, []⟩,
    ⟨(some 18), (.len false (.s 17)), none, [0]⟩,
    ⟨(some 19), (.mv (.c (.int .i64 0))), none, []⟩] false)
  (.block 0
   (.loop ⟨0, [], false, [1, 6, 17, 18, 19], []⟩
    (.seq (.region [
      ⟨(some 20), (.bin .lss (.s 19) (.s 18)), none, []⟩] false)
    (.seq (.cond (.s 20)
     .skip
     (.pre ⟨0, [], false, [6], []⟩ (.exit 0)))
    (.seq (.block 1
     (.seq (.region [
       ⟨(some 21), (.mv (.s 19)), none, []⟩,
       ⟨(some 22), (.iad 1 (.s 17) (.s 19)), none, []⟩,
       ⟨(some 23), (.ldc (.s 22)), none, [1]⟩,
       ⟨(some 7), (.mv (.s 21)), none, [0, 0, 1, 2]⟩,
       ⟨(some 8), (.mv (.s 23)), none, [2, 3, 0, 1, 2, 3]⟩] false)
     (.seq (.region [
       ⟨(some 24), (.mv (.s 1)), none, []⟩] false)
     (.cond (.s 24)
      (.region [
        ⟨(some 25), (.mv (.s 6)), none, []⟩,
        ⟨(some 26), (.mv (.s 8)), none, []⟩,
        ⟨(some 27), (.cvi .u64 (.s 26)), none, [1]⟩,
        ⟨(some 28), (.mv (.s 7)), none, []⟩,
        ⟨(some 29), (.bin .mul (.c (.int .i64 8)) (.s 28)), none, [3]⟩,
        ⟨(some 30), (.bin .shl (.s 27) (.s 29)), none, [2, 4]⟩,
        ⟨(some 31), (.bin .or (.s 25) (.s 30)), none, [0, 5]⟩,
        ⟨(some 6), (.mv (.s 31)), none, [6, 0, 1, 2, 3, 4, 5, 6]⟩] false)
      (.region [
        ⟨(some 32), (.mv (.s 6)), none, []⟩,
        ⟨(some 33), (.bin .shl (.s 32) (.c (.int .u64 8))), none, [0]⟩,
        ⟨(some 34), (.mv (.s 8)), none, []⟩,
        ⟨(some 35), (.cvi .u64 (.s 34)), none, [2]⟩,
        ⟨(some 36), (.bin .or (.s 33) (.s 35)), none, [1, 3]⟩,
        ⟨(some 6), (.mv (.s 36)), none, [4, 0, 1, 2, 3, 4]⟩] false)))))
    (.region [
      ⟨(some 37), (.bin .add (.s 19) (.c (.int .i64 1))), none, []⟩,
      ⟨(some 19), (.mv (.s 37)), none, [0]⟩] false)))))))
  (.seq (.region [
    ⟨(some 38), (.mv (.s 6)), none, []⟩,
    ⟨(some 4), (.mv (.s 38)), none, [0, 0]⟩,
    ⟨(some 5), (.mv (.c (.int .i64 0))), none, [1, 0, 1]⟩] false)
  .ret))))), false, (some [(Sh.sl (Sh.int .u8)), Sh.bool]), (some (Sh.tu (Sh.pr (Sh.int .u64) (Sh.int .i64))))⟩

/-- euphroe/euphroeref01.Same -/
def k23 : Fun := ⟨2, 26, [0, 1, 4, 5, 10, 14, 25], [(.tmp 4)],
  (.seq (.region [
    ⟨(some 4), (.mv (.c (.bool false))), none, []⟩] false)
  (.seq (.seq (.region [
    ⟨(some 6), (.mv (.s 0)), none, []⟩,
    ⟨(some 7), (.len false (.s 6)), none, [0]⟩,
    ⟨(some 8), (.mv (.s 1)), none, []⟩,
    ⟨(some 9), (.len false (.s 8)), none, [2]⟩,
    ⟨(some 10), (.bin .neq (.s 7) (.s 9)), none, [1, 3]⟩] false)
  (.cond (.s 10)
   (.seq (.region [
     ⟨(some 4), (.mv (.c (.bool false))), none, []⟩] false)
   .ret)
   .skip))
  (.seq (.seq (.region [
    ⟨(some 5), (.mv (.c (.int .i64 0))), none, []⟩] false)
  (.block 0
   (.loop ⟨0, [], false, [0, 1, 5], []⟩
    (.seq (.seq (.region [
      ⟨(some 11), (.mv (.s 5)), none, []⟩,
      ⟨(some 12), (.mv (.s 0)), none, []⟩,
      ⟨(some 13), (.len false (.s 12)), none, [1]⟩,
      ⟨(some 14), (.bin .lss (.s 11) (.s 13)), none, [0, 2]⟩] false)
    (.cond (.s 14)
     .skip
     (.pre ⟨0, [], false, [], []⟩ (.exit 0))))
    (.seq (.block 1
     (.seq (.region [
       ⟨(some 17), (.mv (.s 0)), none, []⟩,
       ⟨(some 18), (.mv (.s 5)), none, []⟩,
       ⟨(some 19), (.iad 1 (.s 17) (.s 18)), none, [0, 1]⟩,
       ⟨(some 20), (.ldc (.s 19)), none, [2]⟩,
       ⟨(some 21), (.mv (.s 1)), none, []⟩,
       ⟨(some 22), (.mv (.s 5)), none, []⟩,
       ⟨(some 23), (.iad 1 (.s 21) (.s 22)), none, [4, 5]⟩,
       ⟨(some 24), (.ldc (.s 23)), none, [6]⟩,
       ⟨(some 25), (.bin .neq (.s 20) (.s 24)), none, [3, 7]⟩] true)
     (.cond (.s 25)
      (.seq (.region [
        ⟨(some 4), (.mv (.c (.bool false))), none, []⟩] false)
      .ret)
      .skip)))
    (.region [
      ⟨(some 15), (.mv (.s 5)), none, []⟩,
      ⟨(some 16), (.bin .add (.s 15) (.c (.int .i64 1))), none, [0]⟩,
      ⟨(some 5), (.mv (.s 16)), none, [1, 0, 1]⟩] false))))))
  (.seq (.region [
    ⟨(some 4), (.mv (.c (.bool true))), none, []⟩] false)
  .ret)))), false, (some [(Sh.sl (Sh.int .u8)), (Sh.sl (Sh.int .u8))]), (some Sh.bool)⟩

/-- euphroe/octs.Join -/
def k46 : Fun := ⟨1, 5, [0, 2], [(.tmp 2)],
  (.seq (.region [
    ⟨(some 2), (.mv (.c .nils)), none, []⟩] false)
  (.seq (.region [
    ⟨(some 3), (.mv (.s 0)), none, []⟩,
    ⟨(some 4), (.call (.c (.fn 1 [])) [(.s 3)]), none, [0]⟩,
    ⟨(some 2), (.mv (.s 4)), none, [1, 1, 0, 1]⟩] false)
  .ret)), false, (some [(Sh.sl (Sh.sl (Sh.int .u8)))]), none⟩

/-- slices.Reverse[[]byte,byte] -/
def k48 : Fun := ⟨1, 28, [0, 2, 3, 9], [],
  (.seq (.region [
    ⟨(some 4), (.mv (.s 0)), none, []⟩,
    ⟨(some 5), (.len false (.s 4)), none, [0]⟩,
    ⟨(some 6), (.bin .sub (.s 5) (.c (.int .i64 1))), none, [1]⟩,
    ⟨(some 2), (.mv (.c (.int .i64 0))), none, []⟩,
    ⟨(some 3), (.mv (.s 6)), none, [2, 3, 0, 1, 2, 3]⟩] false)
  (.block 0
   (.loop ⟨0, [], false, [0, 2, 3], []⟩
    (.seq (.seq (.region [
      ⟨(some 7), (.mv (.s 2)), none, []⟩,
      ⟨(some 8), (.mv (.s 3)), none, []⟩,
      ⟨(some 9), (.bin .lss (.s 7) (.s 8)), none, [0, 1]⟩] false)
    (.cond (.s 9)
     .skip
     (.pre ⟨0, [], false, [], []⟩ (.exit 0))))
    (.seq (.block 1
     (.region [
       ⟨(some 14), (.mv (.s 0)), none, []⟩,
       ⟨(some 15), (.mv (.s 2)), none, []⟩,
       ⟨(some 16), (.mv (.s 0)), none, []⟩,
       ⟨(some 17), (.mv (.s 3)), none, []⟩,
       ⟨(some 18), (.mv (.s 0)), none, []⟩,
       ⟨(some 19), (.mv (.s 3)), none, []⟩,
       ⟨(some 20), (.iad 1 (.s 18) (.s 19)), none, [4, 5]⟩,
       ⟨(some 21), (.ldc (.s 20)), none, [6]⟩,
       ⟨(some 22), (.mv (.s 0)), none, []⟩,
       ⟨(some 23), (.mv (.s 2)), none, []⟩,
       ⟨(some 24), (.iad 1 (.s 22) (.s 23)), none, [8, 9]⟩,
       ⟨(some 25), (.ldc (.s 24)), none, [10]⟩,
       ⟨(some 26), (.iad 1 (.s 14) (.s 15)), none, [0, 1, 0, 1, 4, 5, 6, 7, 11]⟩,
       ⟨none, (.stc 1 (.s 26) (.s 21)), none, [12, 7, 0, 1, 4, 5, 6, 7, 11]⟩,
       ⟨(some 27), (.iad 1 (.s 16) (.s 17)), none, [2, 3, 0, 1, 2, 3, 4, 5, 6, 7, 8, 9, 10, 11, 12, 13]⟩,
       ⟨none, (.stc 1 (.s 27) (.s 25)), none, [14, 11, 13, 0, 1, 2, 3, 4, 5, 6, 7, 8, 9, 10, 11, 12, 13]⟩] true))
    (.region [
      ⟨(some 10), (.mv (.s 2)), none, []⟩,
      ⟨(some 11), (.bin .add (.s 10) (.c (.int .i64 1))), none, [0]⟩,
      ⟨(some 12), (.mv (.s 3)), none, []⟩,
      ⟨(some 13), (.bin .sub (.s 12) (.c (.int .i64 1))), none, [2]⟩,
      ⟨(some 2), (.mv (.s 11)), none, [1, 0, 1]⟩,
      ⟨(some 3), (.mv (.s 13)), none, [3, 4, 0, 1, 2, 3, 4]⟩] false)))))), true, none, none⟩

/-- slices.Grow[[]byte,byte] -/
def k64 : Fun := ⟨2, 27, [0, 1, 4, 6, 16], [(.tmp 4)],
  (.seq (.region [
    ⟨(some 4), (.mv (.c .nils)), none, []⟩] false)
  (.seq (.seq (.region [
    ⟨(some 5), (.mv (.s 1)), none, []⟩,
    ⟨(some 6), (.bin .lss (.s 5) (.c (.int .i64 0))), none, [0]⟩] false)
  (.cond (.s 6)
   (.region [
     ⟨(some 7), .bad, none, []⟩,
     ⟨none, .bad, none, [0]⟩] false)
   .skip))
  (.seq (.seq (.region [
    ⟨(some 8), (.mv (.s 1)), none, []⟩,
    ⟨(some 9), (.mv (.s 0)), none, []⟩,
    ⟨(some 10), (.cap (.s 9)), none, [1]⟩,
    ⟨(some 11), (.mv (.s 0)), none, []⟩,
    ⟨(some 12), (.len false (.s 11)), none, [3]⟩,
    ⟨(some 13), (.bin .sub (.s 10) (.s 12)), none, [2, 4]⟩,
    ⟨(some 14), (.bin .sub (.s 8) (.s 13)), none, [0, 5]⟩,
    ⟨(some 1), (.mv (.s 14)), none, [6, 0, 1, 2, 3, 4, 5, 6]⟩] false)
  (.seq (.region [
    ⟨(some 15), (.mv (.s 1)), none, []⟩,
    ⟨(some 16), (.bin .gtr (.s 15) (.c (.int .i64 0))), none, [0]⟩] false)
  (.cond (.s 16)
   (.region [
     ⟨(some 17), (.mv (.s 0)), none, []⟩,
     ⟨(some 18), (.mv (.s 0)), none, []⟩,
     ⟨(some 19), (.cap (.s 18)), none, [1]⟩,
     ⟨(some 20), (.sls 1 (.s 17) none (some (.s 19)) none), none, [0, 2]⟩,
     ⟨(some 21), (.mv (.s 1)), none, []⟩,
     ⟨(some 22), (.apz 1 1 (.ints .u8 [0]) (.s 20) (.s 21)), none, [3, 4]⟩,
     ⟨(some 23), (.mv (.s 0)), none, []⟩,
     ⟨(some 24), (.len false (.s 23)), none, [6]⟩,
     ⟨(some 25), (.sls 1 (.s 22) none (some (.s 24)) none), none, [5, 7]⟩,
     ⟨(some 0), (.mv (.s 25)), none, [8, 5, 0, 1, 2, 3, 4, 5, 6, 7, 8]⟩] false)
   .skip)))
  (.seq (.region [
    ⟨(some 26), (.mv (.s 0)), none, []⟩,
    ⟨(some 4), (.mv (.s 26)), none, [0, 0]⟩] false)
  (.pre ⟨0, [], true, [], [(4, (.ints .u8 []), 1)]⟩ .ret))))), false, none, none⟩

/-- euphroe/roots.Root -/
def k75 : Fun := ⟨3, 19, [0, 1, 2, 6, 7, 12], [(.tmp 6), (.tmp 7)],
  (.seq (.region [
    ⟨(some 6), (.mv (.c (.int .u64 0))), none, []⟩,
    ⟨(some 7), (.mv (.c (.int .i64 0))), none, [0]⟩] false)
  (.seq (.seq (.region [
    ⟨(some 8), (.mv (.s 0)), none, []⟩,
    ⟨(some 9), (.mv (.s 1)), none, []⟩,
    ⟨(some 10), (.mv (.s 2)), none, []⟩,
    ⟨(some 11), (.call (.c (.fn 100 [])) [(.s 8), (.s 9), (.s 10)]), none, [0, 1, 2]⟩,
    ⟨(some 12), (.un .not (.s 11)), none, [3]⟩] false)
  (.cond (.s 12)
   (.seq (.region [
     ⟨(some 6), (.mv (.c (.int .u64 0))), none, []⟩,
     ⟨(some 7), (.mv (.c (.int .i64 1))), none, [0, 0]⟩] false)
   .ret)
   .skip))
  (.seq (.region [
    ⟨(some 13), (.mv (.s 0)), none, []⟩,
    ⟨(some 14), (.mv (.s 1)), none, []⟩,
    ⟨(some 15), (.call (.c (.fn 101 [])) [(.s 13), (.s 14)]), none, [0, 1]⟩,
    ⟨(some 16), (.mv (.s 2)), none, []⟩,
    ⟨(some 17), (.bin .sub (.c (.int .i64 32)) (.s 16)), none, [3]⟩,
    ⟨(some 18), (.bin .shr (.s 15) (.s 17)), none, [2, 4]⟩,
    ⟨(some 6), (.mv (.s 18)), none, [5, 2, 0, 1, 2, 3, 4, 5]⟩,
    ⟨(some 7), (.mv (.c (.int .i64 0))), none, [6, 0, 1, 2, 3, 4, 5, 6]⟩] false)
  .ret))), false, (some [(Sh.int .i64), (Sh.int .i64), (Sh.int .i64)]), (some (Sh.tu (Sh.pr (Sh.int .u64) (Sh.int .i64))))⟩

/-- euphroe/roots.may -/
def k100 : Fun := ⟨3, 29, [0, 1, 2, 6], [(.tmp 6)],
  (.seq (.region [
    ⟨(some 6), (.mv (.c (.bool false))), none, []⟩] false)
  (.seq (.region [
    ⟨(some 7), (.mv (.s 0)), none, []⟩,
    ⟨(some 8), (.bin .geq (.s 7) (.c (.int .i64 0))), none, [0]⟩,
    ⟨(some 9), (.mv (.s 8)), none, [1]⟩,
    ⟨(some 10), (.mv (.s 0)), (some (9, true)), [2]⟩,
    ⟨(some 11), (.bin .leq (.s 10) (.c (.int .i64 1000))), (some (9, true)), [3, 2]⟩,
    ⟨(some 12), (.pick (.s 9) (.s 11) (.c (.bool false))), none, [2, 4]⟩,
    ⟨(some 13), (.mv (.s 12)), none, [5, 2]⟩,
    ⟨(some 14), (.mv (.s 1)), (some (13, true)), [6]⟩,
    ⟨(some 15), (.bin .eql (.s 14) (.c (.int .i64 2))), (some (13, true)), [7, 6]⟩,
    ⟨(some 16), (.mv (.s 15)), (some (13, true)), [8, 6, 6]⟩,
    ⟨(some 17), (.mv (.s 1)), (some (16, false)), [9]⟩,
    ⟨(some 18), (.bin .eql (.s 17) (.c (.int .i64 3))), (some (16, false)), [10, 9]⟩,
    ⟨(some 19), (.pick (.s 16) (.c (.bool true)) (.s 18)), (some (13, true)), [9, 11, 6]⟩,
    ⟨(some 20), (.pick (.s 13) (.s 19) (.c (.bool false))), none, [6, 12]⟩,
    ⟨(some 21), (.mv (.s 20)), none, [13, 9]⟩,
    ⟨(some 22), (.mv (.s 2)), (some (21, true)), [14]⟩,
    ⟨(some 23), (.bin .geq (.s 22) (.c (.int .i64 0))), (some (21, true)), [15, 14]⟩,
    ⟨(some 24), (.pick (.s 21) (.s 23) (.c (.bool false))), none, [14, 16]⟩,
    ⟨(some 25), (.mv (.s 24)), none, [17, 14]⟩,
    ⟨(some 26), (.mv (.s 2)), (some (25, true)), [18]⟩,
    ⟨(some 27), (.bin .leq (.s 26) (.c (.int .i64 32))), (some (25, true)), [19, 18]⟩,
    ⟨(some 28), (.pick (.s 25) (.s 27) (.c (.bool false))), none, [18, 20]⟩,
    ⟨(some 6), (.mv (.s 28)), none, [21, 18, 0, 1, 2, 3, 4, 5, 6, 7, 8, 9, 10, 11, 12, 13, 14, 15, 16, 17, 18, 19, 20, 21]⟩] false)
  .ret)), false, (some [(Sh.int .i64), (Sh.int .i64), (Sh.int .i64)]), (some Sh.bool)⟩

/-- euphroe/roots.full -/
def k101 : Fun := ⟨2, 8, [0, 1, 2, 3, 4], [(.tmp 4)],
  (.seq (.region [
    ⟨(some 2), (.box (.s 0)), none, []⟩,
    ⟨(some 3), (.box (.s 1)), none, []⟩,
    ⟨(some 4), (.mv (.c (.int .u64 0))), none, []⟩] false)
  (.seq (.region [
    ⟨(some 5), (.mkf 115 [(.s 2), (.s 3)]), none, []⟩,
    ⟨(some 6), (.call (.c (.fn 114 [])) [(.c (.int .i64 274877906944)), (.s 5)]), none, [0]⟩,
    ⟨(some 7), (.cvi .u64 (.s 6)), none, [1]⟩,
    ⟨(some 4), (.mv (.s 7)), none, [2, 1, 0, 1, 2]⟩] false)
  .ret)), false, (some [(Sh.int .i64), (Sh.int .i64)]), (some (Sh.int .u64))⟩

/-- sort.Search -/
def k114 : Fun := ⟨2, 26, [0, 1, 4, 5, 6, 7, 11, 21], [(.tmp 4)],
  (.seq (.region [
    ⟨(some 4), (.mv (.c (.int .i64 0))), none, []⟩] false)
  (.seq (.region [
    ⟨(some 8), (.mv (.s 0)), none, []⟩,
    ⟨(some 5), (.mv (.c (.int .i64 0))), none, []⟩,
    ⟨(some 6), (.mv (.s 8)), none, [0, 1, 0, 1]⟩] false)
  (.seq (.block 0
   (.loop ⟨0, [], false, [1, 5, 6], []⟩
    (.seq (.seq (.region [
      ⟨(some 9), (.mv (.s 5)), none, []⟩,
      ⟨(some 10), (.mv (.s 6)), none, []⟩,
      ⟨(some 11), (.bin .lss (.s 9) (.s 10)), none, [0, 1]⟩] false)
    (.cond (.s 11)
     .skip
     (.pre ⟨0, [], false, [5], []⟩ (.exit 0))))
    (.block 1
     (.seq (.region [
       ⟨(some 12), (.mv (.s 5)), none, []⟩,
       ⟨(some 13), (.mv (.s 6)), none, []⟩,
       ⟨(some 14), (.bin .add (.s 12) (.s 13)), none, [0, 1]⟩,
       ⟨(some 15), (.cvi .u64 (.s 14)), none, [2]⟩,
       ⟨(some 16), (.bin .shr (.s 15) (.c (.int .u64 1))), none, [3]⟩,
       ⟨(some 17), (.cvi .i64 (.s 16)), none, [4]⟩,
       ⟨(some 7), (.mv (.s 17)), none, [5, 0, 1, 2, 3, 4, 5]⟩] false)
     (.seq (.region [
       ⟨(some 18), (.mv (.s 1)), none, []⟩,
       ⟨(some 19), (.mv (.s 7)), none, []⟩,
       ⟨(some 20), (.call (.s 18) [(.s 19)]), none, [0, 1]⟩,
       ⟨(some 21), (.un .not (.s 20)), none, [2]⟩] false)
     (.cond (.s 21)
      (.region [
        ⟨(some 22), (.mv (.s 7)), none, []⟩,
        ⟨(some 23), (.bin .add (.s 22) (.c (.int .i64 1))), none, [0]⟩,
        ⟨(some 5), (.mv (.s 23)), none, [1, 0, 1]⟩] false)
      (.region [
        ⟨(some 24), (.mv (.s 7)), none, []⟩,
        ⟨(some 6), (.mv (.s 24)), none, [0, 0]⟩] false))))))))
  (.seq (.region [
    ⟨(some 25), (.mv (.s 5)), none, []⟩,
    ⟨(some 4), (.mv (.s 25)), none, [0, 0]⟩] false)
  .ret)))), false, none, none⟩

/-- euphroe/roots.full$1 -/
def k115 : Fun := ⟨3, 13, [0, 1, 2, 4], [(.tmp 4)],
  (.seq (.region [
    ⟨(some 4), (.mv (.c (.bool false))), none, []⟩] false)
  (.seq (.region [
    ⟨(some 5), (.mv (.s 0)), none, []⟩,
    ⟨(some 6), (.cvi .u64 (.s 5)), none, [0]⟩,
    ⟨(some 7), (.bin .add (.s 6) (.c (.int .u64 1))), none, [1]⟩,
    ⟨(some 8), (.ldc (.s 1)), none, []⟩,
    ⟨(some 9), (.cvi .u64 (.s 8)), none, [3]⟩,
    ⟨(some 10), (.ldc (.s 2)), none, []⟩,
    ⟨(some 11), (.call (.c (.fn 116 [])) [(.s 7), (.s 9), (.s 10)]), none, [2, 4, 5]⟩,
    ⟨(some 12), (.un .not (.s 11)), none, [6]⟩,
    ⟨(some 4), (.mv (.s 12)), none, [7, 6, 0, 1, 2, 3, 4, 5, 6, 7]⟩] false)
  .ret)), false, none, none⟩

/-- euphroe/roots.fits -/
def k116 : Fun := ⟨3, 57, [0, 1, 2, 6, 7, 8, 9, 10, 11, 19], [(.tmp 6)],
  (.seq (.region [
    ⟨(some 6), (.mv (.c (.bool false))), none, []⟩] false)
  (.seq (.region [
    ⟨(some 13), (.mv (.s 0)), none, []⟩,
    ⟨(some 14), (.mv (.s 0)), none, []⟩,
    ⟨(some 15), (.call (.c (.fn 120 [])) [(.s 13), (.s 14)]), none, [0, 1]⟩,
    ⟨(some 12), (.mv (.s 15)), none, [2]⟩,
    ⟨(some 16), (.ext (.s 12) 0), none, [3]⟩,
    ⟨(some 17), (.ext (.s 12) 1), none, [3]⟩,
    ⟨(some 7), (.mv (.s 16)), none, [4, 2, 0, 1, 2, 3, 4]⟩,
    ⟨(some 8), (.mv (.s 17)), none, [5, 6, 0, 1, 2, 3, 4, 5, 6]⟩] false)
  (.seq (.seq (.region [
    ⟨(some 18), (.mv (.s 2)), none, []⟩,
    ⟨(some 19), (.bin .eql (.s 18) (.c (.int .i64 2))), none, [0]⟩] false)
  (.cond (.s 19)
   (.seq (.region [
     ⟨(some 20), (.mv (.s 7)), none, []⟩,
     ⟨(some 21), (.mv (.s 1)), none, []⟩,
     ⟨(some 22), (.bin .lss (.s 20) (.s 21)), none, [0, 1]⟩,
     ⟨(some 23), (.mv (.s 22)), none, [2]⟩,
     ⟨(some 24), (.mv (.s 7)), (some (23, false)), [3]⟩,
     ⟨(some 25), (.mv (.s 1)), (some (23, false)), [3]⟩,
     ⟨(some 26), (.bin .eql (.s 24) (.s 25)), (some (23, false)), [4, 5, 3]⟩,
     ⟨(some 27), (.mv (.s 26)), (some (23, false)), [6, 3, 3]⟩,
     ⟨(some 28), (.mv (.s 8)), (some (27, true)), [7]⟩,
     ⟨(some 29), (.bin .eql (.s 28) (.c (.int .u64 0))), (some (27, true)), [8, 7]⟩,
     ⟨(some 30), (.pick (.s 27) (.s 29) (.c (.bool false))), (some (23, false)), [7, 9, 3]⟩,
     ⟨(some 31), (.pick (.s 23) (.c (.bool true)) (.s 30)), none, [3, 10]⟩,
     ⟨(some 6), (.mv (.s 31)), none, [11, 7, 0, 1, 2, 3, 4, 5, 6, 7, 8, 9, 10, 11]⟩] false)
   .ret)
   .skip))
  (.seq (.region [
    ⟨(some 33), (.mv (.s 8)), none, []⟩,
    ⟨(some 34), (.mv (.s 0)), none, []⟩,
    ⟨(some 35), (.call (.c (.fn 120 [])) [(.s 33), (.s 34)]), none, [0, 1]⟩,
    ⟨(some 32), (.mv (.s 35)), none, [2]⟩,
    ⟨(some 36), (.ext (.s 32) 0), none, [3]⟩,
    ⟨(some 37), (.ext (.s 32) 1), none, [3]⟩,
    ⟨(some 9), (.mv (.s 36)), none, [4, 2, 0, 1, 2, 3, 4]⟩,
    ⟨(some 10), (.mv (.s 37)), none, [5, 6, 0, 1, 2, 3, 4, 5, 6]⟩] false)
  (.seq (.region [
    ⟨(some 38), (.mv (.s 7)), none, []⟩,
    ⟨(some 39), (.mv (.s 0)), none, []⟩,
    ⟨(some 40), (.bin .mul (.s 38) (.s 39)), none, [0, 1]⟩,
    ⟨(some 41), (.mv (.s 9)), none, []⟩,
    ⟨(some 42), (.bin .add (.s 40) (.s 41)), none, [2, 3]⟩,
    ⟨(some 11), (.mv (.s 42)), none, [4, 0, 1, 2, 3, 4]⟩] false)
  (.seq (.region [
    ⟨(some 43), (.mv (.s 11)), none, []⟩,
    ⟨(some 44), (.mv (.s 1)), none, []⟩,
    ⟨(some 45), (.bin .shl (.s 44) (.c (.int .u64 32))), none, [1]⟩,
    ⟨(some 46), (.bin .lss (.s 43) (.s 45)), none, [0, 2]⟩,
    ⟨(some 47), (.mv (.s 46)), none, [3]⟩,
    ⟨(some 48), (.mv (.s 11)), (some (47, false)), [4]⟩,
    ⟨(some 49), (.mv (.s 1)), (some (47, false)), [4]⟩,
    ⟨(some 50), (.bin .shl (.s 49) (.c (.int .u64 32))), (some (47, false)), [6, 4]⟩,
    ⟨(some 51), (.bin .eql (.s 48) (.s 50)), (some (47, false)), [5, 7, 4]⟩,
    ⟨(some 52), (.mv (.s 51)), (some (47, false)), [8, 4, 4]⟩,
    ⟨(some 53), (.mv (.s 10)), (some (52, true)), [9]⟩,
    ⟨(some 54), (.bin .eql (.s 53) (.c (.int .u64 0))), (some (52, true)), [10, 9]⟩,
    ⟨(some 55), (.pick (.s 52) (.s 54) (.c (.bool false))), (some (47, false)), [9, 11, 4]⟩,
    ⟨(some 56), (.pick (.s 47) (.c (.bool true)) (.s 55)), none, [4, 12]⟩,
    ⟨(some 6), (.mv (.s 56)), none, [13, 9, 0, 1, 2, 3, 4, 5, 6, 7, 8, 9, 10, 11, 12, 13]⟩] false)
  .ret)))))), false, (some [(Sh.int .u64), (Sh.int .u64), (Sh.int .i64)]), (some Sh.bool)⟩

/-- math/bits.Mul64 -/
def k120 : Fun := ⟨2, 51, [0, 1, 4, 5, 6, 7, 8, 9, 10, 11, 12, 13], [(.tmp 4), (.tmp 5)],
  (.seq (.region [
    ⟨(some 4), (.mv (.c (.int .u64 0))), none, []⟩,
    ⟨(some 5), (.mv (.c (.int .u64 0))), none, [0]⟩] false)
  (.seq (.region [
    ⟨(some 14), (.mv (.s 0)), none, []⟩,
    ⟨(some 15), (.bin .and (.s 14) (.c (.int .u64 4294967295))), none, [0]⟩,
    ⟨(some 6), (.mv (.s 15)), none, [1, 0, 1]⟩] false)
  (.seq (.region [
    ⟨(some 16), (.mv (.s 0)), none, []⟩,
    ⟨(some 17), (.bin .shr (.s 16) (.c (.int .u64 32))), none, [0]⟩,
    ⟨(some 7), (.mv (.s 17)), none, [1, 0, 1]⟩] false)
  (.seq (.region [
    ⟨(some 18), (.mv (.s 1)), none, []⟩,
    ⟨(some 19), (.bin .and (.s 18) (.c (.int .u64 4294967295))), none, [0]⟩,
    ⟨(some 8), (.mv (.s 19)), none, [1, 0, 1]⟩] false)
  (.seq (.region [
    ⟨(some 20), (.mv (.s 1)), none, []⟩,
    ⟨(some 21), (.bin .shr (.s 20) (.c (.int .u64 32))), none, [0]⟩,
    ⟨(some 9), (.mv (.s 21)), none, [1, 0, 1]⟩] false)
  (.seq (.region [
    ⟨(some 22), (.mv (.s 6)), none, []⟩,
    ⟨(some 23), (.mv (.s 8)), none, []⟩,
    ⟨(some 24), (.bin .mul (.s 22) (.s 23)), none, [0, 1]⟩,
    ⟨(some 10), (.mv (.s 24)), none, [2, 0, 1, 2]⟩] false)
  (.seq (.region [
    ⟨(some 25), (.mv (.s 7)), none, []⟩,
    ⟨(some 26), (.mv (.s 8)), none, []⟩,
    ⟨(some 27), (.bin .mul (.s 25) (.s 26)), none, [0, 1]⟩,
    ⟨(some 28), (.mv (.s 10)), none, []⟩,
    ⟨(some 29), (.bin .shr (.s 28) (.c (.int .u64 32))), none, [3]⟩,
    ⟨(some 30), (.bin .add (.s 27) (.s 29)), none, [2, 4]⟩,
    ⟨(some 11), (.mv (.s 30)), none, [5, 0, 1, 2, 3, 4, 5]⟩] false)
  (.seq (.region [
    ⟨(some 31), (.mv (.s 11)), none, []⟩,
    ⟨(some 32), (.bin .and (.s 31) (.c (.int .u64 4294967295))), none, [0]⟩,
    ⟨(some 12), (.mv (.s 32)), none, [1, 0, 1]⟩] false)
  (.seq (.region [
    ⟨(some 33), (.mv (.s 11)), none, []⟩,
    ⟨(some 34), (.bin .shr (.s 33) (.c (.int .u64 32))), none, [0]⟩,
    ⟨(some 13), (.mv (.s 34)), none, [1, 0, 1]⟩] false)
  (.seq (.region [
    ⟨(some 35), (.mv (.s 12)), none, []⟩,
    ⟨(some 36), (.mv (.s 6)), none, []⟩,
    ⟨(some 37), (.mv (.s 9)), none, []⟩,
    ⟨(some 38), (.bin .mul (.s 36) (.s 37)), none, [1, 2]⟩,
    ⟨(some 39), (.bin .add (.s 35) (.s 38)), none, [0, 3]⟩,
    ⟨(some 12), (.mv (.s 39)), none, [4, 0, 1, 2, 3, 4]⟩] false)
  (.seq (.region [
    ⟨(some 40), (.mv (.s 7)), none, []⟩,
    ⟨(some 41), (.mv (.s 9)), none, []⟩,
    ⟨(some 42), (.bin .mul (.s 40) (.s 41)), none, [0, 1]⟩,
    ⟨(some 43), (.mv (.s 13)), none, []⟩,
    ⟨(some 44), (.bin .add (.s 42) (.s 43)), none, [2, 3]⟩,
    ⟨(some 45), (.mv (.s 12)), none, []⟩,
    ⟨(some 46), (.bin .shr (.s 45) (.c (.int .u64 32))), none, [5]⟩,
    ⟨(some 47), (.bin .add (.s 44) (.s 46)), none, [4, 6]⟩,
    ⟨(some 4), (.mv (.s 47)), none, [7, 0, 1, 2, 3, 4, 5, 6, 7]⟩] false)
  (.seq (.region [
    ⟨(some 48), (.mv (.s 0)), none, []⟩,
    ⟨(some 49), (.mv (.s 1)), none, []⟩,
    ⟨(some 50), (.bin .mul (.s 48) (.s 49)), none, [0, 1]⟩,
    ⟨(some 5), (.mv (.s 50)), none, [2, 0, 1, 2]⟩] false)
  .ret)))))))))))), false, (some [(Sh.int .u64), (Sh.int .u64)]), (some (Sh.tu (Sh.pr (Sh.int .u64) (Sh.int .u64))))⟩

/-- euphroe/euphroelaw04.Md4Blocks -/
def k168 : Fun := ⟨3, 29, [0, 1, 2, 3, 4, 6], [(.tmp 6)],
  (.seq (.region [
    ⟨(some 3), (.box (.s 0)), none, []⟩,
    ⟨(some 4), (.box (.s 1)), none, []⟩,
    ⟨(some 6), (.mv (.c (.bool false))), none, []⟩] false)
  (.seq (.region [
    ⟨(some 7), (.lda 4 (some .u32) (.s 3)), none, []⟩,
    ⟨(some 8), (.lda 64 (some .u8) (.s 4)), none, []⟩,
    ⟨(some 9), (.call (.c (.fn 174 [])) [(.s 7), (.s 8)]), none, [0, 1]⟩,
    ⟨(some 10), (.lda 4 (some .u32) (.s 3)), none, []⟩,
    ⟨(some 11), (.lda 64 (some .u8) (.s 4)), none, []⟩,
    ⟨(some 12), (.call (.c (.fn 175 [])) [(.s 10), (.s 11)]), none, [3, 4, 2]⟩,
    ⟨(some 13), (.eqa 4 false (.s 9) (.s 12)), none, [2, 5]⟩,
    ⟨(some 14), (.mv (.s 13)), none, [6, 5]⟩,
    ⟨(some 15), (.mv (.s 2)), (some (14, true)), [7]⟩,
    ⟨(some 16), (.call (.c (.fn 176 [])) [(.s 15)]), (some (14, true)), [8, 7, 7]⟩,
    ⟨(some 17), (.mv (.s 2)), (some (14, true)), [7]⟩,
    ⟨(some 18), (.call (.c (.fn 177 [])) [(.s 17)]), (some (14, true)), [10, 9, 7]⟩,
    ⟨(some 19), (.call (.c (.fn 23 [])) [(.s 16), (.s 18)]), (some (14, true)), [9, 11, 11, 7]⟩,
    ⟨(some 20), (.pick (.s 14) (.s 19) (.c (.bool false))), none, [7, 12]⟩,
    ⟨(some 21), (.mv (.s 20)), none, [13, 12]⟩,
    ⟨(some 22), (.call (.c (.fn 178 [])) []), (some (21, true)), [14, 14]⟩,
    ⟨(some 23), (.call (.c (.fn 179 [])) []), (some (21, true)), [15, 14]⟩,
    ⟨(some 24), (.eqa 4 false (.s 22) (.s 23)), (some (21, true)), [15, 16, 14]⟩,
    ⟨(some 25), (.pick (.s 21) (.s 24) (.c (.bool false))), none, [14, 17]⟩,
    ⟨(some 26), (.mv (.s 25)), none, [18, 16]⟩,
    ⟨(some 27), (.call (.c (.fn 180 [])) []), (some (26, true)), [19, 19]⟩,
    ⟨(some 28), (.pick (.s 26) (.s 27) (.c (.bool false))), none, [19, 20]⟩,
    ⟨(some 6), (.mv (.s 28)), none, [21, 20, 0, 1, 2, 3, 4, 5, 6, 7, 8, 9, 10, 11, 12, 13, 14, 15, 16, 17, 18, 19, 20, 21]⟩] true)
  .ret)), false, (some [(Sh.ar .u32), (Sh.ar .u8), (Sh.int .u64)]), (some Sh.bool)⟩

/-- euphroe/euphroelaw04.Md4Is -/
def k169 : Fun := ⟨1, 16, [0, 2, 5], [(.tmp 2)],
  (.seq (.region [
    ⟨(some 2), (.mv (.c (.bool false))), none, []⟩] false)
  (.seq (.seq (.region [
    ⟨(some 3), (.mv (.s 0)), none, []⟩,
    ⟨(some 4), (.len false (.s 3)), none, [0]⟩,
    ⟨(some 5), (.bin .gtr (.s 4) (.c (.int .i64 400))), none, [1]⟩] false)
  (.cond (.s 5)
   (.seq (.region [
     ⟨(some 6), (.call (.c (.fn 180 [])) []), none, []⟩,
     ⟨(some 2), (.mv (.s 6)), none, [0, 0, 0]⟩] false)
   .ret)
   .skip))
  (.seq (.region [
    ⟨(some 7), (.mv (.s 0)), none, []⟩,
    ⟨(some 8), (.bsl 1 1 (.vals [.nils]) [(0, 1, (.s 7))]), none, [0]⟩,
    ⟨(some 9), (.call (.c (.fn 181 [])) [(.s 8)]), none, [1]⟩,
    ⟨(some 10), (.mv (.s 0)), none, []⟩,
    ⟨(some 11), (.call (.c (.fn 182 [])) [(.s 10)]), none, [3, 2]⟩,
    ⟨(some 12), (.eqa 16 false (.s 9) (.s 11)), none, [2, 4]⟩,
    ⟨(some 13), (.mv (.s 12)), none, [5, 4]⟩,
    ⟨(some 14), (.call (.c (.fn 180 [])) []), (some (13, true)), [6, 6]⟩,
    ⟨(some 15), (.pick (.s 13) (.s 14) (.c (.bool false))), none, [6, 7]⟩,
    ⟨(some 2), (.mv (.s 15)), none, [8, 7, 0, 1, 2, 3, 4, 5, 6, 7, 8]⟩] false)
  .ret))), false, (some [(Sh.sl (Sh.int .u8))]), (some Sh.bool)⟩

/-- euphroe/euphroelaw04.Md4Parts -/
def k170 : Fun := ⟨1, 99, [0, 2, 3, 5, 6, 7, 8, 9, 10, 13, 15, 16, 17, 18, 23, 55, 63], [(.tmp 2)],
  (.seq (.region [
    ⟨(some 2), (.mv (.c (.bool false))), none, []⟩] false)
  (.seq (.seq (.region [
    ⟨(some 11), (.mv (.s 0)), none, []⟩,
    ⟨(some 12), (.len false (.s 11)), none, [0]⟩,
    ⟨(some 13), (.bin .gtr (.s 12) (.c (.int .i64 20))), none, [1]⟩] false)
  (.cond (.s 13)
   (.seq (.region [
     ⟨(some 14), (.call (.c (.fn 180 [])) []), none, []⟩,
     ⟨(some 2), (.mv (.s 14)), none, [0, 0, 0]⟩] false)
   .ret)
   .skip))
  (.seq (.region [
    ⟨(some 3), (.mv (.c .nils)), none, []⟩] false)
  (.seq (.seq (.region [
    ⟨(some 15), (.mv (.s 0)), none, []⟩,
    ⟨(some 16), (.len false (.s 15)), none, [0]⟩,
    ⟨(some 17), (.mv (.c (.int .i64 0))), none, []⟩] false)
  (.block 0
   (.loop ⟨0, [], false, [0, 3, 15, 16, 17], [(3, (.ints .u8 []), 1)]⟩
    (.seq (.region [
      ⟨(some 18), (.bin .lss (.s 17) (.s 16)), none, []⟩] false)
    (.seq (.cond (.s 18)
     .skip
     (.pre ⟨0, [], false, [0, 3], []⟩ (.exit 0)))
    (.seq (.block 1
     (.seq (.region [
       ⟨(some 19), (.iad 1 (.s 15) (.s 17)), none, []⟩,
       ⟨(some 20), (.ldc (.s 19)), none, [0]⟩,
       ⟨(some 5), (.mv (.s 20)), none, [1, 0, 1]⟩] false)
     (.seq (.seq (.region [
       ⟨(some 21), (.mv (.s 5)), none, []⟩,
       ⟨(some 22), (.len false (.s 21)), none, [0]⟩,
       ⟨(some 23), (.bin .gtr (.s 22) (.c (.int .i64 100))), none, [1]⟩] false)
     (.cond (.s 23)
      (.seq (.region [
        ⟨(some 24), (.call (.c (.fn 180 [])) []), none, []⟩,
        ⟨(some 2), (.mv (.s 24)), none, [0, 0, 0]⟩] false)
      .ret)
      .skip))
     (.region [
       ⟨(some 25), (.mv (.s 3)), none, []⟩,
       ⟨(some 26), (.mv (.s 5)), none, []⟩,
       ⟨(some 27), (.app 1 1 (.s 25) (.s 26)), none, [0, 1]⟩,
       ⟨(some 3), (.mv (.s 27)), none, [2, 2, 0, 1, 2]⟩] false))))
    (.region [
      ⟨(some 28), (.bin .add (.s 17) (.c (.int .i64 1))), none, []⟩,
      ⟨(some 17), (.mv (.s 28)), none, [0]⟩] false)))))))
  (.seq (.region [
    ⟨(some 29), (.mv (.s 3)), none, []⟩,
    ⟨(some 30), (.len false (.s 29)), none, [0]⟩,
    ⟨(some 6), (.mv (.s 30)), none, [1, 0, 1]⟩] false)
  (.seq (.region [
    ⟨(some 31), (.mv (.s 6)), none, []⟩,
    ⟨(some 32), (.cvi .u64 (.s 31)), none, [0]⟩,
    ⟨(some 33), (.call (.c (.fn 176 [])) [(.s 32)]), none, [1]⟩,
    ⟨(some 7), (.mv (.s 33)), none, [2, 2, 0, 1, 2]⟩] false)
  (.seq (.seq (.region [
    ⟨(some 34), (.mv (.s 6)), none, []⟩,
    ⟨(some 35), (.mv (.s 7)), none, []⟩,
    ⟨(some 36), (.len false (.s 35)), none, [1]⟩,
    ⟨(some 37), (.bin .add (.s 34) (.s 36)), none, [0, 2]⟩,
    ⟨(some 38), (.bin .rem (.s 37) (.c (.int .i64 64))), none, [3]⟩,
    ⟨(some 39), (.bin .neq (.s 38) (.c (.int .i64 0))), none, [4]⟩,
    ⟨(some 40), (.mv (.s 39)), none, [5]⟩,
    ⟨(some 41), (.mv (.s 7)), (some (40, false)), [6]⟩,
    ⟨(some 42), (.len false (.s 41)), (some (40, false)), [7, 6]⟩,
    ⟨(some 43), (.bin .lss (.s 42) (.c (.int .i64 9))), (some (40, false)), [8, 6]⟩,
    ⟨(some 44), (.pick (.s 40) (.c (.bool true)) (.s 43)), none, [6, 9]⟩,
    ⟨(some 45), (.mv (.s 44)), none, [10, 6]⟩,
    ⟨(some 46), (.mv (.s 7)), (some (45, false)), [11]⟩,
    ⟨(some 47), (.len false (.s 46)), (some (45, false)), [12, 11]⟩,
    ⟨(some 48), (.bin .gtr (.s 47) (.c (.int .i64 72))), (some (45, false)), [13, 11]⟩,
    ⟨(some 49), (.pick (.s 45) (.c (.bool true)) (.s 48)), none, [11, 14]⟩,
    ⟨(some 50), (.mv (.s 49)), none, [15, 11]⟩,
    ⟨(some 51), (.mv (.s 7)), (some (50, false)), [16]⟩,
    ⟨(some 52), (.iad 1 (.s 51) (.c (.int .i64 0))), (some (50, false)), [17, 16]⟩,
    ⟨(some 53), (.ldc (.s 52)), (some (50, false)), [18, 16]⟩,
    ⟨(some 54), (.bin .neq (.s 53) (.c (.int .u8 128))), (some (50, false)), [19, 16]⟩,
    ⟨(some 55), (.pick (.s 50) (.c (.bool true)) (.s 54)), none, [16, 20]⟩] false)
  (.cond (.s 55)
   (.seq (.region [
     ⟨(some 2), (.mv (.c (.bool false))), none, []⟩] false)
   .ret)
   .skip))
  (.seq (.region [
    ⟨(some 56), (.call (.c (.fn 178 [])) []), none, []⟩,
    ⟨(some 8), (.new (.ints .u32 [0, 0, 0, 0])), none, []⟩,
    ⟨none, (.stc 4 (.s 8) (.s 56)), none, [1, 0, 0, 0, 1]⟩] false)
  (.seq (.seq (.region [
    ⟨(some 57), (.mv (.s 3)), none, []⟩,
    ⟨(some 58), (.app 1 1 (.c .nils) (.s 57)), none, [0]⟩,
    ⟨(some 59), (.mv (.s 7)), none, []⟩,
    ⟨(some 60), (.app 1 1 (.s 58) (.s 59)), none, [1, 2, 1]⟩,
    ⟨(some 9), (.mv (.s 60)), none, [3, 3, 0, 1, 2, 3]⟩] false)
  (.block 2
   (.loop ⟨1, [(9, (Sh.sl (Sh.int .u8)))], false, [0, 3, 8, 9], []⟩
    (.seq (.seq (.region [
      ⟨(some 61), (.mv (.s 9)), none, []⟩,
      ⟨(some 62), (.len false (.s 61)), none, [0]⟩,
      ⟨(some 63), (.bin .gtr (.s 62) (.c (.int .i64 0))), none, [1]⟩] false)
    (.cond (.s 63)
     .skip
     (.pre ⟨0, [], false, [0, 3, 8], []⟩ (.exit 2))))
    (.seq (.block 3
     (.region [
       ⟨(some 66), (.lda 4 (some .u32) (.s 8)), none, []⟩,
       ⟨(some 67), (.mv (.s 9)), none, []⟩,
       ⟨(some 68), (.sls 1 (.s 67) none (some (.c (.int .i64 64))) none), none, [1]⟩,
       ⟨(some 69), (.s2a 64 (.s 68)), none, [2]⟩,
       ⟨(some 70), (.lda 64 (some .u8) (.s 69)), none, [3]⟩,
       ⟨(some 71), (.call (.c (.fn 174 [])) [(.s 66), (.s 70)]), none, [0, 4]⟩,
       ⟨none, (.stc 4 (.s 8) (.s 71)), none, [5, 5, 0, 1, 2, 3, 4, 5]⟩] true))
    (.region [
      ⟨(some 64), (.mv (.s 9)), none, []⟩,
      ⟨(some 65), (.sls 1 (.s 64) (some (.c (.int .i64 64))) none none), none, [0]⟩,
      ⟨(some 9), (.mv (.s 65)), none, [1, 0, 1]⟩] false))))))
  (.seq (.region [
    ⟨(some 72), (.mv (.s 3)), none, []⟩,
    ⟨(some 73), (.bsl 1 1 (.vals [.nils]) [(0, 1, (.s 72))]), none, [0]⟩,
    ⟨(some 74), (.call (.c (.fn 181 [])) [(.s 73)]), none, [1]⟩,
    ⟨(some 10), (.new (.ints .u8 [0, 0, 0, 0, 0, 0, 0, 0, 0, 0, 0, 0, 0, 0, 0, 0])), none, []⟩,
    ⟨none, (.stc 16 (.s 10) (.s 74)), none, [3, 2, 2, 0, 1, 2, 3]⟩] false)
  (.seq (.region [
    ⟨(some 75), (.mv (.s 0)), none, []⟩,
    ⟨(some 76), (.call (.c (.fn 181 [])) [(.s 75)]), none, [0]⟩,
    ⟨(some 77), (.lda 16 (some .u8) (.s 10)), none, []⟩,
    ⟨(some 78), (.eqa 16 false (.s 76) (.s 77)), none, [1, 2]⟩,
    ⟨(some 79), (.mv (.s 78)), none, [3, 1]⟩,
    ⟨(some 80), (.iaa 16 1 (.s 10) (.c (.int .i64 0))), (some (79, true)), [4]⟩,
    ⟨(some 81), (.ldc (.s 80)), (some (79, true)), [5, 4]⟩,
    ⟨(some 82), (.iaa 4 1 (.s 8) (.c (.int .i64 0))), (some (79, true)), [4]⟩,
    ⟨(some 83), (.ldc (.s 82)), (some (79, true)), [7, 4]⟩,
    ⟨(some 84), (.cvi .u8 (.s 83)), (some (79, true)), [8, 4]⟩,
    ⟨(some 85), (.bin .eql (.s 81) (.s 84)), (some (79, true)), [6, 9, 4]⟩,
    ⟨(some 86), (.pick (.s 79) (.s 85) (.c (.bool false))), none, [4, 10]⟩,
    ⟨(some 87), (.mv (.s 86)), none, [11, 4]⟩,
    ⟨(some 88), (.iaa 16 1 (.s 10) (.c (.int .i64 15))), (some (87, true)), [12]⟩,
    ⟨(some 89), (.ldc (.s 88)), (some (87, true)), [13, 12]⟩,
    ⟨(some 90), (.iaa 4 1 (.s 8) (.c (.int .i64 3))), (some (87, true)), [12]⟩,
    ⟨(some 91), (.ldc (.s 90)), (some (87, true)), [15, 12]⟩,
    ⟨(some 92), (.bin .shr (.s 91) (.c (.int .u64 24))), (some (87, true)), [16, 12]⟩,
    ⟨(some 93), (.cvi .u8 (.s 92)), (some (87, true)), [17, 12]⟩,
    ⟨(some 94), (.bin .eql (.s 89) (.s 93)), (some (87, true)), [14, 18, 12]⟩,
    ⟨(some 95), (.pick (.s 87) (.s 94) (.c (.bool false))), none, [12, 19]⟩,
    ⟨(some 96), (.mv (.s 95)), none, [20, 12]⟩,
    ⟨(some 97), (.call (.c (.fn 180 [])) []), (some (96, true)), [21, 21]⟩,
    ⟨(some 98), (.pick (.s 96) (.s 97) (.c (.bool false))), none, [21, 22]⟩,
    ⟨(some 2), (.mv (.s 98)), none, [23, 22, 0, 1, 2, 3, 4, 5, 6, 7, 8, 9, 10, 11, 12, 13, 14, 15, 16, 17, 18, 19, 20, 21, 22, 23]⟩] true)
  .ret))))))))))), false, (some [(Sh.sl (Sh.sl (Sh.int .u8)))]), (some Sh.bool)⟩

/-- euphroe/euphroelaw05.Sha1Blocks -/
def k171 : Fun := ⟨3, 29, [0, 1, 2, 3, 4, 6], [(.tmp 6)],
  (.seq (.region [
    ⟨(some 3), (.box (.s 0)), none, []⟩,
    ⟨(some 4), (.box (.s 1)), none, []⟩,
    ⟨(some 6), (.mv (.c (.bool false))), none, []⟩] false)
  (.seq (.region [
    ⟨(some 7), (.lda 5 (some .u32) (.s 3)), none, []⟩,
    ⟨(some 8), (.lda 64 (some .u8) (.s 4)), none, []⟩,
    ⟨(some 9), (.call (.c (.fn 183 [])) [(.s 7), (.s 8)]), none, [0, 1]⟩,
    ⟨(some 10), (.lda 5 (some .u32) (.s 3)), none, []⟩,
    ⟨(some 11), (.lda 64 (some .u8) (.s 4)), none, []⟩,
    ⟨(some 12), (.call (.c (.fn 184 [])) [(.s 10), (.s 11)]), none, [3, 4, 2]⟩,
    ⟨(some 13), (.eqa 5 false (.s 9) (.s 12)), none, [2, 5]⟩,
    ⟨(some 14), (.mv (.s 13)), none, [6, 5]⟩,
    ⟨(some 15), (.mv (.s 2)), (some (14, true)), [7]⟩,
    ⟨(some 16), (.call (.c (.fn 185 [])) [(.s 15)]), (some (14, true)), [8, 7, 7]⟩,
    ⟨(some 17), (.mv (.s 2)), (some (14, true)), [7]⟩,
    ⟨(some 18), (.call (.c (.fn 186 [])) [(.s 17)]), (some (14, true)), [10, 9, 7]⟩,
    ⟨(some 19), (.call (.c (.fn 23 [])) [(.s 16), (.s 18)]), (some (14, true)), [9, 11, 11, 7]⟩,
    ⟨(some 20), (.pick (.s 14) (.s 19) (.c (.bool false))), none, [7, 12]⟩,
    ⟨(some 21), (.mv (.s 20)), none, [13, 12]⟩,
    ⟨(some 22), (.call (.c (.fn 187 [])) []), (some (21, true)), [14, 14]⟩,
    ⟨(some 23), (.call (.c (.fn 188 [])) []), (some (21, true)), [15, 14]⟩,
    ⟨(some 24), (.eqa 5 false (.s 22) (.s 23)), (some (21, true)), [15, 16, 14]⟩,
    ⟨(some 25), (.pick (.s 21) (.s 24) (.c (.bool false))), none, [14, 17]⟩,
    ⟨(some 26), (.mv (.s 25)), none, [18, 16]⟩,
    ⟨(some 27), (.call (.c (.fn 189 [])) []), (some (26, true)), [19, 19]⟩,
    ⟨(some 28), (.pick (.s 26) (.s 27) (.c (.bool false))), none, [19, 20]⟩,
    ⟨(some 6), (.mv (.s 28)), none, [21, 20, 0, 1, 2, 3, 4, 5, 6, 7, 8, 9, 10, 11, 12, 13, 14, 15, 16, 17, 18, 19, 20, 21]⟩] true)
  .ret)), false, (some [(Sh.ar .u32), (Sh.ar .u8), (Sh.int .u64)]), (some Sh.bool)⟩

/-- euphroe/euphroelaw05.Sha1Is -/
def k172 : Fun := ⟨1, 16, [0, 2, 5], [(.tmp 2)],
  (.seq (.region [
    ⟨(some 2), (.mv (.c (.bool false))), none, []⟩] false)
  (.seq (.seq (.region [
    ⟨(some 3), (.mv (.s 0)), none, []⟩,
    ⟨(some 4), (.len false (.s 3)), none, [0]⟩,
    ⟨(some 5), (.bin .gtr (.s 4) (.c (.int .i64 400))), none, [1]⟩] false)
  (.cond (.s 5)
   (.seq (.region [
     ⟨(some 6), (.call (.c (.fn 189 [])) []), none, []⟩,
     ⟨(some 2), (.mv (.s 6)), none, [0, 0, 0]⟩] false)
   .ret)
   .skip))
  (.seq (.region [
    ⟨(some 7), (.mv (.s 0)), none, []⟩,
    ⟨(some 8), (.bsl 1 1 (.vals [.nils]) [(0, 1, (.s 7))]), none, [0]⟩,
    ⟨(some 9), (.call (.c (.fn 190 [])) [(.s 8)]), none, [1]⟩,
    ⟨(some 10), (.mv (.s 0)), none, []⟩,
    ⟨(some 11), (.call (.c (.fn 191 [])) [(.s 10)]), none, [3, 2]⟩,
    ⟨(some 12), (.eqa 20 false (.s 9) (.s 11)), none, [2, 4]⟩,
    ⟨(some 13), (.mv (.s 12)), none, [5, 4]⟩,
    ⟨(some 14), (.call (.c (.fn 189 [])) []), (some (13, true)), [6, 6]⟩,
    ⟨(some 15), (.pick (.s 13) (.s 14) (.c (.bool false))), none, [6, 7]⟩,
    ⟨(some 2), (.mv (.s 15)), none, [8, 7, 0, 1, 2, 3, 4, 5, 6, 7, 8]⟩] false)
  .ret))), false, (some [(Sh.sl (Sh.int .u8))]), (some Sh.bool)⟩

/-- euphroe/euphroelaw05.Sha1Parts -/
def k173 : Fun := ⟨1, 99, [0, 2, 3, 5, 6, 7, 8, 9, 10, 13, 15, 16, 17, 18, 23, 55, 63], [(.tmp 2)],
  (.seq (.region [
    ⟨(some 2), (.mv (.c (.bool false))), none, []⟩] false)
  (.seq (.seq (.region [
    ⟨(some 11), (.mv (.s 0)), none, []⟩,
    ⟨(some 12), (.len false (.s 11)), none, [0]⟩,
    ⟨(some 13), (.bin .gtr (.s 12) (.c (.int .i64 20))), none, [1]⟩] false)
  (.cond (.s 13)
   (.seq (.region [
     ⟨(some 14), (.call (.c (.fn 189 [])) []), none, []⟩,
     ⟨(some 2), (.mv (.s 14)), none, [0, 0, 0]⟩] false)
   .ret)
   .skip))
  (.seq (.region [
    ⟨(some 3), (.mv (.c .nils)), none, []⟩] false)
  (.seq (.seq (.region [
    ⟨(some 15), (.mv (.s 0)), none, []⟩,
    ⟨(some 16), (.len false (.s 15)), none, [0]⟩,
    ⟨(some 17), (.mv (.c (.int .i64 0))), none, []⟩] false)
  (.block 0
   (.loop ⟨0, [], false, [0, 3, 15, 16, 17], [(3, (.ints .u8 []), 1)]⟩
    (.seq (.region [
      ⟨(some 18), (.bin .lss (.s 17) (.s 16)), none, []⟩] false)
    (.seq (.cond (.s 18)
     .skip
     (.pre ⟨0, [], false, [0, 3], []⟩ (.exit 0)))
    (.seq (.block 1
     (.seq (.region [
       ⟨(some 19), (.iad 1 (.s 15) (.s 17)), none, []⟩,
       ⟨(some 20), (.ldc (.s 19)), none, [0]⟩,
       ⟨(some 5), (.mv (.s 20)), none, [1, 0, 1]⟩] false)
     (.seq (.seq (.region [
       ⟨(some 21), (.mv (.s 5)), none, []⟩,
       ⟨(some 22), (.len false (.s 21)), none, [0]⟩,
       ⟨(some 23), (.bin .gtr (.s 22) (.c (.int .i64 100))), none, [1]⟩] false)
     (.cond (.s 23)
      (.seq (.region [
        ⟨(some 24), (.call (.c (.fn 189 [])) []), none, []⟩,
        ⟨(some 2), (.mv (.s 24)), none, [0, 0, 0]⟩] false)
      .ret)
      .skip))
     (.region [
       ⟨(some 25), (.mv (.s 3)), none, []⟩,
       ⟨(some 26), (.mv (.s 5)), none, []⟩,
       ⟨(some 27), (.app 1 1 (.s 25) (.s 26)), none, [0, 1]⟩,
       ⟨(some 3), (.mv (.s 27)), none, [2, 2, 0, 1, 2]⟩] false))))
    (.region [
      ⟨(some 28), (.bin .add (.s 17) (.c (.int .i64 1))), none, []⟩,
      ⟨(some 17), (.mv (.s 28)), none, [0]⟩] false)))))))
  (.seq (.region [
    ⟨(some 29), (.mv (.s 3)), none, []⟩,
    ⟨(some 30), (.len false (.s 29)), none, [0]⟩,
    ⟨(some 6), (.mv (.s 30)), none, [1, 0, 1]⟩] false)
  (.seq (.region [
    ⟨(some 31), (.mv (.s 6)), none, []⟩,
    ⟨(some 32), (.cvi .u64 (.s 31)), none, [0]⟩,
    ⟨(some 33), (.call (.c (.fn 185 [])) [(.s 32)]), none, [1]⟩,
    ⟨(some 7), (.mv (.s 33)), none, [2, 2, 0, 1, 2]⟩] false)
  (.seq (.seq (.region [
    ⟨(some 34), (.mv (.s 6)), none, []⟩,
    ⟨(some 35), (.mv (.s 7)), none, []⟩,
    ⟨(some 36), (.len false (.s 35)), none, [1]⟩,
    ⟨(some 37), (.bin .add (.s 34) (.s 36)), none, [0, 2]⟩,
    ⟨(some 38), (.bin .rem (.s 37) (.c (.int .i64 64))), none, [3]⟩,
    ⟨(some 39), (.bin .neq (.s 38) (.c (.int .i64 0))), none, [4]⟩,
    ⟨(some 40), (.mv (.s 39)), none, [5]⟩,
    ⟨(some 41), (.mv (.s 7)), (some (40, false)), [6]⟩,
    ⟨(some 42), (.len false (.s 41)), (some (40, false)), [7, 6]⟩,
    ⟨(some 43), (.bin .lss (.s 42) (.c (.int .i64 9))), (some (40, false)), [8, 6]⟩,
    ⟨(some 44), (.pick (.s 40) (.c (.bool true)) (.s 43)), none, [6, 9]⟩,
    ⟨(some 45), (.mv (.s 44)), none, [10, 6]⟩,
    ⟨(some 46), (.mv (.s 7)), (some (45, false)), [11]⟩,
    ⟨(some 47), (.len false (.s 46)), (some (45, false)), [12, 11]⟩,
    ⟨(some 48), (.bin .gtr (.s 47) (.c (.int .i64 72))), (some (45, false)), [13, 11]⟩,
    ⟨(some 49), (.pick (.s 45) (.c (.bool true)) (.s 48)), none, [11, 14]⟩,
    ⟨(some 50), (.mv (.s 49)), none, [15, 11]⟩,
    ⟨(some 51), (.mv (.s 7)), (some (50, false)), [16]⟩,
    ⟨(some 52), (.iad 1 (.s 51) (.c (.int .i64 0))), (some (50, false)), [17, 16]⟩,
    ⟨(some 53), (.ldc (.s 52)), (some (50, false)), [18, 16]⟩,
    ⟨(some 54), (.bin .neq (.s 53) (.c (.int .u8 128))), (some (50, false)), [19, 16]⟩,
    ⟨(some 55), (.pick (.s 50) (.c (.bool true)) (.s 54)), none, [16, 20]⟩] false)
  (.cond (.s 55)
   (.seq (.region [
     ⟨(some 2), (.mv (.c (.bool false))), none, []⟩] false)
   .ret)
   .skip))
  (.seq (.region [
    ⟨(some 56), (.call (.c (.fn 187 [])) []), none, []⟩,
    ⟨(some 8), (.new (.ints .u32 [0, 0, 0, 0, 0])), none, []⟩,
    ⟨none, (.stc 5 (.s 8) (.s 56)), none, [1, 0, 0, 0, 1]⟩] false)
  (.seq (.seq (.region [
    ⟨(some 57), (.mv (.s 3)), none, []⟩,
    ⟨(some 58), (.app 1 1 (.c .nils) (.s 57)), none, [0]⟩,
    ⟨(some 59), (.mv (.s 7)), none, []⟩,
    ⟨(some 60), (.app 1 1 (.s 58) (.s 59)), none, [1, 2, 1]⟩,
    ⟨(some 9), (.mv (.s 60)), none, [3, 3, 0, 1, 2, 3]⟩] false)
  (.block 2
   (.loop ⟨1, [(9, (Sh.sl (Sh.int .u8)))], false, [0, 3, 8, 9], []⟩
    (.seq (.seq (.region [
      ⟨(some 61), (.mv (.s 9)), none, []⟩,
      ⟨(some 62), (.len false (.s 61)), none, [0]⟩,
      ⟨(some 63), (.bin .gtr (.s 62) (.c (.int .i64 0))), none, [1]⟩] false)
    (.cond (.s 63)
     .skip
     (.pre ⟨0, [], false, [0, 3, 8], []⟩ (.exit 2))))
    (.seq (.block 3
     (.region [
       ⟨(some 66), (.lda 5 (some .u32) (.s 8)), none, []⟩,
       ⟨(some 67), (.mv (.s 9)), none, []⟩,
       ⟨(some 68), (.sls 1 (.s 67) none (some (.c (.int .i64 64))) none), none, [1]⟩,
       ⟨(some 69), (.s2a 64 (.s 68)), none, [2]⟩,
       ⟨(some 70), (.lda 64 (some .u8) (.s 69)), none, [3]⟩,
       ⟨(some 71), (.call (.c (.fn 183 [])) [(.s 66), (.s 70)]), none, [0, 4]⟩,
       ⟨none, (.stc 5 (.s 8) (.s 71)), none, [5, 5, 0, 1, 2, 3, 4, 5]⟩] true))
    (.region [
      ⟨(some 64), (.mv (.s 9)), none, []⟩,
      ⟨(some 65), (.sls 1 (.s 64) (some (.c (.int .i64 64))) none none), none, [0]⟩,
      ⟨(some 9), (.mv (.s 65)), none, [1, 0, 1]⟩] false))))))
  (.seq (.region [
    ⟨(some 72), (.mv (.s 3)), none, []⟩,
    ⟨(some 73), (.bsl 1 1 (.vals [.nils]) [(0, 1, (.s 72))]), none, [0]⟩,
    ⟨(some 74), (.call (.c (.fn 190 [])) [(.s 73)]), none, [1]⟩,
    ⟨(some 10), (.new (.ints .u8 [0, 0, 0, 0, 0, 0, 0, 0, 0, 0, 0, 0, 0, 0, 0, 0, 0, 0, 0, 0])), none, []⟩,
    ⟨none, (.stc 20 (.s 10) (.s 74)), none, [3, 2, 2, 0, 1, 2, 3]⟩] false)
  (.seq (.region [
    ⟨(some 75), (.mv (.s 0)), none, []⟩,
    ⟨(some 76), (.call (.c (.fn 190 [])) [(.s 75)]), none, [0]⟩,
    ⟨(some 77), (.lda 20 (some .u8) (.s 10)), none, []⟩,
    ⟨(some 78), (.eqa 20 false (.s 76) (.s 77)), none, [1, 2]⟩,
    ⟨(some 79), (.mv (.s 78)), none, [3, 1]⟩,
    ⟨(some 80), (.iaa 20 1 (.s 10) (.c (.int .i64 0))), (some (79, true)), [4]⟩,
    ⟨(some 81), (.ldc (.s 80)), (some (79, true)), [5, 4]⟩,
    ⟨(some 82), (.iaa 5 1 (.s 8) (.c (.int .i64 0))), (some (79, true)), [4]⟩,
    ⟨(some 83), (.ldc (.s 82)), (some (79, true)), [7, 4]⟩,
    ⟨(some 84), (.bin .shr (.s 83) (.c (.int .u64 24))), (some (79, true)), [8, 4]⟩,
    ⟨(some 85), (.cvi .u8 (.s 84)), (some (79, true)), [9, 4]⟩,
    ⟨(some 86), (.bin .eql (.s 81) (.s 85)), (some (79, true)), [6, 10, 4]⟩,
    ⟨(some 87), (.pick (.s 79) (.s 86) (.c (.bool false))), none, [4, 11]⟩,
    ⟨(some 88), (.mv (.s 87)), none, [12, 4]⟩,
    ⟨(some 89), (.iaa 20 1 (.s 10) (.c (.int .i64 19))), (some (88, true)), [13]⟩,
    ⟨(some 90), (.ldc (.s 89)), (some (88, true)), [14, 13]⟩,
    ⟨(some 91), (.iaa 5 1 (.s 8) (.c (.int .i64 4))), (some (88, true)), [13]⟩,
    ⟨(some 92), (.ldc (.s 91)), (some (88, true)), [16, 13]⟩,
    ⟨(some 93), (.cvi .u8 (.s 92)), (some (88, true)), [17, 13]⟩,
    ⟨(some 94), (.bin .eql (.s 90) (.s 93)), (some (88, true)), [15, 18, 13]⟩,
    ⟨(some 95), (.pick (.s 88) (.s 94) (.c (.bool false))), none, [13, 19]⟩,
    ⟨(some 96), (.mv (.s 95)), none, [20, 13]⟩,
    ⟨(some 97), (.call (.c (.fn 189 [])) []), (some (96, true)), [21, 21]⟩,
    ⟨(some 98), (.pick (.s 96) (.s 97) (.c (.bool false))), none, [21, 22]⟩,
    ⟨(some 2), (.mv (.s 98)), none, [23, 22, 0, 1, 2, 3, 4, 5, 6, 7, 8, 9, 10, 11, 12, 13, 14, 15, 16, 17, 18, 19, 20, 21, 22, 23]⟩] true)
  .ret))))))))))), false, (some [(Sh.sl (Sh.sl (Sh.int .u8)))]), (some Sh.bool)⟩

/-- euphroe/md4.Block -/
def k174 : Fun := ⟨2, 74, [0, 1, 2, 3, 4, 5, 6, 7, 8, 9, 10, 11, 12, 16, 17, 18, 22, 23, 24, 61, 62], [(.cell 4 4 true (some .u32))],
  (.seq (.region [
    ⟨(some 2), (.box (.s 0)), none, []⟩,
    ⟨(some 3), (.box (.s 1)), none, []⟩,
    ⟨(some 4), (.new (.ints .u32 [0, 0, 0, 0])), none, []⟩] false)
  (.seq (.region [
    ⟨(some 13), (.lda 64 (some .u8) (.s 3)), none, []⟩,
    ⟨(some 14), (.call (.c (.fn 192 [])) [(.s 13)]), none, [0]⟩,
    ⟨(some 5), (.new (.ints .u32 [0, 0, 0, 0, 0, 0, 0, 0, 0, 0, 0, 0, 0, 0, 0, 0])), none, []⟩,
    ⟨none, (.stc 16 (.s 5) (.s 14)), none, [2, 1, 1, 0, 1, 2]⟩] false)
  (.seq (.region [
    ⟨(some 15), (.lda 4 (some .u32) (.s 2)), none, []⟩,
    ⟨(some 6), (.new (.ints .u32 [0, 0, 0, 0])), none, []⟩,
    ⟨none, (.stc 4 (.s 6) (.s 15)), none, [1, 0, 0, 1]⟩] false)
  (.seq (.seq (.region [
    ⟨(some 16), (.call (.c (.fn 193 [])) []), none, []⟩,
    ⟨(some 17), (.mv (.c (.int .i64 0))), none, []⟩] false)
  (.block 0
   (.loop ⟨0, [], false, [2, 4, 5, 6, 16, 17], []⟩
    (.seq (.region [
      ⟨(some 18), (.bin .lss (.s 17) (.c (.int .i64 3))), none, []⟩] false)
    (.seq (.cond (.s 18)
     .skip
     (.pre ⟨0, [], false, [2, 4, 6], []⟩ (.exit 0)))
    (.seq (.block 1
     (.seq (.region [
       ⟨(some 19), (.mv (.s 17)), none, []⟩,
       ⟨(some 20), (.ixa 3 21 true none (.s 16) (.s 17)), none, []⟩,
       ⟨(some 8), (.new (.vals [(.int .u32 0), (.int .i64 0), (.int .i64 0), (.int .i64 0), (.int .i64 0), (.int .i64 0), (.int .i64 0), (.int .i64 0), (.int .i64 0), (.int .i64 0), (.int .i64 0), (.int .i64 0), (.int .i64 0), (.int .i64 0), (.int .i64 0), (.int .i64 0), (.int .i64 0), (.int .i64 0), (.int .i64 0), (.int .i64 0), (.int .i64 0)])), none, []⟩,
       ⟨(some 7), (.mv (.s 19)), none, [0, 0, 1, 2]⟩,
       ⟨none, (.stc 21 (.s 8) (.s 20)), none, [2, 1, 3, 0, 1, 2, 3]⟩] false)
     (.seq (.region [
       ⟨(some 21), (.fad 5 (.s 8)), none, []⟩,
       ⟨(some 22), (.lda 16 (some .i64) (.s 21)), none, [0]⟩,
       ⟨(some 23), (.mv (.c (.int .i64 0))), none, []⟩] false)
     (.block 2
      (.loop ⟨1, [], false, [2, 4, 5, 6, 7, 8, 16, 17, 22, 23], []⟩
       (.seq (.region [
         ⟨(some 24), (.bin .lss (.s 23) (.c (.int .i64 16))), none, []⟩] false)
       (.seq (.cond (.s 24)
        .skip
        (.pre ⟨0, [], false, [2, 4, 5, 6, 16, 17], []⟩ (.exit 2)))
       (.seq (.block 3
        (.seq (.region [
          ⟨(some 25), (.mv (.s 23)), none, []⟩,
          ⟨(some 26), (.ixa 16 1 false (some .i64) (.s 22) (.s 23)), none, []⟩,
          ⟨(some 9), (.mv (.s 25)), none, [0, 0, 1]⟩,
          ⟨(some 10), (.mv (.s 26)), none, [1, 2, 0, 1, 2]⟩] false)
        (.seq (.region [
          ⟨(some 27), (.iaa 4 1 (.s 6) (.c (.int .i64 0))), none, []⟩,
          ⟨(some 28), (.ldc (.s 27)), none, [0]⟩,
          ⟨(some 29), (.mv (.s 7)), none, []⟩,
          ⟨(some 30), (.iaa 4 1 (.s 6) (.c (.int .i64 1))), none, []⟩,
          ⟨(some 31), (.ldc (.s 30)), none, [3]⟩,
          ⟨(some 32), (.iaa 4 1 (.s 6) (.c (.int .i64 2))), none, []⟩,
          ⟨(some 33), (.ldc (.s 32)), none, [5]⟩,
          ⟨(some 34), (.iaa 4 1 (.s 6) (.c (.int .i64 3))), none, []⟩,
          ⟨(some 35), (.ldc (.s 34)), none, [7]⟩,
          ⟨(some 36), (.call (.c (.fn 194 [])) [(.s 29), (.s 31), (.s 33), (.s 35)]), none, [2, 4, 6, 8]⟩,
          ⟨(some 37), (.bin .add (.s 28) (.s 36)), none, [1, 9]⟩,
          ⟨(some 38), (.mv (.s 10)), none, []⟩,
          ⟨(some 39), (.iaa 16 1 (.s 5) (.s 38)), none, [11]⟩,
          ⟨(some 40), (.ldc (.s 39)), none, [12]⟩,
          ⟨(some 41), (.bin .add (.s 37) (.s 40)), none, [10, 13]⟩,
          ⟨(some 42), (.fad 0 (.s 8)), none, []⟩,
          ⟨(some 43), (.ldc (.s 42)), none, [15]⟩,
          ⟨(some 44), (.bin .add (.s 41) (.s 43)), none, [14, 16]⟩,
          ⟨(some 11), (.mv (.s 44)), none, [17, 9, 0, 1, 2, 3, 4, 5, 6, 7, 8, 9, 10, 11, 12, 13, 14, 15, 16, 17]⟩] true)
        (.region [
          ⟨(some 45), (.iaa 4 1 (.s 6) (.c (.int .i64 3))), none, []⟩,
          ⟨(some 46), (.ldc (.s 45)), none, [0]⟩,
          ⟨(some 47), (.mv (.s 11)), none, []⟩,
          ⟨(some 48), (.mv (.s 9)), none, []⟩,
          ⟨(some 49), (.bin .rem (.s 48) (.c (.int .i64 4))), none, [3]⟩,
          ⟨(some 50), (.fad 1 (.s 8)), none, []⟩,
          ⟨(some 51), (.iaa 4 1 (.s 50) (.s 49)), none, [5, 4]⟩,
          ⟨(some 52), (.ldc (.s 51)), none, [6]⟩,
          ⟨(some 53), (.call (.c (.fn 195 [])) [(.s 47), (.s 52)]), none, [2, 7]⟩,
          ⟨(some 54), (.iaa 4 1 (.s 6) (.c (.int .i64 1))), none, []⟩,
          ⟨(some 55), (.ldc (.s 54)), none, [9]⟩,
          ⟨(some 56), (.iaa 4 1 (.s 6) (.c (.int .i64 2))), none, []⟩,
          ⟨(some 57), (.ldc (.s 56)), none, [11]⟩,
          ⟨(some 58), (.build (.ints .u32 [0, 0, 0, 0]) [(0, 1, (.s 46)), (1, 1, (.s 53)), (2, 1, (.s 55)), (3, 1, (.s 57))]), none, [1, 8, 10, 12]⟩,
          ⟨none, (.stc 4 (.s 6) (.s 58)), none, [13, 8, 0, 1, 2, 3, 4, 5, 6, 7, 8, 9, 10, 11, 12, 13]⟩] true))))
       (.region [
         ⟨(some 59), (.bin .add (.s 23) (.c (.int .i64 1))), none, []⟩,
         ⟨(some 23), (.mv (.s 59)), none, [0]⟩] false)))))))))
    (.region [
      ⟨(some 60), (.bin .add (.s 17) (.c (.int .i64 1))), none, []⟩,
      ⟨(some 17), (.mv (.s 60)), none, [0]⟩] false)))))))
  (.seq (.seq (.region [
    ⟨(some 61), (.mv (.c (.int .i64 0))), none, []⟩] false)
  (.block 4
   (.loop ⟨2, [], false, [2, 4, 6, 61], []⟩
    (.seq (.region [
      ⟨(some 62), (.bin .lss (.s 61) (.c (.int .i64 4))), none, []⟩] false)
    (.seq (.cond (.s 62)
     .skip
     (.pre ⟨0, [], false, [4, 6], []⟩ (.exit 4)))
    (.seq (.block 5
     (.seq (.region [
       ⟨(some 63), (.mv (.s 61)), none, []⟩,
       ⟨(some 12), (.mv (.s 63)), none, [0, 0]⟩] false)
     (.region [
       ⟨(some 64), (.mv (.s 12)), none, []⟩,
       ⟨(some 65), (.iaa 4 1 (.s 6) (.s 64)), none, [0]⟩,
       ⟨(some 66), (.ldc (.s 65)), none, [1]⟩,
       ⟨(some 67), (.mv (.s 12)), none, []⟩,
       ⟨(some 68), (.iaa 4 1 (.s 2) (.s 67)), none, [3]⟩,
       ⟨(some 69), (.ldc (.s 68)), none, [4]⟩,
       ⟨(some 70), (.bin .add (.s 66) (.s 69)), none, [2, 5]⟩,
       ⟨(some 71), (.iaa 4 1 (.s 6) (.s 64)), none, [0, 0, 1, 2, 3, 4, 5, 6]⟩,
       ⟨none, (.stc 1 (.s 71) (.s 70)), none, [7, 6, 0, 1, 2, 3, 4, 5, 6]⟩] true)))
    (.region [
      ⟨(some 72), (.bin .add (.s 61) (.c (.int .i64 1))), none, []⟩,
      ⟨(some 61), (.mv (.s 72)), none, [0]⟩] false)))))))
  (.seq (.region [
    ⟨(some 73), (.lda 4 (some .u32) (.s 6)), none, []⟩,
    ⟨none, (.stc 4 (.s 4) (.s 73)), none, [0, 0]⟩] false)
  .ret)))))), false, (some [(Sh.ar .u32), (Sh.ar .u8)]), (some (Sh.ar .u32))⟩

/-- euphroe/euphroeref04.Block -/
def k175 : Fun := ⟨2, 94, [0, 1, 2, 3, 4, 5, 6, 7, 8, 9, 10, 11, 18, 82], [(.cell 4 4 true (some .u32))],
  (.seq (.region [
    ⟨(some 2), (.box (.s 0)), none, []⟩,
    ⟨(some 3), (.box (.s 1)), none, []⟩,
    ⟨(some 4), (.new (.ints .u32 [0, 0, 0, 0])), none, []⟩] false)
  (.seq (.region [
    ⟨(some 12), (.bsl 4 1 (.ints .i64 [0, 0, 0, 0]) [(0, 1, (.c (.int .i64 3))), (1, 1, (.c (.int .i64 7))), (2, 1, (.c (.int .i64 11))), (3, 1, (.c (.int .i64 19)))]), none, []⟩,
    ⟨(some 13), (.bsl 4 1 (.ints .i64 [0, 0, 0, 0]) [(0, 1, (.c (.int .i64 3))), (1, 1, (.c (.int .i64 5))), (2, 1, (.c (.int .i64 9))), (3, 1, (.c (.int .i64 13)))]), none, []⟩,
    ⟨(some 14), (.bsl 4 1 (.ints .i64 [0, 0, 0, 0]) [(0, 1, (.c (.int .i64 3))), (1, 1, (.c (.int .i64 9))), (2, 1, (.c (.int .i64 11))), (3, 1, (.c (.int .i64 15)))]), none, []⟩,
    ⟨(some 15), (.bsl 3 1 (.vals [.nils, .nils, .nils]) [(0, 1, (.s 12)), (1, 1, (.s 13)), (2, 1, (.s 14))]), none, [0, 1, 2]⟩,
    ⟨(some 5), (.mv (.s 15)), none, [3, 0, 1, 2, 3]⟩] false)
  (.seq (.region [
    ⟨(some 16), (.lda 4 (some .u32) (.s 2)), none, []⟩,
    ⟨(some 6), (.new (.ints .u32 [0, 0, 0, 0])), none, []⟩,
    ⟨none, (.stc 4 (.s 6) (.s 16)), none, [1, 0, 0, 1]⟩] false)
  (.seq (.seq (.region [
    ⟨(some 7), (.mv (.c (.int .i64 0))), none, []⟩] false)
  (.block 0
   (.loop ⟨0, [(5, (Sh.sl (Sh.sl (Sh.int .i64))))], false, [2, 3, 4, 5, 6, 7], []⟩
    (.seq (.seq (.region [
      ⟨(some 17), (.mv (.s 7)), none, []⟩,
      ⟨(some 18), (.bin .lss (.s 17) (.c (.int .i64 48))), none, [0]⟩] false)
    (.cond (.s 18)
     .skip
     (.pre ⟨0, [], false, [2, 4, 6], []⟩ (.exit 0))))
    (.seq (.block 1
     (.seq (.region [
       ⟨(some 21), (.mv (.s 7)), none, []⟩,
       ⟨(some 22), (.call (.c (.fn 196 [])) [(.s 21)]), none, [0]⟩,
       ⟨(some 23), (.bin .mul (.c (.int .i64 4)) (.s 22)), none, [1]⟩,
       ⟨(some 8), (.mv (.s 23)), none, [2, 1, 0, 1, 2]⟩] false)
     (.seq (.region [
       ⟨(some 24), (.mv (.s 8)), none, []⟩,
       ⟨(some 25), (.iaa 64 1 (.s 3) (.s 24)), none, [0]⟩,
       ⟨(some 26), (.ldc (.s 25)), none, [1]⟩,
       ⟨(some 27), (.cvi .u32 (.s 26)), none, [2]⟩,
       ⟨(some 28), (.mv (.s 8)), none, []⟩,
       ⟨(some 29), (.bin .add (.s 28) (.c (.int .i64 1))), none, [4]⟩,
       ⟨(some 30), (.iaa 64 1 (.s 3) (.s 29)), none, [5]⟩,
       ⟨(some 31), (.ldc (.s 30)), none, [6]⟩,
       ⟨(some 32), (.cvi .u32 (.s 31)), none, [7]⟩,
       ⟨(some 33), (.bin .mul (.s 32) (.c (.int .u32 256))), none, [8]⟩,
       ⟨(some 34), (.bin .add (.s 27) (.s 33)), none, [3, 9]⟩,
       ⟨(some 35), (.mv (.s 8)), none, []⟩,
       ⟨(some 36), (.bin .add (.s 35) (.c (.int .i64 2))), none, [11]⟩,
       ⟨(some 37), (.iaa 64 1 (.s 3) (.s 36)), none, [12]⟩,
       ⟨(some 38), (.ldc (.s 37)), none, [13]⟩,
       ⟨(some 39), (.cvi .u32 (.s 38)), none, [14]⟩,
       ⟨(some 40), (.bin .mul (.s 39) (.c (.int .u32 65536))), none, [15]⟩,
       ⟨(some 41), (.bin .add (.s 34) (.s 40)), none, [10, 16]⟩,
       ⟨(some 42), (.mv (.s 8)), none, []⟩,
       ⟨(some 43), (.bin .add (.s 42) (.c (.int .i64 3))), none, [18]⟩,
       ⟨(some 44), (.iaa 64 1 (.s 3) (.s 43)), none, [19]⟩,
       ⟨(some 45), (.ldc (.s 44)), none, [20]⟩,
       ⟨(some 46), (.cvi .u32 (.s 45)), none, [21]⟩,
       ⟨(some 47), (.bin .mul (.s 46) (.c (.int .u32 16777216))), none, [22]⟩,
       ⟨(some 48), (.bin .add (.s 41) (.s 47)), none, [17, 23]⟩,
       ⟨(some 9), (.mv (.s 48)), none, [24, 0, 1, 2, 3, 4, 5, 6, 7, 8, 9, 10, 11, 12, 13, 14, 15, 16, 17, 18, 19, 20, 21, 22, 23, 24]⟩] true)
     (.seq (.region [
       ⟨(some 49), (.iaa 4 1 (.s 6) (.c (.int .i64 0))), none, []⟩,
       ⟨(some 50), (.ldc (.s 49)), none, [0]⟩,
       ⟨(some 51), (.mv (.s 7)), none, []⟩,
       ⟨(some 52), (.bin .quo (.s 51) (.c (.int .i64 16))), none, [2]⟩,
       ⟨(some 53), (.iaa 4 1 (.s 6) (.c (.int .i64 1))), none, []⟩,
       ⟨(some 54), (.ldc (.s 53)), none, [4]⟩,
       ⟨(some 55), (.iaa 4 1 (.s 6) (.c (.int .i64 2))), none, []⟩,
       ⟨(some 56), (.ldc (.s 55)), none, [6]⟩,
       ⟨(some 57), (.iaa 4 1 (.s 6) (.c (.int .i64 3))), none, []⟩,
       ⟨(some 58), (.ldc (.s 57)), none, [8]⟩,
       ⟨(some 59), (.call (.c (.fn 198 [])) [(.s 52), (.s 54), (.s 56), (.s 58)]), none, [3, 5, 7, 9]⟩,
       ⟨(some 60), (.bin .add (.s 50) (.s 59)), none, [1, 10]⟩,
       ⟨(some 61), (.mv (.s 9)), none, []⟩,
       ⟨(some 62), (.bin .add (.s 60) (.s 61)), none, [11, 12]⟩,
       ⟨(some 63), (.mv (.s 5)), none, []⟩,
       ⟨(some 64), (.mv (.s 7)), none, []⟩,
       ⟨(some 65), (.bin .quo (.s 64) (.c (.int .i64 16))), none, [15]⟩,
       ⟨(some 66), (.iad 1 (.s 63) (.s 65)), none, [14, 16]⟩,
       ⟨(some 67), (.ldc (.s 66)), none, [17]⟩,
       ⟨(some 68), (.mv (.s 7)), none, []⟩,
       ⟨(some 69), (.bin .rem (.s 68) (.c (.int .i64 4))), none, [19]⟩,
       ⟨(some 70), (.iad 1 (.s 67) (.s 69)), none, [18, 20]⟩,
       ⟨(some 71), (.ldc (.s 70)), none, [21]⟩,
       ⟨(some 72), (.call (.c (.fn 197 [])) [(.s 62), (.s 71)]), none, [13, 22, 10]⟩,
       ⟨(some 10), (.mv (.s 72)), none, [23, 23, 0, 1, 2, 3, 4, 5, 6, 7, 8, 9, 10, 11, 12, 13, 14, 15, 16, 17, 18, 19, 20, 21, 22, 23]⟩] true)
     (.region [
       ⟨(some 73), (.iaa 4 1 (.s 6) (.c (.int .i64 3))), none, []⟩,
       ⟨(some 74), (.ldc (.s 73)), none, [0]⟩,
       ⟨(some 75), (.mv (.s 10)), none, []⟩,
       ⟨(some 76), (.iaa 4 1 (.s 6) (.c (.int .i64 1))), none, []⟩,
       ⟨(some 77), (.ldc (.s 76)), none, [3]⟩,
       ⟨(some 78), (.iaa 4 1 (.s 6) (.c (.int .i64 2))), none, []⟩,
       ⟨(some 79), (.ldc (.s 78)), none, [5]⟩,
       ⟨(some 80), (.build (.ints .u32 [0, 0, 0, 0]) [(0, 1, (.s 74)), (1, 1, (.s 75)), (2, 1, (.s 77)), (3, 1, (.s 79))]), none, [1, 2, 4, 6]⟩,
       ⟨none, (.stc 4 (.s 6) (.s 80)), none, [7, 0, 1, 2, 3, 4, 5, 6, 7]⟩] false)))))
    (.region [
      ⟨(some 19), (.mv (.s 7)), none, []⟩,
      ⟨(some 20), (.bin .add (.s 19) (.c (.int .i64 1))), none, [0]⟩,
      ⟨(some 7), (.mv (.s 20)), none, [1, 0, 1]⟩] false))))))
  (.seq (.seq (.region [
    ⟨(some 11), (.mv (.c (.int .i64 0))), none, []⟩] false)
  (.block 2
   (.loop ⟨1, [], false, [2, 4, 6, 11], []⟩
    (.seq (.seq (.region [
      ⟨(some 81), (.mv (.s 11)), none, []⟩,
      ⟨(some 82), (.bin .lss (.s 81) (.c (.int .i64 4))), none, [0]⟩] false)
    (.cond (.s 82)
     .skip
     (.pre ⟨0, [], false, [4, 6], []⟩ (.exit 2))))
    (.seq (.block 3
     (.region [
       ⟨(some 85), (.mv (.s 11)), none, []⟩,
       ⟨(some 86), (.iaa 4 1 (.s 6) (.s 85)), none, [0]⟩,
       ⟨(some 87), (.ldc (.s 86)), none, [1]⟩,
       ⟨(some 88), (.mv (.s 11)), none, []⟩,
       ⟨(some 89), (.iaa 4 1 (.s 2) (.s 88)), none, [3]⟩,
       ⟨(some 90), (.ldc (.s 89)), none, [4]⟩,
       ⟨(some 91), (.bin .add (.s 87) (.s 90)), none, [2, 5]⟩,
       ⟨(some 92), (.iaa 4 1 (.s 6) (.s 85)), none, [0, 0, 1, 2, 3, 4, 5, 6]⟩,
       ⟨none, (.stc 1 (.s 92) (.s 91)), none, [7, 6, 0, 1, 2, 3, 4, 5, 6]⟩] true))
    (.region [
      ⟨(some 83), (.mv (.s 11)), none, []⟩,
      ⟨(some 84), (.bin .add (.s 83) (.c (.int .i64 1))), none, [0]⟩,
      ⟨(some 11), (.mv (.s 84)), none, [1, 0, 1]⟩] false))))))
  (.seq (.region [
    ⟨(some 93), (.lda 4 (some .u32) (.s 6)), none, []⟩,
    ⟨none, (.stc 4 (.s 4) (.s 93)), none, [0, 0]⟩] false)
  .ret)))))), false, (some [(Sh.ar .u32), (Sh.ar .u8)]), (some (Sh.ar .u32))⟩

/-- euphroe/md4.Tail -/
def k176 : Fun := ⟨1, 25, [0, 2, 3, 4, 5], [(.tmp 2)],
  (.seq (.region [
    ⟨(some 2), (.mv (.c .nils)), none, []⟩] false)
  (.seq (.region [
    ⟨(some 7), (.mv (.s 0)), none, []⟩,
    ⟨(some 8), (.bin .add (.s 7) (.c (.int .u64 1))), none, [0]⟩,
    ⟨(some 9), (.bin .add (.s 8) (.c (.int .u64 8))), none, [1]⟩,
    ⟨(some 10), (.bin .rem (.s 9) (.c (.int .u64 64))), none, [2]⟩,
    ⟨(some 11), (.bin .sub (.c (.int .u64 64)) (.s 10)), none, [3]⟩,
    ⟨(some 12), (.bin .rem (.s 11) (.c (.int .u64 64))), none, [4]⟩,
    ⟨(some 3), (.mv (.s 12)), none, [5, 0, 1, 2, 3, 4, 5]⟩] false)
  (.seq (.region [
    ⟨(some 13), (.bsl 1 1 (.ints .u8 [0]) [(0, 1, (.c (.int .u8 128)))]), none, []⟩,
    ⟨(some 14), (.mv (.s 3)), none, []⟩,
    ⟨(some 15), (.apz 1 1 (.ints .u8 [0]) (.s 13) (.s 14)), none, [0, 1]⟩,
    ⟨(some 4), (.mv (.s 15)), none, [2, 2, 0, 1, 2]⟩] false)
  (.seq (.region [
    ⟨(some 17), (.mv (.s 0)), none, []⟩,
    ⟨(some 18), (.bin .mul (.s 17) (.c (.int .u64 8))), none, [0]⟩,
    ⟨(some 19), (.call (.c (.fn 19 [])) [(.s 18), (.c (.int .i64 8)), (.c (.bool true))]), none, [1]⟩,
    ⟨(some 16), (.mv (.s 19)), none, [2]⟩,
    ⟨(some 20), (.ext (.s 16) 0), none, [3]⟩,
    ⟨(some 21), (.ext (.s 16) 1), none, [3]⟩,
    ⟨(some 5), (.mv (.s 20)), none, [4, 2, 0, 1, 2, 3, 4]⟩,
    ⟨(some 6), (.mv (.s 21)), none, [5, 6, 0, 1, 2, 3, 4, 5, 6]⟩] false)
  (.seq (.region [
    ⟨(some 22), (.mv (.s 4)), none, []⟩,
    ⟨(some 23), (.mv (.s 5)), none, []⟩,
    ⟨(some 24), (.app 1 1 (.s 22) (.s 23)), none, [0, 1]⟩,
    ⟨(some 2), (.mv (.s 24)), none, [2, 2, 0, 1, 2]⟩] false)
  .ret))))), false, (some [(Sh.int .u64)]), (some (Sh.sl (Sh.int .u8)))⟩

/-- euphroe/euphroeref04.Tail -/
def k177 : Fun := ⟨1, 32, [0, 2, 3, 4, 5, 13, 20], [(.tmp 2)],
  (.seq (.region [
    ⟨(some 2), (.mv (.c .nils)), none, []⟩] false)
  (.seq (.region [
    ⟨(some 6), (.bsl 1 1 (.ints .u8 [0]) [(0, 1, (.c (.int .u8 128)))]), none, []⟩,
    ⟨(some 3), (.mv (.s 6)), none, [0, 0]⟩] false)
  (.seq (.block 0
   (.loop ⟨0, [], false, [0, 3], [(3, (.imm []), 1)]⟩
    (.seq (.seq (.region [
      ⟨(some 7), (.mv (.s 0)), none, []⟩,
      ⟨(some 8), (.mv (.s 3)), none, []⟩,
      ⟨(some 9), (.len false (.s 8)), none, [1]⟩,
      ⟨(some 10), (.cvi .u64 (.s 9)), none, [2]⟩,
      ⟨(some 11), (.bin .add (.s 7) (.s 10)), none, [0, 3]⟩,
      ⟨(some 12), (.bin .rem (.s 11) (.c (.int .u64 64))), none, [4]⟩,
      ⟨(some 13), (.bin .neq (.s 12) (.c (.int .u64 56))), none, [5]⟩] false)
    (.cond (.s 13)
     .skip
     (.pre ⟨0, [], false, [0, 3], []⟩ (.exit 0))))
    (.block 1
     (.region [
       ⟨(some 14), (.mv (.s 3)), none, []⟩,
       ⟨(some 15), (.bsl 1 1 (.ints .u8 [0]) [(0, 1, (.c (.int .u8 0)))]), none, []⟩,
       ⟨(some 16), (.app 1 1 (.s 14) (.s 15)), none, [0, 1]⟩,
       ⟨(some 3), (.mv (.s 16)), none, [2, 2, 0, 1, 2]⟩] false)))))
  (.seq (.region [
    ⟨(some 17), (.mv (.s 0)), none, []⟩,
    ⟨(some 18), (.bin .mul (.c (.int .u64 8)) (.s 17)), none, [0]⟩,
    ⟨(some 4), (.mv (.s 18)), none, [1, 0, 1]⟩] false)
  (.seq (.seq (.region [
    ⟨(some 5), (.mv (.c (.int .i64 0))), none, []⟩] false)
  (.block 2
   (.loop ⟨1, [], false, [3, 4, 5], []⟩
    (.seq (.seq (.region [
      ⟨(some 19), (.mv (.s 5)), none, []⟩,
      ⟨(some 20), (.bin .lss (.s 19) (.c (.int .i64 8))), none, [0]⟩] false)
    (.cond (.s 20)
     .skip
     (.pre ⟨0, [], false, [3], []⟩ (.exit 2))))
    (.seq (.block 3
     (.seq (.region [
       ⟨(some 23), (.mv (.s 3)), none, []⟩,
       ⟨(some 24), (.mv (.s 4)), none, []⟩,
       ⟨(some 25), (.bin .rem (.s 24) (.c (.int .u64 256))), none, [1]⟩,
       ⟨(some 26), (.cvi .u8 (.s 25)), none, [2]⟩,
       ⟨(some 27), (.bsl 1 1 (.ints .u8 [0]) [(0, 1, (.s 26))]), none, [3]⟩,
       ⟨(some 28), (.app 1 1 (.s 23) (.s 27)), none, [0, 4]⟩,
       ⟨(some 3), (.mv (.s 28)), none, [5, 5, 0, 1, 2, 3, 4, 5]⟩] false)
     (.region [
       ⟨(some 29), (.mv (.s 4)), none, []⟩,
       ⟨(some 30), (.bin .quo (.s 29) (.c (.int .u64 256))), none, [0]⟩,
       ⟨(some 4), (.mv (.s 30)), none, [1, 0, 1]⟩] false)))
    (.region [
      ⟨(some 21), (.mv (.s 5)), none, []⟩,
      ⟨(some 22), (.bin .add (.s 21) (.c (.int .i64 1))), none, [0]⟩,
      ⟨(some 5), (.mv (.s 22)), none, [1, 0, 1]⟩] false))))))
  (.seq (.region [
    ⟨(some 31), (.mv (.s 3)), none, []⟩,
    ⟨(some 2), (.mv (.s 31)), none, [0, 0]⟩] false)
  .ret)))))), false, (some [(Sh.int .u64)]), (some (Sh.sl (Sh.int .u8)))⟩

/-- euphroe/md4.First -/
def k178 : Fun := ⟨0, 2, [0], [(.cell 0 4 true (some .u32))],
  (.seq (.region [
    ⟨(some 0), (.new (.ints .u32 [0, 0, 0, 0])), none, []⟩] false)
  (.seq (.region [
    ⟨(some 1), (.build (.ints .u32 [0, 0, 0, 0]) [(0, 1, (.c (.int .u32 1732584193))), (1, 1, (.c (.int .u32 4023233417))), (2, 1, (.c (.int .u32 2562383102))), (3, 1, (.c (.int .u32 271733878)))]), none, []⟩,
    ⟨none, (.stc 4 (.s 0) (.s 1)), none, [0, 0]⟩] false)
  .ret)), false, (some []), (some (Sh.ar .u32))⟩

/-- euphroe/euphroeref04.First -/
def k179 : Fun := ⟨0, 2, [0], [(.cell 0 4 true (some .u32))],
  (.seq (.region [
    ⟨(some 0), (.new (.ints .u32 [0, 0, 0, 0])), none, []⟩] false)
  (.seq (.region [
    ⟨(some 1), (.build (.ints .u32 [0, 0, 0, 0]) [(0, 1, (.c (.int .u32 1732584193))), (1, 1, (.c (.int .u32 4023233417))), (2, 1, (.c (.int .u32 2562383102))), (3, 1, (.c (.int .u32 271733878)))]), none, []⟩,
    ⟨none, (.stc 4 (.s 0) (.s 1)), none, [0, 0]⟩] false)
  .ret)), false, (some []), (some (Sh.ar .u32))⟩

/-- euphroe/euphroelaw04.alive -/
def k180 : Fun := ⟨0, 31, [0, 1], [(.tmp 0)],
  (.seq (.region [
    ⟨(some 0), (.mv (.c (.bool false))), none, []⟩] false)
  (.seq (.region [
    ⟨(some 2), (.call (.c (.fn 181 [])) [(.c .nils)]), none, []⟩,
    ⟨(some 1), (.new (.ints .u8 [0, 0, 0, 0, 0, 0, 0, 0, 0, 0, 0, 0, 0, 0, 0, 0])), none, []⟩,
    ⟨none, (.stc 16 (.s 1) (.s 2)), none, [1, 0, 0, 0, 1]⟩] false)
  (.seq (.region [
    ⟨(some 3), (.iaa 16 1 (.s 1) (.c (.int .i64 0))), none, []⟩,
    ⟨(some 4), (.ldc (.s 3)), none, [0]⟩,
    ⟨(some 5), (.bin .eql (.s 4) (.c (.int .u8 49))), none, [1]⟩,
    ⟨(some 6), (.mv (.s 5)), none, [2]⟩,
    ⟨(some 7), (.iaa 16 1 (.s 1) (.c (.int .i64 1))), (some (6, true)), [3]⟩,
    ⟨(some 8), (.ldc (.s 7)), (some (6, true)), [4, 3]⟩,
    ⟨(some 9), (.bin .eql (.s 8) (.c (.int .u8 214))), (some (6, true)), [5, 3]⟩,
    ⟨(some 10), (.pick (.s 6) (.s 9) (.c (.bool false))), none, [3, 6]⟩,
    ⟨(some 11), (.mv (.s 10)), none, [7, 3]⟩,
    ⟨(some 12), (.iaa 16 1 (.s 1) (.c (.int .i64 2))), (some (11, true)), [8]⟩,
    ⟨(some 13), (.ldc (.s 12)), (some (11, true)), [9, 8]⟩,
    ⟨(some 14), (.bin .eql (.s 13) (.c (.int .u8 207))), (some (11, true)), [10, 8]⟩,
    ⟨(some 15), (.pick (.s 11) (.s 14) (.c (.bool false))), none, [8, 11]⟩,
    ⟨(some 16), (.mv (.s 15)), none, [12, 8]⟩,
    ⟨(some 17), (.iaa 16 1 (.s 1) (.c (.int .i64 3))), (some (16, true)), [13]⟩,
    ⟨(some 18), (.ldc (.s 17)), (some (16, true)), [14, 13]⟩,
    ⟨(some 19), (.bin .eql (.s 18) (.c (.int .u8 224))), (some (16, true)), [15, 13]⟩,
    ⟨(some 20), (.pick (.s 16) (.s 19) (.c (.bool false))), none, [13, 16]⟩,
    ⟨(some 21), (.mv (.s 20)), none, [17, 13]⟩,
    ⟨(some 22), (.call (.c (.fn 176 [])) [(.c (.int .u64 0))]), (some (21, true)), [18, 18]⟩,
    ⟨(some 23), (.len false (.s 22)), (some (21, true)), [19, 18]⟩,
    ⟨(some 24), (.bin .eql (.s 23) (.c (.int .i64 64))), (some (21, true)), [20, 18]⟩,
    ⟨(some 25), (.pick (.s 21) (.s 24) (.c (.bool false))), none, [18, 21]⟩,
    ⟨(some 26), (.mv (.s 25)), none, [22, 19]⟩,
    ⟨(some 27), (.call (.c (.fn 178 [])) []), (some (26, true)), [23, 23]⟩,
    ⟨(some 28), (.build (.ints .u32 [0, 0, 0, 0]) []), (some (26, true)), [23]⟩,
    ⟨(some 29), (.eqa 4 true (.s 27) (.s 28)), (some (26, true)), [24, 25, 23]⟩,
    ⟨(some 30), (.pick (.s 26) (.s 29) (.c (.bool false))), none, [23, 26]⟩,
    ⟨(some 0), (.mv (.s 30)), none, [27, 24, 0, 1, 2, 3, 4, 5, 6, 7, 8, 9, 10, 11, 12, 13, 14, 15, 16, 17, 18, 19, 20, 21, 22, 23, 24, 25, 26, 27]⟩] false)
  .ret))), false, (some []), (some Sh.bool)⟩

/-- euphroe/md4.Of -/
def k181 : Fun := ⟨1, 43, [0, 2, 3, 4, 5, 6, 18, 27, 28], [(.cell 2 16 true (some .u8))],
  (.seq (.region [
    ⟨(some 2), (.new (.ints .u8 [0, 0, 0, 0, 0, 0, 0, 0, 0, 0, 0, 0, 0, 0, 0, 0])), none, []⟩] false)
  (.seq (.region [
    ⟨(some 7), (.mv (.s 0)), none, []⟩,
    ⟨(some 8), (.call (.c (.fn 46 [])) [(.s 7)]), none, [0]⟩,
    ⟨(some 3), (.mv (.s 8)), none, [1, 1, 0, 1]⟩] false)
  (.seq (.region [
    ⟨(some 9), (.mv (.s 3)), none, []⟩,
    ⟨(some 10), (.mv (.s 3)), none, []⟩,
    ⟨(some 11), (.len false (.s 10)), none, [1]⟩,
    ⟨(some 12), (.cvi .u64 (.s 11)), none, [2]⟩,
    ⟨(some 13), (.call (.c (.fn 176 [])) [(.s 12)]), none, [3]⟩,
    ⟨(some 14), (.app 1 1 (.s 9) (.s 13)), none, [0, 4, 4]⟩,
    ⟨(some 3), (.mv (.s 14)), none, [5, 5, 0, 1, 2, 3, 4, 5]⟩] false)
  (.seq (.region [
    ⟨(some 15), (.call (.c (.fn 178 [])) []), none, []⟩,
    ⟨(some 4), (.new (.ints .u32 [0, 0, 0, 0])), none, []⟩,
    ⟨none, (.stc 4 (.s 4) (.s 15)), none, [1, 0, 0, 0, 1]⟩] false)
  (.seq (.block 0
   (.loop ⟨0, [(3, (Sh.sl (Sh.int .u8)))], false, [2, 3, 4], []⟩
    (.seq (.seq (.region [
      ⟨(some 16), (.mv (.s 3)), none, []⟩,
      ⟨(some 17), (.len false (.s 16)), none, [0]⟩,
      ⟨(some 18), (.bin .gtr (.s 17) (.c (.int .i64 0))), none, [1]⟩] false)
    (.cond (.s 18)
     .skip
     (.pre ⟨0, [], false, [2, 4], []⟩ (.exit 0))))
    (.seq (.block 1
     (.region [
       ⟨(some 21), (.lda 4 (some .u32) (.s 4)), none, []⟩,
       ⟨(some 22), (.mv (.s 3)), none, []⟩,
       ⟨(some 23), (.sls 1 (.s 22) none (some (.c (.int .i64 64))) none), none, [1]⟩,
       ⟨(some 24), (.s2a 64 (.s 23)), none, [2]⟩,
       ⟨(some 25), (.lda 64 (some .u8) (.s 24)), none, [3]⟩,
       ⟨(some 26), (.call (.c (.fn 174 [])) [(.s 21), (.s 25)]), none, [0, 4]⟩,
       ⟨none, (.stc 4 (.s 4) (.s 26)), none, [5, 5, 0, 1, 2, 3, 4, 5]⟩] true))
    (.region [
      ⟨(some 19), (.mv (.s 3)), none, []⟩,
      ⟨(some 20), (.sls 1 (.s 19) (some (.c (.int .i64 64))) none none), none, [0]⟩,
      ⟨(some 3), (.mv (.s 20)), none, [1, 0, 1]⟩] false)))))
  (.seq (.region [
    ⟨(some 5), (.new (.ints .u8 [0, 0, 0, 0, 0, 0, 0, 0, 0, 0, 0, 0, 0, 0, 0, 0])), none, []⟩] false)
  (.seq (.seq (.region [
    ⟨(some 27), (.mv (.c (.int .i64 0))), none, []⟩] false)
  (.block 2
   (.loop ⟨1, [], false, [2, 4, 5, 27], []⟩
    (.seq (.region [
      ⟨(some 28), (.bin .lss (.s 27) (.c (.int .i64 16))), none, []⟩] false)
    (.seq (.cond (.s 28)
     .skip
     (.pre ⟨0, [], false, [2, 5], []⟩ (.exit 2)))
    (.seq (.block 3
     (.seq (.region [
       ⟨(some 29), (.mv (.s 27)), none, []⟩,
       ⟨(some 6), (.mv (.s 29)), none, [0, 0]⟩] false)
     (.region [
       ⟨(some 30), (.mv (.s 6)), none, []⟩,
       ⟨(some 31), (.mv (.s 6)), none, []⟩,
       ⟨(some 32), (.bin .quo (.s 31) (.c (.int .i64 4))), none, [1]⟩,
       ⟨(some 33), (.iaa 4 1 (.s 4) (.s 32)), none, [2]⟩,
       ⟨(some 34), (.ldc (.s 33)), none, [3]⟩,
       ⟨(some 35), (.mv (.s 6)), none, []⟩,
       ⟨(some 36), (.bin .rem (.s 35) (.c (.int .i64 4))), none, [5]⟩,
       ⟨(some 37), (.bin .mul (.c (.int .i64 8)) (.s 36)), none, [6]⟩,
       ⟨(some 38), (.bin .shr (.s 34) (.s 37)), none, [4, 7]⟩,
       ⟨(some 39), (.cvi .u8 (.s 38)), none, [8]⟩,
       ⟨(some 40), (.iaa 16 1 (.s 5) (.s 30)), none, [0, 0, 1, 2, 3, 4, 5, 6, 7, 8, 9]⟩,
       ⟨none, (.stc 1 (.s 40) (.s 39)), none, [10, 9, 0, 1, 2, 3, 4, 5, 6, 7, 8, 9]⟩] false)))
    (.region [
      ⟨(some 41), (.bin .add (.s 27) (.c (.int .i64 1))), none, []⟩,
      ⟨(some 27), (.mv (.s 41)), none, [0]⟩] false)))))))
  (.seq (.region [
    ⟨(some 42), (.lda 16 (some .u8) (.s 5)), none, []⟩,
    ⟨none, (.stc 16 (.s 2) (.s 42)), none, [0, 0]⟩] false)
  .ret)))))))), false, (some [(Sh.sl (Sh.sl (Sh.int .u8)))]), (some (Sh.ar .u8))⟩

/-- euphroe/euphroeref04.Of -/
def k182 : Fun := ⟨1, 55, [0, 2, 3, 4, 5, 6, 7, 8, 9, 21, 25, 40], [(.cell 2 16 true (some .u8))],
  (.seq (.region [
    ⟨(some 2), (.new (.ints .u8 [0, 0, 0, 0, 0, 0, 0, 0, 0, 0, 0, 0, 0, 0, 0, 0])), none, []⟩] false)
  (.seq (.region [
    ⟨(some 10), (.mv (.s 0)), none, []⟩,
    ⟨(some 11), (.app 1 1 (.c .nils) (.s 10)), none, [0]⟩,
    ⟨(some 12), (.mv (.s 0)), none, []⟩,
    ⟨(some 13), (.len false (.s 12)), none, [2]⟩,
    ⟨(some 14), (.cvi .u64 (.s 13)), none, [3]⟩,
    ⟨(some 15), (.call (.c (.fn 177 [])) [(.s 14)]), none, [4, 1]⟩,
    ⟨(some 16), (.app 1 1 (.s 11) (.s 15)), none, [1, 5, 5]⟩,
    ⟨(some 3), (.mv (.s 16)), none, [6, 6, 0, 1, 2, 3, 4, 5, 6]⟩] false)
  (.seq (.region [
    ⟨(some 17), (.call (.c (.fn 179 [])) []), none, []⟩,
    ⟨(some 4), (.new (.ints .u32 [0, 0, 0, 0])), none, []⟩,
    ⟨none, (.stc 4 (.s 4) (.s 17)), none, [1, 0, 0, 0, 1]⟩] false)
  (.seq (.seq (.region [
    ⟨(some 5), (.mv (.c (.int .i64 0))), none, []⟩] false)
  (.block 0
   (.loop ⟨0, [], false, [2, 3, 4, 5], []⟩
    (.seq (.seq (.region [
      ⟨(some 18), (.mv (.s 5)), none, []⟩,
      ⟨(some 19), (.mv (.s 3)), none, []⟩,
      ⟨(some 20), (.len false (.s 19)), none, [1]⟩,
      ⟨(some 21), (.bin .lss (.s 18) (.s 20)), none, [0, 2]⟩] false)
    (.cond (.s 21)
     .skip
     (.pre ⟨0, [], false, [2, 4], []⟩ (.exit 0))))
    (.seq (.block 1
     (.seq (.region [
       ⟨(some 6), (.new (.ints .u8 [0, 0, 0, 0, 0, 0, 0, 0, 0, 0, 0, 0, 0, 0, 0, 0, 0, 0, 0, 0, 0, 0, 0, 0, 0, 0, 0, 0, 0, 0, 0, 0, 0, 0, 0, 0, 0, 0, 0, 0, 0, 0, 0, 0, 0, 0, 0, 0, 0, 0, 0, 0, 0, 0, 0, 0, 0, 0, 0, 0, 0, 0, 0, 0])), none, []⟩] false)
     (.seq (.seq (.region [
       ⟨(some 7), (.mv (.c (.int .i64 0))), none, []⟩] false)
     (.block 2
      (.loop ⟨1, [], false, [2, 3, 4, 5, 6, 7], []⟩
       (.seq (.seq (.region [
         ⟨(some 24), (.mv (.s 7)), none, []⟩,
         ⟨(some 25), (.bin .lss (.s 24) (.c (.int .i64 64))), none, [0]⟩] false)
       (.cond (.s 25)
        .skip
        (.pre ⟨0, [], false, [2, 3, 4, 5, 6], []⟩ (.exit 2))))
       (.seq (.block 3
        (.region [
          ⟨(some 28), (.mv (.s 7)), none, []⟩,
          ⟨(some 29), (.mv (.s 3)), none, []⟩,
          ⟨(some 30), (.mv (.s 5)), none, []⟩,
          ⟨(some 31), (.mv (.s 7)), none, []⟩,
          ⟨(some 32), (.bin .add (.s 30) (.s 31)), none, [2, 3]⟩,
          ⟨(some 33), (.iad 1 (.s 29) (.s 32)), none, [1, 4]⟩,
          ⟨(some 34), (.ldc (.s 33)), none, [5]⟩,
          ⟨(some 35), (.iaa 64 1 (.s 6) (.s 28)), none, [0, 0, 1, 2, 3, 4, 5, 6]⟩,
          ⟨none, (.stc 1 (.s 35) (.s 34)), none, [7, 6, 0, 1, 2, 3, 4, 5, 6]⟩] false))
       (.region [
         ⟨(some 26), (.mv (.s 7)), none, []⟩,
         ⟨(some 27), (.bin .add (.s 26) (.c (.int .i64 1))), none, [0]⟩,
         ⟨(some 7), (.mv (.s 27)), none, [1, 0, 1]⟩] false))))))
     (.region [
       ⟨(some 36), (.lda 4 (some .u32) (.s 4)), none, []⟩,
       ⟨(some 37), (.lda 64 (some .u8) (.s 6)), none, []⟩,
       ⟨(some 38), (.call (.c (.fn 175 [])) [(.s 36), (.s 37)]), none, [0, 1]⟩,
       ⟨none, (.stc 4 (.s 4) (.s 38)), none, [2, 2, 0, 1, 2]⟩] false))))
    (.region [
      ⟨(some 22), (.mv (.s 5)), none, []⟩,
      ⟨(some 23), (.bin .add (.s 22) (.c (.int .i64 64))), none, [0]⟩,
      ⟨(some 5), (.mv (.s 23)), none, [1, 0, 1]⟩] false))))))
  (.seq (.region [
    ⟨(some 8), (.new (.ints .u8 [0, 0, 0, 0, 0, 0, 0, 0, 0, 0, 0, 0, 0, 0, 0, 0])), none, []⟩] false)
  (.seq (.seq (.region [
    ⟨(some 9), (.mv (.c (.int .i64 0))), none, []⟩] false)
  (.block 4
   (.loop ⟨2, [], false, [2, 4, 8, 9], []⟩
    (.seq (.seq (.region [
      ⟨(some 39), (.mv (.s 9)), none, []⟩,
      ⟨(some 40), (.bin .lss (.s 39) (.c (.int .i64 16))), none, [0]⟩] false)
    (.cond (.s 40)
     .skip
     (.pre ⟨0, [], false, [2, 8], []⟩ (.exit 4))))
    (.seq (.block 5
     (.region [
       ⟨(some 43), (.mv (.s 9)), none, []⟩,
       ⟨(some 44), (.mv (.s 9)), none, []⟩,
       ⟨(some 45), (.bin .quo (.s 44) (.c (.int .i64 4))), none, [1]⟩,
       ⟨(some 46), (.iaa 4 1 (.s 4) (.s 45)), none, [2]⟩,
       ⟨(some 47), (.ldc (.s 46)), none, [3]⟩,
       ⟨(some 48), (.mv (.s 9)), none, []⟩,
       ⟨(some 49), (.bin .rem (.s 48) (.c (.int .i64 4))), none, [5]⟩,
       ⟨(some 50), (.bin .mul (.c (.int .i64 8)) (.s 49)), none, [6]⟩,
       ⟨(some 51), (.bin .shr (.s 47) (.s 50)), none, [4, 7]⟩,
       ⟨(some 52), (.cvi .u8 (.s 51)), none, [8]⟩,
       ⟨(some 53), (.iaa 16 1 (.s 8) (.s 43)), none, [0, 0, 1, 2, 3, 4, 5, 6, 7, 8, 9]⟩,
       ⟨none, (.stc 1 (.s 53) (.s 52)), none, [10, 9, 0, 1, 2, 3, 4, 5, 6, 7, 8, 9]⟩] false))
    (.region [
      ⟨(some 41), (.mv (.s 9)), none, []⟩,
      ⟨(some 42), (.bin .add (.s 41) (.c (.int .i64 1))), none, [0]⟩,
      ⟨(some 9), (.mv (.s 42)), none, [1, 0, 1]⟩] false))))))
  (.seq (.region [
    ⟨(some 54), (.lda 16 (some .u8) (.s 8)), none, []⟩,
    ⟨none, (.stc 16 (.s 2) (.s 54)), none, [0, 0]⟩] false)
  .ret))))))), false, (some [(Sh.sl (Sh.int .u8))]), (some (Sh.ar .u8))⟩

/-- euphroe/sha1.Block -/
def k183 : Fun := ⟨2, 69, [0, 1, 2, 3, 4, 5, 6, 7, 8, 9, 10, 11, 16, 17, 56, 57], [(.cell 4 5 true (some .u32))],
  (.seq (.region [
    ⟨(some 2), (.box (.s 0)), none, []⟩,
    ⟨(some 3), (.box (.s 1)), none, []⟩,
    ⟨(some 4), (.new (.ints .u32 [0, 0, 0, 0, 0])), none, []⟩] false)
  (.seq (.region [
    ⟨(some 12), (.lda 64 (some .u8) (.s 3)), none, []⟩,
    ⟨(some 13), (.call (.c (.fn 199 [])) [(.s 12)]), none, [0]⟩,
    ⟨(some 14), (.call (.c (.fn 200 [])) []), none, [1]⟩,
    ⟨(some 5), (.new (.ints .u32 [0, 0, 0, 0, 0, 0, 0, 0, 0, 0, 0, 0, 0, 0, 0, 0, 0, 0, 0, 0, 0, 0, 0, 0, 0, 0, 0, 0, 0, 0, 0, 0, 0, 0, 0, 0, 0, 0, 0, 0, 0, 0, 0, 0, 0, 0, 0, 0, 0, 0, 0, 0, 0, 0, 0, 0, 0, 0, 0, 0, 0, 0, 0, 0, 0, 0, 0, 0, 0, 0, 0, 0, 0, 0, 0, 0, 0, 0, 0, 0])), none, []⟩,
    ⟨(some 6), (.new (.ints .u32 [0, 0, 0, 0])), none, []⟩,
    ⟨none, (.stc 80 (.s 5) (.s 13)), none, [3, 1, 2, 0, 1, 3, 4]⟩,
    ⟨none, (.stc 4 (.s 6) (.s 14)), none, [4, 2, 5, 0, 1, 2, 3, 4, 5]⟩] false)
  (.seq (.region [
    ⟨(some 15), (.lda 5 (some .u32) (.s 2)), none, []⟩,
    ⟨(some 7), (.new (.ints .u32 [0, 0, 0, 0, 0])), none, []⟩,
    ⟨none, (.stc 5 (.s 7) (.s 15)), none, [1, 0, 0, 1]⟩] false)
  (.seq (.seq (.region [
    ⟨(some 16), (.mv (.c (.int .i64 0))), none, []⟩] false)
  (.block 0
   (.loop ⟨0, [], false, [2, 4, 5, 6, 7, 16], []⟩
    (.seq (.region [
      ⟨(some 17), (.bin .lss (.s 16) (.c (.int .i64 80))), none, []⟩] false)
    (.seq (.cond (.s 17)
     .skip
     (.pre ⟨0, [], false, [2, 4, 7], []⟩ (.exit 0)))
    (.seq (.block 1
     (.seq (.region [
       ⟨(some 18), (.mv (.s 16)), none, []⟩,
       ⟨(some 8), (.mv (.s 18)), none, [0, 0]⟩] false)
     (.seq (.region [
       ⟨(some 19), (.mv (.s 8)), none, []⟩,
       ⟨(some 20), (.bin .quo (.s 19) (.c (.int .i64 20))), none, [0]⟩,
       ⟨(some 9), (.mv (.s 20)), none, [1, 0, 1]⟩] false)
     (.seq (.region [
       ⟨(some 21), (.iaa 5 1 (.s 7) (.c (.int .i64 0))), none, []⟩,
       ⟨(some 22), (.ldc (.s 21)), none, [0]⟩,
       ⟨(some 23), (.call (.c (.fn 195 [])) [(.s 22), (.c (.int .i64 5))]), none, [1]⟩,
       ⟨(some 24), (.mv (.s 9)), none, []⟩,
       ⟨(some 25), (.iaa 5 1 (.s 7) (.c (.int .i64 1))), none, []⟩,
       ⟨(some 26), (.ldc (.s 25)), none, [4]⟩,
       ⟨(some 27), (.iaa 5 1 (.s 7) (.c (.int .i64 2))), none, []⟩,
       ⟨(some 28), (.ldc (.s 27)), none, [6]⟩,
       ⟨(some 29), (.iaa 5 1 (.s 7) (.c (.int .i64 3))), none, []⟩,
       ⟨(some 30), (.ldc (.s 29)), none, [8]⟩,
       ⟨(some 31), (.call (.c (.fn 201 [])) [(.s 24), (.s 26), (.s 28), (.s 30)]), none, [3, 5, 7, 9, 2]⟩,
       ⟨(some 32), (.bin .add (.s 23) (.s 31)), none, [2, 10]⟩,
       ⟨(some 33), (.iaa 5 1 (.s 7) (.c (.int .i64 4))), none, []⟩,
       ⟨(some 34), (.ldc (.s 33)), none, [12]⟩,
       ⟨(some 35), (.bin .add (.s 32) (.s 34)), none, [11, 13]⟩,
       ⟨(some 36), (.mv (.s 9)), none, []⟩,
       ⟨(some 37), (.iaa 4 1 (.s 6) (.s 36)), none, [15]⟩,
       ⟨(some 38), (.ldc (.s 37)), none, [16]⟩,
       ⟨(some 39), (.bin .add (.s 35) (.s 38)), none, [14, 17]⟩,
       ⟨(some 40), (.mv (.s 8)), none, []⟩,
       ⟨(some 41), (.iaa 80 1 (.s 5) (.s 40)), none, [19]⟩,
       ⟨(some 42), (.ldc (.s 41)), none, [20]⟩,
       ⟨(some 43), (.bin .add (.s 39) (.s 42)), none, [18, 21]⟩,
       ⟨(some 10), (.mv (.s 43)), none, [22, 10, 0, 1, 2, 3, 4, 5, 6, 7, 8, 9, 10, 11, 12, 13, 14, 15, 16, 17, 18, 19, 20, 21, 22]⟩] true)
     (.region [
       ⟨(some 44), (.mv (.s 10)), none, []⟩,
       ⟨(some 45), (.iaa 5 1 (.s 7) (.c (.int .i64 0))), none, []⟩,
       ⟨(some 46), (.ldc (.s 45)), none, [1]⟩,
       ⟨(some 47), (.iaa 5 1 (.s 7) (.c (.int .i64 1))), none, []⟩,
       ⟨(some 48), (.ldc (.s 47)), none, [3]⟩,
       ⟨(some 49), (.call (.c (.fn 195 [])) [(.s 48), (.c (.int .i64 30))]), none, [4]⟩,
       ⟨(some 50), (.iaa 5 1 (.s 7) (.c (.int .i64 2))), none, []⟩,
       ⟨(some 51), (.ldc (.s 50)), none, [6]⟩,
       ⟨(some 52), (.iaa 5 1 (.s 7) (.c (.int .i64 3))), none, []⟩,
       ⟨(some 53), (.ldc (.s 52)), none, [8]⟩,
       ⟨(some 54), (.build (.ints .u32 [0, 0, 0, 0, 0]) [(0, 1, (.s 44)), (1, 1, (.s 46)), (2, 1, (.s 49)), (3, 1, (.s 51)), (4, 1, (.s 53))]), none, [0, 2, 5, 7, 9]⟩,
       ⟨none, (.stc 5 (.s 7) (.s 54)), none, [10, 5, 0, 1, 2, 3, 4, 5, 6, 7, 8, 9, 10]⟩] true)))))
    (.region [
      ⟨(some 55), (.bin .add (.s 16) (.c (.int .i64 1))), none, []⟩,
      ⟨(some 16), (.mv (.s 55)), none, [0]⟩] false)))))))
  (.seq (.seq (.region [
    ⟨(some 56), (.mv (.c (.int .i64 0))), none, []⟩] false)
  (.block 2
   (.loop ⟨1, [], false, [2, 4, 7, 56], []⟩
    (.seq (.region [
      ⟨(some 57), (.bin .lss (.s 56) (.c (.int .i64 5))), none, []⟩] false)
    (.seq (.cond (.s 57)
     .skip
     (.pre ⟨0, [], false, [4, 7], []⟩ (.exit 2)))
    (.seq (.block 3
     (.seq (.region [
       ⟨(some 58), (.mv (.s 56)), none, []⟩,
       ⟨(some 11), (.mv (.s 58)), none, [0, 0]⟩] false)
     (.region [
       ⟨(some 59), (.mv (.s 11)), none, []⟩,
       ⟨(some 60), (.iaa 5 1 (.s 7) (.s 59)), none, [0]⟩,
       ⟨(some 61), (.ldc (.s 60)), none, [1]⟩,
       ⟨(some 62), (.mv (.s 11)), none, []⟩,
       ⟨(some 63), (.iaa 5 1 (.s 2) (.s 62)), none, [3]⟩,
       ⟨(some 64), (.ldc (.s 63)), none, [4]⟩,
       ⟨(some 65), (.bin .add (.s 61) (.s 64)), none, [2, 5]⟩,
       ⟨(some 66), (.iaa 5 1 (.s 7) (.s 59)), none, [0, 0, 1, 2, 3, 4, 5, 6]⟩,
       ⟨none, (.stc 1 (.s 66) (.s 65)), none, [7, 6, 0, 1, 2, 3, 4, 5, 6]⟩] true)))
    (.region [
      ⟨(some 67), (.bin .add (.s 56) (.c (.int .i64 1))), none, []⟩,
      ⟨(some 56), (.mv (.s 67)), none, [0]⟩] false)))))))
  (.seq (.region [
    ⟨(some 68), (.lda 5 (some .u32) (.s 7)), none, []⟩,
    ⟨none, (.stc 5 (.s 4) (.s 68)), none, [0, 0]⟩] false)
  .ret)))))), false, (some [(Sh.ar .u32), (Sh.ar .u8)]), (some (Sh.ar .u32))⟩

/-- euphroe/euphroeref05.Block -/
def k184 : Fun := ⟨2, 118, [0, 1, 2, 3, 4, 5, 6, 7, 8, 9, 10, 12, 16, 72, 106], [(.cell 4 5 true (some .u32))],
  (.seq (.region [
    ⟨(some 2), (.box (.s 0)), none, []⟩,
    ⟨(some 3), (.box (.s 1)), none, []⟩,
    ⟨(some 4), (.new (.ints .u32 [0, 0, 0, 0, 0])), none, []⟩] false)
  (.seq (.region [
    ⟨(some 5), (.new (.ints .u32 [0, 0, 0, 0, 0, 0, 0, 0, 0, 0, 0, 0, 0, 0, 0, 0, 0, 0, 0, 0, 0, 0, 0, 0, 0, 0, 0, 0, 0, 0, 0, 0, 0, 0, 0, 0, 0, 0, 0, 0, 0, 0, 0, 0, 0, 0, 0, 0, 0, 0, 0, 0, 0, 0, 0, 0, 0, 0, 0, 0, 0, 0, 0, 0, 0, 0, 0, 0, 0, 0, 0, 0, 0, 0, 0, 0, 0, 0, 0, 0])), none, []⟩] false)
  (.seq (.seq (.region [
    ⟨(some 6), (.mv (.c (.int .i64 0))), none, []⟩] false)
  (.block 0
   (.loop ⟨0, [], false, [2, 3, 4, 5, 6], []⟩
    (.seq (.seq (.region [
      ⟨(some 11), (.mv (.s 6)), none, []⟩,
      ⟨(some 12), (.bin .lss (.s 11) (.c (.int .i64 80))), none, [0]⟩] false)
    (.cond (.s 12)
     .skip
     (.pre ⟨0, [], false, [2, 4, 5], []⟩ (.exit 0))))
    (.seq (.block 1
     (.seq (.region [
       ⟨(some 15), (.mv (.s 6)), none, []⟩,
       ⟨(some 16), (.bin .lss (.s 15) (.c (.int .i64 16))), none, [0]⟩] false)
     (.cond (.s 16)
      (.region [
        ⟨(some 17), (.mv (.s 6)), none, []⟩,
        ⟨(some 18), (.mv (.s 6)), none, []⟩,
        ⟨(some 19), (.bin .mul (.c (.int .i64 4)) (.s 18)), none, [1]⟩,
        ⟨(some 20), (.iaa 64 1 (.s 3) (.s 19)), none, [2]⟩,
        ⟨(some 21), (.ldc (.s 20)), none, [3]⟩,
        ⟨(some 22), (.cvi .u32 (.s 21)), none, [4]⟩,
        ⟨(some 23), (.bin .mul (.s 22) (.c (.int .u32 16777216))), none, [5]⟩,
        ⟨(some 24), (.mv (.s 6)), none, []⟩,
        ⟨(some 25), (.bin .mul (.c (.int .i64 4)) (.s 24)), none, [7]⟩,
        ⟨(some 26), (.bin .add (.s 25) (.c (.int .i64 1))), none, [8]⟩,
        ⟨(some 27), (.iaa 64 1 (.s 3) (.s 26)), none, [9]⟩,
        ⟨(some 28), (.ldc (.s 27)), none, [10]⟩,
        ⟨(some 29), (.cvi .u32 (.s 28)), none, [11]⟩,
        ⟨(some 30), (.bin .mul (.s 29) (.c (.int .u32 65536))), none, [12]⟩,
        ⟨(some 31), (.bin .add (.s 23) (.s 30)), none, [6, 13]⟩,
        ⟨(some 32), (.mv (.s 6)), none, []⟩,
        ⟨(some 33), (.bin .mul (.c (.int .i64 4)) (.s 32)), none, [15]⟩,
        ⟨(some 34), (.bin .add (.s 33) (.c (.int .i64 2))), none, [16]⟩,
        ⟨(some 35), (.iaa 64 1 (.s 3) (.s 34)), none, [17]⟩,
        ⟨(some 36), (.ldc (.s 35)), none, [18]⟩,
        ⟨(some 37), (.cvi .u32 (.s 36)), none, [19]⟩,
        ⟨(some 38), (.bin .mul (.s 37) (.c (.int .u32 256))), none, [20]⟩,
        ⟨(some 39), (.bin .add (.s 31) (.s 38)), none, [14, 21]⟩,
        ⟨(some 40), (.mv (.s 6)), none, []⟩,
        ⟨(some 41), (.bin .mul (.c (.int .i64 4)) (.s 40)), none, [23]⟩,
        ⟨(some 42), (.bin .add (.s 41) (.c (.int .i64 3))), none, [24]⟩,
        ⟨(some 43), (.iaa 64 1 (.s 3) (.s 42)), none, [25]⟩,
        ⟨(some 44), (.ldc (.s 43)), none, [26]⟩,
        ⟨(some 45), (.cvi .u32 (.s 44)), none, [27]⟩,
        ⟨(some 46), (.bin .add (.s 39) (.s 45)), none, [22, 28]⟩,
        ⟨(some 47), (.iaa 80 1 (.s 5) (.s 17)), none, [0, 0, 1, 2, 3, 4, 5, 6, 7, 8, 9, 10, 11, 12, 13, 14, 15, 16, 17, 18, 19, 20, 21, 22, 23, 24, 25, 26, 27, 28, 29]⟩,
        ⟨none, (.stc 1 (.s 47) (.s 46)), none, [30, 29, 0, 1, 2, 3, 4, 5, 6, 7, 8, 9, 10, 11, 12, 13, 14, 15, 16, 17, 18, 19, 20, 21, 22, 23, 24, 25, 26, 27, 28, 29]⟩] true)
      (.region [
        ⟨(some 48), (.mv (.s 6)), none, []⟩,
        ⟨(some 49), (.mv (.s 6)), none, []⟩,
        ⟨(some 50), (.bin .sub (.s 49) (.c (.int .i64 3))), none, [1]⟩,
        ⟨(some 51), (.iaa 80 1 (.s 5) (.s 50)), none, [2]⟩,
        ⟨(some 52), (.ldc (.s 51)), none, [3]⟩,
        ⟨(some 53), (.mv (.s 6)), none, []⟩,
        ⟨(some 54), (.bin .sub (.s 53) (.c (.int .i64 8))), none, [5]⟩,
        ⟨(some 55), (.iaa 80 1 (.s 5) (.s 54)), none, [6]⟩,
        ⟨(some 56), (.ldc (.s 55)), none, [7]⟩,
        ⟨(some 57), (.bin .xor (.s 52) (.s 56)), none, [4, 8]⟩,
        ⟨(some 58), (.mv (.s 6)), none, []⟩,
        ⟨(some 59), (.bin .sub (.s 58) (.c (.int .i64 14))), none, [10]⟩,
        ⟨(some 60), (.iaa 80 1 (.s 5) (.s 59)), none, [11]⟩,
        ⟨(some 61), (.ldc (.s 60)), none, [12]⟩,
        ⟨(some 62), (.bin .xor (.s 57) (.s 61)), none, [9, 13]⟩,
        ⟨(some 63), (.mv (.s 6)), none, []⟩,
        ⟨(some 64), (.bin .sub (.s 63) (.c (.int .i64 16))), none, [15]⟩,
        ⟨(some 65), (.iaa 80 1 (.s 5) (.s 64)), none, [16]⟩,
        ⟨(some 66), (.ldc (.s 65)), none, [17]⟩,
        ⟨(some 67), (.bin .xor (.s 62) (.s 66)), none, [14, 18]⟩,
        ⟨(some 68), (.call (.c (.fn 202 [])) [(.s 67), (.c (.int .i64 1))]), none, [19]⟩,
        ⟨(some 69), (.iaa 80 1 (.s 5) (.s 48)), none, [0, 0, 1, 2, 3, 4, 5, 6, 7, 8, 9, 10, 11, 12, 13, 14, 15, 16, 17, 18, 19, 20]⟩,
        ⟨none, (.stc 1 (.s 69) (.s 68)), none, [21, 20, 20, 0, 1, 2, 3, 4, 5, 6, 7, 8, 9, 10, 11, 12, 13, 14, 15, 16, 17, 18, 19, 20]⟩] true))))
    (.region [
      ⟨(some 13), (.mv (.s 6)), none, []⟩,
      ⟨(some 14), (.bin .add (.s 13) (.c (.int .i64 1))), none, [0]⟩,
      ⟨(some 6), (.mv (.s 14)), none, [1, 0, 1]⟩] false))))))
  (.seq (.region [
    ⟨(some 70), (.lda 5 (some .u32) (.s 2)), none, []⟩,
    ⟨(some 7), (.new (.ints .u32 [0, 0, 0, 0, 0])), none, []⟩,
    ⟨none, (.stc 5 (.s 7) (.s 70)), none, [1, 0, 0, 1]⟩] false)
  (.seq (.seq (.region [
    ⟨(some 8), (.mv (.c (.int .i64 0))), none, []⟩] false)
  (.block 2
   (.loop ⟨1, [], false, [2, 4, 5, 7, 8], []⟩
    (.seq (.seq (.region [
      ⟨(some 71), (.mv (.s 8)), none, []⟩,
      ⟨(some 72), (.bin .lss (.s 71) (.c (.int .i64 80))), none, [0]⟩] false)
    (.cond (.s 72)
     .skip
     (.pre ⟨0, [], false, [2, 4, 7], []⟩ (.exit 2))))
    (.seq (.block 3
     (.seq (.region [
       ⟨(some 75), (.iaa 5 1 (.s 7) (.c (.int .i64 0))), none, []⟩,
       ⟨(some 76), (.ldc (.s 75)), none, [0]⟩,
       ⟨(some 77), (.call (.c (.fn 202 [])) [(.s 76), (.c (.int .i64 5))]), none, [1]⟩,
       ⟨(some 78), (.mv (.s 8)), none, []⟩,
       ⟨(some 79), (.iaa 5 1 (.s 7) (.c (.int .i64 1))), none, []⟩,
       ⟨(some 80), (.ldc (.s 79)), none, [4]⟩,
       ⟨(some 81), (.iaa 5 1 (.s 7) (.c (.int .i64 2))), none, []⟩,
       ⟨(some 82), (.ldc (.s 81)), none, [6]⟩,
       ⟨(some 83), (.iaa 5 1 (.s 7) (.c (.int .i64 3))), none, []⟩,
       ⟨(some 84), (.ldc (.s 83)), none, [8]⟩,
       ⟨(some 85), (.call (.c (.fn 203 [])) [(.s 78), (.s 80), (.s 82), (.s 84)]), none, [3, 5, 7, 9, 2]⟩,
       ⟨(some 86), (.bin .add (.s 77) (.s 85)), none, [2, 10]⟩,
       ⟨(some 87), (.iaa 5 1 (.s 7) (.c (.int .i64 4))), none, []⟩,
       ⟨(some 88), (.ldc (.s 87)), none, [12]⟩,
       ⟨(some 89), (.bin .add (.s 86) (.s 88)), none, [11, 13]⟩,
       ⟨(some 90), (.mv (.s 8)), none, []⟩,
       ⟨(some 91), (.iaa 80 1 (.s 5) (.s 90)), none, [15]⟩,
       ⟨(some 92), (.ldc (.s 91)), none, [16]⟩,
       ⟨(some 93), (.bin .add (.s 89) (.s 92)), none, [14, 17]⟩,
       ⟨(some 9), (.mv (.s 93)), none, [18, 10, 0, 1, 2, 3, 4, 5, 6, 7, 8, 9, 10, 11, 12, 13, 14, 15, 16, 17, 18]⟩] true)
     (.region [
       ⟨(some 94), (.mv (.s 9)), none, []⟩,
       ⟨(some 95), (.iaa 5 1 (.s 7) (.c (.int .i64 0))), none, []⟩,
       ⟨(some 96), (.ldc (.s 95)), none, [1]⟩,
       ⟨(some 97), (.iaa 5 1 (.s 7) (.c (.int .i64 1))), none, []⟩,
       ⟨(some 98), (.ldc (.s 97)), none, [3]⟩,
       ⟨(some 99), (.call (.c (.fn 202 [])) [(.s 98), (.c (.int .i64 30))]), none, [4]⟩,
       ⟨(some 100), (.iaa 5 1 (.s 7) (.c (.int .i64 2))), none, []⟩,
       ⟨(some 101), (.ldc (.s 100)), none, [6]⟩,
       ⟨(some 102), (.iaa 5 1 (.s 7) (.c (.int .i64 3))), none, []⟩,
       ⟨(some 103), (.ldc (.s 102)), none, [8]⟩,
       ⟨(some 104), (.build (.ints .u32 [0, 0, 0, 0, 0]) [(0, 1, (.s 94)), (1, 1, (.s 96)), (2, 1, (.s 99)), (3, 1, (.s 101)), (4, 1, (.s 103))]), none, [0, 2, 5, 7, 9]⟩,
       ⟨none, (.stc 5 (.s 7) (.s 104)), none, [10, 5, 0, 1, 2, 3, 4, 5, 6, 7, 8, 9, 10]⟩] true)))
    (.region [
      ⟨(some 73), (.mv (.s 8)), none, []⟩,
      ⟨(some 74), (.bin .add (.s 73) (.c (.int .i64 1))), none, [0]⟩,
      ⟨(some 8), (.mv (.s 74)), none, [1, 0, 1]⟩] false))))))
  (.seq (.seq (.region [
    ⟨(some 10), (.mv (.c (.int .i64 0))), none, []⟩] false)
  (.block 4
   (.loop ⟨2, [], false, [2, 4, 7, 10], []⟩
    (.seq (.seq (.region [
      ⟨(some 105), (.mv (.s 10)), none, []⟩,
      ⟨(some 106), (.bin .lss (.s 105) (.c (.int .i64 5))), none, [0]⟩] false)
    (.cond (.s 106)
     .skip
     (.pre ⟨0, [], false, [4, 7], []⟩ (.exit 4))))
    (.seq (.block 5
     (.region [
       ⟨(some 109), (.mv (.s 10)), none, []⟩,
       ⟨(some 110), (.iaa 5 1 (.s 7) (.s 109)), none, [0]⟩,
       ⟨(some 111), (.ldc (.s 110)), none, [1]⟩,
       ⟨(some 112), (.mv (.s 10)), none, []⟩,
       ⟨(some 113), (.iaa 5 1 (.s 2) (.s 112)), none, [3]⟩,
       ⟨(some 114), (.ldc (.s 113)), none, [4]⟩,
       ⟨(some 115), (.bin .add (.s 111) (.s 114)), none, [2, 5]⟩,
       ⟨(some 116), (.iaa 5 1 (.s 7) (.s 109)), none, [0, 0, 1, 2, 3, 4, 5, 6]⟩,
       ⟨none, (.stc 1 (.s 116) (.s 115)), none, [7, 6, 0, 1, 2, 3, 4, 5, 6]⟩] true))
    (.region [
      ⟨(some 107), (.mv (.s 10)), none, []⟩,
      ⟨(some 108), (.bin .add (.s 107) (.c (.int .i64 1))), none, [0]⟩,
      ⟨(some 10), (.mv (.s 108)), none, [1, 0, 1]⟩] false))))))
  (.seq (.region [
    ⟨(some 117), (.lda 5 (some .u32) (.s 7)), none, []⟩,
    ⟨none, (.stc 5 (.s 4) (.s 117)), none, [0, 0]⟩] false)
  .ret))))))), false, (some [(Sh.ar .u32), (Sh.ar .u8)]), (some (Sh.ar .u32))⟩

/-- euphroe/sha1.Tail -/
def k185 : Fun := ⟨1, 25, [0, 2, 3, 4, 5], [(.tmp 2)],
  (.seq (.region [
    ⟨(some 2), (.mv (.c .nils)), none, []⟩] false)
  (.seq (.region [
    ⟨(some 7), (.mv (.s 0)), none, []⟩,
    ⟨(some 8), (.bin .add (.s 7) (.c (.int .u64 1))), none, [0]⟩,
    ⟨(some 9), (.bin .add (.s 8) (.c (.int .u64 8))), none, [1]⟩,
    ⟨(some 10), (.bin .rem (.s 9) (.c (.int .u64 64))), none, [2]⟩,
    ⟨(some 11), (.bin .sub (.c (.int .u64 64)) (.s 10)), none, [3]⟩,
    ⟨(some 12), (.bin .rem (.s 11) (.c (.int .u64 64))), none, [4]⟩,
    ⟨(some 3), (.mv (.s 12)), none, [5, 0, 1, 2, 3, 4, 5]⟩] false)
  (.seq (.region [
    ⟨(some 13), (.bsl 1 1 (.ints .u8 [0]) [(0, 1, (.c (.int .u8 128)))]), none, []⟩,
    ⟨(some 14), (.mv (.s 3)), none, []⟩,
    ⟨(some 15), (.apz 1 1 (.ints .u8 [0]) (.s 13) (.s 14)), none, [0, 1]⟩,
    ⟨(some 4), (.mv (.s 15)), none, [2, 2, 0, 1, 2]⟩] false)
  (.seq (.region [
    ⟨(some 17), (.mv (.s 0)), none, []⟩,
    ⟨(some 18), (.bin .mul (.s 17) (.c (.int .u64 8))), none, [0]⟩,
    ⟨(some 19), (.call (.c (.fn 19 [])) [(.s 18), (.c (.int .i64 8)), (.c (.bool false))]), none, [1]⟩,
    ⟨(some 16), (.mv (.s 19)), none, [2]⟩,
    ⟨(some 20), (.ext (.s 16) 0), none, [3]⟩,
    ⟨(some 21), (.ext (.s 16) 1), none, [3]⟩,
    ⟨(some 5), (.mv (.s 20)), none, [4, 2, 0, 1, 2, 3, 4]⟩,
    ⟨(some 6), (.mv (.s 21)), none, [5, 6, 0, 1, 2, 3, 4, 5, 6]⟩] false)
  (.seq (.region [
    ⟨(some 22), (.mv (.s 4)), none, []⟩,
    ⟨(some 23), (.mv (.s 5)), none, []⟩,
    ⟨(some 24), (.app 1 1 (.s 22) (.s 23)), none, [0, 1]⟩,
    ⟨(some 2), (.mv (.s 24)), none, [2, 2, 0, 1, 2]⟩] false)
  .ret))))), false, (some [(Sh.int .u64)]), (some (Sh.sl (Sh.int .u8)))⟩

/-- euphroe/euphroeref05.Tail -/
def k186 : Fun := ⟨1, 30, [0, 2, 3, 4, 5, 6, 17], [(.tmp 2)],
  (.seq (.region [
    ⟨(some 2), (.mv (.c .nils)), none, []⟩] false)
  (.seq (.region [
    ⟨(some 7), (.mv (.s 0)), none, []⟩,
    ⟨(some 8), (.call (.c (.fn 177 [])) [(.s 7)]), none, [0]⟩,
    ⟨(some 3), (.mv (.s 8)), none, [1, 1, 0, 1]⟩] false)
  (.seq (.region [
    ⟨(some 9), (.mv (.s 3)), none, []⟩,
    ⟨(some 10), (.len false (.s 9)), none, [0]⟩,
    ⟨(some 11), (.bin .sub (.s 10) (.c (.int .i64 8))), none, [1]⟩,
    ⟨(some 4), (.mv (.s 11)), none, [2, 0, 1, 2]⟩] false)
  (.seq (.region [
    ⟨(some 12), (.mv (.s 3)), none, []⟩,
    ⟨(some 13), (.mv (.s 4)), none, []⟩,
    ⟨(some 14), (.sls 1 (.s 12) none (some (.s 13)) none), none, [0, 1]⟩,
    ⟨(some 15), (.app 1 1 (.c .nils) (.s 14)), none, [2]⟩,
    ⟨(some 5), (.mv (.s 15)), none, [3, 3, 0, 1, 2, 3]⟩] false)
  (.seq (.seq (.region [
    ⟨(some 6), (.mv (.c (.int .i64 7))), none, []⟩] false)
  (.block 0
   (.loop ⟨0, [], false, [3, 4, 5, 6], []⟩
    (.seq (.seq (.region [
      ⟨(some 16), (.mv (.s 6)), none, []⟩,
      ⟨(some 17), (.bin .geq (.s 16) (.c (.int .i64 0))), none, [0]⟩] false)
    (.cond (.s 17)
     .skip
     (.pre ⟨0, [], false, [5], []⟩ (.exit 0))))
    (.seq (.block 1
     (.region [
       ⟨(some 20), (.mv (.s 5)), none, []⟩,
       ⟨(some 21), (.mv (.s 3)), none, []⟩,
       ⟨(some 22), (.mv (.s 4)), none, []⟩,
       ⟨(some 23), (.mv (.s 6)), none, []⟩,
       ⟨(some 24), (.bin .add (.s 22) (.s 23)), none, [2, 3]⟩,
       ⟨(some 25), (.iad 1 (.s 21) (.s 24)), none, [1, 4]⟩,
       ⟨(some 26), (.ldc (.s 25)), none, [5]⟩,
       ⟨(some 27), (.bsl 1 1 (.ints .u8 [0]) [(0, 1, (.s 26))]), none, [6]⟩,
       ⟨(some 28), (.app 1 1 (.s 20) (.s 27)), none, [0, 7]⟩,
       ⟨(some 5), (.mv (.s 28)), none, [8, 8, 0, 1, 2, 3, 4, 5, 6, 7, 8]⟩] false))
    (.region [
      ⟨(some 18), (.mv (.s 6)), none, []⟩,
      ⟨(some 19), (.bin .sub (.s 18) (.c (.int .i64 1))), none, [0]⟩,
      ⟨(some 6), (.mv (.s 19)), none, [1, 0, 1]⟩] false))))))
  (.seq (.region [
    ⟨(some 29), (.mv (.s 5)), none, []⟩,
    ⟨(some 2), (.mv (.s 29)), none, [0, 0]⟩] false)
  .ret)))))), false, (some [(Sh.int .u64)]), (some (Sh.sl (Sh.int .u8)))⟩

/-- euphroe/sha1.First -/
def k187 : Fun := ⟨0, 2, [0], [(.cell 0 5 true (some .u32))],
  (.seq (.region [
    ⟨(some 0), (.new (.ints .u32 [0, 0, 0, 0, 0])), none, []⟩] false)
  (.seq (.region [
    ⟨(some 1), (.build (.ints .u32 [0, 0, 0, 0, 0]) [(0, 1, (.c (.int .u32 1732584193))), (1, 1, (.c (.int .u32 4023233417))), (2, 1, (.c (.int .u32 2562383102))), (3, 1, (.c (.int .u32 271733878))), (4, 1, (.c (.int .u32 3285377520)))]), none, []⟩,
    ⟨none, (.stc 5 (.s 0) (.s 1)), none, [0, 0]⟩] false)
  .ret)), false, (some []), (some (Sh.ar .u32))⟩

/-- euphroe/euphroeref05.First -/
def k188 : Fun := ⟨0, 12, [0, 1], [(.cell 0 5 true (some .u32))],
  (.seq (.region [
    ⟨(some 0), (.new (.ints .u32 [0, 0, 0, 0, 0])), none, []⟩] false)
  (.seq (.region [
    ⟨(some 2), (.call (.c (.fn 179 [])) []), none, []⟩,
    ⟨(some 1), (.new (.ints .u32 [0, 0, 0, 0])), none, []⟩,
    ⟨none, (.stc 4 (.s 1) (.s 2)), none, [1, 0, 0, 0, 1]⟩] false)
  (.seq (.region [
    ⟨(some 3), (.iaa 4 1 (.s 1) (.c (.int .i64 0))), none, []⟩,
    ⟨(some 4), (.ldc (.s 3)), none, [0]⟩,
    ⟨(some 5), (.iaa 4 1 (.s 1) (.c (.int .i64 1))), none, []⟩,
    ⟨(some 6), (.ldc (.s 5)), none, [2]⟩,
    ⟨(some 7), (.iaa 4 1 (.s 1) (.c (.int .i64 2))), none, []⟩,
    ⟨(some 8), (.ldc (.s 7)), none, [4]⟩,
    ⟨(some 9), (.iaa 4 1 (.s 1) (.c (.int .i64 3))), none, []⟩,
    ⟨(some 10), (.ldc (.s 9)), none, [6]⟩,
    ⟨(some 11), (.build (.ints .u32 [0, 0, 0, 0, 0]) [(0, 1, (.s 4)), (1, 1, (.s 6)), (2, 1, (.s 8)), (3, 1, (.s 10)), (4, 1, (.c (.int .u32 3285377520)))]), none, [1, 3, 5, 7]⟩,
    ⟨none, (.stc 5 (.s 0) (.s 11)), none, [8, 0, 1, 2, 3, 4, 5, 6, 7, 8]⟩] false)
  .ret))), false, (some []), (some (Sh.ar .u32))⟩

/-- euphroe/euphroelaw05.alive -/
def k189 : Fun := ⟨0, 31, [0, 1], [(.tmp 0)],
  (.seq (.region [
    ⟨(some 0), (.mv (.c (.bool false))), none, []⟩] false)
  (.seq (.region [
    ⟨(some 2), (.call (.c (.fn 190 [])) [(.c .nils)]), none, []⟩,
    ⟨(some 1), (.new (.ints .u8 [0, 0, 0, 0, 0, 0, 0, 0, 0, 0, 0, 0, 0, 0, 0, 0, 0, 0, 0, 0])), none, []⟩,
    ⟨none, (.stc 20 (.s 1) (.s 2)), none, [1, 0, 0, 0, 1]⟩] false)
  (.seq (.region [
    ⟨(some 3), (.iaa 20 1 (.s 1) (.c (.int .i64 0))), none, []⟩,
    ⟨(some 4), (.ldc (.s 3)), none, [0]⟩,
    ⟨(some 5), (.bin .eql (.s 4) (.c (.int .u8 218))), none, [1]⟩,
    ⟨(some 6), (.mv (.s 5)), none, [2]⟩,
    ⟨(some 7), (.iaa 20 1 (.s 1) (.c (.int .i64 1))), (some (6, true)), [3]⟩,
    ⟨(some 8), (.ldc (.s 7)), (some (6, true)), [4, 3]⟩,
    ⟨(some 9), (.bin .eql (.s 8) (.c (.int .u8 57))), (some (6, true)), [5, 3]⟩,
    ⟨(some 10), (.pick (.s 6) (.s 9) (.c (.bool false))), none, [3, 6]⟩,
    ⟨(some 11), (.mv (.s 10)), none, [7, 3]⟩,
    ⟨(some 12), (.iaa 20 1 (.s 1) (.c (.int .i64 2))), (some (11, true)), [8]⟩,
    ⟨(some 13), (.ldc (.s 12)), (some (11, true)), [9, 8]⟩,
    ⟨(some 14), (.bin .eql (.s 13) (.c (.int .u8 163))), (some (11, true)), [10, 8]⟩,
    ⟨(some 15), (.pick (.s 11) (.s 14) (.c (.bool false))), none, [8, 11]⟩,
    ⟨(some 16), (.mv (.s 15)), none, [12, 8]⟩,
    ⟨(some 17), (.iaa 20 1 (.s 1) (.c (.int .i64 3))), (some (16, true)), [13]⟩,
    ⟨(some 18), (.ldc (.s 17)), (some (16, true)), [14, 13]⟩,
    ⟨(some 19), (.bin .eql (.s 18) (.c (.int .u8 238))), (some (16, true)), [15, 13]⟩,
    ⟨(some 20), (.pick (.s 16) (.s 19) (.c (.bool false))), none, [13, 16]⟩,
    ⟨(some 21), (.mv (.s 20)), none, [17, 13]⟩,
    ⟨(some 22), (.call (.c (.fn 185 [])) [(.c (.int .u64 0))]), (some (21, true)), [18, 18]⟩,
    ⟨(some 23), (.len false (.s 22)), (some (21, true)), [19, 18]⟩,
    ⟨(some 24), (.bin .eql (.s 23) (.c (.int .i64 64))), (some (21, true)), [20, 18]⟩,
    ⟨(some 25), (.pick (.s 21) (.s 24) (.c (.bool false))), none, [18, 21]⟩,
    ⟨(some 26), (.mv (.s 25)), none, [22, 19]⟩,
    ⟨(some 27), (.call (.c (.fn 187 [])) []), (some (26, true)), [23, 23]⟩,
    ⟨(some 28), (.build (.ints .u32 [0, 0, 0, 0, 0]) []), (some (26, true)), [23]⟩,
    ⟨(some 29), (.eqa 5 true (.s 27) (.s 28)), (some (26, true)), [24, 25, 23]⟩,
    ⟨(some 30), (.pick (.s 26) (.s 29) (.c (.bool false))), none, [23, 26]⟩,
    ⟨(some 0), (.mv (.s 30)), none, [27, 24, 0, 1, 2, 3, 4, 5, 6, 7, 8, 9, 10, 11, 12, 13, 14, 15, 16, 17, 18, 19, 20, 21, 22, 23, 24, 25, 26, 27]⟩] false)
  .ret))), false, (some []), (some Sh.bool)⟩

/-- euphroe/sha1.Of -/
def k190 : Fun := ⟨1, 47, [0, 2, 3, 4, 5, 7, 8, 21, 30, 31, 32], [(.cell 2 20 true (some .u8))],
  (.seq (.region [
    ⟨(some 2), (.new (.ints .u8 [0, 0, 0, 0, 0, 0, 0, 0, 0, 0, 0, 0, 0, 0, 0, 0, 0, 0, 0, 0])), none, []⟩] false)
  (.seq (.region [
    ⟨(some 10), (.mv (.s 0)), none, []⟩,
    ⟨(some 11), (.call (.c (.fn 46 [])) [(.s 10)]), none, [0]⟩,
    ⟨(some 3), (.mv (.s 11)), none, [1, 1, 0, 1]⟩] false)
  (.seq (.region [
    ⟨(some 12), (.mv (.s 3)), none, []⟩,
    ⟨(some 13), (.mv (.s 3)), none, []⟩,
    ⟨(some 14), (.len false (.s 13)), none, [1]⟩,
    ⟨(some 15), (.cvi .u64 (.s 14)), none, [2]⟩,
    ⟨(some 16), (.call (.c (.fn 185 [])) [(.s 15)]), none, [3]⟩,
    ⟨(some 17), (.app 1 1 (.s 12) (.s 16)), none, [0, 4, 4]⟩,
    ⟨(some 3), (.mv (.s 17)), none, [5, 5, 0, 1, 2, 3, 4, 5]⟩] false)
  (.seq (.region [
    ⟨(some 18), (.call (.c (.fn 187 [])) []), none, []⟩,
    ⟨(some 4), (.new (.ints .u32 [0, 0, 0, 0, 0])), none, []⟩,
    ⟨none, (.stc 5 (.s 4) (.s 18)), none, [1, 0, 0, 0, 1]⟩] false)
  (.seq (.block 0
   (.loop ⟨0, [(3, (Sh.sl (Sh.int .u8)))], false, [2, 3, 4], []⟩
    (.seq (.seq (.region [
      ⟨(some 19), (.mv (.s 3)), none, []⟩,
      ⟨(some 20), (.len false (.s 19)), none, [0]⟩,
      ⟨(some 21), (.bin .gtr (.s 20) (.c (.int .i64 0))), none, [1]⟩] false)
    (.cond (.s 21)
     .skip
     (.pre ⟨0, [], false, [2, 4], []⟩ (.exit 0))))
    (.seq (.block 1
     (.region [
       ⟨(some 24), (.lda 5 (some .u32) (.s 4)), none, []⟩,
       ⟨(some 25), (.mv (.s 3)), none, []⟩,
       ⟨(some 26), (.sls 1 (.s 25) none (some (.c (.int .i64 64))) none), none, [1]⟩,
       ⟨(some 27), (.s2a 64 (.s 26)), none, [2]⟩,
       ⟨(some 28), (.lda 64 (some .u8) (.s 27)), none, [3]⟩,
       ⟨(some 29), (.call (.c (.fn 183 [])) [(.s 24), (.s 28)]), none, [0, 4]⟩,
       ⟨none, (.stc 5 (.s 4) (.s 29)), none, [5, 5, 0, 1, 2, 3, 4, 5]⟩] true))
    (.region [
      ⟨(some 22), (.mv (.s 3)), none, []⟩,
      ⟨(some 23), (.sls 1 (.s 22) (some (.c (.int .i64 64))) none none), none, [0]⟩,
      ⟨(some 3), (.mv (.s 23)), none, [1, 0, 1]⟩] false)))))
  (.seq (.region [
    ⟨(some 5), (.mv (.c .nils)), none, []⟩] false)
  (.seq (.seq (.region [
    ⟨(some 30), (.lda 5 (some .u32) (.s 4)), none, []⟩,
    ⟨(some 31), (.mv (.c (.int .i64 0))), none, []⟩] false)
  (.block 2
   (.loop ⟨1, [], false, [2, 5, 30, 31], [(5, (.ints .u8 []), 1)]⟩
    (.seq (.region [
      ⟨(some 32), (.bin .lss (.s 31) (.c (.int .i64 5))), none, []⟩] false)
    (.seq (.cond (.s 32)
     .skip
     (.pre ⟨0, [], false, [2, 5], []⟩ (.exit 2)))
    (.seq (.block 3
     (.seq (.region [
       ⟨(some 33), (.ixa 5 1 false (some .u32) (.s 30) (.s 31)), none, []⟩,
       ⟨(some 7), (.mv (.s 33)), none, [0, 0]⟩] false)
     (.seq (.region [
       ⟨(some 35), (.mv (.s 7)), none, []⟩,
       ⟨(some 36), (.cvi .u64 (.s 35)), none, [0]⟩,
       ⟨(some 37), (.call (.c (.fn 19 [])) [(.s 36), (.c (.int .i64 4)), (.c (.bool false))]), none, [1]⟩,
       ⟨(some 34), (.mv (.s 37)), none, [2]⟩,
       ⟨(some 38), (.ext (.s 34) 0), none, [3]⟩,
       ⟨(some 39), (.ext (.s 34) 1), none, [3]⟩,
       ⟨(some 8), (.mv (.s 38)), none, [4, 2, 0, 1, 2, 3, 4]⟩,
       ⟨(some 9), (.mv (.s 39)), none, [5, 6, 0, 1, 2, 3, 4, 5, 6]⟩] false)
     (.region [
       ⟨(some 40), (.mv (.s 5)), none, []⟩,
       ⟨(some 41), (.mv (.s 8)), none, []⟩,
       ⟨(some 42), (.app 1 1 (.s 40) (.s 41)), none, [0, 1]⟩,
       ⟨(some 5), (.mv (.s 42)), none, [2, 2, 0, 1, 2]⟩] false))))
    (.region [
      ⟨(some 43), (.bin .add (.s 31) (.c (.int .i64 1))), none, []⟩,
      ⟨(some 31), (.mv (.s 43)), none, [0]⟩] false)))))))
  (.seq (.region [
    ⟨(some 44), (.mv (.s 5)), none, []⟩,
    ⟨(some 45), (.s2a 20 (.s 44)), none, [0]⟩,
    ⟨(some 46), (.lda 20 (some .u8) (.s 45)), none, [1]⟩,
    ⟨none, (.stc 20 (.s 2) (.s 46)), none, [2, 0, 1, 2]⟩] false)
  .ret)))))))), false, (some [(Sh.sl (Sh.sl (Sh.int .u8)))]), (some (Sh.ar .u8))⟩

/-- euphroe/euphroeref05.Of -/
def k191 : Fun := ⟨1, 56, [0, 2, 3, 4, 5, 6, 7, 8, 9, 21, 25, 40], [(.cell 2 20 true (some .u8))],
  (.seq (.region [
    ⟨(some 2), (.new (.ints .u8 [0, 0, 0, 0, 0, 0, 0, 0, 0, 0, 0, 0, 0, 0, 0, 0, 0, 0, 0, 0])), none, []⟩] false)
  (.seq (.region [
    ⟨(some 10), (.mv (.s 0)), none, []⟩,
    ⟨(some 11), (.app 1 1 (.c .nils) (.s 10)), none, [0]⟩,
    ⟨(some 12), (.mv (.s 0)), none, []⟩,
    ⟨(some 13), (.len false (.s 12)), none, [2]⟩,
    ⟨(some 14), (.cvi .u64 (.s 13)), none, [3]⟩,
    ⟨(some 15), (.call (.c (.fn 186 [])) [(.s 14)]), none, [4, 1]⟩,
    ⟨(some 16), (.app 1 1 (.s 11) (.s 15)), none, [1, 5, 5]⟩,
    ⟨(some 3), (.mv (.s 16)), none, [6, 6, 0, 1, 2, 3, 4, 5, 6]⟩] false)
  (.seq (.region [
    ⟨(some 17), (.call (.c (.fn 188 [])) []), none, []⟩,
    ⟨(some 4), (.new (.ints .u32 [0, 0, 0, 0, 0])), none, []⟩,
    ⟨none, (.stc 5 (.s 4) (.s 17)), none, [1, 0, 0, 0, 1]⟩] false)
  (.seq (.seq (.region [
    ⟨(some 5), (.mv (.c (.int .i64 0))), none, []⟩] false)
  (.block 0
   (.loop ⟨0, [], false, [2, 3, 4, 5], []⟩
    (.seq (.seq (.region [
      ⟨(some 18), (.mv (.s 5)), none, []⟩,
      ⟨(some 19), (.mv (.s 3)), none, []⟩,
      ⟨(some 20), (.len false (.s 19)), none, [1]⟩,
      ⟨(some 21), (.bin .lss (.s 18) (.s 20)), none, [0, 2]⟩] false)
    (.cond (.s 21)
     .skip
     (.pre ⟨0, [], false, [2, 4], []⟩ (.exit 0))))
    (.seq (.block 1
     (.seq (.region [
       ⟨(some 6), (.new (.ints .u8 [0, 0, 0, 0, 0, 0, 0, 0, 0, 0, 0, 0, 0, 0, 0, 0, 0, 0, 0, 0, 0, 0, 0, 0, 0, 0, 0, 0, 0, 0, 0, 0, 0, 0, 0, 0, 0, 0, 0, 0, 0, 0, 0, 0, 0, 0, 0, 0, 0, 0, 0, 0, 0, 0, 0, 0, 0, 0, 0, 0, 0, 0, 0, 0])), none, []⟩] false)
     (.seq (.seq (.region [
       ⟨(some 7), (.mv (.c (.int .i64 0))), none, []⟩] false)
     (.block 2
      (.loop ⟨1, [], false, [2, 3, 4, 5, 6, 7], []⟩
       (.seq (.seq (.region [
         ⟨(some 24), (.mv (.s 7)), none, []⟩,
         ⟨(some 25), (.bin .lss (.s 24) (.c (.int .i64 64))), none, [0]⟩] false)
       (.cond (.s 25)
        .skip
        (.pre ⟨0, [], false, [2, 3, 4, 5, 6], []⟩ (.exit 2))))
       (.seq (.block 3
        (.region [
          ⟨(some 28), (.mv (.s 7)), none, []⟩,
          ⟨(some 29), (.mv (.s 3)), none, []⟩,
          ⟨(some 30), (.mv (.s 5)), none, []⟩,
          ⟨(some 31), (.mv (.s 7)), none, []⟩,
          ⟨(some 32), (.bin .add (.s 30) (.s 31)), none, [2, 3]⟩,
          ⟨(some 33), (.iad 1 (.s 29) (.s 32)), none, [1, 4]⟩,
          ⟨(some 34), (.ldc (.s 33)), none, [5]⟩,
          ⟨(some 35), (.iaa 64 1 (.s 6) (.s 28)), none, [0, 0, 1, 2, 3, 4, 5, 6]⟩,
          ⟨none, (.stc 1 (.s 35) (.s 34)), none, [7, 6, 0, 1, 2, 3, 4, 5, 6]⟩] false))
       (.region [
         ⟨(some 26), (.mv (.s 7)), none, []⟩,
         ⟨(some 27), (.bin .add (.s 26) (.c (.int .i64 1))), none, [0]⟩,
         ⟨(some 7), (.mv (.s 27)), none, [1, 0, 1]⟩] false))))))
     (.region [
       ⟨(some 36), (.lda 5 (some .u32) (.s 4)), none, []⟩,
       ⟨(some 37), (.lda 64 (some .u8) (.s 6)), none, []⟩,
       ⟨(some 38), (.call (.c (.fn 184 [])) [(.s 36), (.s 37)]), none, [0, 1]⟩,
       ⟨none, (.stc 5 (.s 4) (.s 38)), none, [2, 2, 0, 1, 2]⟩] false))))
    (.region [
      ⟨(some 22), (.mv (.s 5)), none, []⟩,
      ⟨(some 23), (.bin .add (.s 22) (.c (.int .i64 64))), none, [0]⟩,
      ⟨(some 5), (.mv (.s 23)), none, [1, 0, 1]⟩] false))))))
  (.seq (.region [
    ⟨(some 8), (.new (.ints .u8 [0, 0, 0, 0, 0, 0, 0, 0, 0, 0, 0, 0, 0, 0, 0, 0, 0, 0, 0, 0])), none, []⟩] false)
  (.seq (.seq (.region [
    ⟨(some 9), (.mv (.c (.int .i64 0))), none, []⟩] false)
  (.block 4
   (.loop ⟨2, [], false, [2, 4, 8, 9], []⟩
    (.seq (.seq (.region [
      ⟨(some 39), (.mv (.s 9)), none, []⟩,
      ⟨(some 40), (.bin .lss (.s 39) (.c (.int .i64 20))), none, [0]⟩] false)
    (.cond (.s 40)
     .skip
     (.pre ⟨0, [], false, [2, 8], []⟩ (.exit 4))))
    (.seq (.block 5
     (.region [
       ⟨(some 43), (.mv (.s 9)), none, []⟩,
       ⟨(some 44), (.mv (.s 9)), none, []⟩,
       ⟨(some 45), (.bin .quo (.s 44) (.c (.int .i64 4))), none, [1]⟩,
       ⟨(some 46), (.iaa 5 1 (.s 4) (.s 45)), none, [2]⟩,
       ⟨(some 47), (.ldc (.s 46)), none, [3]⟩,
       ⟨(some 48), (.mv (.s 9)), none, []⟩,
       ⟨(some 49), (.bin .rem (.s 48) (.c (.int .i64 4))), none, [5]⟩,
       ⟨(some 50), (.bin .mul (.c (.int .i64 8)) (.s 49)), none, [6]⟩,
       ⟨(some 51), (.bin .sub (.c (.int .i64 24)) (.s 50)), none, [7]⟩,
       ⟨(some 52), (.bin .shr (.s 47) (.s 51)), none, [4, 8]⟩,
       ⟨(some 53), (.cvi .u8 (.s 52)), none, [9]⟩,
       ⟨(some 54), (.iaa 20 1 (.s 8) (.s 43)), none, [0, 0, 1, 2, 3, 4, 5, 6, 7, 8, 9, 10]⟩,
       ⟨none, (.stc 1 (.s 54) (.s 53)), none, [11, 10, 0, 1, 2, 3, 4, 5, 6, 7, 8, 9, 10]⟩] false))
    (.region [
      ⟨(some 41), (.mv (.s 9)), none, []⟩,
      ⟨(some 42), (.bin .add (.s 41) (.c (.int .i64 1))), none, [0]⟩,
      ⟨(some 9), (.mv (.s 42)), none, [1, 0, 1]⟩] false))))))
  (.seq (.region [
    ⟨(some 55), (.lda 20 (some .u8) (.s 8)), none, []⟩,
    ⟨none, (.stc 20 (.s 2) (.s 55)), none, [0, 0]⟩] false)
  .ret))))))), false, (some [(Sh.sl (Sh.int .u8))]), (some (Sh.ar .u8))⟩

/-- euphroe/md4.words -/
def k192 : Fun := ⟨1, 26, [0, 1, 2, 3, 4, 5, 7, 8], [(.cell 2 16 true (some .u32))],
  (.seq (.region [
    ⟨(some 1), (.box (.s 0)), none, []⟩,
    ⟨(some 2), (.new (.ints .u32 [0, 0, 0, 0, 0, 0, 0, 0, 0, 0, 0, 0, 0, 0, 0, 0])), none, []⟩] false)
  (.seq (.region [
    ⟨(some 3), (.new (.ints .u32 [0, 0, 0, 0, 0, 0, 0, 0, 0, 0, 0, 0, 0, 0, 0, 0])), none, []⟩] false)
  (.seq (.seq (.region [
    ⟨(some 7), (.mv (.c (.int .i64 0))), none, []⟩] false)
  (.block 0
   (.loop ⟨0, [], false, [1, 2, 3, 7], []⟩
    (.seq (.region [
      ⟨(some 8), (.bin .lss (.s 7) (.c (.int .i64 16))), none, []⟩] false)
    (.seq (.cond (.s 8)
     .skip
     (.pre ⟨0, [], false, [2, 3], []⟩ (.exit 0)))
    (.seq (.block 1
     (.seq (.region [
       ⟨(some 9), (.mv (.s 7)), none, []⟩,
       ⟨(some 4), (.mv (.s 9)), none, [0, 0]⟩] false)
     (.seq (.region [
       ⟨(some 11), (.mv (.s 4)), none, []⟩,
       ⟨(some 12), (.bin .mul (.c (.int .i64 4)) (.s 11)), none, [0]⟩,
       ⟨(some 13), (.mv (.s 4)), none, []⟩,
       ⟨(some 14), (.bin .mul (.c (.int .i64 4)) (.s 13)), none, [2]⟩,
       ⟨(some 15), (.bin .add (.s 14) (.c (.int .i64 4))), none, [3]⟩,
       ⟨(some 16), (.sla 64 1 (.s 1) (some (.s 12)) (some (.s 15)) none), none, [1, 4]⟩,
       ⟨(some 17), (.call (.c (.fn 21 [])) [(.s 16), (.c (.bool true))]), none, [5]⟩,
       ⟨(some 10), (.mv (.s 17)), none, [6]⟩,
       ⟨(some 18), (.ext (.s 10) 0), none, [7]⟩,
       ⟨(some 19), (.ext (.s 10) 1), none, [7]⟩,
       ⟨(some 5), (.mv (.s 18)), none, [8, 6, 0, 1, 2, 3, 4, 5, 6, 7, 8]⟩,
       ⟨(some 6), (.mv (.s 19)), none, [9, 10, 0, 1, 2, 3, 4, 5, 6, 7, 8, 9, 10]⟩] false)
     (.region [
       ⟨(some 20), (.mv (.s 4)), none, []⟩,
       ⟨(some 21), (.mv (.s 5)), none, []⟩,
       ⟨(some 22), (.cvi .u32 (.s 21)), none, [1]⟩,
       ⟨(some 23), (.iaa 16 1 (.s 3) (.s 20)), none, [0, 0, 1, 2]⟩,
       ⟨none, (.stc 1 (.s 23) (.s 22)), none, [3, 2, 0, 1, 2]⟩] false))))
    (.region [
      ⟨(some 24), (.bin .add (.s 7) (.c (.int .i64 1))), none, []⟩,
      ⟨(some 7), (.mv (.s 24)), none, [0]⟩] false)))))))
  (.seq (.region [
    ⟨(some 25), (.lda 16 (some .u32) (.s 3)), none, []⟩,
    ⟨none, (.stc 16 (.s 2) (.s 25)), none, [0, 0]⟩] false)
  .ret)))), false, (some [(Sh.ar .u8)]), (some (Sh.ar .u32))⟩

/-- euphroe/md4.plans -/
def k193 : Fun := ⟨0, 27, [0, 1, 3], [(.cell 0 63 true none)],
  (.seq (.region [
    ⟨(some 0), (.new (.vals [(.int .u32 0), (.int .i64 0), (.int .i64 0), (.int .i64 0), (.int .i64 0), (.int .i64 0), (.int .i64 0), (.int .i64 0), (.int .i64 0), (.int .i64 0), (.int .i64 0), (.int .i64 0), (.int .i64 0), (.int .i64 0), (.int .i64 0), (.int .i64 0), (.int .i64 0), (.int .i64 0), (.int .i64 0), (.int .i64 0), (.int .i64 0), (.int .u32 0), (.int .i64 0), (.int .i64 0), (.int .i64 0), (.int .i64 0), (.int .i64 0), (.int .i64 0), (.int .i64 0), (.int .i64 0), (.int .i64 0), (.int .i64 0), (.int .i64 0), (.int .i64 0), (.int .i64 0), (.int .i64 0), (.int .i64 0), (.int .i64 0), (.int .i64 0), (.int .i64 0), (.int .i64 0), (.int .i64 0), (.int .u32 0), (.int .i64 0), (.int .i64 0), (.int .i64 0), (.int .i64 0), (.int .i64 0), (.int .i64 0), (.int .i64 0), (.int .i64 0), (.int .i64 0), (.int .i64 0), (.int .i64 0), (.int .i64 0), (.int .i64 0), (.int .i64 0), (.int .i64 0), (.int .i64 0), (.int .i64 0), (.int .i64 0), (.int .i64 0), (.int .i64 0)])), none, []⟩] false)
  (.seq (.region [
    ⟨(some 6), (.call (.c (.fn 75 [])) [(.c (.int .i64 2)), (.c (.int .i64 2)), (.c (.int .i64 30))]), none, []⟩,
    ⟨(some 5), (.mv (.s 6)), none, [0]⟩,
    ⟨(some 7), (.ext (.s 5) 0), none, [1]⟩,
    ⟨(some 8), (.ext (.s 5) 1), none, [1]⟩,
    ⟨(some 1), (.mv (.s 7)), none, [2, 0, 0, 1, 2]⟩,
    ⟨(some 2), (.mv (.s 8)), none, [3, 4, 0, 1, 2, 3, 4]⟩] false)
  (.seq (.region [
    ⟨(some 10), (.call (.c (.fn 75 [])) [(.c (.int .i64 3)), (.c (.int .i64 2)), (.c (.int .i64 30))]), none, []⟩,
    ⟨(some 9), (.mv (.s 10)), none, [0]⟩,
    ⟨(some 11), (.ext (.s 9) 0), none, [1]⟩,
    ⟨(some 12), (.ext (.s 9) 1), none, [1]⟩,
    ⟨(some 3), (.mv (.s 11)), none, [2, 0, 0, 1, 2]⟩,
    ⟨(some 4), (.mv (.s 12)), none, [3, 4, 0, 1, 2, 3, 4]⟩] false)
  (.seq (.region [
    ⟨(some 13), (.build (.ints .i64 [0, 0, 0, 0]) [(0, 1, (.c (.int .i64 3))), (1, 1, (.c (.int .i64 7))), (2, 1, (.c (.int .i64 11))), (3, 1, (.c (.int .i64 19)))]), none, []⟩,
    ⟨(some 14), (.build (.ints .i64 [0, 0, 0, 0, 0, 0, 0, 0, 0, 0, 0, 0, 0, 0, 0, 0]) [(0, 1, (.c (.int .i64 0))), (1, 1, (.c (.int .i64 1))), (2, 1, (.c (.int .i64 2))), (3, 1, (.c (.int .i64 3))), (4, 1, (.c (.int .i64 4))), (5, 1, (.c (.int .i64 5))), (6, 1, (.c (.int .i64 6))), (7, 1, (.c (.int .i64 7))), (8, 1, (.c (.int .i64 8))), (9, 1, (.c (.int .i64 9))), (10, 1, (.c (.int .i64 10))), (11, 1, (.c (.int .i64 11))), (12, 1, (.c (.int .i64 12))), (13, 1, (.c (.int .i64 13))), (14, 1, (.c (.int .i64 14))), (15, 1, (.c (.int .i64 15)))]), none, []⟩,
    ⟨(some 15), (.build (.vals [(.int .u32 0), (.int .i64 0), (.int .i64 0), (.int .i64 0), (.int .i64 0), (.int .i64 0), (.int .i64 0), (.int .i64 0), (.int .i64 0), (.int .i64 0), (.int .i64 0), (.int .i64 0), (.int .i64 0), (.int .i64 0), (.int .i64 0), (.int .i64 0), (.int .i64 0), (.int .i64 0), (.int .i64 0), (.int .i64 0), (.int .i64 0)]) [(0, 1, (.c (.int .u32 0))), (1, 4, (.s 13)), (5, 16, (.s 14))]), none, [0, 1]⟩,
    ⟨(some 16), (.mv (.s 1)), none, []⟩,
    ⟨(some 17), (.cvi .u32 (.s 16)), none, [3]⟩,
    ⟨(some 18), (.build (.ints .i64 [0, 0, 0, 0]) [(0, 1, (.c (.int .i64 3))), (1, 1, (.c (.int .i64 5))), (2, 1, (.c (.int .i64 9))), (3, 1, (.c (.int .i64 13)))]), none, []⟩,
    ⟨(some 19), (.build (.ints .i64 [0, 0, 0, 0, 0, 0, 0, 0, 0, 0, 0, 0, 0, 0, 0, 0]) [(0, 1, (.c (.int .i64 0))), (1, 1, (.c (.int .i64 4))), (2, 1, (.c (.int .i64 8))), (3, 1, (.c (.int .i64 12))), (4, 1, (.c (.int .i64 1))), (5, 1, (.c (.int .i64 5))), (6, 1, (.c (.int .i64 9))), (7, 1, (.c (.int .i64 13))), (8, 1, (.c (.int .i64 2))), (9, 1, (.c (.int .i64 6))), (10, 1, (.c (.int .i64 10))), (11, 1, (.c (.int .i64 14))), (12, 1, (.c (.int .i64 3))), (13, 1, (.c (.int .i64 7))), (14, 1, (.c (.int .i64 11))), (15, 1, (.c (.int .i64 15)))]), none, []⟩,
    ⟨(some 20), (.build (.vals [(.int .u32 0), (.int .i64 0), (.int .i64 0), (.int .i64 0), (.int .i64 0), (.int .i64 0), (.int .i64 0), (.int .i64 0), (.int .i64 0), (.int .i64 0), (.int .i64 0), (.int .i64 0), (.int .i64 0), (.int .i64 0), (.int .i64 0), (.int .i64 0), (.int .i64 0), (.int .i64 0), (.int .i64 0), (.int .i64 0), (.int .i64 0)]) [(0, 1, (.s 17)), (1, 4, (.s 18)), (5, 16, (.s 19))]), none, [4, 5, 6]⟩,
    ⟨(some 21), (.mv (.s 3)), none, []⟩,
    ⟨(some 22), (.cvi .u32 (.s 21)), none, [8]⟩,
    ⟨(some 23), (.build (.ints .i64 [0, 0, 0, 0]) [(0, 1, (.c (.int .i64 3))), (1, 1, (.c (.int .i64 9))), (2, 1, (.c (.int .i64 11))), (3, 1, (.c (.int .i64 15)))]), none, []⟩,
    ⟨(some 24), (.build (.ints .i64 [0, 0, 0, 0, 0, 0, 0, 0, 0, 0, 0, 0, 0, 0, 0, 0]) [(0, 1, (.c (.int .i64 0))), (1, 1, (.c (.int .i64 8))), (2, 1, (.c (.int .i64 4))), (3, 1, (.c (.int .i64 12))), (4, 1, (.c (.int .i64 2))), (5, 1, (.c (.int .i64 10))), (6, 1, (.c (.int .i64 6))), (7, 1, (.c (.int .i64 14))), (8, 1, (.c (.int .i64 1))), (9, 1, (.c (.int .i64 9))), (10, 1, (.c (.int .i64 5))), (11, 1, (.c (.int .i64 13))), (12, 1, (.c (.int .i64 3))), (13, 1, (.c (.int .i64 11))), (14, 1, (.c (.int .i64 7))), (15, 1, (.c (.int .i64 15)))]), none, []⟩,
    ⟨(some 25), (.build (.vals [(.int .u32 0), (.int .i64 0), (.int .i64 0), (.int .i64 0), (.int .i64 0), (.int .i64 0), (.int .i64 0), (.int .i64 0), (.int .i64 0), (.int .i64 0), (.int .i64 0), (.int .i64 0), (.int .i64 0), (.int .i64 0), (.int .i64 0), (.int .i64 0), (.int .i64 0), (.int .i64 0), (.int .i64 0), (.int .i64 0), (.int .i64 0)]) [(0, 1, (.s 22)), (1, 4, (.s 23)), (5, 16, (.s 24))]), none, [9, 10, 11]⟩,
    ⟨(some 26), (.build (.vals [(.int .u32 0), (.int .i64 0), (.int .i64 0), (.int .i64 0), (.int .i64 0), (.int .i64 0), (.int .i64 0), (.int .i64 0), (.int .i64 0), (.int .i64 0), (.int .i64 0), (.int .i64 0), (.int .i64 0), (.int .i64 0), (.int .i64 0), (.int .i64 0), (.int .i64 0), (.int .i64 0), (.int .i64 0), (.int .i64 0), (.int .i64 0), (.int .u32 0), (.int .i64 0), (.int .i64 0), (.int .i64 0), (.int .i64 0), (.int .i64 0), (.int .i64 0), (.int .i64 0), (.int .i64 0), (.int .i64 0), (.int .i64 0), (.int .i64 0), (.int .i64 0), (.int .i64 0), (.int .i64 0), (.int .i64 0), (.int .i64 0), (.int .i64 0), (.int .i64 0), (.int .i64 0), (.int .i64 0), (.int .u32 0), (.int .i64 0), (.int .i64 0), (.int .i64 0), (.int .i64 0), (.int .i64 0), (.int .i64 0), (.int .i64 0), (.int .i64 0), (.int .i64 0), (.int .i64 0), (.int .i64 0), (.int .i64 0), (.int .i64 0), (.int .i64 0), (.int .i64 0), (.int .i64 0), (.int .i64 0), (.int .i64 0), (.int .i64 0), (.int .i64 0)]) [(0, 21, (.s 15)), (21, 21, (.s 20)), (42, 21, (.s 25))]), none, [2, 7, 12]⟩,
    ⟨none, (.stc 63 (.s 0) (.s 26)), none, [13, 0, 1, 2, 3, 4, 5, 6, 7, 8, 9, 10, 11, 12, 13]⟩] false)
  .ret)))), false, none, none⟩

/-- euphroe/md4.mix -/
def k194 : Fun := ⟨4, 35, [0, 1, 2, 3, 8, 9, 10, 19], [(.tmp 8)],
  (.seq (.region [
    ⟨(some 8), (.mv (.c (.int .u32 0))), none, []⟩] false)
  (.seq (.seq (.region [
    ⟨(some 9), (.mv (.s 0)), none, []⟩] false)
  (.block 0
   (.seq (.region [
     ⟨(some 11), (.bin .eql (.s 9) (.c (.int .i64 0))), none, []⟩,
     ⟨(some 10), (.mv (.s 11)), none, [0]⟩] false)
   (.cond (.s 10)
    (.seq (.region [
      ⟨(some 12), (.mv (.s 3)), none, []⟩,
      ⟨(some 13), (.mv (.s 1)), none, []⟩,
      ⟨(some 14), (.mv (.s 2)), none, []⟩,
      ⟨(some 15), (.mv (.s 3)), none, []⟩,
      ⟨(some 16), (.bin .xor (.s 14) (.s 15)), none, [2, 3]⟩,
      ⟨(some 17), (.bin .and (.s 13) (.s 16)), none, [1, 4]⟩,
      ⟨(some 18), (.bin .xor (.s 12) (.s 17)), none, [0, 5]⟩,
      ⟨(some 8), (.mv (.s 18)), none, [6, 0, 1, 2, 3, 4, 5, 6]⟩] false)
    .ret)
    (.seq (.region [
      ⟨(some 20), (.bin .eql (.s 9) (.c (.int .i64 1))), none, []⟩,
      ⟨(some 19), (.mv (.s 20)), none, [0]⟩] false)
    (.cond (.s 19)
     (.seq (.region [
       ⟨(some 21), (.mv (.s 1)), none, []⟩,
       ⟨(some 22), (.mv (.s 2)), none, []⟩,
       ⟨(some 23), (.bin .and (.s 21) (.s 22)), none, [0, 1]⟩,
       ⟨(some 24), (.mv (.s 3)), none, []⟩,
       ⟨(some 25), (.mv (.s 1)), none, []⟩,
       ⟨(some 26), (.mv (.s 2)), none, []⟩,
       ⟨(some 27), (.bin .or (.s 25) (.s 26)), none, [4, 5]⟩,
       ⟨(some 28), (.bin .and (.s 24) (.s 27)), none, [3, 6]⟩,
       ⟨(some 29), (.bin .or (.s 23) (.s 28)), none, [2, 7]⟩,
       ⟨(some 8), (.mv (.s 29)), none, [8, 0, 1, 2, 3, 4, 5, 6, 7, 8]⟩] false)
     .ret)
     .skip))))))
  (.seq (.region [
    ⟨(some 30), (.mv (.s 1)), none, []⟩,
    ⟨(some 31), (.mv (.s 2)), none, []⟩,
    ⟨(some 32), (.bin .xor (.s 30) (.s 31)), none, [0, 1]⟩,
    ⟨(some 33), (.mv (.s 3)), none, []⟩,
    ⟨(some 34), (.bin .xor (.s 32) (.s 33)), none, [2, 3]⟩,
    ⟨(some 8), (.mv (.s 34)), none, [4, 0, 1, 2, 3, 4]⟩] false)
  .ret))), false, (some [(Sh.int .i64), (Sh.int .u32), (Sh.int .u32), (Sh.int .u32)]), (some (Sh.int .u32))⟩

/-- math/bits.RotateLeft32 -/
def k195 : Fun := ⟨2, 17, [0, 1, 4, 5], [(.tmp 4)],
  (.seq (.region [
    ⟨(some 4), (.mv (.c (.int .u32 0))), none, []⟩] false)
  (.seq (.region [
    ⟨(some 6), (.mv (.s 1)), none, []⟩,
    ⟨(some 7), (.cvi .u64 (.s 6)), none, [0]⟩,
    ⟨(some 8), (.bin .and (.s 7) (.c (.int .u64 31))), none, [1]⟩,
    ⟨(some 5), (.mv (.s 8)), none, [2, 0, 1, 2]⟩] false)
  (.seq (.region [
    ⟨(some 9), (.mv (.s 0)), none, []⟩,
    ⟨(some 10), (.mv (.s 5)), none, []⟩,
    ⟨(some 11), (.bin .shl (.s 9) (.s 10)), none, [0, 1]⟩,
    ⟨(some 12), (.mv (.s 0)), none, []⟩,
    ⟨(some 13), (.mv (.s 5)), none, []⟩,
    ⟨(some 14), (.bin .sub (.c (.int .u64 32)) (.s 13)), none, [4]⟩,
    ⟨(some 15), (.bin .shr (.s 12) (.s 14)), none, [3, 5]⟩,
    ⟨(some 16), (.bin .or (.s 11) (.s 15)), none, [2, 6]⟩,
    ⟨(some 4), (.mv (.s 16)), none, [7, 0, 1, 2, 3, 4, 5, 6, 7]⟩] false)
  .ret))), false, (some [(Sh.int .u32), (Sh.int .i64)]), (some (Sh.int .u32))⟩

/-- euphroe/euphroeref04.place -/
def k196 : Fun := ⟨1, 22, [0, 2, 4, 5, 8], [(.tmp 2)],
  (.seq (.region [
    ⟨(some 2), (.mv (.c (.int .i64 0))), none, []⟩] false)
  (.seq (.seq (.region [
    ⟨(some 3), (.mv (.s 0)), none, []⟩,
    ⟨(some 4), (.bin .quo (.s 3) (.c (.int .i64 16))), none, [0]⟩] false)
  (.block 0
   (.seq (.region [
     ⟨(some 6), (.bin .eql (.s 4) (.c (.int .i64 0))), none, []⟩,
     ⟨(some 5), (.mv (.s 6)), none, [0]⟩] false)
   (.cond (.s 5)
    (.seq (.region [
      ⟨(some 7), (.mv (.s 0)), none, []⟩,
      ⟨(some 2), (.mv (.s 7)), none, [0, 0]⟩] false)
    .ret)
    (.seq (.region [
      ⟨(some 9), (.bin .eql (.s 4) (.c (.int .i64 1))), none, []⟩,
      ⟨(some 8), (.mv (.s 9)), none, [0]⟩] false)
    (.cond (.s 8)
     (.seq (.region [
       ⟨(some 10), (.mv (.s 0)), none, []⟩,
       ⟨(some 11), (.bin .rem (.s 10) (.c (.int .i64 4))), none, [0]⟩,
       ⟨(some 12), (.bin .mul (.s 11) (.c (.int .i64 4))), none, [1]⟩,
       ⟨(some 13), (.mv (.s 0)), none, []⟩,
       ⟨(some 14), (.bin .quo (.s 13) (.c (.int .i64 4))), none, [3]⟩,
       ⟨(some 15), (.bin .rem (.s 14) (.c (.int .i64 4))), none, [4]⟩,
       ⟨(some 16), (.bin .add (.s 12) (.s 15)), none, [2, 5]⟩,
       ⟨(some 2), (.mv (.s 16)), none, [6, 0, 1, 2, 3, 4, 5, 6]⟩] false)
     .ret)
     .skip))))))
  (.seq (.region [
    ⟨(some 17), (.bsl 16 1 (.ints .i64 [0, 0, 0, 0, 0, 0, 0, 0, 0, 0, 0, 0, 0, 0, 0, 0]) [(0, 1, (.c (.int .i64 0))), (1, 1, (.c (.int .i64 8))), (2, 1, (.c (.int .i64 4))), (3, 1, (.c (.int .i64 12))), (4, 1, (.c (.int .i64 2))), (5, 1, (.c (.int .i64 10))), (6, 1, (.c (.int .i64 6))), (7, 1, (.c (.int .i64 14))), (8, 1, (.c (.int .i64 1))), (9, 1, (.c (.int .i64 9))), (10, 1, (.c (.int .i64 5))), (11, 1, (.c (.int .i64 13))), (12, 1, (.c (.int .i64 3))), (13, 1, (.c (.int .i64 11))), (14, 1, (.c (.int .i64 7))), (15, 1, (.c (.int .i64 15)))]), none, []⟩,
    ⟨(some 18), (.mv (.s 0)), none, []⟩,
    ⟨(some 19), (.bin .sub (.s 18) (.c (.int .i64 32))), none, [1]⟩,
    ⟨(some 20), (.iad 1 (.s 17) (.s 19)), none, [0, 2]⟩,
    ⟨(some 21), (.ldc (.s 20)), none, [3]⟩,
    ⟨(some 2), (.mv (.s 21)), none, [4, 0, 1, 2, 3, 4]⟩] false)
  .ret))), false, (some [(Sh.int .i64)]), (some (Sh.int .i64))⟩

/-- euphroe/euphroeref04.turn -/
def k197 : Fun := ⟨2, 13, [0, 1, 4], [(.tmp 4)],
  (.seq (.region [
    ⟨(some 4), (.mv (.c (.int .u32 0))), none, []⟩] false)
  (.seq (.region [
    ⟨(some 5), (.mv (.s 0)), none, []⟩,
    ⟨(some 6), (.mv (.s 1)), none, []⟩,
    ⟨(some 7), (.bin .shl (.s 5) (.s 6)), none, [0, 1]⟩,
    ⟨(some 8), (.mv (.s 0)), none, []⟩,
    ⟨(some 9), (.mv (.s 1)), none, []⟩,
    ⟨(some 10), (.bin .sub (.c (.int .i64 32)) (.s 9)), none, [4]⟩,
    ⟨(some 11), (.bin .shr (.s 8) (.s 10)), none, [3, 5]⟩,
    ⟨(some 12), (.bin .or (.s 7) (.s 11)), none, [2, 6]⟩,
    ⟨(some 4), (.mv (.s 12)), none, [7, 0, 1, 2, 3, 4, 5, 6, 7]⟩] true)
  .ret)), false, (some [(Sh.int .u32), (Sh.int .i64)]), (some (Sh.int .u32))⟩

/-- euphroe/euphroeref04.step -/
def k198 : Fun := ⟨4, 33, [0, 1, 2, 3, 8, 9, 10, 20], [(.tmp 8)],
  (.seq (.region [
    ⟨(some 8), (.mv (.c (.int .u32 0))), none, []⟩] false)
  (.seq (.seq (.region [
    ⟨(some 9), (.mv (.s 0)), none, []⟩] false)
  (.block 0
   (.seq (.region [
     ⟨(some 11), (.bin .eql (.s 9) (.c (.int .i64 0))), none, []⟩,
     ⟨(some 10), (.mv (.s 11)), none, [0]⟩] false)
   (.cond (.s 10)
    (.seq (.region [
      ⟨(some 12), (.mv (.s 1)), none, []⟩,
      ⟨(some 13), (.mv (.s 2)), none, []⟩,
      ⟨(some 14), (.bin .and (.s 12) (.s 13)), none, [0, 1]⟩,
      ⟨(some 15), (.mv (.s 1)), none, []⟩,
      ⟨(some 16), (.bin .sub (.c (.int .u32 4294967295)) (.s 15)), none, [3]⟩,
      ⟨(some 17), (.mv (.s 3)), none, []⟩,
      ⟨(some 18), (.bin .and (.s 16) (.s 17)), none, [4, 5]⟩,
      ⟨(some 19), (.bin .or (.s 14) (.s 18)), none, [2, 6]⟩,
      ⟨(some 8), (.mv (.s 19)), none, [7, 0, 1, 2, 3, 4, 5, 6, 7]⟩] false)
    .ret)
    (.seq (.region [
      ⟨(some 21), (.bin .eql (.s 9) (.c (.int .i64 1))), none, []⟩,
      ⟨(some 20), (.mv (.s 21)), none, [0]⟩] false)
    (.cond (.s 20)
     (.seq (.region [
       ⟨(some 22), (.mv (.s 1)), none, []⟩,
       ⟨(some 23), (.mv (.s 2)), none, []⟩,
       ⟨(some 24), (.mv (.s 3)), none, []⟩,
       ⟨(some 25), (.call (.c (.fn 204 [])) [(.s 22), (.s 23), (.s 24)]), none, [0, 1, 2]⟩,
       ⟨(some 26), (.bin .add (.s 25) (.c (.int .u32 1518500249))), none, [3]⟩,
       ⟨(some 8), (.mv (.s 26)), none, [4, 3, 0, 1, 2, 3, 4]⟩] false)
     .ret)
     .skip))))))
  (.seq (.region [
    ⟨(some 27), (.mv (.s 1)), none, []⟩,
    ⟨(some 28), (.mv (.s 2)), none, []⟩,
    ⟨(some 29), (.bin .xor (.s 27) (.s 28)), none, [0, 1]⟩,
    ⟨(some 30), (.mv (.s 3)), none, []⟩,
    ⟨(some 31), (.bin .xor (.s 29) (.s 30)), none, [2, 3]⟩,
    ⟨(some 32), (.bin .add (.s 31) (.c (.int .u32 1859775393))), none, [4]⟩,
    ⟨(some 8), (.mv (.s 32)), none, [5, 0, 1, 2, 3, 4, 5]⟩] false)
  .ret))), false, (some [(Sh.int .i64), (Sh.int .u32), (Sh.int .u32), (Sh.int .u32)]), (some (Sh.int .u32))⟩

/-- euphroe/sha1.spread -/
def k199 : Fun := ⟨1, 50, [0, 1, 2, 3, 4, 5, 7, 8, 11], [(.cell 2 80 true (some .u32))],
  (.seq (.region [
    ⟨(some 1), (.box (.s 0)), none, []⟩,
    ⟨(some 2), (.new (.ints .u32 [0, 0, 0, 0, 0, 0, 0, 0, 0, 0, 0, 0, 0, 0, 0, 0, 0, 0, 0, 0, 0, 0, 0, 0, 0, 0, 0, 0, 0, 0, 0, 0, 0, 0, 0, 0, 0, 0, 0, 0, 0, 0, 0, 0, 0, 0, 0, 0, 0, 0, 0, 0, 0, 0, 0, 0, 0, 0, 0, 0, 0, 0, 0, 0, 0, 0, 0, 0, 0, 0, 0, 0, 0, 0, 0, 0, 0, 0, 0, 0])), none, []⟩] false)
  (.seq (.region [
    ⟨(some 3), (.new (.ints .u32 [0, 0, 0, 0, 0, 0, 0, 0, 0, 0, 0, 0, 0, 0, 0, 0, 0, 0, 0, 0, 0, 0, 0, 0, 0, 0, 0, 0, 0, 0, 0, 0, 0, 0, 0, 0, 0, 0, 0, 0, 0, 0, 0, 0, 0, 0, 0, 0, 0, 0, 0, 0, 0, 0, 0, 0, 0, 0, 0, 0, 0, 0, 0, 0, 0, 0, 0, 0, 0, 0, 0, 0, 0, 0, 0, 0, 0, 0, 0, 0])), none, []⟩] false)
  (.seq (.seq (.region [
    ⟨(some 7), (.mv (.c (.int .i64 0))), none, []⟩] false)
  (.block 0
   (.loop ⟨0, [], false, [1, 2, 3, 7], []⟩
    (.seq (.region [
      ⟨(some 8), (.bin .lss (.s 7) (.c (.int .i64 80))), none, []⟩] false)
    (.seq (.cond (.s 8)
     .skip
     (.pre ⟨0, [], false, [2, 3], []⟩ (.exit 0)))
    (.seq (.block 1
     (.seq (.region [
       ⟨(some 9), (.mv (.s 7)), none, []⟩,
       ⟨(some 4), (.mv (.s 9)), none, [0, 0]⟩] false)
     (.seq (.seq (.region [
       ⟨(some 10), (.mv (.s 4)), none, []⟩,
       ⟨(some 11), (.bin .lss (.s 10) (.c (.int .i64 16))), none, [0]⟩] false)
     (.cond (.s 11)
      (.seq (.region [
        ⟨(some 13), (.mv (.s 4)), none, []⟩,
        ⟨(some 14), (.bin .mul (.c (.int .i64 4)) (.s 13)), none, [0]⟩,
        ⟨(some 15), (.mv (.s 4)), none, []⟩,
        ⟨(some 16), (.bin .mul (.c (.int .i64 4)) (.s 15)), none, [2]⟩,
        ⟨(some 17), (.bin .add (.s 16) (.c (.int .i64 4))), none, [3]⟩,
        ⟨(some 18), (.sla 64 1 (.s 1) (some (.s 14)) (some (.s 17)) none), none, [1, 4]⟩,
        ⟨(some 19), (.call (.c (.fn 21 [])) [(.s 18), (.c (.bool false))]), none, [5]⟩,
        ⟨(some 12), (.mv (.s 19)), none, [6]⟩,
        ⟨(some 20), (.ext (.s 12) 0), none, [7]⟩,
        ⟨(some 21), (.ext (.s 12) 1), none, [7]⟩,
        ⟨(some 5), (.mv (.s 20)), none, [8, 6, 0, 1, 2, 3, 4, 5, 6, 7, 8]⟩,
        ⟨(some 6), (.mv (.s 21)), none, [9, 10, 0, 1, 2, 3, 4, 5, 6, 7, 8, 9, 10]⟩] false)
      (.seq (.region [
        ⟨(some 22), (.mv (.s 4)), none, []⟩,
        ⟨(some 23), (.mv (.s 5)), none, []⟩,
        ⟨(some 24), (.cvi .u32 (.s 23)), none, [1]⟩,
        ⟨(some 25), (.iaa 80 1 (.s 3) (.s 22)), none, [0, 0, 1, 2]⟩,
        ⟨none, (.stc 1 (.s 25) (.s 24)), none, [3, 2, 0, 1, 2]⟩] false)
      (.pre ⟨0, [], false, [1, 2, 3, 7], []⟩ (.exit 1))))
      .skip))
     (.region [
       ⟨(some 26), (.mv (.s 4)), none, []⟩,
       ⟨(some 27), (.mv (.s 4)), none, []⟩,
       ⟨(some 28), (.bin .sub (.s 27) (.c (.int .i64 3))), none, [1]⟩,
       ⟨(some 29), (.iaa 80 1 (.s 3) (.s 28)), none, [2]⟩,
       ⟨(some 30), (.ldc (.s 29)), none, [3]⟩,
       ⟨(some 31), (.mv (.s 4)), none, []⟩,
       ⟨(some 32), (.bin .sub (.s 31) (.c (.int .i64 8))), none, [5]⟩,
       ⟨(some 33), (.iaa 80 1 (.s 3) (.s 32)), none, [6]⟩,
       ⟨(some 34), (.ldc (.s 33)), none, [7]⟩,
       ⟨(some 35), (.bin .xor (.s 30) (.s 34)), none, [4, 8]⟩,
       ⟨(some 36), (.mv (.s 4)), none, []⟩,
       ⟨(some 37), (.bin .sub (.s 36) (.c (.int .i64 14))), none, [10]⟩,
       ⟨(some 38), (.iaa 80 1 (.s 3) (.s 37)), none, [11]⟩,
       ⟨(some 39), (.ldc (.s 38)), none, [12]⟩,
       ⟨(some 40), (.bin .xor (.s 35) (.s 39)), none, [9, 13]⟩,
       ⟨(some 41), (.mv (.s 4)), none, []⟩,
       ⟨(some 42), (.bin .sub (.s 41) (.c (.int .i64 16))), none, [15]⟩,
       ⟨(some 43), (.iaa 80 1 (.s 3) (.s 42)), none, [16]⟩,
       ⟨(some 44), (.ldc (.s 43)), none, [17]⟩,
       ⟨(some 45), (.bin .xor (.s 40) (.s 44)), none, [14, 18]⟩,
       ⟨(some 46), (.call (.c (.fn 195 [])) [(.s 45), (.c (.int .i64 1))]), none, [19]⟩,
       ⟨(some 47), (.iaa 80 1 (.s 3) (.s 26)), none, [0, 0, 1, 2, 3, 4, 5, 6, 7, 8, 9, 10, 11, 12, 13, 14, 15, 16, 17, 18, 19, 20]⟩,
       ⟨none, (.stc 1 (.s 47) (.s 46)), none, [21, 20, 20, 0, 1, 2, 3, 4, 5, 6, 7, 8, 9, 10, 11, 12, 13, 14, 15, 16, 17, 18, 19, 20]⟩] true))))
    (.region [
      ⟨(some 48), (.bin .add (.s 7) (.c (.int .i64 1))), none, []⟩,
      ⟨(some 7), (.mv (.s 48)), none, [0]⟩] false)))))))
  (.seq (.region [
    ⟨(some 49), (.lda 80 (some .u32) (.s 3)), none, []⟩,
    ⟨none, (.stc 80 (.s 2) (.s 49)), none, [0, 0]⟩] false)
  .ret)))), false, (some [(Sh.ar .u8)]), (some (Sh.ar .u32))⟩

/-- euphroe/sha1.constants -/
def k200 : Fun := ⟨0, 22, [0, 1, 2, 3, 4, 6, 7, 8], [(.cell 0 4 true (some .u32))],
  (.seq (.region [
    ⟨(some 0), (.new (.ints .u32 [0, 0, 0, 0])), none, []⟩] false)
  (.seq (.region [
    ⟨(some 1), (.new (.ints .u32 [0, 0, 0, 0])), none, []⟩] false)
  (.seq (.seq (.region [
    ⟨(some 6), (.build (.ints .i64 [0, 0, 0, 0]) [(0, 1, (.c (.int .i64 2))), (1, 1, (.c (.int .i64 3))), (2, 1, (.c (.int .i64 5))), (3, 1, (.c (.int .i64 10)))]), none, []⟩,
    ⟨(some 7), (.mv (.c (.int .i64 0))), none, []⟩] false)
  (.block 0
   (.loop ⟨0, [], false, [0, 1, 6, 7], []⟩
    (.seq (.region [
      ⟨(some 8), (.bin .lss (.s 7) (.c (.int .i64 4))), none, []⟩] false)
    (.seq (.cond (.s 8)
     .skip
     (.pre ⟨0, [], false, [0, 1], []⟩ (.exit 0)))
    (.seq (.block 1
     (.seq (.region [
       ⟨(some 9), (.mv (.s 7)), none, []⟩,
       ⟨(some 10), (.ixa 4 1 false (some .i64) (.s 6) (.s 7)), none, []⟩,
       ⟨(some 2), (.mv (.s 9)), none, [0, 0, 1]⟩,
       ⟨(some 3), (.mv (.s 10)), none, [1, 2, 0, 1, 2]⟩] false)
     (.seq (.region [
       ⟨(some 12), (.mv (.s 3)), none, []⟩,
       ⟨(some 13), (.call (.c (.fn 75 [])) [(.s 12), (.c (.int .i64 2)), (.c (.int .i64 30))]), none, [0]⟩,
       ⟨(some 11), (.mv (.s 13)), none, [1]⟩,
       ⟨(some 14), (.ext (.s 11) 0), none, [2]⟩,
       ⟨(some 15), (.ext (.s 11) 1), none, [2]⟩,
       ⟨(some 4), (.mv (.s 14)), none, [3, 1, 0, 1, 2, 3]⟩,
       ⟨(some 5), (.mv (.s 15)), none, [4, 5, 0, 1, 2, 3, 4, 5]⟩] false)
     (.region [
       ⟨(some 16), (.mv (.s 2)), none, []⟩,
       ⟨(some 17), (.mv (.s 4)), none, []⟩,
       ⟨(some 18), (.cvi .u32 (.s 17)), none, [1]⟩,
       ⟨(some 19), (.iaa 4 1 (.s 1) (.s 16)), none, [0, 0, 1, 2]⟩,
       ⟨none, (.stc 1 (.s 19) (.s 18)), none, [3, 2, 0, 1, 2]⟩] false))))
    (.region [
      ⟨(some 20), (.bin .add (.s 7) (.c (.int .i64 1))), none, []⟩,
      ⟨(some 7), (.mv (.s 20)), none, [0]⟩] false)))))))
  (.seq (.region [
    ⟨(some 21), (.lda 4 (some .u32) (.s 1)), none, []⟩,
    ⟨none, (.stc 4 (.s 0) (.s 21)), none, [0, 0]⟩] false)
  .ret)))), false, (some []), (some (Sh.ar .u32))⟩

/-- euphroe/sha1.choose -/
def k201 : Fun := ⟨4, 35, [0, 1, 2, 3, 8, 9, 10, 19], [(.tmp 8)],
  (.seq (.region [
    ⟨(some 8), (.mv (.c (.int .u32 0))), none, []⟩] false)
  (.seq (.seq (.region [
    ⟨(some 9), (.mv (.s 0)), none, []⟩] false)
  (.block 0
   (.seq (.region [
     ⟨(some 11), (.bin .eql (.s 9) (.c (.int .i64 0))), none, []⟩,
     ⟨(some 10), (.mv (.s 11)), none, [0]⟩] false)
   (.cond (.s 10)
    (.seq (.region [
      ⟨(some 12), (.mv (.s 3)), none, []⟩,
      ⟨(some 13), (.mv (.s 1)), none, []⟩,
      ⟨(some 14), (.mv (.s 2)), none, []⟩,
      ⟨(some 15), (.mv (.s 3)), none, []⟩,
      ⟨(some 16), (.bin .xor (.s 14) (.s 15)), none, [2, 3]⟩,
      ⟨(some 17), (.bin .and (.s 13) (.s 16)), none, [1, 4]⟩,
      ⟨(some 18), (.bin .xor (.s 12) (.s 17)), none, [0, 5]⟩,
      ⟨(some 8), (.mv (.s 18)), none, [6, 0, 1, 2, 3, 4, 5, 6]⟩] false)
    .ret)
    (.seq (.region [
      ⟨(some 20), (.bin .eql (.s 9) (.c (.int .i64 2))), none, []⟩,
      ⟨(some 19), (.mv (.s 20)), none, [0]⟩] false)
    (.cond (.s 19)
     (.seq (.region [
       ⟨(some 21), (.mv (.s 1)), none, []⟩,
       ⟨(some 22), (.mv (.s 2)), none, []⟩,
       ⟨(some 23), (.bin .and (.s 21) (.s 22)), none, [0, 1]⟩,
       ⟨(some 24), (.mv (.s 3)), none, []⟩,
       ⟨(some 25), (.mv (.s 1)), none, []⟩,
       ⟨(some 26), (.mv (.s 2)), none, []⟩,
       ⟨(some 27), (.bin .or (.s 25) (.s 26)), none, [4, 5]⟩,
       ⟨(some 28), (.bin .and (.s 24) (.s 27)), none, [3, 6]⟩,
       ⟨(some 29), (.bin .or (.s 23) (.s 28)), none, [2, 7]⟩,
       ⟨(some 8), (.mv (.s 29)), none, [8, 0, 1, 2, 3, 4, 5, 6, 7, 8]⟩] false)
     .ret)
     .skip))))))
  (.seq (.region [
    ⟨(some 30), (.mv (.s 1)), none, []⟩,
    ⟨(some 31), (.mv (.s 2)), none, []⟩,
    ⟨(some 32), (.bin .xor (.s 30) (.s 31)), none, [0, 1]⟩,
    ⟨(some 33), (.mv (.s 3)), none, []⟩,
    ⟨(some 34), (.bin .xor (.s 32) (.s 33)), none, [2, 3]⟩,
    ⟨(some 8), (.mv (.s 34)), none, [4, 0, 1, 2, 3, 4]⟩] false)
  .ret))), false, (some [(Sh.int .i64), (Sh.int .u32), (Sh.int .u32), (Sh.int .u32)]), (some (Sh.int .u32))⟩

/-- euphroe/euphroeref05.turn -/
def k202 : Fun := ⟨2, 13, [0, 1, 4], [(.tmp 4)],
  (.seq (.region [
    ⟨(some 4), (.mv (.c (.int .u32 0))), none, []⟩] false)
  (.seq (.region [
    ⟨(some 5), (.mv (.s 0)), none, []⟩,
    ⟨(some 6), (.mv (.s 1)), none, []⟩,
    ⟨(some 7), (.bin .shl (.s 5) (.s 6)), none, [0, 1]⟩,
    ⟨(some 8), (.mv (.s 0)), none, []⟩,
    ⟨(some 9), (.mv (.s 1)), none, []⟩,
    ⟨(some 10), (.bin .sub (.c (.int .i64 32)) (.s 9)), none, [4]⟩,
    ⟨(some 11), (.bin .shr (.s 8) (.s 10)), none, [3, 5]⟩,
    ⟨(some 12), (.bin .or (.s 7) (.s 11)), none, [2, 6]⟩,
    ⟨(some 4), (.mv (.s 12)), none, [7, 0, 1, 2, 3, 4, 5, 6, 7]⟩] true)
  .ret)), false, (some [(Sh.int .u32), (Sh.int .i64)]), (some (Sh.int .u32))⟩

/-- euphroe/euphroeref05.mix -/
def k203 : Fun := ⟨4, 50, [0, 1, 2, 3, 8, 10, 11, 22, 30], [(.tmp 8)],
  (.seq (.region [
    ⟨(some 8), (.mv (.c (.int .u32 0))), none, []⟩] false)
  (.seq (.seq (.region [
    ⟨(some 9), (.mv (.s 0)), none, []⟩,
    ⟨(some 10), (.bin .quo (.s 9) (.c (.int .i64 20))), none, [0]⟩] false)
  (.block 0
   (.seq (.region [
     ⟨(some 12), (.bin .eql (.s 10) (.c (.int .i64 0))), none, []⟩,
     ⟨(some 11), (.mv (.s 12)), none, [0]⟩] false)
   (.cond (.s 11)
    (.seq (.region [
      ⟨(some 13), (.mv (.s 1)), none, []⟩,
      ⟨(some 14), (.mv (.s 2)), none, []⟩,
      ⟨(some 15), (.bin .and (.s 13) (.s 14)), none, [0, 1]⟩,
      ⟨(some 16), (.mv (.s 1)), none, []⟩,
      ⟨(some 17), (.bin .sub (.c (.int .u32 4294967295)) (.s 16)), none, [3]⟩,
      ⟨(some 18), (.mv (.s 3)), none, []⟩,
      ⟨(some 19), (.bin .and (.s 17) (.s 18)), none, [4, 5]⟩,
      ⟨(some 20), (.bin .or (.s 15) (.s 19)), none, [2, 6]⟩,
      ⟨(some 21), (.bin .add (.s 20) (.c (.int .u32 1518500249))), none, [7]⟩,
      ⟨(some 8), (.mv (.s 21)), none, [8, 0, 1, 2, 3, 4, 5, 6, 7, 8]⟩] false)
    .ret)
    (.seq (.region [
      ⟨(some 23), (.bin .eql (.s 10) (.c (.int .i64 1))), none, []⟩,
      ⟨(some 22), (.mv (.s 23)), none, [0]⟩] false)
    (.cond (.s 22)
     (.seq (.region [
       ⟨(some 24), (.mv (.s 1)), none, []⟩,
       ⟨(some 25), (.mv (.s 2)), none, []⟩,
       ⟨(some 26), (.bin .xor (.s 24) (.s 25)), none, [0, 1]⟩,
       ⟨(some 27), (.mv (.s 3)), none, []⟩,
       ⟨(some 28), (.bin .xor (.s 26) (.s 27)), none, [2, 3]⟩,
       ⟨(some 29), (.bin .add (.s 28) (.c (.int .u32 1859775393))), none, [4]⟩,
       ⟨(some 8), (.mv (.s 29)), none, [5, 0, 1, 2, 3, 4, 5]⟩] false)
     .ret)
     (.seq (.region [
       ⟨(some 31), (.bin .eql (.s 10) (.c (.int .i64 2))), none, []⟩,
       ⟨(some 30), (.mv (.s 31)), none, [0]⟩] false)
     (.cond (.s 30)
      (.seq (.region [
        ⟨(some 32), (.mv (.s 1)), none, []⟩,
        ⟨(some 33), (.mv (.s 2)), none, []⟩,
        ⟨(some 34), (.bin .and (.s 32) (.s 33)), none, [0, 1]⟩,
        ⟨(some 35), (.mv (.s 1)), none, []⟩,
        ⟨(some 36), (.mv (.s 3)), none, []⟩,
        ⟨(some 37), (.bin .and (.s 35) (.s 36)), none, [3, 4]⟩,
        ⟨(some 38), (.bin .or (.s 34) (.s 37)), none, [2, 5]⟩,
        ⟨(some 39), (.mv (.s 2)), none, []⟩,
        ⟨(some 40), (.mv (.s 3)), none, []⟩,
        ⟨(some 41), (.bin .and (.s 39) (.s 40)), none, [7, 8]⟩,
        ⟨(some 42), (.bin .or (.s 38) (.s 41)), none, [6, 9]⟩,
        ⟨(some 43), (.bin .add (.s 42) (.c (.int .u32 2400959708))), none, [10]⟩,
        ⟨(some 8), (.mv (.s 43)), none, [11, 0, 1, 2, 3, 4, 5, 6, 7, 8, 9, 10, 11]⟩] false)
      .ret)
      .skip))))))))
  (.seq (.region [
    ⟨(some 44), (.mv (.s 1)), none, []⟩,
    ⟨(some 45), (.mv (.s 2)), none, []⟩,
    ⟨(some 46), (.bin .xor (.s 44) (.s 45)), none, [0, 1]⟩,
    ⟨(some 47), (.mv (.s 3)), none, []⟩,
    ⟨(some 48), (.bin .xor (.s 46) (.s 47)), none, [2, 3]⟩,
    ⟨(some 49), (.bin .add (.s 48) (.c (.int .u32 3395469782))), none, [4]⟩,
    ⟨(some 8), (.mv (.s 49)), none, [5, 0, 1, 2, 3, 4, 5]⟩] false)
  .ret))), false, (some [(Sh.int .i64), (Sh.int .u32), (Sh.int .u32), (Sh.int .u32)]), (some (Sh.int .u32))⟩

/-- euphroe/euphroeref04.two -/
def k204 : Fun := ⟨3, 18, [0, 1, 2, 6], [(.tmp 6)],
  (.seq (.region [
    ⟨(some 6), (.mv (.c (.int .u32 0))), none, []⟩] false)
  (.seq (.region [
    ⟨(some 7), (.mv (.s 0)), none, []⟩,
    ⟨(some 8), (.mv (.s 1)), none, []⟩,
    ⟨(some 9), (.bin .and (.s 7) (.s 8)), none, [0, 1]⟩,
    ⟨(some 10), (.mv (.s 0)), none, []⟩,
    ⟨(some 11), (.mv (.s 2)), none, []⟩,
    ⟨(some 12), (.bin .and (.s 10) (.s 11)), none, [3, 4]⟩,
    ⟨(some 13), (.bin .or (.s 9) (.s 12)), none, [2, 5]⟩,
    ⟨(some 14), (.mv (.s 1)), none, []⟩,
    ⟨(some 15), (.mv (.s 2)), none, []⟩,
    ⟨(some 16), (.bin .and (.s 14) (.s 15)), none, [7, 8]⟩,
    ⟨(some 17), (.bin .or (.s 13) (.s 16)), none, [6, 9]⟩,
    ⟨(some 6), (.mv (.s 17)), none, [10, 0, 1, 2, 3, 4, 5, 6, 7, 8, 9, 10]⟩] false)
  .ret)), false, (some [(Sh.int .u32), (Sh.int .u32), (Sh.int .u32)]), (some (Sh.int .u32))⟩

def FT : Nat → Option Fun
  | 1 => some k1
  | 19 => some k19
  | 21 => some k21
  | 23 => some k23
  | 46 => some k46
  | 48 => some k48
  | 64 => some k64
  | 75 => some k75
  | 100 => some k100
  | 101 => some k101
  | 114 => some k114
  | 115 => some k115
  | 116 => some k116
  | 120 => some k120
  | 168 => some k168
  | 169 => some k169
  | 170 => some k170
  | 171 => some k171
  | 172 => some k172
  | 173 => some k173
  | 174 => some k174
  | 175 => some k175
  | 176 => some k176
  | 177 => some k177
  | 178 => some k178
  | 179 => some k179
  | 180 => some k180
  | 181 => some k181
  | 182 => some k182
  | 183 => some k183
  | 184 => some k184
  | 185 => some k185
  | 186 => some k186
  | 187 => some k187
  | 188 => some k188
  | 189 => some k189
  | 190 => some k190
  | 191 => some k191
  | 192 => some k192
  | 193 => some k193
  | 194 => some k194
  | 195 => some k195
  | 196 => some k196
  | 197 => some k197
  | 198 => some k198
  | 199 => some k199
  | 200 => some k200
  | 201 => some k201
  | 202 => some k202
  | 203 => some k203
  | 204 => some k204
  | _ => none
end Go.Proofs.YtjgaemdfaknemaaE
